/- Formulas of the program's functions, printed by a program of the prover's own (dec.py); each is tied to its code by the kernel. -/
import Derived.Test.YtbccjjbfiodbeaaVc
import Derived.Test.YtbccjjbfiodbeaaChecked
set_option linter.unusedVariables false
namespace Go.Proofs.Ytbccjjbfiodbeaa
open Go Go.Vc

abbrev F.main_main : Nat := 0
abbrev F.gosem_cut : Nat := 1
abbrev F.gosem_cut_init : Nat := 2
abbrev F.balerlaw18_UnbwtBack : Nat := 3
abbrev F.balerlaw18_UnbwtLong : Nat := 4
abbrev F.balerlaw18_UnbwtOf : Nat := 5
abbrev F.balerlaw18_UnbwtCuts : Nat := 6
abbrev F.balerlaw18_UnbwtBytes : Nat := 7
abbrev F.balerlaw18_UnbwtNil : Nat := 8
abbrev F.balerlaw18_banana : Nat := 9
abbrev F.balerref17_Of : Nat := 10
abbrev F.unbwt_Of : Nat := 11
abbrev F.unbwt_New : Nat := 12
abbrev F.balerplain_Ints : Nat := 13
abbrev F.unbwt_Links : Nat := 14
abbrev F.balerref18_Links : Nat := 15
abbrev F.balerref18_Of : Nat := 16
abbrev F.unbwt_Inverter_Step : Nat := 17
abbrev F.unbwt_Inverter_Take : Nat := 18
abbrev F.unbwt_Inverter_Waiting : Nat := 19
abbrev F.unbwt_Inverter_Steps : Nat := 20
abbrev F.unbwt_Inverter_Done : Nat := 21
abbrev F.unbwt_Inverter_Held : Nat := 22
abbrev F.balerref17_Ordered : Nat := 23
abbrev F.balerref17_From : Nat := 24
abbrev F.balerref15_Sorted : Nat := 25
abbrev F.unbwt_Inverter_step : Nat := 26
abbrev F.balerref15_Rotation : Nat := 27
abbrev F.balerref15_Ahead : Nat := 28
abbrev F.unbwt_Inverter_begins : Nat := 29
abbrev F.runtime_boundsError_Error : Nat := 30
abbrev F.runtime_boundsError_RuntimeError : Nat := 31
abbrev F.runtime_errorString_Error : Nat := 32
abbrev F.runtime_errorString_RuntimeError : Nat := 33
abbrev F.runtime_plainError_Error : Nat := 34
abbrev F.runtime_plainError_RuntimeError : Nat := 35
abbrev F.runtime_errorAddressString_Error : Nat := 36
abbrev F.runtime_errorAddressString_RuntimeError : Nat := 37
abbrev F.runtime_TypeAssertionError_Error : Nat := 38
abbrev F.runtime_TypeAssertionError_RuntimeError : Nat := 39
abbrev F.runtime_PanicNilError_Error : Nat := 40
abbrev F.runtime_PanicNilError_RuntimeError : Nat := 41
abbrev F.internal_abi_Type_Align : Nat := 42
abbrev F.internal_runtime_maps_unhashableTypeError_Error : Nat := 43
abbrev F.internal_runtime_maps_unhashableTypeError_RuntimeError : Nat := 44
abbrev F.api_Errno_Error : Nat := 45
abbrev F.internal_abi_Kind_String : Nat := 46

/-- baler/balerlaw18.UnbwtBack -/
def Vcf.balerlaw18_UnbwtBack (P : Program) (s_p0 : Value) (w : World) (R : Value → World → Prop) : Prop   :=
 VJoin 1 (fun _ x_1 w1 =>
 Vif x_1 (
 Cl P F.balerlaw18_banana #[] w1 fun x_2 w2 =>
 R x_2 w2) (
 Cl P F.balerref17_Of #[s_p0] w1 fun x_3 w3 =>
 New (zeroP P 24) 24 w3 fun w_4 w4 =>
 StA 2 w_4 x_3 w4 fun w5 =>
 Fo 0 w_4 fun x_5 =>
 Ld x_5 w5 fun x_6 =>
 Fo 1 w_4 fun x_7 =>
 Ld x_7 w5 fun x_8 =>
 Cl P F.unbwt_Of #[x_6, x_8] w5 fun x_9 w6 =>
 Ex x_9 0 fun x_10 =>
 Ex x_9 1 fun x_11 =>
 Bp .eql x_11 (.int .i64 0) fun x_12 =>
 Vif x_12 (
 Bp .eql x_10 s_p0 fun x_13 =>
 Vif x_13 (
 Cl P F.balerlaw18_banana #[] w6 fun x_14 w7 =>
 R x_14 w7) (
 R (.bool false) w6)) (
 R (.bool false) w6)))
 (fun J15 =>
 Lns s_p0 fun x_16 =>
 Bp .gtr x_16 (.int .i64 60) fun x_17 =>
 Vif x_17 (
 KE [s_p0] [s_p0] <| J15 (.bool true) w) (
 Bp .eql s_p0 (.string ⟨#[]⟩) fun x_18 =>
 KE [s_p0] [s_p0] <| J15 x_18 w))
theorem Tie.balerlaw18_UnbwtBack {s_p0 : Value} {w : World} {R : Value → World → Prop} (h : Vcf.balerlaw18_UnbwtBack Try.prog s_p0 w R) : Cl Try.prog F.balerlaw18_UnbwtBack #[s_p0] w R :=
  cl_of_vc (n := 34) (rs := [(.tmp 2)]) (h := (.s .z (.s (.j [12] [0] .z (.i (.s .z .z) .z)) (.s .z (.s .z (.s .z .z)))))) (args := [s_p0]) (by kernel_rfl) Try.func3 rfl (by kernel_rfl) rfl rfl rfl (Eq.mp (by kernel_rfl) h)

/-- baler/balerlaw18.UnbwtLong -/
def Vcf.balerlaw18_UnbwtLong (P : Program) (n_p0 origin_p1 : Value) (w : World) (R : Value → World → Prop) : Prop   :=
 Bp .rem n_p0 (.int .u32 900100) fun x_1 =>
 Ci .i64 x_1 fun x_2 =>
 VJoin 1 (fun _ x_3 w1 =>
 Vif x_3 (
 Cl P F.balerlaw18_banana #[] w1 fun x_4 w2 =>
 R x_4 w2) (
 Ms P 34 x_2 x_2 w1 fun x_5 w3 =>
 Cw P 34 9 x_5 w3 fun x_6 w4 =>
 Cl P F.unbwt_New #[x_6, origin_p1] w4 fun x_7 w5 =>
 Ex x_7 0 fun x_8 =>
 Ex x_7 1 fun x_9 =>
 VJoin 1 (fun _ want_10 w6 =>
 VJoin 1 (fun _ want_11 w7 =>
 VJoin 1 (fun _ want_12 w8 =>
 Bp .eql x_9 want_12 fun x_13 =>
 Vif x_13 (
 Bn false x_8 (.pointer none) fun x_14 =>
 Bp .neq want_12 (.int .i64 0) fun x_15 =>
 Bb false x_14 x_15 fun x_16 =>
 Vif x_16 (
 Cl P F.balerlaw18_banana #[] w8 fun x_17 w9 =>
 R x_17 w9) (
 R (.bool false) w8)) (
 R (.bool false) w8))
 (fun J18 =>
 Bp .eql x_2 (.int .i64 0) fun x_19 =>
 Vif x_19 (
 KE [x_8, x_9] [x_8, x_9] <| J18 (.int .i64 1) w7) (
 KE [x_8, x_9] [x_8, x_9] <| J18 want_11 w7)))
 (fun J20 =>
 Bp .gtr x_2 (.int .i64 900000) fun x_21 =>
 Vif x_21 (
 KE [x_2, x_8, x_9] [x_2, x_8, x_9] <| J20 (.int .i64 2) w6) (
 KE [x_2, x_8, x_9] [x_2, x_8, x_9] <| J20 want_10 w6)))
 (fun J22 =>
 VJoin 1 (fun _ x_23 w10 =>
 Vif x_23 (
 KE [x_2, x_8, x_9] [x_2, x_8, x_9] <| J22 (.int .i64 23) w10) (
 KE [x_2, x_8, x_9] [x_2, x_8, x_9] <| J22 (.int .i64 0) w10))
 (fun J24 =>
 Bp .lss origin_p1 (.int .i64 0) fun x_25 =>
 Vif x_25 (
 KE [x_2, x_8, x_9, (.int .i64 0)] [x_2, x_8, x_9, (.int .i64 0)] <| J24 (.bool true) w5) (
 Bp .geq origin_p1 x_2 fun x_26 =>
 KE [x_2, x_8, x_9, (.int .i64 0)] [x_2, x_8, x_9, (.int .i64 0)] <| J24 x_26 w5)))))
 (fun J27 =>
 Bp .gtr x_2 (.int .i64 3000) fun x_28 =>
 Vif x_28 (
 Bp .leq x_2 (.int .i64 900000) fun x_29 =>
 KE [origin_p1, x_2] [origin_p1, x_2] <| J27 x_29 w) (
 KE [origin_p1, x_2] [origin_p1, x_2] <| J27 (.bool false) w))
theorem Tie.balerlaw18_UnbwtLong {n_p0 origin_p1 : Value} {w : World} {R : Value → World → Prop} (h : Vcf.balerlaw18_UnbwtLong Try.prog n_p0 origin_p1 w R) : Cl Try.prog F.balerlaw18_UnbwtLong #[n_p0, origin_p1] w R :=
  cl_of_vc (n := 51) (rs := [(.tmp 4)]) (h := (.s .z (.s .z (.s (.j [17] [1, 5] .z (.i (.s .z .z) .z)) (.s .z (.s .z (.j [8] [5, 6, 7] (.j [33] [5, 6, 7, 8] .z (.i .z .z)) (.j [8] [5, 6, 7] (.s .z (.i .z .z)) (.j [8] [6, 7] (.s .z (.i .z .z)) (.s .z .z)))))))))) (args := [n_p0, origin_p1]) (by kernel_rfl) Try.func4 rfl (by kernel_rfl) rfl rfl rfl (Eq.mp (by kernel_rfl) h)

/-- baler/balerlaw18.UnbwtOf -/
def Vcf.balerlaw18_UnbwtOf (P : Program) (s_p0 origin_p1 : Value) (w : World) (R : Value → World → Prop) : Prop   :=
 Lns s_p0 fun x_1 =>
 Bp .gtr x_1 (.int .i64 100) fun x_2 =>
 Vif x_2 (
 Cl P F.balerlaw18_banana #[] w fun x_3 w1 =>
 R x_3 w1) (
 Cl P F.unbwt_Of #[s_p0, origin_p1] w fun x_4 w2 =>
 Ex x_4 0 fun x_5 =>
 Ex x_4 1 fun x_6 =>
 Cl P F.unbwt_Links #[s_p0] w2 fun x_7 w3 =>
 Cl P F.balerref18_Links #[s_p0] w3 fun x_8 w4 =>
 Cl P F.balerplain_Ints #[x_7, x_8] w4 fun x_9 w5 =>
 Up .not x_9 fun x_10 =>
 Vif x_10 (
 R (.bool false) w5) (
 Bp .eql s_p0 (.string ⟨#[]⟩) fun x_11 =>
 Vif x_11 (
 Bp .eql x_6 (.int .i64 1) fun x_12 =>
 Vif x_12 (
 Bp .eql x_5 (.string ⟨#[]⟩) fun x_13 =>
 Vif x_13 (
 Cl P F.balerlaw18_banana #[] w5 fun x_14 w6 =>
 R x_14 w6) (
 R (.bool false) w5)) (
 R (.bool false) w5)) (
 VJoin 1 (fun _ x_15 w7 =>
 Vif x_15 (
 Bp .eql x_6 (.int .i64 23) fun x_16 =>
 Vif x_16 (
 Bp .eql x_5 (.string ⟨#[]⟩) fun x_17 =>
 Vif x_17 (
 Cl P F.balerlaw18_banana #[] w7 fun x_18 w8 =>
 R x_18 w8) (
 R (.bool false) w7)) (
 R (.bool false) w7)) (
 Bp .eql x_6 (.int .i64 0) fun x_19 =>
 Vif x_19 (
 Cl P F.balerref18_Of #[s_p0, origin_p1] w7 fun x_20 w9 =>
 Bp .eql x_5 x_20 fun x_21 =>
 Vif x_21 (
 Cl P F.balerlaw18_banana #[] w9 fun x_22 w10 =>
 R x_22 w10) (
 R (.bool false) w9)) (
 R (.bool false) w7)))
 (fun J23 =>
 Bp .lss origin_p1 (.int .i64 0) fun x_24 =>
 Vif x_24 (
 KE [s_p0, origin_p1, x_5, x_6] [s_p0, origin_p1, x_5, x_6] <| J23 (.bool true) w5) (
 Lns s_p0 fun x_25 =>
 Bp .geq origin_p1 x_25 fun x_26 =>
 KE [s_p0, origin_p1, x_5, x_6] [s_p0, origin_p1, x_5, x_6] <| J23 x_26 w5)))))
theorem Tie.balerlaw18_UnbwtOf {s_p0 origin_p1 : Value} {w : World} {R : Value → World → Prop} (h : Vcf.balerlaw18_UnbwtOf Try.prog s_p0 origin_p1 w R) : Cl Try.prog F.balerlaw18_UnbwtOf #[s_p0, origin_p1] w R :=
  cl_of_vc (n := 63) (rs := [(.tmp 4)]) (h := (.s .z (.s (.s .z (.i (.s .z .z) .z)) (.s .z (.s (.s .z (.i (.s .z .z) .z)) (.s (.s .z (.i (.s .z .z) .z)) (.s (.j [41] [0, 1, 5, 6] .z (.i (.s .z .z) .z)) (.s .z .z)))))))) (args := [s_p0, origin_p1]) (by kernel_rfl) Try.func5 rfl (by kernel_rfl) rfl rfl rfl (Eq.mp (by kernel_rfl) h)

/-- baler/balerlaw18.UnbwtCuts -/
def Vcf.balerlaw18_UnbwtCuts (P : Program) (s_p0 origin_p1 acts_p2 : Value) (w : World) (R : Value → World → Prop) : Prop   :=
 VJoin 1 (fun _ x_1 w1 =>
 Vif x_1 (
 Cl P F.balerlaw18_banana #[] w1 fun x_2 w2 =>
 R x_2 w2) (
 Cl P F.unbwt_New #[s_p0, origin_p1] w1 fun x_3 w3 =>
 Ex x_3 0 fun x_4 =>
 Ex x_3 1 fun x_5 =>
 Bp .neq x_5 (.int .i64 0) fun x_6 =>
 Vif x_6 (
 R (.bool false) w3) (
 Lns s_p0 fun x_7 =>
 Bp .mul (.int .i64 3) x_7 fun x_8 =>
 Cl P F.balerref18_Of #[s_p0, origin_p1] w3 fun x_9 w4 =>
 VLoop 3 [(.int .i64 0), (.string ⟨#[]⟩), (.int .i64 0)] w4 fun _ next13 gone_10 taken_11 x_12 w5 =>
 Bp .lss x_12 (.int .i64 130) fun x_14 =>
 Vif x_14 (
 Lnl acts_p2 fun x_15 =>
 VLoop 3 [gone_10, taken_11, (.int .i64 0)] w5 fun _ next19 gone_16 taken_17 x_18 w6 =>
 Bp .lss x_18 x_15 fun x_20 =>
 Vif x_20 (
 Ias 2 acts_p2 x_18 fun x_21 =>
 LdA 2 x_21 w6 fun x_22 =>
 New (zeroP P 43) 43 w6 fun a_23 w7 =>
 StA 2 a_23 x_22 w7 fun w8 =>
 Fo 0 a_23 fun x_24 =>
 Ld x_24 w8 fun x_25 =>
 Bp .sub x_8 gone_16 fun x_26 =>
 Bmin P #[3, 3] 3 #[x_25, x_26] w8 fun x_27 =>
 Bmax P #[3, 3] 3 #[(.int .i64 0), x_27] w8 fun x_28 =>
 Fo 0 a_23 fun x_29 =>
 Ld x_29 w8 fun x_30 =>
 Cl P F.unbwt_Inverter_Step #[x_4, x_30] w8 fun x_31 w9 =>
 Bp .neq x_31 x_28 fun x_32 =>
 Vif x_32 (
 R (.bool false) w9) (
 Bp .add gone_16 x_28 fun x_33 =>
 VJoin 1 (fun _ taken_34 w10 =>
 Lns s_p0 fun x_35 =>
 Bp .mul (.int .i64 2) x_35 fun x_36 =>
 Bp .sub x_33 x_36 fun x_37 =>
 Bmax P #[3, 3] 3 #[(.int .i64 0), x_37] w10 fun x_38 =>
 VJoin 1 (fun _ x_39 w11 =>
 Vif x_39 (
 R (.bool false) w11) (
 VJoin 1 (fun _ x_40 w12 =>
 Vif x_40 (
 R (.bool false) w12) (
 Bp .add x_18 (.int .i64 1) fun x_41 =>
 KE [s_p0, acts_p2, x_4, x_8, x_9, x_12, acts_p2, x_15] [s_p0, acts_p2, x_4, x_8, x_9, x_12, acts_p2, x_15] <| next19 x_33 taken_34 x_41 w12))
 (fun J42 =>
 Cl P F.unbwt_Inverter_Waiting #[x_4] w11 fun x_43 w13 =>
 Lns taken_34 fun x_44 =>
 Bp .sub x_38 x_44 fun x_45 =>
 Bp .neq x_43 x_45 fun x_46 =>
 Vif x_46 (
 KE [s_p0, acts_p2, x_4, x_8, x_9, x_33, taken_34, x_12, acts_p2, x_15, x_18] [s_p0, acts_p2, x_4, x_8, x_9, x_33, taken_34, x_12, acts_p2, x_15, x_18] <| J42 (.bool true) w13) (
 Cl P F.unbwt_Inverter_Steps #[x_4] w13 fun x_47 w14 =>
 Bp .neq x_47 x_33 fun x_48 =>
 Vif x_48 (
 KE [s_p0, acts_p2, x_4, x_8, x_9, x_33, taken_34, x_12, acts_p2, x_15, x_18] [s_p0, acts_p2, x_4, x_8, x_9, x_33, taken_34, x_12, acts_p2, x_15, x_18] <| J42 (.bool true) w14) (
 Cl P F.unbwt_Inverter_Done #[x_4] w14 fun x_49 w15 =>
 Bp .eql x_33 x_8 fun x_50 =>
 Bb true x_49 x_50 fun x_51 =>
 Vif x_51 (
 KE [s_p0, acts_p2, x_4, x_8, x_9, x_33, taken_34, x_12, acts_p2, x_15, x_18] [s_p0, acts_p2, x_4, x_8, x_9, x_33, taken_34, x_12, acts_p2, x_15, x_18] <| J42 (.bool true) w15) (
 Cl P F.unbwt_Inverter_Held #[x_4] w15 fun x_52 w16 =>
 Lns s_p0 fun x_53 =>
 Bp .mul (.int .i64 2) x_53 fun x_54 =>
 Bp .add x_54 x_38 fun x_55 =>
 Lns taken_34 fun x_56 =>
 Bp .sub x_55 x_56 fun x_57 =>
 Bp .neq x_52 x_57 fun x_58 =>
 KE [s_p0, acts_p2, x_4, x_8, x_9, x_33, taken_34, x_12, acts_p2, x_15, x_18] [s_p0, acts_p2, x_4, x_8, x_9, x_33, taken_34, x_12, acts_p2, x_15, x_18] <| J42 x_58 w16))))))
 (fun J59 =>
 Fo 1 a_23 fun x_60 =>
 Ld x_60 w10 fun x_61 =>
 Vif x_61 (
 Sst x_9 none (some x_38) fun x_62 =>
 Bp .neq taken_34 x_62 fun x_63 =>
 KE [s_p0, acts_p2, x_4, x_8, x_9, x_33, taken_34, x_38, x_12, acts_p2, x_15, x_18] [s_p0, acts_p2, x_4, x_8, x_9, x_33, taken_34, x_38, x_12, acts_p2, x_15, x_18] <| J59 x_63 w10) (
 KE [s_p0, acts_p2, x_4, x_8, x_9, x_33, taken_34, x_38, x_12, acts_p2, x_15, x_18] [s_p0, acts_p2, x_4, x_8, x_9, x_33, taken_34, x_38, x_12, acts_p2, x_15, x_18] <| J59 (.bool false) w10)))
 (fun J64 =>
 Fo 1 a_23 fun x_65 =>
 Ld x_65 w9 fun x_66 =>
 Vif x_66 (
 Cl P F.unbwt_Inverter_Take #[x_4] w9 fun x_67 w17 =>
 Bp .add taken_17 x_67 fun x_68 =>
 KE [s_p0, acts_p2, x_4, x_8, x_9, x_33, a_23, x_12, acts_p2, x_15, x_18] [s_p0, acts_p2, x_4, x_8, x_9, x_33, a_23, x_12, acts_p2, x_15, x_18] <| J64 x_68 w17) (
 KE [s_p0, acts_p2, x_4, x_8, x_9, x_33, a_23, x_12, acts_p2, x_15, x_18] [s_p0, acts_p2, x_4, x_8, x_9, x_33, a_23, x_12, acts_p2, x_15, x_18] <| J64 taken_17 w9)))) (
 Bp .add x_12 (.int .i64 1) fun x_69 =>
 KE [s_p0, acts_p2, x_4, x_8, x_9] [s_p0, acts_p2, x_4, x_8, x_9] <| next13 gone_16 taken_17 x_69 w6)) (
 Bp .sub x_8 gone_10 fun x_70 =>
 Cl P F.unbwt_Inverter_Step #[x_4, x_70] w5 fun x_71 w18 =>
 Cl P F.unbwt_Inverter_Done #[x_4] w18 fun x_72 w19 =>
 Vif x_72 (
 Cl P F.unbwt_Inverter_Step #[x_4, (.int .i64 1)] w19 fun x_73 w20 =>
 Bp .eql x_73 (.int .i64 0) fun x_74 =>
 Vif x_74 (
 Cl P F.unbwt_Inverter_Take #[x_4] w20 fun x_75 w21 =>
 Bp .add taken_11 x_75 fun x_76 =>
 Bp .eql x_76 x_9 fun x_77 =>
 Vif x_77 (
 Cl P F.unbwt_Inverter_Waiting #[x_4] w21 fun x_78 w22 =>
 Bp .eql x_78 (.int .i64 0) fun x_79 =>
 Vif x_79 (
 Cl P F.balerlaw18_banana #[] w22 fun x_80 w23 =>
 R x_80 w23) (
 R (.bool false) w22)) (
 R (.bool false) w21)) (
 R (.bool false) w20)) (
 R (.bool false) w19)))))
 (fun J81 =>
 Lns s_p0 fun x_82 =>
 Bp .gtr x_82 (.int .i64 40) fun x_83 =>
 Vif x_83 (
 KE [s_p0, origin_p1, acts_p2] [s_p0, origin_p1, acts_p2] <| J81 (.bool true) w) (
 Bp .lss origin_p1 (.int .i64 0) fun x_84 =>
 Vif x_84 (
 KE [s_p0, origin_p1, acts_p2] [s_p0, origin_p1, acts_p2] <| J81 (.bool true) w) (
 Lns s_p0 fun x_85 =>
 Bp .geq origin_p1 x_85 fun x_86 =>
 Vif x_86 (
 KE [s_p0, origin_p1, acts_p2] [s_p0, origin_p1, acts_p2] <| J81 (.bool true) w) (
 Lnl acts_p2 fun x_87 =>
 Bp .gtr x_87 (.int .i64 20) fun x_88 =>
 KE [s_p0, origin_p1, acts_p2] [s_p0, origin_p1, acts_p2] <| J81 x_88 w))))
theorem Tie.balerlaw18_UnbwtCuts {s_p0 origin_p1 acts_p2 : Value} {w : World} {R : Value → World → Prop} (h : Vcf.balerlaw18_UnbwtCuts Try.prog s_p0 origin_p1 acts_p2 w R) : Cl Try.prog F.balerlaw18_UnbwtCuts #[s_p0, origin_p1, acts_p2] w R :=
  cl_of_vc (n := 159) (rs := [(.tmp 6)]) (h := (.s .z (.s (.j [34] [0, 1, 2] .z (.i (.s .z .z) .z)) (.s .z (.s (.s .z (.i (.s .z .z) .z)) (.s .z (.s .z (.s .z (.s .z (.s (.s .z (.b (.l [11, 12, 50] [0, 2, 7, 9, 10] (.s .z (.s (.i .z .z) (.s (.b (.s .z (.b (.l [11, 12, 54] [0, 2, 7, 9, 10, 50, 52, 53] (.s .z (.s (.i .z .z) (.s (.b (.s .z (.s .z (.s (.s .z (.i (.s .z .z) .z)) (.s .z (.j [12] [0, 2, 7, 9, 10, 11, 14, 50, 52, 53, 54] (.s .z (.i .z .z)) (.s .z (.s (.j [94] [0, 2, 7, 9, 10, 11, 12, 16, 50, 52, 53, 54] .z (.i (.s .z .z) .z)) (.j [128] [0, 2, 7, 9, 10, 11, 12, 50, 52, 53, 54] .z (.i (.s .z .z) .z)))))))))) .z))))))) .z)))))) (.s .z (.s .z .z)))))))))))) (args := [s_p0, origin_p1, acts_p2]) (by kernel_rfl) Try.func6 rfl (by kernel_rfl) rfl rfl rfl (Eq.mp (by kernel_rfl) h)

/-- baler/balerlaw18.UnbwtBytes -/
def Vcf.balerlaw18_UnbwtBytes (P : Program) (s_p0 origin_p1 : Value) (w : World) (R : Value → World → Prop) : Prop   :=
 VJoin 1 (fun _ x_1 w1 =>
 Vif x_1 (
 Cl P F.balerlaw18_banana #[] w1 fun x_2 w2 =>
 R x_2 w2) (
 Cl P F.unbwt_Of #[s_p0, origin_p1] w1 fun x_3 w3 =>
 Ex x_3 0 fun x_4 =>
 Ex x_3 1 fun x_5 =>
 VJoin 1 (fun _ x_6 w4 =>
 Vif x_6 (
 R (.bool false) w4) (
 Lns x_4 fun x_7 =>
 VLoop 1 [(.int .i64 0)] w4 fun _ next9 x_8 w5 =>
 Bp .lss x_8 x_7 fun x_10 =>
 Vif x_10 (
 Lns s_p0 fun x_11 =>
 VLoop 2 [(.bool false), (.int .i64 0)] w5 fun _ next14 there_12 x_13 w6 =>
 Bp .lss x_13 x_11 fun x_15 =>
 Vif x_15 (
 Dr w6 fun w7 =>
 Vif there_12 (
 Bp .add x_13 (.int .i64 1) fun x_16 =>
 KE [s_p0, x_4, x_8, x_7, x_8, x_11] [s_p0, x_4, x_8, x_7, x_8, x_11] <| next14 (.bool true) x_16 w7) (
 Ixs s_p0 x_13 fun x_17 =>
 Ixs x_4 x_8 fun x_18 =>
 Bp .eql x_17 x_18 fun x_19 =>
 Bp .add x_13 (.int .i64 1) fun x_20 =>
 KE [s_p0, x_4, x_8, x_7, x_8, x_11] [s_p0, x_4, x_8, x_7, x_8, x_11] <| next14 x_19 x_20 w7)) (
 Up .not there_12 fun x_21 =>
 Vif x_21 (
 R (.bool false) w6) (
 Bp .add x_8 (.int .i64 1) fun x_22 =>
 KE [s_p0, x_4, x_7] [s_p0, x_4, x_7] <| next9 x_22 w6))) (
 Cl P F.balerlaw18_banana #[] w5 fun x_23 w8 =>
 R x_23 w8)))
 (fun J24 =>
 Bp .neq x_5 (.int .i64 0) fun x_25 =>
 Vif x_25 (
 KE [s_p0, x_4] [s_p0, x_4] <| J24 (.bool true) w3) (
 Lns x_4 fun x_26 =>
 Lns s_p0 fun x_27 =>
 Bp .neq x_26 x_27 fun x_28 =>
 Vif x_28 (
 KE [s_p0, x_4] [s_p0, x_4] <| J24 (.bool true) w3) (
 Cl P F.unbwt_Links #[s_p0] w3 fun x_29 w9 =>
 Lns s_p0 fun x_30 =>
 Cl P F.balerref17_Ordered #[x_29, x_30] w9 fun x_31 w10 =>
 Up .not x_31 fun x_32 =>
 KE [s_p0, x_4] [s_p0, x_4] <| J24 x_32 w10)))))
 (fun J33 =>
 Lns s_p0 fun x_34 =>
 Bp .gtr x_34 (.int .i64 200) fun x_35 =>
 Vif x_35 (
 KE [s_p0, origin_p1] [s_p0, origin_p1] <| J33 (.bool true) w) (
 Bp .lss origin_p1 (.int .i64 0) fun x_36 =>
 Vif x_36 (
 KE [s_p0, origin_p1] [s_p0, origin_p1] <| J33 (.bool true) w) (
 Lns s_p0 fun x_37 =>
 Bp .geq origin_p1 x_37 fun x_38 =>
 KE [s_p0, origin_p1] [s_p0, origin_p1] <| J33 x_38 w)))
theorem Tie.balerlaw18_UnbwtBytes {s_p0 origin_p1 : Value} {w : World} {R : Value → World → Prop} (h : Vcf.balerlaw18_UnbwtBytes Try.prog s_p0 origin_p1 w R) : Cl Try.prog F.balerlaw18_UnbwtBytes #[s_p0, origin_p1] w R :=
  cl_of_vc (n := 72) (rs := [(.tmp 4)]) (h := (.s .z (.s (.j [22] [0, 1] .z (.i (.s .z .z) .z)) (.s .z (.s (.j [46] [0, 5] .z (.i (.s .z .z) .z)) (.s (.s .z (.b (.l [49] [0, 5, 48] (.s .z (.s (.i .z .z) (.s (.b (.s .z (.s .z (.s (.s .z (.b (.l [8, 54] [0, 5, 7, 48, 49, 53] (.s .z (.s (.i .z .z) (.s (.b (.s .z (.r (.staged [0, 1, 3, 3, 15, 3, 3, 99, 255, 511, 1023])))) .z)))))) (.s .z (.i (.s .z .z) .z)))))) .z)))))) (.s .z .z))))))) (args := [s_p0, origin_p1]) (by kernel_rfl) Try.func7 rfl (by kernel_rfl) rfl rfl rfl (Eq.mp (by kernel_rfl) h)

/-- baler/balerlaw18.UnbwtNil -/
def Vcf.balerlaw18_UnbwtNil (P : Program) (n_p0 : Value) (w : World) (R : Value → World → Prop) : Prop   :=
 Cl P F.unbwt_Inverter_Step #[(.pointer none), n_p0] w fun x_1 w1 =>
 Bp .eql x_1 (.int .i64 0) fun x_2 =>
 Vif x_2 (
 Cl P F.unbwt_Inverter_Take #[(.pointer none)] w1 fun x_3 w2 =>
 Bp .eql x_3 (.string ⟨#[]⟩) fun x_4 =>
 Vif x_4 (
 Cl P F.unbwt_Inverter_Waiting #[(.pointer none)] w2 fun x_5 w3 =>
 Bp .eql x_5 (.int .i64 0) fun x_6 =>
 Vif x_6 (
 Cl P F.unbwt_Inverter_Done #[(.pointer none)] w3 fun x_7 w4 =>
 Up .not x_7 fun x_8 =>
 Vif x_8 (
 Cl P F.unbwt_Inverter_Steps #[(.pointer none)] w4 fun x_9 w5 =>
 Bp .eql x_9 (.int .i64 0) fun x_10 =>
 Vif x_10 (
 Cl P F.unbwt_Inverter_Held #[(.pointer none)] w5 fun x_11 w6 =>
 Bp .eql x_11 (.int .i64 0) fun x_12 =>
 Vif x_12 (
 Cl P F.balerlaw18_banana #[] w6 fun x_13 w7 =>
 R x_13 w7) (
 R (.bool false) w6)) (
 R (.bool false) w5)) (
 R (.bool false) w4)) (
 R (.bool false) w3)) (
 R (.bool false) w2)) (
 R (.bool false) w1)
theorem Tie.balerlaw18_UnbwtNil {n_p0 : Value} {w : World} {R : Value → World → Prop} (h : Vcf.balerlaw18_UnbwtNil Try.prog n_p0 w R) : Cl Try.prog F.balerlaw18_UnbwtNil #[n_p0] w R :=
  cl_of_vc (n := 36) (rs := [(.tmp 2)]) (h := (.s .z (.s .z (.s .z .z)))) (args := [n_p0]) (by kernel_rfl) Try.func8 rfl (by kernel_rfl) rfl rfl rfl (Eq.mp (by kernel_rfl) h)

/-- baler/balerlaw18.banana -/
def Vcf.balerlaw18_banana (P : Program) (w : World) (R : Value → World → Prop) : Prop   :=
 Cl P F.unbwt_Of #[(.string ⟨#[110, 110, 98, 97, 97, 97]⟩), (.int .i64 3)] w fun x_1 w1 =>
 Ex x_1 0 fun x_2 =>
 Ex x_1 1 fun x_3 =>
 Cl P F.unbwt_Of #[(.string ⟨#[110, 110, 98, 97, 97, 97]⟩), (.int .i64 6)] w1 fun x_4 w2 =>
 Ex x_4 0 fun x_5 =>
 Ex x_4 1 fun x_6 =>
 Bp .eql x_3 (.int .i64 0) fun x_7 =>
 Vif x_7 (
 Bp .eql x_2 (.string ⟨#[98, 97, 110, 97, 110, 97]⟩) fun x_8 =>
 Vif x_8 (
 Bp .eql x_6 (.int .i64 23) fun x_9 =>
 R x_9 w2) (
 R (.bool false) w2)) (
 R (.bool false) w2)
theorem Tie.balerlaw18_banana {w : World} {R : Value → World → Prop} (h : Vcf.balerlaw18_banana Try.prog w R) : Cl Try.prog F.balerlaw18_banana #[] w R :=
  cl_of_vc (n := 23) (rs := [(.tmp 0)]) (h := (.s .z (.s .z (.s .z (.s .z .z))))) (args := []) (by kernel_rfl) Try.func9 rfl (by kernel_rfl) rfl rfl rfl (Eq.mp (by kernel_rfl) h)

/-- baler/balerref17.Of -/
def Vcf.balerref17_Of (P : Program) (s_p0 : Value) (w : World) (R : Value → World → Prop) : Prop   :=
 New (zeroP P 24) 24 w fun x_1 w1 =>
 Cl P F.balerref15_Sorted #[s_p0] w1 fun x_2 w2 =>
 Cl P F.balerref17_From #[s_p0, x_2] w2 fun x_3 w3 =>
 StA 2 x_1 x_3 w3 fun w4 =>
 LdA 2 x_1 w4 fun x_4 =>
 R x_4 w4
theorem Tie.balerref17_Of {s_p0 : Value} {w : World} {R : Value → World → Prop} (h : Vcf.balerref17_Of Try.prog s_p0 w R) : Cl Try.prog F.balerref17_Of #[s_p0] w R :=
  cl_of_vc (n := 7) (rs := [(.cell 2 24)]) (h := (.s .z (.s .z .z))) (args := [s_p0]) (by kernel_rfl) Try.func10 rfl (by kernel_rfl) rfl rfl rfl (Eq.mp (by kernel_rfl) h)

/-- baler/unbwt.Of -/
def Vcf.unbwt_Of (P : Program) (last_p0 origin_p1 : Value) (w : World) (R : Value → World → Prop) : Prop   :=
 Cl P F.unbwt_New #[last_p0, origin_p1] w fun x_1 w1 =>
 Ex x_1 0 fun x_2 =>
 Ex x_1 1 fun x_3 =>
 Bp .neq x_3 (.int .i64 0) fun x_4 =>
 Vif x_4 (
 R (.tuple #[(.string ⟨#[]⟩), x_3]) w1) (
 Lns last_p0 fun x_5 =>
 Bp .mul (.int .i64 3) x_5 fun x_6 =>
 Cl P F.unbwt_Inverter_Step #[x_2, x_6] w1 fun x_7 w2 =>
 Cl P F.unbwt_Inverter_Take #[x_2] w2 fun x_8 w3 =>
 R (.tuple #[x_8, (.int .i64 0)]) w3)
theorem Tie.unbwt_Of {last_p0 origin_p1 : Value} {w : World} {R : Value → World → Prop} (h : Vcf.unbwt_Of Try.prog last_p0 origin_p1 w R) : Cl Try.prog F.unbwt_Of #[last_p0, origin_p1] w R :=
  cl_of_vc (n := 24) (rs := [(.tmp 4), (.tmp 5)]) (h := (.s .z (.s .z (.s (.s .z (.i (.s .z .z) .z)) (.s .z (.s .z .z)))))) (args := [last_p0, origin_p1]) (by kernel_rfl) Try.func11 rfl (by kernel_rfl) rfl rfl rfl (Eq.mp (by kernel_rfl) h)

/-- baler/unbwt.New -/
def Vcf.unbwt_New (P : Program) (last_p0 origin_p1 : Value) (w : World) (R : Value → World → Prop) : Prop   :=
 Bp .eql last_p0 (.string ⟨#[]⟩) fun x_1 =>
 Vif x_1 (
 R (.tuple #[(.pointer none), (.int .i64 1)]) w) (
 Lns last_p0 fun x_2 =>
 Bp .gtr x_2 (.int .i64 900000) fun x_3 =>
 Vif x_3 (
 R (.tuple #[(.pointer none), (.int .i64 2)]) w) (
 VJoin 1 (fun _ x_4 w1 =>
 Vif x_4 (
 R (.tuple #[(.pointer none), (.int .i64 23)]) w1) (
 Lns last_p0 fun x_5 =>
 Ms P 37 x_5 x_5 w1 fun x_6 w2 =>
 Bd P 53 #[(0, last_p0), (2, x_6), (3, origin_p1)] w2 fun x_7 =>
 New x_7 53 w2 fun x_8 w3 =>
 R (.tuple #[x_8, (.int .i64 0)]) w3))
 (fun J9 =>
 Bp .lss origin_p1 (.int .i64 0) fun x_10 =>
 Vif x_10 (
 KE [last_p0, origin_p1] [last_p0, origin_p1] <| J9 (.bool true) w) (
 Lns last_p0 fun x_11 =>
 Bp .geq origin_p1 x_11 fun x_12 =>
 KE [last_p0, origin_p1] [last_p0, origin_p1] <| J9 x_12 w))))
theorem Tie.unbwt_New {last_p0 origin_p1 : Value} {w : World} {R : Value → World → Prop} (h : Vcf.unbwt_New Try.prog last_p0 origin_p1 w R) : Cl Try.prog F.unbwt_New #[last_p0, origin_p1] w R :=
  cl_of_vc (n := 29) (rs := [(.tmp 4), (.tmp 5)]) (h := (.s .z (.s (.b (.s .z (.i (.s .z .z) (.s .z (.i (.s .z .z) (.j [13] [0, 1] .z (.i (.s .z .z) .z))))))) (.s .z .z)))) (args := [last_p0, origin_p1]) (by kernel_rfl) Try.func12 rfl (by kernel_rfl) rfl rfl rfl (Eq.mp (by kernel_rfl) h)

/-- baler/balerplain.Ints -/
def Vcf.balerplain_Ints (P : Program) (a_p0 b_p1 : Value) (w : World) (R : Value → World → Prop) : Prop   :=
 Lnl a_p0 fun x_1 =>
 Lnl b_p1 fun x_2 =>
 Bp .neq x_1 x_2 fun x_3 =>
 Vif x_3 (
 R (.bool false) w) (
 Lnl a_p0 fun x_4 =>
 VLoop 1 [(.int .i64 0)] w fun _ next6 x_5 w1 =>
 Bp .lss x_5 x_4 fun x_7 =>
 Vif x_7 (
 Dr w1 fun w2 =>
 Ias 1 a_p0 x_5 fun x_8 =>
 Ld x_8 w2 fun x_9 =>
 Ias 1 b_p1 x_5 fun x_11 =>
 Ld x_11 w2 fun x_12 =>
 Bp .neq x_9 x_12 fun x_14 =>
 Vif x_14 (
 R (.bool false) w2) (
 Bp .add x_5 (.int .i64 1) fun x_15 =>
 KE [a_p0, b_p1, x_4] [a_p0, b_p1, x_4] <| next6 x_15 w2)) (
 R (.bool true) w1))
theorem Tie.balerplain_Ints {a_p0 b_p1 : Value} {w : World} {R : Value → World → Prop} (h : Vcf.balerplain_Ints Try.prog a_p0 b_p1 w R) : Cl Try.prog F.balerplain_Ints #[a_p0, b_p1] w R :=
  cl_of_vc (n := 26) (rs := [(.tmp 4)]) (h := (.s .z (.s (.s .z (.i (.s .z .z) .z)) (.s (.s .z (.b (.l [13] [0, 1, 12] (.s .z (.s (.i .z .z) (.s (.b (.s .z (.s (.r (.staged [0, 0, 3, 7, 0, 0, 48, 112, 255])) (.i (.s .z .z) .z)))) .z)))))) (.s .z .z))))) (args := [a_p0, b_p1]) (by kernel_rfl) Try.func13 rfl (by kernel_rfl) rfl rfl rfl (Eq.mp (by kernel_rfl) h)

/-- baler/unbwt.Links -/
def Vcf.unbwt_Links (P : Program) (last_p0 : Value) (w : World) (R : Value → World → Prop) : Prop   :=
 New (zeroP P 51) 51 w fun counts_1 w1 =>
 Lns last_p0 fun x_2 =>
 VLoop 1 [(.int .i64 0)] w1 fun _ next4 x_3 w2 =>
 Bp .lss x_3 x_2 fun x_5 =>
 Vif x_5 (
 Ixs last_p0 x_3 fun x_6 =>
 Iaa 256 1 counts_1 x_6 fun x_7 =>
 Ld x_7 w2 fun x_8 =>
 Bp .add x_8 (.int .i64 1) fun x_9 =>
 Iaa 256 1 counts_1 x_6 fun x_10 =>
 St x_10 x_9 w2 fun w3 =>
 Bp .add x_3 (.int .i64 1) fun x_11 =>
 KE [last_p0, counts_1, x_2] [last_p0, counts_1, x_2] <| next4 x_11 w3) (
 LdA 256 counts_1 w2 fun x_12 =>
 VLoop 2 [(.int .i64 0), (.int .i64 0)] w2 fun _ next15 from_13 x_14 w4 =>
 Bp .lss x_14 (.int .i64 256) fun x_16 =>
 Vif x_16 (
 Ixa 256 1 false x_12 x_14 fun x_17 =>
 Iaa 256 1 counts_1 x_14 fun x_18 =>
 St x_18 from_13 w4 fun w5 =>
 Bp .add from_13 x_17 fun x_19 =>
 Bp .add x_14 (.int .i64 1) fun x_20 =>
 KE [last_p0, counts_1, x_12] [last_p0, counts_1, x_12] <| next15 x_19 x_20 w5) (
 Lns last_p0 fun x_21 =>
 Ms P 37 x_21 x_21 w4 fun x_22 w6 =>
 Lns last_p0 fun x_23 =>
 VLoop 1 [(.int .i64 0)] w6 fun _ next25 x_24 w7 =>
 Bp .lss x_24 x_23 fun x_26 =>
 Vif x_26 (
 Ixs last_p0 x_24 fun x_27 =>
 Iaa 256 1 counts_1 x_27 fun x_28 =>
 Ld x_28 w7 fun x_29 =>
 Ias 1 x_22 x_29 fun x_30 =>
 St x_30 x_24 w7 fun w8 =>
 Iaa 256 1 counts_1 x_27 fun x_31 =>
 Ld x_31 w8 fun x_32 =>
 Bp .add x_32 (.int .i64 1) fun x_33 =>
 Iaa 256 1 counts_1 x_27 fun x_34 =>
 St x_34 x_33 w8 fun w9 =>
 Bp .add x_24 (.int .i64 1) fun x_35 =>
 KE [last_p0, counts_1, x_22, x_23] [last_p0, counts_1, x_22, x_23] <| next25 x_35 w9) (
 R x_22 w7)))
theorem Tie.unbwt_Links {last_p0 : Value} {w : World} {R : Value → World → Prop} (h : Vcf.unbwt_Links Try.prog last_p0 w R) : Cl Try.prog F.unbwt_Links #[last_p0] w R :=
  cl_of_vc (n := 60) (rs := [(.tmp 2)]) (h := (.s .z (.s .z (.s (.s .z (.b (.l [13] [0, 3, 12] (.s .z (.s (.i .z .z) (.s (.b (.s .z .z)) .z)))))) (.s .z (.s (.s .z (.b (.l [5, 25] [0, 3, 24] (.s .z (.s (.i .z .z) (.s (.b (.s .z (.s .z .z))) .z)))))) (.s .z (.s (.s .z (.b (.l [41] [0, 3, 8, 40] (.s .z (.s (.i .z .z) (.s (.b (.s .z (.s .z (.s .z .z)))) .z)))))) (.s .z .z))))))))) (args := [last_p0]) (by kernel_rfl) Try.func14 rfl (by kernel_rfl) rfl rfl rfl (Eq.mp (by kernel_rfl) h)

/-- baler/balerref18.Links -/
def Vcf.balerref18_Links (P : Program) (s_p0 : Value) (w : World) (R : Value → World → Prop) : Prop   :=
 VLoop 2 [(.slice none 0 0), (.int .i64 0)] w fun _ next3 out_1 x_2 w1 =>
 Bp .lss x_2 (.int .i64 256) fun x_4 =>
 Vif x_4 (
 Lns s_p0 fun x_5 =>
 VLoop 2 [out_1, (.int .i64 0)] w1 fun _ next8 out_6 x_7 w2 =>
 Bp .lss x_7 x_5 fun x_9 =>
 Vif x_9 (
 Ixs s_p0 x_7 fun x_10 =>
 Ci .i64 x_10 fun x_11 =>
 Bp .eql x_11 x_2 fun x_12 =>
 Vif x_12 (
 Bs P 37 1 #[(0, x_7)] w2 fun x_13 w3 =>
 Ap P #[37, 37] 37 #[out_6, x_13] w3 fun x_14 w4 =>
 Bp .add x_7 (.int .i64 1) fun x_15 =>
 KE [s_p0, x_2, x_2, x_5] [s_p0, x_2, x_2, x_5] <| next8 x_14 x_15 w4) (
 Bp .add x_7 (.int .i64 1) fun x_16 =>
 KE [s_p0, x_2, x_2, x_5] [s_p0, x_2, x_2, x_5] <| next8 out_6 x_16 w2)) (
 Bp .add x_2 (.int .i64 1) fun x_17 =>
 KE [s_p0] [s_p0] <| next3 out_6 x_17 w2)) (
 R out_1 w1)
theorem Tie.balerref18_Links {s_p0 : Value} {w : World} {R : Value → World → Prop} (h : Vcf.balerref18_Links Try.prog s_p0 w R) : Cl Try.prog F.balerref18_Links #[s_p0] w R :=
  cl_of_vc (n := 27) (rs := [(.tmp 2)]) (h := (.s .z (.s .z (.s (.s .z (.b (.l [3, 6] [0] (.s .z (.s (.i .z .z) (.s (.b (.s .z (.s .z (.b (.l [3, 11] [0, 4, 6, 10] (.s .z (.s (.i .z .z) (.s (.b (.s .z (.s .z (.i .z .z)))) .z)))))))) .z)))))) (.s .z .z))))) (args := [s_p0]) (by kernel_rfl) Try.func15 rfl (by kernel_rfl) rfl rfl rfl (Eq.mp (by kernel_rfl) h)

/-- baler/balerref18.Of -/
def Vcf.balerref18_Of (P : Program) (s_p0 origin_p1 : Value) (w : World) (R : Value → World → Prop) : Prop   :=
 Cl P F.balerref18_Links #[s_p0] w fun x_1 w1 =>
 Lns s_p0 fun x_2 =>
 VLoop 3 [(.string ⟨#[]⟩), origin_p1, (.int .i64 0)] w1 fun _ next6 out_3 at_4 x_5 w2 =>
 Bp .lss x_5 x_2 fun x_7 =>
 Vif x_7 (
 Ias 1 x_1 at_4 fun x_8 =>
 Ld x_8 w2 fun x_9 =>
 Bp .add x_9 (.int .i64 1) fun x_10 =>
 Sst s_p0 (some x_9) (some x_10) fun x_11 =>
 Bp .add out_3 x_11 fun x_12 =>
 Bp .add x_5 (.int .i64 1) fun x_13 =>
 KE [s_p0, x_1, x_2] [s_p0, x_1, x_2] <| next6 x_12 x_9 x_13 w2) (
 R out_3 w2)
theorem Tie.balerref18_Of {s_p0 origin_p1 : Value} {w : World} {R : Value → World → Prop} (h : Vcf.balerref18_Of Try.prog s_p0 origin_p1 w R) : Cl Try.prog F.balerref18_Of #[s_p0, origin_p1] w R :=
  cl_of_vc (n := 28) (rs := [(.tmp 4)]) (h := (.s .z (.s .z (.s .z (.s .z (.s (.s .z (.b (.l [6, 7, 13] [0, 5, 12] (.s .z (.s (.i .z .z) (.s (.b (.s .z .z)) .z)))))) (.s .z .z))))))) (args := [s_p0, origin_p1]) (by kernel_rfl) Try.func16 rfl (by kernel_rfl) rfl rfl rfl (Eq.mp (by kernel_rfl) h)

/-- (baler/unbwt.Inverter).Step -/
def Vcf.unbwt_Inverter_Step (P : Program) (v_p0 budget_p1 : Value) (w : World) (R : Value → World → Prop) : Prop   :=
 Bn false v_p0 (.pointer none) fun x_1 =>
 Vif x_1 (
 R (.int .i64 0) w) (
 Nc v_p0 <|
 Fo 260 v_p0 fun x_2 =>
 Ld x_2 w fun x_3 =>
 VLoop 0 [] w fun _ next4 w1 =>
 VJoin 1 (fun _ x_5 w2 =>
 Vif x_5 (
 Cl P F.unbwt_Inverter_step #[v_p0] w2 fun x_6 w3 =>
 KE [v_p0, budget_p1, x_3] [v_p0, budget_p1, x_3] <| next4 w3) (
 Nc v_p0 <|
 Fo 260 v_p0 fun x_7 =>
 Ld x_7 w2 fun x_8 =>
 Bp .sub x_8 x_3 fun x_9 =>
 R x_9 w2))
 (fun J10 =>
 Cl P F.unbwt_Inverter_Done #[v_p0] w1 fun x_11 w4 =>
 Up .not x_11 fun x_12 =>
 Vif x_12 (
 Nc v_p0 <|
 Fo 260 v_p0 fun x_13 =>
 Ld x_13 w4 fun x_14 =>
 Bp .sub x_14 x_3 fun x_15 =>
 Bp .lss x_15 budget_p1 fun x_16 =>
 KE [v_p0, budget_p1, x_3] [v_p0, budget_p1, x_3] <| J10 x_16 w4) (
 KE [v_p0, budget_p1, x_3] [v_p0, budget_p1, x_3] <| J10 (.bool false) w4)))
theorem Tie.unbwt_Inverter_Step {v_p0 budget_p1 : Value} {w : World} {R : Value → World → Prop} (h : Vcf.unbwt_Inverter_Step Try.prog v_p0 budget_p1 w R) : Cl Try.prog F.unbwt_Inverter_Step #[v_p0, budget_p1] w R :=
  cl_of_vc (n := 33) (rs := [(.tmp 4)]) (h := (.s .z (.s (.s .z (.i (.s .z .z) .z)) (.s .z (.s (.b (.l [] [0, 1, 5] (.s (.j [24] [0, 1, 5] .z (.i .z .z)) (.b .z)))) (.s .z .z)))))) (args := [v_p0, budget_p1]) (by kernel_rfl) Try.func17 rfl (by kernel_rfl) rfl rfl rfl (Eq.mp (by kernel_rfl) h)

/-- (baler/unbwt.Inverter).Take -/
def Vcf.unbwt_Inverter_Take (P : Program) (v_p0 : Value) (w : World) (R : Value → World → Prop) : Prop   :=
 Bn false v_p0 (.pointer none) fun x_1 =>
 Vif x_1 (
 R (.string ⟨#[]⟩) w) (
 Nc v_p0 <|
 Fo 259 v_p0 fun x_2 =>
 Ld x_2 w fun x_3 =>
 Cw P 34 9 x_3 w fun x_4 w1 =>
 Nc v_p0 <|
 Fo 259 v_p0 fun x_5 =>
 St x_5 (.slice none 0 0) w1 fun w2 =>
 R x_4 w2)
theorem Tie.unbwt_Inverter_Take {v_p0 : Value} {w : World} {R : Value → World → Prop} (h : Vcf.unbwt_Inverter_Take Try.prog v_p0 w R) : Cl Try.prog F.unbwt_Inverter_Take #[v_p0] w R :=
  cl_of_vc (n := 15) (rs := [(.tmp 2)]) (h := (.s .z (.s (.s .z (.i (.s .z .z) .z)) (.s .z (.s .z (.s .z .z)))))) (args := [v_p0]) (by kernel_rfl) Try.func18 rfl (by kernel_rfl) rfl rfl rfl (Eq.mp (by kernel_rfl) h)

/-- (baler/unbwt.Inverter).Waiting -/
def Vcf.unbwt_Inverter_Waiting (P : Program) (v_p0 : Value) (w : World) (R : Value → World → Prop) : Prop   :=
 Bn false v_p0 (.pointer none) fun x_1 =>
 Vif x_1 (
 R (.int .i64 0) w) (
 Nc v_p0 <|
 Fo 259 v_p0 fun x_2 =>
 Ld x_2 w fun x_3 =>
 Lnl x_3 fun x_4 =>
 R x_4 w)
theorem Tie.unbwt_Inverter_Waiting {v_p0 : Value} {w : World} {R : Value → World → Prop} (h : Vcf.unbwt_Inverter_Waiting Try.prog v_p0 w R) : Cl Try.prog F.unbwt_Inverter_Waiting #[v_p0] w R :=
  cl_of_vc (n := 10) (rs := [(.tmp 2)]) (h := (.s .z (.s (.s .z (.i (.s .z .z) .z)) (.s .z .z)))) (args := [v_p0]) (by kernel_rfl) Try.func19 rfl (by kernel_rfl) rfl rfl rfl (Eq.mp (by kernel_rfl) h)

/-- (baler/unbwt.Inverter).Steps -/
def Vcf.unbwt_Inverter_Steps (P : Program) (v_p0 : Value) (w : World) (R : Value → World → Prop) : Prop   :=
 Bn false v_p0 (.pointer none) fun x_1 =>
 Vif x_1 (
 R (.int .i64 0) w) (
 Nc v_p0 <|
 Fo 260 v_p0 fun x_2 =>
 Ld x_2 w fun x_3 =>
 R x_3 w)
theorem Tie.unbwt_Inverter_Steps {v_p0 : Value} {w : World} {R : Value → World → Prop} (h : Vcf.unbwt_Inverter_Steps Try.prog v_p0 w R) : Cl Try.prog F.unbwt_Inverter_Steps #[v_p0] w R :=
  cl_of_vc (n := 9) (rs := [(.tmp 2)]) (h := (.s .z (.s (.s .z (.i (.s .z .z) .z)) (.s .z .z)))) (args := [v_p0]) (by kernel_rfl) Try.func20 rfl (by kernel_rfl) rfl rfl rfl (Eq.mp (by kernel_rfl) h)

/-- (baler/unbwt.Inverter).Done -/
def Vcf.unbwt_Inverter_Done (P : Program) (v_p0 : Value) (w : World) (R : Value → World → Prop) : Prop   :=
 Dr w fun w1 =>
 Bn true v_p0 (.pointer none) fun x_1 =>
 Vif x_1 (
 Nc v_p0 <|
 Fo 260 v_p0 fun x_2 =>
 Ld x_2 w1 fun x_3 =>
 Nc v_p0 <|
 Fo 0 v_p0 fun x_5 =>
 Ld x_5 w1 fun x_6 =>
 Lns x_6 fun x_8 =>
 Bp .mul (.int .i64 3) x_8 fun x_10 =>
 Bp .eql x_3 x_10 fun x_11 =>
 R x_11 w1) (
 R (.bool false) w1)
theorem Tie.unbwt_Inverter_Done {v_p0 : Value} {w : World} {R : Value → World → Prop} (h : Vcf.unbwt_Inverter_Done Try.prog v_p0 w R) : Cl Try.prog F.unbwt_Inverter_Done #[v_p0] w R :=
  cl_of_vc (n := 18) (rs := [(.tmp 2)]) (h := (.s .z (.s (.r (.staged [0, 1, 3, 7, 15, 31, 63, 7, 135, 391, 903, 1927, 3975, 8191, 16383, 32767])) .z))) (args := [v_p0]) (by kernel_rfl) Try.func21 rfl (by kernel_rfl) rfl rfl rfl (Eq.mp (by kernel_rfl) h)

/-- (baler/unbwt.Inverter).Held -/
def Vcf.unbwt_Inverter_Held (P : Program) (v_p0 : Value) (w : World) (R : Value → World → Prop) : Prop   :=
 Bn false v_p0 (.pointer none) fun x_1 =>
 Vif x_1 (
 R (.int .i64 0) w) (
 Dr w fun w1 =>
 Nc v_p0 <|
 Fo 0 v_p0 fun x_2 =>
 Ld x_2 w1 fun x_3 =>
 Lns x_3 fun x_5 =>
 Bp .mul (.int .i64 2) x_5 fun x_7 =>
 Nc v_p0 <|
 Fo 259 v_p0 fun x_8 =>
 Ld x_8 w1 fun x_9 =>
 Lnl x_9 fun x_11 =>
 Bp .add x_7 x_11 fun x_13 =>
 R x_13 w1)
theorem Tie.unbwt_Inverter_Held {v_p0 : Value} {w : World} {R : Value → World → Prop} (h : Vcf.unbwt_Inverter_Held Try.prog v_p0 w R) : Cl Try.prog F.unbwt_Inverter_Held #[v_p0] w R :=
  cl_of_vc (n := 17) (rs := [(.tmp 2)]) (h := (.s .z (.s (.s .z (.i (.s .z .z) .z)) (.s (.r (.staged [0, 1, 3, 7, 15, 31, 0, 64, 192, 448, 960, 2047, 4095])) .z)))) (args := [v_p0]) (by kernel_rfl) Try.func22 rfl (by kernel_rfl) rfl rfl rfl (Eq.mp (by kernel_rfl) h)

/-- baler/balerref17.Ordered -/
def Vcf.balerref17_Ordered (P : Program) (l_p0 n_p1 : Value) (w : World) (R : Value → World → Prop) : Prop   :=
 Lnl l_p0 fun x_1 =>
 VLoop 1 [(.int .i64 0)] w fun _ next3 x_2 w1 =>
 Bp .lss x_2 x_1 fun x_4 =>
 Vif x_4 (
 Ias 1 l_p0 x_2 fun x_5 =>
 Ld x_5 w1 fun x_6 =>
 VJoin 1 (fun _ x_7 w2 =>
 Vif x_7 (
 R (.bool false) w2) (
 Ssl 1 l_p0 none (some x_2) fun x_8 =>
 Lnl x_8 fun x_9 =>
 VLoop 1 [(.int .i64 0)] w2 fun _ next11 x_10 w3 =>
 Bp .lss x_10 x_9 fun x_12 =>
 Vif x_12 (
 Ias 1 x_8 x_10 fun x_13 =>
 Ld x_13 w3 fun x_14 =>
 Bp .eql x_6 x_14 fun x_15 =>
 Vif x_15 (
 R (.bool false) w3) (
 Bp .add x_10 (.int .i64 1) fun x_16 =>
 KE [l_p0, n_p1, x_6, l_p0, x_1, x_2, x_8, x_9] [l_p0, n_p1, x_6, l_p0, x_1, x_2, x_8, x_9] <| next11 x_16 w3)) (
 Bp .add x_2 (.int .i64 1) fun x_17 =>
 KE [l_p0, n_p1, l_p0, x_1] [l_p0, n_p1, l_p0, x_1] <| next3 x_17 w3)))
 (fun J18 =>
 Bp .lss x_6 (.int .i64 0) fun x_19 =>
 Vif x_19 (
 KE [l_p0, n_p1, x_2, x_6, l_p0, x_1, x_2] [l_p0, n_p1, x_2, x_6, l_p0, x_1, x_2] <| J18 (.bool true) w1) (
 Bp .geq x_6 n_p1 fun x_20 =>
 KE [l_p0, n_p1, x_2, x_6, l_p0, x_1, x_2] [l_p0, n_p1, x_2, x_6, l_p0, x_1, x_2] <| J18 x_20 w1))) (
 Lnl l_p0 fun x_21 =>
 Bp .eql x_21 n_p1 fun x_22 =>
 R x_22 w1)
theorem Tie.balerref17_Ordered {l_p0 n_p1 : Value} {w : World} {R : Value → World → Prop} (h : Vcf.balerref17_Ordered Try.prog l_p0 n_p1 w R) : Cl Try.prog F.balerref17_Ordered #[l_p0, n_p1] w R :=
  cl_of_vc (n := 40) (rs := [(.tmp 4)]) (h := (.s .z (.s (.s .z (.b (.l [11] [0, 1, 9, 10] (.s .z (.s (.i .z .z) (.s (.b (.s .z (.s (.j [22] [0, 1, 5, 6, 9, 10, 11] .z (.i (.s .z .z) .z)) (.s .z (.b (.l [27] [0, 1, 6, 9, 10, 11, 25, 26] (.s .z (.s (.i .z .z) (.s (.b (.s .z (.s .z (.i (.s .z .z) .z)))) .z))))))))) .z)))))) (.s .z .z)))) (args := [l_p0, n_p1]) (by kernel_rfl) Try.func23 rfl (by kernel_rfl) rfl rfl rfl (Eq.mp (by kernel_rfl) h)

/-- baler/balerref17.From -/
def Vcf.balerref17_From (P : Program) (s_p0 order_p1 : Value) (w : World) (R : Value → World → Prop) : Prop   :=
 New (zeroP P 24) 24 w fun x_1 w1 =>
 Bd P 24 #[] w1 fun x_2 =>
 New (zeroP P 24) 24 w1 fun out_3 w2 =>
 StA 2 out_3 x_2 w2 fun w3 =>
 Lnl order_p1 fun x_4 =>
 VLoop 1 [(.int .i64 0)] w3 fun _ next6 x_5 w4 =>
 Bp .lss x_5 x_4 fun x_7 =>
 Vif x_7 (
 Ias 1 order_p1 x_5 fun x_8 =>
 Ld x_8 w4 fun x_9 =>
 Cl P F.balerref15_Rotation #[s_p0, x_9] w4 fun x_10 w5 =>
 Dr w5 fun w6 =>
 Fo 0 out_3 fun x_11 =>
 Ld x_11 w6 fun x_12 =>
 Lns x_10 fun x_14 =>
 Bp .sub x_14 (.int .i64 1) fun x_16 =>
 Sst x_10 (some x_16) none fun x_17 =>
 Bp .add x_12 x_17 fun x_19 =>
 Fo 0 out_3 fun x_20 =>
 St x_20 x_19 w6 fun w7 =>
 Bp .eql x_9 (.int .i64 0) fun x_21 =>
 Vif x_21 (
 Fo 1 out_3 fun x_22 =>
 St x_22 x_5 w7 fun w8 =>
 Bp .add x_5 (.int .i64 1) fun x_23 =>
 KE [s_p0, x_1, out_3, order_p1, x_4] [s_p0, x_1, out_3, order_p1, x_4] <| next6 x_23 w8) (
 Bp .add x_5 (.int .i64 1) fun x_24 =>
 KE [s_p0, x_1, out_3, order_p1, x_4] [s_p0, x_1, out_3, order_p1, x_4] <| next6 x_24 w7)) (
 LdA 2 out_3 w4 fun x_25 =>
 StA 2 x_1 x_25 w4 fun w9 =>
 LdA 2 x_1 w9 fun x_26 =>
 R x_26 w9)
theorem Tie.balerref17_From {s_p0 order_p1 : Value} {w : World} {R : Value → World → Prop} (h : Vcf.balerref17_From Try.prog s_p0 order_p1 w R) : Cl Try.prog F.balerref17_From #[s_p0, order_p1] w R :=
  cl_of_vc (n := 35) (rs := [(.cell 4 24)]) (h := (.s .z (.s .z (.s (.s .z (.b (.l [12] [0, 4, 5, 10, 11] (.s .z (.s (.i .z .z) (.s (.b (.s .z (.s .z (.s (.r (.staged [0, 1, 0, 0, 8, 24, 60, 127, 255, 511])) (.s .z (.i .z .z)))))) .z)))))) (.s .z .z))))) (args := [s_p0, order_p1]) (by kernel_rfl) Try.func24 rfl (by kernel_rfl) rfl rfl rfl (Eq.mp (by kernel_rfl) h)

/-- baler/balerref15.Sorted -/
def Vcf.balerref15_Sorted (P : Program) (s_p0 : Value) (w : World) (R : Value → World → Prop) : Prop   :=
 Lns s_p0 fun x_1 =>
 VLoop 2 [(.slice none 0 0), (.int .i64 0)] w fun _ next4 out_2 x_3 w1 =>
 Bp .lss x_3 x_1 fun x_5 =>
 Vif x_5 (
 Lnl out_2 fun x_6 =>
 VLoop 3 [(.slice none 0 0), (.bool false), (.int .i64 0)] w1 fun _ next10 next_7 put_8 x_9 w2 =>
 Bp .lss x_9 x_6 fun x_11 =>
 Vif x_11 (
 Ias 1 out_2 x_9 fun x_12 =>
 Ld x_12 w2 fun x_13 =>
 VJoin 2 (fun _ next_14 put_15 w3 =>
 Bs P 37 1 #[(0, x_13)] w3 fun x_16 w4 =>
 Ap P #[37, 37] 37 #[next_14, x_16] w4 fun x_17 w5 =>
 Bp .add x_9 (.int .i64 1) fun x_18 =>
 KE [s_p0, x_3, x_1, x_3, out_2, x_6] [s_p0, x_3, x_1, x_3, out_2, x_6] <| next10 x_17 put_15 x_18 w5)
 (fun J19 =>
 VJoin 1 (fun _ x_20 w6 =>
 Vif x_20 (
 Bs P 37 1 #[(0, x_3)] w6 fun x_21 w7 =>
 Ap P #[37, 37] 37 #[next_7, x_21] w7 fun x_22 w8 =>
 KE [s_p0, x_3, x_13, x_1, x_3, out_2, x_6, x_9] [s_p0, x_3, x_13, x_1, x_3, out_2, x_6, x_9] <| J19 x_22 (.bool true) w8) (
 KE [s_p0, x_3, x_13, x_1, x_3, out_2, x_6, x_9] [s_p0, x_3, x_13, x_1, x_3, out_2, x_6, x_9] <| J19 next_7 put_8 w6))
 (fun J23 =>
 Up .not put_8 fun x_24 =>
 Vif x_24 (
 Cl P F.balerref15_Ahead #[s_p0, x_3, x_13] w2 fun x_25 w9 =>
 KE [s_p0, x_3, next_7, put_8, x_13, x_1, x_3, out_2, x_6, x_9] [s_p0, x_3, next_7, put_8, x_13, x_1, x_3, out_2, x_6, x_9] <| J23 x_25 w9) (
 KE [s_p0, x_3, next_7, put_8, x_13, x_1, x_3, out_2, x_6, x_9] [s_p0, x_3, next_7, put_8, x_13, x_1, x_3, out_2, x_6, x_9] <| J23 (.bool false) w2)))) (
 VJoin 1 (fun _ next_26 w10 =>
 Bp .add x_3 (.int .i64 1) fun x_27 =>
 KE [s_p0, x_1] [s_p0, x_1] <| next4 next_26 x_27 w10)
 (fun J28 =>
 Up .not put_8 fun x_29 =>
 Vif x_29 (
 Bs P 37 1 #[(0, x_3)] w2 fun x_30 w11 =>
 Ap P #[37, 37] 37 #[next_7, x_30] w11 fun x_31 w12 =>
 KE [s_p0, x_1, x_3] [s_p0, x_1, x_3] <| J28 x_31 w12) (
 KE [s_p0, x_1, x_3] [s_p0, x_1, x_3] <| J28 next_7 w2)))) (
 R out_2 w1)
theorem Tie.balerref15_Sorted {s_p0 : Value} {w : World} {R : Value → World → Prop} (h : Vcf.balerref15_Sorted Try.prog s_p0 w R) : Cl Try.prog F.balerref15_Sorted #[s_p0] w R :=
  cl_of_vc (n := 46) (rs := [(.tmp 2)]) (h := (.s .z (.s .z (.s (.s .z (.b (.l [3, 11] [0, 10] (.s .z (.s (.i .z .z) (.s (.b (.s .z (.s .z (.s .z (.s (.s .z (.b (.l [5, 6, 16] [0, 4, 10, 11, 14, 15] (.s .z (.s (.i .z .z) (.s (.b (.s .z (.j [5, 6] [0, 4, 8, 10, 11, 14, 15, 16] (.j [27] [0, 4, 5, 6, 8, 10, 11, 14, 15, 16] .z (.i (.s .z .z) .z)) .z))) .z)))))) (.j [5] [0, 10, 11] (.s .z (.i .z .z)) .z)))))) .z)))))) (.s .z .z))))) (args := [s_p0]) (by kernel_rfl) Try.func25 rfl (by kernel_rfl) rfl rfl rfl (Eq.mp (by kernel_rfl) h)

/-- (baler/unbwt.Inverter).step -/
def Vcf.unbwt_Inverter_step (P : Program) (v_p0 : Value) (w : World) (R : Value → World → Prop) : Prop   :=
 Nc v_p0 <|
 Fo 0 v_p0 fun x_1 =>
 Ld x_1 w fun x_2 =>
 Lns x_2 fun x_3 =>
 Nc v_p0 <|
 Fo 260 v_p0 fun x_4 =>
 Ld x_4 w fun x_5 =>
 Bp .rem x_5 x_3 fun x_6 =>
 VJoin 0 (fun _ w1 =>
 Nc v_p0 <|
 Fo 260 v_p0 fun x_7 =>
 Ld x_7 w1 fun x_8 =>
 Bp .add x_8 (.int .i64 1) fun x_9 =>
 Nc v_p0 <|
 Fo 260 v_p0 fun x_10 =>
 St x_10 x_9 w1 fun w2 =>
 R (.tuple #[]) w2)
 (fun J11 =>
 Nc v_p0 <|
 Fo 260 v_p0 fun x_12 =>
 Ld x_12 w fun x_13 =>
 Bp .quo x_13 x_3 fun x_14 =>
 Bp .eql x_14 (.int .i64 0) fun x_15 =>
 Vif x_15 (
 Dr w fun w3 =>
 Nc v_p0 <|
 Fo 0 v_p0 fun x_16 =>
 Ld x_16 w3 fun x_17 =>
 Ixs x_17 x_6 fun x_19 =>
 Nc v_p0 <|
 Fo 1 v_p0 fun x_20 =>
 Iaa 256 1 x_20 x_19 fun x_21 =>
 Ld x_21 w3 fun x_22 =>
 Bp .add x_22 (.int .i64 1) fun x_24 =>
 Nc v_p0 <|
 Fo 1 v_p0 fun x_25 =>
 Iaa 256 1 x_25 x_19 fun x_26 =>
 St x_26 x_24 w3 fun w4 =>
 Bp .sub x_3 (.int .i64 1) fun x_27 =>
 Bp .eql x_6 x_27 fun x_28 =>
 Vif x_28 (
 Cl P F.unbwt_Inverter_begins #[v_p0] w4 fun x_29 w5 =>
 KE [v_p0] [v_p0] <| J11 w5) (
 KE [v_p0] [v_p0] <| J11 w4)) (
 Bp .eql x_14 (.int .i64 1) fun x_30 =>
 Vif x_30 (
 Nc v_p0 <|
 Fo 0 v_p0 fun x_31 =>
 Ld x_31 w fun x_32 =>
 Ixs x_32 x_6 fun x_33 =>
 Dr w fun w6 =>
 Nc v_p0 <|
 Fo 257 v_p0 fun x_34 =>
 Ld x_34 w6 fun x_35 =>
 Nc v_p0 <|
 Fo 1 v_p0 fun x_37 =>
 Iaa 256 1 x_37 x_33 fun x_38 =>
 Ld x_38 w6 fun x_39 =>
 Ias 1 x_35 x_39 fun x_41 =>
 St x_41 x_6 w6 fun w7 =>
 Dr w7 fun w8 =>
 Nc v_p0 <|
 Fo 1 v_p0 fun x_42 =>
 Iaa 256 1 x_42 x_33 fun x_43 =>
 Ld x_43 w8 fun x_44 =>
 Bp .add x_44 (.int .i64 1) fun x_46 =>
 Nc v_p0 <|
 Fo 1 v_p0 fun x_47 =>
 Iaa 256 1 x_47 x_33 fun x_48 =>
 St x_48 x_46 w8 fun w9 =>
 KE [v_p0] [v_p0] <| J11 w9) (
 Dr w fun w10 =>
 Nc v_p0 <|
 Fo 257 v_p0 fun x_49 =>
 Ld x_49 w10 fun x_50 =>
 Nc v_p0 <|
 Fo 258 v_p0 fun x_52 =>
 Ld x_52 w10 fun x_53 =>
 Ias 1 x_50 x_53 fun x_55 =>
 Ld x_55 w10 fun x_56 =>
 Nc v_p0 <|
 Fo 258 v_p0 fun x_58 =>
 St x_58 x_56 w10 fun w11 =>
 Dr w11 fun w12 =>
 Nc v_p0 <|
 Fo 259 v_p0 fun x_59 =>
 Ld x_59 w12 fun x_60 =>
 Nc v_p0 <|
 Fo 0 v_p0 fun x_62 =>
 Ld x_62 w12 fun x_63 =>
 Nc v_p0 <|
 Fo 258 v_p0 fun x_65 =>
 Ld x_65 w12 fun x_66 =>
 Ixs x_63 x_66 fun x_68 =>
 Bs P 34 1 #[(0, x_68)] w12 fun x_69 w13 =>
 Rk (fun w K => Ld x_59 w fun x_61 => K x_61) x_60 w13 <|
 Ap P #[34, 34] 34 #[x_60, x_69] w13 fun x_70 w14 =>
 Nc v_p0 <|
 Fo 259 v_p0 fun x_71 =>
 St x_71 x_70 w14 fun w15 =>
 KE [v_p0] [v_p0] <| J11 w15)))
theorem Tie.unbwt_Inverter_step {v_p0 : Value} {w : World} {R : Value → World → Prop} (h : Vcf.unbwt_Inverter_step Try.prog v_p0 w R) : Cl Try.prog F.unbwt_Inverter_step #[v_p0] w R :=
  cl_of_vc (n := 113) (rs := []) (h := (.s .z (.s .z (.j [] [0] (.s .z (.b (.s .z (.i (.s (.r (.staged [0, 0, 2, 6, 14, 0, 62, 1, 129, 511, 1023, 2047, 1, 4097, 16383, 32767])) (.s .z (.i .z .z))) (.s .z (.i (.s .z (.s (.r (.staged [0, 1, 3, 7, 0, 0, 16, 80, 240, 496, 0, 2047, 4095])) (.r (.staged [0, 0, 1, 5, 15, 31, 63, 1, 129, 511, 1023])))) (.s (.r (.staged [0, 0, 2, 6, 14, 0, 32, 96, 224, 510, 1022, 2047, 4095, 8191])) (.r (.staged [0, 0, 2, 6, 14, 0, 32, 96, 224, 0, 512, 1536, 3584, 8160, 16352, 32766, 65535, 131071, 262143]))))))))) .z)))) (args := [v_p0]) (by kernel_rfl) Try.func26 rfl (by kernel_rfl) rfl rfl rfl (Eq.mp (by kernel_rfl) h)

/-- baler/balerref15.Rotation -/
def Vcf.balerref15_Rotation (P : Program) (s_p0 i_p1 : Value) (w : World) (R : Value → World → Prop) : Prop   :=
 Dr w fun w1 =>
 Sst s_p0 (some i_p1) none fun x_1 =>
 Sst s_p0 none (some i_p1) fun x_3 =>
 Bp .add x_1 x_3 fun x_5 =>
 R x_5 w1
theorem Tie.balerref15_Rotation {s_p0 i_p1 : Value} {w : World} {R : Value → World → Prop} (h : Vcf.balerref15_Rotation Try.prog s_p0 i_p1 w R) : Cl Try.prog F.balerref15_Rotation #[s_p0, i_p1] w R :=
  cl_of_vc (n := 12) (rs := [(.tmp 4)]) (h := (.s .z (.s (.r (.staged [0, 0, 3, 0, 0, 24, 63, 127])) .z))) (args := [s_p0, i_p1]) (by kernel_rfl) Try.func27 rfl (by kernel_rfl) rfl rfl rfl (Eq.mp (by kernel_rfl) h)

/-- baler/balerref15.Ahead -/
def Vcf.balerref15_Ahead (P : Program) (s_p0 i_p1 k_p2 : Value) (w : World) (R : Value → World → Prop) : Prop   :=
 Cl P F.balerref15_Rotation #[s_p0, i_p1] w fun x_1 w1 =>
 Cl P F.balerref15_Rotation #[s_p0, k_p2] w1 fun x_2 w2 =>
 Bp .lss x_1 x_2 fun x_3 =>
 Vif x_3 (
 R (.bool true) w2) (
 Bp .eql x_1 x_2 fun x_4 =>
 Vif x_4 (
 Bp .lss i_p1 k_p2 fun x_5 =>
 R x_5 w2) (
 R (.bool false) w2))
theorem Tie.balerref15_Ahead {s_p0 i_p1 k_p2 : Value} {w : World} {R : Value → World → Prop} (h : Vcf.balerref15_Ahead Try.prog s_p0 i_p1 k_p2 w R) : Cl Try.prog F.balerref15_Ahead #[s_p0, i_p1, k_p2] w R :=
  cl_of_vc (n := 28) (rs := [(.tmp 6)]) (h := (.s .z (.s .z (.s .z (.s .z .z))))) (args := [s_p0, i_p1, k_p2]) (by kernel_rfl) Try.func28 rfl (by kernel_rfl) rfl rfl rfl (Eq.mp (by kernel_rfl) h)

/-- (baler/unbwt.Inverter).begins -/
def Vcf.unbwt_Inverter_begins (P : Program) (v_p0 : Value) (w : World) (R : Value → World → Prop) : Prop   :=
 Nc v_p0 <|
 Fo 1 v_p0 fun x_1 =>
 LdA 256 x_1 w fun x_2 =>
 VLoop 2 [(.int .i64 0), (.int .i64 0)] w fun _ next5 from_3 x_4 w1 =>
 Bp .lss x_4 (.int .i64 256) fun x_6 =>
 Vif x_6 (
 Ixa 256 1 false x_2 x_4 fun x_7 =>
 Nc v_p0 <|
 Fo 1 v_p0 fun x_8 =>
 Iaa 256 1 x_8 x_4 fun x_9 =>
 St x_9 from_3 w1 fun w2 =>
 Bp .add from_3 x_7 fun x_10 =>
 Bp .add x_4 (.int .i64 1) fun x_11 =>
 KE [v_p0, x_2] [v_p0, x_2] <| next5 x_10 x_11 w2) (
 R (.tuple #[]) w1)
theorem Tie.unbwt_Inverter_begins {v_p0 : Value} {w : World} {R : Value → World → Prop} (h : Vcf.unbwt_Inverter_begins Try.prog v_p0 w R) : Cl Try.prog F.unbwt_Inverter_begins #[v_p0] w R :=
  cl_of_vc (n := 23) (rs := []) (h := (.s .z (.s .z (.b (.l [2, 9] [0, 8] (.s .z (.s (.i .z .z) (.s (.b (.s .z (.s .z .z))) .z)))))))) (args := [v_p0]) (by kernel_rfl) Try.func29 rfl (by kernel_rfl) rfl rfl rfl (Eq.mp (by kernel_rfl) h)

end Go.Proofs.Ytbccjjbfiodbeaa
