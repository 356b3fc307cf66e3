/- Formulas of the program's functions, printed by a program of the prover's own (dec.py); each is tied to its code by the kernel. -/
import Derived.Test.YtbccjjbfiodbeaaDoorVc
import Derived.Test.YtbccjjbfiodbeaaDoorChecked
set_option linter.unusedVariables false
set_option maxRecDepth 1000000
namespace Go.Proofs.YtbccjjbfiodbeaaDoor
open Go Go.Vc

abbrev F.main_main : Nat := 0
abbrev F.gosem_cut : Nat := 1
abbrev F.gosem_cut_init : Nat := 2
abbrev F.balerlaw45_BoundSteps : Nat := 3
abbrev F.balerlaw45_BoundGrows : Nat := 4
abbrev F.bound_Steps : Nat := 5
abbrev F.balerref45_May : Nat := 6
abbrev F.balerlaw45_ten : Nat := 7
abbrev F.balerref45_Steps : Nat := 8
abbrev F.balerref42_Large : Nat := 9
abbrev F.balerref32_Config : Nat := 10
abbrev F.bound_Ticks : Nat := 11
abbrev F.split_Room : Nat := 12
abbrev F.bound_pressed : Nat := 13
abbrev F.bound_expanded : Nat := 14
abbrev F.balerref21_Unit : Nat := 15
abbrev F.balerref21_Level : Nat := 16
abbrev F.balerref45_add : Nat := 17
abbrev F.balerref45_mul : Nat := 18
abbrev F.balerref16_Most : Nat := 19
abbrev F.balerref32_Check : Nat := 20
abbrev F.balerref32_most : Nat := 21
abbrev F.tenants_Config : Nat := 22
abbrev F.bound_sum : Nat := 23
abbrev F.bound_times : Nat := 24
abbrev F.bound_upTo : Nat := 25
abbrev F.bwt_Most : Nat := 26
abbrev F.balerref32_May : Nat := 27
abbrev F.tenants_Check : Nat := 28
abbrev F.tenants_between : Nat := 29
abbrev F.sorter_Most : Nat := 30
abbrev F.balerref31_Word : Nat := 31
abbrev F.tenants_May : Nat := 32
abbrev F.tenants_again : Nat := 33
abbrev F.balerref31_Runes : Nat := 34
abbrev F.balerref31_May : Nat := 35
abbrev F.token_Is : Nat := 36
abbrev F.balerref31_First : Nat := 37
abbrev F.token_First : Nat := 38
abbrev F.token_Len : Nat := 39
abbrev F.balerref31_wide : Nat := 40
abbrev F.token_told : Nat := 41
abbrev F.token_may : Nat := 42
abbrev F.balerref31_more : Nat := 43
abbrev F.unicode_utf8_DecodeRuneInString : Nat := 44
abbrev F.unicode_utf8_decodeRuneInStringSlow : Nat := 45
abbrev F.runtime_boundsError_Error : Nat := 46
abbrev F.runtime_boundsError_RuntimeError : Nat := 47
abbrev F.runtime_errorString_Error : Nat := 48
abbrev F.runtime_errorString_RuntimeError : Nat := 49
abbrev F.runtime_plainError_Error : Nat := 50
abbrev F.runtime_plainError_RuntimeError : Nat := 51
abbrev F.runtime_errorAddressString_Error : Nat := 52
abbrev F.runtime_errorAddressString_RuntimeError : Nat := 53
abbrev F.runtime_TypeAssertionError_Error : Nat := 54
abbrev F.runtime_TypeAssertionError_RuntimeError : Nat := 55
abbrev F.runtime_PanicNilError_Error : Nat := 56
abbrev F.runtime_PanicNilError_RuntimeError : Nat := 57
abbrev F.internal_abi_Type_Align : Nat := 58
abbrev F.internal_runtime_maps_unhashableTypeError_Error : Nat := 59
abbrev F.internal_runtime_maps_unhashableTypeError_RuntimeError : Nat := 60
abbrev F.api_Errno_Error : Nat := 61
abbrev F.internal_abi_Kind_String : Nat := 62
abbrev F.var_s_door_gosem_cut_vars_holds_initialisers_alone_see_the_manifest_s_row_cutvarsword_look_11_test_files_too : Nat := 63
abbrev F.var_s_door_the_look_of_gosem_cut_vars_went_over_the_folder_that_the_caller_named_as_the_repository_s_root_look_11 : Nat := 64
abbrev F.var_s_door_unicode_utf8_acceptRanges_is_laid_by_its_own_initialiser_plain_data_look_11 : Nat := 65
abbrev F.var_s_door_unicode_utf8_first_is_laid_by_its_text_alone_pinned_1 : Nat := 66
abbrev F.gosem_cut_vars : Nat := 67

/-- baler/balerlaw45.BoundSteps -/
def Vcf.balerlaw45_BoundSteps (P : Program) (s_p0 n_p1 : Value) (w : World) (R : Value → World → Prop) : Prop   :=
 New s_p0 24 w fun s_1 w1 =>
 Fo 0 s_1 fun x_2 =>
 Ld x_2 w1 fun x_3 =>
 Fo 1 s_1 fun x_4 =>
 Ld x_4 w1 fun x_5 =>
 Fo 2 s_1 fun x_6 =>
 Ld x_6 w1 fun x_7 =>
 Cl P F.bound_Steps #[x_3, x_5, x_7, n_p1] w1 fun x_8 w2 =>
 Ex x_8 0 fun x_9 =>
 Ex x_8 1 fun x_10 =>
 Fo 0 s_1 fun x_11 =>
 Ld x_11 w2 fun x_12 =>
 Fo 1 s_1 fun x_13 =>
 Ld x_13 w2 fun x_14 =>
 Fo 2 s_1 fun x_15 =>
 Ld x_15 w2 fun x_16 =>
 Cl P F.balerref45_May #[x_12, x_14, x_16, n_p1] w2 fun x_17 w3 =>
 Up .not x_17 fun x_18 =>
 Vif x_18 (
 Bp .eql x_10 (.int .i64 1) fun x_19 =>
 Vif x_19 (
 Bp .eql x_9 (.int .i64 0) fun x_20 =>
 Vif x_20 (
 Cl P F.balerlaw45_ten #[] w3 fun x_21 w4 =>
 R x_21 w4) (
 R (.bool false) w3)) (
 R (.bool false) w3)) (
 Bp .gtr n_p1 (.int .i64 10000) fun x_22 =>
 Vif x_22 (
 Bp .eql x_10 (.int .i64 0) fun x_23 =>
 Vif x_23 (
 Bp .gtr x_9 n_p1 fun x_24 =>
 Vif x_24 (
 Bp .leq x_9 (.int .i64 1099511627776) fun x_25 =>
 Vif x_25 (
 Cl P F.balerlaw45_ten #[] w3 fun x_26 w5 =>
 R x_26 w5) (
 R (.bool false) w3)) (
 R (.bool false) w3)) (
 R (.bool false) w3)) (
 Bp .eql x_10 (.int .i64 0) fun x_27 =>
 Vif x_27 (
 Fo 0 s_1 fun x_28 =>
 Ld x_28 w3 fun x_29 =>
 Fo 1 s_1 fun x_30 =>
 Ld x_30 w3 fun x_31 =>
 Fo 2 s_1 fun x_32 =>
 Ld x_32 w3 fun x_33 =>
 Cl P F.balerref45_Steps #[x_29, x_31, x_33, n_p1] w3 fun x_34 w6 =>
 Bp .eql x_9 x_34 fun x_35 =>
 Vif x_35 (
 Cl P F.balerlaw45_ten #[] w6 fun x_36 w7 =>
 R x_36 w7) (
 R (.bool false) w6)) (
 R (.bool false) w3)))
theorem Tie.balerlaw45_BoundSteps {s_p0 n_p1 : Value} {w : World} {R : Value → World → Prop} (h : Vcf.balerlaw45_BoundSteps Tryd.prog s_p0 n_p1 w R) : Cl Tryd.prog F.balerlaw45_BoundSteps #[s_p0, n_p1] w R :=
  cl_of_vc (n := 69) (rs := [(.tmp 4)]) (h := (.s .z (.s .z (.s (.s .z (.i (.s .z .z) .z)) (.s (.s .z (.i (.s .z .z) .z)) (.s .z .z)))))) (args := [s_p0, n_p1]) (by kernel_rfl) Tryd.func3 rfl (by kernel_rfl) rfl rfl rfl (Eq.mp (by kernel_rfl) h)

/-- baler/balerlaw45.BoundGrows -/
def Vcf.balerlaw45_BoundGrows (P : Program) (c_p0 s_p1 q_p2 : Value) (w : World) (R : Value → World → Prop) : Prop   :=
 New c_p0 34 w fun c_1 w1 =>
 New s_p1 24 w1 fun s_2 w2 =>
 New q_p2 35 w2 fun q_3 w3 =>
 VJoin 1 (fun _ x_4 w4 =>
 Vif x_4 (
 Cl P F.balerlaw45_ten #[] w4 fun x_5 w5 =>
 R x_5 w5) (
 Iaa 2 1 q_3 (.int .i64 0) fun x_6 =>
 Ld x_6 w4 fun x_7 =>
 Bmax P #[3, 3] 3 #[x_7, (.int .i64 0)] w4 fun x_8 =>
 Bmin P #[3, 3] 3 #[x_8, (.int .i64 1048576)] w4 fun x_9 =>
 Iaa 2 1 q_3 (.int .i64 1) fun x_10 =>
 Ld x_10 w4 fun x_11 =>
 Bmax P #[3, 3] 3 #[x_11, (.int .i64 0)] w4 fun x_12 =>
 Bmin P #[3, 3] 3 #[x_12, (.int .i64 1048576)] w4 fun x_13 =>
 Bp .add x_9 x_13 fun x_14 =>
 Bmin P #[3, 3] 3 #[x_14, (.int .i64 1048576)] w4 fun x_15 =>
 Fo 0 s_2 fun x_16 =>
 Ld x_16 w4 fun x_17 =>
 Fo 1 s_2 fun x_18 =>
 Ld x_18 w4 fun x_19 =>
 Fo 2 s_2 fun x_20 =>
 Ld x_20 w4 fun x_21 =>
 Cl P F.bound_Steps #[x_17, x_19, x_21, x_9] w4 fun x_22 w6 =>
 Ex x_22 0 fun x_23 =>
 Ex x_22 1 fun x_24 =>
 Fo 0 s_2 fun x_25 =>
 Ld x_25 w6 fun x_26 =>
 Fo 1 s_2 fun x_27 =>
 Ld x_27 w6 fun x_28 =>
 Fo 2 s_2 fun x_29 =>
 Ld x_29 w6 fun x_30 =>
 Cl P F.bound_Steps #[x_26, x_28, x_30, x_15] w6 fun x_31 w7 =>
 Ex x_31 0 fun x_32 =>
 Ex x_31 1 fun x_33 =>
 VJoin 1 (fun _ x_34 w8 =>
 Vif x_34 (
 Bp .eql x_24 x_33 fun x_35 =>
 Vif x_35 (
 Fo 0 s_2 fun x_36 =>
 Ld x_36 w8 fun x_37 =>
 Fo 1 s_2 fun x_38 =>
 Ld x_38 w8 fun x_39 =>
 Fo 2 s_2 fun x_40 =>
 Ld x_40 w8 fun x_41 =>
 Cl P F.balerref45_May #[x_37, x_39, x_41, x_9] w8 fun x_42 w9 =>
 Up .not x_42 fun x_43 =>
 Vif x_43 (
 Cl P F.balerlaw45_ten #[] w9 fun x_44 w10 =>
 R x_44 w10) (
 R (.bool false) w9)) (
 R (.bool false) w8)) (
 LdA 7 c_1 w8 fun x_45 =>
 Cl P F.bound_Ticks #[x_45, x_23] w8 fun x_46 w11 =>
 Ex x_46 0 fun x_47 =>
 Ex x_46 1 fun x_48 =>
 LdA 7 c_1 w11 fun x_49 =>
 Cl P F.bound_Ticks #[x_49, x_32] w11 fun x_50 w12 =>
 Ex x_50 0 fun x_51 =>
 Ex x_50 1 fun x_52 =>
 Bp .leq x_23 x_32 fun x_53 =>
 Vif x_53 (
 Bp .eql x_48 (.int .i64 0) fun x_54 =>
 Vif x_54 (
 Bp .eql x_52 (.int .i64 0) fun x_55 =>
 Vif x_55 (
 Bp .leq x_47 x_51 fun x_56 =>
 Vif x_56 (
 Cl P F.balerlaw45_ten #[] w12 fun x_57 w13 =>
 R x_57 w13) (
 R (.bool false) w12)) (
 R (.bool false) w12)) (
 R (.bool false) w12)) (
 R (.bool false) w12)))
 (fun J58 =>
 Bp .neq x_24 (.int .i64 0) fun x_59 =>
 Vif x_59 (
 KE [c_1, s_2, x_9, x_23, x_24, x_32, x_33] [c_1, s_2, x_9, x_23, x_24, x_32, x_33] <| J58 (.bool true) w7) (
 Bp .neq x_33 (.int .i64 0) fun x_60 =>
 KE [c_1, s_2, x_9, x_23, x_24, x_32, x_33] [c_1, s_2, x_9, x_23, x_24, x_32, x_33] <| J58 x_60 w7))))
 (fun J61 =>
 LdA 7 c_1 w3 fun x_62 =>
 Bd P 40 #[(0, x_62)] w3 fun x_63 =>
 Cl P F.balerref42_Large #[x_63, (.int .i64 0)] w3 fun x_64 w14 =>
 Vif x_64 (
 KE [c_1, s_2, q_3] [c_1, s_2, q_3] <| J61 (.bool true) w14) (
 LdA 7 c_1 w14 fun x_65 =>
 Cl P F.balerref32_Config #[x_65] w14 fun x_66 w15 =>
 Bp .neq x_66 (.int .i64 0) fun x_67 =>
 KE [c_1, s_2, q_3] [c_1, s_2, q_3] <| J61 x_67 w15))
theorem Tie.balerlaw45_BoundGrows {c_p0 s_p1 q_p2 : Value} {w : World} {R : Value → World → Prop} (h : Vcf.balerlaw45_BoundGrows Tryd.prog c_p0 s_p1 q_p2 w R) : Cl Tryd.prog F.balerlaw45_BoundGrows #[c_p0, s_p1, q_p2] w R :=
  cl_of_vc (n := 113) (rs := [(.tmp 6)]) (h := (.s .z (.s (.j [24] [3, 4, 5] .z (.i (.s .z .z) .z)) (.s .z (.s .z (.s .z (.s .z (.s (.j [64] [3, 4, 7, 9, 10, 11, 12] .z (.i (.s .z .z) .z)) (.s .z (.s .z (.s .z .z))))))))))) (args := [c_p0, s_p1, q_p2]) (by kernel_rfl) Tryd.func4 rfl (by kernel_rfl) rfl rfl rfl (Eq.mp (by kernel_rfl) h)

/-- baler/bound.Steps -/
def Vcf.bound_Steps (P : Program) (kind_p0 level_p1 unit_p2 n_p3 : Value) (w : World) (R : Value → World → Prop) : Prop   :=
 VJoin 1 (fun _ x_1 w1 =>
 Vif x_1 (
 R (.tuple #[(.int .i64 0), (.int .i64 1)]) w1) (
 Bp .eql kind_p0 (.int .i64 1) fun x_2 =>
 Vif x_2 (
 Cl P F.split_Room #[level_p1, unit_p2] w1 fun x_3 w2 =>
 Ex x_3 0 fun x_4 =>
 Ex x_3 1 fun x_5 =>
 Bp .neq x_5 (.int .i64 0) fun x_6 =>
 Vif x_6 (
 R (.tuple #[(.int .i64 0), x_5]) w2) (
 Cl P F.bound_pressed #[x_4, n_p3] w2 fun x_7 w3 =>
 R (.tuple #[x_7, (.int .i64 0)]) w3)) (
 VJoin 1 (fun _ x_8 w4 =>
 Vif x_8 (
 Cl P F.split_Room #[(.int .i64 1), unit_p2] w4 fun x_9 w5 =>
 Ex x_9 0 fun x_10 =>
 Ex x_9 1 fun x_11 =>
 Bp .neq x_11 (.int .i64 0) fun x_12 =>
 Vif x_12 (
 R (.tuple #[(.int .i64 0), x_11]) w5) (
 Cl P F.bound_expanded #[unit_p2, n_p3] w5 fun x_13 w6 =>
 R (.tuple #[x_13, (.int .i64 0)]) w6)) (
 R (.tuple #[(.int .i64 0), (.int .i64 1)]) w4))
 (fun J14 =>
 Bp .eql kind_p0 (.int .i64 2) fun x_15 =>
 Vif x_15 (
 KE [unit_p2, n_p3] [unit_p2, n_p3] <| J14 x_15 w1) (
 Bp .eql kind_p0 (.int .i64 3) fun x_16 =>
 KE [unit_p2, n_p3] [unit_p2, n_p3] <| J14 x_16 w1)))))
 (fun J17 =>
 Bp .lss n_p3 (.int .i64 0) fun x_18 =>
 Vif x_18 (
 KE [kind_p0, level_p1, unit_p2, n_p3] [kind_p0, level_p1, unit_p2, n_p3] <| J17 (.bool true) w) (
 Bp .gtr n_p3 (.int .i64 1048576) fun x_19 =>
 KE [kind_p0, level_p1, unit_p2, n_p3] [kind_p0, level_p1, unit_p2, n_p3] <| J17 x_19 w))
theorem Tie.bound_Steps {kind_p0 level_p1 unit_p2 n_p3 : Value} {w : World} {R : Value → World → Prop} (h : Vcf.bound_Steps Tryd.prog kind_p0 level_p1 unit_p2 n_p3 w R) : Cl Tryd.prog F.bound_Steps #[kind_p0, level_p1, unit_p2, n_p3] w R :=
  cl_of_vc (n := 49) (rs := [(.tmp 8), (.tmp 9)]) (h := (.s .z (.s (.j [19] [0, 1, 2, 3] .z (.i (.s .z .z) .z)) (.s (.s .z (.b (.s .z (.i (.s .z (.s (.s .z (.i (.s .z .z) .z)) (.s .z .z))) (.j [35] [2, 3] (.s .z (.i .z .z)) (.i (.s (.s .z (.s .z (.i (.s .z .z) .z))) (.s .z .z)) .z)))))) (.s .z .z))))) (args := [kind_p0, level_p1, unit_p2, n_p3]) (by kernel_rfl) Tryd.func5 rfl (by kernel_rfl) rfl rfl rfl (Eq.mp (by kernel_rfl) h)

/-- baler/balerref45.May -/
def Vcf.balerref45_May (P : Program) (kind_p0 level_p1 unit_p2 n_p3 : Value) (w : World) (R : Value → World → Prop) : Prop   :=
 VJoin 1 (fun _ x_1 w1 =>
 Vif x_1 (
 R (.bool false) w1) (
 Bp .eql kind_p0 (.int .i64 2) fun x_2 =>
 Vif x_2 (
 R (.bool true) w1) (
 Bp .eql kind_p0 (.int .i64 3) fun x_3 =>
 Vif x_3 (
 R (.bool true) w1) (
 Bp .eql kind_p0 (.int .i64 1) fun x_4 =>
 Vif x_4 (
 Cl P F.balerref21_Level #[level_p1] w1 fun x_5 w2 =>
 R x_5 w2) (
 R (.bool false) w1)))))
 (fun J6 =>
 Cl P F.balerref21_Unit #[unit_p2] w fun x_7 w3 =>
 Up .not x_7 fun x_8 =>
 Vif x_8 (
 KE [kind_p0, level_p1] [kind_p0, level_p1] <| J6 (.bool true) w3) (
 Bp .lss n_p3 (.int .i64 0) fun x_9 =>
 Vif x_9 (
 KE [kind_p0, level_p1] [kind_p0, level_p1] <| J6 (.bool true) w3) (
 Bp .gtr n_p3 (.int .i64 1048576) fun x_10 =>
 KE [kind_p0, level_p1] [kind_p0, level_p1] <| J6 x_10 w3)))
theorem Tie.balerref45_May {kind_p0 level_p1 unit_p2 n_p3 : Value} {w : World} {R : Value → World → Prop} (h : Vcf.balerref45_May Tryd.prog kind_p0 level_p1 unit_p2 n_p3 w R) : Cl Tryd.prog F.balerref45_May #[kind_p0, level_p1, unit_p2, n_p3] w R :=
  cl_of_vc (n := 34) (rs := [(.tmp 8)]) (h := (.s .z (.s (.j [19] [0, 1] .z (.i (.s .z .z) .z)) (.s .z .z)))) (args := [kind_p0, level_p1, unit_p2, n_p3]) (by kernel_rfl) Tryd.func6 rfl (by kernel_rfl) rfl rfl rfl (Eq.mp (by kernel_rfl) h)

/-- baler/balerlaw45.ten -/
def Vcf.balerlaw45_ten (P : Program) (w : World) (R : Value → World → Prop) : Prop   :=
 Bd P 48 #[(0, (.string ⟨#[97]⟩)), (1, (.string ⟨#[98]⟩)), (3, (.int .i64 1)), (4, (.int .i64 30))] w fun x_1 =>
 New (zeroP P 48) 48 w fun t_2 w1 =>
 StA 5 t_2 x_1 w1 fun w2 =>
 Bd P 48 #[(0, (.string ⟨#[99]⟩)), (1, (.string ⟨#[100]⟩)), (3, (.int .i64 1)), (4, (.int .i64 30))] w2 fun x_3 =>
 New (zeroP P 48) 48 w2 fun u_4 w3 =>
 StA 5 u_4 x_3 w3 fun w4 =>
 LdA 5 t_2 w4 fun x_5 =>
 LdA 5 u_4 w4 fun x_6 =>
 Bs P 32 2 #[(0, x_5), (1, x_6)] w4 fun x_7 w5 =>
 Bd P 34 #[(0, x_7), (1, (.int .i64 24)), (2, (.int .i64 64)), (3, (.int .i64 50)), (4, (.int .i64 1)), (5, (.int .i64 2)), (6, (.int .i64 1))] w5 fun x_8 =>
 Cl P F.bound_Ticks #[x_8, (.int .i64 10)] w5 fun x_9 w6 =>
 Ex x_9 0 fun x_10 =>
 Ex x_9 1 fun x_11 =>
 Cl P F.bound_Steps #[(.int .i64 3), (.int .i64 0), (.int .i64 24), (.int .i64 0)] w6 fun x_12 w7 =>
 Ex x_12 0 fun x_13 =>
 Ex x_12 1 fun x_14 =>
 Bp .eql x_11 (.int .i64 0) fun x_15 =>
 Vif x_15 (
 Bp .eql x_14 (.int .i64 0) fun x_16 =>
 Vif x_16 (
 Bp .eql x_10 (.int .i64 82) fun x_17 =>
 Vif x_17 (
 Bp .eql x_13 (.int .i64 880) fun x_18 =>
 Pk x_18 (.bool true) (.bool false) fun x_19 =>
 R x_19 w7) (
 R (.bool false) w7)) (
 R (.bool false) w7)) (
 R (.bool false) w7)
theorem Tie.balerlaw45_ten {w : World} {R : Value → World → Prop} (h : Vcf.balerlaw45_ten Tryd.prog w R) : Cl Tryd.prog F.balerlaw45_ten #[] w R :=
  cl_of_vc (n := 37) (rs := [(.tmp 0)]) (h := (.s .z (.s .z (.s .z (.s .z (.s .z (.s .z .z))))))) (args := []) (by kernel_rfl) Tryd.func7 rfl (by kernel_rfl) rfl rfl rfl (Eq.mp (by kernel_rfl) h)

/-- baler/balerref45.Steps -/
def Vcf.balerref45_Steps (P : Program) (kind_p0 level_p1 unit_p2 n_p3 : Value) (w : World) (R : Value → World → Prop) : Prop   :=
 Bp .neq kind_p0 (.int .i64 1) fun x_1 =>
 Vif x_1 (
 Bp .mul (.int .i64 8) n_p3 fun x_2 =>
 Bp .add x_2 (.int .i64 16) fun x_3 =>
 Bp .quo n_p3 (.int .i64 16) fun x_4 =>
 Bp .add x_4 (.int .i64 1) fun x_5 =>
 Bp .mul (.int .i64 36) unit_p2 fun x_6 =>
 Cl P F.balerref45_mul #[x_5, x_6] w fun x_7 w1 =>
 Cl P F.balerref45_add #[x_3, x_7] w1 fun x_8 w2 =>
 R x_8 w2) (
 Bp .mul level_p1 unit_p2 fun x_9 =>
 Bp .sub x_9 (.int .i64 19) fun x_10 =>
 VLoop 1 [(.int .i64 0)] w fun _ next12 k_11 w3 =>
 Bp .mul k_11 (.int .i64 2) fun x_13 =>
 Bp .mul x_13 x_10 fun x_14 =>
 Bp .mul (.int .i64 5) n_p3 fun x_15 =>
 Bp .lss x_14 x_15 fun x_16 =>
 Vif x_16 (
 Bp .add k_11 (.int .i64 1) fun x_17 =>
 KE [n_p3, x_10] [n_p3, x_10] <| next12 x_17 w3) (
 Bp .add n_p3 (.int .i64 1) fun x_18 =>
 Bp .add k_11 (.int .i64 2) fun x_19 =>
 Cl P F.balerref16_Most #[x_10] w3 fun x_20 w4 =>
 Cl P F.balerref45_add #[x_20, x_10] w4 fun x_21 w5 =>
 Cl P F.balerref45_add #[x_21, x_10] w5 fun x_22 w6 =>
 Cl P F.balerref45_mul #[x_19, x_22] w6 fun x_23 w7 =>
 Cl P F.balerref45_add #[x_18, x_23] w7 fun x_24 w8 =>
 R x_24 w8))
theorem Tie.balerref45_Steps {kind_p0 level_p1 unit_p2 n_p3 : Value} {w : World} {R : Value → World → Prop} (h : Vcf.balerref45_Steps Tryd.prog kind_p0 level_p1 unit_p2 n_p3 w R) : Cl Tryd.prog F.balerref45_Steps #[kind_p0, level_p1, unit_p2, n_p3] w R :=
  cl_of_vc (n := 48) (rs := [(.tmp 8)]) (h := (.s .z (.s (.s .z (.i (.s .z .z) .z)) (.s .z (.s .z (.s (.b (.l [10] [3, 9] (.s (.s .z (.i .z .z)) (.b .z)))) (.s .z .z))))))) (args := [kind_p0, level_p1, unit_p2, n_p3]) (by kernel_rfl) Tryd.func8 rfl (by kernel_rfl) rfl rfl rfl (Eq.mp (by kernel_rfl) h)

/-- baler/balerref42.Large -/
def Vcf.balerref42_Large (P : Program) (s_p0 most_p1 : Value) (w : World) (R : Value → World → Prop) : Prop   :=
 New s_p0 40 w fun s_1 w1 =>
 VJoin 1 (fun _ x_2 w2 =>
 Vif x_2 (
 R (.bool true) w2) (
 Fo 0 s_1 fun x_3 =>
 Fo 0 x_3 fun x_4 =>
 Ld x_4 w2 fun x_5 =>
 Lnl x_5 fun x_6 =>
 VLoop 1 [(.int .i64 0)] w2 fun _ next8 x_7 w3 =>
 Bp .lss x_7 x_6 fun x_9 =>
 Vif x_9 (
 Ias 5 x_5 x_7 fun x_10 =>
 LdA 5 x_10 w3 fun x_11 =>
 New (zeroP P 48) 48 w3 fun t_12 w4 =>
 StA 5 t_12 x_11 w4 fun w5 =>
 VJoin 1 (fun _ x_13 w6 =>
 Vif x_13 (
 R (.bool true) w6) (
 Bp .add x_7 (.int .i64 1) fun x_14 =>
 KE [most_p1, s_1, x_5, x_6] [most_p1, s_1, x_5, x_6] <| next8 x_14 w6))
 (fun J15 =>
 Fo 0 t_12 fun x_16 =>
 Ld x_16 w5 fun x_17 =>
 Lns x_17 fun x_18 =>
 Bp .gtr x_18 (.int .i64 150) fun x_19 =>
 Vif x_19 (
 KE [most_p1, s_1, x_5, x_6, x_7] [most_p1, s_1, x_5, x_6, x_7] <| J15 (.bool true) w5) (
 Fo 1 t_12 fun x_20 =>
 Ld x_20 w5 fun x_21 =>
 Lns x_21 fun x_22 =>
 Bp .gtr x_22 (.int .i64 150) fun x_23 =>
 KE [most_p1, s_1, x_5, x_6, x_7] [most_p1, s_1, x_5, x_6, x_7] <| J15 x_23 w5))) (
 Fo 7 s_1 fun x_24 =>
 Ld x_24 w3 fun x_25 =>
 Lnl x_25 fun x_26 =>
 VLoop 1 [(.int .i64 0)] w3 fun _ next28 x_27 w7 =>
 Bp .lss x_27 x_26 fun x_29 =>
 Vif x_29 (
 Ias 1 x_25 x_27 fun x_30 =>
 Ld x_30 w7 fun x_31 =>
 Lns x_31 fun x_32 =>
 Bp .gtr x_32 most_p1 fun x_33 =>
 Vif x_33 (
 R (.bool true) w7) (
 Bp .add x_27 (.int .i64 1) fun x_34 =>
 KE [most_p1, s_1, x_25, x_26] [most_p1, s_1, x_25, x_26] <| next28 x_34 w7)) (
 Fo 8 s_1 fun x_35 =>
 Ld x_35 w7 fun x_36 =>
 Lnl x_36 fun x_37 =>
 VLoop 2 [(.int .i64 0), (.int .i64 0)] w7 fun _ next40 n_38 x_39 w8 =>
 Bp .lss x_39 x_37 fun x_41 =>
 Vif x_41 (
 Ias 3 x_36 x_39 fun x_42 =>
 LdA 3 x_42 w8 fun x_43 =>
 New (zeroP P 51) 51 w8 fun e_44 w9 =>
 StA 3 e_44 x_43 w9 fun w10 =>
 VJoin 1 (fun _ x_45 w11 =>
 Vif x_45 (
 R (.bool true) w11) (
 VJoin 1 (fun _ x_46 w12 =>
 Vif x_46 (
 Fo 2 e_44 fun x_47 =>
 Ld x_47 w12 fun x_48 =>
 Bp .add n_38 x_48 fun x_49 =>
 Bp .add x_39 (.int .i64 1) fun x_50 =>
 KE [x_36, x_37] [x_36, x_37] <| next40 x_49 x_50 w12) (
 Bp .add x_39 (.int .i64 1) fun x_51 =>
 KE [x_36, x_37] [x_36, x_37] <| next40 n_38 x_51 w12))
 (fun J52 =>
 Fo 0 e_44 fun x_53 =>
 Ld x_53 w11 fun x_54 =>
 Bp .eql x_54 (.int .i64 2) fun x_55 =>
 Vif x_55 (
 Fo 2 e_44 fun x_56 =>
 Ld x_56 w11 fun x_57 =>
 Bp .gtr x_57 (.int .i64 0) fun x_58 =>
 Vif x_58 (
 Fo 2 e_44 fun x_59 =>
 Ld x_59 w11 fun x_60 =>
 Bp .leq x_60 (.int .i64 300) fun x_61 =>
 KE [n_38, e_44, x_36, x_37, x_39] [n_38, e_44, x_36, x_37, x_39] <| J52 x_61 w11) (
 KE [n_38, e_44, x_36, x_37, x_39] [n_38, e_44, x_36, x_37, x_39] <| J52 (.bool false) w11)) (
 KE [n_38, e_44, x_36, x_37, x_39] [n_38, e_44, x_36, x_37, x_39] <| J52 (.bool false) w11))))
 (fun J62 =>
 Fo 0 e_44 fun x_63 =>
 Ld x_63 w10 fun x_64 =>
 Bp .eql x_64 (.int .i64 2) fun x_65 =>
 Vif x_65 (
 Fo 2 e_44 fun x_66 =>
 Ld x_66 w10 fun x_67 =>
 Bp .gtr x_67 (.int .i64 300) fun x_68 =>
 Vif x_68 (
 Fo 2 e_44 fun x_69 =>
 Ld x_69 w10 fun x_70 =>
 Bp .leq x_70 (.int .i64 65536) fun x_71 =>
 KE [n_38, e_44, x_36, x_37, x_39] [n_38, e_44, x_36, x_37, x_39] <| J62 x_71 w10) (
 KE [n_38, e_44, x_36, x_37, x_39] [n_38, e_44, x_36, x_37, x_39] <| J62 (.bool false) w10)) (
 KE [n_38, e_44, x_36, x_37, x_39] [n_38, e_44, x_36, x_37, x_39] <| J62 (.bool false) w10))) (
 Bp .gtr n_38 (.int .i64 1000) fun x_72 =>
 R x_72 w8)))))
 (fun J73 =>
 Fo 0 s_1 fun x_74 =>
 Fo 0 x_74 fun x_75 =>
 Ld x_75 w1 fun x_76 =>
 Lnl x_76 fun x_77 =>
 Bp .gtr x_77 (.int .i64 20) fun x_78 =>
 Vif x_78 (
 KE [most_p1, s_1] [most_p1, s_1] <| J73 (.bool true) w1) (
 Fo 7 s_1 fun x_79 =>
 Ld x_79 w1 fun x_80 =>
 Lnl x_80 fun x_81 =>
 Bp .gtr x_81 (.int .i64 6) fun x_82 =>
 Vif x_82 (
 KE [most_p1, s_1] [most_p1, s_1] <| J73 (.bool true) w1) (
 Fo 8 s_1 fun x_83 =>
 Ld x_83 w1 fun x_84 =>
 Lnl x_84 fun x_85 =>
 Bp .gtr x_85 (.int .i64 60) fun x_86 =>
 Vif x_86 (
 KE [most_p1, s_1] [most_p1, s_1] <| J73 (.bool true) w1) (
 Fo 0 s_1 fun x_87 =>
 Fo 1 x_87 fun x_88 =>
 Ld x_88 w1 fun x_89 =>
 Bp .gtr x_89 (.int .i64 200) fun x_90 =>
 Vif x_90 (
 Fo 0 s_1 fun x_91 =>
 Fo 1 x_91 fun x_92 =>
 Ld x_92 w1 fun x_93 =>
 Bp .leq x_93 (.int .i64 100000) fun x_94 =>
 KE [most_p1, s_1] [most_p1, s_1] <| J73 x_94 w1) (
 KE [most_p1, s_1] [most_p1, s_1] <| J73 (.bool false) w1)))))
theorem Tie.balerref42_Large {s_p0 most_p1 : Value} {w : World} {R : Value → World → Prop} (h : Vcf.balerref42_Large Tryd.prog s_p0 most_p1 w R) : Cl Tryd.prog F.balerref42_Large #[s_p0, most_p1] w R :=
  cl_of_vc (n := 112) (rs := [(.tmp 4)]) (h := (.s .z (.s (.j [40] [1, 2] .z (.i (.s .z .z) .z)) (.s (.s .z (.b (.l [45] [1, 2, 43, 44] (.s .z (.s (.i .z .z) (.s (.b (.s .z (.j [58] [1, 2, 43, 44, 45] .z (.i (.s .z .z) .z)))) .z)))))) (.s (.s .z (.b (.l [63] [1, 2, 61, 62] (.s .z (.s (.i .z .z) (.s (.b (.s .z (.s .z (.i (.s .z .z) .z)))) .z)))))) (.s .z (.s (.s .z (.b (.l [9, 75] [73, 74] (.s .z (.s (.i .z .z) (.s (.b (.s .z (.s (.j [91] [9, 11, 73, 74, 75] .z (.i (.s .z .z) .z)) (.j [104] [9, 11, 73, 74, 75] .z (.i .z .z))))) .z)))))) (.s .z .z)))))))) (args := [s_p0, most_p1]) (by kernel_rfl) Tryd.func9 rfl (by kernel_rfl) rfl rfl rfl (Eq.mp (by kernel_rfl) h)

/-- baler/balerref32.Config -/
def Vcf.balerref32_Config (P : Program) (c_p0 : Value) (w : World) (R : Value → World → Prop) : Prop   :=
 New c_p0 34 w fun c_1 w1 =>
 Fo 0 c_1 fun x_2 =>
 Ld x_2 w1 fun x_3 =>
 Cl P F.balerref32_Check #[x_3] w1 fun x_4 w2 =>
 New (zeroP P 53) 53 w2 fun w_5 w3 =>
 StA 2 w_5 x_4 w3 fun w4 =>
 Fo 1 w_5 fun x_6 =>
 Ld x_6 w4 fun x_7 =>
 Bp .neq x_7 (.int .i64 0) fun x_8 =>
 Vif x_8 (
 Fo 1 w_5 fun x_9 =>
 Ld x_9 w4 fun x_10 =>
 R x_10 w4) (
 Fo 1 c_1 fun x_11 =>
 Ld x_11 w4 fun x_12 =>
 Bp .lss x_12 (.int .i64 24) fun x_13 =>
 Vif x_13 (
 R (.int .i64 1) w4) (
 Fo 1 c_1 fun x_14 =>
 Ld x_14 w4 fun x_15 =>
 Bp .gtr x_15 (.int .i64 100000) fun x_16 =>
 Vif x_16 (
 R (.int .i64 1) w4) (
 Fo 2 c_1 fun x_17 =>
 Ld x_17 w4 fun x_18 =>
 Bp .lss x_18 (.int .i64 64) fun x_19 =>
 Vif x_19 (
 R (.int .i64 1) w4) (
 Fo 2 c_1 fun x_20 =>
 Ld x_20 w4 fun x_21 =>
 Bp .gtr x_21 (.int .i64 1048576) fun x_22 =>
 Vif x_22 (
 R (.int .i64 1) w4) (
 Fo 3 c_1 fun x_23 =>
 Ld x_23 w4 fun x_24 =>
 Cl P F.balerref32_most #[x_24, (.int .i64 1)] w4 fun x_25 w5 =>
 Up .not x_25 fun x_26 =>
 Vif x_26 (
 R (.int .i64 1) w5) (
 Fo 4 c_1 fun x_27 =>
 Ld x_27 w5 fun x_28 =>
 Bp .lss x_28 (.int .i64 1) fun x_29 =>
 Vif x_29 (
 R (.int .i64 1) w5) (
 Fo 4 c_1 fun x_30 =>
 Ld x_30 w5 fun x_31 =>
 Bp .gtr x_31 (.int .i64 1048576) fun x_32 =>
 Vif x_32 (
 R (.int .i64 1) w5) (
 Fo 5 c_1 fun x_33 =>
 Ld x_33 w5 fun x_34 =>
 Bp .lss x_34 (.int .i64 1) fun x_35 =>
 Vif x_35 (
 R (.int .i64 1) w5) (
 Fo 5 c_1 fun x_36 =>
 Ld x_36 w5 fun x_37 =>
 Bp .gtr x_37 (.int .i64 64) fun x_38 =>
 Vif x_38 (
 R (.int .i64 1) w5) (
 Fo 6 c_1 fun x_39 =>
 Ld x_39 w5 fun x_40 =>
 Bp .lss x_40 (.int .i64 1) fun x_41 =>
 Vif x_41 (
 R (.int .i64 1) w5) (
 Fo 6 c_1 fun x_42 =>
 Ld x_42 w5 fun x_43 =>
 Bp .gtr x_43 (.int .i64 4096) fun x_44 =>
 Vif x_44 (
 R (.int .i64 1) w5) (
 R (.int .i64 0) w5))))))))))))
theorem Tie.balerref32_Config {c_p0 : Value} {w : World} {R : Value → World → Prop} (h : Vcf.balerref32_Config Tryd.prog c_p0 w R) : Cl Tryd.prog F.balerref32_Config #[c_p0] w R :=
  cl_of_vc (n := 66) (rs := [(.tmp 2)]) (h := (.s .z (.s .z (.s (.s .z (.i (.s .z .z) .z)) (.s (.s .z (.i (.s .z .z) .z)) (.s .z .z)))))) (args := [c_p0]) (by kernel_rfl) Tryd.func10 rfl (by kernel_rfl) rfl rfl rfl (Eq.mp (by kernel_rfl) h)

/-- baler/bound.Ticks -/
def Vcf.bound_Ticks (P : Program) (c_p0 steps_p1 : Value) (w : World) (R : Value → World → Prop) : Prop   :=
 New c_p0 34 w fun c_1 w1 =>
 LdA 7 c_1 w1 fun x_2 =>
 Cl P F.tenants_Config #[x_2] w1 fun x_3 w2 =>
 Bp .neq x_3 (.int .i64 0) fun x_4 =>
 Vif x_4 (
 R (.tuple #[(.int .i64 0), x_3]) w2) (
 VJoin 1 (fun _ x_5 w3 =>
 Vif x_5 (
 R (.tuple #[(.int .i64 0), (.int .i64 1)]) w3) (
 Fo 0 c_1 fun x_6 =>
 Ld x_6 w3 fun x_7 =>
 Lnl x_7 fun x_8 =>
 VLoop 2 [(.int .i64 0), (.int .i64 0)] w3 fun _ next11 quanta_9 x_10 w4 =>
 Bp .lss x_10 x_8 fun x_12 =>
 Vif x_12 (
 Ias 5 x_7 x_10 fun x_13 =>
 LdA 5 x_13 w4 fun x_14 =>
 New (zeroP P 48) 48 w4 fun t_15 w5 =>
 StA 5 t_15 x_14 w5 fun w6 =>
 Fo 4 t_15 fun x_16 =>
 Ld x_16 w6 fun x_17 =>
 Bs P 61 2 #[(0, quanta_9), (1, x_17)] w6 fun x_18 w7 =>
 Cl P F.bound_sum #[x_18] w7 fun x_19 w8 =>
 Bp .add x_10 (.int .i64 1) fun x_20 =>
 KE [steps_p1, c_1, x_7, x_8] [steps_p1, c_1, x_7, x_8] <| next11 x_19 x_20 w8) (
 Dr w4 fun w9 =>
 Fo 3 c_1 fun x_21 =>
 Ld x_21 w9 fun x_22 =>
 Cl P F.bound_upTo #[quanta_9, x_22] w9 fun x_24 w10 =>
 Fo 5 c_1 fun x_25 =>
 Ld x_25 w10 fun x_26 =>
 Rk (fun w K => Ld x_25 w fun x_27 => K x_27) x_26 w9 <|
 Bs P 61 4 #[(0, steps_p1), (1, x_24), (2, x_26), (3, (.int .i64 2))] w10 fun x_29 w11 =>
 Cl P F.bound_times #[x_29] w11 fun x_30 w12 =>
 Bs P 61 2 #[(0, x_30), (1, (.int .i64 2))] w12 fun x_31 w13 =>
 Cl P F.bound_sum #[x_31] w13 fun x_32 w14 =>
 R (.tuple #[x_32, (.int .i64 0)]) w14)))
 (fun J33 =>
 Bp .lss steps_p1 (.int .i64 1) fun x_34 =>
 Vif x_34 (
 KE [steps_p1, c_1] [steps_p1, c_1] <| J33 (.bool true) w2) (
 Bp .gtr steps_p1 (.int .i64 1099511627776) fun x_35 =>
 KE [steps_p1, c_1] [steps_p1, c_1] <| J33 x_35 w2)))
theorem Tie.bound_Ticks {c_p0 steps_p1 : Value} {w : World} {R : Value → World → Prop} (h : Vcf.bound_Ticks Tryd.prog c_p0 steps_p1 w R) : Cl Tryd.prog F.bound_Ticks #[c_p0, steps_p1] w R :=
  cl_of_vc (n := 45) (rs := [(.tmp 4), (.tmp 5)]) (h := (.s .z (.s (.s .z (.s .z (.i (.s .z .z) .z))) (.s (.j [20] [1, 2] .z (.i (.s .z .z) .z)) (.s .z (.s (.s .z (.b (.l [7, 24] [1, 2, 22, 23] (.s .z (.s (.i .z .z) (.s (.b (.s .z .z)) .z)))))) (.s (.r (.staged [0, 0, 0, 4, 14, 0, 32, 127, 255, 511, 1023, 2047, 4095])) .z))))))) (args := [c_p0, steps_p1]) (by kernel_rfl) Tryd.func11 rfl (by kernel_rfl) rfl rfl rfl (Eq.mp (by kernel_rfl) h)

/-- baler/split.Room -/
def Vcf.split_Room (P : Program) (level_p0 unit_p1 : Value) (w : World) (R : Value → World → Prop) : Prop   :=
 VJoin 1 (fun _ x_1 w1 =>
 Vif x_1 (
 R (.tuple #[(.int .i64 0), (.int .i64 1)]) w1) (
 Bp .mul level_p0 unit_p1 fun x_2 =>
 Bp .sub x_2 (.int .i64 19) fun x_3 =>
 R (.tuple #[x_3, (.int .i64 0)]) w1))
 (fun J4 =>
 Bp .lss level_p0 (.int .i64 1) fun x_5 =>
 Vif x_5 (
 KE [level_p0, unit_p1] [level_p0, unit_p1] <| J4 (.bool true) w) (
 Bp .gtr level_p0 (.int .i64 9) fun x_6 =>
 Vif x_6 (
 KE [level_p0, unit_p1] [level_p0, unit_p1] <| J4 (.bool true) w) (
 Bp .lss unit_p1 (.int .i64 24) fun x_7 =>
 Vif x_7 (
 KE [level_p0, unit_p1] [level_p0, unit_p1] <| J4 (.bool true) w) (
 Bp .gtr unit_p1 (.int .i64 100000) fun x_8 =>
 KE [level_p0, unit_p1] [level_p0, unit_p1] <| J4 x_8 w))))
theorem Tie.split_Room {level_p0 unit_p1 : Value} {w : World} {R : Value → World → Prop} (h : Vcf.split_Room Tryd.prog level_p0 unit_p1 w R) : Cl Tryd.prog F.split_Room #[level_p0, unit_p1] w R :=
  cl_of_vc (n := 24) (rs := [(.tmp 4), (.tmp 5)]) (h := (.s .z (.s (.j [19] [0, 1] .z (.i (.s .z .z) .z)) (.s .z .z)))) (args := [level_p0, unit_p1]) (by kernel_rfl) Tryd.func12 rfl (by kernel_rfl) rfl rfl rfl (Eq.mp (by kernel_rfl) h)

/-- baler/bound.pressed -/
def Vcf.bound_pressed (P : Program) (room_p0 n_p1 : Value) (w : World) (R : Value → World → Prop) : Prop   :=
 Bp .mul (.int .i64 5) n_p1 fun x_1 =>
 Bp .mul (.int .i64 2) room_p0 fun x_2 =>
 Cl P F.bound_upTo #[x_1, x_2] w fun x_3 w1 =>
 Bp .add x_3 (.int .i64 2) fun x_4 =>
 Bp .add n_p1 (.int .i64 1) fun x_5 =>
 Cl P F.bwt_Most #[room_p0] w1 fun x_6 w2 =>
 Bs P 61 2 #[(0, x_6), (1, room_p0)] w2 fun x_7 w3 =>
 Cl P F.bound_sum #[x_7] w3 fun x_8 w4 =>
 Bs P 61 2 #[(0, x_4), (1, x_8)] w4 fun x_9 w5 =>
 Cl P F.bound_times #[x_9] w5 fun x_10 w6 =>
 Bs P 61 2 #[(0, x_5), (1, x_10)] w6 fun x_11 w7 =>
 Cl P F.bound_sum #[x_11] w7 fun x_12 w8 =>
 R x_12 w8
theorem Tie.bound_pressed {room_p0 n_p1 : Value} {w : World} {R : Value → World → Prop} (h : Vcf.bound_pressed Tryd.prog room_p0 n_p1 w R) : Cl Tryd.prog F.bound_pressed #[room_p0, n_p1] w R :=
  cl_of_vc (n := 24) (rs := [(.tmp 4)]) (h := (.s .z (.s .z (.s .z .z)))) (args := [room_p0, n_p1]) (by kernel_rfl) Tryd.func13 rfl (by kernel_rfl) rfl rfl rfl (Eq.mp (by kernel_rfl) h)

/-- baler/bound.expanded -/
def Vcf.bound_expanded (P : Program) (unit_p0 n_p1 : Value) (w : World) (R : Value → World → Prop) : Prop   :=
 Bp .mul (.int .i64 8) n_p1 fun x_1 =>
 Bp .add x_1 (.int .i64 16) fun x_2 =>
 Bp .quo n_p1 (.int .i64 16) fun x_3 =>
 Bp .add x_3 (.int .i64 1) fun x_4 =>
 Bp .mul (.int .i64 36) unit_p0 fun x_5 =>
 Bs P 61 2 #[(0, x_4), (1, x_5)] w fun x_6 w1 =>
 Cl P F.bound_times #[x_6] w1 fun x_7 w2 =>
 Bs P 61 2 #[(0, x_2), (1, x_7)] w2 fun x_8 w3 =>
 Cl P F.bound_sum #[x_8] w3 fun x_9 w4 =>
 R x_9 w4
theorem Tie.bound_expanded {unit_p0 n_p1 : Value} {w : World} {R : Value → World → Prop} (h : Vcf.bound_expanded Tryd.prog unit_p0 n_p1 w R) : Cl Tryd.prog F.bound_expanded #[unit_p0, n_p1] w R :=
  cl_of_vc (n := 17) (rs := [(.tmp 4)]) (h := (.s .z (.s .z .z))) (args := [unit_p0, n_p1]) (by kernel_rfl) Tryd.func14 rfl (by kernel_rfl) rfl rfl rfl (Eq.mp (by kernel_rfl) h)

/-- baler/balerref21.Unit -/
def Vcf.balerref21_Unit (P : Program) (n_p0 : Value) (w : World) (R : Value → World → Prop) : Prop   :=
 Bp .geq n_p0 (.int .i64 24) fun x_1 =>
 Vif x_1 (
 Bp .leq n_p0 (.int .i64 100000) fun x_2 =>
 R x_2 w) (
 R (.bool false) w)
theorem Tie.balerref21_Unit {n_p0 : Value} {w : World} {R : Value → World → Prop} (h : Vcf.balerref21_Unit Tryd.prog n_p0 w R) : Cl Tryd.prog F.balerref21_Unit #[n_p0] w R :=
  cl_of_vc (n := 9) (rs := [(.tmp 2)]) (h := (.s .z (.s .z .z))) (args := [n_p0]) (by kernel_rfl) Tryd.func15 rfl (by kernel_rfl) rfl rfl rfl (Eq.mp (by kernel_rfl) h)

/-- baler/balerref21.Level -/
def Vcf.balerref21_Level (P : Program) (n_p0 : Value) (w : World) (R : Value → World → Prop) : Prop   :=
 Bp .geq n_p0 (.int .i64 1) fun x_1 =>
 Vif x_1 (
 Bp .leq n_p0 (.int .i64 9) fun x_2 =>
 R x_2 w) (
 R (.bool false) w)
theorem Tie.balerref21_Level {n_p0 : Value} {w : World} {R : Value → World → Prop} (h : Vcf.balerref21_Level Tryd.prog n_p0 w R) : Cl Tryd.prog F.balerref21_Level #[n_p0] w R :=
  cl_of_vc (n := 9) (rs := [(.tmp 2)]) (h := (.s .z (.s .z .z))) (args := [n_p0]) (by kernel_rfl) Tryd.func16 rfl (by kernel_rfl) rfl rfl rfl (Eq.mp (by kernel_rfl) h)

/-- baler/balerref45.add -/
def Vcf.balerref45_add (P : Program) (a_p0 b_p1 : Value) (w : World) (R : Value → World → Prop) : Prop   :=
 Bp .add a_p0 b_p1 fun x_1 =>
 Bp .gtr x_1 (.int .i64 1099511627776) fun x_2 =>
 Vif x_2 (
 R (.int .i64 1099511627776) w) (
 Bp .add a_p0 b_p1 fun x_3 =>
 R x_3 w)
theorem Tie.balerref45_add {a_p0 b_p1 : Value} {w : World} {R : Value → World → Prop} (h : Vcf.balerref45_add Tryd.prog a_p0 b_p1 w R) : Cl Tryd.prog F.balerref45_add #[a_p0, b_p1] w R :=
  cl_of_vc (n := 12) (rs := [(.tmp 4)]) (h := (.s .z (.s (.s .z (.i (.s .z .z) .z)) (.s .z .z)))) (args := [a_p0, b_p1]) (by kernel_rfl) Tryd.func17 rfl (by kernel_rfl) rfl rfl rfl (Eq.mp (by kernel_rfl) h)

/-- baler/balerref45.mul -/
def Vcf.balerref45_mul (P : Program) (a_p0 b_p1 : Value) (w : World) (R : Value → World → Prop) : Prop   :=
 Bp .quo (.int .i64 1099511627776) b_p1 fun x_1 =>
 Bp .gtr a_p0 x_1 fun x_2 =>
 Vif x_2 (
 R (.int .i64 1099511627776) w) (
 Bp .mul a_p0 b_p1 fun x_3 =>
 R x_3 w)
theorem Tie.balerref45_mul {a_p0 b_p1 : Value} {w : World} {R : Value → World → Prop} (h : Vcf.balerref45_mul Tryd.prog a_p0 b_p1 w R) : Cl Tryd.prog F.balerref45_mul #[a_p0, b_p1] w R :=
  cl_of_vc (n := 12) (rs := [(.tmp 4)]) (h := (.s .z (.s (.s .z (.i (.s .z .z) .z)) (.s .z .z)))) (args := [a_p0, b_p1]) (by kernel_rfl) Tryd.func18 rfl (by kernel_rfl) rfl rfl rfl (Eq.mp (by kernel_rfl) h)

/-- baler/balerref16.Most -/
def Vcf.balerref16_Most (P : Program) (n_p0 : Value) (w : World) (R : Value → World → Prop) : Prop   :=
 Bp .lss n_p0 (.int .i64 2) fun x_1 =>
 Vif x_1 (
 R (.int .i64 0) w) (
 VLoop 2 [(.int .i64 0), (.int .i64 1)] w fun _ next4 b_2 p_3 w1 =>
 VJoin 1 (fun _ x_5 w2 =>
 Vif x_5 (
 Bp .mul (.int .i64 2) p_3 fun x_6 =>
 Bp .add b_2 (.int .i64 1) fun x_7 =>
 KE [n_p0] [n_p0] <| next4 x_7 x_6 w2) (
 Bp .mul (.int .i64 3) b_2 fun x_8 =>
 Bp .add (.int .i64 4) x_8 fun x_9 =>
 Bp .add b_2 (.int .i64 2) fun x_10 =>
 Bp .mul x_9 x_10 fun x_11 =>
 VLoop 2 [(.int .i64 0), (.int .i64 0)] w2 fun _ next14 total_12 x_13 w3 =>
 Bp .lss x_13 x_11 fun x_15 =>
 Vif x_15 (
 Bp .sub (.int .i64 1099511627776) total_12 fun x_16 =>
 Bp .gtr n_p0 x_16 fun x_17 =>
 Vif x_17 (
 R (.int .i64 1099511627776) w3) (
 Bp .add total_12 n_p0 fun x_18 =>
 Bp .add x_13 (.int .i64 1) fun x_19 =>
 KE [n_p0, x_11] [n_p0, x_11] <| next14 x_18 x_19 w3)) (
 R total_12 w3)))
 (fun J20 =>
 Bp .lss p_3 n_p0 fun x_21 =>
 Vif x_21 (
 Bp .lss b_2 (.int .i64 40) fun x_22 =>
 KE [n_p0, b_2, p_3] [n_p0, b_2, p_3] <| J20 x_22 w1) (
 KE [n_p0, b_2, p_3] [n_p0, b_2, p_3] <| J20 (.bool false) w1)))
theorem Tie.balerref16_Most {n_p0 : Value} {w : World} {R : Value → World → Prop} (h : Vcf.balerref16_Most Tryd.prog n_p0 w R) : Cl Tryd.prog F.balerref16_Most #[n_p0] w R :=
  cl_of_vc (n := 36) (rs := [(.tmp 2)]) (h := (.s .z (.s (.s .z (.i (.s .z .z) .z)) (.s .z (.s .z (.s (.b (.l [3, 4] [0] (.s (.j [14] [0, 3, 4] .z (.i .z .z)) (.b (.s .z .z))))) (.s .z (.s (.s .z (.b (.l [5, 25] [0, 24] (.s .z (.s (.i .z .z) (.s (.b (.s (.s .z (.i (.s .z .z) .z)) .z)) .z)))))) (.s .z .z))))))))) (args := [n_p0]) (by kernel_rfl) Tryd.func19 rfl (by kernel_rfl) rfl rfl rfl (Eq.mp (by kernel_rfl) h)

/-- baler/balerref32.Check -/
def Vcf.balerref32_Check (P : Program) (l_p0 : Value) (w : World) (R : Value → World → Prop) : Prop   :=
 New (zeroP P 53) 53 w fun x_1 w1 =>
 Lnl l_p0 fun x_2 =>
 Bp .eql x_2 (.int .i64 0) fun x_3 =>
 Vif x_3 (
 Bd P 53 #[(0, (.int .i64 (-1))), (1, (.int .i64 6))] w1 fun x_4 =>
 StA 2 x_1 x_4 w1 fun w2 =>
 LdA 2 x_1 w2 fun x_5 =>
 R x_5 w2) (
 Lnl l_p0 fun x_6 =>
 Bp .gtr x_6 (.int .i64 16) fun x_7 =>
 Vif x_7 (
 Bd P 53 #[(0, (.int .i64 16)), (1, (.int .i64 2))] w1 fun x_8 =>
 StA 2 x_1 x_8 w1 fun w3 =>
 LdA 2 x_1 w3 fun x_9 =>
 R x_9 w3) (
 Lnl l_p0 fun x_10 =>
 VLoop 1 [(.int .i64 0)] w1 fun _ next12 x_11 w4 =>
 Bp .lss x_11 x_10 fun x_13 =>
 Vif x_13 (
 Ias 5 l_p0 x_11 fun x_14 =>
 LdA 5 x_14 w4 fun x_15 =>
 New (zeroP P 48) 48 w4 fun t_16 w5 =>
 StA 5 t_16 x_15 w5 fun w6 =>
 LdA 5 t_16 w6 fun x_17 =>
 Cl P F.balerref32_May #[x_17] w6 fun x_18 w7 =>
 Up .not x_18 fun x_19 =>
 Vif x_19 (
 Bd P 53 #[(0, x_11), (1, (.int .i64 1))] w7 fun x_20 =>
 StA 2 x_1 x_20 w7 fun w8 =>
 LdA 2 x_1 w8 fun x_21 =>
 R x_21 w8) (
 Ssl 5 l_p0 none (some x_11) fun x_22 =>
 Lnl x_22 fun x_23 =>
 VLoop 1 [(.int .i64 0)] w7 fun _ next25 x_24 w9 =>
 Bp .lss x_24 x_23 fun x_26 =>
 Vif x_26 (
 Ias 5 x_22 x_24 fun x_27 =>
 LdA 5 x_27 w9 fun x_28 =>
 New (zeroP P 48) 48 w9 fun x_29 w10 =>
 StA 5 x_29 x_28 w10 fun w11 =>
 VJoin 1 (fun _ x_30 w12 =>
 Vif x_30 (
 Bd P 53 #[(0, x_11), (1, (.int .i64 8))] w12 fun x_31 =>
 StA 2 x_1 x_31 w12 fun w13 =>
 LdA 2 x_1 w13 fun x_32 =>
 R x_32 w13) (
 Bp .add x_24 (.int .i64 1) fun x_33 =>
 KE [l_p0, x_1, x_11, t_16, l_p0, x_10, x_11, x_22, x_23] [l_p0, x_1, x_11, t_16, l_p0, x_10, x_11, x_22, x_23] <| next25 x_33 w12))
 (fun J34 =>
 Fo 0 x_29 fun x_35 =>
 Ld x_35 w11 fun x_36 =>
 Fo 0 t_16 fun x_37 =>
 Ld x_37 w11 fun x_38 =>
 Bp .eql x_36 x_38 fun x_39 =>
 Vif x_39 (
 KE [l_p0, x_1, x_11, t_16, l_p0, x_10, x_11, x_22, x_23, x_24] [l_p0, x_1, x_11, t_16, l_p0, x_10, x_11, x_22, x_23, x_24] <| J34 (.bool true) w11) (
 Fo 1 x_29 fun x_40 =>
 Ld x_40 w11 fun x_41 =>
 Fo 1 t_16 fun x_42 =>
 Ld x_42 w11 fun x_43 =>
 Bp .eql x_41 x_43 fun x_44 =>
 KE [l_p0, x_1, x_11, t_16, l_p0, x_10, x_11, x_22, x_23, x_24] [l_p0, x_1, x_11, t_16, l_p0, x_10, x_11, x_22, x_23, x_24] <| J34 x_44 w11))) (
 Bp .add x_11 (.int .i64 1) fun x_45 =>
 KE [l_p0, x_1, l_p0, x_10] [l_p0, x_1, l_p0, x_10] <| next12 x_45 w9))) (
 Bd P 53 #[(0, (.int .i64 (-1))), (1, (.int .i64 0))] w4 fun x_46 =>
 StA 2 x_1 x_46 w4 fun w14 =>
 LdA 2 x_1 w14 fun x_47 =>
 R x_47 w14)))
theorem Tie.balerref32_Check {l_p0 : Value} {w : World} {R : Value → World → Prop} (h : Vcf.balerref32_Check Tryd.prog l_p0 w R) : Cl Tryd.prog F.balerref32_Check #[l_p0] w R :=
  cl_of_vc (n := 52) (rs := [(.cell 2 53)]) (h := (.s .z (.s (.s .z (.i (.s .z .z) .z)) (.s (.s .z (.i (.s .z .z) .z)) (.s (.s .z (.b (.l [17] [0, 2, 15, 16] (.s .z (.s (.i .z .z) (.s (.b (.s .z (.s (.s .z (.i (.s .z .z) .z)) (.s .z (.b (.l [31] [0, 2, 3, 4, 15, 16, 17, 29, 30] (.s .z (.s (.i .z .z) (.s (.b (.s .z (.j [46] [0, 2, 3, 4, 15, 16, 17, 29, 30, 31] .z (.i (.s .z .z) .z)))) .z))))))))) .z)))))) (.s .z .z)))))) (args := [l_p0]) (by kernel_rfl) Tryd.func20 rfl (by kernel_rfl) rfl rfl rfl (Eq.mp (by kernel_rfl) h)

/-- baler/balerref32.most -/
def Vcf.balerref32_most (P : Program) (n_p0 least_p1 : Value) (w : World) (R : Value → World → Prop) : Prop   :=
 Bp .geq n_p0 least_p1 fun x_1 =>
 Vif x_1 (
 Bp .leq n_p0 (.int .i64 1099511627776) fun x_2 =>
 R x_2 w) (
 R (.bool false) w)
theorem Tie.balerref32_most {n_p0 least_p1 : Value} {w : World} {R : Value → World → Prop} (h : Vcf.balerref32_most Tryd.prog n_p0 least_p1 w R) : Cl Tryd.prog F.balerref32_most #[n_p0, least_p1] w R :=
  cl_of_vc (n := 12) (rs := [(.tmp 4)]) (h := (.s .z (.s .z .z))) (args := [n_p0, least_p1]) (by kernel_rfl) Tryd.func21 rfl (by kernel_rfl) rfl rfl rfl (Eq.mp (by kernel_rfl) h)

/-- baler/tenants.Config -/
def Vcf.tenants_Config (P : Program) (c_p0 : Value) (w : World) (R : Value → World → Prop) : Prop   :=
 New c_p0 34 w fun c_1 w1 =>
 Fo 0 c_1 fun x_2 =>
 Ld x_2 w1 fun x_3 =>
 Cl P F.tenants_Check #[x_3] w1 fun x_4 w2 =>
 Ex x_4 0 fun x_5 =>
 Ex x_4 1 fun x_6 =>
 Bp .neq x_6 (.int .i64 0) fun x_7 =>
 Vif x_7 (
 R x_6 w2) (
 Fo 1 c_1 fun x_8 =>
 Ld x_8 w2 fun x_9 =>
 Cl P F.tenants_between #[x_9, (.int .i64 24), (.int .i64 100000)] w2 fun x_10 w3 =>
 Vif x_10 (
 Fo 2 c_1 fun x_11 =>
 Ld x_11 w3 fun x_12 =>
 Cl P F.tenants_between #[x_12, (.int .i64 64), (.int .i64 1048576)] w3 fun x_13 w4 =>
 Vif x_13 (
 Fo 3 c_1 fun x_14 =>
 Ld x_14 w4 fun x_15 =>
 Cl P F.tenants_between #[x_15, (.int .i64 1), (.int .i64 1099511627776)] w4 fun x_16 w5 =>
 Vif x_16 (
 Fo 4 c_1 fun x_17 =>
 Ld x_17 w5 fun x_18 =>
 Cl P F.tenants_between #[x_18, (.int .i64 1), (.int .i64 1048576)] w5 fun x_19 w6 =>
 Vif x_19 (
 Fo 5 c_1 fun x_20 =>
 Ld x_20 w6 fun x_21 =>
 Cl P F.tenants_between #[x_21, (.int .i64 1), (.int .i64 64)] w6 fun x_22 w7 =>
 Vif x_22 (
 Fo 6 c_1 fun x_23 =>
 Ld x_23 w7 fun x_24 =>
 Cl P F.tenants_between #[x_24, (.int .i64 1), (.int .i64 4096)] w7 fun x_25 w8 =>
 Vif x_25 (
 R (.int .i64 0) w8) (
 R (.int .i64 1) w8)) (
 R (.int .i64 1) w7)) (
 R (.int .i64 1) w6)) (
 R (.int .i64 1) w5)) (
 R (.int .i64 1) w4)) (
 R (.int .i64 1) w3))
theorem Tie.tenants_Config {c_p0 : Value} {w : World} {R : Value → World → Prop} (h : Vcf.tenants_Config Tryd.prog c_p0 w R) : Cl Tryd.prog F.tenants_Config #[c_p0] w R :=
  cl_of_vc (n := 42) (rs := [(.tmp 2)]) (h := (.s .z (.s (.s .z (.s .z (.i (.s .z .z) .z))) (.s (.s .z (.i (.s .z .z) .z)) (.s .z .z))))) (args := [c_p0]) (by kernel_rfl) Tryd.func22 rfl (by kernel_rfl) rfl rfl rfl (Eq.mp (by kernel_rfl) h)

/-- baler/bound.sum -/
def Vcf.bound_sum (P : Program) (l_p0 : Value) (w : World) (R : Value → World → Prop) : Prop   :=
 Lnl l_p0 fun x_1 =>
 VLoop 2 [(.int .i64 0), (.int .i64 0)] w fun _ next4 n_2 x_3 w1 =>
 Bp .lss x_3 x_1 fun x_5 =>
 Vif x_5 (
 Ias 1 l_p0 x_3 fun x_6 =>
 Ld x_6 w1 fun x_7 =>
 Bmin P #[3, 3] 3 #[x_7, (.int .i64 1099511627776)] w1 fun x_8 =>
 Bp .add n_2 x_8 fun x_9 =>
 Bmin P #[3, 3] 3 #[x_9, (.int .i64 1099511627776)] w1 fun x_10 =>
 Bp .add x_3 (.int .i64 1) fun x_11 =>
 KE [l_p0, x_1] [l_p0, x_1] <| next4 x_10 x_11 w1) (
 R n_2 w1)
theorem Tie.bound_sum {l_p0 : Value} {w : World} {R : Value → World → Prop} (h : Vcf.bound_sum Tryd.prog l_p0 w R) : Cl Tryd.prog F.bound_sum #[l_p0] w R :=
  cl_of_vc (n := 19) (rs := [(.tmp 2)]) (h := (.s .z (.s .z (.s (.s .z (.b (.l [3, 8] [6, 7] (.s .z (.s (.i .z .z) (.s (.b (.s .z .z)) .z)))))) (.s .z .z))))) (args := [l_p0]) (by kernel_rfl) Tryd.func23 rfl (by kernel_rfl) rfl rfl rfl (Eq.mp (by kernel_rfl) h)

/-- baler/bound.times -/
def Vcf.bound_times (P : Program) (l_p0 : Value) (w : World) (R : Value → World → Prop) : Prop   :=
 Lnl l_p0 fun x_1 =>
 VLoop 2 [(.int .i64 1), (.int .i64 0)] w fun _ next4 n_2 x_3 w1 =>
 Bp .lss x_3 x_1 fun x_5 =>
 Vif x_5 (
 Ias 1 l_p0 x_3 fun x_6 =>
 Ld x_6 w1 fun x_7 =>
 Bp .quo (.int .i64 1099511627776) n_2 fun x_8 =>
 Bp .gtr x_7 x_8 fun x_9 =>
 Vif x_9 (
 R (.int .i64 1099511627776) w1) (
 Bp .mul n_2 x_7 fun x_10 =>
 Bp .add x_3 (.int .i64 1) fun x_11 =>
 KE [l_p0, x_1] [l_p0, x_1] <| next4 x_10 x_11 w1)) (
 R n_2 w1)
theorem Tie.bound_times {l_p0 : Value} {w : World} {R : Value → World → Prop} (h : Vcf.bound_times Tryd.prog l_p0 w R) : Cl Tryd.prog F.bound_times #[l_p0] w R :=
  cl_of_vc (n := 21) (rs := [(.tmp 2)]) (h := (.s .z (.s .z (.s (.s .z (.b (.l [3, 8] [6, 7] (.s .z (.s (.i .z .z) (.s (.b (.s .z (.s (.s .z (.i (.s .z .z) .z)) .z))) .z)))))) (.s .z .z))))) (args := [l_p0]) (by kernel_rfl) Tryd.func24 rfl (by kernel_rfl) rfl rfl rfl (Eq.mp (by kernel_rfl) h)

/-- baler/bound.upTo -/
def Vcf.bound_upTo (P : Program) (n_p0 by_p1 : Value) (w : World) (R : Value → World → Prop) : Prop   :=
 Bp .add n_p0 by_p1 fun x_1 =>
 Bp .sub x_1 (.int .i64 1) fun x_2 =>
 Bp .quo x_2 by_p1 fun x_3 =>
 R x_3 w
theorem Tie.bound_upTo {n_p0 by_p1 : Value} {w : World} {R : Value → World → Prop} (h : Vcf.bound_upTo Tryd.prog n_p0 by_p1 w R) : Cl Tryd.prog F.bound_upTo #[n_p0, by_p1] w R :=
  cl_of_vc (n := 11) (rs := [(.tmp 4)]) (h := (.s .z (.s .z .z))) (args := [n_p0, by_p1]) (by kernel_rfl) Tryd.func25 rfl (by kernel_rfl) rfl rfl rfl (Eq.mp (by kernel_rfl) h)

/-- baler/bwt.Most -/
def Vcf.bwt_Most (P : Program) (n_p0 : Value) (w : World) (R : Value → World → Prop) : Prop   :=
 Bp .lss n_p0 (.int .i64 1) fun x_1 =>
 Vif x_1 (
 R (.int .i64 0) w) (
 Cl P F.sorter_Most #[n_p0] w fun x_2 w1 =>
 Bmin P #[3, 3] 3 #[n_p0, (.int .i64 1099511627776)] w1 fun x_3 =>
 Bp .add x_2 x_3 fun x_4 =>
 Bmin P #[3, 3] 3 #[x_4, (.int .i64 1099511627776)] w1 fun x_5 =>
 R x_5 w1)
theorem Tie.bwt_Most {n_p0 : Value} {w : World} {R : Value → World → Prop} (h : Vcf.bwt_Most Tryd.prog n_p0 w R) : Cl Tryd.prog F.bwt_Most #[n_p0] w R :=
  cl_of_vc (n := 11) (rs := [(.tmp 2)]) (h := (.s .z (.s (.s .z (.i (.s .z .z) .z)) (.s .z .z)))) (args := [n_p0]) (by kernel_rfl) Tryd.func26 rfl (by kernel_rfl) rfl rfl rfl (Eq.mp (by kernel_rfl) h)

/-- baler/balerref32.May -/
def Vcf.balerref32_May (P : Program) (t_p0 : Value) (w : World) (R : Value → World → Prop) : Prop   :=
 New t_p0 48 w fun t_1 w1 =>
 Fo 0 t_1 fun x_2 =>
 Ld x_2 w1 fun x_3 =>
 Cl P F.balerref31_Word #[x_3] w1 fun x_4 w2 =>
 Vif x_4 (
 Fo 1 t_1 fun x_5 =>
 Ld x_5 w2 fun x_6 =>
 Cl P F.balerref31_Word #[x_6] w2 fun x_7 w3 =>
 Vif x_7 (
 Fo 2 t_1 fun x_8 =>
 Ld x_8 w3 fun x_9 =>
 Cl P F.balerref32_most #[x_9, (.int .i64 0)] w3 fun x_10 w4 =>
 Vif x_10 (
 Fo 3 t_1 fun x_11 =>
 Ld x_11 w4 fun x_12 =>
 Cl P F.balerref32_most #[x_12, (.int .i64 1)] w4 fun x_13 w5 =>
 Vif x_13 (
 Fo 4 t_1 fun x_14 =>
 Ld x_14 w5 fun x_15 =>
 Cl P F.balerref32_most #[x_15, (.int .i64 1)] w5 fun x_16 w6 =>
 R x_16 w6) (
 R (.bool false) w5)) (
 R (.bool false) w4)) (
 R (.bool false) w3)) (
 R (.bool false) w2)
theorem Tie.balerref32_May {t_p0 : Value} {w : World} {R : Value → World → Prop} (h : Vcf.balerref32_May Tryd.prog t_p0 w R) : Cl Tryd.prog F.balerref32_May #[t_p0] w R :=
  cl_of_vc (n := 26) (rs := [(.tmp 2)]) (h := (.s .z (.s .z .z))) (args := [t_p0]) (by kernel_rfl) Tryd.func27 rfl (by kernel_rfl) rfl rfl rfl (Eq.mp (by kernel_rfl) h)

/-- baler/tenants.Check -/
def Vcf.tenants_Check (P : Program) (l_p0 : Value) (w : World) (R : Value → World → Prop) : Prop   :=
 Lnl l_p0 fun x_1 =>
 Bp .eql x_1 (.int .i64 0) fun x_2 =>
 Vif x_2 (
 R (.tuple #[(.int .i64 (-1)), (.int .i64 6)]) w) (
 Lnl l_p0 fun x_3 =>
 Bp .gtr x_3 (.int .i64 16) fun x_4 =>
 Vif x_4 (
 R (.tuple #[(.int .i64 16), (.int .i64 2)]) w) (
 Lnl l_p0 fun x_5 =>
 VLoop 1 [(.int .i64 0)] w fun _ next7 x_6 w1 =>
 Bp .lss x_6 x_5 fun x_8 =>
 Vif x_8 (
 Ias 5 l_p0 x_6 fun x_9 =>
 LdA 5 x_9 w1 fun x_10 =>
 New (zeroP P 48) 48 w1 fun t_11 w2 =>
 StA 5 t_11 x_10 w2 fun w3 =>
 LdA 5 t_11 w3 fun x_12 =>
 Cl P F.tenants_May #[x_12] w3 fun x_13 w4 =>
 Up .not x_13 fun x_14 =>
 Vif x_14 (
 R (.tuple #[x_6, (.int .i64 1)]) w4) (
 Dr w4 fun w5 =>
 Ssl 5 l_p0 none (some x_6) fun x_15 =>
 LdA 5 t_11 w5 fun x_17 =>
 Cl P F.tenants_again #[x_15, x_17] w5 fun x_19 w6 =>
 Vif x_19 (
 R (.tuple #[x_6, (.int .i64 8)]) w6) (
 Bp .add x_6 (.int .i64 1) fun x_20 =>
 KE [l_p0, l_p0, x_5] [l_p0, l_p0, x_5] <| next7 x_20 w6))) (
 R (.tuple #[(.int .i64 (-1)), (.int .i64 0)]) w1)))
theorem Tie.tenants_Check {l_p0 : Value} {w : World} {R : Value → World → Prop} (h : Vcf.tenants_Check Tryd.prog l_p0 w R) : Cl Tryd.prog F.tenants_Check #[l_p0] w R :=
  cl_of_vc (n := 34) (rs := [(.tmp 2), (.tmp 3)]) (h := (.s .z (.s (.b (.s .z (.i (.s .z .z) (.s .z (.i (.s .z .z) .z))))) (.s (.s .z (.b (.l [16] [0, 14, 15] (.s .z (.s (.i .z .z) (.s (.b (.s .z (.b (.s .z (.i (.s .z .z) (.s (.r (.staged [0, 0, 3, 0, 15, 31])) (.i (.s .z .z) .z))))))) .z)))))) (.s .z .z))))) (args := [l_p0]) (by kernel_rfl) Tryd.func28 rfl (by kernel_rfl) rfl rfl rfl (Eq.mp (by kernel_rfl) h)

/-- baler/tenants.between -/
def Vcf.tenants_between (P : Program) (n_p0 low_p1 high_p2 : Value) (w : World) (R : Value → World → Prop) : Prop   :=
 Bp .geq n_p0 low_p1 fun x_1 =>
 Vif x_1 (
 Bp .leq n_p0 high_p2 fun x_2 =>
 R x_2 w) (
 R (.bool false) w)
theorem Tie.tenants_between {n_p0 low_p1 high_p2 : Value} {w : World} {R : Value → World → Prop} (h : Vcf.tenants_between Tryd.prog n_p0 low_p1 high_p2 w R) : Cl Tryd.prog F.tenants_between #[n_p0, low_p1, high_p2] w R :=
  cl_of_vc (n := 15) (rs := [(.tmp 6)]) (h := (.s .z (.s .z .z))) (args := [n_p0, low_p1, high_p2]) (by kernel_rfl) Tryd.func29 rfl (by kernel_rfl) rfl rfl rfl (Eq.mp (by kernel_rfl) h)

/-- baler/sorter.Most -/
def Vcf.sorter_Most (P : Program) (n_p0 : Value) (w : World) (R : Value → World → Prop) : Prop   :=
 Bp .lss n_p0 (.int .i64 2) fun x_1 =>
 Vif x_1 (
 R (.int .i64 0) w) (
 VLoop 1 [(.int .i64 0)] w fun _ next3 b_2 w1 =>
 Bp .shl (.int .i64 1) b_2 fun x_4 =>
 Bmin P #[3, 3] 3 #[n_p0, (.int .i64 1099511627776)] w1 fun x_5 =>
 Bp .lss x_4 x_5 fun x_6 =>
 Vif x_6 (
 Bp .add b_2 (.int .i64 1) fun x_7 =>
 KE [n_p0] [n_p0] <| next3 x_7 w1) (
 Bp .mul (.int .i64 3) b_2 fun x_8 =>
 Bp .add (.int .i64 4) x_8 fun x_9 =>
 Bp .add b_2 (.int .i64 2) fun x_10 =>
 Bp .mul x_9 x_10 fun x_11 =>
 Bp .quo (.int .i64 1099511627776) x_11 fun x_12 =>
 Bp .gtr n_p0 x_12 fun x_13 =>
 Vif x_13 (
 R (.int .i64 1099511627776) w1) (
 Bp .mul n_p0 x_11 fun x_14 =>
 R x_14 w1)))
theorem Tie.sorter_Most {n_p0 : Value} {w : World} {R : Value → World → Prop} (h : Vcf.sorter_Most Tryd.prog n_p0 w R) : Cl Tryd.prog F.sorter_Most #[n_p0] w R :=
  cl_of_vc (n := 27) (rs := [(.tmp 2)]) (h := (.s .z (.s (.s .z (.i (.s .z .z) .z)) (.s .z (.s (.b (.l [3] [0] (.s (.s .z (.i .z .z)) (.b .z)))) (.s .z (.s (.s .z (.i (.s .z .z) .z)) (.s .z .z)))))))) (args := [n_p0]) (by kernel_rfl) Tryd.func30 rfl (by kernel_rfl) rfl rfl rfl (Eq.mp (by kernel_rfl) h)

/-- baler/balerref31.Word -/
def Vcf.balerref31_Word (P : Program) (s_p0 : Value) (w : World) (R : Value → World → Prop) : Prop   :=
 Cl P F.balerref31_Runes #[s_p0] w fun x_1 w1 =>
 Lnl x_1 fun x_2 =>
 VLoop 1 [(.int .i64 0)] w1 fun _ next4 x_3 w2 =>
 Bp .lss x_3 x_2 fun x_5 =>
 Vif x_5 (
 Ias 2 x_1 x_3 fun x_6 =>
 LdA 2 x_6 w2 fun x_7 =>
 New (zeroP P 67) 67 w2 fun r_8 w3 =>
 StA 2 r_8 x_7 w3 fun w4 =>
 Fo 0 r_8 fun x_9 =>
 Ld x_9 w4 fun x_10 =>
 Cl P F.balerref31_May #[x_10] w4 fun x_11 w5 =>
 Up .not x_11 fun x_12 =>
 Vif x_12 (
 R (.bool false) w5) (
 Bp .add x_3 (.int .i64 1) fun x_13 =>
 KE [x_1, x_1, x_2] [x_1, x_1, x_2] <| next4 x_13 w5)) (
 Lnl x_1 fun x_14 =>
 Bp .gtr x_14 (.int .i64 0) fun x_15 =>
 Vif x_15 (
 Lnl x_1 fun x_16 =>
 Bp .leq x_16 (.int .i64 32) fun x_17 =>
 R x_17 w2) (
 R (.bool false) w2))
theorem Tie.balerref31_Word {s_p0 : Value} {w : World} {R : Value → World → Prop} (h : Vcf.balerref31_Word Tryd.prog s_p0 w R) : Cl Tryd.prog F.balerref31_Word #[s_p0] w R :=
  cl_of_vc (n := 27) (rs := [(.tmp 2)]) (h := (.s .z (.s .z (.s (.s .z (.b (.l [10] [3, 8, 9] (.s .z (.s (.i .z .z) (.s (.b (.s .z (.s .z (.i (.s .z .z) .z)))) .z)))))) (.s .z .z))))) (args := [s_p0]) (by kernel_rfl) Tryd.func31 rfl (by kernel_rfl) rfl rfl rfl (Eq.mp (by kernel_rfl) h)

/-- baler/tenants.May -/
def Vcf.tenants_May (P : Program) (t_p0 : Value) (w : World) (R : Value → World → Prop) : Prop   :=
 New t_p0 48 w fun t_1 w1 =>
 Fo 0 t_1 fun x_2 =>
 Ld x_2 w1 fun x_3 =>
 Cl P F.token_Is #[x_3] w1 fun x_4 w2 =>
 Vif x_4 (
 Fo 1 t_1 fun x_5 =>
 Ld x_5 w2 fun x_6 =>
 Cl P F.token_Is #[x_6] w2 fun x_7 w3 =>
 Vif x_7 (
 Fo 2 t_1 fun x_8 =>
 Ld x_8 w3 fun x_9 =>
 Cl P F.tenants_between #[x_9, (.int .i64 0), (.int .i64 1099511627776)] w3 fun x_10 w4 =>
 Vif x_10 (
 Fo 3 t_1 fun x_11 =>
 Ld x_11 w4 fun x_12 =>
 Cl P F.tenants_between #[x_12, (.int .i64 1), (.int .i64 1099511627776)] w4 fun x_13 w5 =>
 Vif x_13 (
 Fo 4 t_1 fun x_14 =>
 Ld x_14 w5 fun x_15 =>
 Cl P F.tenants_between #[x_15, (.int .i64 1), (.int .i64 1099511627776)] w5 fun x_16 w6 =>
 R x_16 w6) (
 R (.bool false) w5)) (
 R (.bool false) w4)) (
 R (.bool false) w3)) (
 R (.bool false) w2)
theorem Tie.tenants_May {t_p0 : Value} {w : World} {R : Value → World → Prop} (h : Vcf.tenants_May Tryd.prog t_p0 w R) : Cl Tryd.prog F.tenants_May #[t_p0] w R :=
  cl_of_vc (n := 26) (rs := [(.tmp 2)]) (h := (.s .z (.s .z .z))) (args := [t_p0]) (by kernel_rfl) Tryd.func32 rfl (by kernel_rfl) rfl rfl rfl (Eq.mp (by kernel_rfl) h)

/-- baler/tenants.again -/
def Vcf.tenants_again (P : Program) (l_p0 t_p1 : Value) (w : World) (R : Value → World → Prop) : Prop   :=
 New t_p1 48 w fun t_1 w1 =>
 Lnl l_p0 fun x_2 =>
 VLoop 1 [(.int .i64 0)] w1 fun _ next4 x_3 w2 =>
 Bp .lss x_3 x_2 fun x_5 =>
 Vif x_5 (
 Ias 5 l_p0 x_3 fun x_6 =>
 LdA 5 x_6 w2 fun x_7 =>
 New (zeroP P 48) 48 w2 fun x_8 w3 =>
 StA 5 x_8 x_7 w3 fun w4 =>
 VJoin 1 (fun _ x_9 w5 =>
 Vif x_9 (
 R (.bool true) w5) (
 Bp .add x_3 (.int .i64 1) fun x_10 =>
 KE [t_1, l_p0, x_2] [t_1, l_p0, x_2] <| next4 x_10 w5))
 (fun J11 =>
 Fo 0 x_8 fun x_12 =>
 Ld x_12 w4 fun x_13 =>
 Fo 0 t_1 fun x_14 =>
 Ld x_14 w4 fun x_15 =>
 Bp .eql x_13 x_15 fun x_16 =>
 Vif x_16 (
 KE [t_1, l_p0, x_2, x_3] [t_1, l_p0, x_2, x_3] <| J11 (.bool true) w4) (
 Fo 1 x_8 fun x_17 =>
 Ld x_17 w4 fun x_18 =>
 Fo 1 t_1 fun x_19 =>
 Ld x_19 w4 fun x_20 =>
 Bp .eql x_18 x_20 fun x_21 =>
 KE [t_1, l_p0, x_2, x_3] [t_1, l_p0, x_2, x_3] <| J11 x_21 w4))) (
 R (.bool false) w2)
theorem Tie.tenants_again {l_p0 t_p1 : Value} {w : World} {R : Value → World → Prop} (h : Vcf.tenants_again Tryd.prog l_p0 t_p1 w R) : Cl Tryd.prog F.tenants_again #[l_p0, t_p1] w R :=
  cl_of_vc (n := 26) (rs := [(.tmp 4)]) (h := (.s .z (.s (.s .z (.b (.l [9] [3, 7, 8] (.s .z (.s (.i .z .z) (.s (.b (.s .z (.j [24] [3, 7, 8, 9] .z (.i (.s .z .z) .z)))) .z)))))) (.s .z .z)))) (args := [l_p0, t_p1]) (by kernel_rfl) Tryd.func33 rfl (by kernel_rfl) rfl rfl rfl (Eq.mp (by kernel_rfl) h)

/-- baler/balerref31.Runes -/
def Vcf.balerref31_Runes (P : Program) (s_p0 : Value) (w : World) (R : Value → World → Prop) : Prop   :=
 VLoop 2 [s_p0, (.slice none 0 0)] w fun _ next3 s_1 out_2 w1 =>
 Lns s_1 fun x_4 =>
 Bp .gtr x_4 (.int .i64 0) fun x_5 =>
 Vif x_5 (
 Cl P F.balerref31_First #[s_1] w1 fun x_6 w2 =>
 New (zeroP P 67) 67 w2 fun r_7 w3 =>
 StA 2 r_7 x_6 w3 fun w4 =>
 LdA 2 r_7 w4 fun x_8 =>
 Bs P 64 1 #[(0, x_8)] w4 fun x_9 w5 =>
 Ap P #[64, 64] 64 #[out_2, x_9] w5 fun x_10 w6 =>
 Fo 1 r_7 fun x_11 =>
 Ld x_11 w6 fun x_12 =>
 Sst s_1 (some x_12) none fun x_13 =>
 KE [] [] <| next3 x_13 x_10 w6) (
 R out_2 w1)
theorem Tie.balerref31_Runes {s_p0 : Value} {w : World} {R : Value → World → Prop} (h : Vcf.balerref31_Runes Tryd.prog s_p0 w R) : Cl Tryd.prog F.balerref31_Runes #[s_p0] w R :=
  cl_of_vc (n := 19) (rs := [(.tmp 2)]) (h := (.s .z (.s .z (.s (.b (.l [0, 3] [] (.s (.s .z (.i .z .z)) (.b (.s .z (.s .z .z)))))) (.s .z .z))))) (args := [s_p0]) (by kernel_rfl) Tryd.func34 rfl (by kernel_rfl) rfl rfl rfl (Eq.mp (by kernel_rfl) h)

/-- baler/balerref31.May -/
def Vcf.balerref31_May (P : Program) (n_p0 : Value) (w : World) (R : Value → World → Prop) : Prop   :=
 Bp .gtr n_p0 (.int .i64 32) fun x_1 =>
 Vif x_1 (
 Bp .lss n_p0 (.int .i64 127) fun x_2 =>
 Vif x_2 (
 Bp .neq n_p0 (.int .i64 58) fun x_3 =>
 Vif x_3 (
 Bp .neq n_p0 (.int .i64 35) fun x_4 =>
 R x_4 w) (
 R (.bool false) w)) (
 Bp .gtr n_p0 (.int .i64 160) fun x_5 =>
 Vif x_5 (
 Bp .neq n_p0 (.int .i64 58) fun x_6 =>
 Vif x_6 (
 Bp .neq n_p0 (.int .i64 35) fun x_7 =>
 R x_7 w) (
 R (.bool false) w)) (
 R (.bool false) w))) (
 R (.bool false) w)
theorem Tie.balerref31_May {n_p0 : Value} {w : World} {R : Value → World → Prop} (h : Vcf.balerref31_May Tryd.prog n_p0 w R) : Cl Tryd.prog F.balerref31_May #[n_p0] w R :=
  cl_of_vc (n := 21) (rs := [(.tmp 2)]) (h := (.s .z (.s .z .z))) (args := [n_p0]) (by kernel_rfl) Tryd.func35 rfl (by kernel_rfl) rfl rfl rfl (Eq.mp (by kernel_rfl) h)

/-- baler/token.Is -/
def Vcf.token_Is (P : Program) (s_p0 : Value) (w : World) (R : Value → World → Prop) : Prop   :=
 Cl P F.token_First #[s_p0] w fun x_1 w1 =>
 Ex x_1 0 fun x_2 =>
 Ex x_1 1 fun x_3 =>
 Bp .lss x_3 (.int .i64 0) fun x_4 =>
 Vif x_4 (
 Bp .neq s_p0 (.string ⟨#[]⟩) fun x_5 =>
 Vif x_5 (
 Cl P F.token_Len #[s_p0] w1 fun x_6 w2 =>
 Bp .leq x_6 (.int .i64 32) fun x_7 =>
 R x_7 w2) (
 R (.bool false) w1)) (
 R (.bool false) w1)
theorem Tie.token_Is {s_p0 : Value} {w : World} {R : Value → World → Prop} (h : Vcf.token_Is Tryd.prog s_p0 w R) : Cl Tryd.prog F.token_Is #[s_p0] w R :=
  cl_of_vc (n := 21) (rs := [(.tmp 2)]) (h := (.s .z (.s .z (.s .z .z)))) (args := [s_p0]) (by kernel_rfl) Tryd.func36 rfl (by kernel_rfl) rfl rfl rfl (Eq.mp (by kernel_rfl) h)

/-- baler/balerref31.First -/
def Vcf.balerref31_First (P : Program) (s_p0 : Value) (w : World) (R : Value → World → Prop) : Prop   :=
 New (zeroP P 67) 67 w fun x_1 w1 =>
 Ixs s_p0 (.int .i64 0) fun x_2 =>
 Bp .lss x_2 (.int .u8 128) fun x_3 =>
 Vif x_3 (
 Ci .i64 x_2 fun x_4 =>
 Bd P 67 #[(0, x_4), (1, (.int .i64 1))] w1 fun x_5 =>
 StA 2 x_1 x_5 w1 fun w2 =>
 LdA 2 x_1 w2 fun x_6 =>
 R x_6 w2) (
 Bd P 67 #[] w1 fun x_7 =>
 New (zeroP P 67) 67 w1 fun out_8 w3 =>
 StA 2 out_8 x_7 w3 fun w4 =>
 VJoin 0 (fun _ w5 =>
 VJoin 0 (fun _ w6 =>
 VJoin 0 (fun _ w7 =>
 Fo 1 out_8 fun x_9 =>
 Ld x_9 w7 fun x_10 =>
 Bp .eql x_10 (.int .i64 0) fun x_11 =>
 Vif x_11 (
 Bd P 67 #[(0, (.int .i64 (-1))), (1, (.int .i64 1))] w7 fun x_12 =>
 StA 2 x_1 x_12 w7 fun w8 =>
 LdA 2 x_1 w8 fun x_13 =>
 R x_13 w8) (
 LdA 2 out_8 w7 fun x_14 =>
 StA 2 x_1 x_14 w7 fun w9 =>
 LdA 2 x_1 w9 fun x_15 =>
 R x_15 w9))
 (fun J16 =>
 VJoin 1 (fun _ x_17 w10 =>
 Vif x_17 (
 Cl P F.balerref31_wide #[s_p0, (.int .i64 4)] w10 fun x_18 w11 =>
 StA 2 out_8 x_18 w11 fun w12 =>
 KE [x_1, out_8] [x_1, out_8] <| J16 w12) (
 KE [x_1, out_8] [x_1, out_8] <| J16 w10))
 (fun J19 =>
 Bp .geq x_2 (.int .u8 240) fun x_20 =>
 Vif x_20 (
 Bp .lss x_2 (.int .u8 248) fun x_21 =>
 KE [s_p0, x_1, out_8] [s_p0, x_1, out_8] <| J19 x_21 w6) (
 KE [s_p0, x_1, out_8] [s_p0, x_1, out_8] <| J19 (.bool false) w6))))
 (fun J22 =>
 VJoin 1 (fun _ x_23 w13 =>
 Vif x_23 (
 Cl P F.balerref31_wide #[s_p0, (.int .i64 3)] w13 fun x_24 w14 =>
 StA 2 out_8 x_24 w14 fun w15 =>
 KE [s_p0, x_1, x_2, out_8] [s_p0, x_1, x_2, out_8] <| J22 w15) (
 KE [s_p0, x_1, x_2, out_8] [s_p0, x_1, x_2, out_8] <| J22 w13))
 (fun J25 =>
 Bp .geq x_2 (.int .u8 224) fun x_26 =>
 Vif x_26 (
 Bp .lss x_2 (.int .u8 240) fun x_27 =>
 KE [s_p0, x_1, x_2, out_8] [s_p0, x_1, x_2, out_8] <| J25 x_27 w5) (
 KE [s_p0, x_1, x_2, out_8] [s_p0, x_1, x_2, out_8] <| J25 (.bool false) w5))))
 (fun J28 =>
 VJoin 1 (fun _ x_29 w16 =>
 Vif x_29 (
 Cl P F.balerref31_wide #[s_p0, (.int .i64 2)] w16 fun x_30 w17 =>
 StA 2 out_8 x_30 w17 fun w18 =>
 KE [s_p0, x_1, x_2, out_8] [s_p0, x_1, x_2, out_8] <| J28 w18) (
 KE [s_p0, x_1, x_2, out_8] [s_p0, x_1, x_2, out_8] <| J28 w16))
 (fun J31 =>
 Bp .geq x_2 (.int .u8 192) fun x_32 =>
 Vif x_32 (
 Bp .lss x_2 (.int .u8 224) fun x_33 =>
 KE [s_p0, x_1, x_2, out_8] [s_p0, x_1, x_2, out_8] <| J31 x_33 w4) (
 KE [s_p0, x_1, x_2, out_8] [s_p0, x_1, x_2, out_8] <| J31 (.bool false) w4))))
theorem Tie.balerref31_First {s_p0 : Value} {w : World} {R : Value → World → Prop} (h : Vcf.balerref31_First Tryd.prog s_p0 w R) : Cl Tryd.prog F.balerref31_First #[s_p0] w R :=
  cl_of_vc (n := 42) (rs := [(.cell 2 67)]) (h := (.s .z (.s .z (.s (.s .z (.i (.s .z .z) .z)) (.s .z (.j [] [0, 2, 3, 4] (.j [18] [0, 2, 3, 4] .z (.i .z .z)) (.j [] [0, 2, 3, 4] (.j [26] [0, 2, 3, 4] .z (.i .z .z)) (.j [] [2, 4] (.j [34] [0, 2, 4] .z (.i .z .z)) (.s (.s .z (.i (.s .z .z) .z)) (.s .z .z)))))))))) (args := [s_p0]) (by kernel_rfl) Tryd.func37 rfl (by kernel_rfl) rfl rfl rfl (Eq.mp (by kernel_rfl) h)

/-- baler/token.First -/
def Vcf.token_First (P : Program) (s_p0 : Value) (w : World) (R : Value → World → Prop) : Prop   :=
 Rg P 9 s_p0 w fun x_1 w1 =>
 VLoop 0 [] w1 fun _ next2 w2 =>
 Nx P x_1 true 0 w2 fun x_3 w3 =>
 Ex x_3 0 fun x_4 =>
 Vif x_4 (
 Ex x_3 1 fun x_5 =>
 Ex x_3 2 fun x_6 =>
 Cl P F.token_told #[s_p0, x_5, x_6] w3 fun x_7 w4 =>
 Cl P F.token_may #[x_7] w4 fun x_8 w5 =>
 Up .not x_8 fun x_9 =>
 Vif x_9 (
 R (.tuple #[x_7, x_5]) w5) (
 KE [s_p0, x_1] [s_p0, x_1] <| next2 w5)) (
 R (.tuple #[(.int .i64 0), (.int .i64 (-1))]) w3)
theorem Tie.token_First {s_p0 : Value} {w : World} {R : Value → World → Prop} (h : Vcf.token_First Tryd.prog s_p0 w R) : Cl Tryd.prog F.token_First #[s_p0] w R :=
  cl_of_vc (n := 22) (rs := [(.tmp 2), (.tmp 3)]) (h := (.s .z (.s (.s .z (.b (.l [] [0, 8] (.s .z (.s (.i .z .z) (.b (.s .z (.s .z (.s .z (.i (.s .z .z) .z)))))))))) (.s .z .z)))) (args := [s_p0]) (by kernel_rfl) Tryd.func38 rfl (by kernel_rfl) rfl rfl rfl (Eq.mp (by kernel_rfl) h)

/-- baler/token.Len -/
def Vcf.token_Len (P : Program) (s_p0 : Value) (w : World) (R : Value → World → Prop) : Prop   :=
 Rg P 9 s_p0 w fun x_1 w1 =>
 VLoop 1 [(.int .i64 0)] w1 fun _ next3 n_2 w2 =>
 Nx P x_1 true 0 w2 fun x_4 w3 =>
 Ex x_4 0 fun x_5 =>
 Vif x_5 (
 Bp .add n_2 (.int .i64 1) fun x_6 =>
 KE [x_1] [x_1] <| next3 x_6 w3) (
 R n_2 w3)
theorem Tie.token_Len {s_p0 : Value} {w : World} {R : Value → World → Prop} (h : Vcf.token_Len Tryd.prog s_p0 w R) : Cl Tryd.prog F.token_Len #[s_p0] w R :=
  cl_of_vc (n := 11) (rs := [(.tmp 2)]) (h := (.s .z (.s .z (.s (.s .z (.b (.l [3] [5] (.s .z (.s (.i .z .z) (.b .z)))))) (.s .z .z))))) (args := [s_p0]) (by kernel_rfl) Tryd.func39 rfl (by kernel_rfl) rfl rfl rfl (Eq.mp (by kernel_rfl) h)

/-- baler/balerref31.wide -/
def Vcf.balerref31_wide (P : Program) (s_p0 bytes_p1 : Value) (w : World) (R : Value → World → Prop) : Prop   :=
 New (zeroP P 67) 67 w fun x_1 w1 =>
 Ixs s_p0 (.int .i64 0) fun x_2 =>
 Ci .i64 x_2 fun x_3 =>
 VJoin 1 (fun _ n_4 w2 =>
 VJoin 2 (fun _ n_5 least_6 w3 =>
 VJoin 2 (fun _ n_7 least_8 w4 =>
 VLoop 2 [n_7, (.int .i64 1)] w4 fun _ next11 n_9 i_10 w5 =>
 Bp .lss i_10 bytes_p1 fun x_12 =>
 Vif x_12 (
 Cl P F.balerref31_more #[s_p0, i_10] w5 fun x_13 w6 =>
 Up .not x_13 fun x_14 =>
 Vif x_14 (
 Bd P 67 #[] w6 fun x_15 =>
 StA 2 x_1 x_15 w6 fun w7 =>
 LdA 2 x_1 w7 fun x_16 =>
 R x_16 w7) (
 Bp .mul (.int .i64 64) n_9 fun x_17 =>
 Ixs s_p0 i_10 fun x_18 =>
 Ci .i64 x_18 fun x_19 =>
 Bp .add x_17 x_19 fun x_20 =>
 Bp .sub x_20 (.int .i64 128) fun x_21 =>
 Bp .add i_10 (.int .i64 1) fun x_22 =>
 KE [s_p0, bytes_p1, x_1, least_8] [s_p0, bytes_p1, x_1, least_8] <| next11 x_21 x_22 w6)) (
 VJoin 1 (fun _ x_23 w8 =>
 Vif x_23 (
 Bd P 67 #[] w8 fun x_24 =>
 StA 2 x_1 x_24 w8 fun w9 =>
 LdA 2 x_1 w9 fun x_25 =>
 R x_25 w9) (
 Bd P 67 #[(0, n_9), (1, bytes_p1)] w8 fun x_26 =>
 StA 2 x_1 x_26 w8 fun w10 =>
 LdA 2 x_1 w10 fun x_27 =>
 R x_27 w10))
 (fun J28 =>
 Bp .lss n_9 least_8 fun x_29 =>
 Vif x_29 (
 KE [bytes_p1, x_1, n_9] [bytes_p1, x_1, n_9] <| J28 (.bool true) w5) (
 Bp .gtr n_9 (.int .i64 1114111) fun x_30 =>
 Vif x_30 (
 KE [bytes_p1, x_1, n_9] [bytes_p1, x_1, n_9] <| J28 (.bool true) w5) (
 Bp .geq n_9 (.int .i64 55296) fun x_31 =>
 Vif x_31 (
 Bp .leq n_9 (.int .i64 57343) fun x_32 =>
 KE [bytes_p1, x_1, n_9] [bytes_p1, x_1, n_9] <| J28 x_32 w5) (
 KE [bytes_p1, x_1, n_9] [bytes_p1, x_1, n_9] <| J28 (.bool false) w5))))))
 (fun J33 =>
 Bp .eql bytes_p1 (.int .i64 4) fun x_34 =>
 Vif x_34 (
 Bp .sub n_5 (.int .i64 240) fun x_35 =>
 KE [s_p0, bytes_p1, x_1] [s_p0, bytes_p1, x_1] <| J33 x_35 (.int .i64 65536) w3) (
 KE [s_p0, bytes_p1, x_1] [s_p0, bytes_p1, x_1] <| J33 n_5 least_6 w3)))
 (fun J36 =>
 Bp .eql bytes_p1 (.int .i64 3) fun x_37 =>
 Vif x_37 (
 Bp .sub n_4 (.int .i64 224) fun x_38 =>
 KE [s_p0, bytes_p1, x_1] [s_p0, bytes_p1, x_1] <| J36 x_38 (.int .i64 2048) w2) (
 KE [s_p0, bytes_p1, x_1] [s_p0, bytes_p1, x_1] <| J36 n_4 (.int .i64 128) w2)))
 (fun J39 =>
 Bp .eql bytes_p1 (.int .i64 2) fun x_40 =>
 Vif x_40 (
 Bp .sub x_3 (.int .i64 192) fun x_41 =>
 KE [s_p0, bytes_p1, x_1, (.int .i64 128)] [s_p0, bytes_p1, x_1, (.int .i64 128)] <| J39 x_41 w1) (
 KE [s_p0, bytes_p1, x_1, (.int .i64 128)] [s_p0, bytes_p1, x_1, (.int .i64 128)] <| J39 x_3 w1))
theorem Tie.balerref31_wide {s_p0 bytes_p1 : Value} {w : World} {R : Value → World → Prop} (h : Vcf.balerref31_wide Tryd.prog s_p0 bytes_p1 w R) : Cl Tryd.prog F.balerref31_wide #[s_p0, bytes_p1] w R :=
  cl_of_vc (n := 60) (rs := [(.cell 4 67)]) (h := (.s .z (.s .z (.s .z (.j [5] [0, 1, 4, 6] (.s .z (.i .z .z)) (.j [5, 6] [0, 1, 4] (.s .z (.i (.s .z .z) .z)) (.j [5, 6] [0, 1, 4] (.s .z (.i (.s .z .z) .z)) (.s (.s .z (.b (.l [5, 7] [0, 1, 4, 6] (.s (.s .z (.i .z .z)) (.s (.b (.s (.s .z (.i (.s .z .z) .z)) .z)) .z))))) (.s (.j [55] [1, 4, 5] .z (.i (.s .z .z) .z)) (.s .z .z)))))))))) (args := [s_p0, bytes_p1]) (by kernel_rfl) Tryd.func40 rfl (by kernel_rfl) rfl rfl rfl (Eq.mp (by kernel_rfl) h)

/-- baler/token.told -/
def Vcf.token_told (P : Program) (s_p0 at_p1 c_p2 : Value) (w : World) (R : Value → World → Prop) : Prop   :=
 Bp .eql c_p2 (.int .i32 65533) fun x_1 =>
 Vif x_1 (
 Sst s_p0 (some at_p1) none fun x_2 =>
 Cl P F.unicode_utf8_DecodeRuneInString #[x_2] w fun x_3 w1 =>
 Ex x_3 0 fun x_4 =>
 Ex x_3 1 fun x_5 =>
 Bp .eql x_5 (.int .i64 1) fun x_6 =>
 Vif x_6 (
 R (.int .i64 (-1)) w1) (
 Ci .i64 c_p2 fun x_7 =>
 R x_7 w1)) (
 Ci .i64 c_p2 fun x_8 =>
 R x_8 w)
theorem Tie.token_told {s_p0 at_p1 c_p2 : Value} {w : World} {R : Value → World → Prop} (h : Vcf.token_told Tryd.prog s_p0 at_p1 c_p2 w R) : Cl Tryd.prog F.token_told #[s_p0, at_p1, c_p2] w R :=
  cl_of_vc (n := 22) (rs := [(.tmp 6)]) (h := (.s .z (.s (.s .z (.i (.s .z (.s .z (.i (.s .z .z) .z))) .z)) (.s .z .z)))) (args := [s_p0, at_p1, c_p2]) (by kernel_rfl) Tryd.func41 rfl (by kernel_rfl) rfl rfl rfl (Eq.mp (by kernel_rfl) h)

/-- baler/token.may -/
def Vcf.token_may (P : Program) (n_p0 : Value) (w : World) (R : Value → World → Prop) : Prop   :=
 Bp .gtr n_p0 (.int .i64 32) fun x_1 =>
 Vif x_1 (
 Bp .lss n_p0 (.int .i64 127) fun x_2 =>
 Vif x_2 (
 Bp .neq n_p0 (.int .i64 58) fun x_3 =>
 Vif x_3 (
 Bp .neq n_p0 (.int .i64 35) fun x_4 =>
 R x_4 w) (
 R (.bool false) w)) (
 Bp .gtr n_p0 (.int .i64 160) fun x_5 =>
 Vif x_5 (
 Bp .neq n_p0 (.int .i64 58) fun x_6 =>
 Vif x_6 (
 Bp .neq n_p0 (.int .i64 35) fun x_7 =>
 R x_7 w) (
 R (.bool false) w)) (
 R (.bool false) w))) (
 R (.bool false) w)
theorem Tie.token_may {n_p0 : Value} {w : World} {R : Value → World → Prop} (h : Vcf.token_may Tryd.prog n_p0 w R) : Cl Tryd.prog F.token_may #[n_p0] w R :=
  cl_of_vc (n := 21) (rs := [(.tmp 2)]) (h := (.s .z (.s .z .z))) (args := [n_p0]) (by kernel_rfl) Tryd.func42 rfl (by kernel_rfl) rfl rfl rfl (Eq.mp (by kernel_rfl) h)

/-- baler/balerref31.more -/
def Vcf.balerref31_more (P : Program) (s_p0 i_p1 : Value) (w : World) (R : Value → World → Prop) : Prop   :=
 Lns s_p0 fun x_1 =>
 Bp .lss i_p1 x_1 fun x_2 =>
 Vif x_2 (
 Ixs s_p0 i_p1 fun x_3 =>
 Bp .geq x_3 (.int .u8 128) fun x_4 =>
 Vif x_4 (
 Ixs s_p0 i_p1 fun x_5 =>
 Bp .lss x_5 (.int .u8 192) fun x_6 =>
 R x_6 w) (
 R (.bool false) w)) (
 R (.bool false) w)
theorem Tie.balerref31_more {s_p0 i_p1 : Value} {w : World} {R : Value → World → Prop} (h : Vcf.balerref31_more Tryd.prog s_p0 i_p1 w R) : Cl Tryd.prog F.balerref31_more #[s_p0, i_p1] w R :=
  cl_of_vc (n := 21) (rs := [(.tmp 4)]) (h := (.s .z (.s .z .z))) (args := [s_p0, i_p1]) (by kernel_rfl) Tryd.func43 rfl (by kernel_rfl) rfl rfl rfl (Eq.mp (by kernel_rfl) h)

/-- unicode/utf8.DecodeRuneInString -/
def Vcf.unicode_utf8_DecodeRuneInString (P : Program) (s_p0 : Value) (w : World) (R : Value → World → Prop) : Prop   :=
 VJoin 1 (fun _ x_1 w1 =>
 Vif x_1 (
 Ixs s_p0 (.int .i64 0) fun x_2 =>
 Ci .i32 x_2 fun x_3 =>
 R (.tuple #[x_3, (.int .i64 1)]) w1) (
 Cl P F.unicode_utf8_decodeRuneInStringSlow #[s_p0] w1 fun x_4 w2 =>
 Ex x_4 0 fun x_5 =>
 Ex x_4 1 fun x_6 =>
 R (.tuple #[x_5, x_6]) w2))
 (fun J7 =>
 Bp .neq s_p0 (.string ⟨#[]⟩) fun x_8 =>
 Vif x_8 (
 Ixs s_p0 (.int .i64 0) fun x_9 =>
 Bp .lss x_9 (.int .u8 128) fun x_10 =>
 KE [s_p0] [s_p0] <| J7 x_10 w) (
 KE [s_p0] [s_p0] <| J7 (.bool false) w))
theorem Tie.unicode_utf8_DecodeRuneInString {s_p0 : Value} {w : World} {R : Value → World → Prop} (h : Vcf.unicode_utf8_DecodeRuneInString Tryd.prog s_p0 w R) : Cl Tryd.prog F.unicode_utf8_DecodeRuneInString #[s_p0] w R :=
  cl_of_vc (n := 19) (rs := [(.tmp 2), (.tmp 3)]) (h := (.s .z (.s (.j [10] [0] .z (.i (.s .z .z) .z)) .z))) (args := [s_p0]) (by kernel_rfl) Tryd.func44 rfl (by kernel_rfl) rfl rfl rfl (Eq.mp (by kernel_rfl) h)

/-- unicode/utf8.decodeRuneInStringSlow -/
def Vcf.unicode_utf8_decodeRuneInStringSlow (P : Program) (s_p0 : Value) (w : World) (R : Value → World → Prop) : Prop   :=
 Lns s_p0 fun x_1 =>
 Bp .lss x_1 (.int .i64 1) fun x_2 =>
 Vif x_2 (
 R (.tuple #[(.int .i32 65533), (.int .i64 0)]) w) (
 Ixs s_p0 (.int .i64 0) fun x_3 =>
 Iaa 256 1 (.pointer (some ⟨0, 0, none⟩)) x_3 fun x_4 =>
 Ld x_4 w fun x_5 =>
 Bp .geq x_5 (.int .u8 240) fun x_6 =>
 Vif x_6 (
 Ci .i32 x_5 fun x_7 =>
 Bp .shl x_7 (.int .u64 31) fun x_8 =>
 Bp .shr x_8 (.int .u64 31) fun x_9 =>
 Ixs s_p0 (.int .i64 0) fun x_10 =>
 Ci .i32 x_10 fun x_11 =>
 Bp .andNot x_11 x_9 fun x_12 =>
 Bp .and (.int .i32 65533) x_9 fun x_13 =>
 Bp .or x_12 x_13 fun x_14 =>
 R (.tuple #[x_14, (.int .i64 1)]) w) (
 Bp .and x_5 (.int .u8 7) fun x_15 =>
 Ci .i64 x_15 fun x_16 =>
 Bp .shr x_5 (.int .u64 4) fun x_17 =>
 Iaa 16 2 (.pointer (some ⟨1, 0, none⟩)) x_17 fun x_18 =>
 LdA 2 x_18 w fun x_19 =>
 New (zeroP P 80) 80 w fun accept_20 w1 =>
 StA 2 accept_20 x_19 w1 fun w2 =>
 Bp .lss x_1 x_16 fun x_21 =>
 Vif x_21 (
 R (.tuple #[(.int .i32 65533), (.int .i64 1)]) w2) (
 Ixs s_p0 (.int .i64 1) fun x_22 =>
 VJoin 1 (fun _ x_23 w3 =>
 Vif x_23 (
 R (.tuple #[(.int .i32 65533), (.int .i64 1)]) w3) (
 Bp .leq x_16 (.int .i64 2) fun x_24 =>
 Vif x_24 (
 Bp .and x_3 (.int .u8 31) fun x_25 =>
 Ci .i32 x_25 fun x_26 =>
 Bp .shl x_26 (.int .u64 6) fun x_27 =>
 Bp .and x_22 (.int .u8 63) fun x_28 =>
 Ci .i32 x_28 fun x_29 =>
 Bp .or x_27 x_29 fun x_30 =>
 R (.tuple #[x_30, (.int .i64 2)]) w3) (
 Ixs s_p0 (.int .i64 2) fun x_31 =>
 VJoin 1 (fun _ x_32 w4 =>
 Vif x_32 (
 R (.tuple #[(.int .i32 65533), (.int .i64 1)]) w4) (
 Bp .leq x_16 (.int .i64 3) fun x_33 =>
 Vif x_33 (
 Bp .and x_3 (.int .u8 15) fun x_34 =>
 Ci .i32 x_34 fun x_35 =>
 Bp .shl x_35 (.int .u64 12) fun x_36 =>
 Bp .and x_22 (.int .u8 63) fun x_37 =>
 Ci .i32 x_37 fun x_38 =>
 Bp .shl x_38 (.int .u64 6) fun x_39 =>
 Bp .or x_36 x_39 fun x_40 =>
 Bp .and x_31 (.int .u8 63) fun x_41 =>
 Ci .i32 x_41 fun x_42 =>
 Bp .or x_40 x_42 fun x_43 =>
 R (.tuple #[x_43, (.int .i64 3)]) w4) (
 Ixs s_p0 (.int .i64 3) fun x_44 =>
 VJoin 1 (fun _ x_45 w5 =>
 Vif x_45 (
 R (.tuple #[(.int .i32 65533), (.int .i64 1)]) w5) (
 Bp .and x_3 (.int .u8 7) fun x_46 =>
 Ci .i32 x_46 fun x_47 =>
 Bp .shl x_47 (.int .u64 18) fun x_48 =>
 Bp .and x_22 (.int .u8 63) fun x_49 =>
 Ci .i32 x_49 fun x_50 =>
 Bp .shl x_50 (.int .u64 12) fun x_51 =>
 Bp .or x_48 x_51 fun x_52 =>
 Bp .and x_31 (.int .u8 63) fun x_53 =>
 Ci .i32 x_53 fun x_54 =>
 Bp .shl x_54 (.int .u64 6) fun x_55 =>
 Bp .or x_52 x_55 fun x_56 =>
 Bp .and x_44 (.int .u8 63) fun x_57 =>
 Ci .i32 x_57 fun x_58 =>
 Bp .or x_56 x_58 fun x_59 =>
 R (.tuple #[x_59, (.int .i64 4)]) w5))
 (fun J60 =>
 Bp .lss x_44 (.int .u8 128) fun x_61 =>
 Vif x_61 (
 KE [x_3, x_22, x_31, x_44] [x_3, x_22, x_31, x_44] <| J60 (.bool true) w4) (
 Bp .lss (.int .u8 191) x_44 fun x_62 =>
 KE [x_3, x_22, x_31, x_44] [x_3, x_22, x_31, x_44] <| J60 x_62 w4)))))
 (fun J63 =>
 Bp .lss x_31 (.int .u8 128) fun x_64 =>
 Vif x_64 (
 KE [s_p0, x_3, x_16, x_22, x_31] [s_p0, x_3, x_16, x_22, x_31] <| J63 (.bool true) w3) (
 Bp .lss (.int .u8 191) x_31 fun x_65 =>
 KE [s_p0, x_3, x_16, x_22, x_31] [s_p0, x_3, x_16, x_22, x_31] <| J63 x_65 w3)))))
 (fun J66 =>
 Fo 0 accept_20 fun x_67 =>
 Ld x_67 w2 fun x_68 =>
 Bp .lss x_22 x_68 fun x_69 =>
 Vif x_69 (
 KE [s_p0, x_3, x_16, x_22] [s_p0, x_3, x_16, x_22] <| J66 (.bool true) w2) (
 Fo 1 accept_20 fun x_70 =>
 Ld x_70 w2 fun x_71 =>
 Bp .lss x_71 x_22 fun x_72 =>
 KE [s_p0, x_3, x_16, x_22] [s_p0, x_3, x_16, x_22] <| J66 x_72 w2)))))
theorem Tie.unicode_utf8_decodeRuneInStringSlow {s_p0 : Value} {w : World} {R : Value → World → Prop} (h : Vcf.unicode_utf8_decodeRuneInStringSlow Tryd.prog s_p0 w R) : Cl Tryd.prog F.unicode_utf8_decodeRuneInStringSlow #[s_p0] w R :=
  cl_of_vc (n := 117) (rs := [(.tmp 2), (.tmp 3)]) (h := (.s .z (.s .z (.s (.s .z (.i (.s .z .z) .z)) (.s .z (.s .z (.s (.s .z (.i (.s .z (.s .z .z)) .z)) (.s .z (.s .z (.s (.s .z (.i (.s .z .z) .z)) (.s .z (.s (.j [57] [0, 5, 8, 10] .z (.i (.s .z .z) .z)) (.s (.s .z (.i (.s .z .z) .z)) (.s .z (.s (.j [75] [0, 5, 8, 10, 11] .z (.i (.s .z .z) .z)) (.s (.s .z (.i (.s .z .z) .z)) (.s .z (.s (.j [98] [5, 10, 11, 12] .z (.i (.s .z .z) .z)) (.s .z .z))))))))))))))))))) (args := [s_p0]) (by kernel_rfl) Tryd.func45 rfl (by kernel_rfl) rfl rfl rfl (Eq.mp (by kernel_rfl) h)

end Go.Proofs.YtbccjjbfiodbeaaDoor
