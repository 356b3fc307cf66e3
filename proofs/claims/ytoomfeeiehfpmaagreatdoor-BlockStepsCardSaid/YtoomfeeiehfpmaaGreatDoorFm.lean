/- Formulas of the program's functions, printed by a program of the prover's own (dec.py); each is tied to its code by the kernel. -/
import Derived.Test.YtoomfeeiehfpmaaGreatDoorVc
import Derived.Test.YtoomfeeiehfpmaaGreatDoorChecked
set_option linter.unusedVariables false
set_option maxRecDepth 1000000
namespace Go.Proofs.YtoomfeeiehfpmaaGreatDoor
open Go Go.Vc

abbrev F.balerlaw20_BlockReads : Nat := 5
abbrev F.balerlaw20_BlockSteps : Nat := 7
abbrev F.balerlaw20_letter : Nat := 8
abbrev F.balerlaw20_ref : Nat := 18
abbrev F.bits_NewReader : Nat := 19
abbrev F.bits_Reader_Seek : Nat := 20
abbrev F.block_Read : Nat := 21
abbrev F.balerref19_Room : Nat := 22
abbrev F.bits_Reader_At : Nat := 23
abbrev F.balerref20_Of : Nat := 24
abbrev F.balerref01_Bits : Nat := 25
abbrev F.block_NewReader : Nat := 30
abbrev F.block_Reader_Done : Nat := 31
abbrev F.block_Reader_Step : Nat := 32
abbrev F.block_Reader_Got : Nat := 33
abbrev F.block_Reader_Held : Nat := 34
abbrev F.bits_Reader_More : Nat := 35
abbrev F.balerref05_Symbols : Nat := 47
abbrev F.balerref01_Field : Nat := 50
abbrev F.bits_Reader_end : Nat := 53
abbrev F.balerref05_Read : Nat := 54
abbrev F.balerref14_Read : Nat := 55
abbrev F.balerref20_codes : Nat := 56
abbrev F.balerref14_Some : Nat := 57
abbrev F.balerref07_Decode : Nat := 58
abbrev F.balerref06_Decode : Nat := 59
abbrev F.balerref01_Number : Nat := 60
abbrev F.unbwt_Of : Nat := 64
abbrev F.block_Reader_step : Nat := 69
abbrev F.code_Reader_Held : Nat := 70
abbrev F.used_listed : Nat := 75
abbrev F.mtf_New : Nat := 76
abbrev F.zeros_may : Nat := 78
abbrev F.used_Is : Nat := 85
abbrev F.canon_New : Nat := 89
abbrev F.balerref05_There : Nat := 91
abbrev F.balerref05_Is : Nat := 92
abbrev F.balerref06_Touch : Nat := 94
abbrev F.balerref10_Codes : Nat := 99
abbrev F.balerref13_Read : Nat := 100
abbrev F.balerref14_readTables : Nat := 101
abbrev F.balerref10_Get : Nat := 102
abbrev F.balerref07_Reader_Put : Nat := 103
abbrev F.unbwt_New : Nat := 106
abbrev F.unbwt_Inverter_Step : Nat := 107
abbrev F.unbwt_Inverter_Take : Nat := 108
abbrev F.block_Reader_begin : Nat := 116
abbrev F.block_Reader_symbols : Nat := 117
abbrev F.block_row_waits : Nat := 118
abbrev F.block_row_next : Nat := 119
abbrev F.block_Reader_symbol : Nat := 120
abbrev F.block_Reader_end : Nat := 121
abbrev F.picks_Reader_Picks : Nat := 122
abbrev F.mtf_List_touch : Nat := 129
abbrev F.slices_Index_int_int : Nat := 130
abbrev F.canon_whole : Nat := 141
abbrev F.slices_Clone_int_int : Nat := 142
abbrev F.balerref10_next : Nat := 149
abbrev F.balerref13_ones : Nat := 150
abbrev F.balerref11_Read : Nat := 151
abbrev F.balerref10_Whole : Nat := 152
abbrev F.balerref10_Begins : Nat := 153
abbrev F.balerref07_Reader_Count : Nat := 154
abbrev F.balerref07_Value : Nat := 155
abbrev F.unbwt_Inverter_Done : Nat := 156
abbrev F.unbwt_Inverter_step : Nat := 157
abbrev F.crc_Table : Nat := 158
abbrev F.bits_Reader_Left : Nat := 160
abbrev F.bits_Reader_Get : Nat := 161
abbrev F.used_Read : Nat := 162
abbrev F.block_rowOf : Nat := 163
abbrev F.mtf_List_At : Nat := 164
abbrev F.code_Reader_Step : Nat := 165
abbrev F.block_row_told : Nat := 166
abbrev F.code_Reader_Done : Nat := 167
abbrev F.picks_tabled : Nat := 175
abbrev F.slices_ContainsFunc_int_int : Nat := 176
abbrev F.picks_fresh : Nat := 178
abbrev F.delta_sized : Nat := 180
abbrev F.delta_length : Nat := 182
abbrev F.lens_Share : Nat := 186
abbrev F.slices_Contains_int_int : Nat := 187
abbrev F.balerref09_May : Nat := 192
abbrev F.balerref09_Share : Nat := 194
abbrev F.unbwt_Inverter_begins : Nat := 195
abbrev F.bits_Reader_bit : Nat := 197
abbrev F.used_read : Nat := 198
abbrev F.code_NewReader : Nat := 199
abbrev F.zeros_NewReader : Nat := 200
abbrev F.code_Reader_symbol : Nat := 201
abbrev F.picks_Reader_Done : Nat := 202
abbrev F.code_Reader_pick : Nat := 203
abbrev F.picks_Reader_Tables : Nat := 204
abbrev F.code_Reader_table : Nat := 205
abbrev F.zeros_Reader_Put : Nat := 206
abbrev F.slices_IndexFunc_int_int : Nat := 216
abbrev F.picks_order_touch : Nat := 217
abbrev F.lens_between : Nat := 220
abbrev F.used_marks : Nat := 224
abbrev F.delta_NewReader : Nat := 225
abbrev F.picks_NewReader : Nat := 226
abbrev F.canon_Code_Get : Nat := 227
abbrev F.picks_Reader_Step : Nat := 228
abbrev F.delta_Reader_Step : Nat := 229
abbrev F.delta_Reader_Done : Nat := 230
abbrev F.delta_Reader_Lens : Nat := 231
abbrev F.zeros_Reader_more : Nat := 232
abbrev F.zeros_Reader_Count : Nat := 233
abbrev F.lens_between_1 : Nat := 239
abbrev F.canon_Code_get : Nat := 241
abbrev F.picks_Reader_pick : Nat := 242
abbrev F.picks_Reader_head : Nat := 243
abbrev F.delta_Reader_step : Nat := 244
abbrev F.picks_Reader_fail : Nat := 249
abbrev F.delta_Reader_turned : Nat := 250

def Vcf.balerlaw20_BlockReads (P : Program) (s_p0 at_p1 room_p2 : Value) (w : World) (R : Value → World → Prop) : Prop   :=
 VJoin 1 (fun _ x_1 w1 =>
 Vif x_1 (
 Cl P F.balerlaw20_letter #[] w1 fun x_2 w2 =>
 R x_2 w2) (
 Cl P F.bits_NewReader #[s_p0] w1 fun x_3 w3 =>
 Cl P F.bits_Reader_Seek #[x_3, at_p1] w3 fun x_4 w4 =>
 Cl P F.block_Read #[x_3, room_p2] w4 fun x_5 w5 =>
 Ex x_5 0 fun x_6 =>
 Ex x_5 1 fun x_7 =>
 New (zeroP P 34) 34 w5 fun g_8 w6 =>
 StA 3 g_8 x_6 w6 fun w7 =>
 Cl P F.balerref19_Room #[room_p2] w7 fun x_9 w8 =>
 Up .not x_9 fun x_10 =>
 Vif x_10 (
 Bp .eql x_4 (.int .i64 0) fun x_11 =>
 Vif x_11 (
 Bp .eql x_7 (.int .i64 1) fun x_12 =>
 Vif x_12 (
 LdA 3 g_8 w8 fun x_13 =>
 Bd P 34 #[] w8 fun x_14 =>
 Be P .eql 34 (.tmp 48) (.tmp 49) x_13 x_14 w8 fun x_15 =>
 Vif x_15 (
 Cl P F.bits_Reader_At #[x_3] w8 fun x_16 w9 =>
 Bp .eql x_16 at_p1 fun x_17 =>
 Vif x_17 (
 Cl P F.balerlaw20_letter #[] w9 fun x_18 w10 =>
 R x_18 w10) (
 R (.bool false) w9)) (
 R (.bool false) w8)) (
 R (.bool false) w8)) (
 R (.bool false) w8)) (
 Bp .gtr room_p2 (.int .i64 3000) fun x_19 =>
 Vif x_19 (
 Cl P F.balerlaw20_letter #[] w8 fun x_20 w11 =>
 R x_20 w11) (
 Cl P F.balerref01_Bits #[s_p0] w8 fun x_21 w12 =>
 Sst x_21 (some at_p1) none fun x_22 =>
 Cl P F.balerref20_Of #[x_22, room_p2] w12 fun x_23 w13 =>
 New (zeroP P 47) 47 w13 fun w_24 w14 =>
 StA 6 w_24 x_23 w14 fun w15 =>
 Dr w15 fun w16 =>
 Bp .eql x_4 (.int .i64 0) fun x_25 =>
 Vif x_25 (
 Fo 5 w_24 fun x_26 =>
 Ld x_26 w16 fun x_27 =>
 Bp .eql x_7 x_27 fun x_29 =>
 Vif x_29 (
 LdA 3 g_8 w16 fun x_30 =>
 Cl P F.balerlaw20_ref #[x_30] w16 fun x_32 w17 =>
 Fo 0 w_24 fun x_33 =>
 LdA 3 x_33 w17 fun x_34 =>
 Rk (fun w K => LdA 3 x_33 w fun x_35 => K x_35) x_34 w16 <|
 Be P .eql 37 (.tmp 80) (.tmp 82) x_32 x_34 w17 fun x_37 =>
 Vif x_37 (
 Cl P F.bits_Reader_At #[x_3] w17 fun x_39 w18 =>
 Fo 3 w_24 fun x_40 =>
 Ld x_40 w18 fun x_41 =>
 Rk (fun w K => Ld x_40 w fun x_42 => K x_42) x_41 w17 <|
 Bp .add at_p1 x_41 fun x_44 =>
 Bp .eql x_39 x_44 fun x_45 =>
 Vif x_45 (
 Cl P F.balerlaw20_letter #[] w18 fun x_46 w19 =>
 R x_46 w19) (
 R (.bool false) w18)) (
 R (.bool false) w17)) (
 R (.bool false) w16)) (
 R (.bool false) w16)))))
 (fun J47 =>
 Lns s_p0 fun x_48 =>
 Bp .gtr x_48 (.int .i64 200) fun x_49 =>
 Vif x_49 (
 KE [s_p0, at_p1, room_p2] [s_p0, at_p1, room_p2] <| J47 (.bool true) w) (
 Bp .lss at_p1 (.int .i64 0) fun x_50 =>
 Vif x_50 (
 KE [s_p0, at_p1, room_p2] [s_p0, at_p1, room_p2] <| J47 (.bool true) w) (
 Lns s_p0 fun x_51 =>
 Bp .mul (.int .i64 8) x_51 fun x_52 =>
 Bp .gtr at_p1 x_52 fun x_53 =>
 KE [s_p0, at_p1, room_p2] [s_p0, at_p1, room_p2] <| J47 x_53 w)))
theorem Tie.balerlaw20_BlockReads {s_p0 at_p1 room_p2 : Value} {w : World} {R : Value → World → Prop} (h : Vcf.balerlaw20_BlockReads Tryz.prog s_p0 at_p1 room_p2 w R) : Cl Tryz.prog F.balerlaw20_BlockReads #[s_p0, at_p1, room_p2] w R :=
  cl_of_vc (n := 97) (rs := [(.tmp 6)]) (h := (.s .z (.s (.j [25] [0, 1, 2] .z (.i (.s .z .z) .z)) (.s .z (.s .z (.s .z (.s (.s .z (.i (.s .z .z) .z)) (.s (.s .z (.i (.s .z .z) .z)) (.s .z (.s (.r (.staged [0, 1, 3, 7, 7, 23, 63, 127, 255, 511, 1023, 511, 2559, 8191, 16383, 32767, 65535, 131071, 65535, 65535, 589823, 1900543, 4194303, 8388607, 16777215, 33554431, 67108863, 134217727])) .z)))))))))) (args := [s_p0, at_p1, room_p2]) (by kernel_rfl) Tryz.func5 rfl (by kernel_rfl) rfl rfl rfl (Eq.mp (by kernel_rfl) h)

def Vcf.balerlaw20_BlockSteps (P : Program) (s_p0 cut_p1 room_p2 : Value) (w : World) (R : Value → World → Prop) : Prop   :=
 VJoin 1 (fun _ x_1 w1 =>
 Vif x_1 (
 Cl P F.balerlaw20_letter #[] w1 fun x_2 w2 =>
 R x_2 w2) (
 Cl P F.block_NewReader #[room_p2] w1 fun x_3 w3 =>
 Ex x_3 0 fun x_4 =>
 Ex x_3 1 fun x_5 =>
 Sst s_p0 none (some cut_p1) fun x_6 =>
 Cl P F.bits_NewReader #[x_6] w3 fun x_7 w4 =>
 Cl P F.balerref01_Bits #[s_p0] w4 fun x_8 w5 =>
 Cl P F.balerref20_Of #[x_8, room_p2] w5 fun x_9 w6 =>
 New (zeroP P 47) 47 w6 fun w_10 w7 =>
 StA 6 w_10 x_9 w7 fun w8 =>
 Bp .neq x_5 (.int .i64 0) fun x_11 =>
 Vif x_11 (
 R (.bool false) w8) (
 Lns s_p0 fun x_12 =>
 Bp .mul (.int .i64 8) x_12 fun x_13 =>
 Bp .add x_13 room_p2 fun x_14 =>
 Bp .add x_14 (.int .i64 60) fun x_15 =>
 VLoop 2 [(.bool false), (.int .i64 0)] w8 fun _ next18 come_16 x_17 w9 =>
 Bp .lss x_17 x_15 fun x_19 =>
 Vif x_19 (
 Cl P F.block_Reader_Done #[x_4] w9 fun x_20 w10 =>
 Vif x_20 (
 Dr w10 fun w11 =>
 Fo 5 w_10 fun x_21 =>
 Ld x_21 w11 fun x_22 =>
 Bp .eql x_22 (.int .i64 0) fun x_24 =>
 Vif x_24 (
 Cl P F.block_Reader_Step #[x_4, x_7] w11 fun x_25 w12 =>
 Bp .eql x_25 (.int .i64 7) fun x_26 =>
 Vif x_26 (
 Cl P F.bits_Reader_At #[x_7] w12 fun x_27 w13 =>
 Fo 3 w_10 fun x_28 =>
 Ld x_28 w13 fun x_29 =>
 Rk (fun w K => Ld x_28 w fun x_30 => K x_30) x_29 w12 <|
 Bp .eql x_27 x_29 fun x_32 =>
 Vif x_32 (
 Cl P F.block_Reader_Got #[x_4] w13 fun x_33 w14 =>
 Cl P F.balerlaw20_ref #[x_33] w14 fun x_34 w15 =>
 Fo 0 w_10 fun x_35 =>
 LdA 3 x_35 w15 fun x_36 =>
 Rk (fun w K => LdA 3 x_35 w fun x_37 => K x_37) x_36 w14 <|
 Rk (fun w K => LdA 3 x_35 w fun x_38 => K x_38) x_36 w13 <|
 Be P .eql 37 (.tmp 81) (.tmp 83) x_34 x_36 w15 fun x_40 =>
 Vif x_40 (
 Cl P F.block_Reader_Held #[x_4] w15 fun x_42 w16 =>
 Fo 4 w_10 fun x_43 =>
 Ld x_43 w16 fun x_44 =>
 Rk (fun w K => Ld x_43 w fun x_45 => K x_45) x_44 w15 <|
 Bp .eql x_42 x_44 fun x_47 =>
 Vif x_47 (
 Cl P F.balerlaw20_letter #[] w16 fun x_48 w17 =>
 R x_48 w17) (
 R (.bool false) w16)) (
 R (.bool false) w15)) (
 R (.bool false) w13)) (
 R (.bool false) w12)) (
 R (.bool false) w11)) (
 Cl P F.block_Reader_Got #[x_4] w10 fun x_49 w18 =>
 Bd P 34 #[] w18 fun x_50 =>
 Be P .neq 34 (.tmp 97) (.tmp 98) x_49 x_50 w18 fun x_51 =>
 Vif x_51 (
 R (.bool false) w18) (
 Cl P F.bits_Reader_At #[x_7] w18 fun x_52 w19 =>
 Cl P F.block_Reader_Step #[x_4, x_7] w19 fun x_53 w20 =>
 Bp .eql x_53 (.int .i64 0) fun x_54 =>
 Vif x_54 (
 Bp .add x_17 (.int .i64 1) fun x_55 =>
 KE [s_p0, cut_p1, x_4, x_7, w_10, x_15] [s_p0, cut_p1, x_4, x_7, w_10, x_15] <| next18 come_16 x_55 w20) (
 Bp .eql x_53 (.int .i64 3) fun x_56 =>
 Vif x_56 (
 Cl P F.bits_Reader_At #[x_7] w20 fun x_57 w21 =>
 Bp .neq x_57 x_52 fun x_58 =>
 Vif x_58 (
 R (.bool false) w21) (
 Vif come_16 (
 Fo 5 w_10 fun x_59 =>
 Ld x_59 w21 fun x_60 =>
 Bp .eql x_60 (.int .i64 3) fun x_61 =>
 Vif x_61 (
 Cl P F.balerlaw20_letter #[] w21 fun x_62 w22 =>
 R x_62 w22) (
 R (.bool false) w21)) (
 Sst s_p0 (some cut_p1) none fun x_63 =>
 Cl P F.bits_Reader_More #[x_7, x_63] w21 fun x_64 w23 =>
 Bp .add x_17 (.int .i64 1) fun x_65 =>
 KE [s_p0, cut_p1, x_4, x_7, w_10, x_15] [s_p0, cut_p1, x_4, x_7, w_10, x_15] <| next18 (.bool true) x_65 w23))) (
 Cl P F.bits_Reader_At #[x_7] w20 fun x_66 w24 =>
 Fo 5 w_10 fun x_67 =>
 Ld x_67 w24 fun x_68 =>
 Bp .eql x_53 x_68 fun x_69 =>
 Vif x_69 (
 Cl P F.block_Reader_Step #[x_4, x_7] w24 fun x_70 w25 =>
 Bp .eql x_70 x_53 fun x_71 =>
 Vif x_71 (
 Cl P F.bits_Reader_At #[x_7] w25 fun x_72 w26 =>
 Bp .eql x_72 x_66 fun x_73 =>
 Vif x_73 (
 Cl P F.block_Reader_Done #[x_4] w26 fun x_74 w27 =>
 Up .not x_74 fun x_75 =>
 Vif x_75 (
 Cl P F.balerlaw20_letter #[] w27 fun x_76 w28 =>
 R x_76 w28) (
 R (.bool false) w27)) (
 R (.bool false) w26)) (
 R (.bool false) w25)) (
 R (.bool false) w24)))))) (
 R (.bool false) w9))))
 (fun J77 =>
 Lns s_p0 fun x_78 =>
 Bp .gtr x_78 (.int .i64 120) fun x_79 =>
 Vif x_79 (
 KE [s_p0, cut_p1, room_p2] [s_p0, cut_p1, room_p2] <| J77 (.bool true) w) (
 Bp .lss cut_p1 (.int .i64 0) fun x_80 =>
 Vif x_80 (
 KE [s_p0, cut_p1, room_p2] [s_p0, cut_p1, room_p2] <| J77 (.bool true) w) (
 Lns s_p0 fun x_81 =>
 Bp .gtr cut_p1 x_81 fun x_82 =>
 Vif x_82 (
 KE [s_p0, cut_p1, room_p2] [s_p0, cut_p1, room_p2] <| J77 (.bool true) w) (
 Cl P F.balerref19_Room #[room_p2] w fun x_83 w29 =>
 Up .not x_83 fun x_84 =>
 Vif x_84 (
 KE [s_p0, cut_p1, room_p2] [s_p0, cut_p1, room_p2] <| J77 (.bool true) w29) (
 Bp .gtr room_p2 (.int .i64 300) fun x_85 =>
 KE [s_p0, cut_p1, room_p2] [s_p0, cut_p1, room_p2] <| J77 x_85 w29)))))
theorem Tie.balerlaw20_BlockSteps {s_p0 cut_p1 room_p2 : Value} {w : World} {R : Value → World → Prop} (h : Vcf.balerlaw20_BlockSteps Tryz.prog s_p0 cut_p1 room_p2 w R) : Cl Tryz.prog F.balerlaw20_BlockSteps #[s_p0, cut_p1, room_p2] w R :=
  cl_of_vc (n := 154) (rs := [(.tmp 6)]) (h := (.s .z (.s (.j [35] [0, 1, 2] .z (.i (.s .z .z) .z)) (.s .z (.s .z (.s .z (.s .z (.s (.s .z (.i (.s .z .z) .z)) (.s (.s .z (.b (.l [11, 58] [0, 1, 7, 9, 10, 57] (.s .z (.s (.i .z .z) (.s (.b (.s (.s .z (.i (.s (.r (.staged [0, 1, 3, 7, 15, 15, 63, 127, 255, 511, 1023, 2047, 1023, 5119, 16383, 32767, 65535, 131071, 262143, 524287, 131071, 1179647, 4194303, 8388607, 16777215, 33554431, 67108863, 33554431, 167772159, 536870911, 1073741823, 2147483647, 4294967295, 8589934591, 17179869183])) .z) .z)) (.s (.s .z (.i (.s .z .z) .z)) (.s .z (.s .z (.s .z (.b (.s .z (.i .z (.s .z (.i (.s (.s .z (.i (.s .z .z) .z)) (.s (.s .z (.i (.s .z .z) .z)) (.s .z .z))) (.s .z (.s .z .z))))))))))))) .z)))))) (.s .z .z)))))))))) (args := [s_p0, cut_p1, room_p2]) (by kernel_rfl) Tryz.func7 rfl (by kernel_rfl) rfl rfl rfl (Eq.mp (by kernel_rfl) h)

def Vcf.balerlaw20_ref (P : Program) (g_p0 : Value) (w : World) (R : Value → World → Prop) : Prop   :=
 New g_p0 34 w fun g_1 w1 =>
 New (zeroP P 37) 37 w1 fun x_2 w2 =>
 Fo 0 g_1 fun x_3 =>
 Ld x_3 w2 fun x_4 =>
 Fo 1 g_1 fun x_5 =>
 Ld x_5 w2 fun x_6 =>
 Fo 2 g_1 fun x_7 =>
 Ld x_7 w2 fun x_8 =>
 Bd P 37 #[(0, x_4), (1, x_6), (2, x_8)] w2 fun x_9 =>
 StA 3 x_2 x_9 w2 fun w3 =>
 LdA 3 x_2 w3 fun x_10 =>
 R x_10 w3
theorem Tie.balerlaw20_ref {g_p0 : Value} {w : World} {R : Value → World → Prop} (h : Vcf.balerlaw20_ref Tryz.prog g_p0 w R) : Cl Tryz.prog F.balerlaw20_ref #[g_p0] w R :=
  cl_of_vc (n := 10) (rs := [(.cell 2 37)]) (h := (.s .z (.s .z .z))) (args := [g_p0]) (by kernel_rfl) Tryz.func18 rfl (by kernel_rfl) rfl rfl rfl (Eq.mp (by kernel_rfl) h)

def Vcf.bits_NewReader (P : Program) (s_p0 : Value) (w : World) (R : Value → World → Prop) : Prop   :=
 Bd P 84 #[(0, s_p0)] w fun x_1 =>
 New x_1 84 w fun x_2 w1 =>
 R x_2 w1
theorem Tie.bits_NewReader {s_p0 : Value} {w : World} {R : Value → World → Prop} (h : Vcf.bits_NewReader Tryz.prog s_p0 w R) : Cl Tryz.prog F.bits_NewReader #[s_p0] w R :=
  cl_of_vc (n := 6) (rs := [(.tmp 2)]) (h := (.s .z (.s .z .z))) (args := [s_p0]) (by kernel_rfl) Tryz.func19 rfl (by kernel_rfl) rfl rfl rfl (Eq.mp (by kernel_rfl) h)

def Vcf.bits_Reader_Seek (P : Program) (r_p0 at_p1 : Value) (w : World) (R : Value → World → Prop) : Prop   :=
 Bn P 84 false r_p0 (.pointer none) fun x_1 =>
 Vif x_1 (
 R (.int .i64 7) w) (
 VJoin 1 (fun _ x_2 w1 =>
 Vif x_2 (
 R (.int .i64 1) w1) (
 Nc r_p0 <|
 Fo 2 r_p0 fun x_3 =>
 St x_3 at_p1 w1 fun w2 =>
 R (.int .i64 0) w2))
 (fun J4 =>
 Nc r_p0 <|
 Fo 1 r_p0 fun x_5 =>
 Ld x_5 w fun x_6 =>
 Bp .mul (.int .i64 8) x_6 fun x_7 =>
 Bp .lss at_p1 x_7 fun x_8 =>
 Vif x_8 (
 KE [r_p0, at_p1] [r_p0, at_p1] <| J4 (.bool true) w) (
 Cl P F.bits_Reader_end #[r_p0] w fun x_9 w3 =>
 Bp .gtr at_p1 x_9 fun x_10 =>
 KE [r_p0, at_p1] [r_p0, at_p1] <| J4 x_10 w3)))
theorem Tie.bits_Reader_Seek {r_p0 at_p1 : Value} {w : World} {R : Value → World → Prop} (h : Vcf.bits_Reader_Seek Tryz.prog r_p0 at_p1 w R) : Cl Tryz.prog F.bits_Reader_Seek #[r_p0, at_p1] w R :=
  cl_of_vc (n := 26) (rs := [(.tmp 4)]) (h := (.s .z (.s (.b (.s .z (.i (.s .z .z) (.j [8] [0, 1] .z (.i (.s .z .z) .z))))) (.s .z (.s .z .z))))) (args := [r_p0, at_p1]) (by kernel_rfl) Tryz.func20 rfl (by kernel_rfl) rfl rfl rfl (Eq.mp (by kernel_rfl) h)

def Vcf.block_Read (P : Program) (r_p0 room_p1 : Value) (w : World) (R : Value → World → Prop) : Prop   :=
 New (zeroP P 34) 34 w fun x_1 w1 =>
 Bn P 84 false r_p0 (.pointer none) fun x_2 =>
 Vif x_2 (
 Bd P 34 #[] w1 fun x_3 =>
 StA 3 x_1 x_3 w1 fun w2 =>
 LdA 3 x_1 w2 fun x_4 =>
 R (.tuple #[x_4, (.int .i64 7)]) w2) (
 Cl P F.block_NewReader #[room_p1] w1 fun x_5 w3 =>
 Ex x_5 0 fun x_6 =>
 Ex x_5 1 fun x_7 =>
 Bp .neq x_7 (.int .i64 0) fun x_8 =>
 Vif x_8 (
 Bd P 34 #[] w3 fun x_9 =>
 StA 3 x_1 x_9 w3 fun w4 =>
 LdA 3 x_1 w4 fun x_10 =>
 R (.tuple #[x_10, x_7]) w4) (
 Cl P F.bits_Reader_At #[r_p0] w3 fun x_11 w5 =>
 VLoop 0 [] w5 fun _ next12 w6 =>
 Cl P F.block_Reader_Done #[x_6] w6 fun x_13 w7 =>
 Up .not x_13 fun x_14 =>
 Vif x_14 (
 Cl P F.block_Reader_Step #[x_6, r_p0] w7 fun x_15 w8 =>
 Bp .neq x_15 (.int .i64 0) fun x_16 =>
 Vif x_16 (
 Cl P F.bits_Reader_Seek #[r_p0, x_11] w8 fun x_17 w9 =>
 Bd P 34 #[] w9 fun x_18 =>
 StA 3 x_1 x_18 w9 fun w10 =>
 LdA 3 x_1 w10 fun x_19 =>
 R (.tuple #[x_19, x_15]) w10) (
 KE [r_p0, x_1, x_6, x_11] [r_p0, x_1, x_6, x_11] <| next12 w8)) (
 Cl P F.block_Reader_Got #[x_6] w7 fun x_20 w11 =>
 StA 3 x_1 x_20 w11 fun w12 =>
 LdA 3 x_1 w12 fun x_21 =>
 R (.tuple #[x_21, (.int .i64 0)]) w12)))
theorem Tie.block_Read {r_p0 room_p1 : Value} {w : World} {R : Value → World → Prop} (h : Vcf.block_Read Tryz.prog r_p0 room_p1 w R) : Cl Tryz.prog F.block_Read #[r_p0, room_p1] w R :=
  cl_of_vc (n := 39) (rs := [(.cell 4 34), (.tmp 5)]) (h := (.s .z (.s (.s .z (.i (.s .z .z) .z)) (.s .z (.s (.s .z (.i (.s .z .z) .z)) (.s .z (.s (.b (.l [] [0, 4, 6, 8] (.s (.s .z (.i .z .z)) (.b (.s .z (.s .z (.i (.s .z (.s .z .z)) .z))))))) (.s .z .z)))))))) (args := [r_p0, room_p1]) (by kernel_rfl) Tryz.func21 rfl (by kernel_rfl) rfl rfl rfl (Eq.mp (by kernel_rfl) h)

def Vcf.balerref19_Room (P : Program) (n_p0 : Value) (w : World) (R : Value → World → Prop) : Prop   :=
 Bp .geq n_p0 (.int .i64 5) fun x_1 =>
 Vif x_1 (
 Bp .leq n_p0 (.int .i64 900000) fun x_2 =>
 R x_2 w) (
 R (.bool false) w)
theorem Tie.balerref19_Room {n_p0 : Value} {w : World} {R : Value → World → Prop} (h : Vcf.balerref19_Room Tryz.prog n_p0 w R) : Cl Tryz.prog F.balerref19_Room #[n_p0] w R :=
  cl_of_vc (n := 9) (rs := [(.tmp 2)]) (h := (.s .z (.s .z .z))) (args := [n_p0]) (by kernel_rfl) Tryz.func22 rfl (by kernel_rfl) rfl rfl rfl (Eq.mp (by kernel_rfl) h)

def Vcf.bits_Reader_At (P : Program) (r_p0 : Value) (w : World) (R : Value → World → Prop) : Prop   :=
 Bn P 84 false r_p0 (.pointer none) fun x_1 =>
 Vif x_1 (
 R (.int .i64 0) w) (
 Nc r_p0 <|
 Fo 2 r_p0 fun x_2 =>
 Ld x_2 w fun x_3 =>
 R x_3 w)
theorem Tie.bits_Reader_At {r_p0 : Value} {w : World} {R : Value → World → Prop} (h : Vcf.bits_Reader_At Tryz.prog r_p0 w R) : Cl Tryz.prog F.bits_Reader_At #[r_p0] w R :=
  cl_of_vc (n := 9) (rs := [(.tmp 2)]) (h := (.s .z (.s (.s .z (.i (.s .z .z) .z)) (.s .z .z)))) (args := [r_p0]) (by kernel_rfl) Tryz.func23 rfl (by kernel_rfl) rfl rfl rfl (Eq.mp (by kernel_rfl) h)

def Vcf.balerref20_Of (P : Program) (all_p0 room_p1 : Value) (w : World) (R : Value → World → Prop) : Prop   :=
 New (zeroP P 47) 47 w fun x_1 w1 =>
 Lns all_p0 fun x_2 =>
 Bp .lss x_2 (.int .i64 57) fun x_3 =>
 Vif x_3 (
 Bd P 47 #[(3, (.int .i64 3))] w1 fun x_4 =>
 StA 6 x_1 x_4 w1 fun w2 =>
 LdA 6 x_1 w2 fun x_5 =>
 R x_5 w2) (
 Ixs all_p0 (.int .i64 32) fun x_6 =>
 Bp .eql x_6 (.int .u8 49) fun x_7 =>
 Vif x_7 (
 Bd P 47 #[(3, (.int .i64 25))] w1 fun x_8 =>
 StA 6 x_1 x_8 w1 fun w3 =>
 LdA 6 x_1 w3 fun x_9 =>
 R x_9 w3) (
 Sst all_p0 (some (.int .i64 57)) none fun x_10 =>
 Cl P F.balerref05_Read #[x_10] w1 fun x_11 w4 =>
 New (zeroP P 86) 86 w4 fun u_12 w5 =>
 StA 3 u_12 x_11 w5 fun w6 =>
 Fo 2 u_12 fun x_13 =>
 Ld x_13 w6 fun x_14 =>
 Bp .neq x_14 (.int .i64 0) fun x_15 =>
 Vif x_15 (
 Fo 2 u_12 fun x_16 =>
 Ld x_16 w6 fun x_17 =>
 Bd P 47 #[(3, x_17)] w6 fun x_18 =>
 StA 6 x_1 x_18 w6 fun w7 =>
 LdA 6 x_1 w7 fun x_19 =>
 R x_19 w7) (
 Fo 0 u_12 fun x_20 =>
 Ld x_20 w6 fun x_21 =>
 Lns x_21 fun x_22 =>
 Fo 1 u_12 fun x_23 =>
 Ld x_23 w6 fun x_24 =>
 Bp .add (.int .i64 57) x_24 fun x_25 =>
 Sst all_p0 (some x_25) none fun x_26 =>
 Bp .add x_22 (.int .i64 2) fun x_27 =>
 Cl P F.balerref14_Read #[x_26, x_27, (.int .i64 8000)] w6 fun x_28 w8 =>
 New (zeroP P 89) 89 w8 fun row_29 w9 =>
 StA 4 row_29 x_28 w9 fun w10 =>
 Sst all_p0 (some x_25) none fun x_30 =>
 Bp .add x_22 (.int .i64 2) fun x_31 =>
 Cl P F.balerref14_Some #[x_30, x_31] w10 fun x_32 w11 =>
 Cl P F.balerref20_codes #[x_32, x_22, room_p1] w11 fun x_33 w12 =>
 Bp .neq x_33 (.int .i64 0) fun x_34 =>
 Vif x_34 (
 Bd P 47 #[(3, (.int .i64 25))] w12 fun x_35 =>
 StA 6 x_1 x_35 w12 fun w13 =>
 LdA 6 x_1 w13 fun x_36 =>
 R x_36 w13) (
 Fo 3 row_29 fun x_37 =>
 Ld x_37 w12 fun x_38 =>
 Bp .neq x_38 (.int .i64 0) fun x_39 =>
 Vif x_39 (
 Fo 3 row_29 fun x_40 =>
 Ld x_40 w12 fun x_41 =>
 Bd P 47 #[(3, x_41)] w12 fun x_42 =>
 StA 6 x_1 x_42 w12 fun w14 =>
 LdA 6 x_1 w14 fun x_43 =>
 R x_43 w14) (
 Fo 0 row_29 fun x_44 =>
 Ld x_44 w12 fun x_45 =>
 Cl P F.balerref07_Decode #[x_45, x_22, room_p1] w12 fun x_46 w15 =>
 Ex x_46 0 fun x_47 =>
 Ex x_46 1 fun x_48 =>
 Fo 0 u_12 fun x_49 =>
 Ld x_49 w15 fun x_50 =>
 Cl P F.balerref06_Decode #[x_47, x_50] w15 fun x_51 w16 =>
 Ex x_51 0 fun x_52 =>
 Ex x_51 1 fun x_53 =>
 Sst all_p0 (some (.int .i64 33)) (some (.int .i64 57)) fun x_54 =>
 Cl P F.balerref01_Number #[x_54] w16 fun x_55 w17 =>
 Ci .i64 x_55 fun x_56 =>
 Lns x_52 fun x_57 =>
 Bp .geq x_56 x_57 fun x_58 =>
 Vif x_58 (
 Bd P 47 #[(3, (.int .i64 23))] w17 fun x_59 =>
 StA 6 x_1 x_59 w17 fun w18 =>
 LdA 6 x_1 w18 fun x_60 =>
 R x_60 w18) (
 Dr w17 fun w19 =>
 Sst all_p0 none (some (.int .i64 32)) fun x_61 =>
 Cl P F.balerref01_Number #[x_61] w19 fun x_63 w20 =>
 Bd P 37 #[(0, x_52), (1, x_56), (2, x_63)] w20 fun x_64 =>
 Fo 1 row_29 fun x_66 =>
 Ld x_66 w20 fun x_67 =>
 Rk (fun w K => Ld x_66 w fun x_68 => K x_68) x_67 w19 <|
 Bp .add x_25 x_67 fun x_70 =>
 Fo 2 row_29 fun x_71 =>
 Ld x_71 w20 fun x_72 =>
 Rk (fun w K => Ld x_71 w fun x_73 => K x_73) x_72 w19 <|
 Lns x_52 fun x_75 =>
 Rk (fun w K => Lns x_52 fun x_76 => K x_76) x_75 w19 <|
 Bp .add x_72 x_75 fun x_78 =>
 Bd P 47 #[(0, x_64), (1, x_70), (2, x_78)] w20 fun x_79 =>
 StA 6 x_1 x_79 w20 fun w21 =>
 LdA 6 x_1 w21 fun x_81 =>
 R x_81 w21))))))
theorem Tie.balerref20_Of {all_p0 room_p1 : Value} {w : World} {R : Value → World → Prop} (h : Vcf.balerref20_Of Tryz.prog all_p0 room_p1 w R) : Cl Tryz.prog F.balerref20_Of #[all_p0, room_p1] w R :=
  cl_of_vc (n := 100) (rs := [(.cell 4 47)]) (h := (.s .z (.s (.s .z (.i (.s .z .z) .z)) (.s (.s .z (.i (.s .z .z) .z)) (.s .z (.s (.s .z (.i (.s .z .z) .z)) (.s .z (.s .z (.s .z (.s (.s .z (.i (.s .z .z) .z)) (.s (.s .z (.i (.s .z .z) .z)) (.s .z (.s .z (.s .z (.s (.s .z (.i (.s .z .z) .z)) (.s (.r (.staged [0, 0, 0, 4, 12, 31, 0, 0, 128, 448, 0, 1024, 0, 4096, 15360, 32767, 65535])) .z)))))))))))))))) (args := [all_p0, room_p1]) (by kernel_rfl) Tryz.func24 rfl (by kernel_rfl) rfl rfl rfl (Eq.mp (by kernel_rfl) h)

def Vcf.balerref01_Bits (P : Program) (s_p0 : Value) (w : World) (R : Value → World → Prop) : Prop   :=
 VLoop 2 [(.string ⟨#[]⟩), (.int .i64 0)] w fun _ next3 out_1 i_2 w1 =>
 Lns s_p0 fun x_4 =>
 Bp .lss i_2 x_4 fun x_5 =>
 Vif x_5 (
 Ixs s_p0 i_2 fun x_6 =>
 Ci .u32 x_6 fun x_7 =>
 Cl P F.balerref01_Field #[x_7, (.int .i64 8)] w1 fun x_8 w2 =>
 Bp .add out_1 x_8 fun x_9 =>
 Bp .add i_2 (.int .i64 1) fun x_10 =>
 KE [s_p0] [s_p0] <| next3 x_9 x_10 w2) (
 R out_1 w1)
theorem Tie.balerref01_Bits {s_p0 : Value} {w : World} {R : Value → World → Prop} (h : Vcf.balerref01_Bits Tryz.prog s_p0 w R) : Cl Tryz.prog F.balerref01_Bits #[s_p0] w R :=
  cl_of_vc (n := 19) (rs := [(.tmp 2)]) (h := (.s .z (.s .z (.s (.s .z (.b (.l [3, 4] [0] (.s (.s .z (.i .z .z)) (.s (.b .z) .z))))) (.s .z .z))))) (args := [s_p0]) (by kernel_rfl) Tryz.func25 rfl (by kernel_rfl) rfl rfl rfl (Eq.mp (by kernel_rfl) h)

def Vcf.block_NewReader (P : Program) (room_p0 : Value) (w : World) (R : Value → World → Prop) : Prop   :=
 VJoin 1 (fun _ x_1 w1 =>
 Vif x_1 (
 R (.tuple #[(.pointer none), (.int .i64 1)]) w1) (
 Bd P 108 #[(1, room_p0)] w1 fun x_2 =>
 New x_2 108 w1 fun x_3 w2 =>
 R (.tuple #[x_3, (.int .i64 0)]) w2))
 (fun J4 =>
 Bp .lss room_p0 (.int .i64 5) fun x_5 =>
 Vif x_5 (
 KE [room_p0] [room_p0] <| J4 (.bool true) w) (
 Bp .gtr room_p0 (.int .i64 900000) fun x_6 =>
 KE [room_p0] [room_p0] <| J4 x_6 w))
theorem Tie.block_NewReader {room_p0 : Value} {w : World} {R : Value → World → Prop} (h : Vcf.block_NewReader Tryz.prog room_p0 w R) : Cl Tryz.prog F.block_NewReader #[room_p0] w R :=
  cl_of_vc (n := 13) (rs := [(.tmp 2), (.tmp 3)]) (h := (.s .z (.s (.j [9] [0] .z (.i (.s .z .z) .z)) (.s .z .z)))) (args := [room_p0]) (by kernel_rfl) Tryz.func30 rfl (by kernel_rfl) rfl rfl rfl (Eq.mp (by kernel_rfl) h)

def Vcf.block_Reader_Done (P : Program) (b_p0 : Value) (w : World) (R : Value → World → Prop) : Prop   :=
 Bn P 108 true b_p0 (.pointer none) fun x_1 =>
 Vif x_1 (
 Nc b_p0 <|
 Fo 6 b_p0 fun x_2 =>
 Ld x_2 w fun x_3 =>
 R x_3 w) (
 R (.bool false) w)
theorem Tie.block_Reader_Done {b_p0 : Value} {w : World} {R : Value → World → Prop} (h : Vcf.block_Reader_Done Tryz.prog b_p0 w R) : Cl Tryz.prog F.block_Reader_Done #[b_p0] w R :=
  cl_of_vc (n := 11) (rs := [(.tmp 2)]) (h := (.s .z (.s .z .z))) (args := [b_p0]) (by kernel_rfl) Tryz.func31 rfl (by kernel_rfl) rfl rfl rfl (Eq.mp (by kernel_rfl) h)

def Vcf.block_Reader_Step (P : Program) (b_p0 r_p1 : Value) (w : World) (R : Value → World → Prop) : Prop   :=
 VJoin 1 (fun _ x_1 w1 =>
 Vif x_1 (
 R (.int .i64 7) w1) (
 Nc b_p0 <|
 Fo 7 b_p0 fun x_2 =>
 Ld x_2 w1 fun x_3 =>
 Bp .neq x_3 (.int .i64 0) fun x_4 =>
 Vif x_4 (
 Nc b_p0 <|
 Fo 7 b_p0 fun x_5 =>
 Ld x_5 w1 fun x_6 =>
 R x_6 w1) (
 Cl P F.block_Reader_step #[b_p0, r_p1] w1 fun x_7 w2 =>
 Bp .neq x_7 (.int .i64 3) fun x_8 =>
 Vif x_8 (
 Nc b_p0 <|
 Fo 7 b_p0 fun x_9 =>
 St x_9 x_7 w2 fun w3 =>
 R x_7 w3) (
 R x_7 w2))))
 (fun J10 =>
 Bn P 108 false b_p0 (.pointer none) fun x_11 =>
 Vif x_11 (
 KE [b_p0, r_p1] [b_p0, r_p1] <| J10 (.bool true) w) (
 Bn P 84 false r_p1 (.pointer none) fun x_12 =>
 Vif x_12 (
 KE [b_p0, r_p1] [b_p0, r_p1] <| J10 (.bool true) w) (
 Nc b_p0 <|
 Fo 6 b_p0 fun x_13 =>
 Ld x_13 w fun x_14 =>
 KE [b_p0, r_p1] [b_p0, r_p1] <| J10 x_14 w)))
theorem Tie.block_Reader_Step {b_p0 r_p1 : Value} {w : World} {R : Value → World → Prop} (h : Vcf.block_Reader_Step Tryz.prog b_p0 r_p1 w R) : Cl Tryz.prog F.block_Reader_Step #[b_p0, r_p1] w R :=
  cl_of_vc (n := 39) (rs := [(.tmp 4)]) (h := (.s .z (.s (.b (.j [6] [0, 1] .z (.i (.s .z .z) (.s .z (.i (.s .z .z) .z))))) (.s .z (.s (.s .z (.i .z .z)) (.s .z .z)))))) (args := [b_p0, r_p1]) (by kernel_rfl) Tryz.func32 rfl (by kernel_rfl) rfl rfl rfl (Eq.mp (by kernel_rfl) h)

def Vcf.block_Reader_Got (P : Program) (b_p0 : Value) (w : World) (R : Value → World → Prop) : Prop   :=
 New (zeroP P 34) 34 w fun x_1 w1 =>
 Cl P F.block_Reader_Done #[b_p0] w1 fun x_2 w2 =>
 Up .not x_2 fun x_3 =>
 Vif x_3 (
 Bd P 34 #[] w2 fun x_4 =>
 StA 3 x_1 x_4 w2 fun w3 =>
 LdA 3 x_1 w3 fun x_5 =>
 R x_5 w3) (
 Dr w2 fun w4 =>
 Nc b_p0 <|
 Fo 5 b_p0 fun x_6 =>
 Ld x_6 w4 fun x_7 =>
 Cv P 63 9 x_7 w4 fun x_9 =>
 Nc b_p0 <|
 Fo 4 b_p0 fun x_11 =>
 Ld x_11 w4 fun x_12 =>
 Nc b_p0 <|
 Fo 3 b_p0 fun x_14 =>
 Ld x_14 w4 fun x_15 =>
 Bd P 34 #[(0, x_9), (1, x_12), (2, x_15)] w4 fun x_17 =>
 StA 3 x_1 x_17 w4 fun w5 =>
 LdA 3 x_1 w5 fun x_19 =>
 R x_19 w5)
theorem Tie.block_Reader_Got {b_p0 : Value} {w : World} {R : Value → World → Prop} (h : Vcf.block_Reader_Got Tryz.prog b_p0 w R) : Cl Tryz.prog F.block_Reader_Got #[b_p0] w R :=
  cl_of_vc (n := 21) (rs := [(.cell 2 34)]) (h := (.s .z (.s (.s .z (.i (.s .z .z) .z)) (.s (.r (.staged [0, 1, 3, 7, 15, 0, 32, 96, 224, 0, 512, 1536, 3584, 8191, 16383])) .z)))) (args := [b_p0]) (by kernel_rfl) Tryz.func33 rfl (by kernel_rfl) rfl rfl rfl (Eq.mp (by kernel_rfl) h)

def Vcf.block_Reader_Held (P : Program) (b_p0 : Value) (w : World) (R : Value → World → Prop) : Prop   :=
 Bn P 108 false b_p0 (.pointer none) fun x_1 =>
 Vif x_1 (
 R (.int .i64 0) w) (
 Nc b_p0 <|
 Fo 0 b_p0 fun x_2 =>
 Ld x_2 w fun x_3 =>
 Bn P 113 false x_3 (.pointer none) fun x_4 =>
 Vif x_4 (
 Nc b_p0 <|
 Fo 5 b_p0 fun x_5 =>
 Ld x_5 w fun x_6 =>
 Lnl x_6 fun x_7 =>
 R x_7 w) (
 Dr w fun w1 =>
 Nc b_p0 <|
 Fo 0 b_p0 fun x_8 =>
 Ld x_8 w1 fun x_9 =>
 Nc x_9 <|
 Fo 0 x_9 fun x_11 =>
 Ld x_11 w1 fun x_12 =>
 Cl P F.code_Reader_Held #[x_12] w1 fun x_14 w2 =>
 Nc b_p0 <|
 Fo 5 b_p0 fun x_15 =>
 Ld x_15 w2 fun x_16 =>
 Rk (fun w K => Ld x_15 w fun x_17 => K x_17) x_16 w1 <|
 Lnl x_16 fun x_19 =>
 Rk (fun w K => Lnl x_16 fun x_20 => K x_20) x_19 w1 <|
 Bp .add x_14 x_19 fun x_22 =>
 R x_22 w2))
theorem Tie.block_Reader_Held {b_p0 : Value} {w : World} {R : Value → World → Prop} (h : Vcf.block_Reader_Held Tryz.prog b_p0 w R) : Cl Tryz.prog F.block_Reader_Held #[b_p0] w R :=
  cl_of_vc (n := 31) (rs := [(.tmp 2)]) (h := (.s .z (.s (.b (.s .z (.i (.s .z .z) (.s .z (.i (.s .z .z) .z))))) (.s (.r (.staged [0, 1, 3, 7, 15, 31, 63, 127, 0, 256, 768, 1792, 3840, 8191, 16383])) .z)))) (args := [b_p0]) (by kernel_rfl) Tryz.func34 rfl (by kernel_rfl) rfl rfl rfl (Eq.mp (by kernel_rfl) h)

def Vcf.bits_Reader_More (P : Program) (r_p0 s_p1 : Value) (w : World) (R : Value → World → Prop) : Prop   :=
 Bn P 84 false r_p0 (.pointer none) fun x_1 =>
 Vif x_1 (
 R (.int .i64 7) w) (
 Nc r_p0 <|
 Fo 0 r_p0 fun x_2 =>
 Ld x_2 w fun x_3 =>
 Bp .add x_3 s_p1 fun x_4 =>
 Nc r_p0 <|
 Fo 0 r_p0 fun x_5 =>
 St x_5 x_4 w fun w1 =>
 R (.int .i64 0) w1)
theorem Tie.bits_Reader_More {r_p0 s_p1 : Value} {w : World} {R : Value → World → Prop} (h : Vcf.bits_Reader_More Tryz.prog r_p0 s_p1 w R) : Cl Tryz.prog F.bits_Reader_More #[r_p0, s_p1] w R :=
  cl_of_vc (n := 15) (rs := [(.tmp 4)]) (h := (.s .z (.s (.s .z (.i (.s .z .z) .z)) (.s .z (.s .z .z))))) (args := [r_p0, s_p1]) (by kernel_rfl) Tryz.func35 rfl (by kernel_rfl) rfl rfl rfl (Eq.mp (by kernel_rfl) h)

def Vcf.balerref05_Symbols (P : Program) (s_p0 : Value) (w : World) (R : Value → World → Prop) : Prop   :=
 VLoop 2 [(.string ⟨#[]⟩), (.int .i64 0)] w fun _ next3 out_1 x_2 w1 =>
 Bp .lss x_2 (.int .i64 256) fun x_4 =>
 Vif x_4 (
 Cl P F.balerref05_There #[s_p0, x_2] w1 fun x_5 w2 =>
 Vif x_5 (
 Ci .u8 x_2 fun x_6 =>
 Bs P 63 1 #[(0, x_6)] w2 fun x_7 w3 =>
 Cw P 63 9 x_7 w3 fun x_8 w4 =>
 Bp .add out_1 x_8 fun x_9 =>
 Bp .add x_2 (.int .i64 1) fun x_10 =>
 KE [s_p0] [s_p0] <| next3 x_9 x_10 w4) (
 Bp .add x_2 (.int .i64 1) fun x_11 =>
 KE [s_p0] [s_p0] <| next3 out_1 x_11 w2)) (
 R out_1 w1)
theorem Tie.balerref05_Symbols {s_p0 : Value} {w : World} {R : Value → World → Prop} (h : Vcf.balerref05_Symbols Tryz.prog s_p0 w R) : Cl Tryz.prog F.balerref05_Symbols #[s_p0] w R :=
  cl_of_vc (n := 19) (rs := [(.tmp 2)]) (h := (.s .z (.s .z (.s (.s .z (.b (.l [3, 5] [0] (.s .z (.s (.i .z .z) (.s (.b (.s .z (.s .z (.i .z .z)))) .z)))))) (.s .z .z))))) (args := [s_p0]) (by kernel_rfl) Tryz.func47 rfl (by kernel_rfl) rfl rfl rfl (Eq.mp (by kernel_rfl) h)

def Vcf.balerref01_Field (P : Program) (v_p0 n_p1 : Value) (w : World) (R : Value → World → Prop) : Prop   :=
 VLoop 3 [v_p0, (.string ⟨#[]⟩), (.int .i64 0)] w fun _ next4 v_1 s_2 x_3 w1 =>
 Bp .lss x_3 n_p1 fun x_5 =>
 Vif x_5 (
 Bp .rem v_1 (.int .u32 2) fun x_6 =>
 Bp .rem v_1 (.int .u32 2) fun x_7 =>
 Bp .add x_7 (.int .u32 1) fun x_8 =>
 Sst (.string ⟨#[48, 49]⟩) (some x_6) (some x_8) fun x_9 =>
 Bp .add x_9 s_2 fun x_10 =>
 Bp .quo v_1 (.int .u32 2) fun x_11 =>
 Bp .add x_3 (.int .i64 1) fun x_12 =>
 KE [n_p1] [n_p1] <| next4 x_11 x_10 x_12 w1) (
 R s_2 w1)
theorem Tie.balerref01_Field {v_p0 n_p1 : Value} {w : World} {R : Value → World → Prop} (h : Vcf.balerref01_Field Tryz.prog v_p0 n_p1 w R) : Cl Tryz.prog F.balerref01_Field #[v_p0, n_p1] w R :=
  cl_of_vc (n := 21) (rs := [(.tmp 4)]) (h := (.s .z (.s .z (.s (.s .z (.b (.l [0, 5, 7] [6] (.s .z (.s (.i .z .z) (.s (.b (.s .z .z)) .z)))))) (.s .z .z))))) (args := [v_p0, n_p1]) (by kernel_rfl) Tryz.func50 rfl (by kernel_rfl) rfl rfl rfl (Eq.mp (by kernel_rfl) h)

def Vcf.bits_Reader_end (P : Program) (r_p0 : Value) (w : World) (R : Value → World → Prop) : Prop   :=
 Dr w fun w1 =>
 Nc r_p0 <|
 Fo 1 r_p0 fun x_1 =>
 Ld x_1 w1 fun x_2 =>
 Nc r_p0 <|
 Fo 0 r_p0 fun x_4 =>
 Ld x_4 w1 fun x_5 =>
 Lns x_5 fun x_7 =>
 Bp .add x_2 x_7 fun x_9 =>
 Bp .mul (.int .i64 8) x_9 fun x_10 =>
 R x_10 w1
theorem Tie.bits_Reader_end {r_p0 : Value} {w : World} {R : Value → World → Prop} (h : Vcf.bits_Reader_end Tryz.prog r_p0 w R) : Cl Tryz.prog F.bits_Reader_end #[r_p0] w R :=
  cl_of_vc (n := 14) (rs := [(.tmp 2)]) (h := (.s .z (.s (.r (.staged [0, 1, 3, 7, 0, 16, 48, 112, 240, 511, 1023, 2047])) .z))) (args := [r_p0]) (by kernel_rfl) Tryz.func53 rfl (by kernel_rfl) rfl rfl rfl (Eq.mp (by kernel_rfl) h)

def Vcf.balerref05_Read (P : Program) (all_p0 : Value) (w : World) (R : Value → World → Prop) : Prop   :=
 New (zeroP P 86) 86 w fun x_1 w1 =>
 Lns all_p0 fun x_2 =>
 Bp .lss x_2 (.int .i64 16) fun x_3 =>
 Vif x_3 (
 Bd P 86 #[(2, (.int .i64 3))] w1 fun x_4 =>
 StA 3 x_1 x_4 w1 fun w2 =>
 LdA 3 x_1 w2 fun x_5 =>
 R x_5 w2) (
 VLoop 3 [(.int .i64 16), (.string ⟨#[]⟩), (.int .i64 0)] w1 fun _ next9 n_6 out_7 x_8 w3 =>
 Bp .lss x_8 (.int .i64 16) fun x_10 =>
 Vif x_10 (
 Ixs all_p0 x_8 fun x_11 =>
 Bp .neq x_11 (.int .u8 49) fun x_12 =>
 Vif x_12 (
 Bp .add x_8 (.int .i64 1) fun x_13 =>
 KE [all_p0, x_1] [all_p0, x_1] <| next9 n_6 out_7 x_13 w3) (
 Lns all_p0 fun x_14 =>
 Bp .add n_6 (.int .i64 16) fun x_15 =>
 Bp .lss x_14 x_15 fun x_16 =>
 Vif x_16 (
 Bd P 86 #[(2, (.int .i64 3))] w3 fun x_17 =>
 StA 3 x_1 x_17 w3 fun w4 =>
 LdA 3 x_1 w4 fun x_18 =>
 R x_18 w4) (
 VLoop 2 [out_7, (.int .i64 0)] w3 fun _ next21 out_19 x_20 w5 =>
 Bp .lss x_20 (.int .i64 16) fun x_22 =>
 Vif x_22 (
 Bp .add n_6 x_20 fun x_23 =>
 Ixs all_p0 x_23 fun x_24 =>
 Bp .eql x_24 (.int .u8 49) fun x_25 =>
 Vif x_25 (
 Bp .mul (.int .i64 16) x_8 fun x_26 =>
 Bp .add x_26 x_20 fun x_27 =>
 Ci .u8 x_27 fun x_28 =>
 Bs P 63 1 #[(0, x_28)] w5 fun x_29 w6 =>
 Cw P 63 9 x_29 w6 fun x_30 w7 =>
 Bp .add out_19 x_30 fun x_31 =>
 Bp .add x_20 (.int .i64 1) fun x_32 =>
 KE [all_p0, x_1, n_6, x_8, x_8] [all_p0, x_1, n_6, x_8, x_8] <| next21 x_31 x_32 w7) (
 Bp .add x_20 (.int .i64 1) fun x_33 =>
 KE [all_p0, x_1, n_6, x_8, x_8] [all_p0, x_1, n_6, x_8, x_8] <| next21 out_19 x_33 w5)) (
 Bp .add n_6 (.int .i64 16) fun x_34 =>
 Bp .add x_8 (.int .i64 1) fun x_35 =>
 KE [all_p0, x_1] [all_p0, x_1] <| next9 x_34 out_19 x_35 w5)))) (
 Bp .eql out_7 (.string ⟨#[]⟩) fun x_36 =>
 Vif x_36 (
 Bd P 86 #[(2, (.int .i64 25))] w3 fun x_37 =>
 StA 3 x_1 x_37 w3 fun w8 =>
 LdA 3 x_1 w8 fun x_38 =>
 R x_38 w8) (
 Bd P 86 #[(0, out_7), (1, n_6)] w3 fun x_39 =>
 StA 3 x_1 x_39 w3 fun w9 =>
 LdA 3 x_1 w9 fun x_40 =>
 R x_40 w9)))
theorem Tie.balerref05_Read {all_p0 : Value} {w : World} {R : Value → World → Prop} (h : Vcf.balerref05_Read Tryz.prog all_p0 w R) : Cl Tryz.prog F.balerref05_Read #[all_p0] w R :=
  cl_of_vc (n := 52) (rs := [(.cell 2 86)]) (h := (.s .z (.s (.s .z (.i (.s .z .z) .z)) (.s .z (.s .z (.s (.s .z (.b (.l [3, 4, 11] [0, 2] (.s .z (.s (.i .z .z) (.s (.b (.s .z (.s (.s .z (.i .z .z)) (.s (.s .z (.i (.s .z .z) .z)) (.s (.s .z (.b (.l [4, 24] [0, 2, 3, 5, 11] (.s .z (.s (.i .z .z) (.s (.b (.s .z (.s .z (.i .z .z)))) .z)))))) .z))))) .z)))))) (.s (.s .z (.i (.s .z .z) .z)) (.s .z .z)))))))) (args := [all_p0]) (by kernel_rfl) Tryz.func54 rfl (by kernel_rfl) rfl rfl rfl (Eq.mp (by kernel_rfl) h)

def Vcf.balerref14_Read (P : Program) (all_p0 size_p1 most_p2 : Value) (w : World) (R : Value → World → Prop) : Prop   :=
 New (zeroP P 89) 89 w fun x_1 w1 =>
 Cl P F.balerref13_Read #[all_p0] w1 fun x_2 w2 =>
 New (zeroP P 152) 152 w2 fun p_3 w3 =>
 StA 5 p_3 x_2 w3 fun w4 =>
 Fo 4 p_3 fun x_4 =>
 Ld x_4 w4 fun x_5 =>
 Bp .neq x_5 (.int .i64 0) fun x_6 =>
 Vif x_6 (
 Fo 4 p_3 fun x_7 =>
 Ld x_7 w4 fun x_8 =>
 Bd P 89 #[(3, x_8)] w4 fun x_9 =>
 StA 4 x_1 x_9 w4 fun w5 =>
 LdA 4 x_1 w5 fun x_10 =>
 R x_10 w5) (
 VJoin 1 (fun _ t_11 w6 =>
 Fo 2 t_11 fun x_12 =>
 Ld x_12 w6 fun x_13 =>
 Bp .neq x_13 (.int .i64 0) fun x_14 =>
 Vif x_14 (
 Fo 2 t_11 fun x_15 =>
 Ld x_15 w6 fun x_16 =>
 Bd P 89 #[(3, x_16)] w6 fun x_17 =>
 StA 4 x_1 x_17 w6 fun w7 =>
 LdA 4 x_1 w7 fun x_18 =>
 R x_18 w7) (
 Fo 2 p_3 fun x_19 =>
 Ld x_19 w6 fun x_20 =>
 Fo 1 t_11 fun x_21 =>
 Ld x_21 w6 fun x_22 =>
 Bp .add x_20 x_22 fun x_23 =>
 VLoop 2 [x_23, (.slice none 0 0)] w6 fun _ next26 at_24 l_25 w8 =>
 Lnl l_25 fun x_27 =>
 Bp .quo x_27 (.int .i64 50) fun x_28 =>
 Fo 0 p_3 fun x_29 =>
 Ld x_29 w8 fun x_30 =>
 Lnl x_30 fun x_31 =>
 Bp .geq x_28 x_31 fun x_32 =>
 Vif x_32 (
 Bd P 89 #[(3, (.int .i64 25))] w8 fun x_33 =>
 StA 4 x_1 x_33 w8 fun w9 =>
 LdA 4 x_1 w9 fun x_34 =>
 R x_34 w9) (
 Dr w8 fun w10 =>
 Fo 0 t_11 fun x_35 =>
 Ld x_35 w10 fun x_36 =>
 Fo 0 p_3 fun x_38 =>
 Ld x_38 w10 fun x_39 =>
 Lnl l_25 fun x_41 =>
 Bp .quo x_41 (.int .i64 50) fun x_43 =>
 Ias 1 x_39 x_43 fun x_44 =>
 Ld x_44 w10 fun x_45 =>
 Ias 1 x_36 x_45 fun x_47 =>
 Ld x_47 w10 fun x_48 =>
 Sst all_p0 (some at_24) none fun x_50 =>
 Cl P F.balerref10_Get #[x_48, x_50] w10 fun x_51 w11 =>
 Bp .lss x_51 (.int .i64 0) fun x_52 =>
 Vif x_52 (
 Bd P 89 #[(3, (.int .i64 3))] w11 fun x_53 =>
 StA 4 x_1 x_53 w11 fun w12 =>
 LdA 4 x_1 w12 fun x_54 =>
 R x_54 w12) (
 Lnl l_25 fun x_55 =>
 Bp .eql x_55 most_p2 fun x_56 =>
 Vif x_56 (
 Bd P 89 #[(3, (.int .i64 2))] w11 fun x_57 =>
 StA 4 x_1 x_57 w11 fun w13 =>
 LdA 4 x_1 w13 fun x_58 =>
 R x_58 w13) (
 Ias 1 x_48 x_51 fun x_59 =>
 Ld x_59 w11 fun x_60 =>
 Lns x_60 fun x_61 =>
 Bp .add at_24 x_61 fun x_62 =>
 Bs P 69 1 #[(0, x_51)] w11 fun x_63 w14 =>
 Ap P #[69, 69] 69 #[l_25, x_63] w14 fun x_64 w15 =>
 Bp .sub size_p1 (.int .i64 1) fun x_65 =>
 Bp .eql x_51 x_65 fun x_66 =>
 Vif x_66 (
 Fo 0 p_3 fun x_67 =>
 Ld x_67 w15 fun x_68 =>
 Lnl x_68 fun x_69 =>
 Fo 1 p_3 fun x_70 =>
 Ld x_70 w15 fun x_71 =>
 Bp .mul x_71 size_p1 fun x_72 =>
 Bp .add x_69 x_72 fun x_73 =>
 Bd P 89 #[(0, x_64), (1, x_62), (2, x_73)] w15 fun x_74 =>
 StA 4 x_1 x_74 w15 fun w16 =>
 LdA 4 x_1 w16 fun x_75 =>
 R x_75 w16) (
 KE [all_p0, size_p1, most_p2, x_1, p_3, t_11] [all_p0, size_p1, most_p2, x_1, p_3, t_11] <| next26 x_62 x_64 w15))))))
 (fun J76 =>
 Dr w4 fun w17 =>
 (Fo 2 p_3 fun x_77 =>
 Ld x_77 w17 fun x_78 =>
 Sst all_p0 (some x_78) none fun x_80 =>
 Fo 1 p_3 fun x_82 =>
 Ld x_82 w17 fun x_83 =>
 Cl P F.balerref14_readTables #[x_80, x_83, size_p1] w17 fun x_85 w18 =>
 New (zeroP P 155) 155 w18 fun t_86 w19 =>
 Rk (fun w K => Ld x_82 w fun x_84 => K x_84) x_83 w19 <|
 Rk (fun w K => Sst all_p0 (some x_78) none fun x_81 => K x_81) x_80 w19 <|
 Rk (fun w K => Ld x_77 w fun x_79 => K x_79) x_78 w19 <|
 StA 3 t_86 x_85 w19 fun w20 =>
 KE [all_p0, size_p1, most_p2, x_1, p_3] [all_p0, size_p1, most_p2, x_1, p_3] <| J76 t_86 w20) ∧
 (Fo 2 p_3 fun x_87 =>
 Ld x_87 w17 fun x_88 =>
 Sst all_p0 (some x_88) none fun x_90 =>
 Fo 1 p_3 fun x_92 =>
 Ld x_92 w17 fun x_93 =>
 New (zeroP P 155) 155 w17 fun t_95 w21 =>
 Rk (fun w K => Ld x_92 w fun x_94 => K x_94) x_93 w21 <|
 Rk (fun w K => Sst all_p0 (some x_88) none fun x_91 => K x_91) x_90 w21 <|
 Rk (fun w K => Ld x_87 w fun x_89 => K x_89) x_88 w21 <|
 Cl P F.balerref14_readTables #[x_90, x_93, size_p1] w21 fun x_96 w22 =>
 StA 3 t_95 x_96 w22 fun w23 =>
 KE [all_p0, size_p1, most_p2, x_1, p_3] [all_p0, size_p1, most_p2, x_1, p_3] <| J76 t_95 w23)))
theorem Tie.balerref14_Read {all_p0 size_p1 most_p2 : Value} {w : World} {R : Value → World → Prop} (h : Vcf.balerref14_Read Tryz.prog all_p0 size_p1 most_p2 w R) : Cl Tryz.prog F.balerref14_Read #[all_p0, size_p1, most_p2] w R :=
  cl_of_vc (n := 98) (rs := [(.cell 6 89)]) (h := (.s .z (.s .z (.s (.s .z (.i (.s .z .z) .z)) (.j [8] [0, 1, 2, 6, 7] (.r (.two [0, 0, 2, 7, 0, 16, 0, 127, 0, 511] 7 8 [0, 1, 2, 3, 4, 5, 6, 7, 8, 9] [0, 1, 2, 3, 4, 5, 6, 8, 7, 9])) (.s (.s .z (.i (.s .z .z) .z)) (.s .z (.s .z (.b (.l [9, 10] [0, 1, 2, 6, 7, 8] (.b (.s (.s .z (.i (.s .z .z) .z)) (.s (.r (.staged [0, 1, 0, 4, 0, 16, 48, 124, 252, 511, 1023, 2047])) (.s .z (.s (.s .z (.i (.s .z .z) .z)) (.s (.s .z (.i (.s .z .z) .z)) (.s .z (.s .z (.s .z (.i (.s .z .z) .z)))))))))))))))))))) (args := [all_p0, size_p1, most_p2]) (by kernel_rfl) Tryz.func55 rfl (by kernel_rfl) rfl rfl rfl (Eq.mp (by kernel_rfl) h)

def Vcf.balerref20_codes (P : Program) (l_p0 n_p1 room_p2 : Value) (w : World) (R : Value → World → Prop) : Prop   :=
 Bd P 159 #[(0, n_p1), (1, room_p2)] w fun x_1 =>
 New (zeroP P 159) 159 w fun r_2 w1 =>
 StA 5 r_2 x_1 w1 fun w2 =>
 Lnl l_p0 fun x_3 =>
 VLoop 1 [(.int .i64 0)] w2 fun _ next5 x_4 w3 =>
 Bp .lss x_4 x_3 fun x_6 =>
 Vif x_6 (
 Ias 1 l_p0 x_4 fun x_7 =>
 Ld x_7 w3 fun x_8 =>
 LdA 5 r_2 w3 fun x_9 =>
 Cl P F.balerref07_Reader_Put #[x_9, x_8] w3 fun x_10 w4 =>
 New (zeroP P 161) 161 w4 fun s_11 w5 =>
 StA 8 s_11 x_10 w5 fun w6 =>
 Fo 7 s_11 fun x_12 =>
 Ld x_12 w6 fun x_13 =>
 Bp .neq x_13 (.int .i64 0) fun x_14 =>
 Vif x_14 (
 Fo 7 s_11 fun x_15 =>
 Ld x_15 w6 fun x_16 =>
 R x_16 w6) (
 Fo 0 s_11 fun x_17 =>
 LdA 5 x_17 w6 fun x_18 =>
 StA 5 r_2 x_18 w6 fun w7 =>
 Bp .add x_4 (.int .i64 1) fun x_19 =>
 KE [r_2, l_p0, x_3] [r_2, l_p0, x_3] <| next5 x_19 w7)) (
 R (.int .i64 0) w3)
theorem Tie.balerref20_codes {l_p0 n_p1 room_p2 : Value} {w : World} {R : Value → World → Prop} (h : Vcf.balerref20_codes Tryz.prog l_p0 n_p1 room_p2 w R) : Cl Tryz.prog F.balerref20_codes #[l_p0, n_p1, room_p2] w R :=
  cl_of_vc (n := 31) (rs := [(.tmp 6)]) (h := (.s .z (.s .z (.s (.s .z (.b (.l [16] [7, 14, 15] (.s .z (.s (.i .z .z) (.s (.b (.s .z (.s .z (.s (.s .z (.i (.s .z .z) .z)) .z)))) .z)))))) (.s .z .z))))) (args := [l_p0, n_p1, room_p2]) (by kernel_rfl) Tryz.func56 rfl (by kernel_rfl) rfl rfl rfl (Eq.mp (by kernel_rfl) h)

def Vcf.balerref14_Some (P : Program) (all_p0 size_p1 : Value) (w : World) (R : Value → World → Prop) : Prop   :=
 Cl P F.balerref13_Read #[all_p0] w fun x_1 w1 =>
 New (zeroP P 152) 152 w1 fun p_2 w2 =>
 StA 5 p_2 x_1 w2 fun w3 =>
 Fo 4 p_2 fun x_3 =>
 Ld x_3 w3 fun x_4 =>
 Bp .neq x_4 (.int .i64 0) fun x_5 =>
 Vif x_5 (
 R (.slice none 0 0) w3) (
 VJoin 1 (fun _ t_6 w4 =>
 Fo 2 t_6 fun x_7 =>
 Ld x_7 w4 fun x_8 =>
 Bp .neq x_8 (.int .i64 0) fun x_9 =>
 Vif x_9 (
 R (.slice none 0 0) w4) (
 Fo 2 p_2 fun x_10 =>
 Ld x_10 w4 fun x_11 =>
 Fo 1 t_6 fun x_12 =>
 Ld x_12 w4 fun x_13 =>
 Bp .add x_11 x_13 fun x_14 =>
 VLoop 2 [x_14, (.slice none 0 0)] w4 fun _ next17 at_15 l_16 w5 =>
 Lnl l_16 fun x_18 =>
 Bp .quo x_18 (.int .i64 50) fun x_19 =>
 Fo 0 p_2 fun x_20 =>
 Ld x_20 w5 fun x_21 =>
 Lnl x_21 fun x_22 =>
 Bp .lss x_19 x_22 fun x_23 =>
 Vif x_23 (
 Dr w5 fun w6 =>
 Fo 0 t_6 fun x_24 =>
 Ld x_24 w6 fun x_25 =>
 Fo 0 p_2 fun x_27 =>
 Ld x_27 w6 fun x_28 =>
 Lnl l_16 fun x_30 =>
 Bp .quo x_30 (.int .i64 50) fun x_32 =>
 Ias 1 x_28 x_32 fun x_33 =>
 Ld x_33 w6 fun x_34 =>
 Ias 1 x_25 x_34 fun x_36 =>
 Ld x_36 w6 fun x_37 =>
 Sst all_p0 (some at_15) none fun x_39 =>
 Cl P F.balerref10_Get #[x_37, x_39] w6 fun x_40 w7 =>
 Bp .lss x_40 (.int .i64 0) fun x_41 =>
 Vif x_41 (
 R l_16 w7) (
 Ias 1 x_37 x_40 fun x_42 =>
 Ld x_42 w7 fun x_43 =>
 Lns x_43 fun x_44 =>
 Bp .add at_15 x_44 fun x_45 =>
 Bs P 69 1 #[(0, x_40)] w7 fun x_46 w8 =>
 Ap P #[69, 69] 69 #[l_16, x_46] w8 fun x_47 w9 =>
 Bp .sub size_p1 (.int .i64 1) fun x_48 =>
 Bp .eql x_40 x_48 fun x_49 =>
 Vif x_49 (
 R x_47 w9) (
 KE [all_p0, size_p1, p_2, t_6] [all_p0, size_p1, p_2, t_6] <| next17 x_45 x_47 w9))) (
 R l_16 w5)))
 (fun J50 =>
 Dr w3 fun w10 =>
 (Fo 2 p_2 fun x_51 =>
 Ld x_51 w10 fun x_52 =>
 Sst all_p0 (some x_52) none fun x_54 =>
 Fo 1 p_2 fun x_56 =>
 Ld x_56 w10 fun x_57 =>
 Cl P F.balerref14_readTables #[x_54, x_57, size_p1] w10 fun x_59 w11 =>
 New (zeroP P 155) 155 w11 fun t_60 w12 =>
 Rk (fun w K => Ld x_56 w fun x_58 => K x_58) x_57 w12 <|
 Rk (fun w K => Sst all_p0 (some x_52) none fun x_55 => K x_55) x_54 w12 <|
 Rk (fun w K => Ld x_51 w fun x_53 => K x_53) x_52 w12 <|
 StA 3 t_60 x_59 w12 fun w13 =>
 KE [all_p0, size_p1, p_2] [all_p0, size_p1, p_2] <| J50 t_60 w13) ∧
 (Fo 2 p_2 fun x_61 =>
 Ld x_61 w10 fun x_62 =>
 Sst all_p0 (some x_62) none fun x_64 =>
 Fo 1 p_2 fun x_66 =>
 Ld x_66 w10 fun x_67 =>
 New (zeroP P 155) 155 w10 fun t_69 w14 =>
 Rk (fun w K => Ld x_66 w fun x_68 => K x_68) x_67 w14 <|
 Rk (fun w K => Sst all_p0 (some x_62) none fun x_65 => K x_65) x_64 w14 <|
 Rk (fun w K => Ld x_61 w fun x_63 => K x_63) x_62 w14 <|
 Cl P F.balerref14_readTables #[x_64, x_67, size_p1] w14 fun x_70 w15 =>
 StA 3 t_69 x_70 w15 fun w16 =>
 KE [all_p0, size_p1, p_2] [all_p0, size_p1, p_2] <| J50 t_69 w16)))
theorem Tie.balerref14_Some {all_p0 size_p1 : Value} {w : World} {R : Value → World → Prop} (h : Vcf.balerref14_Some Tryz.prog all_p0 size_p1 w R) : Cl Tryz.prog F.balerref14_Some #[all_p0, size_p1] w R :=
  cl_of_vc (n := 75) (rs := [(.tmp 4)]) (h := (.s .z (.s .z (.s (.s .z (.i (.s .z .z) .z)) (.j [6] [0, 1, 5] (.r (.two [0, 0, 2, 7, 0, 16, 0, 127, 0, 511] 7 8 [0, 1, 2, 3, 4, 5, 6, 7, 8, 9] [0, 1, 2, 3, 4, 5, 6, 8, 7, 9])) (.s (.s .z (.i (.s .z .z) .z)) (.s .z (.s .z (.s (.b (.l [7, 8] [0, 1, 5, 6] (.s (.s .z (.i .z .z)) (.b (.s (.r (.staged [0, 1, 0, 4, 0, 16, 48, 124, 252, 511, 1023, 2047])) (.s .z (.s (.s .z (.i (.s .z .z) .z)) (.s .z (.s .z (.s .z (.i (.s .z .z) .z))))))))))) (.s .z .z)))))))))) (args := [all_p0, size_p1]) (by kernel_rfl) Tryz.func57 rfl (by kernel_rfl) rfl rfl rfl (Eq.mp (by kernel_rfl) h)

def Vcf.balerref07_Decode (P : Program) (l_p0 n_p1 most_p2 : Value) (w : World) (R : Value → World → Prop) : Prop   :=
 VJoin 1 (fun _ x_1 w1 =>
 Vif x_1 (
 R (.tuple #[(.slice none 0 0), (.int .i64 1)]) w1) (
 Bd P 159 #[(0, n_p1), (1, most_p2)] w1 fun x_2 =>
 New (zeroP P 159) 159 w1 fun r_3 w2 =>
 StA 5 r_3 x_2 w2 fun w3 =>
 Lnl l_p0 fun x_4 =>
 VLoop 2 [(.slice none 0 0), (.int .i64 0)] w3 fun _ next7 out_5 x_6 w4 =>
 Bp .lss x_6 x_4 fun x_8 =>
 Vif x_8 (
 Ias 1 l_p0 x_6 fun x_9 =>
 Ld x_9 w4 fun x_10 =>
 LdA 5 r_3 w4 fun x_11 =>
 Cl P F.balerref07_Reader_Put #[x_11, x_10] w4 fun x_12 w5 =>
 New (zeroP P 161) 161 w5 fun s_13 w6 =>
 StA 8 s_13 x_12 w6 fun w7 =>
 Fo 7 s_13 fun x_14 =>
 Ld x_14 w7 fun x_15 =>
 Bp .eql x_15 (.int .i64 7) fun x_16 =>
 Vif x_16 (
 R (.tuple #[(.slice none 0 0), (.int .i64 25)]) w7) (
 Fo 7 s_13 fun x_17 =>
 Ld x_17 w7 fun x_18 =>
 Bp .neq x_18 (.int .i64 0) fun x_19 =>
 Vif x_19 (
 Dr w7 fun w8 =>
 Fo 7 s_13 fun x_20 =>
 Ld x_20 w8 fun x_21 =>
 R (.tuple #[(.slice none 0 0), x_21]) w8) (
 Fo 5 s_13 fun x_23 =>
 Ld x_23 w7 fun x_24 =>
 VLoop 2 [out_5, (.int .i64 0)] w7 fun _ next27 out_25 x_26 w9 =>
 Bp .lss x_26 x_24 fun x_28 =>
 Vif x_28 (
 Bs P 69 1 #[(0, (.int .i64 0))] w9 fun x_29 w10 =>
 Ap P #[69, 69] 69 #[out_25, x_29] w10 fun x_30 w11 =>
 Bp .add x_26 (.int .i64 1) fun x_31 =>
 KE [r_3, s_13, l_p0, x_4, x_6, x_24] [r_3, s_13, l_p0, x_4, x_6, x_24] <| next27 x_30 x_31 w11) (
 VJoin 1 (fun _ out_32 w12 =>
 Fo 0 s_13 fun x_33 =>
 LdA 5 x_33 w12 fun x_34 =>
 StA 5 r_3 x_34 w12 fun w13 =>
 Bp .add x_6 (.int .i64 1) fun x_35 =>
 KE [r_3, l_p0, x_4] [r_3, l_p0, x_4] <| next7 out_32 x_35 w13)
 (fun J36 =>
 Fo 6 s_13 fun x_37 =>
 Ld x_37 w9 fun x_38 =>
 Bp .geq x_38 (.int .i64 0) fun x_39 =>
 Vif x_39 (
 Fo 6 s_13 fun x_40 =>
 Ld x_40 w9 fun x_41 =>
 Bs P 69 1 #[(0, x_41)] w9 fun x_42 w14 =>
 Ap P #[69, 69] 69 #[out_25, x_42] w14 fun x_43 w15 =>
 KE [r_3, s_13, l_p0, x_4, x_6] [r_3, s_13, l_p0, x_4, x_6] <| J36 x_43 w15) (
 KE [r_3, s_13, l_p0, x_4, x_6] [r_3, s_13, l_p0, x_4, x_6] <| J36 out_25 w9)))))) (
 Fo 4 r_3 fun x_44 =>
 Ld x_44 w4 fun x_45 =>
 Up .not x_45 fun x_46 =>
 Vif x_46 (
 R (.tuple #[(.slice none 0 0), (.int .i64 24)]) w4) (
 R (.tuple #[out_5, (.int .i64 0)]) w4))))
 (fun J47 =>
 Bp .lss n_p1 (.int .i64 1) fun x_48 =>
 Vif x_48 (
 KE [l_p0, n_p1, most_p2] [l_p0, n_p1, most_p2] <| J47 (.bool true) w) (
 Bp .gtr n_p1 (.int .i64 256) fun x_49 =>
 Vif x_49 (
 KE [l_p0, n_p1, most_p2] [l_p0, n_p1, most_p2] <| J47 (.bool true) w) (
 Bp .lss most_p2 (.int .i64 0) fun x_50 =>
 Vif x_50 (
 KE [l_p0, n_p1, most_p2] [l_p0, n_p1, most_p2] <| J47 (.bool true) w) (
 Bp .gtr most_p2 (.int .i64 1099511627776) fun x_51 =>
 KE [l_p0, n_p1, most_p2] [l_p0, n_p1, most_p2] <| J47 x_51 w))))
theorem Tie.balerref07_Decode {l_p0 n_p1 most_p2 : Value} {w : World} {R : Value → World → Prop} (h : Vcf.balerref07_Decode Tryz.prog l_p0 n_p1 most_p2 w R) : Cl Tryz.prog F.balerref07_Decode #[l_p0, n_p1, most_p2] w R :=
  cl_of_vc (n := 70) (rs := [(.tmp 6), (.tmp 7)]) (h := (.s .z (.s (.j [26] [0, 1, 2] .z (.i (.s .z .z) .z)) (.s .z (.s .z (.s (.s .z (.b (.l [9, 32] [8, 30, 31] (.s .z (.s (.i .z .z) (.s (.b (.s .z (.s .z (.s (.s .z (.i (.s .z .z) .z)) (.s (.s .z (.i (.s (.r (.staged [0, 1, 0, 7])) .z) .z)) (.s (.s .z (.b (.l [9, 49] [8, 12, 30, 31, 32, 48] (.s .z (.s (.i .z .z) (.s (.b .z) .z)))))) (.j [9] [8, 12, 30, 31, 32] (.s .z (.i .z .z)) .z))))))) .z)))))) (.s (.s .z (.i (.s .z .z) .z)) (.s .z .z)))))))) (args := [l_p0, n_p1, most_p2]) (by kernel_rfl) Tryz.func58 rfl (by kernel_rfl) rfl rfl rfl (Eq.mp (by kernel_rfl) h)

def Vcf.balerref06_Decode (P : Program) (l_p0 symbols_p1 : Value) (w : World) (R : Value → World → Prop) : Prop   :=
 Cl P F.balerref05_Is #[symbols_p1] w fun x_1 w1 =>
 Up .not x_1 fun x_2 =>
 Vif x_2 (
 R (.tuple #[(.string ⟨#[]⟩), (.int .i64 1)]) w1) (
 Lnl l_p0 fun x_3 =>
 VLoop 3 [(.string ⟨#[]⟩), symbols_p1, (.int .i64 0)] w1 fun _ next7 out_4 order_5 x_6 w2 =>
 Bp .lss x_6 x_3 fun x_8 =>
 Vif x_8 (
 Ias 1 l_p0 x_6 fun x_9 =>
 Ld x_9 w2 fun x_10 =>
 VJoin 1 (fun _ x_11 w3 =>
 Vif x_11 (
 R (.tuple #[(.string ⟨#[]⟩), (.int .i64 1)]) w3) (
 Bp .add x_10 (.int .i64 1) fun x_12 =>
 Sst order_5 (some x_10) (some x_12) fun x_13 =>
 Bp .add out_4 x_13 fun x_14 =>
 Cl P F.balerref06_Touch #[order_5, x_10] w3 fun x_15 w4 =>
 Bp .add x_6 (.int .i64 1) fun x_16 =>
 KE [l_p0, x_3] [l_p0, x_3] <| next7 x_14 x_15 x_16 w4))
 (fun J17 =>
 Bp .lss x_10 (.int .i64 0) fun x_18 =>
 Vif x_18 (
 KE [out_4, order_5, x_10, l_p0, x_3, x_6] [out_4, order_5, x_10, l_p0, x_3, x_6] <| J17 (.bool true) w2) (
 Lns order_5 fun x_19 =>
 Bp .geq x_10 x_19 fun x_20 =>
 KE [out_4, order_5, x_10, l_p0, x_3, x_6] [out_4, order_5, x_10, l_p0, x_3, x_6] <| J17 x_20 w2))) (
 R (.tuple #[out_4, (.int .i64 0)]) w2))
theorem Tie.balerref06_Decode {l_p0 symbols_p1 : Value} {w : World} {R : Value → World → Prop} (h : Vcf.balerref06_Decode Tryz.prog l_p0 symbols_p1 w R) : Cl Tryz.prog F.balerref06_Decode #[l_p0, symbols_p1] w R :=
  cl_of_vc (n := 40) (rs := [(.tmp 4), (.tmp 5)]) (h := (.s .z (.s (.s .z (.i (.s .z .z) .z)) (.s .z (.s .z (.s (.s .z (.b (.l [6, 7, 16] [14, 15] (.s .z (.s (.i .z .z) (.s (.b (.s .z (.s (.j [27] [6, 7, 9, 14, 15, 16] .z (.i (.s .z .z) .z)) (.s .z .z)))) .z)))))) (.s .z .z))))))) (args := [l_p0, symbols_p1]) (by kernel_rfl) Tryz.func59 rfl (by kernel_rfl) rfl rfl rfl (Eq.mp (by kernel_rfl) h)

def Vcf.balerref01_Number (P : Program) (s_p0 : Value) (w : World) (R : Value → World → Prop) : Prop   :=
 VLoop 2 [(.int .u32 0), (.int .i64 0)] w fun _ next3 v_1 i_2 w1 =>
 Lns s_p0 fun x_4 =>
 Bp .lss i_2 x_4 fun x_5 =>
 Vif x_5 (
 Bp .mul (.int .u32 2) v_1 fun x_6 =>
 Ixs s_p0 i_2 fun x_7 =>
 Bp .sub x_7 (.int .u8 48) fun x_8 =>
 Ci .u32 x_8 fun x_9 =>
 Bp .add x_6 x_9 fun x_10 =>
 Bp .add i_2 (.int .i64 1) fun x_11 =>
 KE [s_p0] [s_p0] <| next3 x_10 x_11 w1) (
 R v_1 w1)
theorem Tie.balerref01_Number {s_p0 : Value} {w : World} {R : Value → World → Prop} (h : Vcf.balerref01_Number Tryz.prog s_p0 w R) : Cl Tryz.prog F.balerref01_Number #[s_p0] w R :=
  cl_of_vc (n := 20) (rs := [(.tmp 2)]) (h := (.s .z (.s .z (.s (.s .z (.b (.l [3, 4] [0] (.s (.s .z (.i .z .z)) (.s (.b .z) .z))))) (.s .z .z))))) (args := [s_p0]) (by kernel_rfl) Tryz.func60 rfl (by kernel_rfl) rfl rfl rfl (Eq.mp (by kernel_rfl) h)

def Vcf.unbwt_Of (P : Program) (last_p0 origin_p1 : Value) (w : World) (R : Value → World → Prop) : Prop   :=
 Cl P F.unbwt_New #[last_p0, origin_p1] w fun x_1 w1 =>
 Ex x_1 0 fun x_2 =>
 Ex x_1 1 fun x_3 =>
 Bp .neq x_3 (.int .i64 0) fun x_4 =>
 Vif x_4 (
 R (.tuple #[(.string ⟨#[]⟩), x_3]) w1) (
 Lns last_p0 fun x_5 =>
 Bp .mul (.int .i64 3) x_5 fun x_6 =>
 Cl P F.unbwt_Inverter_Step #[x_2, x_6] w1 fun x_7 w2 =>
 Cl P F.unbwt_Inverter_Take #[x_2] w2 fun x_8 w3 =>
 R (.tuple #[x_8, (.int .i64 0)]) w3)
theorem Tie.unbwt_Of {last_p0 origin_p1 : Value} {w : World} {R : Value → World → Prop} (h : Vcf.unbwt_Of Tryz.prog last_p0 origin_p1 w R) : Cl Tryz.prog F.unbwt_Of #[last_p0, origin_p1] w R :=
  cl_of_vc (n := 24) (rs := [(.tmp 4), (.tmp 5)]) (h := (.s .z (.s .z (.s (.s .z (.i (.s .z .z) .z)) (.s .z (.s .z .z)))))) (args := [last_p0, origin_p1]) (by kernel_rfl) Tryz.func64 rfl (by kernel_rfl) rfl rfl rfl (Eq.mp (by kernel_rfl) h)

def Vcf.block_Reader_step (P : Program) (b_p0 r_p1 : Value) (w : World) (R : Value → World → Prop) : Prop   :=
 VJoin 1 (fun _ e_1 w1 =>
 Bp .neq e_1 (.int .i64 0) fun x_2 =>
 Vif x_2 (
 R e_1 w1) (
 Cl P F.block_Reader_end #[b_p0] w1 fun x_3 w2 =>
 R x_3 w2))
 (fun J4 =>
 Nc b_p0 <|
 Fo 2 b_p0 fun x_5 =>
 Ld x_5 w fun x_6 =>
 Up .not x_6 fun x_7 =>
 Vif x_7 (
 Cl P F.block_Reader_begin #[b_p0, r_p1] w fun x_8 w3 =>
 KE [b_p0] [b_p0] <| J4 x_8 w3) (
 Nc b_p0 <|
 Fo 0 b_p0 fun x_9 =>
 Ld x_9 w fun x_10 =>
 Bn P 113 false x_10 (.pointer none) fun x_11 =>
 Vif x_11 (
 Cl P F.block_Reader_symbols #[b_p0, r_p1] w fun x_12 w4 =>
 KE [b_p0] [b_p0] <| J4 x_12 w4) (
 Nc b_p0 <|
 Fo 0 b_p0 fun x_13 =>
 Ld x_13 w fun x_14 =>
 Cl P F.block_row_waits #[x_14] w fun x_15 w5 =>
 Vif x_15 (
 Dr w5 fun w6 =>
 Nc b_p0 <|
 Fo 5 b_p0 fun x_16 =>
 Ld x_16 w6 fun x_17 =>
 Nc b_p0 <|
 Fo 0 b_p0 fun x_19 =>
 Ld x_19 w6 fun x_20 =>
 Cl P F.block_row_next #[x_20] w6 fun x_22 w7 =>
 Rk (fun w K => Ld x_16 w fun x_18 => K x_18) x_17 w7 <|
 Bs P 63 1 #[(0, x_22)] w7 fun x_23 w8 =>
 Rk (fun w K => Ld x_16 w fun x_18 => K x_18) x_17 w8 <|
 Ap P #[63, 63] 63 #[x_17, x_23] w8 fun x_24 w9 =>
 Nc b_p0 <|
 Fo 5 b_p0 fun x_25 =>
 St x_25 x_24 w9 fun w10 =>
 KE [b_p0] [b_p0] <| J4 (.int .i64 0) w10) (
 Cl P F.block_Reader_symbol #[b_p0, r_p1] w5 fun x_26 w11 =>
 KE [b_p0] [b_p0] <| J4 x_26 w11))))
theorem Tie.block_Reader_step {b_p0 r_p1 : Value} {w : World} {R : Value → World → Prop} (h : Vcf.block_Reader_step Tryz.prog b_p0 r_p1 w R) : Cl Tryz.prog F.block_Reader_step #[b_p0, r_p1] w R :=
  cl_of_vc (n := 52) (rs := [(.tmp 4)]) (h := (.s .z (.s .z (.j [5] [0] (.b (.s .z (.i .z (.s .z (.i .z (.s .z (.i (.r (.staged [0, 0, 2, 6, 14, 0, 32, 96, 224, 480, 992, 2046, 4095, 8191, 16383])) .z))))))) (.s (.s .z (.i (.s .z .z) .z)) (.s .z .z)))))) (args := [b_p0, r_p1]) (by kernel_rfl) Tryz.func69 rfl (by kernel_rfl) rfl rfl rfl (Eq.mp (by kernel_rfl) h)

def Vcf.code_Reader_Held (P : Program) (c_p0 : Value) (w : World) (R : Value → World → Prop) : Prop   :=
 Bn P 179 false c_p0 (.pointer none) fun x_1 =>
 Vif x_1 (
 R (.int .i64 0) w) (
 Dr w fun w1 =>
 Nc c_p0 <|
 Fo 1 c_p0 fun x_2 =>
 Ld x_2 w1 fun x_3 =>
 Cl P F.picks_Reader_Picks #[x_3] w1 fun x_5 w2 =>
 Lnl x_5 fun x_6 =>
 Nc c_p0 <|
 Fo 0 c_p0 fun x_8 =>
 Ld x_8 w2 fun x_9 =>
 Rk (fun w K => Ld x_8 w fun x_10 => K x_10) x_9 w1 <|
 Nc c_p0 <|
 Fo 4 c_p0 fun x_12 =>
 Ld x_12 w2 fun x_13 =>
 Rk (fun w K => Ld x_12 w fun x_14 => K x_14) x_13 w1 <|
 Lnl x_13 fun x_16 =>
 Rk (fun w K => Lnl x_13 fun x_17 => K x_17) x_16 w1 <|
 Bp .mul x_9 x_16 fun x_19 =>
 Bp .add x_6 x_19 fun x_20 =>
 R x_20 w2)
theorem Tie.code_Reader_Held {c_p0 : Value} {w : World} {R : Value → World → Prop} (h : Vcf.code_Reader_Held Tryz.prog c_p0 w R) : Cl Tryz.prog F.code_Reader_Held #[c_p0] w R :=
  cl_of_vc (n := 22) (rs := [(.tmp 2)]) (h := (.s .z (.s (.s .z (.i (.s .z .z) .z)) (.s (.r (.staged [0, 1, 3, 7, 15, 31, 0, 64, 192, 448, 0, 1024, 3072, 7168, 15360, 32704, 65535, 131071])) .z)))) (args := [c_p0]) (by kernel_rfl) Tryz.func70 rfl (by kernel_rfl) rfl rfl rfl (Eq.mp (by kernel_rfl) h)

def Vcf.used_listed (P : Program) (there_p0 : Value) (w : World) (R : Value → World → Prop) : Prop   :=
 New there_p0 119 w fun there_1 w1 =>
 LdA 256 there_1 w1 fun x_2 =>
 VLoop 2 [(.slice none 0 0), (.int .i64 0)] w1 fun _ next5 out_3 x_4 w2 =>
 Bp .lss x_4 (.int .i64 256) fun x_6 =>
 Vif x_6 (
 Ixa 256 1 false x_2 x_4 fun x_7 =>
 Vif x_7 (
 Ci .u8 x_4 fun x_8 =>
 Bs P 63 1 #[(0, x_8)] w2 fun x_9 w3 =>
 Ap P #[63, 63] 63 #[out_3, x_9] w3 fun x_10 w4 =>
 Bp .add x_4 (.int .i64 1) fun x_11 =>
 KE [x_2] [x_2] <| next5 x_10 x_11 w4) (
 Bp .add x_4 (.int .i64 1) fun x_12 =>
 KE [x_2] [x_2] <| next5 out_3 x_12 w2)) (
 Cw P 63 9 out_3 w2 fun x_13 w5 =>
 R x_13 w5)
theorem Tie.used_listed {there_p0 : Value} {w : World} {R : Value → World → Prop} (h : Vcf.used_listed Tryz.prog there_p0 w R) : Cl Tryz.prog F.used_listed #[there_p0] w R :=
  cl_of_vc (n := 20) (rs := [(.tmp 2)]) (h := (.s .z (.s .z (.s (.s .z (.b (.l [3, 7] [6] (.s .z (.s (.i .z .z) (.s (.b (.s .z (.s .z (.i .z .z)))) .z)))))) (.s .z .z))))) (args := [there_p0]) (by kernel_rfl) Tryz.func75 rfl (by kernel_rfl) rfl rfl rfl (Eq.mp (by kernel_rfl) h)

def Vcf.mtf_New (P : Program) (symbols_p0 : Value) (w : World) (R : Value → World → Prop) : Prop   :=
 Cl P F.used_Is #[symbols_p0] w fun x_1 w1 =>
 Up .not x_1 fun x_2 =>
 Vif x_2 (
 R (.tuple #[(.pointer none), (.int .i64 1)]) w1) (
 Cw P 9 63 symbols_p0 w1 fun x_3 w2 =>
 Bd P 187 #[(0, x_3)] w2 fun x_4 =>
 New x_4 187 w2 fun x_5 w3 =>
 R (.tuple #[x_5, (.int .i64 0)]) w3)
theorem Tie.mtf_New {symbols_p0 : Value} {w : World} {R : Value → World → Prop} (h : Vcf.mtf_New Tryz.prog symbols_p0 w R) : Cl Tryz.prog F.mtf_New #[symbols_p0] w R :=
  cl_of_vc (n := 11) (rs := [(.tmp 2), (.tmp 3)]) (h := (.s .z (.s (.s .z (.i (.s .z .z) .z)) (.s .z .z)))) (args := [symbols_p0]) (by kernel_rfl) Tryz.func76 rfl (by kernel_rfl) rfl rfl rfl (Eq.mp (by kernel_rfl) h)

def Vcf.zeros_may (P : Program) (n_p0 : Value) (w : World) (R : Value → World → Prop) : Prop   :=
 Bp .geq n_p0 (.int .i64 1) fun x_1 =>
 Vif x_1 (
 Bp .leq n_p0 (.int .i64 256) fun x_2 =>
 R x_2 w) (
 R (.bool false) w)
theorem Tie.zeros_may {n_p0 : Value} {w : World} {R : Value → World → Prop} (h : Vcf.zeros_may Tryz.prog n_p0 w R) : Cl Tryz.prog F.zeros_may #[n_p0] w R :=
  cl_of_vc (n := 9) (rs := [(.tmp 2)]) (h := (.s .z (.s .z .z))) (args := [n_p0]) (by kernel_rfl) Tryz.func78 rfl (by kernel_rfl) rfl rfl rfl (Eq.mp (by kernel_rfl) h)

def Vcf.used_Is (P : Program) (symbols_p0 : Value) (w : World) (R : Value → World → Prop) : Prop   :=
 Lns symbols_p0 fun x_1 =>
 VLoop 1 [(.int .i64 0)] w fun _ next3 x_2 w1 =>
 Bp .lss x_2 x_1 fun x_4 =>
 Vif x_4 (
 VJoin 1 (fun _ x_5 w2 =>
 Vif x_5 (
 R (.bool false) w2) (
 Bp .add x_2 (.int .i64 1) fun x_6 =>
 KE [symbols_p0, x_1] [symbols_p0, x_1] <| next3 x_6 w2))
 (fun J7 =>
 Dr w1 fun w3 =>
 Bp .gtr x_2 (.int .i64 0) fun x_8 =>
 Vif x_8 (
 Ixs symbols_p0 x_2 fun x_9 =>
 Bp .sub x_2 (.int .i64 1) fun x_10 =>
 Ixs symbols_p0 x_10 fun x_11 =>
 Bp .leq x_9 x_11 fun x_12 =>
 KE [symbols_p0, x_1, x_2] [symbols_p0, x_1, x_2] <| J7 x_12 w3) (
 KE [symbols_p0, x_1, x_2] [symbols_p0, x_1, x_2] <| J7 (.bool false) w3))) (
 Bp .neq symbols_p0 (.string ⟨#[]⟩) fun x_13 =>
 R x_13 w1)
theorem Tie.used_Is {symbols_p0 : Value} {w : World} {R : Value → World → Prop} (h : Vcf.used_Is Tryz.prog symbols_p0 w R) : Cl Tryz.prog F.used_Is #[symbols_p0] w R :=
  cl_of_vc (n := 24) (rs := [(.tmp 2)]) (h := (.s .z (.s (.s .z (.b (.l [6] [0, 5] (.s .z (.s (.i .z .z) (.s (.b (.s .z (.j [20] [0, 5, 6] (.r (.staged [0, 1, 3, 7, 7, 31, 7, 7, 135, 455, 1023, 2047])) (.i (.s .z .z) .z)))) .z)))))) (.s .z .z)))) (args := [symbols_p0]) (by kernel_rfl) Tryz.func85 rfl (by kernel_rfl) rfl rfl rfl (Eq.mp (by kernel_rfl) h)

def Vcf.canon_New (P : Program) (l_p0 : Value) (w : World) (R : Value → World → Prop) : Prop   :=
 VJoin 1 (fun _ x_1 w1 =>
 Vif x_1 (
 R (.tuple #[(.pointer none), (.int .i64 1)]) w1) (
 Cl P F.canon_whole #[l_p0] w1 fun x_2 w2 =>
 Up .not x_2 fun x_3 =>
 Vif x_3 (
 R (.tuple #[(.pointer none), (.int .i64 22)]) w2) (
 VJoin 1 (fun _ c_4 w3 =>
 VLoop 2 [(.int .i64 0), (.int .i64 1)] w3 fun _ next7 next_5 n_6 w4 =>
 Bp .leq n_6 (.int .i64 20) fun x_8 =>
 Vif x_8 (
 Bp .mul next_5 (.int .i64 2) fun x_9 =>
 Nc c_4 <|
 Fo 3 c_4 fun x_10 =>
 Iaa 21 1 x_10 n_6 fun x_11 =>
 St x_11 x_9 w4 fun w5 =>
 Dr w5 fun w6 =>
 Nc c_4 <|
 Fo 2 c_4 fun x_12 =>
 Ld x_12 w6 fun x_13 =>
 Lnl x_13 fun x_15 =>
 Nc c_4 <|
 Fo 24 c_4 fun x_17 =>
 Iaa 22 1 x_17 n_6 fun x_18 =>
 St x_18 x_15 w6 fun w7 =>
 Lnl l_p0 fun x_19 =>
 VLoop 2 [x_9, (.int .i64 0)] w7 fun _ next22 next_20 x_21 w8 =>
 Bp .lss x_21 x_19 fun x_23 =>
 Vif x_23 (
 Ias 1 l_p0 x_21 fun x_24 =>
 Ld x_24 w8 fun x_25 =>
 Bp .eql x_25 n_6 fun x_26 =>
 Vif x_26 (
 Nc c_4 <|
 Fo 1 c_4 fun x_27 =>
 Ld x_27 w8 fun x_28 =>
 Ci .u32 next_20 fun x_29 =>
 Ias 1 x_28 x_21 fun x_30 =>
 St x_30 x_29 w8 fun w9 =>
 Nc c_4 <|
 Fo 2 c_4 fun x_31 =>
 Ld x_31 w9 fun x_32 =>
 Bs P 69 1 #[(0, x_21)] w9 fun x_33 w10 =>
 Ap P #[69, 69] 69 #[x_32, x_33] w10 fun x_34 w11 =>
 Nc c_4 <|
 Fo 2 c_4 fun x_35 =>
 St x_35 x_34 w11 fun w12 =>
 Bp .add next_20 (.int .i64 1) fun x_36 =>
 Bp .add x_21 (.int .i64 1) fun x_37 =>
 KE [l_p0, c_4, n_6, l_p0, x_19] [l_p0, c_4, n_6, l_p0, x_19] <| next22 x_36 x_37 w12) (
 Bp .add x_21 (.int .i64 1) fun x_38 =>
 KE [l_p0, c_4, n_6, l_p0, x_19] [l_p0, c_4, n_6, l_p0, x_19] <| next22 next_20 x_38 w8)) (
 Bp .add n_6 (.int .i64 1) fun x_39 =>
 KE [l_p0, c_4] [l_p0, c_4] <| next7 next_20 x_39 w8)) (
 Dr w4 fun w13 =>
 Nc c_4 <|
 Fo 2 c_4 fun x_40 =>
 Ld x_40 w13 fun x_41 =>
 Lnl x_41 fun x_43 =>
 Nc c_4 <|
 Fo 24 c_4 fun x_45 =>
 Iaa 22 1 x_45 (.int .i64 21) fun x_46 =>
 St x_46 x_43 w13 fun w14 =>
 R (.tuple #[c_4, (.int .i64 0)]) w14))
 (fun J47 =>
 Dr w2 fun w15 =>
 (Cl P F.slices_Clone_int_int #[l_p0] w15 fun x_48 w16 =>
 Lnl l_p0 fun x_49 =>
 Rk (fun w K => Lnl l_p0 fun x_50 => K x_50) x_49 w15 <|
 Ms P 198 x_49 x_49 w16 fun x_52 w17 =>
 Bd P 202 #[(0, x_48), (1, x_52)] w17 fun x_53 =>
 New x_53 202 w17 fun x_55 w18 =>
 KE [l_p0] [l_p0] <| J47 x_55 w18) ∧
 (Lnl l_p0 fun x_56 =>
 Ms P 198 x_56 x_56 w15 fun x_58 w19 =>
 Cl P F.slices_Clone_int_int #[l_p0] w19 fun x_59 w20 =>
 Rk (fun w K => Lnl l_p0 fun x_57 => K x_57) x_56 w20 <|
 Bd P 202 #[(0, x_59), (1, x_58)] w20 fun x_60 =>
 New x_60 202 w20 fun x_62 w21 =>
 KE [l_p0] [l_p0] <| J47 x_62 w21)))))
 (fun J63 =>
 Lnl l_p0 fun x_64 =>
 Bp .lss x_64 (.int .i64 3) fun x_65 =>
 Vif x_65 (
 KE [l_p0] [l_p0] <| J63 (.bool true) w) (
 Lnl l_p0 fun x_66 =>
 Bp .gtr x_66 (.int .i64 258) fun x_67 =>
 KE [l_p0] [l_p0] <| J63 x_67 w))
theorem Tie.canon_New {l_p0 : Value} {w : World} {R : Value → World → Prop} (h : Vcf.canon_New Tryz.prog l_p0 w R) : Cl Tryz.prog F.canon_New #[l_p0] w R :=
  cl_of_vc (n := 92) (rs := [(.tmp 2), (.tmp 3)]) (h := (.s .z (.s (.b (.j [9] [0] .z (.i (.s .z .z) (.s .z (.i (.s .z .z) .z))))) (.j [4] [0] (.r (.two [0, 1, 0, 4, 12, 31, 63, 127] 1 4 [0, 1, 2, 3, 4, 5, 6, 7] [0, 2, 3, 4, 1, 5, 6, 7])) (.s .z (.s (.s .z (.b (.l [5, 6] [0, 4] (.s (.s .z (.i .z .z)) (.s (.b (.s .z (.s .z (.s (.r (.staged [0, 0, 0, 4, 12, 28, 60, 1, 129, 511, 1023])) (.s .z (.b (.l [5, 53] [0, 4, 6, 51, 52] (.s .z (.s (.i .z .z) (.s (.b (.s .z (.s .z (.i (.s .z (.s .z .z)) .z)))) .z)))))))))) .z))))) (.s (.r (.staged [0, 0, 2, 6, 14, 30, 1, 65, 255, 511])) (.s .z .z)))))))) (args := [l_p0]) (by kernel_rfl) Tryz.func89 rfl (by kernel_rfl) rfl rfl rfl (Eq.mp (by kernel_rfl) h)

def Vcf.balerref05_There (P : Program) (s_p0 b_p1 : Value) (w : World) (R : Value → World → Prop) : Prop   :=
 VLoop 1 [(.int .i64 0)] w fun _ next2 i_1 w1 =>
 Lns s_p0 fun x_3 =>
 Bp .lss i_1 x_3 fun x_4 =>
 Vif x_4 (
 Ixs s_p0 i_1 fun x_5 =>
 Ci .i64 x_5 fun x_6 =>
 Bp .eql x_6 b_p1 fun x_7 =>
 Vif x_7 (
 R (.bool true) w1) (
 Bp .add i_1 (.int .i64 1) fun x_8 =>
 KE [s_p0, b_p1] [s_p0, b_p1] <| next2 x_8 w1)) (
 R (.bool false) w1)
theorem Tie.balerref05_There {s_p0 b_p1 : Value} {w : World} {R : Value → World → Prop} (h : Vcf.balerref05_There Tryz.prog s_p0 b_p1 w R) : Cl Tryz.prog F.balerref05_There #[s_p0, b_p1] w R :=
  cl_of_vc (n := 18) (rs := [(.tmp 4)]) (h := (.s .z (.s (.s .z (.b (.l [5] [0, 1] (.s (.s .z (.i .z .z)) (.s (.b (.s .z (.i (.s .z .z) .z))) .z))))) (.s .z .z)))) (args := [s_p0, b_p1]) (by kernel_rfl) Tryz.func91 rfl (by kernel_rfl) rfl rfl rfl (Eq.mp (by kernel_rfl) h)

def Vcf.balerref05_Is (P : Program) (s_p0 : Value) (w : World) (R : Value → World → Prop) : Prop   :=
 Lns s_p0 fun x_1 =>
 Bp .gtr x_1 (.int .i64 0) fun x_2 =>
 Vif x_2 (
 Cl P F.balerref05_Symbols #[s_p0] w fun x_3 w1 =>
 Bp .eql x_3 s_p0 fun x_4 =>
 R x_4 w1) (
 R (.bool false) w)
theorem Tie.balerref05_Is {s_p0 : Value} {w : World} {R : Value → World → Prop} (h : Vcf.balerref05_Is Tryz.prog s_p0 w R) : Cl Tryz.prog F.balerref05_Is #[s_p0] w R :=
  cl_of_vc (n := 12) (rs := [(.tmp 2)]) (h := (.s .z (.s .z .z))) (args := [s_p0]) (by kernel_rfl) Tryz.func92 rfl (by kernel_rfl) rfl rfl rfl (Eq.mp (by kernel_rfl) h)

def Vcf.balerref06_Touch (P : Program) (order_p0 i_p1 : Value) (w : World) (R : Value → World → Prop) : Prop   :=
 Dr w fun w1 =>
 Bp .add i_p1 (.int .i64 1) fun x_1 =>
 Sst order_p0 (some i_p1) (some x_1) fun x_2 =>
 Sst order_p0 none (some i_p1) fun x_4 =>
 Bp .add x_2 x_4 fun x_6 =>
 Bp .add i_p1 (.int .i64 1) fun x_7 =>
 Sst order_p0 (some x_7) none fun x_8 =>
 Bp .add x_6 x_8 fun x_10 =>
 R x_10 w1
theorem Tie.balerref06_Touch {order_p0 i_p1 : Value} {w : World} {R : Value → World → Prop} (h : Vcf.balerref06_Touch Tryz.prog order_p0 i_p1 w R) : Cl Tryz.prog F.balerref06_Touch #[order_p0, i_p1] w R :=
  cl_of_vc (n := 19) (rs := [(.tmp 4)]) (h := (.s .z (.s (.r (.staged [0, 0, 0, 4, 15, 0, 0, 96, 255, 0, 0, 1024, 3584, 8191, 16383])) .z))) (args := [order_p0, i_p1]) (by kernel_rfl) Tryz.func94 rfl (by kernel_rfl) rfl rfl rfl (Eq.mp (by kernel_rfl) h)

def Vcf.balerref10_Codes (P : Program) (l_p0 : Value) (w : World) (R : Value → World → Prop) : Prop   :=
 Lnl l_p0 fun x_1 =>
 Ms P 149 x_1 x_1 w fun x_2 w1 =>
 VLoop 2 [(.string ⟨#[]⟩), (.int .i64 1)] w1 fun _ next5 code_3 n_4 w2 =>
 Bp .leq n_4 (.int .i64 20) fun x_6 =>
 Vif x_6 (
 Lnl l_p0 fun x_7 =>
 VLoop 2 [code_3, (.int .i64 0)] w2 fun _ next10 code_8 x_9 w3 =>
 Bp .lss x_9 x_7 fun x_11 =>
 Vif x_11 (
 Ias 1 l_p0 x_9 fun x_12 =>
 Ld x_12 w3 fun x_13 =>
 Bp .neq x_13 n_4 fun x_14 =>
 Vif x_14 (
 Bp .add x_9 (.int .i64 1) fun x_15 =>
 KE [l_p0, x_2, n_4, l_p0, x_7] [l_p0, x_2, n_4, l_p0, x_7] <| next10 code_8 x_15 w3) (
 VJoin 1 (fun _ code_16 w4 =>
 Ias 1 x_2 x_9 fun x_17 =>
 St x_17 code_16 w4 fun w5 =>
 Bp .add x_9 (.int .i64 1) fun x_18 =>
 KE [l_p0, x_2, n_4, l_p0, x_7] [l_p0, x_2, n_4, l_p0, x_7] <| next10 code_16 x_18 w5)
 (fun J19 =>
 Bp .eql code_8 (.string ⟨#[]⟩) fun x_20 =>
 Vif x_20 (
 VLoop 2 [code_8, (.int .i64 0)] w3 fun _ next23 code_21 x_22 w6 =>
 Bp .lss x_22 n_4 fun x_24 =>
 Vif x_24 (
 Bp .add code_21 (.string ⟨#[48]⟩) fun x_25 =>
 Bp .add x_22 (.int .i64 1) fun x_26 =>
 KE [l_p0, x_2, n_4, x_9, l_p0, x_7, x_9, n_4] [l_p0, x_2, n_4, x_9, l_p0, x_7, x_9, n_4] <| next23 x_25 x_26 w6) (
 KE [l_p0, x_2, n_4, x_9, l_p0, x_7, x_9] [l_p0, x_2, n_4, x_9, l_p0, x_7, x_9] <| J19 code_21 w6)) (
 Cl P F.balerref10_next #[code_8, n_4] w3 fun x_27 w7 =>
 KE [l_p0, x_2, n_4, x_9, l_p0, x_7, x_9] [l_p0, x_2, n_4, x_9, l_p0, x_7, x_9] <| J19 x_27 w7)))) (
 Bp .add n_4 (.int .i64 1) fun x_28 =>
 KE [l_p0, x_2] [l_p0, x_2] <| next5 code_8 x_28 w3)) (
 R x_2 w2)
theorem Tie.balerref10_Codes {l_p0 : Value} {w : World} {R : Value → World → Prop} (h : Vcf.balerref10_Codes Tryz.prog l_p0 w R) : Cl Tryz.prog F.balerref10_Codes #[l_p0] w R :=
  cl_of_vc (n := 42) (rs := [(.tmp 2)]) (h := (.s .z (.s .z (.s .z (.s (.s .z (.b (.l [4, 5] [0, 3] (.s (.s .z (.i .z .z)) (.s (.b (.s .z (.b (.l [4, 17] [0, 3, 5, 15, 16] (.s .z (.s (.i .z .z) (.s (.b (.s .z (.s (.s .z (.i .z .z)) (.j [4] [0, 3, 5, 6, 15, 16, 17] (.s .z (.i (.s .z (.b (.l [4, 28] [0, 3, 5, 6, 15, 16, 17, 27] (.s .z (.s (.i .z .z) (.s (.b .z) .z)))))) .z)) .z)))) .z))))))) .z))))) (.s .z .z)))))) (args := [l_p0]) (by kernel_rfl) Tryz.func99 rfl (by kernel_rfl) rfl rfl rfl (Eq.mp (by kernel_rfl) h)

def Vcf.balerref13_Read (P : Program) (all_p0 : Value) (w : World) (R : Value → World → Prop) : Prop   :=
 New (zeroP P 152) 152 w fun x_1 w1 =>
 Lns all_p0 fun x_2 =>
 Bp .lss x_2 (.int .i64 18) fun x_3 =>
 Vif x_3 (
 Bd P 152 #[(4, (.int .i64 3))] w1 fun x_4 =>
 StA 5 x_1 x_4 w1 fun w2 =>
 LdA 5 x_1 w2 fun x_5 =>
 R x_5 w2) (
 Sst all_p0 none (some (.int .i64 3)) fun x_6 =>
 Cl P F.balerref01_Number #[x_6] w1 fun x_7 w3 =>
 Ci .i64 x_7 fun x_8 =>
 Sst all_p0 (some (.int .i64 3)) (some (.int .i64 18)) fun x_9 =>
 Cl P F.balerref01_Number #[x_9] w3 fun x_10 w4 =>
 Ci .i64 x_10 fun x_11 =>
 VJoin 1 (fun _ x_12 w5 =>
 Vif x_12 (
 Bd P 152 #[(3, (.int .i64 18)), (4, (.int .i64 25))] w5 fun x_13 =>
 StA 5 x_1 x_13 w5 fun w6 =>
 LdA 5 x_1 w6 fun x_14 =>
 R x_14 w6) (
 VLoop 3 [(.string ⟨#[48, 49, 50, 51, 52, 53]⟩), (.slice none 0 0), (.int .i64 18)] w5 fun _ next18 order_15 l_16 at_17 w7 =>
 Lnl l_16 fun x_19 =>
 Bp .lss x_19 x_11 fun x_20 =>
 Vif x_20 (
 Sst all_p0 (some at_17) none fun x_21 =>
 Cl P F.balerref13_ones #[x_21] w7 fun x_22 w8 =>
 Bp .geq x_22 x_8 fun x_23 =>
 Vif x_23 (
 Bp .add at_17 x_8 fun x_24 =>
 Bd P 152 #[(3, x_24), (4, (.int .i64 25))] w8 fun x_25 =>
 StA 5 x_1 x_25 w8 fun w9 =>
 LdA 5 x_1 w9 fun x_26 =>
 R x_26 w9) (
 Bp .add at_17 x_22 fun x_27 =>
 Lns all_p0 fun x_28 =>
 Bp .eql x_27 x_28 fun x_29 =>
 Vif x_29 (
 Bd P 152 #[(4, (.int .i64 3))] w8 fun x_30 =>
 StA 5 x_1 x_30 w8 fun w10 =>
 LdA 5 x_1 w10 fun x_31 =>
 R x_31 w10) (
 Ixs order_15 x_22 fun x_32 =>
 Ci .i64 x_32 fun x_33 =>
 Bp .sub x_33 (.int .i64 48) fun x_34 =>
 Bs P 69 1 #[(0, x_34)] w8 fun x_35 w11 =>
 Ap P #[69, 69] 69 #[l_16, x_35] w11 fun x_36 w12 =>
 Cl P F.balerref06_Touch #[order_15, x_22] w12 fun x_37 w13 =>
 Bp .add at_17 x_22 fun x_38 =>
 Bp .add x_38 (.int .i64 1) fun x_39 =>
 KE [all_p0, x_1, x_8, x_11] [all_p0, x_1, x_8, x_11] <| next18 x_37 x_36 x_39 w13))) (
 Bd P 152 #[(0, l_16), (1, x_8), (2, at_17), (3, at_17)] w7 fun x_40 =>
 StA 5 x_1 x_40 w7 fun w14 =>
 LdA 5 x_1 w14 fun x_41 =>
 R x_41 w14)))
 (fun J42 =>
 Bp .lss x_8 (.int .i64 2) fun x_43 =>
 Vif x_43 (
 KE [all_p0, x_1, x_8, x_11] [all_p0, x_1, x_8, x_11] <| J42 (.bool true) w4) (
 Bp .gtr x_8 (.int .i64 6) fun x_44 =>
 Vif x_44 (
 KE [all_p0, x_1, x_8, x_11] [all_p0, x_1, x_8, x_11] <| J42 (.bool true) w4) (
 Bp .eql x_11 (.int .i64 0) fun x_45 =>
 KE [all_p0, x_1, x_8, x_11] [all_p0, x_1, x_8, x_11] <| J42 x_45 w4))))
theorem Tie.balerref13_Read {all_p0 : Value} {w : World} {R : Value → World → Prop} (h : Vcf.balerref13_Read Tryz.prog all_p0 w R) : Cl Tryz.prog F.balerref13_Read #[all_p0] w R :=
  cl_of_vc (n := 74) (rs := [(.cell 2 152)]) (h := (.s .z (.s (.s .z (.i (.s .z .z) .z)) (.s .z (.s .z (.s (.j [30] [0, 2, 3, 4] .z (.i (.s .z .z) .z)) (.s .z (.s .z (.s .z (.s (.b (.l [5, 6, 7] [0, 2, 3, 4] (.s (.s .z (.i .z .z)) (.b (.s .z (.s (.s .z (.i (.s .z .z) .z)) (.s (.s .z (.i (.s .z .z) .z)) (.s .z (.s .z .z))))))))) (.s .z .z))))))))))) (args := [all_p0]) (by kernel_rfl) Tryz.func100 rfl (by kernel_rfl) rfl rfl rfl (Eq.mp (by kernel_rfl) h)

def Vcf.balerref14_readTables (P : Program) (all_p0 n_p1 size_p2 : Value) (w : World) (R : Value → World → Prop) : Prop   :=
 New (zeroP P 155) 155 w fun x_1 w1 =>
 Bd P 155 #[] w1 fun x_2 =>
 New (zeroP P 155) 155 w1 fun out_3 w2 =>
 StA 3 out_3 x_2 w2 fun w3 =>
 VLoop 1 [(.int .i64 0)] w3 fun _ next5 x_4 w4 =>
 Bp .lss x_4 n_p1 fun x_6 =>
 Vif x_6 (
 Fo 1 out_3 fun x_7 =>
 Ld x_7 w4 fun x_8 =>
 Sst all_p0 (some x_8) none fun x_9 =>
 Cl P F.balerref11_Read #[x_9, size_p2] w4 fun x_10 w5 =>
 New (zeroP P 210) 210 w5 fun g_11 w6 =>
 StA 3 g_11 x_10 w6 fun w7 =>
 Fo 2 g_11 fun x_12 =>
 Ld x_12 w7 fun x_13 =>
 Bp .neq x_13 (.int .i64 0) fun x_14 =>
 Vif x_14 (
 Fo 0 out_3 fun x_15 =>
 Ld x_15 w7 fun x_16 =>
 Fo 2 g_11 fun x_17 =>
 Ld x_17 w7 fun x_18 =>
 Bd P 155 #[(0, x_16), (2, x_18)] w7 fun x_19 =>
 StA 3 x_1 x_19 w7 fun w8 =>
 LdA 3 x_1 w8 fun x_20 =>
 R x_20 w8) (
 Fo 1 out_3 fun x_21 =>
 Ld x_21 w7 fun x_22 =>
 Fo 1 g_11 fun x_23 =>
 Ld x_23 w7 fun x_24 =>
 Bp .add x_22 x_24 fun x_25 =>
 Fo 1 out_3 fun x_26 =>
 St x_26 x_25 w7 fun w9 =>
 Fo 0 g_11 fun x_27 =>
 Ld x_27 w9 fun x_28 =>
 Cl P F.balerref10_Whole #[x_28] w9 fun x_29 w10 =>
 Up .not x_29 fun x_30 =>
 Vif x_30 (
 Fo 0 out_3 fun x_31 =>
 Ld x_31 w10 fun x_32 =>
 Bd P 155 #[(0, x_32), (2, (.int .i64 22))] w10 fun x_33 =>
 StA 3 x_1 x_33 w10 fun w11 =>
 LdA 3 x_1 w11 fun x_34 =>
 R x_34 w11) (
 Dr w10 fun w12 =>
 Fo 0 out_3 fun x_35 =>
 Ld x_35 w12 fun x_36 =>
 Fo 0 g_11 fun x_38 =>
 Ld x_38 w12 fun x_39 =>
 Cl P F.balerref10_Codes #[x_39] w12 fun x_41 w13 =>
 Rk (fun w K => Ld x_35 w fun x_37 => K x_37) x_36 w13 <|
 Bs P 147 1 #[(0, x_41)] w13 fun x_42 w14 =>
 Rk (fun w K => Ld x_35 w fun x_37 => K x_37) x_36 w14 <|
 Ap P #[147, 147] 147 #[x_36, x_42] w14 fun x_43 w15 =>
 Fo 0 out_3 fun x_44 =>
 St x_44 x_43 w15 fun w16 =>
 Bp .add x_4 (.int .i64 1) fun x_45 =>
 KE [all_p0, size_p2, x_1, out_3, n_p1] [all_p0, size_p2, x_1, out_3, n_p1] <| next5 x_45 w16))) (
 LdA 3 out_3 w4 fun x_46 =>
 StA 3 x_1 x_46 w4 fun w17 =>
 LdA 3 x_1 w17 fun x_47 =>
 R x_47 w17)
theorem Tie.balerref14_readTables {all_p0 n_p1 size_p2 : Value} {w : World} {R : Value → World → Prop} (h : Vcf.balerref14_readTables Tryz.prog all_p0 n_p1 size_p2 w R) : Cl Tryz.prog F.balerref14_readTables #[all_p0, n_p1, size_p2] w R :=
  cl_of_vc (n := 50) (rs := [(.cell 6 155)]) (h := (.s .z (.s .z (.s (.s .z (.b (.l [11] [0, 2, 6, 7, 10] (.s .z (.s (.i .z .z) (.s (.b (.s .z (.s (.s .z (.i (.s .z .z) .z)) (.s .z (.s (.s .z (.i (.s .z .z) .z)) (.r (.staged [0, 1, 0, 4, 12, 28, 63, 127, 255]))))))) .z)))))) (.s .z .z))))) (args := [all_p0, n_p1, size_p2]) (by kernel_rfl) Tryz.func101 rfl (by kernel_rfl) rfl rfl rfl (Eq.mp (by kernel_rfl) h)

def Vcf.balerref10_Get (P : Program) (codes_p0 bits_p1 : Value) (w : World) (R : Value → World → Prop) : Prop   :=
 Lnl codes_p0 fun x_1 =>
 VLoop 1 [(.int .i64 0)] w fun _ next3 x_2 w1 =>
 Bp .lss x_2 x_1 fun x_4 =>
 Vif x_4 (
 Ias 1 codes_p0 x_2 fun x_5 =>
 Ld x_5 w1 fun x_6 =>
 Cl P F.balerref10_Begins #[bits_p1, x_6] w1 fun x_7 w2 =>
 Vif x_7 (
 R x_2 w2) (
 Bp .add x_2 (.int .i64 1) fun x_8 =>
 KE [bits_p1, codes_p0, x_1] [bits_p1, codes_p0, x_1] <| next3 x_8 w2)) (
 R (.int .i64 (-1)) w1)
theorem Tie.balerref10_Get {codes_p0 bits_p1 : Value} {w : World} {R : Value → World → Prop} (h : Vcf.balerref10_Get Tryz.prog codes_p0 bits_p1 w R) : Cl Tryz.prog F.balerref10_Get #[codes_p0, bits_p1] w R :=
  cl_of_vc (n := 19) (rs := [(.tmp 4)]) (h := (.s .z (.s (.s .z (.b (.l [9] [1, 7, 8] (.s .z (.s (.i .z .z) (.s (.b (.s .z (.s .z (.i (.s .z .z) .z)))) .z)))))) (.s .z .z)))) (args := [codes_p0, bits_p1]) (by kernel_rfl) Tryz.func102 rfl (by kernel_rfl) rfl rfl rfl (Eq.mp (by kernel_rfl) h)

def Vcf.balerref07_Reader_Put (P : Program) (r_p0 code_p1 : Value) (w : World) (R : Value → World → Prop) : Prop   :=
 New r_p0 159 w fun r_1 w1 =>
 New (zeroP P 161) 161 w1 fun x_2 w2 =>
 Fo 4 r_1 fun x_3 =>
 Ld x_3 w2 fun x_4 =>
 Vif x_4 (
 LdA 5 r_1 w2 fun x_5 =>
 Bd P 161 #[(0, x_5), (3, (.int .i64 7))] w2 fun x_6 =>
 StA 8 x_2 x_6 w2 fun w3 =>
 LdA 8 x_2 w3 fun x_7 =>
 R x_7 w3) (
 VJoin 1 (fun _ x_8 w4 =>
 Vif x_8 (
 LdA 5 r_1 w4 fun x_9 =>
 Bd P 161 #[(0, x_9), (3, (.int .i64 25))] w4 fun x_10 =>
 StA 8 x_2 x_10 w4 fun w5 =>
 LdA 8 x_2 w5 fun x_11 =>
 R x_11 w5) (
 LdA 5 r_1 w4 fun x_12 =>
 New (zeroP P 159) 159 w4 fun next_13 w6 =>
 StA 5 next_13 x_12 w6 fun w7 =>
 Bp .lss code_p1 (.int .i64 2) fun x_14 =>
 Vif x_14 (
 Fo 3 r_1 fun x_15 =>
 Ld x_15 w7 fun x_16 =>
 Ap P #[69, 69] 69 #[(.slice none 0 0), x_16] w7 fun x_17 w8 =>
 Bs P 69 1 #[(0, code_p1)] w8 fun x_18 w9 =>
 Ap P #[69, 69] 69 #[x_17, x_18] w9 fun x_19 w10 =>
 Fo 3 next_13 fun x_20 =>
 St x_20 x_19 w10 fun w11 =>
 Dr w11 fun w12 =>
 LdA 5 next_13 w12 fun x_21 =>
 Cl P F.balerref07_Reader_Count #[x_21] w12 fun x_23 w13 =>
 Fo 1 r_1 fun x_24 =>
 Ld x_24 w13 fun x_25 =>
 Rk (fun w K => Ld x_24 w fun x_26 => K x_26) x_25 w12 <|
 Bp .gtr x_23 x_25 fun x_28 =>
 Vif x_28 (
 LdA 5 r_1 w13 fun x_29 =>
 Bd P 161 #[(0, x_29), (3, (.int .i64 2))] w13 fun x_30 =>
 StA 8 x_2 x_30 w13 fun w14 =>
 LdA 8 x_2 w14 fun x_31 =>
 R x_31 w14) (
 LdA 5 next_13 w13 fun x_32 =>
 Bd P 161 #[(0, x_32), (2, (.int .i64 (-1)))] w13 fun x_33 =>
 StA 8 x_2 x_33 w13 fun w15 =>
 LdA 8 x_2 w15 fun x_34 =>
 R x_34 w15)) (
 Fo 3 r_1 fun x_35 =>
 Ld x_35 w7 fun x_36 =>
 Cl P F.balerref07_Value #[x_36] w7 fun x_37 w16 =>
 Fo 2 r_1 fun x_38 =>
 Ld x_38 w16 fun x_39 =>
 Bp .add x_39 x_37 fun x_40 =>
 Fo 2 next_13 fun x_41 =>
 St x_41 x_40 w16 fun w17 =>
 Fo 3 next_13 fun x_42 =>
 St x_42 (.slice none 0 0) w17 fun w18 =>
 Fo 0 r_1 fun x_43 =>
 Ld x_43 w18 fun x_44 =>
 Bp .add x_44 (.int .i64 1) fun x_45 =>
 Bp .eql code_p1 x_45 fun x_46 =>
 Vif x_46 (
 Fo 4 next_13 fun x_47 =>
 St x_47 (.bool true) w18 fun w19 =>
 LdA 5 next_13 w19 fun x_48 =>
 Bd P 161 #[(0, x_48), (1, x_37), (2, (.int .i64 (-1)))] w19 fun x_49 =>
 StA 8 x_2 x_49 w19 fun w20 =>
 LdA 8 x_2 w20 fun x_50 =>
 R x_50 w20) (
 Fo 2 next_13 fun x_51 =>
 Ld x_51 w18 fun x_52 =>
 Bp .add x_52 (.int .i64 1) fun x_53 =>
 Fo 2 next_13 fun x_54 =>
 St x_54 x_53 w18 fun w21 =>
 Fo 2 next_13 fun x_55 =>
 Ld x_55 w21 fun x_56 =>
 Fo 1 r_1 fun x_57 =>
 Ld x_57 w21 fun x_58 =>
 Bp .gtr x_56 x_58 fun x_59 =>
 Vif x_59 (
 LdA 5 r_1 w21 fun x_60 =>
 Bd P 161 #[(0, x_60), (3, (.int .i64 2))] w21 fun x_61 =>
 StA 8 x_2 x_61 w21 fun w22 =>
 LdA 8 x_2 w22 fun x_62 =>
 R x_62 w22) (
 LdA 5 next_13 w21 fun x_63 =>
 Bp .sub code_p1 (.int .i64 1) fun x_64 =>
 Bd P 161 #[(0, x_63), (1, x_37), (2, x_64)] w21 fun x_65 =>
 StA 8 x_2 x_65 w21 fun w23 =>
 LdA 8 x_2 w23 fun x_66 =>
 R x_66 w23)))))
 (fun J67 =>
 Bp .lss code_p1 (.int .i64 0) fun x_68 =>
 Vif x_68 (
 KE [code_p1, r_1, x_2] [code_p1, r_1, x_2] <| J67 (.bool true) w2) (
 Fo 0 r_1 fun x_69 =>
 Ld x_69 w2 fun x_70 =>
 Bp .add x_70 (.int .i64 1) fun x_71 =>
 Bp .gtr code_p1 x_71 fun x_72 =>
 KE [code_p1, r_1, x_2] [code_p1, r_1, x_2] <| J67 x_72 w2)))
theorem Tie.balerref07_Reader_Put {r_p0 code_p1 : Value} {w : World} {R : Value → World → Prop} (h : Vcf.balerref07_Reader_Put Tryz.prog r_p0 code_p1 w R) : Cl Tryz.prog F.balerref07_Reader_Put #[r_p0, code_p1] w R :=
  cl_of_vc (n := 79) (rs := [(.cell 4 161)]) (h := (.s .z (.s (.s .z (.i (.s .z .z) .z)) (.s (.j [20] [1, 2, 4] .z (.i (.s .z .z) .z)) (.s .z (.s (.s .z (.i (.s .z (.s .z (.s .z (.s .z (.s (.s (.r (.staged [0, 1, 0, 4, 15])) (.i (.s .z .z) .z)) (.s .z .z)))))) .z)) (.s .z (.s .z (.s .z (.s (.s .z (.i (.s .z (.s .z .z)) .z)) (.s .z (.s (.s .z (.i (.s .z .z) .z)) (.s .z .z))))))))))))) (args := [r_p0, code_p1]) (by kernel_rfl) Tryz.func103 rfl (by kernel_rfl) rfl rfl rfl (Eq.mp (by kernel_rfl) h)

def Vcf.unbwt_New (P : Program) (last_p0 origin_p1 : Value) (w : World) (R : Value → World → Prop) : Prop   :=
 Bp .eql last_p0 (.string ⟨#[]⟩) fun x_1 =>
 Vif x_1 (
 R (.tuple #[(.pointer none), (.int .i64 1)]) w) (
 Lns last_p0 fun x_2 =>
 Bp .gtr x_2 (.int .i64 900000) fun x_3 =>
 Vif x_3 (
 R (.tuple #[(.pointer none), (.int .i64 2)]) w) (
 VJoin 1 (fun _ x_4 w1 =>
 Vif x_4 (
 R (.tuple #[(.pointer none), (.int .i64 23)]) w1) (
 Lns last_p0 fun x_5 =>
 Ms P 69 x_5 x_5 w1 fun x_6 w2 =>
 Bd P 215 #[(0, last_p0), (2, x_6), (3, origin_p1)] w2 fun x_7 =>
 New x_7 215 w2 fun x_8 w3 =>
 R (.tuple #[x_8, (.int .i64 0)]) w3))
 (fun J9 =>
 Bp .lss origin_p1 (.int .i64 0) fun x_10 =>
 Vif x_10 (
 KE [last_p0, origin_p1] [last_p0, origin_p1] <| J9 (.bool true) w) (
 Lns last_p0 fun x_11 =>
 Bp .geq origin_p1 x_11 fun x_12 =>
 KE [last_p0, origin_p1] [last_p0, origin_p1] <| J9 x_12 w))))
theorem Tie.unbwt_New {last_p0 origin_p1 : Value} {w : World} {R : Value → World → Prop} (h : Vcf.unbwt_New Tryz.prog last_p0 origin_p1 w R) : Cl Tryz.prog F.unbwt_New #[last_p0, origin_p1] w R :=
  cl_of_vc (n := 29) (rs := [(.tmp 4), (.tmp 5)]) (h := (.s .z (.s (.b (.s .z (.i (.s .z .z) (.s .z (.i (.s .z .z) (.j [13] [0, 1] .z (.i (.s .z .z) .z))))))) (.s .z .z)))) (args := [last_p0, origin_p1]) (by kernel_rfl) Tryz.func106 rfl (by kernel_rfl) rfl rfl rfl (Eq.mp (by kernel_rfl) h)

def Vcf.unbwt_Inverter_Step (P : Program) (v_p0 budget_p1 : Value) (w : World) (R : Value → World → Prop) : Prop   :=
 Bn P 215 false v_p0 (.pointer none) fun x_1 =>
 Vif x_1 (
 R (.int .i64 0) w) (
 Nc v_p0 <|
 Fo 260 v_p0 fun x_2 =>
 Ld x_2 w fun x_3 =>
 VLoop 0 [] w fun _ next4 w1 =>
 VJoin 1 (fun _ x_5 w2 =>
 Vif x_5 (
 Cl P F.unbwt_Inverter_step #[v_p0] w2 fun x_6 w3 =>
 KE [v_p0, budget_p1, x_3] [v_p0, budget_p1, x_3] <| next4 w3) (
 Nc v_p0 <|
 Fo 260 v_p0 fun x_7 =>
 Ld x_7 w2 fun x_8 =>
 Bp .sub x_8 x_3 fun x_9 =>
 R x_9 w2))
 (fun J10 =>
 Cl P F.unbwt_Inverter_Done #[v_p0] w1 fun x_11 w4 =>
 Up .not x_11 fun x_12 =>
 Vif x_12 (
 Nc v_p0 <|
 Fo 260 v_p0 fun x_13 =>
 Ld x_13 w4 fun x_14 =>
 Bp .sub x_14 x_3 fun x_15 =>
 Bp .lss x_15 budget_p1 fun x_16 =>
 KE [v_p0, budget_p1, x_3] [v_p0, budget_p1, x_3] <| J10 x_16 w4) (
 KE [v_p0, budget_p1, x_3] [v_p0, budget_p1, x_3] <| J10 (.bool false) w4)))
theorem Tie.unbwt_Inverter_Step {v_p0 budget_p1 : Value} {w : World} {R : Value → World → Prop} (h : Vcf.unbwt_Inverter_Step Tryz.prog v_p0 budget_p1 w R) : Cl Tryz.prog F.unbwt_Inverter_Step #[v_p0, budget_p1] w R :=
  cl_of_vc (n := 33) (rs := [(.tmp 4)]) (h := (.s .z (.s (.s .z (.i (.s .z .z) .z)) (.s .z (.s (.b (.l [] [0, 1, 5] (.s (.j [24] [0, 1, 5] .z (.i .z .z)) (.b .z)))) (.s .z .z)))))) (args := [v_p0, budget_p1]) (by kernel_rfl) Tryz.func107 rfl (by kernel_rfl) rfl rfl rfl (Eq.mp (by kernel_rfl) h)

def Vcf.unbwt_Inverter_Take (P : Program) (v_p0 : Value) (w : World) (R : Value → World → Prop) : Prop   :=
 Bn P 215 false v_p0 (.pointer none) fun x_1 =>
 Vif x_1 (
 R (.string ⟨#[]⟩) w) (
 Nc v_p0 <|
 Fo 259 v_p0 fun x_2 =>
 Ld x_2 w fun x_3 =>
 Cw P 63 9 x_3 w fun x_4 w1 =>
 Nc v_p0 <|
 Fo 259 v_p0 fun x_5 =>
 St x_5 (.slice none 0 0) w1 fun w2 =>
 R x_4 w2)
theorem Tie.unbwt_Inverter_Take {v_p0 : Value} {w : World} {R : Value → World → Prop} (h : Vcf.unbwt_Inverter_Take Tryz.prog v_p0 w R) : Cl Tryz.prog F.unbwt_Inverter_Take #[v_p0] w R :=
  cl_of_vc (n := 15) (rs := [(.tmp 2)]) (h := (.s .z (.s (.s .z (.i (.s .z .z) .z)) (.s .z (.s .z (.s .z .z)))))) (args := [v_p0]) (by kernel_rfl) Tryz.func108 rfl (by kernel_rfl) rfl rfl rfl (Eq.mp (by kernel_rfl) h)

def Vcf.block_Reader_begin (P : Program) (b_p0 r_p1 : Value) (w : World) (R : Value → World → Prop) : Prop   :=
 Cl P F.bits_Reader_Left #[r_p1] w fun x_1 w1 =>
 Bp .lss x_1 (.int .i64 57) fun x_2 =>
 Vif x_2 (
 R (.int .i64 3) w1) (
 Cl P F.bits_Reader_Get #[r_p1, (.int .i64 32)] w1 fun x_3 w2 =>
 Ex x_3 0 fun x_4 =>
 Ex x_3 1 fun x_5 =>
 Cl P F.bits_Reader_Get #[r_p1, (.int .i64 1)] w2 fun x_6 w3 =>
 Ex x_6 0 fun x_7 =>
 Ex x_6 1 fun x_8 =>
 Cl P F.bits_Reader_Get #[r_p1, (.int .i64 24)] w3 fun x_9 w4 =>
 Ex x_9 0 fun x_10 =>
 Ex x_9 1 fun x_11 =>
 Nc b_p0 <|
 Fo 2 b_p0 fun x_12 =>
 St x_12 (.bool true) w4 fun w5 =>
 Nc b_p0 <|
 Fo 3 b_p0 fun x_13 =>
 St x_13 x_4 w5 fun w6 =>
 Ci .i64 x_10 fun x_14 =>
 Nc b_p0 <|
 Fo 4 b_p0 fun x_15 =>
 St x_15 x_14 w6 fun w7 =>
 Bp .eql x_7 (.int .u32 1) fun x_16 =>
 Vif x_16 (
 R (.int .i64 25) w7) (
 R (.int .i64 0) w7))
theorem Tie.block_Reader_begin {b_p0 r_p1 : Value} {w : World} {R : Value → World → Prop} (h : Vcf.block_Reader_begin Tryz.prog b_p0 r_p1 w R) : Cl Tryz.prog F.block_Reader_begin #[b_p0, r_p1] w R :=
  cl_of_vc (n := 43) (rs := [(.tmp 4)]) (h := (.s .z (.s (.s .z (.i (.s .z .z) .z)) (.s .z (.s .z (.s .z (.s .z (.s .z (.s .z (.s (.s .z (.i (.s .z .z) .z)) (.s .z .z))))))))))) (args := [b_p0, r_p1]) (by kernel_rfl) Tryz.func116 rfl (by kernel_rfl) rfl rfl rfl (Eq.mp (by kernel_rfl) h)

def Vcf.block_Reader_symbols (P : Program) (b_p0 r_p1 : Value) (w : World) (R : Value → World → Prop) : Prop   :=
 Cl P F.used_Read #[r_p1] w fun x_1 w1 =>
 Ex x_1 0 fun x_2 =>
 Ex x_1 1 fun x_3 =>
 Bp .eql x_3 (.int .i64 0) fun x_4 =>
 Vif x_4 (
 Nc b_p0 <|
 Fo 1 b_p0 fun x_5 =>
 Ld x_5 w1 fun x_6 =>
 Cl P F.block_rowOf #[x_2, x_6] w1 fun x_7 w2 =>
 Nc b_p0 <|
 Fo 0 b_p0 fun x_8 =>
 St x_8 x_7 w2 fun w3 =>
 R x_3 w3) (
 R x_3 w1)
theorem Tie.block_Reader_symbols {b_p0 r_p1 : Value} {w : World} {R : Value → World → Prop} (h : Vcf.block_Reader_symbols Tryz.prog b_p0 r_p1 w R) : Cl Tryz.prog F.block_Reader_symbols #[b_p0, r_p1] w R :=
  cl_of_vc (n := 24) (rs := [(.tmp 4)]) (h := (.s .z (.s .z (.s (.s .z (.i .z .z)) (.s .z .z))))) (args := [b_p0, r_p1]) (by kernel_rfl) Tryz.func117 rfl (by kernel_rfl) rfl rfl rfl (Eq.mp (by kernel_rfl) h)

def Vcf.block_row_waits (P : Program) (x_p0 : Value) (w : World) (R : Value → World → Prop) : Prop   :=
 Bn P 113 true x_p0 (.pointer none) fun x_1 =>
 Vif x_1 (
 Nc x_p0 <|
 Fo 3 x_p0 fun x_2 =>
 Ld x_2 w fun x_3 =>
 Bp .gtr x_3 (.int .i64 0) fun x_4 =>
 Vif x_4 (
 R (.bool true) w) (
 Nc x_p0 <|
 Fo 4 x_p0 fun x_5 =>
 Ld x_5 w fun x_6 =>
 Bp .gtr x_6 (.int .i64 0) fun x_7 =>
 R x_7 w)) (
 R (.bool false) w)
theorem Tie.block_row_waits {x_p0 : Value} {w : World} {R : Value → World → Prop} (h : Vcf.block_row_waits Tryz.prog x_p0 w R) : Cl Tryz.prog F.block_row_waits #[x_p0] w R :=
  cl_of_vc (n := 19) (rs := [(.tmp 2)]) (h := (.s .z (.s .z .z))) (args := [x_p0]) (by kernel_rfl) Tryz.func118 rfl (by kernel_rfl) rfl rfl rfl (Eq.mp (by kernel_rfl) h)

def Vcf.block_row_next (P : Program) (x_p0 : Value) (w : World) (R : Value → World → Prop) : Prop   :=
 VJoin 1 (fun _ at_1 w1 =>
 Nc x_p0 <|
 Fo 2 x_p0 fun x_2 =>
 Ld x_2 w1 fun x_3 =>
 Cl P F.mtf_List_At #[x_3, at_1] w1 fun x_4 w2 =>
 Ex x_4 0 fun x_5 =>
 Ex x_4 1 fun x_6 =>
 R x_5 w2)
 (fun J7 =>
 Nc x_p0 <|
 Fo 3 x_p0 fun x_8 =>
 Ld x_8 w fun x_9 =>
 Bp .gtr x_9 (.int .i64 0) fun x_10 =>
 Vif x_10 (
 Nc x_p0 <|
 Fo 3 x_p0 fun x_11 =>
 Ld x_11 w fun x_12 =>
 Bp .sub x_12 (.int .i64 1) fun x_13 =>
 Nc x_p0 <|
 Fo 3 x_p0 fun x_14 =>
 St x_14 x_13 w fun w3 =>
 KE [x_p0] [x_p0] <| J7 (.int .i64 0) w3) (
 Nc x_p0 <|
 Fo 4 x_p0 fun x_15 =>
 Ld x_15 w fun x_16 =>
 Nc x_p0 <|
 Fo 4 x_p0 fun x_17 =>
 St x_17 (.int .i64 0) w fun w4 =>
 KE [x_p0] [x_p0] <| J7 x_16 w4))
theorem Tie.block_row_next {x_p0 : Value} {w : World} {R : Value → World → Prop} (h : Vcf.block_row_next Tryz.prog x_p0 w R) : Cl Tryz.prog F.block_row_next #[x_p0] w R :=
  cl_of_vc (n := 35) (rs := [(.tmp 2)]) (h := (.s .z (.s .z (.j [3] [0] (.s .z (.i .z (.s .z .z))) (.s .z (.s .z .z)))))) (args := [x_p0]) (by kernel_rfl) Tryz.func119 rfl (by kernel_rfl) rfl rfl rfl (Eq.mp (by kernel_rfl) h)

def Vcf.block_Reader_symbol (P : Program) (b_p0 r_p1 : Value) (w : World) (R : Value → World → Prop) : Prop   :=
 Nc b_p0 <|
 Fo 0 b_p0 fun x_1 =>
 Ld x_1 w fun x_2 =>
 Nc x_2 <|
 Fo 0 x_2 fun x_3 =>
 Ld x_3 w fun x_4 =>
 Cl P F.code_Reader_Step #[x_4, r_p1] w fun x_5 w1 =>
 Ex x_5 0 fun x_6 =>
 Ex x_5 1 fun x_7 =>
 VJoin 1 (fun _ x_8 w2 =>
 Vif x_8 (
 R x_7 w2) (
 Nc b_p0 <|
 Fo 0 b_p0 fun x_9 =>
 Ld x_9 w2 fun x_10 =>
 Cl P F.block_row_told #[x_10, x_6] w2 fun x_11 w3 =>
 R x_11 w3))
 (fun J12 =>
 Bp .neq x_7 (.int .i64 0) fun x_13 =>
 Vif x_13 (
 KE [b_p0, x_6, x_7] [b_p0, x_6, x_7] <| J12 (.bool true) w1) (
 Bp .lss x_6 (.int .i64 0) fun x_14 =>
 KE [b_p0, x_6, x_7] [b_p0, x_6, x_7] <| J12 x_14 w1))
theorem Tie.block_Reader_symbol {b_p0 r_p1 : Value} {w : World} {R : Value → World → Prop} (h : Vcf.block_Reader_symbol Tryz.prog b_p0 r_p1 w R) : Cl Tryz.prog F.block_Reader_symbol #[b_p0, r_p1] w R :=
  cl_of_vc (n := 32) (rs := [(.tmp 4)]) (h := (.s .z (.s .z (.s (.j [24] [0, 5, 6] .z (.i (.s .z .z) .z)) (.s .z .z))))) (args := [b_p0, r_p1]) (by kernel_rfl) Tryz.func120 rfl (by kernel_rfl) rfl rfl rfl (Eq.mp (by kernel_rfl) h)

def Vcf.block_Reader_end (P : Program) (b_p0 : Value) (w : World) (R : Value → World → Prop) : Prop   :=
 VJoin 1 (fun _ x_1 w1 =>
 Vif x_1 (
 R (.int .i64 0) w1) (
 Dr w1 fun w2 =>
 Nc b_p0 <|
 Fo 4 b_p0 fun x_2 =>
 Ld x_2 w2 fun x_3 =>
 Nc b_p0 <|
 Fo 5 b_p0 fun x_5 =>
 Ld x_5 w2 fun x_6 =>
 Lnl x_6 fun x_8 =>
 Bp .geq x_3 x_8 fun x_10 =>
 Vif x_10 (
 R (.int .i64 23) w2) (
 Nc b_p0 <|
 Fo 6 b_p0 fun x_11 =>
 St x_11 (.bool true) w2 fun w3 =>
 R (.int .i64 0) w3)))
 (fun J12 =>
 Nc b_p0 <|
 Fo 0 b_p0 fun x_13 =>
 Ld x_13 w fun x_14 =>
 Bn P 113 false x_14 (.pointer none) fun x_15 =>
 Vif x_15 (
 KE [b_p0] [b_p0] <| J12 (.bool true) w) (
 Nc b_p0 <|
 Fo 0 b_p0 fun x_16 =>
 Ld x_16 w fun x_17 =>
 Nc x_17 <|
 Fo 0 x_17 fun x_18 =>
 Ld x_18 w fun x_19 =>
 Cl P F.code_Reader_Done #[x_19] w fun x_20 w4 =>
 Up .not x_20 fun x_21 =>
 Vif x_21 (
 KE [b_p0] [b_p0] <| J12 (.bool true) w4) (
 Nc b_p0 <|
 Fo 0 b_p0 fun x_22 =>
 Ld x_22 w4 fun x_23 =>
 Cl P F.block_row_waits #[x_23] w4 fun x_24 w5 =>
 KE [b_p0] [b_p0] <| J12 x_24 w5)))
theorem Tie.block_Reader_end {b_p0 : Value} {w : World} {R : Value → World → Prop} (h : Vcf.block_Reader_end Tryz.prog b_p0 w R) : Cl Tryz.prog F.block_Reader_end #[b_p0] w R :=
  cl_of_vc (n := 41) (rs := [(.tmp 2)]) (h := (.s .z (.s (.b (.j [3] [0] .z (.i (.s .z .z) (.s (.r (.staged [0, 1, 3, 7, 0, 16, 48, 112, 240, 511, 1023])) (.i (.s .z .z) .z))))) (.s .z (.s .z .z))))) (args := [b_p0]) (by kernel_rfl) Tryz.func121 rfl (by kernel_rfl) rfl rfl rfl (Eq.mp (by kernel_rfl) h)

def Vcf.picks_Reader_Picks (P : Program) (p_p0 : Value) (w : World) (R : Value → World → Prop) : Prop   :=
 Bn P 230 false p_p0 (.pointer none) fun x_1 =>
 Vif x_1 (
 R (.slice none 0 0) w) (
 Nc p_p0 <|
 Fo 8 p_p0 fun x_2 =>
 Ld x_2 w fun x_3 =>
 Cl P F.slices_Clone_int_int #[x_3] w fun x_4 w1 =>
 R x_4 w1)
theorem Tie.picks_Reader_Picks {p_p0 : Value} {w : World} {R : Value → World → Prop} (h : Vcf.picks_Reader_Picks Tryz.prog p_p0 w R) : Cl Tryz.prog F.picks_Reader_Picks #[p_p0] w R :=
  cl_of_vc (n := 10) (rs := [(.tmp 2)]) (h := (.s .z (.s (.s .z (.i (.s .z .z) .z)) (.s .z .z)))) (args := [p_p0]) (by kernel_rfl) Tryz.func122 rfl (by kernel_rfl) rfl rfl rfl (Eq.mp (by kernel_rfl) h)

def Vcf.mtf_List_touch (P : Program) (l_p0 i_p1 : Value) (w : World) (R : Value → World → Prop) : Prop   :=
 Nc l_p0 <|
 Fo 0 l_p0 fun x_1 =>
 Ld x_1 w fun x_2 =>
 Ias 1 x_2 i_p1 fun x_3 =>
 Ld x_3 w fun x_4 =>
 Dr w fun w1 =>
 Nc l_p0 <|
 Fo 0 l_p0 fun x_5 =>
 Ld x_5 w1 fun x_6 =>
 Bp .add i_p1 (.int .i64 1) fun x_8 =>
 Ssl 1 x_6 (some (.int .i64 1)) (some x_8) fun x_9 =>
 Nc l_p0 <|
 Fo 0 l_p0 fun x_11 =>
 Ld x_11 w1 fun x_12 =>
 Ssl 1 x_12 none (some i_p1) fun x_14 =>
 Cp P #[63, 63] 3 #[x_9, x_14] w1 fun x_16 w2 =>
 Nc l_p0 <|
 Fo 0 l_p0 fun x_17 =>
 Ld x_17 w2 fun x_18 =>
 Ias 1 x_18 (.int .i64 0) fun x_19 =>
 St x_19 x_4 w2 fun w3 =>
 R x_4 w3
theorem Tie.mtf_List_touch {l_p0 i_p1 : Value} {w : World} {R : Value → World → Prop} (h : Vcf.mtf_List_touch Tryz.prog l_p0 i_p1 w R) : Cl Tryz.prog F.mtf_List_touch #[l_p0, i_p1] w R :=
  cl_of_vc (n := 34) (rs := [(.tmp 4)]) (h := (.s .z (.s .z (.s (.r (.staged [0, 1, 3, 7, 0, 16, 63, 0, 128, 384, 896, 0, 3968, 8191])) (.s .z (.s .z .z)))))) (args := [l_p0, i_p1]) (by kernel_rfl) Tryz.func129 rfl (by kernel_rfl) rfl rfl rfl (Eq.mp (by kernel_rfl) h)

def Vcf.slices_Index_int_int (P : Program) (s_p0 v_p1 : Value) (w : World) (R : Value → World → Prop) : Prop   :=
 Lnl s_p0 fun x_1 =>
 VLoop 1 [(.int .i64 0)] w fun _ next3 x_2 w1 =>
 Bp .lss x_2 x_1 fun x_4 =>
 Vif x_4 (
 Ias 1 s_p0 x_2 fun x_5 =>
 Ld x_5 w1 fun x_6 =>
 Bp .eql v_p1 x_6 fun x_7 =>
 Vif x_7 (
 R x_2 w1) (
 Bp .add x_2 (.int .i64 1) fun x_8 =>
 KE [s_p0, v_p1, x_1] [s_p0, v_p1, x_1] <| next3 x_8 w1)) (
 R (.int .i64 (-1)) w1)
theorem Tie.slices_Index_int_int {s_p0 v_p1 : Value} {w : World} {R : Value → World → Prop} (h : Vcf.slices_Index_int_int Tryz.prog s_p0 v_p1 w R) : Cl Tryz.prog F.slices_Index_int_int #[s_p0, v_p1] w R :=
  cl_of_vc (n := 19) (rs := [(.tmp 4)]) (h := (.s .z (.s (.s .z (.b (.l [8] [0, 1, 7] (.s .z (.s (.i .z .z) (.s (.b (.s .z (.s .z (.i (.s .z .z) .z)))) .z)))))) (.s .z .z)))) (args := [s_p0, v_p1]) (by kernel_rfl) Tryz.func130 rfl (by kernel_rfl) rfl rfl rfl (Eq.mp (by kernel_rfl) h)

def Vcf.canon_whole (P : Program) (l_p0 : Value) (w : World) (R : Value → World → Prop) : Prop   :=
 Cl P F.lens_Share #[l_p0] w fun x_1 w1 =>
 Ex x_1 0 fun x_2 =>
 Ex x_1 1 fun x_3 =>
 Bp .eql x_3 (.int .i64 0) fun x_4 =>
 Vif x_4 (
 Bp .eql x_2 (.int .i64 1048576) fun x_5 =>
 Vif x_5 (
 Cl P F.slices_Contains_int_int #[l_p0, (.int .i64 0)] w1 fun x_6 w2 =>
 Up .not x_6 fun x_7 =>
 R x_7 w2) (
 R (.bool false) w1)) (
 R (.bool false) w1)
theorem Tie.canon_whole {l_p0 : Value} {w : World} {R : Value → World → Prop} (h : Vcf.canon_whole Tryz.prog l_p0 w R) : Cl Tryz.prog F.canon_whole #[l_p0] w R :=
  cl_of_vc (n := 21) (rs := [(.tmp 2)]) (h := (.s .z (.s .z (.s .z .z)))) (args := [l_p0]) (by kernel_rfl) Tryz.func141 rfl (by kernel_rfl) rfl rfl rfl (Eq.mp (by kernel_rfl) h)

def Vcf.slices_Clone_int_int (P : Program) (s_p0 : Value) (w : World) (R : Value → World → Prop) : Prop   :=
 Be P .eql 69 (.tmp 3) (.const (.slice none 0 0)) s_p0 (.slice none 0 0) w fun x_1 =>
 Vif x_1 (
 R (.slice none 0 0) w) (
 Bs P 69 0 #[] w fun x_2 w1 =>
 Ap P #[69, 69] 69 #[x_2, s_p0] w1 fun x_3 w2 =>
 R x_3 w2)
theorem Tie.slices_Clone_int_int {s_p0 : Value} {w : World} {R : Value → World → Prop} (h : Vcf.slices_Clone_int_int Tryz.prog s_p0 w R) : Cl Tryz.prog F.slices_Clone_int_int #[s_p0] w R :=
  cl_of_vc (n := 8) (rs := [(.tmp 2)]) (h := (.s .z (.s (.s .z (.i (.s .z .z) .z)) (.s .z .z)))) (args := [s_p0]) (by kernel_rfl) Tryz.func142 rfl (by kernel_rfl) rfl rfl rfl (Eq.mp (by kernel_rfl) h)

def Vcf.balerref10_next (P : Program) (code_p0 n_p1 : Value) (w : World) (R : Value → World → Prop) : Prop   :=
 Lns code_p0 fun x_1 =>
 Bp .sub x_1 (.int .i64 1) fun x_2 =>
 VLoop 3 [(.string ⟨#[]⟩), (.bool true), x_2] w fun _ next6 out_3 carry_4 i_5 w1 =>
 Bp .geq i_5 (.int .i64 0) fun x_7 =>
 Vif x_7 (
 Ixs code_p0 i_5 fun x_8 =>
 Bp .eql x_8 (.int .u8 49) fun x_9 =>
 VJoin 1 (fun _ out_10 w2 =>
 Vif carry_4 (
 Bp .sub i_5 (.int .i64 1) fun x_11 =>
 KE [code_p0, n_p1] [code_p0, n_p1] <| next6 out_10 x_9 x_11 w2) (
 Bp .sub i_5 (.int .i64 1) fun x_12 =>
 KE [code_p0, n_p1] [code_p0, n_p1] <| next6 out_10 (.bool false) x_12 w2))
 (fun J13 =>
 Bb true x_9 carry_4 fun x_14 =>
 Vif x_14 (
 Bp .add (.string ⟨#[49]⟩) out_3 fun x_15 =>
 KE [code_p0, n_p1, carry_4, i_5, x_9] [code_p0, n_p1, carry_4, i_5, x_9] <| J13 x_15 w1) (
 Bp .add (.string ⟨#[48]⟩) out_3 fun x_16 =>
 KE [code_p0, n_p1, carry_4, i_5, x_9] [code_p0, n_p1, carry_4, i_5, x_9] <| J13 x_16 w1))) (
 VLoop 1 [out_3] w1 fun _ next18 out_17 w3 =>
 Lns out_17 fun x_19 =>
 Bp .lss x_19 n_p1 fun x_20 =>
 Vif x_20 (
 Bp .add out_17 (.string ⟨#[48]⟩) fun x_21 =>
 KE [n_p1] [n_p1] <| next18 x_21 w3) (
 R out_17 w3))
theorem Tie.balerref10_next {code_p0 n_p1 : Value} {w : World} {R : Value → World → Prop} (h : Vcf.balerref10_next Tryz.prog code_p0 n_p1 w R) : Cl Tryz.prog F.balerref10_next #[code_p0, n_p1] w R :=
  cl_of_vc (n := 38) (rs := [(.tmp 4)]) (h := (.s .z (.s .z (.s .z (.s (.s .z (.b (.l [5, 6, 7] [0, 1] (.s (.s .z (.i .z .z)) (.s (.b (.s .z (.j [5] [0, 1, 6, 7, 8] (.s .z (.i .z .z)) .z))) .z))))) (.s (.b (.l [5] [1] (.s (.s .z (.i .z .z)) (.b .z)))) (.s .z .z))))))) (args := [code_p0, n_p1]) (by kernel_rfl) Tryz.func149 rfl (by kernel_rfl) rfl rfl rfl (Eq.mp (by kernel_rfl) h)

def Vcf.balerref13_ones (P : Program) (s_p0 : Value) (w : World) (R : Value → World → Prop) : Prop   :=
 VLoop 1 [(.int .i64 0)] w fun _ next2 n_1 w1 =>
 VJoin 1 (fun _ x_3 w2 =>
 Vif x_3 (
 Bp .add n_1 (.int .i64 1) fun x_4 =>
 KE [s_p0] [s_p0] <| next2 x_4 w2) (
 R n_1 w2))
 (fun J5 =>
 Lns s_p0 fun x_6 =>
 Bp .lss n_1 x_6 fun x_7 =>
 Vif x_7 (
 Ixs s_p0 n_1 fun x_8 =>
 Bp .eql x_8 (.int .u8 49) fun x_9 =>
 KE [s_p0, n_1] [s_p0, n_1] <| J5 x_9 w1) (
 KE [s_p0, n_1] [s_p0, n_1] <| J5 (.bool false) w1))
theorem Tie.balerref13_ones {s_p0 : Value} {w : World} {R : Value → World → Prop} (h : Vcf.balerref13_ones Tryz.prog s_p0 w R) : Cl Tryz.prog F.balerref13_ones #[s_p0] w R :=
  cl_of_vc (n := 17) (rs := [(.tmp 2)]) (h := (.s .z (.s .z (.s (.b (.l [3] [0] (.s (.j [13] [0, 3] .z (.i .z .z)) (.b .z)))) (.s .z .z))))) (args := [s_p0]) (by kernel_rfl) Tryz.func150 rfl (by kernel_rfl) rfl rfl rfl (Eq.mp (by kernel_rfl) h)

def Vcf.balerref11_Read (P : Program) (all_p0 size_p1 : Value) (w : World) (R : Value → World → Prop) : Prop   :=
 New (zeroP P 210) 210 w fun x_1 w1 =>
 Lns all_p0 fun x_2 =>
 Bp .lss x_2 (.int .i64 5) fun x_3 =>
 Vif x_3 (
 Bd P 210 #[(2, (.int .i64 3))] w1 fun x_4 =>
 StA 3 x_1 x_4 w1 fun w2 =>
 LdA 3 x_1 w2 fun x_5 =>
 R x_5 w2) (
 Sst all_p0 none (some (.int .i64 5)) fun x_6 =>
 Cl P F.balerref01_Number #[x_6] w1 fun x_7 w3 =>
 Ci .i64 x_7 fun x_8 =>
 VJoin 1 (fun _ x_9 w4 =>
 Vif x_9 (
 Bd P 210 #[(2, (.int .i64 22))] w4 fun x_10 =>
 StA 3 x_1 x_10 w4 fun w5 =>
 LdA 3 x_1 w5 fun x_11 =>
 R x_11 w5) (
 VLoop 3 [x_8, (.slice none 0 0), (.int .i64 5)] w4 fun _ next15 now_12 l_13 at_14 w6 =>
 Lnl l_13 fun x_16 =>
 Bp .lss x_16 size_p1 fun x_17 =>
 Vif x_17 (
 Lns all_p0 fun x_18 =>
 Bp .eql at_14 x_18 fun x_19 =>
 Vif x_19 (
 Bd P 210 #[(2, (.int .i64 3))] w6 fun x_20 =>
 StA 3 x_1 x_20 w6 fun w7 =>
 LdA 3 x_1 w7 fun x_21 =>
 R x_21 w7) (
 Ixs all_p0 at_14 fun x_22 =>
 Bp .eql x_22 (.int .u8 48) fun x_23 =>
 Vif x_23 (
 Bs P 69 1 #[(0, now_12)] w6 fun x_24 w8 =>
 Ap P #[69, 69] 69 #[l_13, x_24] w8 fun x_25 w9 =>
 Bp .add at_14 (.int .i64 1) fun x_26 =>
 KE [all_p0, size_p1, x_1] [all_p0, size_p1, x_1] <| next15 now_12 x_25 x_26 w9) (
 Bp .add at_14 (.int .i64 1) fun x_27 =>
 Lns all_p0 fun x_28 =>
 Bp .eql x_27 x_28 fun x_29 =>
 Vif x_29 (
 Bd P 210 #[(2, (.int .i64 3))] w6 fun x_30 =>
 StA 3 x_1 x_30 w6 fun w10 =>
 LdA 3 x_1 w10 fun x_31 =>
 R x_31 w10) (
 VJoin 1 (fun _ now_32 w11 =>
 VJoin 1 (fun _ x_33 w12 =>
 Vif x_33 (
 Bd P 210 #[(2, (.int .i64 22))] w12 fun x_34 =>
 StA 3 x_1 x_34 w12 fun w13 =>
 LdA 3 x_1 w13 fun x_35 =>
 R x_35 w13) (
 Bp .add at_14 (.int .i64 2) fun x_36 =>
 KE [all_p0, size_p1, x_1] [all_p0, size_p1, x_1] <| next15 now_32 l_13 x_36 w12))
 (fun J37 =>
 Bp .lss now_32 (.int .i64 1) fun x_38 =>
 Vif x_38 (
 KE [all_p0, size_p1, x_1, now_32, l_13, at_14] [all_p0, size_p1, x_1, now_32, l_13, at_14] <| J37 (.bool true) w11) (
 Bp .gtr now_32 (.int .i64 20) fun x_39 =>
 KE [all_p0, size_p1, x_1, now_32, l_13, at_14] [all_p0, size_p1, x_1, now_32, l_13, at_14] <| J37 x_39 w11)))
 (fun J40 =>
 Bp .add at_14 (.int .i64 1) fun x_41 =>
 Ixs all_p0 x_41 fun x_42 =>
 Bp .eql x_42 (.int .u8 48) fun x_43 =>
 Vif x_43 (
 Bp .add now_12 (.int .i64 1) fun x_44 =>
 KE [all_p0, size_p1, x_1, l_13, at_14] [all_p0, size_p1, x_1, l_13, at_14] <| J40 x_44 w6) (
 Bp .sub now_12 (.int .i64 1) fun x_45 =>
 KE [all_p0, size_p1, x_1, l_13, at_14] [all_p0, size_p1, x_1, l_13, at_14] <| J40 x_45 w6)))))) (
 Bd P 210 #[(0, l_13), (1, at_14)] w6 fun x_46 =>
 StA 3 x_1 x_46 w6 fun w14 =>
 LdA 3 x_1 w14 fun x_47 =>
 R x_47 w14)))
 (fun J48 =>
 Bp .lss x_8 (.int .i64 1) fun x_49 =>
 Vif x_49 (
 KE [all_p0, size_p1, x_1, x_8] [all_p0, size_p1, x_1, x_8] <| J48 (.bool true) w3) (
 Bp .gtr x_8 (.int .i64 20) fun x_50 =>
 KE [all_p0, size_p1, x_1, x_8] [all_p0, size_p1, x_1, x_8] <| J48 x_50 w3)))
theorem Tie.balerref11_Read {all_p0 size_p1 : Value} {w : World} {R : Value → World → Prop} (h : Vcf.balerref11_Read Tryz.prog all_p0 size_p1 w R) : Cl Tryz.prog F.balerref11_Read #[all_p0, size_p1] w R :=
  cl_of_vc (n := 69) (rs := [(.cell 4 210)]) (h := (.s .z (.s (.s .z (.i (.s .z .z) .z)) (.s .z (.s (.j [21] [0, 1, 4, 5] .z (.i (.s .z .z) .z)) (.s .z (.s .z (.s (.b (.l [5, 6, 7] [0, 1, 4] (.s (.s .z (.i .z .z)) (.b (.s (.s .z (.i (.s .z .z) .z)) (.s (.s .z (.i (.s .z (.s .z .z)) .z)) (.s (.s .z (.i (.s .z .z) .z)) (.j [5] [0, 1, 4, 6, 7] (.s .z (.i .z .z)) (.s (.j [62] [0, 1, 4, 5, 6, 7] .z (.i (.s .z .z) .z)) .z))))))))) (.s .z .z))))))))) (args := [all_p0, size_p1]) (by kernel_rfl) Tryz.func151 rfl (by kernel_rfl) rfl rfl rfl (Eq.mp (by kernel_rfl) h)

def Vcf.balerref10_Whole (P : Program) (l_p0 : Value) (w : World) (R : Value → World → Prop) : Prop   :=
 Cl P F.balerref09_May #[l_p0, (.int .i64 1), (.int .i64 20)] w fun x_1 w1 =>
 Vif x_1 (
 Cl P F.balerref09_Share #[l_p0] w1 fun x_2 w2 =>
 Bp .eql x_2 (.int .i64 1048576) fun x_3 =>
 R x_3 w2) (
 R (.bool false) w1)
theorem Tie.balerref10_Whole {l_p0 : Value} {w : World} {R : Value → World → Prop} (h : Vcf.balerref10_Whole Tryz.prog l_p0 w R) : Cl Tryz.prog F.balerref10_Whole #[l_p0] w R :=
  cl_of_vc (n := 10) (rs := [(.tmp 2)]) (h := (.s .z (.s .z .z))) (args := [l_p0]) (by kernel_rfl) Tryz.func152 rfl (by kernel_rfl) rfl rfl rfl (Eq.mp (by kernel_rfl) h)

def Vcf.balerref10_Begins (P : Program) (s_p0 t_p1 : Value) (w : World) (R : Value → World → Prop) : Prop   :=
 Lns s_p0 fun x_1 =>
 Lns t_p1 fun x_2 =>
 Bp .geq x_1 x_2 fun x_3 =>
 Vif x_3 (
 Lns t_p1 fun x_4 =>
 Sst s_p0 none (some x_4) fun x_5 =>
 Bp .eql x_5 t_p1 fun x_6 =>
 R x_6 w) (
 R (.bool false) w)
theorem Tie.balerref10_Begins {s_p0 t_p1 : Value} {w : World} {R : Value → World → Prop} (h : Vcf.balerref10_Begins Tryz.prog s_p0 t_p1 w R) : Cl Tryz.prog F.balerref10_Begins #[s_p0, t_p1] w R :=
  cl_of_vc (n := 18) (rs := [(.tmp 4)]) (h := (.s .z (.s .z .z))) (args := [s_p0, t_p1]) (by kernel_rfl) Tryz.func153 rfl (by kernel_rfl) rfl rfl rfl (Eq.mp (by kernel_rfl) h)

def Vcf.balerref07_Reader_Count (P : Program) (r_p0 : Value) (w : World) (R : Value → World → Prop) : Prop   :=
 New r_p0 159 w fun r_1 w1 =>
 Dr w1 fun w2 =>
 Fo 2 r_1 fun x_2 =>
 Ld x_2 w2 fun x_3 =>
 Fo 3 r_1 fun x_5 =>
 Ld x_5 w2 fun x_6 =>
 Cl P F.balerref07_Value #[x_6] w2 fun x_8 w3 =>
 Rk (fun w K => Ld x_2 w fun x_4 => K x_4) x_3 w3 <|
 Bp .add x_3 x_8 fun x_9 =>
 R x_9 w3
theorem Tie.balerref07_Reader_Count {r_p0 : Value} {w : World} {R : Value → World → Prop} (h : Vcf.balerref07_Reader_Count Tryz.prog r_p0 w R) : Cl Tryz.prog F.balerref07_Reader_Count #[r_p0] w R :=
  cl_of_vc (n := 9) (rs := [(.tmp 2)]) (h := (.s .z (.s (.r (.staged [0, 1, 0, 4, 12, 31, 63])) .z))) (args := [r_p0]) (by kernel_rfl) Tryz.func154 rfl (by kernel_rfl) rfl rfl rfl (Eq.mp (by kernel_rfl) h)

def Vcf.balerref07_Value (P : Program) (l_p0 : Value) (w : World) (R : Value → World → Prop) : Prop   :=
 Lnl l_p0 fun x_1 =>
 VLoop 3 [(.int .i64 0), (.int .i64 1), (.int .i64 0)] w fun _ next5 m_2 w_3 x_4 w1 =>
 Bp .lss x_4 x_1 fun x_6 =>
 Vif x_6 (
 Ias 1 l_p0 x_4 fun x_7 =>
 Ld x_7 w1 fun x_8 =>
 Bp .gtr w_3 (.int .i64 2199023255552) fun x_9 =>
 Vif x_9 (
 R (.int .i64 2199023255552) w1) (
 Bp .add m_2 w_3 fun x_10 =>
 Bp .mul x_8 w_3 fun x_11 =>
 Bp .add x_10 x_11 fun x_12 =>
 Bp .mul (.int .i64 2) w_3 fun x_13 =>
 Bp .add x_4 (.int .i64 1) fun x_14 =>
 KE [l_p0, x_1] [l_p0, x_1] <| next5 x_12 x_13 x_14 w1)) (
 R m_2 w1)
theorem Tie.balerref07_Value {l_p0 : Value} {w : World} {R : Value → World → Prop} (h : Vcf.balerref07_Value Tryz.prog l_p0 w R) : Cl Tryz.prog F.balerref07_Value #[l_p0] w R :=
  cl_of_vc (n := 26) (rs := [(.tmp 2)]) (h := (.s .z (.s .z (.s .z (.s (.s .z (.b (.l [3, 4, 9] [7, 8] (.s .z (.s (.i .z .z) (.s (.b (.s .z (.s (.s .z (.i (.s .z .z) .z)) (.s .z .z)))) .z)))))) (.s .z .z)))))) (args := [l_p0]) (by kernel_rfl) Tryz.func155 rfl (by kernel_rfl) rfl rfl rfl (Eq.mp (by kernel_rfl) h)

def Vcf.unbwt_Inverter_Done (P : Program) (v_p0 : Value) (w : World) (R : Value → World → Prop) : Prop   :=
 Dr w fun w1 =>
 Bn P 215 true v_p0 (.pointer none) fun x_1 =>
 Vif x_1 (
 Nc v_p0 <|
 Fo 260 v_p0 fun x_2 =>
 Ld x_2 w1 fun x_3 =>
 Nc v_p0 <|
 Fo 0 v_p0 fun x_5 =>
 Ld x_5 w1 fun x_6 =>
 Lns x_6 fun x_8 =>
 Bp .mul (.int .i64 3) x_8 fun x_10 =>
 Bp .eql x_3 x_10 fun x_11 =>
 R x_11 w1) (
 R (.bool false) w1)
theorem Tie.unbwt_Inverter_Done {v_p0 : Value} {w : World} {R : Value → World → Prop} (h : Vcf.unbwt_Inverter_Done Tryz.prog v_p0 w R) : Cl Tryz.prog F.unbwt_Inverter_Done #[v_p0] w R :=
  cl_of_vc (n := 18) (rs := [(.tmp 2)]) (h := (.s .z (.s (.r (.staged [0, 1, 3, 7, 15, 31, 63, 7, 135, 391, 903, 1927, 3975, 8191, 16383, 32767])) .z))) (args := [v_p0]) (by kernel_rfl) Tryz.func156 rfl (by kernel_rfl) rfl rfl rfl (Eq.mp (by kernel_rfl) h)

def Vcf.unbwt_Inverter_step (P : Program) (v_p0 : Value) (w : World) (R : Value → World → Prop) : Prop   :=
 Nc v_p0 <|
 Fo 0 v_p0 fun x_1 =>
 Ld x_1 w fun x_2 =>
 Lns x_2 fun x_3 =>
 Nc v_p0 <|
 Fo 260 v_p0 fun x_4 =>
 Ld x_4 w fun x_5 =>
 Bp .rem x_5 x_3 fun x_6 =>
 VJoin 0 (fun _ w1 =>
 Nc v_p0 <|
 Fo 260 v_p0 fun x_7 =>
 Ld x_7 w1 fun x_8 =>
 Bp .add x_8 (.int .i64 1) fun x_9 =>
 Nc v_p0 <|
 Fo 260 v_p0 fun x_10 =>
 St x_10 x_9 w1 fun w2 =>
 R (.tuple #[]) w2)
 (fun J11 =>
 Nc v_p0 <|
 Fo 260 v_p0 fun x_12 =>
 Ld x_12 w fun x_13 =>
 Bp .quo x_13 x_3 fun x_14 =>
 Bp .eql x_14 (.int .i64 0) fun x_15 =>
 Vif x_15 (
 Dr w fun w3 =>
 Nc v_p0 <|
 Fo 0 v_p0 fun x_16 =>
 Ld x_16 w3 fun x_17 =>
 Ixs x_17 x_6 fun x_19 =>
 Nc v_p0 <|
 Fo 1 v_p0 fun x_20 =>
 Iaa 256 1 x_20 x_19 fun x_21 =>
 Ld x_21 w3 fun x_22 =>
 Bp .add x_22 (.int .i64 1) fun x_24 =>
 Nc v_p0 <|
 Fo 1 v_p0 fun x_25 =>
 Iaa 256 1 x_25 x_19 fun x_26 =>
 St x_26 x_24 w3 fun w4 =>
 Bp .sub x_3 (.int .i64 1) fun x_27 =>
 Bp .eql x_6 x_27 fun x_28 =>
 Vif x_28 (
 Cl P F.unbwt_Inverter_begins #[v_p0] w4 fun x_29 w5 =>
 KE [v_p0] [v_p0] <| J11 w5) (
 KE [v_p0] [v_p0] <| J11 w4)) (
 Bp .eql x_14 (.int .i64 1) fun x_30 =>
 Vif x_30 (
 Nc v_p0 <|
 Fo 0 v_p0 fun x_31 =>
 Ld x_31 w fun x_32 =>
 Ixs x_32 x_6 fun x_33 =>
 Dr w fun w6 =>
 Nc v_p0 <|
 Fo 257 v_p0 fun x_34 =>
 Ld x_34 w6 fun x_35 =>
 Nc v_p0 <|
 Fo 1 v_p0 fun x_37 =>
 Iaa 256 1 x_37 x_33 fun x_38 =>
 Ld x_38 w6 fun x_39 =>
 Ias 1 x_35 x_39 fun x_41 =>
 St x_41 x_6 w6 fun w7 =>
 Dr w7 fun w8 =>
 Nc v_p0 <|
 Fo 1 v_p0 fun x_42 =>
 Iaa 256 1 x_42 x_33 fun x_43 =>
 Ld x_43 w8 fun x_44 =>
 Bp .add x_44 (.int .i64 1) fun x_46 =>
 Nc v_p0 <|
 Fo 1 v_p0 fun x_47 =>
 Iaa 256 1 x_47 x_33 fun x_48 =>
 St x_48 x_46 w8 fun w9 =>
 KE [v_p0] [v_p0] <| J11 w9) (
 Dr w fun w10 =>
 Nc v_p0 <|
 Fo 257 v_p0 fun x_49 =>
 Ld x_49 w10 fun x_50 =>
 Nc v_p0 <|
 Fo 258 v_p0 fun x_52 =>
 Ld x_52 w10 fun x_53 =>
 Ias 1 x_50 x_53 fun x_55 =>
 Ld x_55 w10 fun x_56 =>
 Nc v_p0 <|
 Fo 258 v_p0 fun x_58 =>
 St x_58 x_56 w10 fun w11 =>
 Dr w11 fun w12 =>
 Nc v_p0 <|
 Fo 259 v_p0 fun x_59 =>
 Ld x_59 w12 fun x_60 =>
 Nc v_p0 <|
 Fo 0 v_p0 fun x_62 =>
 Ld x_62 w12 fun x_63 =>
 Nc v_p0 <|
 Fo 258 v_p0 fun x_65 =>
 Ld x_65 w12 fun x_66 =>
 Ixs x_63 x_66 fun x_68 =>
 Bs P 63 1 #[(0, x_68)] w12 fun x_69 w13 =>
 Rk (fun w K => Ld x_59 w fun x_61 => K x_61) x_60 w13 <|
 Ap P #[63, 63] 63 #[x_60, x_69] w13 fun x_70 w14 =>
 Nc v_p0 <|
 Fo 259 v_p0 fun x_71 =>
 St x_71 x_70 w14 fun w15 =>
 KE [v_p0] [v_p0] <| J11 w15)))
theorem Tie.unbwt_Inverter_step {v_p0 : Value} {w : World} {R : Value → World → Prop} (h : Vcf.unbwt_Inverter_step Tryz.prog v_p0 w R) : Cl Tryz.prog F.unbwt_Inverter_step #[v_p0] w R :=
  cl_of_vc (n := 113) (rs := []) (h := (.s .z (.s .z (.j [] [0] (.s .z (.b (.s .z (.i (.s (.r (.staged [0, 0, 2, 6, 14, 0, 62, 1, 129, 511, 1023, 2047, 1, 4097, 16383, 32767])) (.s .z (.i .z .z))) (.s .z (.i (.s .z (.s (.r (.staged [0, 1, 3, 7, 0, 0, 16, 80, 240, 496, 0, 2047, 4095])) (.r (.staged [0, 0, 1, 5, 15, 31, 63, 1, 129, 511, 1023])))) (.s (.r (.staged [0, 0, 2, 6, 14, 0, 32, 96, 224, 510, 1022, 2047, 4095, 8191])) (.r (.staged [0, 0, 2, 6, 14, 0, 32, 96, 224, 0, 512, 1536, 3584, 8160, 16352, 32766, 65535, 131071, 262143]))))))))) .z)))) (args := [v_p0]) (by kernel_rfl) Tryz.func157 rfl (by kernel_rfl) rfl rfl rfl (Eq.mp (by kernel_rfl) h)

def Vcf.crc_Table (P : Program) (w : World) (R : Value → World → Prop) : Prop   :=
 New (zeroP P 216) 216 w fun x_1 w1 =>
 New (zeroP P 216) 216 w1 fun out_2 w2 =>
 VLoop 1 [(.int .i64 0)] w2 fun _ next4 x_3 w3 =>
 Bp .lss x_3 (.int .i64 256) fun x_5 =>
 Vif x_5 (
 Ci .u32 x_3 fun x_6 =>
 Bp .shl x_6 (.int .u64 24) fun x_7 =>
 VLoop 2 [x_7, (.int .i64 0)] w3 fun _ next10 sum_8 x_9 w4 =>
 Bp .lss x_9 (.int .i64 8) fun x_11 =>
 Vif x_11 (
 Bp .shr sum_8 (.int .u64 31) fun x_12 =>
 Bp .shl sum_8 (.int .u64 1) fun x_13 =>
 Bp .mul x_12 (.int .u32 79764919) fun x_14 =>
 Bp .xor x_13 x_14 fun x_15 =>
 Bp .add x_9 (.int .i64 1) fun x_16 =>
 KE [x_1, out_2, x_3, x_3] [x_1, out_2, x_3, x_3] <| next10 x_15 x_16 w4) (
 Iaa 256 1 out_2 x_3 fun x_17 =>
 St x_17 sum_8 w4 fun w5 =>
 Bp .add x_3 (.int .i64 1) fun x_18 =>
 KE [x_1, out_2] [x_1, out_2] <| next4 x_18 w5)) (
 LdA 256 out_2 w3 fun x_19 =>
 StA 256 x_1 x_19 w3 fun w6 =>
 LdA 256 x_1 w6 fun x_20 =>
 R x_20 w6)
theorem Tie.crc_Table {w : World} {R : Value → World → Prop} (h : Vcf.crc_Table Tryz.prog w R) : Cl Tryz.prog F.crc_Table #[] w R :=
  cl_of_vc (n := 26) (rs := [(.cell 0 216)]) (h := (.s .z (.s .z (.s (.s .z (.b (.l [5] [0, 1] (.s .z (.s (.i .z .z) (.s (.b (.s .z (.s .z (.s (.s .z (.b (.l [3, 11] [0, 1, 2, 5] (.s .z (.s (.i .z .z) (.s (.b (.s .z .z)) .z)))))) .z)))) .z)))))) (.s .z .z))))) (args := []) (by kernel_rfl) Tryz.func158 rfl (by kernel_rfl) rfl rfl rfl (Eq.mp (by kernel_rfl) h)

def Vcf.bits_Reader_Left (P : Program) (r_p0 : Value) (w : World) (R : Value → World → Prop) : Prop   :=
 Bn P 84 false r_p0 (.pointer none) fun x_1 =>
 Vif x_1 (
 R (.int .i64 0) w) (
 Dr w fun w1 =>
 Cl P F.bits_Reader_end #[r_p0] w1 fun x_2 w2 =>
 Nc r_p0 <|
 Fo 2 r_p0 fun x_3 =>
 Ld x_3 w2 fun x_4 =>
 Rk (fun w K => Ld x_3 w fun x_5 => K x_5) x_4 w1 <|
 Bp .sub x_2 x_4 fun x_7 =>
 R x_7 w2)
theorem Tie.bits_Reader_Left {r_p0 : Value} {w : World} {R : Value → World → Prop} (h : Vcf.bits_Reader_Left Tryz.prog r_p0 w R) : Cl Tryz.prog F.bits_Reader_Left #[r_p0] w R :=
  cl_of_vc (n := 12) (rs := [(.tmp 2)]) (h := (.s .z (.s (.s .z (.i (.s .z .z) .z)) (.s (.r (.staged [0, 1, 0, 4, 12, 28, 63, 127])) .z)))) (args := [r_p0]) (by kernel_rfl) Tryz.func160 rfl (by kernel_rfl) rfl rfl rfl (Eq.mp (by kernel_rfl) h)

def Vcf.bits_Reader_Get (P : Program) (r_p0 n_p1 : Value) (w : World) (R : Value → World → Prop) : Prop   :=
 Bn P 84 false r_p0 (.pointer none) fun x_1 =>
 Vif x_1 (
 R (.tuple #[(.int .u32 0), (.int .i64 7)]) w) (
 VJoin 1 (fun _ x_2 w1 =>
 Vif x_2 (
 R (.tuple #[(.int .u32 0), (.int .i64 1)]) w1) (
 Cl P F.bits_Reader_Left #[r_p0] w1 fun x_3 w2 =>
 Bp .lss x_3 n_p1 fun x_4 =>
 Vif x_4 (
 R (.tuple #[(.int .u32 0), (.int .i64 3)]) w2) (
 VLoop 2 [(.int .u32 0), (.int .i64 0)] w2 fun _ next7 v_5 x_6 w3 =>
 Bp .lss x_6 n_p1 fun x_8 =>
 Vif x_8 (
 Bp .shl v_5 (.int .u64 1) fun x_9 =>
 Nc r_p0 <|
 Fo 2 r_p0 fun x_10 =>
 Ld x_10 w3 fun x_11 =>
 Cl P F.bits_Reader_bit #[r_p0, x_11] w3 fun x_12 w4 =>
 Bp .or x_9 x_12 fun x_13 =>
 Nc r_p0 <|
 Fo 2 r_p0 fun x_14 =>
 Ld x_14 w4 fun x_15 =>
 Bp .add x_15 (.int .i64 1) fun x_16 =>
 Nc r_p0 <|
 Fo 2 r_p0 fun x_17 =>
 St x_17 x_16 w4 fun w5 =>
 Bp .add x_6 (.int .i64 1) fun x_18 =>
 KE [r_p0, n_p1] [r_p0, n_p1] <| next7 x_13 x_18 w5) (
 R (.tuple #[v_5, (.int .i64 0)]) w3))))
 (fun J19 =>
 Bp .lss n_p1 (.int .i64 0) fun x_20 =>
 Vif x_20 (
 KE [r_p0, n_p1] [r_p0, n_p1] <| J19 (.bool true) w) (
 Bp .gtr n_p1 (.int .i64 32) fun x_21 =>
 KE [r_p0, n_p1] [r_p0, n_p1] <| J19 x_21 w)))
theorem Tie.bits_Reader_Get {r_p0 n_p1 : Value} {w : World} {R : Value → World → Prop} (h : Vcf.bits_Reader_Get Tryz.prog r_p0 n_p1 w R) : Cl Tryz.prog F.bits_Reader_Get #[r_p0, n_p1] w R :=
  cl_of_vc (n := 43) (rs := [(.tmp 4), (.tmp 5)]) (h := (.s .z (.s (.b (.s .z (.i (.s .z .z) (.j [10] [0, 1] .z (.i (.s .z .z) (.s .z (.i (.s .z .z) .z))))))) (.s .z (.s (.s .z (.b (.l [6, 23] [0, 22] (.s .z (.s (.i .z .z) (.s (.b (.s .z .z)) .z)))))) (.s .z .z)))))) (args := [r_p0, n_p1]) (by kernel_rfl) Tryz.func161 rfl (by kernel_rfl) rfl rfl rfl (Eq.mp (by kernel_rfl) h)

def Vcf.used_Read (P : Program) (r_p0 : Value) (w : World) (R : Value → World → Prop) : Prop   :=
 Cl P F.bits_Reader_At #[r_p0] w fun x_1 w1 =>
 Cl P F.used_read #[r_p0] w1 fun x_2 w2 =>
 Ex x_2 0 fun x_3 =>
 Ex x_2 1 fun x_4 =>
 Bp .neq x_4 (.int .i64 0) fun x_5 =>
 Vif x_5 (
 Cl P F.bits_Reader_Seek #[r_p0, x_1] w2 fun x_6 w3 =>
 R (.tuple #[x_3, x_4]) w3) (
 R (.tuple #[x_3, x_4]) w2)
theorem Tie.used_Read {r_p0 : Value} {w : World} {R : Value → World → Prop} (h : Vcf.used_Read Tryz.prog r_p0 w R) : Cl Tryz.prog F.used_Read #[r_p0] w R :=
  cl_of_vc (n := 21) (rs := [(.tmp 2), (.tmp 3)]) (h := (.s .z (.s .z (.s .z (.s (.s .z (.i .z .z)) (.s .z .z)))))) (args := [r_p0]) (by kernel_rfl) Tryz.func162 rfl (by kernel_rfl) rfl rfl rfl (Eq.mp (by kernel_rfl) h)

def Vcf.block_rowOf (P : Program) (symbols_p0 room_p1 : Value) (w : World) (R : Value → World → Prop) : Prop   :=
 Lns symbols_p0 fun x_1 =>
 Bp .add x_1 (.int .i64 2) fun x_2 =>
 Cl P F.code_NewReader #[x_2] w fun x_3 w1 =>
 Ex x_3 0 fun x_4 =>
 Ex x_3 1 fun x_5 =>
 Lns symbols_p0 fun x_6 =>
 Cl P F.zeros_NewReader #[x_6, room_p1] w1 fun x_7 w2 =>
 Ex x_7 0 fun x_8 =>
 Ex x_7 1 fun x_9 =>
 Cl P F.mtf_New #[symbols_p0] w2 fun x_10 w3 =>
 Ex x_10 0 fun x_11 =>
 Ex x_10 1 fun x_12 =>
 Bd P 113 #[(0, x_4), (1, x_8), (2, x_11)] w3 fun x_13 =>
 New x_13 113 w3 fun x_14 w4 =>
 R x_14 w4
theorem Tie.block_rowOf {symbols_p0 room_p1 : Value} {w : World} {R : Value → World → Prop} (h : Vcf.block_rowOf Tryz.prog symbols_p0 room_p1 w R) : Cl Tryz.prog F.block_rowOf #[symbols_p0, room_p1] w R :=
  cl_of_vc (n := 35) (rs := [(.tmp 4)]) (h := (.s .z (.s .z (.s .z (.s .z (.s .z .z)))))) (args := [symbols_p0, room_p1]) (by kernel_rfl) Tryz.func163 rfl (by kernel_rfl) rfl rfl rfl (Eq.mp (by kernel_rfl) h)

def Vcf.mtf_List_At (P : Program) (l_p0 i_p1 : Value) (w : World) (R : Value → World → Prop) : Prop   :=
 Bn P 187 false l_p0 (.pointer none) fun x_1 =>
 Vif x_1 (
 R (.tuple #[(.int .u8 0), (.int .i64 7)]) w) (
 VJoin 1 (fun _ x_2 w1 =>
 Vif x_2 (
 R (.tuple #[(.int .u8 0), (.int .i64 1)]) w1) (
 Cl P F.mtf_List_touch #[l_p0, i_p1] w1 fun x_3 w2 =>
 R (.tuple #[x_3, (.int .i64 0)]) w2))
 (fun J4 =>
 Bp .lss i_p1 (.int .i64 0) fun x_5 =>
 Vif x_5 (
 KE [l_p0, i_p1] [l_p0, i_p1] <| J4 (.bool true) w) (
 Nc l_p0 <|
 Fo 0 l_p0 fun x_6 =>
 Ld x_6 w fun x_7 =>
 Lnl x_7 fun x_8 =>
 Bp .geq i_p1 x_8 fun x_9 =>
 KE [l_p0, i_p1] [l_p0, i_p1] <| J4 x_9 w)))
theorem Tie.mtf_List_At {l_p0 i_p1 : Value} {w : World} {R : Value → World → Prop} (h : Vcf.mtf_List_At Tryz.prog l_p0 i_p1 w R) : Cl Tryz.prog F.mtf_List_At #[l_p0, i_p1] w R :=
  cl_of_vc (n := 24) (rs := [(.tmp 4), (.tmp 5)]) (h := (.s .z (.s (.b (.s .z (.i (.s .z .z) (.j [9] [0, 1] .z (.i (.s .z .z) .z))))) (.s .z .z)))) (args := [l_p0, i_p1]) (by kernel_rfl) Tryz.func164 rfl (by kernel_rfl) rfl rfl rfl (Eq.mp (by kernel_rfl) h)

def Vcf.code_Reader_Step (P : Program) (c_p0 r_p1 : Value) (w : World) (R : Value → World → Prop) : Prop   :=
 VJoin 1 (fun _ x_1 w1 =>
 Vif x_1 (
 R (.tuple #[(.int .i64 0), (.int .i64 7)]) w1) (
 Nc c_p0 <|
 Fo 7 c_p0 fun x_2 =>
 Ld x_2 w1 fun x_3 =>
 Bp .neq x_3 (.int .i64 0) fun x_4 =>
 Vif x_4 (
 Dr w1 fun w2 =>
 Nc c_p0 <|
 Fo 7 c_p0 fun x_5 =>
 Ld x_5 w2 fun x_6 =>
 R (.tuple #[(.int .i64 0), x_6]) w2) (
 Mf P (.func 201) #[c_p0] #[] w1 fun x_8 =>
 VJoin 1 (fun _ step_9 w3 =>
 Inv P (do let d ← Deferred.ofValue step_9 #[r_p1]; invoke d.target d.args) w3 fun x_10 w4 =>
 Ex x_10 0 fun x_11 =>
 Ex x_10 1 fun x_12 =>
 Bp .eql x_12 (.int .i64 0) fun x_13 =>
 Vif x_13 (
 R (.tuple #[x_11, x_12]) w4) (
 Bp .neq x_12 (.int .i64 3) fun x_14 =>
 Vif x_14 (
 Nc c_p0 <|
 Fo 7 c_p0 fun x_15 =>
 St x_15 x_12 w4 fun w5 =>
 R (.tuple #[(.int .i64 0), x_12]) w5) (
 R (.tuple #[(.int .i64 0), x_12]) w4)))
 (fun J16 =>
 Nc c_p0 <|
 Fo 1 c_p0 fun x_17 =>
 Ld x_17 w1 fun x_18 =>
 Cl P F.picks_Reader_Done #[x_18] w1 fun x_19 w6 =>
 Up .not x_19 fun x_20 =>
 Vif x_20 (
 Mf P (.func 203) #[c_p0] #[] w6 fun x_21 =>
 KE [c_p0, r_p1] [c_p0, r_p1] <| J16 x_21 w6) (
 Dr w6 fun w7 =>
 Nc c_p0 <|
 Fo 4 c_p0 fun x_22 =>
 Ld x_22 w7 fun x_23 =>
 Lnl x_23 fun x_25 =>
 Nc c_p0 <|
 Fo 1 c_p0 fun x_27 =>
 Ld x_27 w7 fun x_28 =>
 Cl P F.picks_Reader_Tables #[x_28] w7 fun x_30 w8 =>
 Rk (fun w K => Lnl x_23 fun x_26 => K x_26) x_25 w8 <|
 Rk (fun w K => Ld x_22 w fun x_24 => K x_24) x_23 w8 <|
 Bp .lss x_25 x_30 fun x_31 =>
 Vif x_31 (
 Mf P (.func 205) #[c_p0] #[] w8 fun x_32 =>
 KE [c_p0, r_p1] [c_p0, r_p1] <| J16 x_32 w8) (
 KE [c_p0, r_p1] [c_p0, r_p1] <| J16 x_8 w8))))))
 (fun J33 =>
 Bn P 179 false c_p0 (.pointer none) fun x_34 =>
 Vif x_34 (
 KE [c_p0, r_p1] [c_p0, r_p1] <| J33 (.bool true) w) (
 Bn P 84 false r_p1 (.pointer none) fun x_35 =>
 Vif x_35 (
 KE [c_p0, r_p1] [c_p0, r_p1] <| J33 (.bool true) w) (
 Nc c_p0 <|
 Fo 6 c_p0 fun x_36 =>
 Ld x_36 w fun x_37 =>
 KE [c_p0, r_p1] [c_p0, r_p1] <| J33 x_37 w)))
theorem Tie.code_Reader_Step {c_p0 r_p1 : Value} {w : World} {R : Value → World → Prop} (h : Vcf.code_Reader_Step Tryz.prog c_p0 r_p1 w R) : Cl Tryz.prog F.code_Reader_Step #[c_p0, r_p1] w R :=
  cl_of_vc (n := 74) (rs := [(.tmp 4), (.tmp 5)]) (h := (.s .z (.s (.b (.j [9] [0, 1] .z (.i (.s .z .z) (.s .z (.i (.s (.r (.staged [0, 1, 3, 7, 0, 31])) .z) .z))))) (.s .z (.j [6] [0, 1] (.b (.s .z (.i .z (.s (.r (.staged [0, 1, 3, 7, 15, 0, 32, 96, 224, 480, 1023, 2047])) (.i .z .z))))) (.s .z (.s (.s .z (.i (.s .z .z) .z)) (.s (.s .z (.i .z .z)) (.s .z .z))))))))) (args := [c_p0, r_p1]) (by kernel_rfl) Tryz.func165 rfl (by kernel_rfl) rfl rfl rfl (Eq.mp (by kernel_rfl) h)

def Vcf.block_row_told (P : Program) (x_p0 symbol_p1 : Value) (w : World) (R : Value → World → Prop) : Prop   :=
 Nc x_p0 <|
 Fo 1 x_p0 fun x_1 =>
 Ld x_1 w fun x_2 =>
 Cl P F.zeros_Reader_Put #[x_2, symbol_p1] w fun x_3 w1 =>
 Ex x_3 0 fun x_4 =>
 Ex x_3 1 fun x_5 =>
 Ex x_3 2 fun x_6 =>
 Bp .neq x_6 (.int .i64 0) fun x_7 =>
 Vif x_7 (
 R (.int .i64 25) w1) (
 Nc x_p0 <|
 Fo 3 x_p0 fun x_8 =>
 St x_8 x_4 w1 fun w2 =>
 Bmax P #[3, 3] 3 #[x_5, (.int .i64 0)] w2 fun x_9 =>
 Nc x_p0 <|
 Fo 4 x_p0 fun x_10 =>
 St x_10 x_9 w2 fun w3 =>
 R (.int .i64 0) w3)
theorem Tie.block_row_told {x_p0 symbol_p1 : Value} {w : World} {R : Value → World → Prop} (h : Vcf.block_row_told Tryz.prog x_p0 symbol_p1 w R) : Cl Tryz.prog F.block_row_told #[x_p0, symbol_p1] w R :=
  cl_of_vc (n := 29) (rs := [(.tmp 4)]) (h := (.s .z (.s .z (.s (.s .z (.i (.s .z .z) .z)) (.s .z (.s .z (.s .z .z))))))) (args := [x_p0, symbol_p1]) (by kernel_rfl) Tryz.func166 rfl (by kernel_rfl) rfl rfl rfl (Eq.mp (by kernel_rfl) h)

def Vcf.code_Reader_Done (P : Program) (c_p0 : Value) (w : World) (R : Value → World → Prop) : Prop   :=
 Bn P 179 true c_p0 (.pointer none) fun x_1 =>
 Vif x_1 (
 Nc c_p0 <|
 Fo 6 c_p0 fun x_2 =>
 Ld x_2 w fun x_3 =>
 R x_3 w) (
 R (.bool false) w)
theorem Tie.code_Reader_Done {c_p0 : Value} {w : World} {R : Value → World → Prop} (h : Vcf.code_Reader_Done Tryz.prog c_p0 w R) : Cl Tryz.prog F.code_Reader_Done #[c_p0] w R :=
  cl_of_vc (n := 11) (rs := [(.tmp 2)]) (h := (.s .z (.s .z .z))) (args := [c_p0]) (by kernel_rfl) Tryz.func167 rfl (by kernel_rfl) rfl rfl rfl (Eq.mp (by kernel_rfl) h)

def Vcf.picks_tabled (P : Program) (t_p0 : Value) (w : World) (R : Value → World → Prop) : Prop   :=
 Bp .geq t_p0 (.int .i64 2) fun x_1 =>
 Vif x_1 (
 Bp .leq t_p0 (.int .i64 6) fun x_2 =>
 R x_2 w) (
 R (.bool false) w)
theorem Tie.picks_tabled {t_p0 : Value} {w : World} {R : Value → World → Prop} (h : Vcf.picks_tabled Tryz.prog t_p0 w R) : Cl Tryz.prog F.picks_tabled #[t_p0] w R :=
  cl_of_vc (n := 9) (rs := [(.tmp 2)]) (h := (.s .z (.s .z .z))) (args := [t_p0]) (by kernel_rfl) Tryz.func175 rfl (by kernel_rfl) rfl rfl rfl (Eq.mp (by kernel_rfl) h)

def Vcf.slices_ContainsFunc_int_int (P : Program) (s_p0 f_p1 : Value) (w : World) (R : Value → World → Prop) : Prop   :=
 Cl P F.slices_IndexFunc_int_int #[s_p0, f_p1] w fun x_1 w1 =>
 Bp .geq x_1 (.int .i64 0) fun x_2 =>
 R x_2 w1
theorem Tie.slices_ContainsFunc_int_int {s_p0 f_p1 : Value} {w : World} {R : Value → World → Prop} (h : Vcf.slices_ContainsFunc_int_int Tryz.prog s_p0 f_p1 w R) : Cl Tryz.prog F.slices_ContainsFunc_int_int #[s_p0, f_p1] w R :=
  cl_of_vc (n := 9) (rs := [(.tmp 4)]) (h := (.s .z (.s .z .z))) (args := [s_p0, f_p1]) (by kernel_rfl) Tryz.func176 rfl (by kernel_rfl) rfl rfl rfl (Eq.mp (by kernel_rfl) h)

def Vcf.picks_fresh (P : Program) (w : World) (R : Value → World → Prop) : Prop   :=
 New (zeroP P 228) 228 w fun x_1 w1 =>
 New (zeroP P 228) 228 w1 fun o_2 w2 =>
 VLoop 1 [(.int .i64 0)] w2 fun _ next4 x_3 w3 =>
 Bp .lss x_3 (.int .i64 6) fun x_5 =>
 Vif x_5 (
 Iaa 6 1 o_2 x_3 fun x_6 =>
 St x_6 x_3 w3 fun w4 =>
 Bp .add x_3 (.int .i64 1) fun x_7 =>
 KE [x_1, o_2] [x_1, o_2] <| next4 x_7 w4) (
 LdA 6 o_2 w3 fun x_8 =>
 StA 6 x_1 x_8 w3 fun w5 =>
 LdA 6 x_1 w5 fun x_9 =>
 R x_9 w5)
theorem Tie.picks_fresh {w : World} {R : Value → World → Prop} (h : Vcf.picks_fresh Tryz.prog w R) : Cl Tryz.prog F.picks_fresh #[] w R :=
  cl_of_vc (n := 11) (rs := [(.cell 0 228)]) (h := (.s .z (.s .z (.s (.s .z (.b (.l [3] [0, 1] (.s .z (.s (.i .z .z) (.s (.b (.s .z .z)) .z)))))) (.s .z .z))))) (args := []) (by kernel_rfl) Tryz.func178 rfl (by kernel_rfl) rfl rfl rfl (Eq.mp (by kernel_rfl) h)

def Vcf.delta_sized (P : Program) (n_p0 : Value) (w : World) (R : Value → World → Prop) : Prop   :=
 Bp .geq n_p0 (.int .i64 3) fun x_1 =>
 Vif x_1 (
 Bp .leq n_p0 (.int .i64 258) fun x_2 =>
 R x_2 w) (
 R (.bool false) w)
theorem Tie.delta_sized {n_p0 : Value} {w : World} {R : Value → World → Prop} (h : Vcf.delta_sized Tryz.prog n_p0 w R) : Cl Tryz.prog F.delta_sized #[n_p0] w R :=
  cl_of_vc (n := 9) (rs := [(.tmp 2)]) (h := (.s .z (.s .z .z))) (args := [n_p0]) (by kernel_rfl) Tryz.func180 rfl (by kernel_rfl) rfl rfl rfl (Eq.mp (by kernel_rfl) h)

def Vcf.delta_length (P : Program) (n_p0 : Value) (w : World) (R : Value → World → Prop) : Prop   :=
 Bp .geq n_p0 (.int .i64 1) fun x_1 =>
 Vif x_1 (
 Bp .leq n_p0 (.int .i64 20) fun x_2 =>
 R x_2 w) (
 R (.bool false) w)
theorem Tie.delta_length {n_p0 : Value} {w : World} {R : Value → World → Prop} (h : Vcf.delta_length Tryz.prog n_p0 w R) : Cl Tryz.prog F.delta_length #[n_p0] w R :=
  cl_of_vc (n := 9) (rs := [(.tmp 2)]) (h := (.s .z (.s .z .z))) (args := [n_p0]) (by kernel_rfl) Tryz.func182 rfl (by kernel_rfl) rfl rfl rfl (Eq.mp (by kernel_rfl) h)

def Vcf.lens_Share (P : Program) (lens_p0 : Value) (w : World) (R : Value → World → Prop) : Prop   :=
 VJoin 1 (fun _ x_1 w1 =>
 Vif x_1 (
 R (.tuple #[(.int .i64 0), (.int .i64 1)]) w1) (
 Lnl lens_p0 fun x_2 =>
 VLoop 2 [(.int .i64 0), (.int .i64 0)] w1 fun _ next5 n_3 x_4 w2 =>
 Bp .lss x_4 x_2 fun x_6 =>
 Vif x_6 (
 Ias 1 lens_p0 x_4 fun x_7 =>
 Ld x_7 w2 fun x_8 =>
 Bp .sub (.int .i64 20) x_8 fun x_9 =>
 Bp .shl (.int .i64 1) x_9 fun x_10 =>
 Bp .add n_3 x_10 fun x_11 =>
 Bp .add x_4 (.int .i64 1) fun x_12 =>
 KE [lens_p0, x_2] [lens_p0, x_2] <| next5 x_11 x_12 w2) (
 R (.tuple #[n_3, (.int .i64 0)]) w2)))
 (fun J13 =>
 Lnl lens_p0 fun x_14 =>
 Bp .gtr x_14 (.int .i64 258) fun x_15 =>
 Vif x_15 (
 KE [lens_p0] [lens_p0] <| J13 (.bool true) w) (
 Cl P F.lens_between #[lens_p0, (.int .i64 0), (.int .i64 20)] w fun x_16 w3 =>
 Up .not x_16 fun x_17 =>
 KE [lens_p0] [lens_p0] <| J13 x_17 w3))
theorem Tie.lens_Share {lens_p0 : Value} {w : World} {R : Value → World → Prop} (h : Vcf.lens_Share Tryz.prog lens_p0 w R) : Cl Tryz.prog F.lens_Share #[lens_p0] w R :=
  cl_of_vc (n := 28) (rs := [(.tmp 2), (.tmp 3)]) (h := (.s .z (.s (.j [14] [0] .z (.i (.s .z .z) .z)) (.s .z (.s (.s .z (.b (.l [4, 17] [15, 16] (.s .z (.s (.i .z .z) (.s (.b (.s .z .z)) .z)))))) (.s .z .z)))))) (args := [lens_p0]) (by kernel_rfl) Tryz.func186 rfl (by kernel_rfl) rfl rfl rfl (Eq.mp (by kernel_rfl) h)

def Vcf.slices_Contains_int_int (P : Program) (s_p0 v_p1 : Value) (w : World) (R : Value → World → Prop) : Prop   :=
 Cl P F.slices_Index_int_int #[s_p0, v_p1] w fun x_1 w1 =>
 Bp .geq x_1 (.int .i64 0) fun x_2 =>
 R x_2 w1
theorem Tie.slices_Contains_int_int {s_p0 v_p1 : Value} {w : World} {R : Value → World → Prop} (h : Vcf.slices_Contains_int_int Tryz.prog s_p0 v_p1 w R) : Cl Tryz.prog F.slices_Contains_int_int #[s_p0, v_p1] w R :=
  cl_of_vc (n := 9) (rs := [(.tmp 4)]) (h := (.s .z (.s .z .z))) (args := [s_p0, v_p1]) (by kernel_rfl) Tryz.func187 rfl (by kernel_rfl) rfl rfl rfl (Eq.mp (by kernel_rfl) h)

def Vcf.balerref09_May (P : Program) (l_p0 low_p1 high_p2 : Value) (w : World) (R : Value → World → Prop) : Prop   :=
 Lnl l_p0 fun x_1 =>
 VLoop 1 [(.int .i64 0)] w fun _ next3 x_2 w1 =>
 Bp .lss x_2 x_1 fun x_4 =>
 Vif x_4 (
 Ias 1 l_p0 x_2 fun x_5 =>
 Ld x_5 w1 fun x_6 =>
 VJoin 1 (fun _ x_7 w2 =>
 Vif x_7 (
 R (.bool false) w2) (
 Bp .add x_2 (.int .i64 1) fun x_8 =>
 KE [low_p1, high_p2, l_p0, x_1] [low_p1, high_p2, l_p0, x_1] <| next3 x_8 w2))
 (fun J9 =>
 Bp .lss x_6 low_p1 fun x_10 =>
 Vif x_10 (
 KE [low_p1, high_p2, l_p0, x_1, x_2] [low_p1, high_p2, l_p0, x_1, x_2] <| J9 (.bool true) w1) (
 Bp .gtr x_6 high_p2 fun x_11 =>
 KE [low_p1, high_p2, l_p0, x_1, x_2] [low_p1, high_p2, l_p0, x_1, x_2] <| J9 x_11 w1))) (
 R (.bool true) w1)
theorem Tie.balerref09_May {l_p0 low_p1 high_p2 : Value} {w : World} {R : Value → World → Prop} (h : Vcf.balerref09_May Tryz.prog l_p0 low_p1 high_p2 w R) : Cl Tryz.prog F.balerref09_May #[l_p0, low_p1, high_p2] w R :=
  cl_of_vc (n := 24) (rs := [(.tmp 6)]) (h := (.s .z (.s (.s .z (.b (.l [11] [1, 2, 9, 10] (.s .z (.s (.i .z .z) (.s (.b (.s .z (.j [22] [1, 2, 9, 10, 11] .z (.i (.s .z .z) .z)))) .z)))))) (.s .z .z)))) (args := [l_p0, low_p1, high_p2]) (by kernel_rfl) Tryz.func192 rfl (by kernel_rfl) rfl rfl rfl (Eq.mp (by kernel_rfl) h)

def Vcf.balerref09_Share (P : Program) (l_p0 : Value) (w : World) (R : Value → World → Prop) : Prop   :=
 Lnl l_p0 fun x_1 =>
 VLoop 2 [(.int .i64 0), (.int .i64 0)] w fun _ next4 n_2 x_3 w1 =>
 Bp .lss x_3 x_1 fun x_5 =>
 Vif x_5 (
 Ias 1 l_p0 x_3 fun x_6 =>
 Ld x_6 w1 fun x_7 =>
 Bp .sub (.int .i64 20) x_7 fun x_8 =>
 VLoop 2 [(.int .i64 1), (.int .i64 0)] w1 fun _ next11 p_9 x_10 w2 =>
 Bp .lss x_10 x_8 fun x_12 =>
 Vif x_12 (
 Bp .mul (.int .i64 2) p_9 fun x_13 =>
 Bp .add x_10 (.int .i64 1) fun x_14 =>
 KE [n_2, l_p0, x_1, x_3, x_8] [n_2, l_p0, x_1, x_3, x_8] <| next11 x_13 x_14 w2) (
 Bp .add n_2 p_9 fun x_15 =>
 Bp .add x_3 (.int .i64 1) fun x_16 =>
 KE [l_p0, x_1] [l_p0, x_1] <| next4 x_15 x_16 w2)) (
 R n_2 w1)
theorem Tie.balerref09_Share {l_p0 : Value} {w : World} {R : Value → World → Prop} (h : Vcf.balerref09_Share Tryz.prog l_p0 w R) : Cl Tryz.prog F.balerref09_Share #[l_p0] w R :=
  cl_of_vc (n := 25) (rs := [(.tmp 2)]) (h := (.s .z (.s .z (.s (.s .z (.b (.l [3, 9] [7, 8] (.s .z (.s (.i .z .z) (.s (.b (.s .z (.s .z (.s (.s .z (.b (.l [6, 15] [3, 7, 8, 9, 14] (.s .z (.s (.i .z .z) (.s (.b .z) .z)))))) .z)))) .z)))))) (.s .z .z))))) (args := [l_p0]) (by kernel_rfl) Tryz.func194 rfl (by kernel_rfl) rfl rfl rfl (Eq.mp (by kernel_rfl) h)

def Vcf.unbwt_Inverter_begins (P : Program) (v_p0 : Value) (w : World) (R : Value → World → Prop) : Prop   :=
 Nc v_p0 <|
 Fo 1 v_p0 fun x_1 =>
 LdA 256 x_1 w fun x_2 =>
 VLoop 2 [(.int .i64 0), (.int .i64 0)] w fun _ next5 from_3 x_4 w1 =>
 Bp .lss x_4 (.int .i64 256) fun x_6 =>
 Vif x_6 (
 Ixa 256 1 false x_2 x_4 fun x_7 =>
 Nc v_p0 <|
 Fo 1 v_p0 fun x_8 =>
 Iaa 256 1 x_8 x_4 fun x_9 =>
 St x_9 from_3 w1 fun w2 =>
 Bp .add from_3 x_7 fun x_10 =>
 Bp .add x_4 (.int .i64 1) fun x_11 =>
 KE [v_p0, x_2] [v_p0, x_2] <| next5 x_10 x_11 w2) (
 R (.tuple #[]) w1)
theorem Tie.unbwt_Inverter_begins {v_p0 : Value} {w : World} {R : Value → World → Prop} (h : Vcf.unbwt_Inverter_begins Tryz.prog v_p0 w R) : Cl Tryz.prog F.unbwt_Inverter_begins #[v_p0] w R :=
  cl_of_vc (n := 23) (rs := []) (h := (.s .z (.s .z (.b (.l [2, 9] [0, 8] (.s .z (.s (.i .z .z) (.s (.b (.s .z (.s .z .z))) .z)))))))) (args := [v_p0]) (by kernel_rfl) Tryz.func195 rfl (by kernel_rfl) rfl rfl rfl (Eq.mp (by kernel_rfl) h)

def Vcf.bits_Reader_bit (P : Program) (r_p0 at_p1 : Value) (w : World) (R : Value → World → Prop) : Prop   :=
 Dr w fun w1 =>
 Nc r_p0 <|
 Fo 0 r_p0 fun x_1 =>
 Ld x_1 w1 fun x_2 =>
 Bp .quo at_p1 (.int .i64 8) fun x_4 =>
 Nc r_p0 <|
 Fo 1 r_p0 fun x_5 =>
 Ld x_5 w1 fun x_6 =>
 Bp .sub x_4 x_6 fun x_8 =>
 Ixs x_2 x_8 fun x_9 =>
 Bp .rem at_p1 (.int .i64 8) fun x_10 =>
 Bp .sub (.int .i64 7) x_10 fun x_11 =>
 Bp .shr x_9 x_11 fun x_12 =>
 Bp .and x_12 (.int .u8 1) fun x_13 =>
 Ci .u32 x_13 fun x_14 =>
 R x_14 w1
theorem Tie.bits_Reader_bit {r_p0 at_p1 : Value} {w : World} {R : Value → World → Prop} (h : Vcf.bits_Reader_bit Tryz.prog r_p0 at_p1 w R) : Cl Tryz.prog F.bits_Reader_bit #[r_p0, at_p1] w R :=
  cl_of_vc (n := 25) (rs := [(.tmp 4)]) (h := (.s .z (.s (.r (.staged [0, 1, 3, 7, 0, 16, 0, 64, 192, 448, 1008, 2047, 4095])) (.s .z .z)))) (args := [r_p0, at_p1]) (by kernel_rfl) Tryz.func197 rfl (by kernel_rfl) rfl rfl rfl (Eq.mp (by kernel_rfl) h)

def Vcf.used_read (P : Program) (r_p0 : Value) (w : World) (R : Value → World → Prop) : Prop   :=
 Cl P F.bits_Reader_Get #[r_p0, (.int .i64 16)] w fun x_1 w1 =>
 Ex x_1 0 fun x_2 =>
 Ex x_1 1 fun x_3 =>
 Bp .neq x_3 (.int .i64 0) fun x_4 =>
 Vif x_4 (
 R (.tuple #[(.string ⟨#[]⟩), x_3]) w1) (
 New (zeroP P 119) 119 w1 fun there_5 w2 =>
 Cl P F.used_marks #[x_2] w2 fun x_6 w3 =>
 Lnl x_6 fun x_7 =>
 VLoop 1 [(.int .i64 0)] w3 fun _ next9 x_8 w4 =>
 Bp .lss x_8 x_7 fun x_10 =>
 Vif x_10 (
 Ias 1 x_6 x_8 fun x_11 =>
 Ld x_11 w4 fun x_12 =>
 Cl P F.bits_Reader_Get #[r_p0, (.int .i64 16)] w4 fun x_13 w5 =>
 Ex x_13 0 fun x_14 =>
 Ex x_13 1 fun x_15 =>
 Bp .neq x_15 (.int .i64 0) fun x_16 =>
 Vif x_16 (
 R (.tuple #[(.string ⟨#[]⟩), x_15]) w5) (
 Cl P F.used_marks #[x_14] w5 fun x_17 w6 =>
 Lnl x_17 fun x_18 =>
 VLoop 1 [(.int .i64 0)] w6 fun _ next20 x_19 w7 =>
 Bp .lss x_19 x_18 fun x_21 =>
 Vif x_21 (
 Ias 1 x_17 x_19 fun x_22 =>
 Ld x_22 w7 fun x_23 =>
 Bp .mul (.int .i64 16) x_12 fun x_24 =>
 Bp .add x_24 x_23 fun x_25 =>
 Iaa 256 1 there_5 x_25 fun x_26 =>
 St x_26 (.bool true) w7 fun w8 =>
 Bp .add x_19 (.int .i64 1) fun x_27 =>
 KE [r_p0, there_5, x_12, x_6, x_7, x_8, x_17, x_18] [r_p0, there_5, x_12, x_6, x_7, x_8, x_17, x_18] <| next20 x_27 w8) (
 Bp .add x_8 (.int .i64 1) fun x_28 =>
 KE [r_p0, there_5, x_6, x_7] [r_p0, there_5, x_6, x_7] <| next9 x_28 w7))) (
 LdA 256 there_5 w4 fun x_29 =>
 Cl P F.used_listed #[x_29] w4 fun x_30 w9 =>
 Bp .eql x_30 (.string ⟨#[]⟩) fun x_31 =>
 Vif x_31 (
 R (.tuple #[(.string ⟨#[]⟩), (.int .i64 25)]) w9) (
 R (.tuple #[x_30, (.int .i64 0)]) w9)))
theorem Tie.used_read {r_p0 : Value} {w : World} {R : Value → World → Prop} (h : Vcf.used_read Tryz.prog r_p0 w R) : Cl Tryz.prog F.used_read #[r_p0] w R :=
  cl_of_vc (n := 56) (rs := [(.tmp 2), (.tmp 3)]) (h := (.s .z (.s .z (.s (.s .z (.i (.s .z .z) .z)) (.s .z (.s (.s .z (.b (.l [25] [0, 6, 23, 24] (.s .z (.s (.i .z .z) (.s (.b (.s .z (.s .z (.s (.s .z (.i (.s .z .z) .z)) (.s .z (.b (.l [40] [0, 6, 8, 23, 24, 25, 38, 39] (.s .z (.s (.i .z .z) (.s (.b (.s .z .z)) .z)))))))))) .z)))))) (.s .z (.s (.s .z (.i (.s .z .z) .z)) (.s .z .z))))))))) (args := [r_p0]) (by kernel_rfl) Tryz.func198 rfl (by kernel_rfl) rfl rfl rfl (Eq.mp (by kernel_rfl) h)

def Vcf.code_NewReader (P : Program) (size_p0 : Value) (w : World) (R : Value → World → Prop) : Prop   :=
 Cl P F.delta_NewReader #[size_p0] w fun x_1 w1 =>
 Ex x_1 0 fun x_2 =>
 Ex x_1 1 fun x_3 =>
 Bp .neq x_3 (.int .i64 0) fun x_4 =>
 Vif x_4 (
 R (.tuple #[(.pointer none), x_3]) w1) (
 Cl P F.picks_NewReader #[] w1 fun x_5 w2 =>
 Bd P 179 #[(0, size_p0), (1, x_5), (3, x_2)] w2 fun x_6 =>
 New x_6 179 w2 fun x_7 w3 =>
 R (.tuple #[x_7, (.int .i64 0)]) w3)
theorem Tie.code_NewReader {size_p0 : Value} {w : World} {R : Value → World → Prop} (h : Vcf.code_NewReader Tryz.prog size_p0 w R) : Cl Tryz.prog F.code_NewReader #[size_p0] w R :=
  cl_of_vc (n := 19) (rs := [(.tmp 2), (.tmp 3)]) (h := (.s .z (.s .z (.s (.s .z (.i (.s .z .z) .z)) (.s .z .z))))) (args := [size_p0]) (by kernel_rfl) Tryz.func199 rfl (by kernel_rfl) rfl rfl rfl (Eq.mp (by kernel_rfl) h)

def Vcf.zeros_NewReader (P : Program) (n_p0 most_p1 : Value) (w : World) (R : Value → World → Prop) : Prop   :=
 VJoin 1 (fun _ x_1 w1 =>
 Vif x_1 (
 R (.tuple #[(.pointer none), (.int .i64 1)]) w1) (
 Bd P 269 #[(0, n_p0), (1, most_p1), (4, (.int .i64 1))] w1 fun x_2 =>
 New x_2 269 w1 fun x_3 w2 =>
 R (.tuple #[x_3, (.int .i64 0)]) w2))
 (fun J4 =>
 Cl P F.zeros_may #[n_p0] w fun x_5 w3 =>
 Up .not x_5 fun x_6 =>
 Vif x_6 (
 KE [n_p0, most_p1] [n_p0, most_p1] <| J4 (.bool true) w3) (
 Bp .lss most_p1 (.int .i64 0) fun x_7 =>
 Vif x_7 (
 KE [n_p0, most_p1] [n_p0, most_p1] <| J4 (.bool true) w3) (
 Bp .gtr most_p1 (.int .i64 1099511627776) fun x_8 =>
 KE [n_p0, most_p1] [n_p0, most_p1] <| J4 x_8 w3)))
theorem Tie.zeros_NewReader {n_p0 most_p1 : Value} {w : World} {R : Value → World → Prop} (h : Vcf.zeros_NewReader Tryz.prog n_p0 most_p1 w R) : Cl Tryz.prog F.zeros_NewReader #[n_p0, most_p1] w R :=
  cl_of_vc (n := 21) (rs := [(.tmp 4), (.tmp 5)]) (h := (.s .z (.s (.j [16] [0, 1] .z (.i (.s .z .z) .z)) (.s .z .z)))) (args := [n_p0, most_p1]) (by kernel_rfl) Tryz.func200 rfl (by kernel_rfl) rfl rfl rfl (Eq.mp (by kernel_rfl) h)

def Vcf.code_Reader_symbol (P : Program) (c_p0 r_p1 : Value) (w : World) (R : Value → World → Prop) : Prop   :=
 Nc c_p0 <|
 Fo 5 c_p0 fun x_1 =>
 Ld x_1 w fun x_2 =>
 Bp .quo x_2 (.int .i64 50) fun x_3 =>
 Nc c_p0 <|
 Fo 2 c_p0 fun x_4 =>
 Ld x_4 w fun x_5 =>
 Lnl x_5 fun x_6 =>
 Bp .geq x_3 x_6 fun x_7 =>
 Vif x_7 (
 R (.tuple #[(.int .i64 (-1)), (.int .i64 25)]) w) (
 Dr w fun w1 =>
 Nc c_p0 <|
 Fo 4 c_p0 fun x_8 =>
 Ld x_8 w1 fun x_9 =>
 Nc c_p0 <|
 Fo 2 c_p0 fun x_11 =>
 Ld x_11 w1 fun x_12 =>
 Ias 1 x_12 x_3 fun x_14 =>
 Ld x_14 w1 fun x_15 =>
 Ias 1 x_9 x_15 fun x_17 =>
 Ld x_17 w1 fun x_18 =>
 Cl P F.canon_Code_Get #[x_18, r_p1] w1 fun x_20 w2 =>
 Ex x_20 0 fun x_21 =>
 Ex x_20 1 fun x_22 =>
 Bp .neq x_22 (.int .i64 0) fun x_23 =>
 Vif x_23 (
 R (.tuple #[(.int .i64 (-1)), x_22]) w2) (
 Nc c_p0 <|
 Fo 5 c_p0 fun x_24 =>
 Ld x_24 w2 fun x_25 =>
 Bp .add x_25 (.int .i64 1) fun x_26 =>
 Nc c_p0 <|
 Fo 5 c_p0 fun x_27 =>
 St x_27 x_26 w2 fun w3 =>
 Nc c_p0 <|
 Fo 0 c_p0 fun x_28 =>
 Ld x_28 w3 fun x_29 =>
 Bp .sub x_29 (.int .i64 1) fun x_30 =>
 Bp .eql x_21 x_30 fun x_31 =>
 Nc c_p0 <|
 Fo 6 c_p0 fun x_32 =>
 St x_32 x_31 w3 fun w4 =>
 R (.tuple #[x_21, (.int .i64 0)]) w4))
theorem Tie.code_Reader_symbol {c_p0 r_p1 : Value} {w : World} {R : Value → World → Prop} (h : Vcf.code_Reader_symbol Tryz.prog c_p0 r_p1 w R) : Cl Tryz.prog F.code_Reader_symbol #[c_p0, r_p1] w R :=
  cl_of_vc (n := 60) (rs := [(.tmp 4), (.tmp 5)]) (h := (.s .z (.s .z (.s (.s .z (.i (.s .z .z) .z)) (.s (.r (.staged [0, 1, 3, 7, 0, 16, 48, 112, 0, 496, 1008, 2047, 4095, 0, 16383, 32767, 65535, 65535, 131071, 524287])) (.s (.s .z (.i (.s .z .z) .z)) (.s .z (.s .z (.s .z .z))))))))) (args := [c_p0, r_p1]) (by kernel_rfl) Tryz.func201 rfl (by kernel_rfl) rfl rfl rfl (Eq.mp (by kernel_rfl) h)

def Vcf.picks_Reader_Done (P : Program) (p_p0 : Value) (w : World) (R : Value → World → Prop) : Prop   :=
 Dr w fun w1 =>
 Bn P 230 true p_p0 (.pointer none) fun x_1 =>
 Vif x_1 (
 Nc p_p0 <|
 Fo 1 p_p0 fun x_2 =>
 Ld x_2 w1 fun x_3 =>
 Bp .gtr x_3 (.int .i64 0) fun x_5 =>
 Vif x_5 (
 Nc p_p0 <|
 Fo 8 p_p0 fun x_6 =>
 Ld x_6 w1 fun x_7 =>
 Lnl x_7 fun x_9 =>
 Nc p_p0 <|
 Fo 1 p_p0 fun x_11 =>
 Ld x_11 w1 fun x_12 =>
 Bp .eql x_9 x_12 fun x_14 =>
 R x_14 w1) (
 R (.bool false) w1)) (
 R (.bool false) w1)
theorem Tie.picks_Reader_Done {p_p0 : Value} {w : World} {R : Value → World → Prop} (h : Vcf.picks_Reader_Done Tryz.prog p_p0 w R) : Cl Tryz.prog F.picks_Reader_Done #[p_p0] w R :=
  cl_of_vc (n := 24) (rs := [(.tmp 2)]) (h := (.s .z (.s (.r (.staged [0, 1, 3, 7, 15, 31, 63, 127, 255, 511, 1023, 2047, 4095, 8191, 16383, 1023, 33791, 99327, 230399, 524287, 1048575, 2097151])) .z))) (args := [p_p0]) (by kernel_rfl) Tryz.func202 rfl (by kernel_rfl) rfl rfl rfl (Eq.mp (by kernel_rfl) h)

def Vcf.code_Reader_pick (P : Program) (c_p0 r_p1 : Value) (w : World) (R : Value → World → Prop) : Prop   :=
 Nc c_p0 <|
 Fo 1 c_p0 fun x_1 =>
 Ld x_1 w fun x_2 =>
 Cl P F.picks_Reader_Step #[x_2, r_p1] w fun x_3 w1 =>
 Nc c_p0 <|
 Fo 1 c_p0 fun x_4 =>
 Ld x_4 w1 fun x_5 =>
 Cl P F.picks_Reader_Done #[x_5] w1 fun x_6 w2 =>
 Vif x_6 (
 Nc c_p0 <|
 Fo 1 c_p0 fun x_7 =>
 Ld x_7 w2 fun x_8 =>
 Cl P F.picks_Reader_Picks #[x_8] w2 fun x_9 w3 =>
 Nc c_p0 <|
 Fo 2 c_p0 fun x_10 =>
 St x_10 x_9 w3 fun w4 =>
 R (.tuple #[(.int .i64 (-1)), x_3]) w4) (
 R (.tuple #[(.int .i64 (-1)), x_3]) w2)
theorem Tie.code_Reader_pick {c_p0 r_p1 : Value} {w : World} {R : Value → World → Prop} (h : Vcf.code_Reader_pick Tryz.prog c_p0 r_p1 w R) : Cl Tryz.prog F.code_Reader_pick #[c_p0, r_p1] w R :=
  cl_of_vc (n := 27) (rs := [(.tmp 4), (.tmp 5)]) (h := (.s .z (.s .z (.s (.s .z (.i .z .z)) (.s .z .z))))) (args := [c_p0, r_p1]) (by kernel_rfl) Tryz.func203 rfl (by kernel_rfl) rfl rfl rfl (Eq.mp (by kernel_rfl) h)

def Vcf.picks_Reader_Tables (P : Program) (p_p0 : Value) (w : World) (R : Value → World → Prop) : Prop   :=
 Bn P 230 false p_p0 (.pointer none) fun x_1 =>
 Vif x_1 (
 R (.int .i64 0) w) (
 Nc p_p0 <|
 Fo 0 p_p0 fun x_2 =>
 Ld x_2 w fun x_3 =>
 R x_3 w)
theorem Tie.picks_Reader_Tables {p_p0 : Value} {w : World} {R : Value → World → Prop} (h : Vcf.picks_Reader_Tables Tryz.prog p_p0 w R) : Cl Tryz.prog F.picks_Reader_Tables #[p_p0] w R :=
  cl_of_vc (n := 9) (rs := [(.tmp 2)]) (h := (.s .z (.s (.s .z (.i (.s .z .z) .z)) (.s .z .z)))) (args := [p_p0]) (by kernel_rfl) Tryz.func204 rfl (by kernel_rfl) rfl rfl rfl (Eq.mp (by kernel_rfl) h)

def Vcf.code_Reader_table (P : Program) (c_p0 r_p1 : Value) (w : World) (R : Value → World → Prop) : Prop   :=
 Nc c_p0 <|
 Fo 3 c_p0 fun x_1 =>
 Ld x_1 w fun x_2 =>
 Cl P F.delta_Reader_Step #[x_2, r_p1] w fun x_3 w1 =>
 VJoin 1 (fun _ x_4 w2 =>
 Vif x_4 (
 R (.tuple #[(.int .i64 (-1)), x_3]) w2) (
 Nc c_p0 <|
 Fo 3 c_p0 fun x_5 =>
 Ld x_5 w2 fun x_6 =>
 Cl P F.delta_Reader_Lens #[x_6] w2 fun x_7 w3 =>
 Cl P F.canon_New #[x_7] w3 fun x_8 w4 =>
 Ex x_8 0 fun x_9 =>
 Ex x_8 1 fun x_10 =>
 Bp .neq x_10 (.int .i64 0) fun x_11 =>
 Vif x_11 (
 R (.tuple #[(.int .i64 (-1)), x_10]) w4) (
 Nc c_p0 <|
 Fo 4 c_p0 fun x_12 =>
 Ld x_12 w4 fun x_13 =>
 Bs P 136 1 #[(0, x_9)] w4 fun x_14 w5 =>
 Ap P #[136, 136] 136 #[x_13, x_14] w5 fun x_15 w6 =>
 Nc c_p0 <|
 Fo 4 c_p0 fun x_16 =>
 St x_16 x_15 w6 fun w7 =>
 Nc c_p0 <|
 Fo 0 c_p0 fun x_17 =>
 Ld x_17 w7 fun x_18 =>
 Cl P F.delta_NewReader #[x_18] w7 fun x_19 w8 =>
 Ex x_19 0 fun x_20 =>
 Ex x_19 1 fun x_21 =>
 Nc c_p0 <|
 Fo 3 c_p0 fun x_22 =>
 St x_22 x_20 w8 fun w9 =>
 R (.tuple #[(.int .i64 (-1)), (.int .i64 0)]) w9)))
 (fun J23 =>
 Bp .neq x_3 (.int .i64 0) fun x_24 =>
 Vif x_24 (
 KE [c_p0, x_3] [c_p0, x_3] <| J23 (.bool true) w1) (
 Nc c_p0 <|
 Fo 3 c_p0 fun x_25 =>
 Ld x_25 w1 fun x_26 =>
 Cl P F.delta_Reader_Done #[x_26] w1 fun x_27 w10 =>
 Up .not x_27 fun x_28 =>
 KE [c_p0, x_3] [c_p0, x_3] <| J23 x_28 w10))
theorem Tie.code_Reader_table {c_p0 r_p1 : Value} {w : World} {R : Value → World → Prop} (h : Vcf.code_Reader_table Tryz.prog c_p0 r_p1 w R) : Cl Tryz.prog F.code_Reader_table #[c_p0, r_p1] w R :=
  cl_of_vc (n := 62) (rs := [(.tmp 4), (.tmp 5)]) (h := (.s .z (.s (.s .z (.j [26] [0, 6] .z (.i (.s .z .z) .z))) (.s .z (.s (.s .z (.i (.s .z .z) .z)) (.s .z (.s .z (.s .z (.s .z .z))))))))) (args := [c_p0, r_p1]) (by kernel_rfl) Tryz.func205 rfl (by kernel_rfl) rfl rfl rfl (Eq.mp (by kernel_rfl) h)

def Vcf.zeros_Reader_Put (P : Program) (r_p0 code_p1 : Value) (w : World) (R : Value → World → Prop) : Prop   :=
 VJoin 1 (fun _ x_1 w1 =>
 Vif x_1 (
 R (.tuple #[(.int .i64 0), (.int .i64 0), (.int .i64 7)]) w1) (
 VJoin 1 (fun _ x_2 w2 =>
 Vif x_2 (
 R (.tuple #[(.int .i64 0), (.int .i64 0), (.int .i64 25)]) w2) (
 Bp .leq code_p1 (.int .i64 1) fun x_3 =>
 Vif x_3 (
 Cl P F.zeros_Reader_more #[r_p0, code_p1] w2 fun x_4 w3 =>
 Bp .neq x_4 (.int .i64 0) fun x_5 =>
 Vif x_5 (
 R (.tuple #[(.int .i64 0), (.int .i64 0), x_4]) w3) (
 R (.tuple #[(.int .i64 0), (.int .i64 (-1)), (.int .i64 0)]) w3)) (
 Bp .sub code_p1 (.int .i64 1) fun x_6 =>
 VJoin 1 (fun _ place_7 w4 =>
 Nc r_p0 <|
 Fo 3 r_p0 fun x_8 =>
 Ld x_8 w4 fun x_9 =>
 Nc r_p0 <|
 Fo 2 r_p0 fun x_10 =>
 Ld x_10 w4 fun x_11 =>
 Bp .add x_11 x_9 fun x_12 =>
 Nc r_p0 <|
 Fo 2 r_p0 fun x_13 =>
 St x_13 x_12 w4 fun w5 =>
 Nc r_p0 <|
 Fo 3 r_p0 fun x_14 =>
 St x_14 (.int .i64 0) w5 fun w6 =>
 Nc r_p0 <|
 Fo 4 r_p0 fun x_15 =>
 St x_15 (.int .i64 1) w6 fun w7 =>
 R (.tuple #[x_9, place_7, (.int .i64 0)]) w7)
 (fun J16 =>
 Nc r_p0 <|
 Fo 0 r_p0 fun x_17 =>
 Ld x_17 w2 fun x_18 =>
 Bp .add x_18 (.int .i64 1) fun x_19 =>
 Bp .eql code_p1 x_19 fun x_20 =>
 Vif x_20 (
 Nc r_p0 <|
 Fo 5 r_p0 fun x_21 =>
 St x_21 (.bool true) w2 fun w8 =>
 KE [r_p0] [r_p0] <| J16 (.int .i64 (-1)) w8) (
 Dr w2 fun w9 =>
 Cl P F.zeros_Reader_Count #[r_p0] w9 fun x_22 w10 =>
 Nc r_p0 <|
 Fo 1 r_p0 fun x_23 =>
 Ld x_23 w10 fun x_24 =>
 Rk (fun w K => Ld x_23 w fun x_25 => K x_25) x_24 w9 <|
 Bp .eql x_22 x_24 fun x_27 =>
 Vif x_27 (
 R (.tuple #[(.int .i64 0), (.int .i64 0), (.int .i64 2)]) w10) (
 Nc r_p0 <|
 Fo 2 r_p0 fun x_28 =>
 Ld x_28 w10 fun x_29 =>
 Bp .add x_29 (.int .i64 1) fun x_30 =>
 Nc r_p0 <|
 Fo 2 r_p0 fun x_31 =>
 St x_31 x_30 w10 fun w11 =>
 KE [r_p0] [r_p0] <| J16 x_6 w11))))))
 (fun J32 =>
 Bp .lss code_p1 (.int .i64 0) fun x_33 =>
 Vif x_33 (
 KE [r_p0, code_p1] [r_p0, code_p1] <| J32 (.bool true) w1) (
 Nc r_p0 <|
 Fo 0 r_p0 fun x_34 =>
 Ld x_34 w1 fun x_35 =>
 Bp .add x_35 (.int .i64 1) fun x_36 =>
 Bp .gtr code_p1 x_36 fun x_37 =>
 KE [r_p0, code_p1] [r_p0, code_p1] <| J32 x_37 w1))))
 (fun J38 =>
 Bn P 269 false r_p0 (.pointer none) fun x_39 =>
 Vif x_39 (
 KE [r_p0, code_p1] [r_p0, code_p1] <| J38 (.bool true) w) (
 Nc r_p0 <|
 Fo 5 r_p0 fun x_40 =>
 Ld x_40 w fun x_41 =>
 KE [r_p0, code_p1] [r_p0, code_p1] <| J38 x_41 w))
theorem Tie.zeros_Reader_Put {r_p0 code_p1 : Value} {w : World} {R : Value → World → Prop} (h : Vcf.zeros_Reader_Put Tryz.prog r_p0 code_p1 w R) : Cl Tryz.prog F.zeros_Reader_Put #[r_p0, code_p1] w R :=
  cl_of_vc (n := 84) (rs := [(.tmp 4), (.tmp 5), (.tmp 6)]) (h := (.s .z (.s (.b (.j [8] [0, 1] .z (.i (.s .z .z) (.j [17] [0, 1] .z (.i (.s .z .z) (.s .z (.i (.s (.s .z (.s .z (.i (.s .z .z) .z))) (.s .z .z)) .z))))))) (.s .z (.j [5] [0] (.s .z (.i (.s .z .z) (.s (.r (.staged [0, 1, 0, 4, 12, 28, 63])) (.i (.s .z .z) .z)))) (.s .z (.s .z (.s .z (.s .z (.s .z .z)))))))))) (args := [r_p0, code_p1]) (by kernel_rfl) Tryz.func206 rfl (by kernel_rfl) rfl rfl rfl (Eq.mp (by kernel_rfl) h)

def Vcf.slices_IndexFunc_int_int (P : Program) (s_p0 f_p1 : Value) (w : World) (R : Value → World → Prop) : Prop   :=
 Lnl s_p0 fun x_1 =>
 VLoop 1 [(.int .i64 0)] w fun _ next3 x_2 w1 =>
 Bp .lss x_2 x_1 fun x_4 =>
 Vif x_4 (
 Ias 1 s_p0 x_2 fun x_5 =>
 Ld x_5 w1 fun x_6 =>
 Inv P (do let d ← Deferred.ofValue f_p1 #[x_6]; invoke d.target d.args) w1 fun x_7 w2 =>
 Vif x_7 (
 R x_2 w2) (
 Bp .add x_2 (.int .i64 1) fun x_8 =>
 KE [s_p0, f_p1, x_1] [s_p0, f_p1, x_1] <| next3 x_8 w2)) (
 R (.int .i64 (-1)) w1)
theorem Tie.slices_IndexFunc_int_int {s_p0 f_p1 : Value} {w : World} {R : Value → World → Prop} (h : Vcf.slices_IndexFunc_int_int Tryz.prog s_p0 f_p1 w R) : Cl Tryz.prog F.slices_IndexFunc_int_int #[s_p0, f_p1] w R :=
  cl_of_vc (n := 19) (rs := [(.tmp 4)]) (h := (.s .z (.s (.s .z (.b (.l [8] [0, 1, 7] (.s .z (.s (.i .z .z) (.s (.b (.s .z (.s .z (.i (.s .z .z) .z)))) .z)))))) (.s .z .z)))) (args := [s_p0, f_p1]) (by kernel_rfl) Tryz.func216 rfl (by kernel_rfl) rfl rfl rfl (Eq.mp (by kernel_rfl) h)

def Vcf.picks_order_touch (P : Program) (o_p0 i_p1 : Value) (w : World) (R : Value → World → Prop) : Prop   :=
 Nc o_p0 <|
 Iaa 6 1 o_p0 i_p1 fun x_1 =>
 Ld x_1 w fun x_2 =>
 VLoop 1 [i_p1] w fun _ next4 k_3 w1 =>
 Bp .gtr k_3 (.int .i64 0) fun x_5 =>
 Vif x_5 (
 Dr w1 fun w2 =>
 Bp .sub k_3 (.int .i64 1) fun x_6 =>
 Nc o_p0 <|
 Iaa 6 1 o_p0 x_6 fun x_7 =>
 Ld x_7 w2 fun x_8 =>
 Nc o_p0 <|
 Iaa 6 1 o_p0 k_3 fun x_10 =>
 St x_10 x_8 w2 fun w3 =>
 Bp .sub k_3 (.int .i64 1) fun x_11 =>
 KE [o_p0, x_2] [o_p0, x_2] <| next4 x_11 w3) (
 Nc o_p0 <|
 Iaa 6 1 o_p0 (.int .i64 0) fun x_12 =>
 St x_12 x_2 w1 fun w4 =>
 R x_2 w4)
theorem Tie.picks_order_touch {o_p0 i_p1 : Value} {w : World} {R : Value → World → Prop} (h : Vcf.picks_order_touch Tryz.prog o_p0 i_p1 w R) : Cl Tryz.prog F.picks_order_touch #[o_p0, i_p1] w R :=
  cl_of_vc (n := 32) (rs := [(.tmp 4)]) (h := (.s .z (.s .z (.s (.s .z (.b (.l [6] [0, 5] (.s (.s .z (.i .z .z)) (.s (.b (.r (.staged [0, 0, 0, 0, 8, 4, 60, 124, 1, 511, 1023]))) .z))))) (.s .z (.s .z .z)))))) (args := [o_p0, i_p1]) (by kernel_rfl) Tryz.func217 rfl (by kernel_rfl) rfl rfl rfl (Eq.mp (by kernel_rfl) h)

def Vcf.lens_between (P : Program) (l_p0 low_p1 high_p2 : Value) (w : World) (R : Value → World → Prop) : Prop   :=
 New low_p1 3 w fun low_1 w1 =>
 New high_p2 3 w1 fun high_2 w2 =>
 Mf P (.func 239) #[] #[low_1, high_2] w2 fun x_3 =>
 Cl P F.slices_ContainsFunc_int_int #[l_p0, x_3] w2 fun x_4 w3 =>
 Up .not x_4 fun x_5 =>
 R x_5 w3
theorem Tie.lens_between {l_p0 low_p1 high_p2 : Value} {w : World} {R : Value → World → Prop} (h : Vcf.lens_between Tryz.prog l_p0 low_p1 high_p2 w R) : Cl Tryz.prog F.lens_between #[l_p0, low_p1, high_p2] w R :=
  cl_of_vc (n := 11) (rs := [(.tmp 6)]) (h := (.s .z (.s .z .z))) (args := [l_p0, low_p1, high_p2]) (by kernel_rfl) Tryz.func220 rfl (by kernel_rfl) rfl rfl rfl (Eq.mp (by kernel_rfl) h)

def Vcf.used_marks (P : Program) (row_p0 : Value) (w : World) (R : Value → World → Prop) : Prop   :=
 VLoop 2 [(.slice none 0 0), (.int .i64 0)] w fun _ next3 out_1 x_2 w1 =>
 Bp .lss x_2 (.int .i64 16) fun x_4 =>
 Vif x_4 (
 Bp .sub (.int .i64 15) x_2 fun x_5 =>
 Bp .shr row_p0 x_5 fun x_6 =>
 Bp .and x_6 (.int .u32 1) fun x_7 =>
 Bp .eql x_7 (.int .u32 1) fun x_8 =>
 Vif x_8 (
 Bs P 69 1 #[(0, x_2)] w1 fun x_9 w2 =>
 Ap P #[69, 69] 69 #[out_1, x_9] w2 fun x_10 w3 =>
 Bp .add x_2 (.int .i64 1) fun x_11 =>
 KE [row_p0] [row_p0] <| next3 x_10 x_11 w3) (
 Bp .add x_2 (.int .i64 1) fun x_12 =>
 KE [row_p0] [row_p0] <| next3 out_1 x_12 w1)) (
 R out_1 w1)
theorem Tie.used_marks {row_p0 : Value} {w : World} {R : Value → World → Prop} (h : Vcf.used_marks Tryz.prog row_p0 w R) : Cl Tryz.prog F.used_marks #[row_p0] w R :=
  cl_of_vc (n := 20) (rs := [(.tmp 2)]) (h := (.s .z (.s .z (.s (.s .z (.b (.l [3, 5] [0] (.s .z (.s (.i .z .z) (.s (.b (.s .z (.s .z (.i .z .z)))) .z)))))) (.s .z .z))))) (args := [row_p0]) (by kernel_rfl) Tryz.func224 rfl (by kernel_rfl) rfl rfl rfl (Eq.mp (by kernel_rfl) h)

def Vcf.delta_NewReader (P : Program) (size_p0 : Value) (w : World) (R : Value → World → Prop) : Prop   :=
 Cl P F.delta_sized #[size_p0] w fun x_1 w1 =>
 Up .not x_1 fun x_2 =>
 Vif x_2 (
 R (.tuple #[(.pointer none), (.int .i64 1)]) w1) (
 Bd P 274 #[(0, size_p0)] w1 fun x_3 =>
 New x_3 274 w1 fun x_4 w2 =>
 R (.tuple #[x_4, (.int .i64 0)]) w2)
theorem Tie.delta_NewReader {size_p0 : Value} {w : World} {R : Value → World → Prop} (h : Vcf.delta_NewReader Tryz.prog size_p0 w R) : Cl Tryz.prog F.delta_NewReader #[size_p0] w R :=
  cl_of_vc (n := 10) (rs := [(.tmp 2), (.tmp 3)]) (h := (.s .z (.s (.s .z (.i (.s .z .z) .z)) (.s .z .z)))) (args := [size_p0]) (by kernel_rfl) Tryz.func225 rfl (by kernel_rfl) rfl rfl rfl (Eq.mp (by kernel_rfl) h)

def Vcf.picks_NewReader (P : Program) (w : World) (R : Value → World → Prop) : Prop   :=
 Cl P F.picks_fresh #[] w fun x_1 w1 =>
 Bd P 230 #[(2, x_1)] w1 fun x_2 =>
 New x_2 230 w1 fun x_3 w2 =>
 R x_3 w2
theorem Tie.picks_NewReader {w : World} {R : Value → World → Prop} (h : Vcf.picks_NewReader Tryz.prog w R) : Cl Tryz.prog F.picks_NewReader #[] w R :=
  cl_of_vc (n := 4) (rs := [(.tmp 0)]) (h := (.s .z (.s .z .z))) (args := []) (by kernel_rfl) Tryz.func226 rfl (by kernel_rfl) rfl rfl rfl (Eq.mp (by kernel_rfl) h)

def Vcf.canon_Code_Get (P : Program) (c_p0 r_p1 : Value) (w : World) (R : Value → World → Prop) : Prop   :=
 VJoin 1 (fun _ x_1 w1 =>
 Vif x_1 (
 R (.tuple #[(.int .i64 0), (.int .i64 7)]) w1) (
 Cl P F.bits_Reader_At #[r_p1] w1 fun x_2 w2 =>
 Cl P F.canon_Code_get #[c_p0, r_p1] w2 fun x_3 w3 =>
 Ex x_3 0 fun x_4 =>
 Ex x_3 1 fun x_5 =>
 Bp .neq x_5 (.int .i64 0) fun x_6 =>
 Vif x_6 (
 Cl P F.bits_Reader_Seek #[r_p1, x_2] w3 fun x_7 w4 =>
 R (.tuple #[x_4, x_5]) w4) (
 R (.tuple #[x_4, x_5]) w3)))
 (fun J8 =>
 Bn P 202 false c_p0 (.pointer none) fun x_9 =>
 Vif x_9 (
 KE [c_p0, r_p1] [c_p0, r_p1] <| J8 (.bool true) w) (
 Bn P 84 false r_p1 (.pointer none) fun x_10 =>
 KE [c_p0, r_p1] [c_p0, r_p1] <| J8 x_10 w))
theorem Tie.canon_Code_Get {c_p0 r_p1 : Value} {w : World} {R : Value → World → Prop} (h : Vcf.canon_Code_Get Tryz.prog c_p0 r_p1 w R) : Cl Tryz.prog F.canon_Code_Get #[c_p0, r_p1] w R :=
  cl_of_vc (n := 30) (rs := [(.tmp 4), (.tmp 5)]) (h := (.s .z (.s (.j [14] [0, 1] .z (.i (.s .z .z) .z)) (.s .z (.s .z (.s (.s .z (.i .z .z)) (.s .z .z))))))) (args := [c_p0, r_p1]) (by kernel_rfl) Tryz.func227 rfl (by kernel_rfl) rfl rfl rfl (Eq.mp (by kernel_rfl) h)

def Vcf.picks_Reader_Step (P : Program) (p_p0 r_p1 : Value) (w : World) (R : Value → World → Prop) : Prop   :=
 VJoin 1 (fun _ x_1 w1 =>
 Vif x_1 (
 R (.int .i64 7) w1) (
 Nc p_p0 <|
 Fo 9 p_p0 fun x_2 =>
 Ld x_2 w1 fun x_3 =>
 Vif x_3 (
 R (.int .i64 25) w1) (
 Cl P F.bits_Reader_At #[r_p1] w1 fun x_4 w2 =>
 Mf P (.func 242) #[p_p0] #[] w2 fun x_5 =>
 VJoin 1 (fun _ step_6 w3 =>
 Inv P (do let d ← Deferred.ofValue step_6 #[r_p1]; invoke d.target d.args) w3 fun x_7 w4 =>
 Bp .eql x_7 (.int .i64 3) fun x_8 =>
 Vif x_8 (
 Cl P F.bits_Reader_Seek #[r_p1, x_4] w4 fun x_9 w5 =>
 R x_7 w5) (
 R x_7 w4))
 (fun J10 =>
 Nc p_p0 <|
 Fo 1 p_p0 fun x_11 =>
 Ld x_11 w2 fun x_12 =>
 Bp .eql x_12 (.int .i64 0) fun x_13 =>
 Vif x_13 (
 Mf P (.func 243) #[p_p0] #[] w2 fun x_14 =>
 KE [r_p1, x_4] [r_p1, x_4] <| J10 x_14 w2) (
 KE [r_p1, x_4] [r_p1, x_4] <| J10 x_5 w2)))))
 (fun J15 =>
 Bn P 230 false p_p0 (.pointer none) fun x_16 =>
 Vif x_16 (
 KE [p_p0, r_p1] [p_p0, r_p1] <| J15 (.bool true) w) (
 Bn P 84 false r_p1 (.pointer none) fun x_17 =>
 Vif x_17 (
 KE [p_p0, r_p1] [p_p0, r_p1] <| J15 (.bool true) w) (
 Cl P F.picks_Reader_Done #[p_p0] w fun x_18 w6 =>
 KE [p_p0, r_p1] [p_p0, r_p1] <| J15 x_18 w6)))
theorem Tie.picks_Reader_Step {p_p0 r_p1 : Value} {w : World} {R : Value → World → Prop} (h : Vcf.picks_Reader_Step Tryz.prog p_p0 r_p1 w R) : Cl Tryz.prog F.picks_Reader_Step #[p_p0, r_p1] w R :=
  cl_of_vc (n := 44) (rs := [(.tmp 4)]) (h := (.s .z (.s (.b (.j [8] [0, 1] .z (.i (.s .z .z) (.s .z (.i (.s .z .z) .z))))) (.s .z (.s .z (.j [6] [1, 5] (.s .z (.i .z .z)) (.s .z (.s (.s .z (.i .z .z)) (.s .z .z))))))))) (args := [p_p0, r_p1]) (by kernel_rfl) Tryz.func228 rfl (by kernel_rfl) rfl rfl rfl (Eq.mp (by kernel_rfl) h)

def Vcf.delta_Reader_Step (P : Program) (d_p0 r_p1 : Value) (w : World) (R : Value → World → Prop) : Prop   :=
 VJoin 1 (fun _ x_1 w1 =>
 Vif x_1 (
 R (.int .i64 7) w1) (
 Nc d_p0 <|
 Fo 3 d_p0 fun x_2 =>
 Ld x_2 w1 fun x_3 =>
 Vif x_3 (
 R (.int .i64 22) w1) (
 Cl P F.bits_Reader_At #[r_p1] w1 fun x_4 w2 =>
 Cl P F.delta_Reader_step #[d_p0, r_p1] w2 fun x_5 w3 =>
 Bp .eql x_5 (.int .i64 3) fun x_6 =>
 Vif x_6 (
 Cl P F.bits_Reader_Seek #[r_p1, x_4] w3 fun x_7 w4 =>
 R x_5 w4) (
 R x_5 w3))))
 (fun J8 =>
 Bn P 274 false d_p0 (.pointer none) fun x_9 =>
 Vif x_9 (
 KE [d_p0, r_p1] [d_p0, r_p1] <| J8 (.bool true) w) (
 Bn P 84 false r_p1 (.pointer none) fun x_10 =>
 Vif x_10 (
 KE [d_p0, r_p1] [d_p0, r_p1] <| J8 (.bool true) w) (
 Cl P F.delta_Reader_Done #[d_p0] w fun x_11 w5 =>
 KE [d_p0, r_p1] [d_p0, r_p1] <| J8 x_11 w5)))
theorem Tie.delta_Reader_Step {d_p0 r_p1 : Value} {w : World} {R : Value → World → Prop} (h : Vcf.delta_Reader_Step Tryz.prog d_p0 r_p1 w R) : Cl Tryz.prog F.delta_Reader_Step #[d_p0, r_p1] w R :=
  cl_of_vc (n := 34) (rs := [(.tmp 4)]) (h := (.s .z (.s (.b (.j [7] [0, 1] .z (.i (.s .z .z) (.s .z (.i (.s .z .z) .z))))) (.s .z (.s .z (.s (.s .z (.i .z .z)) (.s .z .z))))))) (args := [d_p0, r_p1]) (by kernel_rfl) Tryz.func229 rfl (by kernel_rfl) rfl rfl rfl (Eq.mp (by kernel_rfl) h)

def Vcf.delta_Reader_Done (P : Program) (d_p0 : Value) (w : World) (R : Value → World → Prop) : Prop   :=
 Dr w fun w1 =>
 Bn P 274 true d_p0 (.pointer none) fun x_1 =>
 Vif x_1 (
 Nc d_p0 <|
 Fo 2 d_p0 fun x_2 =>
 Ld x_2 w1 fun x_3 =>
 Lnl x_3 fun x_5 =>
 Nc d_p0 <|
 Fo 0 d_p0 fun x_7 =>
 Ld x_7 w1 fun x_8 =>
 Bp .eql x_5 x_8 fun x_10 =>
 R x_10 w1) (
 R (.bool false) w1)
theorem Tie.delta_Reader_Done {d_p0 : Value} {w : World} {R : Value → World → Prop} (h : Vcf.delta_Reader_Done Tryz.prog d_p0 w R) : Cl Tryz.prog F.delta_Reader_Done #[d_p0] w R :=
  cl_of_vc (n := 17) (rs := [(.tmp 2)]) (h := (.s .z (.s (.r (.staged [0, 1, 3, 7, 15, 31, 63, 127, 7, 263, 775, 1799, 4095, 8191, 16383])) .z))) (args := [d_p0]) (by kernel_rfl) Tryz.func230 rfl (by kernel_rfl) rfl rfl rfl (Eq.mp (by kernel_rfl) h)

def Vcf.delta_Reader_Lens (P : Program) (d_p0 : Value) (w : World) (R : Value → World → Prop) : Prop   :=
 Bn P 274 false d_p0 (.pointer none) fun x_1 =>
 Vif x_1 (
 R (.slice none 0 0) w) (
 Nc d_p0 <|
 Fo 2 d_p0 fun x_2 =>
 Ld x_2 w fun x_3 =>
 Cl P F.slices_Clone_int_int #[x_3] w fun x_4 w1 =>
 R x_4 w1)
theorem Tie.delta_Reader_Lens {d_p0 : Value} {w : World} {R : Value → World → Prop} (h : Vcf.delta_Reader_Lens Tryz.prog d_p0 w R) : Cl Tryz.prog F.delta_Reader_Lens #[d_p0] w R :=
  cl_of_vc (n := 10) (rs := [(.tmp 2)]) (h := (.s .z (.s (.s .z (.i (.s .z .z) .z)) (.s .z .z)))) (args := [d_p0]) (by kernel_rfl) Tryz.func231 rfl (by kernel_rfl) rfl rfl rfl (Eq.mp (by kernel_rfl) h)

def Vcf.zeros_Reader_more (P : Program) (r_p0 code_p1 : Value) (w : World) (R : Value → World → Prop) : Prop   :=
 Nc r_p0 <|
 Fo 4 r_p0 fun x_1 =>
 Ld x_1 w fun x_2 =>
 Bp .shl x_2 code_p1 fun x_3 =>
 Dr w fun w1 =>
 Nc r_p0 <|
 Fo 1 r_p0 fun x_4 =>
 Ld x_4 w1 fun x_5 =>
 Cl P F.zeros_Reader_Count #[r_p0] w1 fun x_7 w2 =>
 Rk (fun w K => Ld x_4 w fun x_6 => K x_6) x_5 w2 <|
 Bp .sub x_5 x_7 fun x_8 =>
 Bp .gtr x_3 x_8 fun x_9 =>
 Vif x_9 (
 R (.int .i64 2) w2) (
 Nc r_p0 <|
 Fo 3 r_p0 fun x_10 =>
 Ld x_10 w2 fun x_11 =>
 Bp .add x_11 x_3 fun x_12 =>
 Nc r_p0 <|
 Fo 3 r_p0 fun x_13 =>
 St x_13 x_12 w2 fun w3 =>
 Nc r_p0 <|
 Fo 4 r_p0 fun x_14 =>
 Ld x_14 w3 fun x_15 =>
 Bp .mul x_15 (.int .i64 2) fun x_16 =>
 Nc r_p0 <|
 Fo 4 r_p0 fun x_17 =>
 St x_17 x_16 w3 fun w4 =>
 R (.int .i64 0) w4)
theorem Tie.zeros_Reader_more {r_p0 code_p1 : Value} {w : World} {R : Value → World → Prop} (h : Vcf.zeros_Reader_more Tryz.prog r_p0 code_p1 w R) : Cl Tryz.prog F.zeros_Reader_more #[r_p0, code_p1] w R :=
  cl_of_vc (n := 36) (rs := [(.tmp 4)]) (h := (.s .z (.s .z (.s (.s (.r (.staged [0, 0, 2, 6, 14, 0, 32, 126, 255])) (.i (.s .z .z) .z)) (.s .z (.s .z (.s .z .z))))))) (args := [r_p0, code_p1]) (by kernel_rfl) Tryz.func232 rfl (by kernel_rfl) rfl rfl rfl (Eq.mp (by kernel_rfl) h)

def Vcf.zeros_Reader_Count (P : Program) (r_p0 : Value) (w : World) (R : Value → World → Prop) : Prop   :=
 Bn P 269 false r_p0 (.pointer none) fun x_1 =>
 Vif x_1 (
 R (.int .i64 0) w) (
 Dr w fun w1 =>
 Nc r_p0 <|
 Fo 2 r_p0 fun x_2 =>
 Ld x_2 w1 fun x_3 =>
 Nc r_p0 <|
 Fo 3 r_p0 fun x_5 =>
 Ld x_5 w1 fun x_6 =>
 Bp .add x_3 x_6 fun x_8 =>
 R x_8 w1)
theorem Tie.zeros_Reader_Count {r_p0 : Value} {w : World} {R : Value → World → Prop} (h : Vcf.zeros_Reader_Count Tryz.prog r_p0 w R) : Cl Tryz.prog F.zeros_Reader_Count #[r_p0] w R :=
  cl_of_vc (n := 14) (rs := [(.tmp 2)]) (h := (.s .z (.s (.s .z (.i (.s .z .z) .z)) (.s (.r (.staged [0, 1, 3, 7, 0, 16, 48, 112, 255, 511])) .z)))) (args := [r_p0]) (by kernel_rfl) Tryz.func233 rfl (by kernel_rfl) rfl rfl rfl (Eq.mp (by kernel_rfl) h)

def Vcf.lens_between_1 (P : Program) (n_p0 p_p1 p_p2 : Value) (w : World) (R : Value → World → Prop) : Prop   :=
 Ld p_p1 w fun x_1 =>
 Bp .lss n_p0 x_1 fun x_2 =>
 Vif x_2 (
 R (.bool true) w) (
 Ld p_p2 w fun x_3 =>
 Bp .gtr n_p0 x_3 fun x_4 =>
 R x_4 w)
theorem Tie.lens_between_1 {n_p0 p_p1 p_p2 : Value} {w : World} {R : Value → World → Prop} (h : Vcf.lens_between_1 Tryz.prog n_p0 p_p1 p_p2 w R) : Cl Tryz.prog F.lens_between_1 #[n_p0, p_p1, p_p2] w R :=
  cl_of_vc (n := 13) (rs := [(.tmp 4)]) (h := (.s .z (.s .z .z))) (args := [n_p0, p_p1, p_p2]) (by kernel_rfl) Tryz.func239 rfl (by kernel_rfl) rfl rfl rfl (Eq.mp (by kernel_rfl) h)

def Vcf.canon_Code_get (P : Program) (c_p0 r_p1 : Value) (w : World) (R : Value → World → Prop) : Prop   :=
 VLoop 2 [(.int .i64 0), (.int .i64 1)] w fun _ next3 code_1 n_2 w1 =>
 Bp .leq n_2 (.int .i64 20) fun x_4 =>
 Vif x_4 (
 Cl P F.bits_Reader_Get #[r_p1, (.int .i64 1)] w1 fun x_5 w2 =>
 Ex x_5 0 fun x_6 =>
 Ex x_5 1 fun x_7 =>
 Bp .neq x_7 (.int .i64 0) fun x_8 =>
 Vif x_8 (
 R (.tuple #[(.int .i64 0), x_7]) w2) (
 Bp .mul (.int .i64 2) code_1 fun x_9 =>
 Ci .i64 x_6 fun x_10 =>
 Bp .add x_9 x_10 fun x_11 =>
 Dr w2 fun w3 =>
 Nc c_p0 <|
 Fo 24 c_p0 fun x_12 =>
 Iaa 22 1 x_12 n_2 fun x_13 =>
 Ld x_13 w3 fun x_14 =>
 Bp .add x_14 x_11 fun x_16 =>
 Nc c_p0 <|
 Fo 3 c_p0 fun x_17 =>
 Iaa 21 1 x_17 n_2 fun x_18 =>
 Ld x_18 w3 fun x_19 =>
 Bp .sub x_16 x_19 fun x_21 =>
 Bp .add n_2 (.int .i64 1) fun x_22 =>
 Nc c_p0 <|
 Fo 24 c_p0 fun x_23 =>
 Iaa 22 1 x_23 x_22 fun x_24 =>
 Ld x_24 w3 fun x_25 =>
 Bp .lss x_21 x_25 fun x_26 =>
 Vif x_26 (
 Nc c_p0 <|
 Fo 2 c_p0 fun x_27 =>
 Ld x_27 w3 fun x_28 =>
 Ias 1 x_28 x_21 fun x_29 =>
 Ld x_29 w3 fun x_30 =>
 R (.tuple #[x_30, (.int .i64 0)]) w3) (
 Bp .add n_2 (.int .i64 1) fun x_31 =>
 KE [c_p0, r_p1] [c_p0, r_p1] <| next3 x_11 x_31 w3))) (
 R (.tuple #[(.int .i64 0), (.int .i64 22)]) w1)
theorem Tie.canon_Code_get {c_p0 r_p1 : Value} {w : World} {R : Value → World → Prop} (h : Vcf.canon_Code_get Tryz.prog c_p0 r_p1 w R) : Cl Tryz.prog F.canon_Code_get #[c_p0, r_p1] w R :=
  cl_of_vc (n := 59) (rs := [(.tmp 4), (.tmp 5)]) (h := (.s .z (.s .z (.s (.s .z (.b (.l [6, 7] [0, 1] (.s (.s .z (.i .z .z)) (.s (.b (.s .z (.s (.s .z (.i (.s .z .z) .z)) (.s .z (.s (.r (.staged [0, 0, 1, 5, 15, 31, 0, 127, 0, 0, 256, 1280, 3840, 7936, 16383, 32767])) (.s .z (.i (.s .z .z) .z))))))) .z))))) (.s .z .z))))) (args := [c_p0, r_p1]) (by kernel_rfl) Tryz.func241 rfl (by kernel_rfl) rfl rfl rfl (Eq.mp (by kernel_rfl) h)

def Vcf.picks_Reader_pick (P : Program) (p_p0 r_p1 : Value) (w : World) (R : Value → World → Prop) : Prop   :=
 Nc p_p0 <|
 Fo 0 p_p0 fun x_1 =>
 Ld x_1 w fun x_2 =>
 VLoop 1 [(.int .i64 0)] w fun _ next4 x_3 w1 =>
 Bp .lss x_3 x_2 fun x_5 =>
 Vif x_5 (
 Cl P F.bits_Reader_Get #[r_p1, (.int .i64 1)] w1 fun x_6 w2 =>
 Ex x_6 0 fun x_7 =>
 Ex x_6 1 fun x_8 =>
 Bp .neq x_8 (.int .i64 0) fun x_9 =>
 Vif x_9 (
 R x_8 w2) (
 Bp .eql x_7 (.int .u32 0) fun x_10 =>
 Vif x_10 (
 Dr w2 fun w3 =>
 Nc p_p0 <|
 Fo 8 p_p0 fun x_11 =>
 Ld x_11 w3 fun x_12 =>
 Nc p_p0 <|
 Fo 2 p_p0 fun x_14 =>
 Cl P F.picks_order_touch #[x_14, x_3] w3 fun x_15 w4 =>
 Rk (fun w K => Ld x_11 w fun x_13 => K x_13) x_12 w4 <|
 Bs P 69 1 #[(0, x_15)] w4 fun x_16 w5 =>
 Rk (fun w K => Ld x_11 w fun x_13 => K x_13) x_12 w5 <|
 Ap P #[69, 69] 69 #[x_12, x_16] w5 fun x_17 w6 =>
 Nc p_p0 <|
 Fo 8 p_p0 fun x_18 =>
 St x_18 x_17 w6 fun w7 =>
 R (.int .i64 0) w7) (
 Bp .add x_3 (.int .i64 1) fun x_19 =>
 KE [p_p0, r_p1, x_2] [p_p0, r_p1, x_2] <| next4 x_19 w2))) (
 Cl P F.picks_Reader_fail #[p_p0] w1 fun x_20 w8 =>
 R x_20 w8)
theorem Tie.picks_Reader_pick {p_p0 r_p1 : Value} {w : World} {R : Value → World → Prop} (h : Vcf.picks_Reader_pick Tryz.prog p_p0 r_p1 w R) : Cl Tryz.prog F.picks_Reader_pick #[p_p0, r_p1] w R :=
  cl_of_vc (n := 42) (rs := [(.tmp 4)]) (h := (.s .z (.s (.s .z (.b (.l [12] [0, 1, 11] (.s .z (.s (.i .z .z) (.s (.b (.s .z (.s .z (.s (.s .z (.i (.s .z .z) .z)) (.s .z (.i (.s (.r (.staged [0, 0, 2, 6, 14, 0, 32, 96, 0, 480, 992, 2046, 4095, 8191, 16383])) (.s .z .z)) .z)))))) .z)))))) (.s .z .z)))) (args := [p_p0, r_p1]) (by kernel_rfl) Tryz.func242 rfl (by kernel_rfl) rfl rfl rfl (Eq.mp (by kernel_rfl) h)

def Vcf.picks_Reader_head (P : Program) (p_p0 r_p1 : Value) (w : World) (R : Value → World → Prop) : Prop   :=
 Cl P F.bits_Reader_Get #[r_p1, (.int .i64 18)] w fun x_1 w1 =>
 Ex x_1 0 fun x_2 =>
 Ex x_1 1 fun x_3 =>
 Bp .neq x_3 (.int .i64 0) fun x_4 =>
 Vif x_4 (
 R x_3 w1) (
 Bp .shr x_2 (.int .u64 15) fun x_5 =>
 Ci .i64 x_5 fun x_6 =>
 Bp .and x_2 (.int .u32 32767) fun x_7 =>
 Ci .i64 x_7 fun x_8 =>
 VJoin 1 (fun _ x_9 w2 =>
 Vif x_9 (
 Cl P F.picks_Reader_fail #[p_p0] w2 fun x_10 w3 =>
 R x_10 w3) (
 Nc p_p0 <|
 Fo 0 p_p0 fun x_11 =>
 St x_11 x_6 w2 fun w4 =>
 Nc p_p0 <|
 Fo 1 p_p0 fun x_12 =>
 St x_12 x_8 w4 fun w5 =>
 R (.int .i64 0) w5))
 (fun J13 =>
 Cl P F.picks_tabled #[x_6] w1 fun x_14 w6 =>
 Up .not x_14 fun x_15 =>
 Vif x_15 (
 KE [p_p0, x_6, x_8] [p_p0, x_6, x_8] <| J13 (.bool true) w6) (
 Bp .eql x_8 (.int .i64 0) fun x_16 =>
 KE [p_p0, x_6, x_8] [p_p0, x_6, x_8] <| J13 x_16 w6)))
theorem Tie.picks_Reader_head {p_p0 r_p1 : Value} {w : World} {R : Value → World → Prop} (h : Vcf.picks_Reader_head Tryz.prog p_p0 r_p1 w R) : Cl Tryz.prog F.picks_Reader_head #[p_p0, r_p1] w R :=
  cl_of_vc (n := 40) (rs := [(.tmp 4)]) (h := (.s .z (.s .z (.s (.s .z (.i (.s .z .z) .z)) (.s .z (.s (.j [29] [0, 7, 8] .z (.i (.s .z .z) .z)) (.s .z (.s .z (.s .z .z))))))))) (args := [p_p0, r_p1]) (by kernel_rfl) Tryz.func243 rfl (by kernel_rfl) rfl rfl rfl (Eq.mp (by kernel_rfl) h)

def Vcf.delta_Reader_step (P : Program) (d_p0 r_p1 : Value) (w : World) (R : Value → World → Prop) : Prop   :=
 Nc d_p0 <|
 Fo 1 d_p0 fun x_1 =>
 Ld x_1 w fun x_2 =>
 Bp .eql x_2 (.int .i64 0) fun x_3 =>
 Vif x_3 (
 Cl P F.bits_Reader_Get #[r_p1, (.int .i64 5)] w fun x_4 w1 =>
 Ex x_4 0 fun x_5 =>
 Ex x_4 1 fun x_6 =>
 Bp .neq x_6 (.int .i64 0) fun x_7 =>
 Vif x_7 (
 R x_6 w1) (
 Ci .i64 x_5 fun x_8 =>
 Cl P F.delta_Reader_turned #[d_p0, x_8] w1 fun x_9 w2 =>
 R x_9 w2)) (
 Cl P F.bits_Reader_Get #[r_p1, (.int .i64 1)] w fun x_10 w3 =>
 Ex x_10 0 fun x_11 =>
 Ex x_10 1 fun x_12 =>
 Bp .neq x_12 (.int .i64 0) fun x_13 =>
 Vif x_13 (
 R x_12 w3) (
 Bp .eql x_11 (.int .u32 0) fun x_14 =>
 Vif x_14 (
 Dr w3 fun w4 =>
 Nc d_p0 <|
 Fo 2 d_p0 fun x_15 =>
 Ld x_15 w4 fun x_16 =>
 Nc d_p0 <|
 Fo 1 d_p0 fun x_18 =>
 Ld x_18 w4 fun x_19 =>
 Bs P 69 1 #[(0, x_19)] w4 fun x_21 w5 =>
 Rk (fun w K => Ld x_15 w fun x_17 => K x_17) x_16 w5 <|
 Ap P #[69, 69] 69 #[x_16, x_21] w5 fun x_22 w6 =>
 Nc d_p0 <|
 Fo 2 d_p0 fun x_23 =>
 St x_23 x_22 w6 fun w7 =>
 R (.int .i64 0) w7) (
 Cl P F.bits_Reader_Get #[r_p1, (.int .i64 1)] w3 fun x_24 w8 =>
 Ex x_24 0 fun x_25 =>
 Ex x_24 1 fun x_26 =>
 Bp .neq x_26 (.int .i64 0) fun x_27 =>
 Vif x_27 (
 R x_26 w8) (
 Nc d_p0 <|
 Fo 1 d_p0 fun x_28 =>
 Ld x_28 w8 fun x_29 =>
 Bp .add x_29 (.int .i64 1) fun x_30 =>
 Ci .i64 x_25 fun x_31 =>
 Bp .mul (.int .i64 2) x_31 fun x_32 =>
 Bp .sub x_30 x_32 fun x_33 =>
 Cl P F.delta_Reader_turned #[d_p0, x_33] w8 fun x_34 w9 =>
 R x_34 w9))))
theorem Tie.delta_Reader_step {d_p0 r_p1 : Value} {w : World} {R : Value → World → Prop} (h : Vcf.delta_Reader_step Tryz.prog d_p0 r_p1 w R) : Cl Tryz.prog F.delta_Reader_step #[d_p0, r_p1] w R :=
  cl_of_vc (n := 68) (rs := [(.tmp 4)]) (h := (.s .z (.s (.s .z (.i (.s .z (.s (.s .z (.i (.s .z .z) .z)) (.s .z .z))) .z)) (.s .z (.s (.s .z (.i (.s .z .z) .z)) (.s (.s .z (.i (.s (.r (.staged [0, 0, 2, 6, 14, 0, 32, 96, 224, 480, 1022, 2047, 4095, 8191])) (.s .z .z)) .z)) (.s .z (.s (.s .z (.i (.s .z .z) .z)) (.s .z .z))))))))) (args := [d_p0, r_p1]) (by kernel_rfl) Tryz.func244 rfl (by kernel_rfl) rfl rfl rfl (Eq.mp (by kernel_rfl) h)

def Vcf.picks_Reader_fail (P : Program) (p_p0 : Value) (w : World) (R : Value → World → Prop) : Prop   :=
 Nc p_p0 <|
 Fo 9 p_p0 fun x_1 =>
 St x_1 (.bool true) w fun w1 =>
 R (.int .i64 25) w1
theorem Tie.picks_Reader_fail {p_p0 : Value} {w : World} {R : Value → World → Prop} (h : Vcf.picks_Reader_fail Tryz.prog p_p0 w R) : Cl Tryz.prog F.picks_Reader_fail #[p_p0] w R :=
  cl_of_vc (n := 6) (rs := [(.tmp 2)]) (h := (.s .z (.s .z (.s .z .z)))) (args := [p_p0]) (by kernel_rfl) Tryz.func249 rfl (by kernel_rfl) rfl rfl rfl (Eq.mp (by kernel_rfl) h)

def Vcf.delta_Reader_turned (P : Program) (d_p0 n_p1 : Value) (w : World) (R : Value → World → Prop) : Prop   :=
 Cl P F.delta_length #[n_p1] w fun x_1 w1 =>
 Up .not x_1 fun x_2 =>
 Vif x_2 (
 Nc d_p0 <|
 Fo 3 d_p0 fun x_3 =>
 St x_3 (.bool true) w1 fun w2 =>
 R (.int .i64 22) w2) (
 Nc d_p0 <|
 Fo 1 d_p0 fun x_4 =>
 St x_4 n_p1 w1 fun w3 =>
 R (.int .i64 0) w3)
theorem Tie.delta_Reader_turned {d_p0 n_p1 : Value} {w : World} {R : Value → World → Prop} (h : Vcf.delta_Reader_turned Tryz.prog d_p0 n_p1 w R) : Cl Tryz.prog F.delta_Reader_turned #[d_p0, n_p1] w R :=
  cl_of_vc (n := 15) (rs := [(.tmp 4)]) (h := (.s .z (.s (.s .z (.i (.s .z (.s .z .z)) .z)) (.s .z (.s .z .z))))) (args := [d_p0, n_p1]) (by kernel_rfl) Tryz.func250 rfl (by kernel_rfl) rfl rfl rfl (Eq.mp (by kernel_rfl) h)

end Go.Proofs.YtoomfeeiehfpmaaGreatDoor
