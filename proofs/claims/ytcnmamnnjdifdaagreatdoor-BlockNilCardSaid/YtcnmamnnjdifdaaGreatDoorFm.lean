/- Formulas of the program's functions, printed by a program of the prover's own (dec.py); each is tied to its code by the kernel. -/
import Derived.Test.YtcnmamnnjdifdaaGreatDoorVc
import Derived.Test.YtcnmamnnjdifdaaGreatDoorChecked
set_option linter.unusedVariables false
set_option maxRecDepth 1000000
namespace Go.Proofs.YtcnmamnnjdifdaaGreatDoor
open Go Go.Vc

abbrev F.main_main : Nat := 0
abbrev F.gosem_cut : Nat := 1
abbrev F.gosem_cut_init : Nat := 2
abbrev F.balerlaw20_BlockOpens : Nat := 3
abbrev F.balerlaw20_BlockNil : Nat := 4
abbrev F.balerlaw20_letter : Nat := 5
abbrev F.block_Open : Nat := 6
abbrev F.balerref20_Open : Nat := 7
abbrev F.balerlaw20_ref : Nat := 8
abbrev F.block_Read : Nat := 9
abbrev F.block_NewReader : Nat := 10
abbrev F.block_Write : Nat := 11
abbrev F.block_Turned : Nat := 12
abbrev F.block_Reader_Step : Nat := 13
abbrev F.bits_NewReader : Nat := 14
abbrev F.block_Reader_Done : Nat := 15
abbrev F.block_Reader_Got : Nat := 16
abbrev F.block_Reader_Held : Nat := 17
abbrev F.bits_NewWriter : Nat := 18
abbrev F.balerref02_Of : Nat := 19
abbrev F.bits_Writer_Len : Nat := 20
abbrev F.bits_Writer_Pad : Nat := 21
abbrev F.bits_Writer_Take : Nat := 22
abbrev F.bits_Reader_At : Nat := 23
abbrev F.unbwt_Of : Nat := 24
abbrev F.rle_Decode : Nat := 25
abbrev F.crc_Of : Nat := 26
abbrev F.balerref03_Decode : Nat := 27
abbrev F.balerref18_Of : Nat := 28
abbrev F.bits_Reader_Seek : Nat := 29
abbrev F.bwt_Of : Nat := 30
abbrev F.used_Symbols : Nat := 31
abbrev F.mtf_Encode : Nat := 32
abbrev F.zeros_Encode : Nat := 33
abbrev F.code_Bits : Nat := 34
abbrev F.bits_Writer_Put : Nat := 35
abbrev F.used_Write : Nat := 36
abbrev F.code_Write : Nat := 37
abbrev F.block_Reader_step : Nat := 38
abbrev F.code_Reader_Held : Nat := 39
abbrev F.balerref02_Step : Nat := 40
abbrev F.bits_Writer_bit : Nat := 41
abbrev F.unbwt_New : Nat := 42
abbrev F.unbwt_Inverter_Step : Nat := 43
abbrev F.unbwt_Inverter_Take : Nat := 44
abbrev F.rle_unpack : Nat := 45
abbrev F.rle_Decode_1 : Nat := 46
abbrev F.crc_New : Nat := 47
abbrev F.crc_Sum_Text : Nat := 48
abbrev F.crc_Sum_Value : Nat := 49
abbrev F.balerref03_four : Nat := 50
abbrev F.balerref18_Links : Nat := 51
abbrev F.bits_Reader_end : Nat := 52
abbrev F.bwt_New : Nat := 53
abbrev F.bwt_Turner_Done : Nat := 54
abbrev F.bwt_Turner_Step : Nat := 55
abbrev F.bwt_Turner_Result : Nat := 56
abbrev F.used_listed : Nat := 57
abbrev F.mtf_New : Nat := 58
abbrev F.mtf_List_Find : Nat := 59
abbrev F.zeros_may : Nat := 60
abbrev F.zeros_row : Nat := 61
abbrev F.code_chosen : Nat := 62
abbrev F.picks_Bits : Nat := 63
abbrev F.delta_Bits : Nat := 64
abbrev F.tables_Cost : Nat := 65
abbrev F.bits_fits : Nat := 66
abbrev F.used_Is : Nat := 67
abbrev F.used_rows : Nat := 68
abbrev F.picks_Write : Nat := 69
abbrev F.delta_Write : Nat := 70
abbrev F.canon_New : Nat := 71
abbrev F.canon_Code_Put : Nat := 72
abbrev F.block_Reader_begin : Nat := 73
abbrev F.block_Reader_symbols : Nat := 74
abbrev F.block_row_waits : Nat := 75
abbrev F.block_row_next : Nat := 76
abbrev F.block_Reader_symbol : Nat := 77
abbrev F.block_Reader_end : Nat := 78
abbrev F.picks_Reader_Picks : Nat := 79
abbrev F.balerref02_Bits : Nat := 80
abbrev F.unbwt_Inverter_Done : Nat := 81
abbrev F.unbwt_Inverter_step : Nat := 82
abbrev F.crc_Table : Nat := 83
abbrev F.crc_Sum_Put : Nat := 84
abbrev F.sorter_New : Nat := 85
abbrev F.sorter_Sorter_Step : Nat := 86
abbrev F.sorter_Sorter_Done : Nat := 87
abbrev F.sorter_Sorter_Order : Nat := 88
abbrev F.bwt_Turner_take : Nat := 89
abbrev F.bytes_IndexByte : Nat := 90
abbrev F.mtf_List_touch : Nat := 91
abbrev F.slices_Index_int_int : Nat := 92
abbrev F.tables_Of : Nat := 93
abbrev F.picks_may : Nat := 94
abbrev F.picks_places : Nat := 95
abbrev F.delta_may : Nat := 96
abbrev F.delta_steps : Nat := 97
abbrev F.delta_Bits_1 : Nat := 98
abbrev F.freq_Groups : Nat := 99
abbrev F.freq_Group : Nat := 100
abbrev F.freq_Cost : Nat := 101
abbrev F.delta_Write_1 : Nat := 102
abbrev F.canon_whole : Nat := 103
abbrev F.slices_Clone_int_int : Nat := 104
abbrev F.canon_Code_Of : Nat := 105
abbrev F.bits_Reader_Left : Nat := 106
abbrev F.bits_Reader_Get : Nat := 107
abbrev F.used_Read : Nat := 108
abbrev F.block_rowOf : Nat := 109
abbrev F.mtf_List_At : Nat := 110
abbrev F.code_Reader_Step : Nat := 111
abbrev F.block_row_told : Nat := 112
abbrev F.code_Reader_Done : Nat := 113
abbrev F.unbwt_Inverter_begins : Nat := 114
abbrev F.crc_step : Nat := 115
abbrev F.sorter_Sorter_step : Nat := 116
abbrev F.bwt_ahead : Nat := 117
abbrev F.internal_bytealg_IndexByte : Nat := 118
abbrev F.freq_Counts : Nat := 119
abbrev F.tables_groupsOf : Nat := 120
abbrev F.tables_first : Nat := 121
abbrev F.tables_round : Nat := 122
abbrev F.picks_tabled : Nat := 123
abbrev F.slices_ContainsFunc_int_int : Nat := 124
abbrev F.picks_may_1 : Nat := 125
abbrev F.picks_fresh : Nat := 126
abbrev F.picks_order_find : Nat := 127
abbrev F.delta_sized : Nat := 128
abbrev F.delta_may_1 : Nat := 129
abbrev F.delta_length : Nat := 130
abbrev F.freq_part_int : Nat := 131
abbrev F.freq_all : Nat := 132
abbrev F.freq_together : Nat := 133
abbrev F.lens_Share : Nat := 134
abbrev F.slices_Contains_int_int : Nat := 135
abbrev F.bits_Reader_bit : Nat := 136
abbrev F.used_read : Nat := 137
abbrev F.code_NewReader : Nat := 138
abbrev F.zeros_NewReader : Nat := 139
abbrev F.code_Reader_symbol : Nat := 140
abbrev F.picks_Reader_Done : Nat := 141
abbrev F.code_Reader_pick : Nat := 142
abbrev F.picks_Reader_Tables : Nat := 143
abbrev F.code_Reader_table : Nat := 144
abbrev F.zeros_Reader_Put : Nat := 145
abbrev F.sorter_Sorter_join : Nat := 146
abbrev F.sorter_Sorter_lay : Nat := 147
abbrev F.sorter_Sorter_put : Nat := 148
abbrev F.sorter_Sorter_begin : Nat := 149
abbrev F.sorter_Sorter_rank : Nat := 150
abbrev F.tables_Number : Nat := 151
abbrev F.tables_pick : Nat := 152
abbrev F.freq_Add : Nat := 153
abbrev F.lens_Of : Nat := 154
abbrev F.slices_IndexFunc_int_int : Nat := 155
abbrev F.picks_order_touch : Nat := 156
abbrev F.freq_all_1 : Nat := 157
abbrev F.freq_may : Nat := 158
abbrev F.lens_between : Nat := 159
abbrev F.used_marks : Nat := 160
abbrev F.delta_NewReader : Nat := 161
abbrev F.picks_NewReader : Nat := 162
abbrev F.canon_Code_Get : Nat := 163
abbrev F.picks_Reader_Step : Nat := 164
abbrev F.delta_Reader_Step : Nat := 165
abbrev F.delta_Reader_Done : Nat := 166
abbrev F.delta_Reader_Lens : Nat := 167
abbrev F.zeros_Reader_more : Nat := 168
abbrev F.zeros_Reader_Count : Nat := 169
abbrev F.sorter_Sorter_above : Nat := 170
abbrev F.sorter_Sorter_pass : Nat := 171
abbrev F.lens_depths : Nat := 172
abbrev F.lens_Longest : Nat := 173
abbrev F.lens_Halved : Nat := 174
abbrev F.lens_between_1 : Nat := 175
abbrev F.canon_Code_get : Nat := 176
abbrev F.picks_Reader_pick : Nat := 177
abbrev F.picks_Reader_head : Nat := 178
abbrev F.delta_Reader_step : Nat := 179
abbrev F.sorter_Sorter_key : Nat := 180
abbrev F.lens_treesOf : Nat := 181
abbrev F.lens_trees_least : Nat := 182
abbrev F.lens_trees_join : Nat := 183
abbrev F.picks_Reader_fail : Nat := 184
abbrev F.delta_Reader_turned : Nat := 185
abbrev F.slices_SortStableFunc_int_int : Nat := 186
abbrev F.lens_treesOf_1 : Nat := 187
abbrev F.cmp_Compare_int : Nat := 188
abbrev F.slices_stableCmpFunc_int : Nat := 189
abbrev F.cmp_isNaN_int : Nat := 190
abbrev F.slices_insertionSortCmpFunc_int : Nat := 191
abbrev F.slices_symMergeCmpFunc_int : Nat := 192
abbrev F.slices_rotateCmpFunc_int : Nat := 193
abbrev F.slices_swapRangeCmpFunc_int : Nat := 194
abbrev F.runtime_boundsError_Error : Nat := 195
abbrev F.runtime_boundsError_RuntimeError : Nat := 196
abbrev F.runtime_errorString_Error : Nat := 197
abbrev F.runtime_errorString_RuntimeError : Nat := 198
abbrev F.runtime_plainError_Error : Nat := 199
abbrev F.runtime_plainError_RuntimeError : Nat := 200
abbrev F.runtime_errorAddressString_Error : Nat := 201
abbrev F.runtime_errorAddressString_RuntimeError : Nat := 202
abbrev F.runtime_TypeAssertionError_Error : Nat := 203
abbrev F.runtime_TypeAssertionError_RuntimeError : Nat := 204
abbrev F.runtime_PanicNilError_Error : Nat := 205
abbrev F.runtime_PanicNilError_RuntimeError : Nat := 206
abbrev F.internal_abi_Type_Align : Nat := 207
abbrev F.internal_runtime_maps_unhashableTypeError_Error : Nat := 208
abbrev F.internal_runtime_maps_unhashableTypeError_RuntimeError : Nat := 209
abbrev F.api_Errno_Error : Nat := 210
abbrev F.bits_Reader_Align : Nat := 211
abbrev F.code_Reader_Count : Nat := 212
abbrev F.mtf_List_Len : Nat := 213
abbrev F.crc_Sum_Reset : Nat := 214
abbrev F.canon_Code_Size : Nat := 215
abbrev F.internal_abi_Kind_String : Nat := 216
abbrev F.var_s_door_tables_bounds_is_laid_by_its_own_initialiser_plain_data_look_11 : Nat := 217
abbrev F.var_s_door_gosem_cut_vars_holds_initialisers_alone_see_the_manifest_s_row_cutvarsword_look_11_test_files_too : Nat := 218
abbrev F.var_s_door_the_look_of_gosem_cut_vars_went_over_the_folder_that_the_caller_named_as_the_repository_s_root_look_11 : Nat := 219
abbrev F.gosem_cut_vars : Nat := 220

/-- baler/balerlaw20.BlockOpens -/
def Vcf.balerlaw20_BlockOpens (P : Program) (g_p0 : Value) (w : World) (R : Value → World → Prop) : Prop   :=
 New g_p0 24 w fun g_1 w1 =>
 Fo 0 g_1 fun x_2 =>
 Ld x_2 w1 fun x_3 =>
 Lns x_3 fun x_4 =>
 Bp .gtr x_4 (.int .i64 100) fun x_5 =>
 Vif x_5 (
 Cl P F.balerlaw20_letter #[] w1 fun x_6 w2 =>
 R x_6 w2) (
 LdA 3 g_1 w1 fun x_7 =>
 Cl P F.block_Open #[x_7] w1 fun x_8 w3 =>
 Ex x_8 0 fun x_9 =>
 Ex x_8 1 fun x_10 =>
 LdA 3 g_1 w3 fun x_11 =>
 Cl P F.balerlaw20_ref #[x_11] w3 fun x_12 w4 =>
 Cl P F.balerref20_Open #[x_12] w4 fun x_13 w5 =>
 Ex x_13 0 fun x_14 =>
 Ex x_13 1 fun x_15 =>
 Bp .eql x_10 x_15 fun x_16 =>
 Vif x_16 (
 Bp .eql x_9 x_14 fun x_17 =>
 Vif x_17 (
 Cl P F.balerlaw20_letter #[] w5 fun x_18 w6 =>
 R x_18 w6) (
 R (.bool false) w5)) (
 R (.bool false) w5))
theorem Tie.balerlaw20_BlockOpens {g_p0 : Value} {w : World} {R : Value → World → Prop} (h : Vcf.balerlaw20_BlockOpens Tryz.prog g_p0 w R) : Cl Tryz.prog F.balerlaw20_BlockOpens #[g_p0] w R :=
  cl_of_vc (n := 34) (rs := [(.tmp 2)]) (h := (.s .z (.s (.s .z (.i (.s .z .z) .z)) (.s .z (.s .z (.s .z .z)))))) (args := [g_p0]) (by kernel_rfl) Tryz.func3 rfl (by kernel_rfl) rfl rfl rfl (Eq.mp (by kernel_rfl) h)

/-- baler/balerlaw20.BlockNil -/
def Vcf.balerlaw20_BlockNil (P : Program) (g_p0 room_p1 : Value) (w : World) (R : Value → World → Prop) : Prop   :=
 New g_p0 24 w fun g_1 w1 =>
 Fo 0 g_1 fun x_2 =>
 Ld x_2 w1 fun x_3 =>
 Lns x_3 fun x_4 =>
 Bp .gtr x_4 (.int .i64 100) fun x_5 =>
 Vif x_5 (
 Cl P F.balerlaw20_letter #[] w1 fun x_6 w2 =>
 R x_6 w2) (
 Cl P F.block_Read #[(.pointer none), room_p1] w1 fun x_7 w3 =>
 Ex x_7 0 fun x_8 =>
 Ex x_7 1 fun x_9 =>
 New (zeroP P 24) 24 w3 fun x_10 w4 =>
 StA 3 x_10 x_8 w4 fun w5 =>
 Cl P F.block_NewReader #[(.int .i64 5)] w5 fun x_11 w6 =>
 Ex x_11 0 fun x_12 =>
 Ex x_11 1 fun x_13 =>
 Bp .eql x_13 (.int .i64 0) fun x_14 =>
 Vif x_14 (
 Fo 0 g_1 fun x_15 =>
 Ld x_15 w6 fun x_16 =>
 Fo 2 g_1 fun x_17 =>
 Ld x_17 w6 fun x_18 =>
 Cl P F.block_Write #[(.pointer none), x_16, x_18] w6 fun x_19 w7 =>
 Bp .eql x_19 (.int .i64 7) fun x_20 =>
 Vif x_20 (
 Fo 0 g_1 fun x_21 =>
 Ld x_21 w7 fun x_22 =>
 Fo 1 g_1 fun x_23 =>
 Ld x_23 w7 fun x_24 =>
 Fo 2 g_1 fun x_25 =>
 Ld x_25 w7 fun x_26 =>
 Cl P F.block_Turned #[(.pointer none), x_22, x_24, x_26] w7 fun x_27 w8 =>
 Bp .eql x_27 (.int .i64 7) fun x_28 =>
 Vif x_28 (
 Bp .eql x_9 (.int .i64 7) fun x_29 =>
 Vif x_29 (
 LdA 3 x_10 w8 fun x_30 =>
 Bd P 24 #[] w8 fun x_31 =>
 Be P .eql 24 (.tmp 49) (.tmp 50) x_30 x_31 w8 fun x_32 =>
 Vif x_32 (
 Cl P F.bits_NewReader #[(.string ⟨#[97]⟩)] w8 fun x_33 w9 =>
 Cl P F.block_Reader_Step #[(.pointer none), x_33] w9 fun x_34 w10 =>
 Bp .eql x_34 (.int .i64 7) fun x_35 =>
 Vif x_35 (
 Cl P F.block_Reader_Step #[x_12, (.pointer none)] w10 fun x_36 w11 =>
 Bp .eql x_36 (.int .i64 7) fun x_37 =>
 Vif x_37 (
 Cl P F.block_Reader_Done #[(.pointer none)] w11 fun x_38 w12 =>
 Up .not x_38 fun x_39 =>
 Vif x_39 (
 Cl P F.block_Reader_Got #[(.pointer none)] w12 fun x_40 w13 =>
 Bd P 24 #[] w13 fun x_41 =>
 Be P .eql 24 (.tmp 71) (.tmp 72) x_40 x_41 w13 fun x_42 =>
 Vif x_42 (
 Cl P F.block_Reader_Held #[(.pointer none)] w13 fun x_43 w14 =>
 Bp .eql x_43 (.int .i64 0) fun x_44 =>
 Vif x_44 (
 Cl P F.block_Reader_Held #[x_12] w14 fun x_45 w15 =>
 Bp .eql x_45 (.int .i64 0) fun x_46 =>
 Vif x_46 (
 Cl P F.balerlaw20_letter #[] w15 fun x_47 w16 =>
 R x_47 w16) (
 R (.bool false) w15)) (
 R (.bool false) w14)) (
 R (.bool false) w13)) (
 R (.bool false) w12)) (
 R (.bool false) w11)) (
 R (.bool false) w10)) (
 R (.bool false) w8)) (
 R (.bool false) w8)) (
 R (.bool false) w8)) (
 R (.bool false) w7)) (
 R (.bool false) w6))
theorem Tie.balerlaw20_BlockNil {g_p0 room_p1 : Value} {w : World} {R : Value → World → Prop} (h : Vcf.balerlaw20_BlockNil Tryz.prog g_p0 room_p1 w R) : Cl Tryz.prog F.balerlaw20_BlockNil #[g_p0, room_p1] w R :=
  cl_of_vc (n := 88) (rs := [(.tmp 4)]) (h := (.s .z (.s (.s .z (.i (.s .z .z) .z)) (.s .z (.s .z (.s .z (.s .z .z))))))) (args := [g_p0, room_p1]) (by kernel_rfl) Tryz.func4 rfl (by kernel_rfl) rfl rfl rfl (Eq.mp (by kernel_rfl) h)

/-- baler/block.Open -/
def Vcf.block_Open (P : Program) (g_p0 : Value) (w : World) (R : Value → World → Prop) : Prop   :=
 New g_p0 24 w fun g_1 w1 =>
 Fo 0 g_1 fun x_2 =>
 Ld x_2 w1 fun x_3 =>
 Fo 1 g_1 fun x_4 =>
 Ld x_4 w1 fun x_5 =>
 Cl P F.unbwt_Of #[x_3, x_5] w1 fun x_6 w2 =>
 Ex x_6 0 fun x_7 =>
 Ex x_6 1 fun x_8 =>
 Bp .neq x_8 (.int .i64 0) fun x_9 =>
 Vif x_9 (
 R (.tuple #[(.string ⟨#[]⟩), x_8]) w2) (
 Cl P F.rle_Decode #[x_7] w2 fun x_10 w3 =>
 Ex x_10 0 fun x_11 =>
 Ex x_10 1 fun x_12 =>
 Bp .neq x_12 (.int .i64 0) fun x_13 =>
 Vif x_13 (
 R (.tuple #[(.string ⟨#[]⟩), (.int .i64 25)]) w3) (
 Dr w3 fun w4 =>
 Cl P F.crc_Of #[x_11] w4 fun x_14 w5 =>
 Fo 2 g_1 fun x_15 =>
 Ld x_15 w5 fun x_16 =>
 Rk (fun w K => Ld x_15 w fun x_17 => K x_17) x_16 w4 <|
 Bp .neq x_14 x_16 fun x_19 =>
 Vif x_19 (
 R (.tuple #[(.string ⟨#[]⟩), (.int .i64 21)]) w5) (
 R (.tuple #[x_11, (.int .i64 0)]) w5)))
theorem Tie.block_Open {g_p0 : Value} {w : World} {R : Value → World → Prop} (h : Vcf.block_Open Tryz.prog g_p0 w R) : Cl Tryz.prog F.block_Open #[g_p0] w R :=
  cl_of_vc (n := 33) (rs := [(.tmp 2), (.tmp 3)]) (h := (.s .z (.s .z (.s (.s .z (.i (.s .z .z) .z)) (.s .z (.s (.b (.s .z (.i (.s .z .z) (.s (.r (.staged [0, 1, 0, 4, 15, 31])) (.i (.s .z .z) .z))))) (.s .z .z))))))) (args := [g_p0]) (by kernel_rfl) Tryz.func6 rfl (by kernel_rfl) rfl rfl rfl (Eq.mp (by kernel_rfl) h)

/-- baler/balerref20.Open -/
def Vcf.balerref20_Open (P : Program) (g_p0 : Value) (w : World) (R : Value → World → Prop) : Prop   :=
 New g_p0 31 w fun g_1 w1 =>
 Fo 0 g_1 fun x_2 =>
 Ld x_2 w1 fun x_3 =>
 Bp .eql x_3 (.string ⟨#[]⟩) fun x_4 =>
 Vif x_4 (
 R (.tuple #[(.string ⟨#[]⟩), (.int .i64 1)]) w1) (
 VJoin 1 (fun _ x_5 w2 =>
 Vif x_5 (
 R (.tuple #[(.string ⟨#[]⟩), (.int .i64 23)]) w2) (
 Fo 0 g_1 fun x_6 =>
 Ld x_6 w2 fun x_7 =>
 Fo 1 g_1 fun x_8 =>
 Ld x_8 w2 fun x_9 =>
 Cl P F.balerref18_Of #[x_7, x_9] w2 fun x_10 w3 =>
 Cl P F.balerref03_Decode #[x_10] w3 fun x_11 w4 =>
 Ex x_11 0 fun x_12 =>
 Ex x_11 1 fun x_13 =>
 Bp .neq x_13 (.int .i64 0) fun x_14 =>
 Vif x_14 (
 R (.tuple #[(.string ⟨#[]⟩), (.int .i64 25)]) w4) (
 Dr w4 fun w5 =>
 Cl P F.balerref02_Of #[x_12] w5 fun x_15 w6 =>
 Fo 2 g_1 fun x_16 =>
 Ld x_16 w6 fun x_17 =>
 Rk (fun w K => Ld x_16 w fun x_18 => K x_18) x_17 w5 <|
 Bp .neq x_15 x_17 fun x_20 =>
 Vif x_20 (
 R (.tuple #[(.string ⟨#[]⟩), (.int .i64 21)]) w6) (
 R (.tuple #[x_12, (.int .i64 0)]) w6))))
 (fun J21 =>
 Fo 1 g_1 fun x_22 =>
 Ld x_22 w1 fun x_23 =>
 Bp .lss x_23 (.int .i64 0) fun x_24 =>
 Vif x_24 (
 KE [g_1] [g_1] <| J21 (.bool true) w1) (
 Fo 1 g_1 fun x_25 =>
 Ld x_25 w1 fun x_26 =>
 Fo 0 g_1 fun x_27 =>
 Ld x_27 w1 fun x_28 =>
 Lns x_28 fun x_29 =>
 Bp .geq x_26 x_29 fun x_30 =>
 KE [g_1] [g_1] <| J21 x_30 w1)))
theorem Tie.balerref20_Open {g_p0 : Value} {w : World} {R : Value → World → Prop} (h : Vcf.balerref20_Open Tryz.prog g_p0 w R) : Cl Tryz.prog F.balerref20_Open #[g_p0] w R :=
  cl_of_vc (n := 37) (rs := [(.tmp 2), (.tmp 3)]) (h := (.s .z (.s (.s .z (.i (.s .z .z) .z)) (.s (.j [19] [1] .z (.i (.s .z .z) .z)) (.s .z (.s (.s .z (.i (.s .z .z) .z)) (.s (.s (.r (.staged [0, 1, 0, 4, 15])) (.i (.s .z .z) .z)) (.s .z .z)))))))) (args := [g_p0]) (by kernel_rfl) Tryz.func7 rfl (by kernel_rfl) rfl rfl rfl (Eq.mp (by kernel_rfl) h)

/-- baler/balerlaw20.ref -/
def Vcf.balerlaw20_ref (P : Program) (g_p0 : Value) (w : World) (R : Value → World → Prop) : Prop   :=
 New g_p0 24 w fun g_1 w1 =>
 New (zeroP P 31) 31 w1 fun x_2 w2 =>
 Fo 0 g_1 fun x_3 =>
 Ld x_3 w2 fun x_4 =>
 Fo 1 g_1 fun x_5 =>
 Ld x_5 w2 fun x_6 =>
 Fo 2 g_1 fun x_7 =>
 Ld x_7 w2 fun x_8 =>
 Bd P 31 #[(0, x_4), (1, x_6), (2, x_8)] w2 fun x_9 =>
 StA 3 x_2 x_9 w2 fun w3 =>
 LdA 3 x_2 w3 fun x_10 =>
 R x_10 w3
theorem Tie.balerlaw20_ref {g_p0 : Value} {w : World} {R : Value → World → Prop} (h : Vcf.balerlaw20_ref Tryz.prog g_p0 w R) : Cl Tryz.prog F.balerlaw20_ref #[g_p0] w R :=
  cl_of_vc (n := 10) (rs := [(.cell 2 31)]) (h := (.s .z (.s .z .z))) (args := [g_p0]) (by kernel_rfl) Tryz.func8 rfl (by kernel_rfl) rfl rfl rfl (Eq.mp (by kernel_rfl) h)

/-- baler/block.Read -/
def Vcf.block_Read (P : Program) (r_p0 room_p1 : Value) (w : World) (R : Value → World → Prop) : Prop   :=
 New (zeroP P 24) 24 w fun x_1 w1 =>
 Bn P 73 false r_p0 (.pointer none) fun x_2 =>
 Vif x_2 (
 Bd P 24 #[] w1 fun x_3 =>
 StA 3 x_1 x_3 w1 fun w2 =>
 LdA 3 x_1 w2 fun x_4 =>
 R (.tuple #[x_4, (.int .i64 7)]) w2) (
 Cl P F.block_NewReader #[room_p1] w1 fun x_5 w3 =>
 Ex x_5 0 fun x_6 =>
 Ex x_5 1 fun x_7 =>
 Bp .neq x_7 (.int .i64 0) fun x_8 =>
 Vif x_8 (
 Bd P 24 #[] w3 fun x_9 =>
 StA 3 x_1 x_9 w3 fun w4 =>
 LdA 3 x_1 w4 fun x_10 =>
 R (.tuple #[x_10, x_7]) w4) (
 Cl P F.bits_Reader_At #[r_p0] w3 fun x_11 w5 =>
 VLoop 0 [] w5 fun _ next12 w6 =>
 Cl P F.block_Reader_Done #[x_6] w6 fun x_13 w7 =>
 Up .not x_13 fun x_14 =>
 Vif x_14 (
 Cl P F.block_Reader_Step #[x_6, r_p0] w7 fun x_15 w8 =>
 Bp .neq x_15 (.int .i64 0) fun x_16 =>
 Vif x_16 (
 Cl P F.bits_Reader_Seek #[r_p0, x_11] w8 fun x_17 w9 =>
 Bd P 24 #[] w9 fun x_18 =>
 StA 3 x_1 x_18 w9 fun w10 =>
 LdA 3 x_1 w10 fun x_19 =>
 R (.tuple #[x_19, x_15]) w10) (
 KE [r_p0, x_1, x_6, x_11] [r_p0, x_1, x_6, x_11] <| next12 w8)) (
 Cl P F.block_Reader_Got #[x_6] w7 fun x_20 w11 =>
 StA 3 x_1 x_20 w11 fun w12 =>
 LdA 3 x_1 w12 fun x_21 =>
 R (.tuple #[x_21, (.int .i64 0)]) w12)))
theorem Tie.block_Read {r_p0 room_p1 : Value} {w : World} {R : Value → World → Prop} (h : Vcf.block_Read Tryz.prog r_p0 room_p1 w R) : Cl Tryz.prog F.block_Read #[r_p0, room_p1] w R :=
  cl_of_vc (n := 39) (rs := [(.cell 4 24), (.tmp 5)]) (h := (.s .z (.s (.s .z (.i (.s .z .z) .z)) (.s .z (.s (.s .z (.i (.s .z .z) .z)) (.s .z (.s (.b (.l [] [0, 4, 6, 8] (.s (.s .z (.i .z .z)) (.b (.s .z (.s .z (.i (.s .z (.s .z .z)) .z))))))) (.s .z .z)))))))) (args := [r_p0, room_p1]) (by kernel_rfl) Tryz.func9 rfl (by kernel_rfl) rfl rfl rfl (Eq.mp (by kernel_rfl) h)

/-- baler/block.NewReader -/
def Vcf.block_NewReader (P : Program) (room_p0 : Value) (w : World) (R : Value → World → Prop) : Prop   :=
 VJoin 1 (fun _ x_1 w1 =>
 Vif x_1 (
 R (.tuple #[(.pointer none), (.int .i64 1)]) w1) (
 Bd P 59 #[(1, room_p0)] w1 fun x_2 =>
 New x_2 59 w1 fun x_3 w2 =>
 R (.tuple #[x_3, (.int .i64 0)]) w2))
 (fun J4 =>
 Bp .lss room_p0 (.int .i64 5) fun x_5 =>
 Vif x_5 (
 KE [room_p0] [room_p0] <| J4 (.bool true) w) (
 Bp .gtr room_p0 (.int .i64 900000) fun x_6 =>
 KE [room_p0] [room_p0] <| J4 x_6 w))
theorem Tie.block_NewReader {room_p0 : Value} {w : World} {R : Value → World → Prop} (h : Vcf.block_NewReader Tryz.prog room_p0 w R) : Cl Tryz.prog F.block_NewReader #[room_p0] w R :=
  cl_of_vc (n := 13) (rs := [(.tmp 2), (.tmp 3)]) (h := (.s .z (.s (.j [9] [0] .z (.i (.s .z .z) .z)) (.s .z .z)))) (args := [room_p0]) (by kernel_rfl) Tryz.func10 rfl (by kernel_rfl) rfl rfl rfl (Eq.mp (by kernel_rfl) h)

/-- baler/block.Write -/
def Vcf.block_Write (P : Program) (w_p0 body_p1 sum_p2 : Value) (w : World) (R : Value → World → Prop) : Prop   :=
 Bn P 80 false w_p0 (.pointer none) fun x_1 =>
 Vif x_1 (
 R (.int .i64 7) w) (
 Cl P F.bwt_Of #[body_p1] w fun x_2 w1 =>
 Ex x_2 0 fun x_3 =>
 Ex x_2 1 fun x_4 =>
 Ex x_2 2 fun x_5 =>
 Bp .neq x_5 (.int .i64 0) fun x_6 =>
 Vif x_6 (
 R (.int .i64 1) w1) (
 Cl P F.block_Turned #[w_p0, x_3, x_4, sum_p2] w1 fun x_7 w2 =>
 R x_7 w2))
theorem Tie.block_Write {w_p0 body_p1 sum_p2 : Value} {w : World} {R : Value → World → Prop} (h : Vcf.block_Write Tryz.prog w_p0 body_p1 sum_p2 w R) : Cl Tryz.prog F.block_Write #[w_p0, body_p1, sum_p2] w R :=
  cl_of_vc (n := 25) (rs := [(.tmp 6)]) (h := (.s .z (.s (.s .z (.i (.s .z .z) .z)) (.s .z (.s (.s .z (.i (.s .z .z) .z)) (.s .z .z)))))) (args := [w_p0, body_p1, sum_p2]) (by kernel_rfl) Tryz.func11 rfl (by kernel_rfl) rfl rfl rfl (Eq.mp (by kernel_rfl) h)

/-- baler/block.Turned -/
def Vcf.block_Turned (P : Program) (w_p0 last_p1 origin_p2 sum_p3 : Value) (w : World) (R : Value → World → Prop) : Prop   :=
 Bn P 80 false w_p0 (.pointer none) fun x_1 =>
 Vif x_1 (
 R (.int .i64 7) w) (
 VJoin 1 (fun _ x_2 w1 =>
 Vif x_2 (
 R (.int .i64 1) w1) (
 Cl P F.used_Symbols #[last_p1] w1 fun x_3 w2 =>
 Cl P F.mtf_Encode #[last_p1, x_3] w2 fun x_4 w3 =>
 Ex x_4 0 fun x_5 =>
 Ex x_4 1 fun x_6 =>
 Lns x_3 fun x_7 =>
 Cl P F.zeros_Encode #[x_5, x_7] w3 fun x_8 w4 =>
 Ex x_8 0 fun x_9 =>
 Ex x_8 1 fun x_10 =>
 Lns x_3 fun x_11 =>
 Bp .add x_11 (.int .i64 2) fun x_12 =>
 Cl P F.code_Bits #[x_9, x_12] w4 fun x_13 w5 =>
 Ex x_13 0 fun x_14 =>
 Ex x_13 1 fun x_15 =>
 Bp .neq x_15 (.int .i64 0) fun x_16 =>
 Vif x_16 (
 R x_15 w5) (
 Cl P F.bits_Writer_Put #[w_p0, sum_p3, (.int .i64 32)] w5 fun x_17 w6 =>
 Cl P F.bits_Writer_Put #[w_p0, (.int .u32 0), (.int .i64 1)] w6 fun x_18 w7 =>
 Ci .u32 origin_p2 fun x_19 =>
 Cl P F.bits_Writer_Put #[w_p0, x_19, (.int .i64 24)] w7 fun x_20 w8 =>
 Cl P F.used_Write #[w_p0, x_3] w8 fun x_21 w9 =>
 Lns x_3 fun x_22 =>
 Bp .add x_22 (.int .i64 2) fun x_23 =>
 Cl P F.code_Write #[w_p0, x_9, x_23] w9 fun x_24 w10 =>
 R x_24 w10)))
 (fun J25 =>
 Bp .eql last_p1 (.string ⟨#[]⟩) fun x_26 =>
 Vif x_26 (
 KE [w_p0, last_p1, origin_p2, sum_p3] [w_p0, last_p1, origin_p2, sum_p3] <| J25 (.bool true) w) (
 Lns last_p1 fun x_27 =>
 Bp .gtr x_27 (.int .i64 900000) fun x_28 =>
 Vif x_28 (
 KE [w_p0, last_p1, origin_p2, sum_p3] [w_p0, last_p1, origin_p2, sum_p3] <| J25 (.bool true) w) (
 Bp .lss origin_p2 (.int .i64 0) fun x_29 =>
 Vif x_29 (
 KE [w_p0, last_p1, origin_p2, sum_p3] [w_p0, last_p1, origin_p2, sum_p3] <| J25 (.bool true) w) (
 Lns last_p1 fun x_30 =>
 Bp .geq origin_p2 x_30 fun x_31 =>
 KE [w_p0, last_p1, origin_p2, sum_p3] [w_p0, last_p1, origin_p2, sum_p3] <| J25 x_31 w)))))
theorem Tie.block_Turned {w_p0 last_p1 origin_p2 sum_p3 : Value} {w : World} {R : Value → World → Prop} (h : Vcf.block_Turned Tryz.prog w_p0 last_p1 origin_p2 sum_p3 w R) : Cl Tryz.prog F.block_Turned #[w_p0, last_p1, origin_p2, sum_p3] w R :=
  cl_of_vc (n := 81) (rs := [(.tmp 8)]) (h := (.s .z (.s (.b (.s .z (.i (.s .z .z) (.j [19] [0, 1, 2, 3] .z (.i (.s .z .z) .z))))) (.s .z (.s .z (.s .z (.s (.s .z (.s .z (.i (.s .z .z) .z))) (.s .z (.s .z (.s .z (.s .z (.s .z .z)))))))))))) (args := [w_p0, last_p1, origin_p2, sum_p3]) (by kernel_rfl) Tryz.func12 rfl (by kernel_rfl) rfl rfl rfl (Eq.mp (by kernel_rfl) h)

/-- (baler/block.Reader).Step -/
def Vcf.block_Reader_Step (P : Program) (b_p0 r_p1 : Value) (w : World) (R : Value → World → Prop) : Prop   :=
 VJoin 1 (fun _ x_1 w1 =>
 Vif x_1 (
 R (.int .i64 7) w1) (
 Nc b_p0 <|
 Fo 7 b_p0 fun x_2 =>
 Ld x_2 w1 fun x_3 =>
 Bp .neq x_3 (.int .i64 0) fun x_4 =>
 Vif x_4 (
 Nc b_p0 <|
 Fo 7 b_p0 fun x_5 =>
 Ld x_5 w1 fun x_6 =>
 R x_6 w1) (
 Cl P F.block_Reader_step #[b_p0, r_p1] w1 fun x_7 w2 =>
 Bp .neq x_7 (.int .i64 3) fun x_8 =>
 Vif x_8 (
 Nc b_p0 <|
 Fo 7 b_p0 fun x_9 =>
 St x_9 x_7 w2 fun w3 =>
 R x_7 w3) (
 R x_7 w2))))
 (fun J10 =>
 Bn P 59 false b_p0 (.pointer none) fun x_11 =>
 Vif x_11 (
 KE [b_p0, r_p1] [b_p0, r_p1] <| J10 (.bool true) w) (
 Bn P 73 false r_p1 (.pointer none) fun x_12 =>
 Vif x_12 (
 KE [b_p0, r_p1] [b_p0, r_p1] <| J10 (.bool true) w) (
 Nc b_p0 <|
 Fo 6 b_p0 fun x_13 =>
 Ld x_13 w fun x_14 =>
 KE [b_p0, r_p1] [b_p0, r_p1] <| J10 x_14 w)))
theorem Tie.block_Reader_Step {b_p0 r_p1 : Value} {w : World} {R : Value → World → Prop} (h : Vcf.block_Reader_Step Tryz.prog b_p0 r_p1 w R) : Cl Tryz.prog F.block_Reader_Step #[b_p0, r_p1] w R :=
  cl_of_vc (n := 39) (rs := [(.tmp 4)]) (h := (.s .z (.s (.b (.j [6] [0, 1] .z (.i (.s .z .z) (.s .z (.i (.s .z .z) .z))))) (.s .z (.s (.s .z (.i .z .z)) (.s .z .z)))))) (args := [b_p0, r_p1]) (by kernel_rfl) Tryz.func13 rfl (by kernel_rfl) rfl rfl rfl (Eq.mp (by kernel_rfl) h)

/-- baler/bits.NewReader -/
def Vcf.bits_NewReader (P : Program) (s_p0 : Value) (w : World) (R : Value → World → Prop) : Prop   :=
 Bd P 73 #[(0, s_p0)] w fun x_1 =>
 New x_1 73 w fun x_2 w1 =>
 R x_2 w1
theorem Tie.bits_NewReader {s_p0 : Value} {w : World} {R : Value → World → Prop} (h : Vcf.bits_NewReader Tryz.prog s_p0 w R) : Cl Tryz.prog F.bits_NewReader #[s_p0] w R :=
  cl_of_vc (n := 6) (rs := [(.tmp 2)]) (h := (.s .z (.s .z .z))) (args := [s_p0]) (by kernel_rfl) Tryz.func14 rfl (by kernel_rfl) rfl rfl rfl (Eq.mp (by kernel_rfl) h)

/-- (baler/block.Reader).Done -/
def Vcf.block_Reader_Done (P : Program) (b_p0 : Value) (w : World) (R : Value → World → Prop) : Prop   :=
 Bn P 59 true b_p0 (.pointer none) fun x_1 =>
 Vif x_1 (
 Nc b_p0 <|
 Fo 6 b_p0 fun x_2 =>
 Ld x_2 w fun x_3 =>
 R x_3 w) (
 R (.bool false) w)
theorem Tie.block_Reader_Done {b_p0 : Value} {w : World} {R : Value → World → Prop} (h : Vcf.block_Reader_Done Tryz.prog b_p0 w R) : Cl Tryz.prog F.block_Reader_Done #[b_p0] w R :=
  cl_of_vc (n := 11) (rs := [(.tmp 2)]) (h := (.s .z (.s .z .z))) (args := [b_p0]) (by kernel_rfl) Tryz.func15 rfl (by kernel_rfl) rfl rfl rfl (Eq.mp (by kernel_rfl) h)

/-- (baler/block.Reader).Got -/
def Vcf.block_Reader_Got (P : Program) (b_p0 : Value) (w : World) (R : Value → World → Prop) : Prop   :=
 New (zeroP P 24) 24 w fun x_1 w1 =>
 Cl P F.block_Reader_Done #[b_p0] w1 fun x_2 w2 =>
 Up .not x_2 fun x_3 =>
 Vif x_3 (
 Bd P 24 #[] w2 fun x_4 =>
 StA 3 x_1 x_4 w2 fun w3 =>
 LdA 3 x_1 w3 fun x_5 =>
 R x_5 w3) (
 Dr w2 fun w4 =>
 Nc b_p0 <|
 Fo 5 b_p0 fun x_6 =>
 Ld x_6 w4 fun x_7 =>
 Cv P 57 9 x_7 w4 fun x_9 =>
 Nc b_p0 <|
 Fo 4 b_p0 fun x_11 =>
 Ld x_11 w4 fun x_12 =>
 Nc b_p0 <|
 Fo 3 b_p0 fun x_14 =>
 Ld x_14 w4 fun x_15 =>
 Bd P 24 #[(0, x_9), (1, x_12), (2, x_15)] w4 fun x_17 =>
 StA 3 x_1 x_17 w4 fun w5 =>
 LdA 3 x_1 w5 fun x_19 =>
 R x_19 w5)
theorem Tie.block_Reader_Got {b_p0 : Value} {w : World} {R : Value → World → Prop} (h : Vcf.block_Reader_Got Tryz.prog b_p0 w R) : Cl Tryz.prog F.block_Reader_Got #[b_p0] w R :=
  cl_of_vc (n := 21) (rs := [(.cell 2 24)]) (h := (.s .z (.s (.s .z (.i (.s .z .z) .z)) (.s (.r (.staged [0, 1, 3, 7, 15, 0, 32, 96, 224, 0, 512, 1536, 3584, 8191, 16383])) .z)))) (args := [b_p0]) (by kernel_rfl) Tryz.func16 rfl (by kernel_rfl) rfl rfl rfl (Eq.mp (by kernel_rfl) h)

/-- (baler/block.Reader).Held -/
def Vcf.block_Reader_Held (P : Program) (b_p0 : Value) (w : World) (R : Value → World → Prop) : Prop   :=
 Bn P 59 false b_p0 (.pointer none) fun x_1 =>
 Vif x_1 (
 R (.int .i64 0) w) (
 Nc b_p0 <|
 Fo 0 b_p0 fun x_2 =>
 Ld x_2 w fun x_3 =>
 Bn P 78 false x_3 (.pointer none) fun x_4 =>
 Vif x_4 (
 Nc b_p0 <|
 Fo 5 b_p0 fun x_5 =>
 Ld x_5 w fun x_6 =>
 Lnl x_6 fun x_7 =>
 R x_7 w) (
 Dr w fun w1 =>
 Nc b_p0 <|
 Fo 0 b_p0 fun x_8 =>
 Ld x_8 w1 fun x_9 =>
 Nc x_9 <|
 Fo 0 x_9 fun x_11 =>
 Ld x_11 w1 fun x_12 =>
 Cl P F.code_Reader_Held #[x_12] w1 fun x_14 w2 =>
 Nc b_p0 <|
 Fo 5 b_p0 fun x_15 =>
 Ld x_15 w2 fun x_16 =>
 Rk (fun w K => Ld x_15 w fun x_17 => K x_17) x_16 w1 <|
 Lnl x_16 fun x_19 =>
 Rk (fun w K => Lnl x_16 fun x_20 => K x_20) x_19 w1 <|
 Bp .add x_14 x_19 fun x_22 =>
 R x_22 w2))
theorem Tie.block_Reader_Held {b_p0 : Value} {w : World} {R : Value → World → Prop} (h : Vcf.block_Reader_Held Tryz.prog b_p0 w R) : Cl Tryz.prog F.block_Reader_Held #[b_p0] w R :=
  cl_of_vc (n := 31) (rs := [(.tmp 2)]) (h := (.s .z (.s (.b (.s .z (.i (.s .z .z) (.s .z (.i (.s .z .z) .z))))) (.s (.r (.staged [0, 1, 3, 7, 15, 31, 63, 127, 0, 256, 768, 1792, 3840, 8191, 16383])) .z)))) (args := [b_p0]) (by kernel_rfl) Tryz.func17 rfl (by kernel_rfl) rfl rfl rfl (Eq.mp (by kernel_rfl) h)

/-- baler/balerref02.Of -/
def Vcf.balerref02_Of (P : Program) (s_p0 : Value) (w : World) (R : Value → World → Prop) : Prop   :=
 VLoop 2 [(.int .u32 4294967295), (.int .i64 0)] w fun _ next3 x_1 i_2 w1 =>
 Lns s_p0 fun x_4 =>
 Bp .lss i_2 x_4 fun x_5 =>
 Vif x_5 (
 Ixs s_p0 i_2 fun x_6 =>
 Cl P F.balerref02_Step #[x_1, x_6] w1 fun x_7 w2 =>
 Bp .add i_2 (.int .i64 1) fun x_8 =>
 KE [s_p0] [s_p0] <| next3 x_7 x_8 w2) (
 Bp .sub (.int .u32 4294967295) x_1 fun x_9 =>
 R x_9 w1)
theorem Tie.balerref02_Of {s_p0 : Value} {w : World} {R : Value → World → Prop} (h : Vcf.balerref02_Of Tryz.prog s_p0 w R) : Cl Tryz.prog F.balerref02_Of #[s_p0] w R :=
  cl_of_vc (n := 18) (rs := [(.tmp 2)]) (h := (.s .z (.s .z (.s (.s .z (.b (.l [3, 4] [0] (.s (.s .z (.i .z .z)) (.s (.b .z) .z))))) (.s .z .z))))) (args := [s_p0]) (by kernel_rfl) Tryz.func19 rfl (by kernel_rfl) rfl rfl rfl (Eq.mp (by kernel_rfl) h)

/-- baler/unbwt.Of -/
def Vcf.unbwt_Of (P : Program) (last_p0 origin_p1 : Value) (w : World) (R : Value → World → Prop) : Prop   :=
 Cl P F.unbwt_New #[last_p0, origin_p1] w fun x_1 w1 =>
 Ex x_1 0 fun x_2 =>
 Ex x_1 1 fun x_3 =>
 Bp .neq x_3 (.int .i64 0) fun x_4 =>
 Vif x_4 (
 R (.tuple #[(.string ⟨#[]⟩), x_3]) w1) (
 Lns last_p0 fun x_5 =>
 Bp .mul (.int .i64 3) x_5 fun x_6 =>
 Cl P F.unbwt_Inverter_Step #[x_2, x_6] w1 fun x_7 w2 =>
 Cl P F.unbwt_Inverter_Take #[x_2] w2 fun x_8 w3 =>
 R (.tuple #[x_8, (.int .i64 0)]) w3)
theorem Tie.unbwt_Of {last_p0 origin_p1 : Value} {w : World} {R : Value → World → Prop} (h : Vcf.unbwt_Of Tryz.prog last_p0 origin_p1 w R) : Cl Tryz.prog F.unbwt_Of #[last_p0, origin_p1] w R :=
  cl_of_vc (n := 24) (rs := [(.tmp 4), (.tmp 5)]) (h := (.s .z (.s .z (.s (.s .z (.i (.s .z .z) .z)) (.s .z (.s .z .z)))))) (args := [last_p0, origin_p1]) (by kernel_rfl) Tryz.func24 rfl (by kernel_rfl) rfl rfl rfl (Eq.mp (by kernel_rfl) h)

/-- baler/rle.Decode -/
def Vcf.rle_Decode (P : Program) (s_p0 : Value) (w : World) (R : Value → World → Prop) : Prop   :=
 New (zeroP P 57) 57 w fun out_1 w1 =>
 Mf P (.func 46) #[] #[out_1] w1 fun x_2 =>
 Cl P F.rle_unpack #[s_p0, x_2] w1 fun x_3 w2 =>
 Bp .neq x_3 (.int .i64 0) fun x_4 =>
 Vif x_4 (
 R (.tuple #[(.string ⟨#[]⟩), x_3]) w2) (
 Ld out_1 w2 fun x_5 =>
 Cw P 57 9 x_5 w2 fun x_6 w3 =>
 R (.tuple #[x_6, (.int .i64 0)]) w3)
theorem Tie.rle_Decode {s_p0 : Value} {w : World} {R : Value → World → Prop} (h : Vcf.rle_Decode Tryz.prog s_p0 w R) : Cl Tryz.prog F.rle_Decode #[s_p0] w R :=
  cl_of_vc (n := 14) (rs := [(.tmp 2), (.tmp 3)]) (h := (.s .z (.s .z (.s .z (.s (.s .z (.i (.s .z .z) .z)) (.s .z .z)))))) (args := [s_p0]) (by kernel_rfl) Tryz.func25 rfl (by kernel_rfl) rfl rfl rfl (Eq.mp (by kernel_rfl) h)

/-- baler/crc.Of -/
def Vcf.crc_Of (P : Program) (s_p0 : Value) (w : World) (R : Value → World → Prop) : Prop   :=
 Cl P F.crc_New #[] w fun x_1 w1 =>
 Cl P F.crc_Sum_Text #[x_1, s_p0] w1 fun x_2 w2 =>
 Cl P F.crc_Sum_Value #[x_1] w2 fun x_3 w3 =>
 R x_3 w3
theorem Tie.crc_Of {s_p0 : Value} {w : World} {R : Value → World → Prop} (h : Vcf.crc_Of Tryz.prog s_p0 w R) : Cl Tryz.prog F.crc_Of #[s_p0] w R :=
  cl_of_vc (n := 10) (rs := [(.tmp 2)]) (h := (.s .z (.s .z (.s .z (.s .z .z))))) (args := [s_p0]) (by kernel_rfl) Tryz.func26 rfl (by kernel_rfl) rfl rfl rfl (Eq.mp (by kernel_rfl) h)

/-- baler/balerref03.Decode -/
def Vcf.balerref03_Decode (P : Program) (s_p0 : Value) (w : World) (R : Value → World → Prop) : Prop   :=
 VLoop 2 [s_p0, (.string ⟨#[]⟩)] w fun _ next3 s_1 out_2 w1 =>
 Lns s_1 fun x_4 =>
 Bp .gtr x_4 (.int .i64 0) fun x_5 =>
 Vif x_5 (
 Cl P F.balerref03_four #[s_1] w1 fun x_6 w2 =>
 Up .not x_6 fun x_7 =>
 Vif x_7 (
 Sst s_1 none (some (.int .i64 1)) fun x_8 =>
 Bp .add out_2 x_8 fun x_9 =>
 Sst s_1 (some (.int .i64 1)) none fun x_10 =>
 KE [] [] <| next3 x_10 x_9 w2) (
 Lns s_1 fun x_11 =>
 Bp .eql x_11 (.int .i64 4) fun x_12 =>
 Vif x_12 (
 R (.tuple #[(.string ⟨#[]⟩), (.int .i64 24)]) w2) (
 Ixs s_1 (.int .i64 4) fun x_13 =>
 Bp .gtr x_13 (.int .u8 251) fun x_14 =>
 Vif x_14 (
 R (.tuple #[(.string ⟨#[]⟩), (.int .i64 25)]) w2) (
 Ixs s_1 (.int .i64 4) fun x_15 =>
 Ci .i64 x_15 fun x_16 =>
 Bp .add (.int .i64 4) x_16 fun x_17 =>
 VLoop 2 [out_2, (.int .i64 0)] w2 fun _ next20 out_18 x_19 w3 =>
 Bp .lss x_19 x_17 fun x_21 =>
 Vif x_21 (
 Sst s_1 none (some (.int .i64 1)) fun x_22 =>
 Bp .add out_18 x_22 fun x_23 =>
 Bp .add x_19 (.int .i64 1) fun x_24 =>
 KE [s_1, x_17] [s_1, x_17] <| next20 x_23 x_24 w3) (
 Sst s_1 (some (.int .i64 5)) none fun x_25 =>
 KE [] [] <| next3 x_25 out_18 w3))))) (
 R (.tuple #[out_2, (.int .i64 0)]) w1)
theorem Tie.balerref03_Decode {s_p0 : Value} {w : World} {R : Value → World → Prop} (h : Vcf.balerref03_Decode Tryz.prog s_p0 w R) : Cl Tryz.prog F.balerref03_Decode #[s_p0] w R :=
  cl_of_vc (n := 37) (rs := [(.tmp 2), (.tmp 3)]) (h := (.s .z (.s .z (.s (.b (.l [0, 4] [] (.s (.s .z (.i .z .z)) (.b (.s (.s .z (.i (.s .z (.s .z .z)) .z)) (.s (.s .z (.i (.s .z .z) .z)) (.s (.s .z (.i (.s .z .z) .z)) (.s (.s .z (.b (.l [4, 27] [0, 26] (.s .z (.s (.i .z .z) (.s (.b .z) .z)))))) .z)))))))) (.s .z .z))))) (args := [s_p0]) (by kernel_rfl) Tryz.func27 rfl (by kernel_rfl) rfl rfl rfl (Eq.mp (by kernel_rfl) h)

/-- baler/balerref18.Of -/
def Vcf.balerref18_Of (P : Program) (s_p0 origin_p1 : Value) (w : World) (R : Value → World → Prop) : Prop   :=
 Cl P F.balerref18_Links #[s_p0] w fun x_1 w1 =>
 Lns s_p0 fun x_2 =>
 VLoop 3 [(.string ⟨#[]⟩), origin_p1, (.int .i64 0)] w1 fun _ next6 out_3 at_4 x_5 w2 =>
 Bp .lss x_5 x_2 fun x_7 =>
 Vif x_7 (
 Ias 1 x_1 at_4 fun x_8 =>
 Ld x_8 w2 fun x_9 =>
 Bp .add x_9 (.int .i64 1) fun x_10 =>
 Sst s_p0 (some x_9) (some x_10) fun x_11 =>
 Bp .add out_3 x_11 fun x_12 =>
 Bp .add x_5 (.int .i64 1) fun x_13 =>
 KE [s_p0, x_1, x_2] [s_p0, x_1, x_2] <| next6 x_12 x_9 x_13 w2) (
 R out_3 w2)
theorem Tie.balerref18_Of {s_p0 origin_p1 : Value} {w : World} {R : Value → World → Prop} (h : Vcf.balerref18_Of Tryz.prog s_p0 origin_p1 w R) : Cl Tryz.prog F.balerref18_Of #[s_p0, origin_p1] w R :=
  cl_of_vc (n := 28) (rs := [(.tmp 4)]) (h := (.s .z (.s .z (.s .z (.s .z (.s (.s .z (.b (.l [6, 7, 13] [0, 5, 12] (.s .z (.s (.i .z .z) (.s (.b (.s .z .z)) .z)))))) (.s .z .z))))))) (args := [s_p0, origin_p1]) (by kernel_rfl) Tryz.func28 rfl (by kernel_rfl) rfl rfl rfl (Eq.mp (by kernel_rfl) h)

/-- (baler/block.Reader).step -/
def Vcf.block_Reader_step (P : Program) (b_p0 r_p1 : Value) (w : World) (R : Value → World → Prop) : Prop   :=
 VJoin 1 (fun _ e_1 w1 =>
 Bp .neq e_1 (.int .i64 0) fun x_2 =>
 Vif x_2 (
 R e_1 w1) (
 Cl P F.block_Reader_end #[b_p0] w1 fun x_3 w2 =>
 R x_3 w2))
 (fun J4 =>
 Nc b_p0 <|
 Fo 2 b_p0 fun x_5 =>
 Ld x_5 w fun x_6 =>
 Up .not x_6 fun x_7 =>
 Vif x_7 (
 Cl P F.block_Reader_begin #[b_p0, r_p1] w fun x_8 w3 =>
 KE [b_p0] [b_p0] <| J4 x_8 w3) (
 Nc b_p0 <|
 Fo 0 b_p0 fun x_9 =>
 Ld x_9 w fun x_10 =>
 Bn P 78 false x_10 (.pointer none) fun x_11 =>
 Vif x_11 (
 Cl P F.block_Reader_symbols #[b_p0, r_p1] w fun x_12 w4 =>
 KE [b_p0] [b_p0] <| J4 x_12 w4) (
 Nc b_p0 <|
 Fo 0 b_p0 fun x_13 =>
 Ld x_13 w fun x_14 =>
 Cl P F.block_row_waits #[x_14] w fun x_15 w5 =>
 Vif x_15 (
 Dr w5 fun w6 =>
 Nc b_p0 <|
 Fo 5 b_p0 fun x_16 =>
 Ld x_16 w6 fun x_17 =>
 Nc b_p0 <|
 Fo 0 b_p0 fun x_19 =>
 Ld x_19 w6 fun x_20 =>
 Cl P F.block_row_next #[x_20] w6 fun x_22 w7 =>
 Rk (fun w K => Ld x_16 w fun x_18 => K x_18) x_17 w7 <|
 Bs P 57 1 #[(0, x_22)] w7 fun x_23 w8 =>
 Rk (fun w K => Ld x_16 w fun x_18 => K x_18) x_17 w8 <|
 Ap P #[57, 57] 57 #[x_17, x_23] w8 fun x_24 w9 =>
 Nc b_p0 <|
 Fo 5 b_p0 fun x_25 =>
 St x_25 x_24 w9 fun w10 =>
 KE [b_p0] [b_p0] <| J4 (.int .i64 0) w10) (
 Cl P F.block_Reader_symbol #[b_p0, r_p1] w5 fun x_26 w11 =>
 KE [b_p0] [b_p0] <| J4 x_26 w11))))
theorem Tie.block_Reader_step {b_p0 r_p1 : Value} {w : World} {R : Value → World → Prop} (h : Vcf.block_Reader_step Tryz.prog b_p0 r_p1 w R) : Cl Tryz.prog F.block_Reader_step #[b_p0, r_p1] w R :=
  cl_of_vc (n := 52) (rs := [(.tmp 4)]) (h := (.s .z (.s .z (.j [5] [0] (.b (.s .z (.i .z (.s .z (.i .z (.s .z (.i (.r (.staged [0, 0, 2, 6, 14, 0, 32, 96, 224, 480, 992, 2046, 4095, 8191, 16383])) .z))))))) (.s (.s .z (.i (.s .z .z) .z)) (.s .z .z)))))) (args := [b_p0, r_p1]) (by kernel_rfl) Tryz.func38 rfl (by kernel_rfl) rfl rfl rfl (Eq.mp (by kernel_rfl) h)

/-- baler/balerref02.Step -/
def Vcf.balerref02_Step (P : Program) (sum_p0 b_p1 : Value) (w : World) (R : Value → World → Prop) : Prop   :=
 Ci .u32 b_p1 fun x_1 =>
 Bp .mul x_1 (.int .u32 16777216) fun x_2 =>
 Bp .xor sum_p0 x_2 fun x_3 =>
 Cl P F.balerref02_Bits #[x_3] w fun x_4 w1 =>
 R x_4 w1
theorem Tie.balerref02_Step {sum_p0 b_p1 : Value} {w : World} {R : Value → World → Prop} (h : Vcf.balerref02_Step Tryz.prog sum_p0 b_p1 w R) : Cl Tryz.prog F.balerref02_Step #[sum_p0, b_p1] w R :=
  cl_of_vc (n := 11) (rs := [(.tmp 4)]) (h := (.s .z (.s .z .z))) (args := [sum_p0, b_p1]) (by kernel_rfl) Tryz.func40 rfl (by kernel_rfl) rfl rfl rfl (Eq.mp (by kernel_rfl) h)

/-- baler/unbwt.New -/
def Vcf.unbwt_New (P : Program) (last_p0 origin_p1 : Value) (w : World) (R : Value → World → Prop) : Prop   :=
 Bp .eql last_p0 (.string ⟨#[]⟩) fun x_1 =>
 Vif x_1 (
 R (.tuple #[(.pointer none), (.int .i64 1)]) w) (
 Lns last_p0 fun x_2 =>
 Bp .gtr x_2 (.int .i64 900000) fun x_3 =>
 Vif x_3 (
 R (.tuple #[(.pointer none), (.int .i64 2)]) w) (
 VJoin 1 (fun _ x_4 w1 =>
 Vif x_4 (
 R (.tuple #[(.pointer none), (.int .i64 23)]) w1) (
 Lns last_p0 fun x_5 =>
 Ms P 63 x_5 x_5 w1 fun x_6 w2 =>
 Bd P 132 #[(0, last_p0), (2, x_6), (3, origin_p1)] w2 fun x_7 =>
 New x_7 132 w2 fun x_8 w3 =>
 R (.tuple #[x_8, (.int .i64 0)]) w3))
 (fun J9 =>
 Bp .lss origin_p1 (.int .i64 0) fun x_10 =>
 Vif x_10 (
 KE [last_p0, origin_p1] [last_p0, origin_p1] <| J9 (.bool true) w) (
 Lns last_p0 fun x_11 =>
 Bp .geq origin_p1 x_11 fun x_12 =>
 KE [last_p0, origin_p1] [last_p0, origin_p1] <| J9 x_12 w))))
theorem Tie.unbwt_New {last_p0 origin_p1 : Value} {w : World} {R : Value → World → Prop} (h : Vcf.unbwt_New Tryz.prog last_p0 origin_p1 w R) : Cl Tryz.prog F.unbwt_New #[last_p0, origin_p1] w R :=
  cl_of_vc (n := 29) (rs := [(.tmp 4), (.tmp 5)]) (h := (.s .z (.s (.b (.s .z (.i (.s .z .z) (.s .z (.i (.s .z .z) (.j [13] [0, 1] .z (.i (.s .z .z) .z))))))) (.s .z .z)))) (args := [last_p0, origin_p1]) (by kernel_rfl) Tryz.func42 rfl (by kernel_rfl) rfl rfl rfl (Eq.mp (by kernel_rfl) h)

/-- (baler/unbwt.Inverter).Step -/
def Vcf.unbwt_Inverter_Step (P : Program) (v_p0 budget_p1 : Value) (w : World) (R : Value → World → Prop) : Prop   :=
 Bn P 132 false v_p0 (.pointer none) fun x_1 =>
 Vif x_1 (
 R (.int .i64 0) w) (
 Nc v_p0 <|
 Fo 260 v_p0 fun x_2 =>
 Ld x_2 w fun x_3 =>
 VLoop 0 [] w fun _ next4 w1 =>
 VJoin 1 (fun _ x_5 w2 =>
 Vif x_5 (
 Cl P F.unbwt_Inverter_step #[v_p0] w2 fun x_6 w3 =>
 KE [v_p0, budget_p1, x_3] [v_p0, budget_p1, x_3] <| next4 w3) (
 Nc v_p0 <|
 Fo 260 v_p0 fun x_7 =>
 Ld x_7 w2 fun x_8 =>
 Bp .sub x_8 x_3 fun x_9 =>
 R x_9 w2))
 (fun J10 =>
 Cl P F.unbwt_Inverter_Done #[v_p0] w1 fun x_11 w4 =>
 Up .not x_11 fun x_12 =>
 Vif x_12 (
 Nc v_p0 <|
 Fo 260 v_p0 fun x_13 =>
 Ld x_13 w4 fun x_14 =>
 Bp .sub x_14 x_3 fun x_15 =>
 Bp .lss x_15 budget_p1 fun x_16 =>
 KE [v_p0, budget_p1, x_3] [v_p0, budget_p1, x_3] <| J10 x_16 w4) (
 KE [v_p0, budget_p1, x_3] [v_p0, budget_p1, x_3] <| J10 (.bool false) w4)))
theorem Tie.unbwt_Inverter_Step {v_p0 budget_p1 : Value} {w : World} {R : Value → World → Prop} (h : Vcf.unbwt_Inverter_Step Tryz.prog v_p0 budget_p1 w R) : Cl Tryz.prog F.unbwt_Inverter_Step #[v_p0, budget_p1] w R :=
  cl_of_vc (n := 33) (rs := [(.tmp 4)]) (h := (.s .z (.s (.s .z (.i (.s .z .z) .z)) (.s .z (.s (.b (.l [] [0, 1, 5] (.s (.j [24] [0, 1, 5] .z (.i .z .z)) (.b .z)))) (.s .z .z)))))) (args := [v_p0, budget_p1]) (by kernel_rfl) Tryz.func43 rfl (by kernel_rfl) rfl rfl rfl (Eq.mp (by kernel_rfl) h)

/-- (baler/unbwt.Inverter).Take -/
def Vcf.unbwt_Inverter_Take (P : Program) (v_p0 : Value) (w : World) (R : Value → World → Prop) : Prop   :=
 Bn P 132 false v_p0 (.pointer none) fun x_1 =>
 Vif x_1 (
 R (.string ⟨#[]⟩) w) (
 Nc v_p0 <|
 Fo 259 v_p0 fun x_2 =>
 Ld x_2 w fun x_3 =>
 Cw P 57 9 x_3 w fun x_4 w1 =>
 Nc v_p0 <|
 Fo 259 v_p0 fun x_5 =>
 St x_5 (.slice none 0 0) w1 fun w2 =>
 R x_4 w2)
theorem Tie.unbwt_Inverter_Take {v_p0 : Value} {w : World} {R : Value → World → Prop} (h : Vcf.unbwt_Inverter_Take Tryz.prog v_p0 w R) : Cl Tryz.prog F.unbwt_Inverter_Take #[v_p0] w R :=
  cl_of_vc (n := 15) (rs := [(.tmp 2)]) (h := (.s .z (.s (.s .z (.i (.s .z .z) .z)) (.s .z (.s .z (.s .z .z)))))) (args := [v_p0]) (by kernel_rfl) Tryz.func44 rfl (by kernel_rfl) rfl rfl rfl (Eq.mp (by kernel_rfl) h)

/-- baler/rle.unpack -/
def Vcf.rle_unpack (P : Program) (s_p0 take_p1 : Value) (w : World) (R : Value → World → Prop) : Prop   :=
 Lns s_p0 fun x_1 =>
 VLoop 2 [(.int .i64 0), (.int .i64 0)] w fun _ next4 run_2 x_3 w1 =>
 Bp .lss x_3 x_1 fun x_5 =>
 Vif x_5 (
 VJoin 1 (fun _ run_6 w2 =>
 Ixs s_p0 x_3 fun x_7 =>
 Inv P (do let d ← Deferred.ofValue take_p1 #[x_7, (.int .i64 1)]; invoke d.target d.args) w2 fun x_8 w3 =>
 Bp .add x_3 (.int .i64 1) fun x_9 =>
 KE [s_p0, take_p1, x_1] [s_p0, take_p1, x_1] <| next4 run_6 x_9 w3)
 (fun J10 =>
 Bp .eql run_2 (.int .i64 4) fun x_11 =>
 Vif x_11 (
 Ixs s_p0 x_3 fun x_12 =>
 Bp .gtr x_12 (.int .u8 251) fun x_13 =>
 Vif x_13 (
 R (.int .i64 25) w1) (
 Dr w1 fun w4 =>
 Bp .sub x_3 (.int .i64 1) fun x_14 =>
 Ixs s_p0 x_14 fun x_15 =>
 Ixs s_p0 x_3 fun x_16 =>
 Ci .i64 x_16 fun x_17 =>
 Inv P (do let d ← Deferred.ofValue take_p1 #[x_15, x_17]; invoke d.target d.args) w4 fun x_18 w5 =>
 Bp .add x_3 (.int .i64 1) fun x_19 =>
 KE [s_p0, take_p1, x_1] [s_p0, take_p1, x_1] <| next4 (.int .i64 0) x_19 w5)) (
 VJoin 1 (fun _ x_20 w6 =>
 Vif x_20 (
 Bp .add run_2 (.int .i64 1) fun x_21 =>
 KE [s_p0, take_p1, x_3, x_1, x_3] [s_p0, take_p1, x_3, x_1, x_3] <| J10 x_21 w6) (
 KE [s_p0, take_p1, x_3, x_1, x_3] [s_p0, take_p1, x_3, x_1, x_3] <| J10 (.int .i64 1) w6))
 (fun J22 =>
 Dr w1 fun w7 =>
 Bp .gtr run_2 (.int .i64 0) fun x_23 =>
 Vif x_23 (
 Ixs s_p0 x_3 fun x_24 =>
 Bp .sub x_3 (.int .i64 1) fun x_25 =>
 Ixs s_p0 x_25 fun x_26 =>
 Bp .eql x_24 x_26 fun x_27 =>
 KE [s_p0, take_p1, run_2, x_3, x_1, x_3] [s_p0, take_p1, run_2, x_3, x_1, x_3] <| J22 x_27 w7) (
 KE [s_p0, take_p1, run_2, x_3, x_1, x_3] [s_p0, take_p1, run_2, x_3, x_1, x_3] <| J22 (.bool false) w7))))) (
 Bp .eql run_2 (.int .i64 4) fun x_28 =>
 Vif x_28 (
 R (.int .i64 24) w1) (
 R (.int .i64 0) w1))
theorem Tie.rle_unpack {s_p0 take_p1 : Value} {w : World} {R : Value → World → Prop} (h : Vcf.rle_unpack Tryz.prog s_p0 take_p1 w R) : Cl Tryz.prog F.rle_unpack #[s_p0, take_p1] w R :=
  cl_of_vc (n := 52) (rs := [(.tmp 4)]) (h := (.s .z (.s .z (.s (.s .z (.b (.l [5, 9] [0, 1, 8] (.s .z (.s (.i .z .z) (.s (.b (.s .z (.j [5] [0, 1, 6, 8, 9] (.b (.s .z (.i (.s (.s .z (.i (.s .z .z) .z)) (.s (.r (.staged [0, 0, 0, 4, 14, 0, 0, 96, 224, 511])) (.s .z .z))) (.j [29] [0, 1, 5, 6, 8, 9] (.r (.staged [0, 1, 3, 7, 7, 31, 7, 7, 135, 455, 1023, 2047, 4095])) (.i .z .z))))) .z))) .z)))))) (.s (.s .z (.i (.s .z .z) .z)) (.s .z .z)))))) (args := [s_p0, take_p1]) (by kernel_rfl) Tryz.func45 rfl (by kernel_rfl) rfl rfl rfl (Eq.mp (by kernel_rfl) h)

/-- baler/rle.Decode$1 -/
def Vcf.rle_Decode_1 (P : Program) (b_p0 n_p1 p_p2 : Value) (w : World) (R : Value → World → Prop) : Prop   :=
 VLoop 1 [(.int .i64 0)] w fun _ next2 x_1 w1 =>
 Bp .lss x_1 n_p1 fun x_3 =>
 Vif x_3 (
 Ld p_p2 w1 fun x_4 =>
 Bs P 57 1 #[(0, b_p0)] w1 fun x_5 w2 =>
 Ap P #[57, 57] 57 #[x_4, x_5] w2 fun x_6 w3 =>
 St p_p2 x_6 w3 fun w4 =>
 Bp .add x_1 (.int .i64 1) fun x_7 =>
 KE [b_p0, p_p2, n_p1] [b_p0, p_p2, n_p1] <| next2 x_7 w4) (
 R (.tuple #[]) w1)
theorem Tie.rle_Decode_1 {b_p0 n_p1 p_p2 : Value} {w : World} {R : Value → World → Prop} (h : Vcf.rle_Decode_1 Tryz.prog b_p0 n_p1 p_p2 w R) : Cl Tryz.prog F.rle_Decode_1 #[b_p0, n_p1, p_p2] w R :=
  cl_of_vc (n := 13) (rs := []) (h := (.s .z (.b (.l [6] [0, 2, 5] (.s .z (.s (.i .z .z) (.s (.b .z) .z))))))) (args := [b_p0, n_p1, p_p2]) (by kernel_rfl) Tryz.func46 rfl (by kernel_rfl) rfl rfl rfl (Eq.mp (by kernel_rfl) h)

/-- baler/crc.New -/
def Vcf.crc_New (P : Program) (w : World) (R : Value → World → Prop) : Prop   :=
 Cl P F.crc_Table #[] w fun x_1 w1 =>
 Bd P 136 #[(0, x_1), (1, (.int .u32 4294967295))] w1 fun x_2 =>
 New x_2 136 w1 fun x_3 w2 =>
 R x_3 w2
theorem Tie.crc_New {w : World} {R : Value → World → Prop} (h : Vcf.crc_New Tryz.prog w R) : Cl Tryz.prog F.crc_New #[] w R :=
  cl_of_vc (n := 4) (rs := [(.tmp 0)]) (h := (.s .z (.s .z .z))) (args := []) (by kernel_rfl) Tryz.func47 rfl (by kernel_rfl) rfl rfl rfl (Eq.mp (by kernel_rfl) h)

/-- (baler/crc.Sum).Text -/
def Vcf.crc_Sum_Text (P : Program) (s_p0 t_p1 : Value) (w : World) (R : Value → World → Prop) : Prop   :=
 Lns t_p1 fun x_1 =>
 VLoop 1 [(.int .i64 0)] w fun _ next3 x_2 w1 =>
 Bp .lss x_2 x_1 fun x_4 =>
 Vif x_4 (
 Ixs t_p1 x_2 fun x_5 =>
 Cl P F.crc_Sum_Put #[s_p0, x_5] w1 fun x_6 w2 =>
 Bp .add x_2 (.int .i64 1) fun x_7 =>
 KE [s_p0, t_p1, x_1] [s_p0, t_p1, x_1] <| next3 x_7 w2) (
 R (.tuple #[]) w1)
theorem Tie.crc_Sum_Text {s_p0 t_p1 : Value} {w : World} {R : Value → World → Prop} (h : Vcf.crc_Sum_Text Tryz.prog s_p0 t_p1 w R) : Cl Tryz.prog F.crc_Sum_Text #[s_p0, t_p1] w R :=
  cl_of_vc (n := 16) (rs := []) (h := (.s .z (.b (.l [7] [0, 1, 6] (.s .z (.s (.i .z .z) (.s (.b (.s .z .z)) .z))))))) (args := [s_p0, t_p1]) (by kernel_rfl) Tryz.func48 rfl (by kernel_rfl) rfl rfl rfl (Eq.mp (by kernel_rfl) h)

/-- (baler/crc.Sum).Value -/
def Vcf.crc_Sum_Value (P : Program) (s_p0 : Value) (w : World) (R : Value → World → Prop) : Prop   :=
 Bn P 136 false s_p0 (.pointer none) fun x_1 =>
 Vif x_1 (
 R (.int .u32 0) w) (
 Nc s_p0 <|
 Fo 256 s_p0 fun x_2 =>
 Ld x_2 w fun x_3 =>
 Up .xor x_3 fun x_4 =>
 R x_4 w)
theorem Tie.crc_Sum_Value {s_p0 : Value} {w : World} {R : Value → World → Prop} (h : Vcf.crc_Sum_Value Tryz.prog s_p0 w R) : Cl Tryz.prog F.crc_Sum_Value #[s_p0] w R :=
  cl_of_vc (n := 10) (rs := [(.tmp 2)]) (h := (.s .z (.s (.s .z (.i (.s .z .z) .z)) (.s .z .z)))) (args := [s_p0]) (by kernel_rfl) Tryz.func49 rfl (by kernel_rfl) rfl rfl rfl (Eq.mp (by kernel_rfl) h)

/-- baler/balerref03.four -/
def Vcf.balerref03_four (P : Program) (s_p0 : Value) (w : World) (R : Value → World → Prop) : Prop   :=
 Dr w fun w1 =>
 Lns s_p0 fun x_1 =>
 Bp .geq x_1 (.int .i64 4) fun x_3 =>
 Vif x_3 (
 Ixs s_p0 (.int .i64 0) fun x_4 =>
 Ixs s_p0 (.int .i64 1) fun x_5 =>
 Bp .eql x_4 x_5 fun x_6 =>
 Vif x_6 (
 Ixs s_p0 (.int .i64 1) fun x_7 =>
 Ixs s_p0 (.int .i64 2) fun x_8 =>
 Bp .eql x_7 x_8 fun x_9 =>
 Vif x_9 (
 Ixs s_p0 (.int .i64 2) fun x_10 =>
 Ixs s_p0 (.int .i64 3) fun x_11 =>
 Bp .eql x_10 x_11 fun x_12 =>
 R x_12 w1) (
 R (.bool false) w1)) (
 R (.bool false) w1)) (
 R (.bool false) w1)
theorem Tie.balerref03_four {s_p0 : Value} {w : World} {R : Value → World → Prop} (h : Vcf.balerref03_four Tryz.prog s_p0 w R) : Cl Tryz.prog F.balerref03_four #[s_p0] w R :=
  cl_of_vc (n := 27) (rs := [(.tmp 2)]) (h := (.s .z (.s (.r (.staged [0, 1, 3, 7, 15, 31, 15, 79, 255, 511, 1023, 2047, 4095, 2047, 10239, 32767, 65535, 131071, 262143, 524287, 262143, 1310719, 4194303, 8388607, 16777215])) .z))) (args := [s_p0]) (by kernel_rfl) Tryz.func50 rfl (by kernel_rfl) rfl rfl rfl (Eq.mp (by kernel_rfl) h)

/-- baler/balerref18.Links -/
def Vcf.balerref18_Links (P : Program) (s_p0 : Value) (w : World) (R : Value → World → Prop) : Prop   :=
 VLoop 2 [(.slice none 0 0), (.int .i64 0)] w fun _ next3 out_1 x_2 w1 =>
 Bp .lss x_2 (.int .i64 256) fun x_4 =>
 Vif x_4 (
 Lns s_p0 fun x_5 =>
 VLoop 2 [out_1, (.int .i64 0)] w1 fun _ next8 out_6 x_7 w2 =>
 Bp .lss x_7 x_5 fun x_9 =>
 Vif x_9 (
 Ixs s_p0 x_7 fun x_10 =>
 Ci .i64 x_10 fun x_11 =>
 Bp .eql x_11 x_2 fun x_12 =>
 Vif x_12 (
 Bs P 63 1 #[(0, x_7)] w2 fun x_13 w3 =>
 Ap P #[63, 63] 63 #[out_6, x_13] w3 fun x_14 w4 =>
 Bp .add x_7 (.int .i64 1) fun x_15 =>
 KE [s_p0, x_2, x_2, x_5] [s_p0, x_2, x_2, x_5] <| next8 x_14 x_15 w4) (
 Bp .add x_7 (.int .i64 1) fun x_16 =>
 KE [s_p0, x_2, x_2, x_5] [s_p0, x_2, x_2, x_5] <| next8 out_6 x_16 w2)) (
 Bp .add x_2 (.int .i64 1) fun x_17 =>
 KE [s_p0] [s_p0] <| next3 out_6 x_17 w2)) (
 R out_1 w1)
theorem Tie.balerref18_Links {s_p0 : Value} {w : World} {R : Value → World → Prop} (h : Vcf.balerref18_Links Tryz.prog s_p0 w R) : Cl Tryz.prog F.balerref18_Links #[s_p0] w R :=
  cl_of_vc (n := 27) (rs := [(.tmp 2)]) (h := (.s .z (.s .z (.s (.s .z (.b (.l [3, 6] [0] (.s .z (.s (.i .z .z) (.s (.b (.s .z (.s .z (.b (.l [3, 11] [0, 4, 6, 10] (.s .z (.s (.i .z .z) (.s (.b (.s .z (.s .z (.i .z .z)))) .z)))))))) .z)))))) (.s .z .z))))) (args := [s_p0]) (by kernel_rfl) Tryz.func51 rfl (by kernel_rfl) rfl rfl rfl (Eq.mp (by kernel_rfl) h)

/-- (baler/block.Reader).begin -/
def Vcf.block_Reader_begin (P : Program) (b_p0 r_p1 : Value) (w : World) (R : Value → World → Prop) : Prop   :=
 Cl P F.bits_Reader_Left #[r_p1] w fun x_1 w1 =>
 Bp .lss x_1 (.int .i64 57) fun x_2 =>
 Vif x_2 (
 R (.int .i64 3) w1) (
 Cl P F.bits_Reader_Get #[r_p1, (.int .i64 32)] w1 fun x_3 w2 =>
 Ex x_3 0 fun x_4 =>
 Ex x_3 1 fun x_5 =>
 Cl P F.bits_Reader_Get #[r_p1, (.int .i64 1)] w2 fun x_6 w3 =>
 Ex x_6 0 fun x_7 =>
 Ex x_6 1 fun x_8 =>
 Cl P F.bits_Reader_Get #[r_p1, (.int .i64 24)] w3 fun x_9 w4 =>
 Ex x_9 0 fun x_10 =>
 Ex x_9 1 fun x_11 =>
 Nc b_p0 <|
 Fo 2 b_p0 fun x_12 =>
 St x_12 (.bool true) w4 fun w5 =>
 Nc b_p0 <|
 Fo 3 b_p0 fun x_13 =>
 St x_13 x_4 w5 fun w6 =>
 Ci .i64 x_10 fun x_14 =>
 Nc b_p0 <|
 Fo 4 b_p0 fun x_15 =>
 St x_15 x_14 w6 fun w7 =>
 Bp .eql x_7 (.int .u32 1) fun x_16 =>
 Vif x_16 (
 R (.int .i64 25) w7) (
 R (.int .i64 0) w7))
theorem Tie.block_Reader_begin {b_p0 r_p1 : Value} {w : World} {R : Value → World → Prop} (h : Vcf.block_Reader_begin Tryz.prog b_p0 r_p1 w R) : Cl Tryz.prog F.block_Reader_begin #[b_p0, r_p1] w R :=
  cl_of_vc (n := 43) (rs := [(.tmp 4)]) (h := (.s .z (.s (.s .z (.i (.s .z .z) .z)) (.s .z (.s .z (.s .z (.s .z (.s .z (.s .z (.s (.s .z (.i (.s .z .z) .z)) (.s .z .z))))))))))) (args := [b_p0, r_p1]) (by kernel_rfl) Tryz.func73 rfl (by kernel_rfl) rfl rfl rfl (Eq.mp (by kernel_rfl) h)

/-- (baler/block.Reader).symbols -/
def Vcf.block_Reader_symbols (P : Program) (b_p0 r_p1 : Value) (w : World) (R : Value → World → Prop) : Prop   :=
 Cl P F.used_Read #[r_p1] w fun x_1 w1 =>
 Ex x_1 0 fun x_2 =>
 Ex x_1 1 fun x_3 =>
 Bp .eql x_3 (.int .i64 0) fun x_4 =>
 Vif x_4 (
 Nc b_p0 <|
 Fo 1 b_p0 fun x_5 =>
 Ld x_5 w1 fun x_6 =>
 Cl P F.block_rowOf #[x_2, x_6] w1 fun x_7 w2 =>
 Nc b_p0 <|
 Fo 0 b_p0 fun x_8 =>
 St x_8 x_7 w2 fun w3 =>
 R x_3 w3) (
 R x_3 w1)
theorem Tie.block_Reader_symbols {b_p0 r_p1 : Value} {w : World} {R : Value → World → Prop} (h : Vcf.block_Reader_symbols Tryz.prog b_p0 r_p1 w R) : Cl Tryz.prog F.block_Reader_symbols #[b_p0, r_p1] w R :=
  cl_of_vc (n := 24) (rs := [(.tmp 4)]) (h := (.s .z (.s .z (.s (.s .z (.i .z .z)) (.s .z .z))))) (args := [b_p0, r_p1]) (by kernel_rfl) Tryz.func74 rfl (by kernel_rfl) rfl rfl rfl (Eq.mp (by kernel_rfl) h)

/-- (baler/block.Reader).symbol -/
def Vcf.block_Reader_symbol (P : Program) (b_p0 r_p1 : Value) (w : World) (R : Value → World → Prop) : Prop   :=
 Nc b_p0 <|
 Fo 0 b_p0 fun x_1 =>
 Ld x_1 w fun x_2 =>
 Nc x_2 <|
 Fo 0 x_2 fun x_3 =>
 Ld x_3 w fun x_4 =>
 Cl P F.code_Reader_Step #[x_4, r_p1] w fun x_5 w1 =>
 Ex x_5 0 fun x_6 =>
 Ex x_5 1 fun x_7 =>
 VJoin 1 (fun _ x_8 w2 =>
 Vif x_8 (
 R x_7 w2) (
 Nc b_p0 <|
 Fo 0 b_p0 fun x_9 =>
 Ld x_9 w2 fun x_10 =>
 Cl P F.block_row_told #[x_10, x_6] w2 fun x_11 w3 =>
 R x_11 w3))
 (fun J12 =>
 Bp .neq x_7 (.int .i64 0) fun x_13 =>
 Vif x_13 (
 KE [b_p0, x_6, x_7] [b_p0, x_6, x_7] <| J12 (.bool true) w1) (
 Bp .lss x_6 (.int .i64 0) fun x_14 =>
 KE [b_p0, x_6, x_7] [b_p0, x_6, x_7] <| J12 x_14 w1))
theorem Tie.block_Reader_symbol {b_p0 r_p1 : Value} {w : World} {R : Value → World → Prop} (h : Vcf.block_Reader_symbol Tryz.prog b_p0 r_p1 w R) : Cl Tryz.prog F.block_Reader_symbol #[b_p0, r_p1] w R :=
  cl_of_vc (n := 32) (rs := [(.tmp 4)]) (h := (.s .z (.s .z (.s (.j [24] [0, 5, 6] .z (.i (.s .z .z) .z)) (.s .z .z))))) (args := [b_p0, r_p1]) (by kernel_rfl) Tryz.func77 rfl (by kernel_rfl) rfl rfl rfl (Eq.mp (by kernel_rfl) h)

/-- (baler/block.Reader).end -/
def Vcf.block_Reader_end (P : Program) (b_p0 : Value) (w : World) (R : Value → World → Prop) : Prop   :=
 VJoin 1 (fun _ x_1 w1 =>
 Vif x_1 (
 R (.int .i64 0) w1) (
 Dr w1 fun w2 =>
 Nc b_p0 <|
 Fo 4 b_p0 fun x_2 =>
 Ld x_2 w2 fun x_3 =>
 Nc b_p0 <|
 Fo 5 b_p0 fun x_5 =>
 Ld x_5 w2 fun x_6 =>
 Lnl x_6 fun x_8 =>
 Bp .geq x_3 x_8 fun x_10 =>
 Vif x_10 (
 R (.int .i64 23) w2) (
 Nc b_p0 <|
 Fo 6 b_p0 fun x_11 =>
 St x_11 (.bool true) w2 fun w3 =>
 R (.int .i64 0) w3)))
 (fun J12 =>
 Nc b_p0 <|
 Fo 0 b_p0 fun x_13 =>
 Ld x_13 w fun x_14 =>
 Bn P 78 false x_14 (.pointer none) fun x_15 =>
 Vif x_15 (
 KE [b_p0] [b_p0] <| J12 (.bool true) w) (
 Nc b_p0 <|
 Fo 0 b_p0 fun x_16 =>
 Ld x_16 w fun x_17 =>
 Nc x_17 <|
 Fo 0 x_17 fun x_18 =>
 Ld x_18 w fun x_19 =>
 Cl P F.code_Reader_Done #[x_19] w fun x_20 w4 =>
 Up .not x_20 fun x_21 =>
 Vif x_21 (
 KE [b_p0] [b_p0] <| J12 (.bool true) w4) (
 Nc b_p0 <|
 Fo 0 b_p0 fun x_22 =>
 Ld x_22 w4 fun x_23 =>
 Cl P F.block_row_waits #[x_23] w4 fun x_24 w5 =>
 KE [b_p0] [b_p0] <| J12 x_24 w5)))
theorem Tie.block_Reader_end {b_p0 : Value} {w : World} {R : Value → World → Prop} (h : Vcf.block_Reader_end Tryz.prog b_p0 w R) : Cl Tryz.prog F.block_Reader_end #[b_p0] w R :=
  cl_of_vc (n := 41) (rs := [(.tmp 2)]) (h := (.s .z (.s (.b (.j [3] [0] .z (.i (.s .z .z) (.s (.r (.staged [0, 1, 3, 7, 0, 16, 48, 112, 240, 511, 1023])) (.i (.s .z .z) .z))))) (.s .z (.s .z .z))))) (args := [b_p0]) (by kernel_rfl) Tryz.func78 rfl (by kernel_rfl) rfl rfl rfl (Eq.mp (by kernel_rfl) h)

/-- baler/balerref02.Bits -/
def Vcf.balerref02_Bits (P : Program) (x_p0 : Value) (w : World) (R : Value → World → Prop) : Prop   :=
 VLoop 2 [x_p0, (.int .i64 0)] w fun _ next3 x_1 x_2 w1 =>
 Bp .lss x_2 (.int .i64 8) fun x_4 =>
 Vif x_4 (
 Bp .geq x_1 (.int .u32 2147483648) fun x_5 =>
 Vif x_5 (
 Bp .sub x_1 (.int .u32 2147483648) fun x_6 =>
 Bp .mul x_6 (.int .u32 2) fun x_7 =>
 Bp .xor x_7 (.int .u32 79764919) fun x_8 =>
 Bp .add x_2 (.int .i64 1) fun x_9 =>
 KE [] [] <| next3 x_8 x_9 w1) (
 Bp .mul x_1 (.int .u32 2) fun x_10 =>
 Bp .add x_2 (.int .i64 1) fun x_11 =>
 KE [] [] <| next3 x_10 x_11 w1)) (
 R x_1 w1)
theorem Tie.balerref02_Bits {x_p0 : Value} {w : World} {R : Value → World → Prop} (h : Vcf.balerref02_Bits Tryz.prog x_p0 w R) : Cl Tryz.prog F.balerref02_Bits #[x_p0] w R :=
  cl_of_vc (n := 15) (rs := [(.tmp 2)]) (h := (.s .z (.s (.s .z (.b (.l [0, 3] [] (.s .z (.s (.i .z .z) (.s (.b (.s .z (.i .z .z))) .z)))))) (.s .z .z)))) (args := [x_p0]) (by kernel_rfl) Tryz.func80 rfl (by kernel_rfl) rfl rfl rfl (Eq.mp (by kernel_rfl) h)

/-- (baler/unbwt.Inverter).Done -/
def Vcf.unbwt_Inverter_Done (P : Program) (v_p0 : Value) (w : World) (R : Value → World → Prop) : Prop   :=
 Dr w fun w1 =>
 Bn P 132 true v_p0 (.pointer none) fun x_1 =>
 Vif x_1 (
 Nc v_p0 <|
 Fo 260 v_p0 fun x_2 =>
 Ld x_2 w1 fun x_3 =>
 Nc v_p0 <|
 Fo 0 v_p0 fun x_5 =>
 Ld x_5 w1 fun x_6 =>
 Lns x_6 fun x_8 =>
 Bp .mul (.int .i64 3) x_8 fun x_10 =>
 Bp .eql x_3 x_10 fun x_11 =>
 R x_11 w1) (
 R (.bool false) w1)
theorem Tie.unbwt_Inverter_Done {v_p0 : Value} {w : World} {R : Value → World → Prop} (h : Vcf.unbwt_Inverter_Done Tryz.prog v_p0 w R) : Cl Tryz.prog F.unbwt_Inverter_Done #[v_p0] w R :=
  cl_of_vc (n := 18) (rs := [(.tmp 2)]) (h := (.s .z (.s (.r (.staged [0, 1, 3, 7, 15, 31, 63, 7, 135, 391, 903, 1927, 3975, 8191, 16383, 32767])) .z))) (args := [v_p0]) (by kernel_rfl) Tryz.func81 rfl (by kernel_rfl) rfl rfl rfl (Eq.mp (by kernel_rfl) h)

/-- (baler/unbwt.Inverter).step -/
def Vcf.unbwt_Inverter_step (P : Program) (v_p0 : Value) (w : World) (R : Value → World → Prop) : Prop   :=
 Nc v_p0 <|
 Fo 0 v_p0 fun x_1 =>
 Ld x_1 w fun x_2 =>
 Lns x_2 fun x_3 =>
 Nc v_p0 <|
 Fo 260 v_p0 fun x_4 =>
 Ld x_4 w fun x_5 =>
 Bp .rem x_5 x_3 fun x_6 =>
 VJoin 0 (fun _ w1 =>
 Nc v_p0 <|
 Fo 260 v_p0 fun x_7 =>
 Ld x_7 w1 fun x_8 =>
 Bp .add x_8 (.int .i64 1) fun x_9 =>
 Nc v_p0 <|
 Fo 260 v_p0 fun x_10 =>
 St x_10 x_9 w1 fun w2 =>
 R (.tuple #[]) w2)
 (fun J11 =>
 Nc v_p0 <|
 Fo 260 v_p0 fun x_12 =>
 Ld x_12 w fun x_13 =>
 Bp .quo x_13 x_3 fun x_14 =>
 Bp .eql x_14 (.int .i64 0) fun x_15 =>
 Vif x_15 (
 Dr w fun w3 =>
 Nc v_p0 <|
 Fo 0 v_p0 fun x_16 =>
 Ld x_16 w3 fun x_17 =>
 Ixs x_17 x_6 fun x_19 =>
 Nc v_p0 <|
 Fo 1 v_p0 fun x_20 =>
 Iaa 256 1 x_20 x_19 fun x_21 =>
 Ld x_21 w3 fun x_22 =>
 Bp .add x_22 (.int .i64 1) fun x_24 =>
 Nc v_p0 <|
 Fo 1 v_p0 fun x_25 =>
 Iaa 256 1 x_25 x_19 fun x_26 =>
 St x_26 x_24 w3 fun w4 =>
 Bp .sub x_3 (.int .i64 1) fun x_27 =>
 Bp .eql x_6 x_27 fun x_28 =>
 Vif x_28 (
 Cl P F.unbwt_Inverter_begins #[v_p0] w4 fun x_29 w5 =>
 KE [v_p0] [v_p0] <| J11 w5) (
 KE [v_p0] [v_p0] <| J11 w4)) (
 Bp .eql x_14 (.int .i64 1) fun x_30 =>
 Vif x_30 (
 Nc v_p0 <|
 Fo 0 v_p0 fun x_31 =>
 Ld x_31 w fun x_32 =>
 Ixs x_32 x_6 fun x_33 =>
 Dr w fun w6 =>
 Nc v_p0 <|
 Fo 257 v_p0 fun x_34 =>
 Ld x_34 w6 fun x_35 =>
 Nc v_p0 <|
 Fo 1 v_p0 fun x_37 =>
 Iaa 256 1 x_37 x_33 fun x_38 =>
 Ld x_38 w6 fun x_39 =>
 Ias 1 x_35 x_39 fun x_41 =>
 St x_41 x_6 w6 fun w7 =>
 Dr w7 fun w8 =>
 Nc v_p0 <|
 Fo 1 v_p0 fun x_42 =>
 Iaa 256 1 x_42 x_33 fun x_43 =>
 Ld x_43 w8 fun x_44 =>
 Bp .add x_44 (.int .i64 1) fun x_46 =>
 Nc v_p0 <|
 Fo 1 v_p0 fun x_47 =>
 Iaa 256 1 x_47 x_33 fun x_48 =>
 St x_48 x_46 w8 fun w9 =>
 KE [v_p0] [v_p0] <| J11 w9) (
 Dr w fun w10 =>
 Nc v_p0 <|
 Fo 257 v_p0 fun x_49 =>
 Ld x_49 w10 fun x_50 =>
 Nc v_p0 <|
 Fo 258 v_p0 fun x_52 =>
 Ld x_52 w10 fun x_53 =>
 Ias 1 x_50 x_53 fun x_55 =>
 Ld x_55 w10 fun x_56 =>
 Nc v_p0 <|
 Fo 258 v_p0 fun x_58 =>
 St x_58 x_56 w10 fun w11 =>
 Dr w11 fun w12 =>
 Nc v_p0 <|
 Fo 259 v_p0 fun x_59 =>
 Ld x_59 w12 fun x_60 =>
 Nc v_p0 <|
 Fo 0 v_p0 fun x_62 =>
 Ld x_62 w12 fun x_63 =>
 Nc v_p0 <|
 Fo 258 v_p0 fun x_65 =>
 Ld x_65 w12 fun x_66 =>
 Ixs x_63 x_66 fun x_68 =>
 Bs P 57 1 #[(0, x_68)] w12 fun x_69 w13 =>
 Rk (fun w K => Ld x_59 w fun x_61 => K x_61) x_60 w13 <|
 Ap P #[57, 57] 57 #[x_60, x_69] w13 fun x_70 w14 =>
 Nc v_p0 <|
 Fo 259 v_p0 fun x_71 =>
 St x_71 x_70 w14 fun w15 =>
 KE [v_p0] [v_p0] <| J11 w15)))
theorem Tie.unbwt_Inverter_step {v_p0 : Value} {w : World} {R : Value → World → Prop} (h : Vcf.unbwt_Inverter_step Tryz.prog v_p0 w R) : Cl Tryz.prog F.unbwt_Inverter_step #[v_p0] w R :=
  cl_of_vc (n := 113) (rs := []) (h := (.s .z (.s .z (.j [] [0] (.s .z (.b (.s .z (.i (.s (.r (.staged [0, 0, 2, 6, 14, 0, 62, 1, 129, 511, 1023, 2047, 1, 4097, 16383, 32767])) (.s .z (.i .z .z))) (.s .z (.i (.s .z (.s (.r (.staged [0, 1, 3, 7, 0, 0, 16, 80, 240, 496, 0, 2047, 4095])) (.r (.staged [0, 0, 1, 5, 15, 31, 63, 1, 129, 511, 1023])))) (.s (.r (.staged [0, 0, 2, 6, 14, 0, 32, 96, 224, 510, 1022, 2047, 4095, 8191])) (.r (.staged [0, 0, 2, 6, 14, 0, 32, 96, 224, 0, 512, 1536, 3584, 8160, 16352, 32766, 65535, 131071, 262143]))))))))) .z)))) (args := [v_p0]) (by kernel_rfl) Tryz.func82 rfl (by kernel_rfl) rfl rfl rfl (Eq.mp (by kernel_rfl) h)

/-- baler/crc.Table -/
def Vcf.crc_Table (P : Program) (w : World) (R : Value → World → Prop) : Prop   :=
 New (zeroP P 133) 133 w fun x_1 w1 =>
 New (zeroP P 133) 133 w1 fun out_2 w2 =>
 VLoop 1 [(.int .i64 0)] w2 fun _ next4 x_3 w3 =>
 Bp .lss x_3 (.int .i64 256) fun x_5 =>
 Vif x_5 (
 Ci .u32 x_3 fun x_6 =>
 Bp .shl x_6 (.int .u64 24) fun x_7 =>
 VLoop 2 [x_7, (.int .i64 0)] w3 fun _ next10 sum_8 x_9 w4 =>
 Bp .lss x_9 (.int .i64 8) fun x_11 =>
 Vif x_11 (
 Bp .shr sum_8 (.int .u64 31) fun x_12 =>
 Bp .shl sum_8 (.int .u64 1) fun x_13 =>
 Bp .mul x_12 (.int .u32 79764919) fun x_14 =>
 Bp .xor x_13 x_14 fun x_15 =>
 Bp .add x_9 (.int .i64 1) fun x_16 =>
 KE [x_1, out_2, x_3, x_3] [x_1, out_2, x_3, x_3] <| next10 x_15 x_16 w4) (
 Iaa 256 1 out_2 x_3 fun x_17 =>
 St x_17 sum_8 w4 fun w5 =>
 Bp .add x_3 (.int .i64 1) fun x_18 =>
 KE [x_1, out_2] [x_1, out_2] <| next4 x_18 w5)) (
 LdA 256 out_2 w3 fun x_19 =>
 StA 256 x_1 x_19 w3 fun w6 =>
 LdA 256 x_1 w6 fun x_20 =>
 R x_20 w6)
theorem Tie.crc_Table {w : World} {R : Value → World → Prop} (h : Vcf.crc_Table Tryz.prog w R) : Cl Tryz.prog F.crc_Table #[] w R :=
  cl_of_vc (n := 26) (rs := [(.cell 0 133)]) (h := (.s .z (.s .z (.s (.s .z (.b (.l [5] [0, 1] (.s .z (.s (.i .z .z) (.s (.b (.s .z (.s .z (.s (.s .z (.b (.l [3, 11] [0, 1, 2, 5] (.s .z (.s (.i .z .z) (.s (.b (.s .z .z)) .z)))))) .z)))) .z)))))) (.s .z .z))))) (args := []) (by kernel_rfl) Tryz.func83 rfl (by kernel_rfl) rfl rfl rfl (Eq.mp (by kernel_rfl) h)

/-- (baler/crc.Sum).Put -/
def Vcf.crc_Sum_Put (P : Program) (s_p0 b_p1 : Value) (w : World) (R : Value → World → Prop) : Prop   :=
 Bn P 136 true s_p0 (.pointer none) fun x_1 =>
 Vif x_1 (
 Dr w fun w1 =>
 Nc s_p0 <|
 Fo 0 s_p0 fun x_2 =>
 Nc s_p0 <|
 Fo 256 s_p0 fun x_3 =>
 Ld x_3 w1 fun x_4 =>
 Cl P F.crc_step #[x_2, x_4, b_p1] w1 fun x_6 w2 =>
 Nc s_p0 <|
 Fo 256 s_p0 fun x_7 =>
 St x_7 x_6 w2 fun w3 =>
 R (.tuple #[]) w3) (
 R (.tuple #[]) w)
theorem Tie.crc_Sum_Put {s_p0 b_p1 : Value} {w : World} {R : Value → World → Prop} (h : Vcf.crc_Sum_Put Tryz.prog s_p0 b_p1 w R) : Cl Tryz.prog F.crc_Sum_Put #[s_p0, b_p1] w R :=
  cl_of_vc (n := 18) (rs := []) (h := (.s .z (.i (.r (.staged [0, 0, 2, 6, 0, 16, 48, 112, 0, 510, 1023, 2047, 4095])) .z))) (args := [s_p0, b_p1]) (by kernel_rfl) Tryz.func84 rfl (by kernel_rfl) rfl rfl rfl (Eq.mp (by kernel_rfl) h)

/-- (baler/unbwt.Inverter).begins -/
def Vcf.unbwt_Inverter_begins (P : Program) (v_p0 : Value) (w : World) (R : Value → World → Prop) : Prop   :=
 Nc v_p0 <|
 Fo 1 v_p0 fun x_1 =>
 LdA 256 x_1 w fun x_2 =>
 VLoop 2 [(.int .i64 0), (.int .i64 0)] w fun _ next5 from_3 x_4 w1 =>
 Bp .lss x_4 (.int .i64 256) fun x_6 =>
 Vif x_6 (
 Ixa 256 1 false x_2 x_4 fun x_7 =>
 Nc v_p0 <|
 Fo 1 v_p0 fun x_8 =>
 Iaa 256 1 x_8 x_4 fun x_9 =>
 St x_9 from_3 w1 fun w2 =>
 Bp .add from_3 x_7 fun x_10 =>
 Bp .add x_4 (.int .i64 1) fun x_11 =>
 KE [v_p0, x_2] [v_p0, x_2] <| next5 x_10 x_11 w2) (
 R (.tuple #[]) w1)
theorem Tie.unbwt_Inverter_begins {v_p0 : Value} {w : World} {R : Value → World → Prop} (h : Vcf.unbwt_Inverter_begins Tryz.prog v_p0 w R) : Cl Tryz.prog F.unbwt_Inverter_begins #[v_p0] w R :=
  cl_of_vc (n := 23) (rs := []) (h := (.s .z (.s .z (.b (.l [2, 9] [0, 8] (.s .z (.s (.i .z .z) (.s (.b (.s .z (.s .z .z))) .z)))))))) (args := [v_p0]) (by kernel_rfl) Tryz.func114 rfl (by kernel_rfl) rfl rfl rfl (Eq.mp (by kernel_rfl) h)

/-- baler/crc.step -/
def Vcf.crc_step (P : Program) (t_p0 sum_p1 b_p2 : Value) (w : World) (R : Value → World → Prop) : Prop   :=
 Bp .shl sum_p1 (.int .u64 8) fun x_1 =>
 Bp .shr sum_p1 (.int .u64 24) fun x_2 =>
 Ci .u8 x_2 fun x_3 =>
 Bp .xor x_3 b_p2 fun x_4 =>
 Nc t_p0 <|
 Iaa 256 1 t_p0 x_4 fun x_5 =>
 Ld x_5 w fun x_6 =>
 Bp .xor x_1 x_6 fun x_7 =>
 R x_7 w
theorem Tie.crc_step {t_p0 sum_p1 b_p2 : Value} {w : World} {R : Value → World → Prop} (h : Vcf.crc_step Tryz.prog t_p0 sum_p1 b_p2 w R) : Cl Tryz.prog F.crc_step #[t_p0, sum_p1, b_p2] w R :=
  cl_of_vc (n := 19) (rs := [(.tmp 6)]) (h := (.s .z (.s .z .z))) (args := [t_p0, sum_p1, b_p2]) (by kernel_rfl) Tryz.func115 rfl (by kernel_rfl) rfl rfl rfl (Eq.mp (by kernel_rfl) h)

end Go.Proofs.YtcnmamnnjdifdaaGreatDoor
