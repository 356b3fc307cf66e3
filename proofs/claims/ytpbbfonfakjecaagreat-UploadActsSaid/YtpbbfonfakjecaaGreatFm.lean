/- Formulas of the program's functions, printed by a program of the prover's own (dec.py); each is tied to its code by the kernel. -/
import Derived.Test.YtpbbfonfakjecaaGreatVc
import Derived.Test.YtpbbfonfakjecaaGreatProg
set_option linter.unusedVariables false
set_option maxRecDepth 1000000
namespace Go.Proofs.YtpbbfonfakjecaaGreat
open Go Go.Vc
variable {w : World} {R : Value → World → Prop}

abbrev F.balerlaw38_UploadActs : Nat := 3
abbrev F.balerlaw38_Setup_make : Nat := 4
abbrev F.balerlaw38_hundred : Nat := 5
abbrev F.upload_New : Nat := 6
abbrev F.balerlaw38_seen_act : Nat := 7
abbrev F.upload_Flow_Rest : Nat := 8
abbrev F.upload_Flow_Taken : Nat := 9
abbrev F.upload_Flow_Ended : Nat := 10
abbrev F.balerref26_May : Nat := 11
abbrev F.job_New : Nat := 12
abbrev F.upload_Flow_Put : Nat := 13
abbrev F.job_Job_Held : Nat := 14
abbrev F.job_Job_Done : Nat := 15
abbrev F.balerlaw38_seen_moved : Nat := 16
abbrev F.upload_Flow_End : Nat := 17
abbrev F.upload_Flow_Move : Nat := 18
abbrev F.job_Job_Step : Nat := 19
abbrev F.balerref23_May : Nat := 20
abbrev F.balerref24_May : Nat := 21
abbrev F.job_machineOf : Nat := 22
abbrev F.job_Job_failed : Nat := 23
abbrev F.job_Job_Feed : Nat := 24
abbrev F.job_Job_End : Nat := 25
abbrev F.balerref21_Level : Nat := 26
abbrev F.balerref21_Unit : Nat := 27
abbrev F.press_New : Nat := 28
abbrev F.unpress_New : Nat := 29
abbrev F.tester_New : Nat := 30
abbrev F.job_Job_Err : Nat := 31
abbrev F.split_Room : Nat := 32
abbrev F.press_windowed : Nat := 33
abbrev F.split_New : Nat := 34
abbrev F.stream_New : Nat := 35
abbrev F.stream_Writer_Take : Nat := 36
abbrev F.unstream_New : Nat := 37
abbrev F.unpress_may : Nat := 38
abbrev F.bits_NewReader : Nat := 39
abbrev F.crc_New : Nat := 40
abbrev F.feed_NewPacker : Nat := 41
abbrev F.bits_NewWriter : Nat := 42
abbrev F.bits_Writer_Put : Nat := 43
abbrev F.bits_Writer_Take : Nat := 44
abbrev F.crc_Table : Nat := 45
abbrev F.bits_fits : Nat := 46
abbrev F.bits_Writer_bit : Nat := 47
abbrev F.press_Press_Done : Nat := 65
abbrev F.press_Press_End : Nat := 66
abbrev F.press_Press_Feed : Nat := 67
abbrev F.press_Press_Held : Nat := 68
abbrev F.press_Press_Step : Nat := 69
abbrev F.press_Press_Stopped : Nat := 71
abbrev F.press_Press_flush : Nat := 74
abbrev F.split_Splitter_Held : Nat := 75
abbrev F.bwt_Turner_Held : Nat := 76
abbrev F.press_Press_work : Nat := 77
abbrev F.press_Press_writes : Nat := 78
abbrev F.press_Press_whole : Nat := 79
abbrev F.split_Splitter_End : Nat := 80
abbrev F.feed_Packer_Row : Nat := 81
abbrev F.sorter_Sorter_Held : Nat := 82
abbrev F.bwt_New : Nat := 83
abbrev F.bwt_Turner_Done : Nat := 84
abbrev F.bwt_Turner_Step : Nat := 85
abbrev F.press_Press_pay : Nat := 86
abbrev F.press_Press_take : Nat := 87
abbrev F.stream_Writer_End : Nat := 88
abbrev F.feed_Packer_End : Nat := 89
abbrev F.split_Splitter_piece : Nat := 90
abbrev F.split_begun_close : Nat := 91
abbrev F.sorter_New : Nat := 92
abbrev F.sorter_Sorter_Step : Nat := 93
abbrev F.sorter_Sorter_Done : Nat := 94
abbrev F.sorter_Sorter_Order : Nat := 95
abbrev F.bwt_Turner_take : Nat := 96
abbrev F.bwt_Turner_Result : Nat := 97
abbrev F.stream_Writer_Turned : Nat := 98
abbrev F.split_Splitter_Put : Nat := 99
abbrev F.feed_Packer_close : Nat := 102
abbrev F.split_begun_take : Nat := 103
abbrev F.crc_Sum_Value : Nat := 104
abbrev F.crc_Sum_Reset : Nat := 105
abbrev F.sorter_Sorter_step : Nat := 106
abbrev F.slices_Clone_int_int : Nat := 107
abbrev F.bwt_ahead : Nat := 108
abbrev F.crc_Combine : Nat := 109
abbrev F.feed_Packer_Put : Nat := 111
abbrev F.rle_Piece : Nat := 112
abbrev F.crc_Sum_Put : Nat := 113
abbrev F.sorter_Sorter_join : Nat := 114
abbrev F.sorter_Sorter_lay : Nat := 115
abbrev F.sorter_Sorter_put : Nat := 116
abbrev F.sorter_Sorter_begin : Nat := 117
abbrev F.sorter_Sorter_rank : Nat := 118
abbrev F.rle_text : Nat := 125
abbrev F.crc_step : Nat := 126
abbrev F.sorter_Sorter_above : Nat := 127
abbrev F.sorter_Sorter_pass : Nat := 128
abbrev F.used_listed : Nat := 129
abbrev F.mtf_New : Nat := 130
abbrev F.zeros_may : Nat := 132
abbrev F.used_Is : Nat := 138
abbrev F.canon_New : Nat := 142
abbrev F.strings_Repeat : Nat := 144
abbrev F.sorter_Sorter_key : Nat := 145
abbrev F.mtf_List_touch : Nat := 147
abbrev F.slices_Index_int_int : Nat := 148
abbrev F.canon_whole : Nat := 159
abbrev F.picks_tabled : Nat := 172
abbrev F.slices_ContainsFunc_int_int : Nat := 173
abbrev F.picks_fresh : Nat := 175
abbrev F.delta_sized : Nat := 177
abbrev F.delta_length : Nat := 179
abbrev F.lens_Share : Nat := 183
abbrev F.slices_Contains_int_int : Nat := 184
abbrev F.slices_IndexFunc_int_int : Nat := 194
abbrev F.picks_order_touch : Nat := 195
abbrev F.lens_between : Nat := 198
abbrev F.lens_between_1 : Nat := 204
abbrev F.unpress_Expander_Done : Nat := 217
abbrev F.unpress_Expander_End : Nat := 218
abbrev F.unpress_Expander_Err : Nat := 219
abbrev F.unpress_Expander_Feed : Nat := 220
abbrev F.unpress_Expander_Step : Nat := 222
abbrev F.unpress_Expander_Stopped : Nat := 224
abbrev F.unpress_Expander_Take : Nat := 225
abbrev F.unpress_Expander_Waiting : Nat := 226
abbrev F.unpress_Expander_open : Nat := 227
abbrev F.bits_Reader_Held : Nat := 228
abbrev F.bits_Reader_More : Nat := 229
abbrev F.unpress_Expander_read : Nat := 232
abbrev F.unpress_opening_step : Nat := 233
abbrev F.unpress_Expander_fail : Nat := 234
abbrev F.unbwt_Inverter_Done : Nat := 235
abbrev F.unstream_Reader_MayEnd : Nat := 237
abbrev F.bits_Reader_Left : Nat := 238
abbrev F.unstream_Reader_Step : Nat := 239
abbrev F.bits_Reader_Drop : Nat := 240
abbrev F.unpress_openingOf : Nat := 241
abbrev F.unstream_Reader_Got : Nat := 242
abbrev F.unbwt_Inverter_Step : Nat := 243
abbrev F.unbwt_Inverter_Take : Nat := 244
abbrev F.feed_Unpacker_Put : Nat := 245
abbrev F.crc_Sum_Text : Nat := 246
abbrev F.unpress_opening_end : Nat := 247
abbrev F.bits_Reader_end : Nat := 249
abbrev F.unstream_Reader_step : Nat := 250
abbrev F.unbwt_New : Nat := 251
abbrev F.feed_NewUnpacker : Nat := 252
abbrev F.unbwt_Inverter_step : Nat := 253
abbrev F.feed_Unpacker_Wants : Nat := 254
abbrev F.feed_Unpacker_End : Nat := 255
abbrev F.picks_Reader_Picks : Nat := 256
abbrev F.unstream_Reader_letter : Nat := 257
abbrev F.unstream_Reader_magic : Nat := 258
abbrev F.unstream_Reader_body : Nat := 259
abbrev F.unstream_Reader_sum : Nat := 260
abbrev F.unbwt_Inverter_begins : Nat := 261
abbrev F.bits_Reader_Get : Nat := 262
abbrev F.block_NewReader : Nat := 263
abbrev F.block_Reader_Step : Nat := 264
abbrev F.block_Reader_Done : Nat := 265
abbrev F.block_Reader_Got : Nat := 266
abbrev F.bits_Reader_Align : Nat := 267
abbrev F.bits_Reader_bit : Nat := 268
abbrev F.block_Reader_step : Nat := 269
abbrev F.block_Reader_begin : Nat := 270
abbrev F.block_Reader_symbols : Nat := 271
abbrev F.block_row_waits : Nat := 272
abbrev F.block_row_next : Nat := 273
abbrev F.block_Reader_symbol : Nat := 274
abbrev F.block_Reader_end : Nat := 275
abbrev F.used_Read : Nat := 276
abbrev F.block_rowOf : Nat := 277
abbrev F.mtf_List_At : Nat := 278
abbrev F.code_Reader_Step : Nat := 279
abbrev F.block_row_told : Nat := 280
abbrev F.code_Reader_Done : Nat := 281
abbrev F.bits_Reader_At : Nat := 282
abbrev F.used_read : Nat := 283
abbrev F.bits_Reader_Seek : Nat := 284
abbrev F.code_NewReader : Nat := 285
abbrev F.zeros_NewReader : Nat := 286
abbrev F.code_Reader_symbol : Nat := 287
abbrev F.picks_Reader_Done : Nat := 288
abbrev F.code_Reader_pick : Nat := 289
abbrev F.picks_Reader_Tables : Nat := 290
abbrev F.code_Reader_table : Nat := 291
abbrev F.zeros_Reader_Put : Nat := 292
abbrev F.used_marks : Nat := 293
abbrev F.delta_NewReader : Nat := 294
abbrev F.picks_NewReader : Nat := 295
abbrev F.canon_Code_Get : Nat := 296
abbrev F.picks_Reader_Step : Nat := 297
abbrev F.delta_Reader_Step : Nat := 298
abbrev F.delta_Reader_Done : Nat := 299
abbrev F.delta_Reader_Lens : Nat := 300
abbrev F.zeros_Reader_more : Nat := 301
abbrev F.zeros_Reader_Count : Nat := 302
abbrev F.canon_Code_get : Nat := 303
abbrev F.picks_Reader_pick : Nat := 304
abbrev F.picks_Reader_head : Nat := 305
abbrev F.delta_Reader_step : Nat := 306
abbrev F.picks_Reader_fail : Nat := 307
abbrev F.delta_Reader_turned : Nat := 308
abbrev F.tester_Tester_Done : Nat := 309
abbrev F.tester_Tester_End : Nat := 310
abbrev F.tester_Tester_Feed : Nat := 312
abbrev F.tester_Tester_Step : Nat := 314
abbrev F.tester_Tester_Stopped : Nat := 316
abbrev F.tester_Tester_tell : Nat := 319
abbrev F.tester_counted_forget : Nat := 320
abbrev F.tester_Digits : Nat := 321

def Vcf.balerlaw38_UploadActs (P : Program) (a0 a1 : Value) (w : World) (R : Value → World → Prop) : Prop :=
 New a0 24 w fun s_1 w1=>LdA 4 s_1 w1 fun x2=>Cl P F.balerlaw38_Setup_make #[x2] w1 fun x3 w2=>Lnl a1 fun x4=>Bp .gtr x4 (.int .i64 40) fun x5=>Vif x5 (Cl P F.balerlaw38_hundred #[] w2 fun x6 w3=>R x6 w3) (Cl P F.upload_New #[x3] w2 fun x7 w4=>Ex x7 0 fun x8=>Ex x7 1 fun x9=>Bn P 56 false x3 (.pointer none) fun x10=>Vif x10 (Bp .eql x9 (.int .i64 7) fun x11=>Vif x11 (Bn P 46 false x8 (.pointer none) fun x12=>Vif x12 (Cl P F.balerlaw38_hundred #[] w4 fun x13 w5=>R x13 w5) (R (.bool false) w4)) (R (.bool false) w4)) (Bd P 34 #[(3, (.bool true))] w4 fun x14=>New (zeroP P 34) 34 w4 fun x15 w6=>StA 4 x15 x14 w6 fun w7=>Lnl a1 fun x16=>VLoop 1 [(.int .i64 0)] w7 fun _ next18 x17 w8=>Bp .lss x17 x16 fun x19=>Vif x19 (Ias 3 a1 x17 fun x20=>LdA 3 x20 w8 fun x21=>New (zeroP P 36) 36 w8 fun a_22 w9=>StA 3 a_22 x21 w9 fun w10=>Fo 2 a_22 fun x23=>Ld x23 w10 fun x24=>Lns x24 fun x25=>Bp .gtr x25 (.int .i64 300) fun x26=>Vif x26 (Cl P F.balerlaw38_hundred #[] w10 fun x27 w11=>R x27 w11) (LdA 4 x15 w10 fun x28=>LdA 3 a_22 w10 fun x29=>Cl P F.balerlaw38_seen_act #[x28, x8, x3, x29] w10 fun x30 w12=>StA 4 x15 x30 w12 fun w13=>VJoin 1 (fun _ x31 w14=>Vif x31 (R (.bool false) w14) (Bp .add x17 (.int .i64 1) fun x32=>KE [x3, x8, x9, x15, a1, x16] [x3, x8, x9, x15, a1, x16]<|next18 x32 w14)) (fun J33=>Dr w13 fun w15=>Fo 3 x15 fun x34=>Ld x34 w15 fun x35=>Up .not x35 fun x37=>Vif x37 (KE [x3, x8, x9, x15, a1, x16, x17] [x3, x8, x9, x15, a1, x16, x17]<|J33 (.bool true) w15) (Cl P F.upload_Flow_Rest #[x8] w15 fun x38 w16=>Fo 1 x15 fun x39=>Ld x39 w16 fun x40=>Rk (fun w K=>Ld x39 w fun x41=>K x41) x40 w15<|Lns x40 fun x43=>Rk (fun w K=>Lns x40 fun x44=>K x44) x43 w15<|Bp .neq x38 x43 fun x46=>Vif x46 (KE [x3, x8, x9, x15, a1, x16, x17] [x3, x8, x9, x15, a1, x16, x17]<|J33 (.bool true) w16) (Cl P F.upload_Flow_Taken #[x8] w16 fun x47 w17=>Fo 0 x15 fun x48=>Ld x48 w17 fun x49=>Rk (fun w K=>Ld x48 w fun x50=>K x50) x49 w16<|Lns x49 fun x52=>Rk (fun w K=>Lns x49 fun x53=>K x53) x52 w16<|Bp .neq x47 x52 fun x55=>Vif x55 (KE [x3, x8, x9, x15, a1, x16, x17] [x3, x8, x9, x15, a1, x16, x17]<|J33 (.bool true) w17) (Cl P F.upload_Flow_Ended #[x8] w17 fun x56 w18=>Fo 2 x15 fun x57=>Ld x57 w18 fun x58=>Rk (fun w K=>Ld x57 w fun x59=>K x59) x58 w17<|Bb true x56 x58 fun x61=>KE [x3, x8, x9, x15, a1, x16, x17] [x3, x8, x9, x15, a1, x16, x17]<|J33 x61 w18)))))) (Dr w8 fun w19=>Bp .eql x9 (.int .i64 0) fun x62=>Vif x62 (Cl P F.upload_Flow_Ended #[x8] w19 fun x63 w20=>Fo 2 x15 fun x64=>Ld x64 w20 fun x65=>Rk (fun w K=>Ld x64 w fun x66=>K x66) x65 w19<|Bb false x63 x65 fun x68=>Vif x68 (Cl P F.balerlaw38_hundred #[] w20 fun x69 w21=>R x69 w21) (R (.bool false) w20)) (R (.bool false) w19))))
theorem Tie.balerlaw38_UploadActs {a0 a1 : Value} (h : Vcf.balerlaw38_UploadActs Tryz.prog a0 a1 w R) : Cl Tryz.prog F.balerlaw38_UploadActs #[a0, a1] w R :=
  cl_of_vc (n := 89) (rs := [(.tmp 4)]) (h := (.s .z (.s .z (.s (.s .z (.i (.s .z .z) .z)) (.s .z (.s (.s .z (.i (.s .z .z) .z)) (.s .z (.s (.s .z (.b (.l [36] [5, 6, 7, 8, 34, 35] (.s .z (.s (.i .z .z) (.s (.b (.s .z (.s (.s .z (.i (.s .z .z) .z)) (.s .z (.j [75] [5, 6, 7, 8, 34, 35, 36] (.r (.staged [0, 1, 3, 7, 15, 31, 15, 79, 207, 511, 1023, 2047, 4095, 8191, 4095, 20479, 53247, 131071, 262143, 524287, 1048575, 2097151, 1048575, 5242879, 16777215, 33554431])) (.i (.s .z .z) .z)))))) .z)))))) (.s (.r (.staged [0, 1, 3, 7, 15, 7, 39, 127, 255, 511, 1023, 2047, 4095])) .z))))))))) (args := [a0, a1]) (by kernel_rfl) Tryz.func3 rfl (by kernel_rfl) rfl rfl rfl (Eq.mp (by kernel_rfl) h)

def Vcf.balerlaw38_Setup_make (P : Program) (a0 : Value) (w : World) (R : Value → World → Prop) : Prop :=
 New a0 24 w fun s_1 w1=>VJoin 1 (fun _ x2 w2=>Vif x2 (R (.pointer none) w2) (Fo 0 s_1 fun x3=>Ld x3 w2 fun x4=>Fo 1 s_1 fun x5=>Ld x5 w2 fun x6=>Fo 2 s_1 fun x7=>Ld x7 w2 fun x8=>Fo 3 s_1 fun x9=>Ld x9 w2 fun x10=>Cl P F.job_New #[x4, x6, x8, x10] w2 fun x11 w3=>Ex x11 0 fun x12=>Ex x11 1 fun x13=>R x12 w3)) (fun J14=>Fo 0 s_1 fun x15=>Ld x15 w1 fun x16=>Fo 1 s_1 fun x17=>Ld x17 w1 fun x18=>Fo 2 s_1 fun x19=>Ld x19 w1 fun x20=>Fo 3 s_1 fun x21=>Ld x21 w1 fun x22=>Cl P F.balerref26_May #[x16, x18, x20, x22] w1 fun x23 w4=>Up .not x23 fun x24=>Vif x24 (KE [s_1] [s_1]<|J14 (.bool true) w4) (Fo 2 s_1 fun x25=>Ld x25 w4 fun x26=>Bp .gtr x26 (.int .i64 200) fun x27=>KE [s_1] [s_1]<|J14 x27 w4))
theorem Tie.balerlaw38_Setup_make {a0 : Value} (h : Vcf.balerlaw38_Setup_make Tryz.prog a0 w R) : Cl Tryz.prog F.balerlaw38_Setup_make #[a0] w R :=
  cl_of_vc (n := 33) (rs := [(.tmp 2)]) (h := (.s .z (.s (.j [19] [1] .z (.i (.s .z .z) .z)) (.s .z (.s .z .z))))) (args := [a0]) (by kernel_rfl) Tryz.func4 rfl (by kernel_rfl) rfl rfl rfl (Eq.mp (by kernel_rfl) h)

def Vcf.balerlaw38_hundred (P : Program) (w : World) (R : Value → World → Prop) : Prop :=
 Cl P F.job_New #[(.int .i64 1), (.int .i64 1), (.int .i64 24), (.int .i64 64)] w fun x1 w1=>Ex x1 0 fun x2=>Ex x1 1 fun x3=>Cl P F.upload_New #[x2] w1 fun x4 w2=>Ex x4 0 fun x5=>Ex x4 1 fun x6=>Ms P 44 (.int .i64 100) (.int .i64 100) w2 fun x7 w3=>Cw P 44 9 x7 w3 fun x8 w4=>Cl P F.upload_Flow_Put #[x5, x8] w4 fun x9 w5=>Cl P F.upload_Flow_Put #[x5, (.string ⟨#[97]⟩)] w5 fun x10 w6=>Bp .eql x3 (.int .i64 0) fun x11=>Vif x11 (Bp .eql x6 (.int .i64 0) fun x12=>Vif x12 (Bp .eql x9 (.int .i64 0) fun x13=>Vif x13 (Bp .eql x10 (.int .i64 34) fun x14=>Vif x14 (Cl P F.upload_Flow_Rest #[x5] w6 fun x15 w7=>Bp .eql x15 (.int .i64 36) fun x16=>Vif x16 (Cl P F.upload_Flow_Taken #[x5] w7 fun x17 w8=>Bp .eql x17 (.int .i64 64) fun x18=>Vif x18 (Cl P F.job_Job_Held #[x2] w8 fun x19 w9=>Bp .eql x19 (.int .i64 68) fun x20=>R x20 w9) (R (.bool false) w8)) (R (.bool false) w7)) (R (.bool false) w6)) (R (.bool false) w6)) (R (.bool false) w6)) (R (.bool false) w6)
theorem Tie.balerlaw38_hundred (h : Vcf.balerlaw38_hundred Tryz.prog w R) : Cl Tryz.prog F.balerlaw38_hundred #[] w R :=
  cl_of_vc (n := 51) (rs := [(.tmp 0)]) (h := (.s .z (.s .z (.s .z (.s .z (.s .z (.s .z .z))))))) (args := []) (by kernel_rfl) Tryz.func5 rfl (by kernel_rfl) rfl rfl rfl (Eq.mp (by kernel_rfl) h)

def Vcf.upload_New (P : Program) (a0 : Value) (w : World) (R : Value → World → Prop) : Prop :=
 Bn P 56 false a0 (.pointer none) fun x1=>Vif x1 (R (.tuple #[(.pointer none), (.int .i64 7)]) w) (Bd P 46 #[(0, a0)] w fun x2=>New x2 46 w fun x3 w1=>R (.tuple #[x3, (.int .i64 0)]) w1)
theorem Tie.upload_New {a0 : Value} (h : Vcf.upload_New Tryz.prog a0 w R) : Cl Tryz.prog F.upload_New #[a0] w R :=
  cl_of_vc (n := 9) (rs := [(.tmp 2), (.tmp 3)]) (h := (.s .z (.s (.s .z (.i (.s .z .z) .z)) (.s .z .z)))) (args := [a0]) (by kernel_rfl) Tryz.func6 rfl (by kernel_rfl) rfl rfl rfl (Eq.mp (by kernel_rfl) h)

def Vcf.balerlaw38_seen_act (P : Program) (a0 a1 a2 a3 : Value) (w : World) (R : Value → World → Prop) : Prop :=
 New a0 34 w fun x1 w1=>New a3 36 w1 fun a_2 w2=>New (zeroP P 34) 34 w2 fun x3 w3=>Cl P F.job_Job_Done #[a2] w3 fun x4 w4=>Fo 0 a_2 fun x5=>Ld x5 w4 fun x6=>Bp .eql x6 (.int .i64 0) fun x7=>Vif x7 (Fo 2 a_2 fun x8=>Ld x8 w4 fun x9=>Cl P F.upload_Flow_Put #[a1, x9] w4 fun x10 w5=>VJoin 1 (fun _ x11 w6=>Vif x11 (Fo 3 x1 fun x12=>Ld x12 w6 fun x13=>Vif x13 (Bp .eql x10 (.int .i64 32) fun x14=>Fo 2 x1 fun x15=>Ld x15 w6 fun x16=>Bb false x14 x16 fun x17=>Vif x17 (Bp .eql x10 (.int .i64 34) fun x18=>Fo 2 x1 fun x19=>Ld x19 w6 fun x20=>Up .not x20 fun x21=>Bb false x18 x21 fun x22=>Fo 3 x1 fun x23=>St x23 x22 w6 fun w7=>LdA 4 x1 w7 fun x24=>StA 4 x3 x24 w7 fun w8=>LdA 4 x3 w8 fun x25=>R x25 w8) (Fo 3 x1 fun x26=>St x26 (.bool false) w6 fun w9=>LdA 4 x1 w9 fun x27=>StA 4 x3 x27 w9 fun w10=>LdA 4 x3 w10 fun x28=>R x28 w10)) (Fo 3 x1 fun x29=>St x29 (.bool false) w6 fun w11=>LdA 4 x1 w11 fun x30=>StA 4 x3 x30 w11 fun w12=>LdA 4 x3 w12 fun x31=>R x31 w12)) (VJoin 0 (fun _ w13=>Fo 2 a_2 fun x32=>Ld x32 w13 fun x33=>Fo 1 x1 fun x34=>St x34 x33 w13 fun w14=>LdA 4 x1 w14 fun x35=>Cl P F.balerlaw38_seen_moved #[x35, a1, x4] w14 fun x36 w15=>StA 4 x3 x36 w15 fun w16=>LdA 4 x3 w16 fun x37=>R x37 w16) (fun J38=>Fo 3 x1 fun x39=>Ld x39 w6 fun x40=>Vif x40 (Bp .eql x10 (.int .i64 0) fun x41=>Fo 3 x1 fun x42=>St x42 x41 w6 fun w17=>KE [a1, x1, a_2, x3, x4] [a1, x1, a_2, x3, x4]<|J38 w17) (Fo 3 x1 fun x43=>St x43 (.bool false) w6 fun w18=>KE [a1, x1, a_2, x3, x4] [a1, x1, a_2, x3, x4]<|J38 w18)))) (fun J44=>Fo 2 x1 fun x45=>Ld x45 w5 fun x46=>Vif x46 (KE [a1, x1, a_2, x3, x4, x10] [a1, x1, a_2, x3, x4, x10]<|J44 (.bool true) w5) (Fo 1 x1 fun x47=>Ld x47 w5 fun x48=>Bp .neq x48 (.string ⟨#[]⟩) fun x49=>KE [a1, x1, a_2, x3, x4, x10] [a1, x1, a_2, x3, x4, x10]<|J44 x49 w5))) (Bp .eql x6 (.int .i64 1) fun x50=>Vif x50 (Cl P F.upload_Flow_End #[a1] w4 fun x51 w19=>Fo 2 x1 fun x52=>Ld x52 w19 fun x53=>Vif x53 (Fo 3 x1 fun x54=>Ld x54 w19 fun x55=>Vif x55 (Bp .eql x51 (.int .i64 32) fun x56=>Fo 3 x1 fun x57=>St x57 x56 w19 fun w20=>LdA 4 x1 w20 fun x58=>StA 4 x3 x58 w20 fun w21=>LdA 4 x3 w21 fun x59=>R x59 w21) (Fo 3 x1 fun x60=>St x60 (.bool false) w19 fun w22=>LdA 4 x1 w22 fun x61=>StA 4 x3 x61 w22 fun w23=>LdA 4 x3 w23 fun x62=>R x62 w23)) (VJoin 0 (fun _ w24=>Fo 2 x1 fun x63=>St x63 (.bool true) w24 fun w25=>LdA 4 x1 w25 fun x64=>Cl P F.balerlaw38_seen_moved #[x64, a1, x4] w25 fun x65 w26=>StA 4 x3 x65 w26 fun w27=>LdA 4 x3 w27 fun x66=>R x66 w27) (fun J67=>Fo 3 x1 fun x68=>Ld x68 w19 fun x69=>Vif x69 (Bp .eql x51 (.int .i64 0) fun x70=>Fo 3 x1 fun x71=>St x71 x70 w19 fun w28=>KE [a1, x1, x3, x4] [a1, x1, x3, x4]<|J67 w28) (Fo 3 x1 fun x72=>St x72 (.bool false) w19 fun w29=>KE [a1, x1, x3, x4] [a1, x1, x3, x4]<|J67 w29)))) (Bp .eql x6 (.int .i64 2) fun x73=>Vif x73 (Cl P F.upload_Flow_Rest #[a1] w4 fun x74 w30=>Cl P F.upload_Flow_Move #[a1] w30 fun x75 w31=>Fo 3 x1 fun x76=>Ld x76 w31 fun x77=>Vif x77 (Cl P F.upload_Flow_Rest #[a1] w31 fun x78 w32=>Bp .sub x74 x78 fun x79=>Bp .eql x75 x79 fun x80=>Fo 3 x1 fun x81=>St x81 x80 w32 fun w33=>LdA 4 x1 w33 fun x82=>Cl P F.balerlaw38_seen_moved #[x82, a1, x4] w33 fun x83 w34=>StA 4 x3 x83 w34 fun w35=>LdA 4 x3 w35 fun x84=>R x84 w35) (Fo 3 x1 fun x85=>St x85 (.bool false) w31 fun w36=>LdA 4 x1 w36 fun x86=>Cl P F.balerlaw38_seen_moved #[x86, a1, x4] w36 fun x87 w37=>StA 4 x3 x87 w37 fun w38=>LdA 4 x3 w38 fun x88=>R x88 w38)) (Fo 1 a_2 fun x89=>Ld x89 w4 fun x90=>Bmax P #[3, 3] 3 #[x90, (.int .i64 0)] w4 fun x91=>Bmin P #[3, 3] 3 #[x91, (.int .i64 1000)] w4 fun x92=>Cl P F.job_Job_Step #[a2, x92] w4 fun x93 w39=>LdA 4 x1 w39 fun x94=>StA 4 x3 x94 w39 fun w40=>LdA 4 x3 w40 fun x95=>R x95 w40)))
theorem Tie.balerlaw38_seen_act {a0 a1 a2 a3 : Value} (h : Vcf.balerlaw38_seen_act Tryz.prog a0 a1 a2 a3 w R) : Cl Tryz.prog F.balerlaw38_seen_act #[a0, a1, a2, a3] w R :=
  cl_of_vc (n := 118) (rs := [(.cell 8 34)]) (h := (.s .z (.s .z (.s (.s .z (.b (.s .z (.i (.s .z (.s (.j [36] [1, 4, 7, 8, 9, 10] .z (.i (.s .z (.s .z .z)) .z)) (.j [] [1, 4, 7, 8, 9] .z (.s .z (.s .z .z))))) (.s .z (.i (.s .z (.s (.s .z (.i (.s .z (.s .z .z)) .z)) (.j [] [1, 4, 8, 9] .z (.s .z (.s .z .z))))) (.s .z (.i (.s .z (.s .z (.s .z (.s .z .z)))) .z)))))))) (.s .z .z))))) (args := [a0, a1, a2, a3]) (by kernel_rfl) Tryz.func7 rfl (by kernel_rfl) rfl rfl rfl (Eq.mp (by kernel_rfl) h)

def Vcf.upload_Flow_Rest (P : Program) (a0 : Value) (w : World) (R : Value → World → Prop) : Prop :=
 Bn P 46 false a0 (.pointer none) fun x1=>Vif x1 (R (.int .i64 0) w) (Nc a0<|Fo 1 a0 fun x2=>Ld x2 w fun x3=>Lns x3 fun x4=>R x4 w)
theorem Tie.upload_Flow_Rest {a0 : Value} (h : Vcf.upload_Flow_Rest Tryz.prog a0 w R) : Cl Tryz.prog F.upload_Flow_Rest #[a0] w R :=
  cl_of_vc (n := 10) (rs := [(.tmp 2)]) (h := (.s .z (.s (.s .z (.i (.s .z .z) .z)) (.s .z .z)))) (args := [a0]) (by kernel_rfl) Tryz.func8 rfl (by kernel_rfl) rfl rfl rfl (Eq.mp (by kernel_rfl) h)

def Vcf.upload_Flow_Taken (P : Program) (a0 : Value) (w : World) (R : Value → World → Prop) : Prop :=
 Bn P 46 false a0 (.pointer none) fun x1=>Vif x1 (R (.int .i64 0) w) (Nc a0<|Fo 3 a0 fun x2=>Ld x2 w fun x3=>R x3 w)
theorem Tie.upload_Flow_Taken {a0 : Value} (h : Vcf.upload_Flow_Taken Tryz.prog a0 w R) : Cl Tryz.prog F.upload_Flow_Taken #[a0] w R :=
  cl_of_vc (n := 9) (rs := [(.tmp 2)]) (h := (.s .z (.s (.s .z (.i (.s .z .z) .z)) (.s .z .z)))) (args := [a0]) (by kernel_rfl) Tryz.func9 rfl (by kernel_rfl) rfl rfl rfl (Eq.mp (by kernel_rfl) h)

def Vcf.upload_Flow_Ended (P : Program) (a0 : Value) (w : World) (R : Value → World → Prop) : Prop :=
 Bn P 46 true a0 (.pointer none) fun x1=>Vif x1 (Nc a0<|Fo 2 a0 fun x2=>Ld x2 w fun x3=>R x3 w) (R (.bool false) w)
theorem Tie.upload_Flow_Ended {a0 : Value} (h : Vcf.upload_Flow_Ended Tryz.prog a0 w R) : Cl Tryz.prog F.upload_Flow_Ended #[a0] w R :=
  cl_of_vc (n := 11) (rs := [(.tmp 2)]) (h := (.s .z (.s .z .z))) (args := [a0]) (by kernel_rfl) Tryz.func10 rfl (by kernel_rfl) rfl rfl rfl (Eq.mp (by kernel_rfl) h)

def Vcf.balerref26_May (P : Program) (a0 a1 a2 a3 : Value) (w : World) (R : Value → World → Prop) : Prop :=
 Bp .eql a0 (.int .i64 1) fun x1=>Vif x1 (Cl P F.balerref23_May #[a1, a2, a3] w fun x2 w1=>R x2 w1) (Bp .eql a0 (.int .i64 2) fun x3=>Vif x3 (Cl P F.balerref24_May #[a2, a3, (.int .i64 4096)] w fun x4 w2=>R x4 w2) (Bp .eql a0 (.int .i64 3) fun x5=>Vif x5 (Cl P F.balerref24_May #[a2, a3, (.int .i64 4096)] w fun x6 w3=>R x6 w3) (R (.bool false) w)))
theorem Tie.balerref26_May {a0 a1 a2 a3 : Value} (h : Vcf.balerref26_May Tryz.prog a0 a1 a2 a3 w R) : Cl Tryz.prog F.balerref26_May #[a0, a1, a2, a3] w R :=
  cl_of_vc (n := 26) (rs := [(.tmp 8)]) (h := (.s .z (.s (.s .z (.i (.s .z .z) .z)) (.s .z .z)))) (args := [a0, a1, a2, a3]) (by kernel_rfl) Tryz.func11 rfl (by kernel_rfl) rfl rfl rfl (Eq.mp (by kernel_rfl) h)

def Vcf.job_New (P : Program) (a0 a1 a2 a3 : Value) (w : World) (R : Value → World → Prop) : Prop :=
 Cl P F.job_machineOf #[a0, a1, a2, a3] w fun x1 w1=>Ex x1 0 fun x2=>Ex x1 1 fun x3=>Bp .neq x3 (.int .i64 0) fun x4=>Vif x4 (R (.tuple #[(.pointer none), x3]) w1) (Bd P 56 #[(0, a0), (1, x2)] w1 fun x5=>New x5 56 w1 fun x6 w2=>R (.tuple #[x6, (.int .i64 0)]) w2)
theorem Tie.job_New {a0 a1 a2 a3 : Value} (h : Vcf.job_New Tryz.prog a0 a1 a2 a3 w R) : Cl Tryz.prog F.job_New #[a0, a1, a2, a3] w R :=
  cl_of_vc (n := 27) (rs := [(.tmp 8), (.tmp 9)]) (h := (.s .z (.s .z (.s (.s .z (.i (.s .z .z) .z)) (.s .z .z))))) (args := [a0, a1, a2, a3]) (by kernel_rfl) Tryz.func12 rfl (by kernel_rfl) rfl rfl rfl (Eq.mp (by kernel_rfl) h)

def Vcf.upload_Flow_Put (P : Program) (a0 a1 : Value) (w : World) (R : Value → World → Prop) : Prop :=
 Bn P 46 false a0 (.pointer none) fun x1=>Vif x1 (R (.int .i64 7) w) (Nc a0<|Fo 2 a0 fun x2=>Ld x2 w fun x3=>Vif x3 (R (.int .i64 32) w) (Nc a0<|Fo 1 a0 fun x4=>Ld x4 w fun x5=>Bp .neq x5 (.string ⟨#[]⟩) fun x6=>Vif x6 (R (.int .i64 34) w) (Lns a1 fun x7=>Bp .gtr x7 (.int .i64 65536) fun x8=>Vif x8 (R (.int .i64 2) w) (Nc a0<|Fo 1 a0 fun x9=>St x9 a1 w fun w1=>Cl P F.upload_Flow_Move #[a0] w1 fun x10 w2=>R (.int .i64 0) w2))))
theorem Tie.upload_Flow_Put {a0 a1 : Value} (h : Vcf.upload_Flow_Put Tryz.prog a0 a1 w R) : Cl Tryz.prog F.upload_Flow_Put #[a0, a1] w R :=
  cl_of_vc (n := 29) (rs := [(.tmp 4)]) (h := (.s .z (.s (.b (.s .z (.i (.s .z .z) (.s .z (.i (.s .z .z) (.s .z (.i (.s .z .z) (.s .z (.i (.s .z .z) .z))))))))) (.s .z (.s .z (.s .z .z)))))) (args := [a0, a1]) (by kernel_rfl) Tryz.func13 rfl (by kernel_rfl) rfl rfl rfl (Eq.mp (by kernel_rfl) h)

def Vcf.job_Job_Held (P : Program) (a0 : Value) (w : World) (R : Value → World → Prop) : Prop :=
 VJoin 1 (fun _ x1 w1=>Vif x1 (R (.int .i64 0) w1) (Nc a0<|Fo 1 a0 fun x2=>Ld x2 w1 fun x3=>Inv P (invoke (.fn (.method "Held") #[]) (#[x3] ++ #[])) w1 fun x4 w2=>R x4 w2)) (fun J5=>Bn P 56 false a0 (.pointer none) fun x6=>Vif x6 (KE [a0] [a0]<|J5 (.bool true) w) (Cl P F.job_Job_failed #[a0] w fun x7 w3=>KE [a0] [a0]<|J5 x7 w3))
theorem Tie.job_Job_Held {a0 : Value} (h : Vcf.job_Job_Held Tryz.prog a0 w R) : Cl Tryz.prog F.job_Job_Held #[a0] w R :=
  cl_of_vc (n := 14) (rs := [(.tmp 2)]) (h := (.s .z (.s (.j [8] [0] .z (.i (.s .z .z) .z)) (.s .z .z)))) (args := [a0]) (by kernel_rfl) Tryz.func14 rfl (by kernel_rfl) rfl rfl rfl (Eq.mp (by kernel_rfl) h)

def Vcf.job_Job_Done (P : Program) (a0 : Value) (w : World) (R : Value → World → Prop) : Prop :=
 Bn P 56 true a0 (.pointer none) fun x1=>Vif x1 (Nc a0<|Fo 1 a0 fun x2=>Ld x2 w fun x3=>Inv P (invoke (.fn (.method "Done") #[]) (#[x3] ++ #[])) w fun x4 w1=>R x4 w1) (R (.bool false) w)
theorem Tie.job_Job_Done {a0 : Value} (h : Vcf.job_Job_Done Tryz.prog a0 w R) : Cl Tryz.prog F.job_Job_Done #[a0] w R :=
  cl_of_vc (n := 12) (rs := [(.tmp 2)]) (h := (.s .z (.s .z .z))) (args := [a0]) (by kernel_rfl) Tryz.func15 rfl (by kernel_rfl) rfl rfl rfl (Eq.mp (by kernel_rfl) h)

def Vcf.balerlaw38_seen_moved (P : Program) (a0 a1 a2 : Value) (w : World) (R : Value → World → Prop) : Prop :=
 New a0 34 w fun x1 w1=>New (zeroP P 34) 34 w1 fun x2 w2=>Dr w2 fun w3=>Fo 1 x1 fun x3=>Ld x3 w3 fun x4=>Lns x4 fun x6=>Cl P F.upload_Flow_Rest #[a1] w3 fun x8 w4=>Rk (fun w K=>Lns x4 fun x7=>K x7) x6 w4<|Rk (fun w K=>Ld x3 w fun x5=>K x5) x4 w4<|Bp .sub x6 x8 fun x9=>VJoin 1 (fun _ x10 w5=>Vif x10 (Bd P 34 #[] w5 fun x11=>StA 4 x2 x11 w5 fun w6=>LdA 4 x2 w6 fun x12=>R x12 w6) (VJoin 0 (fun _ w7=>Fo 1 x1 fun x13=>Ld x13 w7 fun x14=>Sst x14 (some x9) none fun x15=>Fo 1 x1 fun x16=>St x16 x15 w7 fun w8=>LdA 4 x1 w8 fun x17=>StA 4 x2 x17 w8 fun w9=>LdA 4 x2 w9 fun x18=>R x18 w9) (fun J19=>Up .not a2 fun x20=>Vif x20 (Dr w5 fun w10=>Fo 0 x1 fun x21=>Ld x21 w10 fun x22=>Fo 1 x1 fun x24=>Ld x24 w10 fun x25=>Sst x25 none (some x9) fun x27=>Bp .add x22 x27 fun x29=>Fo 0 x1 fun x30=>St x30 x29 w10 fun w11=>KE [x1, x2, x9] [x1, x2, x9]<|J19 w11) (Cl P F.upload_Flow_Rest #[a1] w5 fun x31 w12=>Bp .neq x31 (.int .i64 0) fun x32=>Vif x32 (Bd P 34 #[] w12 fun x33=>StA 4 x2 x33 w12 fun w13=>LdA 4 x2 w13 fun x34=>R x34 w13) (KE [x1, x2, x9] [x1, x2, x9]<|J19 w12))))) (fun J35=>Bp .lss x9 (.int .i64 0) fun x36=>Vif x36 (KE [a1, a2, x1, x2, x9] [a1, a2, x1, x2, x9]<|J35 (.bool true) w4) (Fo 1 x1 fun x37=>Ld x37 w4 fun x38=>Lns x38 fun x39=>Bp .gtr x9 x39 fun x40=>KE [a1, a2, x1, x2, x9] [a1, a2, x1, x2, x9]<|J35 x40 w4))
theorem Tie.balerlaw38_seen_moved {a0 a1 a2 : Value} (h : Vcf.balerlaw38_seen_moved Tryz.prog a0 a1 a2 w R) : Cl Tryz.prog F.balerlaw38_seen_moved #[a0, a1, a2] w R :=
  cl_of_vc (n := 44) (rs := [(.cell 6 34)]) (h := (.s .z (.s (.r (.staged [0, 1, 3, 0, 8, 31, 63])) (.s (.j [22] [1, 2, 3, 6, 7] .z (.i (.s .z .z) .z)) (.j [] [3, 6, 7] (.s .z (.i (.r (.staged [0, 1, 0, 4, 0, 28, 63, 127, 255])) (.s .z (.i (.s .z .z) .z)))) (.s .z (.s .z .z))))))) (args := [a0, a1, a2]) (by kernel_rfl) Tryz.func16 rfl (by kernel_rfl) rfl rfl rfl (Eq.mp (by kernel_rfl) h)

def Vcf.upload_Flow_End (P : Program) (a0 : Value) (w : World) (R : Value → World → Prop) : Prop :=
 Bn P 46 false a0 (.pointer none) fun x1=>Vif x1 (R (.int .i64 7) w) (Nc a0<|Fo 2 a0 fun x2=>Ld x2 w fun x3=>Vif x3 (R (.int .i64 32) w) (Nc a0<|Fo 2 a0 fun x4=>St x4 (.bool true) w fun w1=>Cl P F.upload_Flow_Move #[a0] w1 fun x5 w2=>R (.int .i64 0) w2))
theorem Tie.upload_Flow_End {a0 : Value} (h : Vcf.upload_Flow_End Tryz.prog a0 w R) : Cl Tryz.prog F.upload_Flow_End #[a0] w R :=
  cl_of_vc (n := 16) (rs := [(.tmp 2)]) (h := (.s .z (.s (.b (.s .z (.i (.s .z .z) (.s .z (.i (.s .z .z) .z))))) (.s .z (.s .z (.s .z .z)))))) (args := [a0]) (by kernel_rfl) Tryz.func17 rfl (by kernel_rfl) rfl rfl rfl (Eq.mp (by kernel_rfl) h)

def Vcf.upload_Flow_Move (P : Program) (a0 : Value) (w : World) (R : Value → World → Prop) : Prop :=
 Bn P 46 false a0 (.pointer none) fun x1=>Vif x1 (R (.int .i64 0) w) (Nc a0<|Fo 1 a0 fun x2=>Ld x2 w fun x3=>Lns x3 fun x4=>Nc a0<|Fo 0 a0 fun x5=>Ld x5 w fun x6=>Cl P F.job_Job_Done #[x6] w fun x7 w1=>Vif x7 (Nc a0<|Fo 1 a0 fun x8=>St x8 (.string ⟨#[]⟩) w1 fun w2=>R x4 w2) (Dr w1 fun w3=>Nc a0<|Fo 0 a0 fun x9=>Ld x9 w3 fun x10=>Nc a0<|Fo 1 a0 fun x12=>Ld x12 w3 fun x13=>Cl P F.job_Job_Feed #[x10, x13] w3 fun x15 w4=>Nc a0<|Fo 1 a0 fun x16=>Ld x16 w4 fun x17=>Sst x17 (some x15) none fun x18=>Nc a0<|Fo 1 a0 fun x19=>St x19 x18 w4 fun w5=>Nc a0<|Fo 3 a0 fun x20=>Ld x20 w5 fun x21=>Bp .add x21 x15 fun x22=>Nc a0<|Fo 3 a0 fun x23=>St x23 x22 w5 fun w6=>VJoin 1 (fun _ x24 w7=>Vif x24 (Nc a0<|Fo 0 a0 fun x25=>Ld x25 w7 fun x26=>Cl P F.job_Job_End #[x26] w7 fun x27 w8=>R x15 w8) (R x15 w7)) (fun J28=>Nc a0<|Fo 2 a0 fun x29=>Ld x29 w6 fun x30=>Vif x30 (Nc a0<|Fo 1 a0 fun x31=>Ld x31 w6 fun x32=>Bp .eql x32 (.string ⟨#[]⟩) fun x33=>KE [a0, x15] [a0, x15]<|J28 x33 w6) (KE [a0, x15] [a0, x15]<|J28 (.bool false) w6))))
theorem Tie.upload_Flow_Move {a0 : Value} (h : Vcf.upload_Flow_Move Tryz.prog a0 w R) : Cl Tryz.prog F.upload_Flow_Move #[a0] w R :=
  cl_of_vc (n := 64) (rs := [(.tmp 2)]) (h := (.s .z (.s (.s .z (.i (.s .z .z) .z)) (.s .z (.s (.s .z (.i (.s .z (.s .z .z)) .z)) (.s (.r (.staged [0, 1, 3, 7, 0, 16, 48, 112, 255, 511])) (.s .z (.s .z (.s (.j [57] [0, 4] .z (.i .z .z)) (.s .z .z)))))))))) (args := [a0]) (by kernel_rfl) Tryz.func18 rfl (by kernel_rfl) rfl rfl rfl (Eq.mp (by kernel_rfl) h)

def Vcf.job_Job_Step (P : Program) (a0 a1 : Value) (w : World) (R : Value → World → Prop) : Prop :=
 Bn P 56 false a0 (.pointer none) fun x1=>Vif x1 (R (.int .i64 0) w) (Nc a0<|Fo 1 a0 fun x2=>Ld x2 w fun x3=>Inv P (invoke (.fn (.method "Step") #[]) (#[x3] ++ #[a1])) w fun x4 w1=>R x4 w1)
theorem Tie.job_Job_Step {a0 a1 : Value} (h : Vcf.job_Job_Step Tryz.prog a0 a1 w R) : Cl Tryz.prog F.job_Job_Step #[a0, a1] w R :=
  cl_of_vc (n := 13) (rs := [(.tmp 4)]) (h := (.s .z (.s (.s .z (.i (.s .z .z) .z)) (.s .z .z)))) (args := [a0, a1]) (by kernel_rfl) Tryz.func19 rfl (by kernel_rfl) rfl rfl rfl (Eq.mp (by kernel_rfl) h)

def Vcf.balerref23_May (P : Program) (a0 a1 a2 : Value) (w : World) (R : Value → World → Prop) : Prop :=
 Cl P F.balerref21_Level #[a0] w fun x1 w1=>Vif x1 (Cl P F.balerref21_Unit #[a1] w1 fun x2 w2=>Vif x2 (Bp .geq a2 (.int .i64 64) fun x3=>Vif x3 (Bp .leq a2 (.int .i64 1048576) fun x4=>R x4 w2) (R (.bool false) w2)) (R (.bool false) w2)) (R (.bool false) w1)
theorem Tie.balerref23_May {a0 a1 a2 : Value} (h : Vcf.balerref23_May Tryz.prog a0 a1 a2 w R) : Cl Tryz.prog F.balerref23_May #[a0, a1, a2] w R :=
  cl_of_vc (n := 21) (rs := [(.tmp 6)]) (h := (.s .z (.s .z .z))) (args := [a0, a1, a2]) (by kernel_rfl) Tryz.func20 rfl (by kernel_rfl) rfl rfl rfl (Eq.mp (by kernel_rfl) h)

def Vcf.balerref24_May (P : Program) (a0 a1 a2 : Value) (w : World) (R : Value → World → Prop) : Prop :=
 Cl P F.balerref21_Unit #[a0] w fun x1 w1=>Vif x1 (Bp .geq a1 (.int .i64 64) fun x2=>Vif x2 (Bp .leq a1 (.int .i64 1048576) fun x3=>Vif x3 (Bp .geq a2 (.int .i64 1) fun x4=>Vif x4 (Bp .leq a2 (.int .i64 65536) fun x5=>R x5 w1) (R (.bool false) w1)) (R (.bool false) w1)) (R (.bool false) w1)) (R (.bool false) w1)
theorem Tie.balerref24_May {a0 a1 a2 : Value} (h : Vcf.balerref24_May Tryz.prog a0 a1 a2 w R) : Cl Tryz.prog F.balerref24_May #[a0, a1, a2] w R :=
  cl_of_vc (n := 25) (rs := [(.tmp 6)]) (h := (.s .z (.s .z .z))) (args := [a0, a1, a2]) (by kernel_rfl) Tryz.func21 rfl (by kernel_rfl) rfl rfl rfl (Eq.mp (by kernel_rfl) h)

def Vcf.job_machineOf (P : Program) (a0 a1 a2 a3 : Value) (w : World) (R : Value → World → Prop) : Prop :=
 Bp .eql a0 (.int .i64 1) fun x1=>Vif x1 (Cl P F.press_New #[a1, a2, a3] w fun x2 w1=>Ex x2 0 fun x3=>Ex x2 1 fun x4=>R (.tuple #[(.iface 59 x3), x4]) w1) (Bp .eql a0 (.int .i64 2) fun x5=>Vif x5 (Cl P F.unpress_New #[a2, a3, (.int .i64 4096)] w fun x6 w2=>Ex x6 0 fun x7=>Ex x6 1 fun x8=>R (.tuple #[(.iface 62 x7), x8]) w2) (Bp .eql a0 (.int .i64 3) fun x9=>Vif x9 (Cl P F.tester_New #[a2, a3] w fun x10 w3=>Ex x10 0 fun x11=>Ex x10 1 fun x12=>R (.tuple #[(.iface 65 x11), x12]) w3) (R (.tuple #[.nilIface, (.int .i64 1)]) w)))
theorem Tie.job_machineOf {a0 a1 a2 a3 : Value} (h : Vcf.job_machineOf Tryz.prog a0 a1 a2 a3 w R) : Cl Tryz.prog F.job_machineOf #[a0, a1, a2, a3] w R :=
  cl_of_vc (n := 51) (rs := [(.tmp 8), (.tmp 9)]) (h := (.s .z (.s (.s .z (.b (.s .z (.i (.s .z (.s .z .z)) (.s .z (.i (.s .z (.s .z .z)) (.s .z (.i (.s .z (.s .z .z)) .z)))))))) (.s .z .z)))) (args := [a0, a1, a2, a3]) (by kernel_rfl) Tryz.func22 rfl (by kernel_rfl) rfl rfl rfl (Eq.mp (by kernel_rfl) h)

def Vcf.job_Job_failed (P : Program) (a0 : Value) (w : World) (R : Value → World → Prop) : Prop :=
 Cl P F.job_Job_Err #[a0] w fun x1 w1=>Bp .neq x1 (.int .i64 0) fun x2=>R x2 w1
theorem Tie.job_Job_failed {a0 : Value} (h : Vcf.job_Job_failed Tryz.prog a0 w R) : Cl Tryz.prog F.job_Job_failed #[a0] w R :=
  cl_of_vc (n := 6) (rs := [(.tmp 2)]) (h := (.s .z (.s .z .z))) (args := [a0]) (by kernel_rfl) Tryz.func23 rfl (by kernel_rfl) rfl rfl rfl (Eq.mp (by kernel_rfl) h)

def Vcf.job_Job_Feed (P : Program) (a0 a1 : Value) (w : World) (R : Value → World → Prop) : Prop :=
 VJoin 1 (fun _ x1 w1=>Vif x1 (R (.int .i64 0) w1) (Nc a0<|Fo 1 a0 fun x2=>Ld x2 w1 fun x3=>Inv P (invoke (.fn (.method "Feed") #[]) (#[x3] ++ #[a1])) w1 fun x4 w2=>R x4 w2)) (fun J5=>Bn P 56 false a0 (.pointer none) fun x6=>Vif x6 (KE [a0, a1] [a0, a1]<|J5 (.bool true) w) (Cl P F.job_Job_Done #[a0] w fun x7 w3=>KE [a0, a1] [a0, a1]<|J5 x7 w3))
theorem Tie.job_Job_Feed {a0 a1 : Value} (h : Vcf.job_Job_Feed Tryz.prog a0 a1 w R) : Cl Tryz.prog F.job_Job_Feed #[a0, a1] w R :=
  cl_of_vc (n := 17) (rs := [(.tmp 4)]) (h := (.s .z (.s (.j [10] [0, 1] .z (.i (.s .z .z) .z)) (.s .z .z)))) (args := [a0, a1]) (by kernel_rfl) Tryz.func24 rfl (by kernel_rfl) rfl rfl rfl (Eq.mp (by kernel_rfl) h)

def Vcf.job_Job_End (P : Program) (a0 : Value) (w : World) (R : Value → World → Prop) : Prop :=
 Bn P 56 false a0 (.pointer none) fun x1=>Vif x1 (R (.int .i64 7) w) (Nc a0<|Fo 1 a0 fun x2=>Ld x2 w fun x3=>Inv P (invoke (.fn (.method "End") #[]) (#[x3] ++ #[])) w fun x4 w1=>R x4 w1)
theorem Tie.job_Job_End {a0 : Value} (h : Vcf.job_Job_End Tryz.prog a0 w R) : Cl Tryz.prog F.job_Job_End #[a0] w R :=
  cl_of_vc (n := 10) (rs := [(.tmp 2)]) (h := (.s .z (.s (.s .z (.i (.s .z .z) .z)) (.s .z .z)))) (args := [a0]) (by kernel_rfl) Tryz.func25 rfl (by kernel_rfl) rfl rfl rfl (Eq.mp (by kernel_rfl) h)

def Vcf.balerref21_Level (P : Program) (a0 : Value) (w : World) (R : Value → World → Prop) : Prop :=
 Bp .geq a0 (.int .i64 1) fun x1=>Vif x1 (Bp .leq a0 (.int .i64 9) fun x2=>R x2 w) (R (.bool false) w)
theorem Tie.balerref21_Level {a0 : Value} (h : Vcf.balerref21_Level Tryz.prog a0 w R) : Cl Tryz.prog F.balerref21_Level #[a0] w R :=
  cl_of_vc (n := 9) (rs := [(.tmp 2)]) (h := (.s .z (.s .z .z))) (args := [a0]) (by kernel_rfl) Tryz.func26 rfl (by kernel_rfl) rfl rfl rfl (Eq.mp (by kernel_rfl) h)

def Vcf.balerref21_Unit (P : Program) (a0 : Value) (w : World) (R : Value → World → Prop) : Prop :=
 Bp .geq a0 (.int .i64 24) fun x1=>Vif x1 (Bp .leq a0 (.int .i64 100000) fun x2=>R x2 w) (R (.bool false) w)
theorem Tie.balerref21_Unit {a0 : Value} (h : Vcf.balerref21_Unit Tryz.prog a0 w R) : Cl Tryz.prog F.balerref21_Unit #[a0] w R :=
  cl_of_vc (n := 9) (rs := [(.tmp 2)]) (h := (.s .z (.s .z .z))) (args := [a0]) (by kernel_rfl) Tryz.func27 rfl (by kernel_rfl) rfl rfl rfl (Eq.mp (by kernel_rfl) h)

def Vcf.press_New (P : Program) (a0 a1 a2 : Value) (w : World) (R : Value → World → Prop) : Prop :=
 Cl P F.split_Room #[a0, a1] w fun x1 w1=>Ex x1 0 fun x2=>Ex x1 1 fun x3=>VJoin 1 (fun _ x4 w2=>Vif x4 (R (.tuple #[(.pointer none), (.int .i64 1)]) w2) (Cl P F.split_New #[x2] w2 fun x5 w3=>Ex x5 0 fun x6=>Ex x5 1 fun x7=>Cl P F.stream_New #[a0] w3 fun x8 w4=>Ex x8 0 fun x9=>Ex x8 1 fun x10=>Cl P F.stream_Writer_Take #[x9] w4 fun x11 w5=>Bd P 80 #[(0, a2), (3, x6), (8, x9), (9, x11)] w5 fun x12=>New x12 80 w5 fun x13 w6=>R (.tuple #[x13, (.int .i64 0)]) w6)) (fun J14=>Bp .neq x3 (.int .i64 0) fun x15=>Vif x15 (KE [a0, a2, x2] [a0, a2, x2]<|J14 (.bool true) w1) (Cl P F.press_windowed #[a2] w1 fun x16 w7=>Up .not x16 fun x17=>KE [a0, a2, x2] [a0, a2, x2]<|J14 x17 w7))
theorem Tie.press_New {a0 a1 a2 : Value} (h : Vcf.press_New Tryz.prog a0 a1 a2 w R) : Cl Tryz.prog F.press_New #[a0, a1, a2] w R :=
  cl_of_vc (n := 44) (rs := [(.tmp 6), (.tmp 7)]) (h := (.s .z (.s .z (.s (.j [26] [0, 2, 8] .z (.i (.s .z .z) .z)) (.s .z (.s .z (.s .z .z))))))) (args := [a0, a1, a2]) (by kernel_rfl) Tryz.func28 rfl (by kernel_rfl) rfl rfl rfl (Eq.mp (by kernel_rfl) h)

def Vcf.unpress_New (P : Program) (a0 a1 a2 : Value) (w : World) (R : Value → World → Prop) : Prop :=
 Cl P F.unstream_New #[a0] w fun x1 w1=>Ex x1 0 fun x2=>Ex x1 1 fun x3=>VJoin 1 (fun _ x4 w2=>Vif x4 (R (.tuple #[(.pointer none), (.int .i64 1)]) w2) (Cl P F.bits_NewReader #[(.string ⟨#[]⟩)] w2 fun x5 w3=>Bd P 89 #[(0, a1), (1, a2), (3, x5), (4, x2)] w3 fun x6=>New x6 89 w3 fun x7 w4=>R (.tuple #[x7, (.int .i64 0)]) w4)) (fun J8=>Bp .neq x3 (.int .i64 0) fun x9=>Vif x9 (KE [a1, a2, x2] [a1, a2, x2]<|J8 (.bool true) w1) (Cl P F.unpress_may #[a1, a2] w1 fun x10 w5=>Up .not x10 fun x11=>KE [a1, a2, x2] [a1, a2, x2]<|J8 x11 w5))
theorem Tie.unpress_New {a0 a1 a2 : Value} (h : Vcf.unpress_New Tryz.prog a0 a1 a2 w R) : Cl Tryz.prog F.unpress_New #[a0, a1, a2] w R :=
  cl_of_vc (n := 29) (rs := [(.tmp 6), (.tmp 7)]) (h := (.s .z (.s .z (.s (.j [22] [1, 2, 8] .z (.i (.s .z .z) .z)) (.s .z .z))))) (args := [a0, a1, a2]) (by kernel_rfl) Tryz.func29 rfl (by kernel_rfl) rfl rfl rfl (Eq.mp (by kernel_rfl) h)

def Vcf.tester_New (P : Program) (a0 a1 : Value) (w : World) (R : Value → World → Prop) : Prop :=
 Cl P F.unpress_New #[a0, a1, (.int .i64 4096)] w fun x1 w1=>Ex x1 0 fun x2=>Ex x1 1 fun x3=>Bp .neq x3 (.int .i64 0) fun x4=>Vif x4 (R (.tuple #[(.pointer none), x3]) w1) (Bd P 91 #[(0, x2)] w1 fun x5=>Bd P 93 #[(0, x5)] w1 fun x6=>New x6 93 w1 fun x7 w2=>R (.tuple #[x7, (.int .i64 0)]) w2)
theorem Tie.tester_New {a0 a1 : Value} (h : Vcf.tester_New Tryz.prog a0 a1 w R) : Cl Tryz.prog F.tester_New #[a0, a1] w R :=
  cl_of_vc (n := 21) (rs := [(.tmp 4), (.tmp 5)]) (h := (.s .z (.s .z (.s (.s .z (.i (.s .z .z) .z)) (.s .z .z))))) (args := [a0, a1]) (by kernel_rfl) Tryz.func30 rfl (by kernel_rfl) rfl rfl rfl (Eq.mp (by kernel_rfl) h)

def Vcf.job_Job_Err (P : Program) (a0 : Value) (w : World) (R : Value → World → Prop) : Prop :=
 Bn P 56 false a0 (.pointer none) fun x1=>Vif x1 (R (.int .i64 0) w) (Nc a0<|Fo 1 a0 fun x2=>Ld x2 w fun x3=>Ta P x3 52 95 true w fun x4=>Ex x4 0 fun x5=>Ex x4 1 fun x6=>Vif x6 (Inv P (invoke (.fn (.method "Err") #[]) (#[x5] ++ #[])) w fun x7 w1=>R x7 w1) (R (.int .i64 0) w))
theorem Tie.job_Job_Err {a0 : Value} (h : Vcf.job_Job_Err Tryz.prog a0 w R) : Cl Tryz.prog F.job_Job_Err #[a0] w R :=
  cl_of_vc (n := 18) (rs := [(.tmp 2)]) (h := (.s .z (.s (.s .z (.i (.s .z .z) .z)) (.s (.s .z (.s .z (.i (.s .z .z) .z))) (.s .z .z))))) (args := [a0]) (by kernel_rfl) Tryz.func31 rfl (by kernel_rfl) rfl rfl rfl (Eq.mp (by kernel_rfl) h)

def Vcf.split_Room (P : Program) (a0 a1 : Value) (w : World) (R : Value → World → Prop) : Prop :=
 VJoin 1 (fun _ x1 w1=>Vif x1 (R (.tuple #[(.int .i64 0), (.int .i64 1)]) w1) (Bp .mul a0 a1 fun x2=>Bp .sub x2 (.int .i64 19) fun x3=>R (.tuple #[x3, (.int .i64 0)]) w1)) (fun J4=>Bp .lss a0 (.int .i64 1) fun x5=>Vif x5 (KE [a0, a1] [a0, a1]<|J4 (.bool true) w) (Bp .gtr a0 (.int .i64 9) fun x6=>Vif x6 (KE [a0, a1] [a0, a1]<|J4 (.bool true) w) (Bp .lss a1 (.int .i64 24) fun x7=>Vif x7 (KE [a0, a1] [a0, a1]<|J4 (.bool true) w) (Bp .gtr a1 (.int .i64 100000) fun x8=>KE [a0, a1] [a0, a1]<|J4 x8 w))))
theorem Tie.split_Room {a0 a1 : Value} (h : Vcf.split_Room Tryz.prog a0 a1 w R) : Cl Tryz.prog F.split_Room #[a0, a1] w R :=
  cl_of_vc (n := 24) (rs := [(.tmp 4), (.tmp 5)]) (h := (.s .z (.s (.j [19] [0, 1] .z (.i (.s .z .z) .z)) (.s .z .z)))) (args := [a0, a1]) (by kernel_rfl) Tryz.func32 rfl (by kernel_rfl) rfl rfl rfl (Eq.mp (by kernel_rfl) h)

def Vcf.press_windowed (P : Program) (a0 : Value) (w : World) (R : Value → World → Prop) : Prop :=
 Bp .geq a0 (.int .i64 64) fun x1=>Vif x1 (Bp .leq a0 (.int .i64 1048576) fun x2=>R x2 w) (R (.bool false) w)
theorem Tie.press_windowed {a0 : Value} (h : Vcf.press_windowed Tryz.prog a0 w R) : Cl Tryz.prog F.press_windowed #[a0] w R :=
  cl_of_vc (n := 9) (rs := [(.tmp 2)]) (h := (.s .z (.s .z .z))) (args := [a0]) (by kernel_rfl) Tryz.func33 rfl (by kernel_rfl) rfl rfl rfl (Eq.mp (by kernel_rfl) h)

def Vcf.split_New (P : Program) (a0 : Value) (w : World) (R : Value → World → Prop) : Prop :=
 VJoin 1 (fun _ x1 w1=>Vif x1 (R (.tuple #[(.pointer none), (.int .i64 1)]) w1) (Cl P F.crc_New #[] w1 fun x2 w2=>Bd P 100 #[(1, x2)] w2 fun x3=>Cl P F.feed_NewPacker #[] w2 fun x4 w3=>Bd P 104 #[(0, x3), (1, a0), (2, x4)] w3 fun x5=>New x5 104 w3 fun x6 w4=>R (.tuple #[x6, (.int .i64 0)]) w4)) (fun J7=>Bp .lss a0 (.int .i64 5) fun x8=>Vif x8 (KE [a0] [a0]<|J7 (.bool true) w) (Bp .gtr a0 (.int .i64 900000) fun x9=>KE [a0] [a0]<|J7 x9 w))
theorem Tie.split_New {a0 : Value} (h : Vcf.split_New Tryz.prog a0 w R) : Cl Tryz.prog F.split_New #[a0] w R :=
  cl_of_vc (n := 16) (rs := [(.tmp 2), (.tmp 3)]) (h := (.s .z (.s (.j [9] [0] .z (.i (.s .z .z) .z)) (.s .z .z)))) (args := [a0]) (by kernel_rfl) Tryz.func34 rfl (by kernel_rfl) rfl rfl rfl (Eq.mp (by kernel_rfl) h)

def Vcf.stream_New (P : Program) (a0 : Value) (w : World) (R : Value → World → Prop) : Prop :=
 VJoin 1 (fun _ x1 w1=>Vif x1 (R (.tuple #[(.pointer none), (.int .i64 1)]) w1) (Cl P F.bits_NewWriter #[] w1 fun x2 w2=>Bd P 109 #[(0, x2)] w2 fun x3=>New x3 109 w2 fun x4 w3=>VLoop 1 [(.int .i64 0)] w3 fun _ next6 x5 w4=>Bp .lss x5 (.int .i64 3) fun x7=>Vif x7 (Dr w4 fun w5=>Nc x4<|Fo 0 x4 fun x8=>Ld x8 w5 fun x9=>Ixs (.string ⟨#[66, 90, 104]⟩) x5 fun x11=>Ci .u32 x11 fun x12=>Cl P F.bits_Writer_Put #[x9, x12, (.int .i64 8)] w5 fun x13 w6=>Bp .add x5 (.int .i64 1) fun x14=>KE [a0, x4] [a0, x4]<|next6 x14 w6) (Nc x4<|Fo 0 x4 fun x15=>Ld x15 w4 fun x16=>Bp .add (.int .i64 48) a0 fun x17=>Ci .u32 x17 fun x18=>Cl P F.bits_Writer_Put #[x16, x18, (.int .i64 8)] w4 fun x19 w7=>R (.tuple #[x4, (.int .i64 0)]) w7))) (fun J20=>Bp .lss a0 (.int .i64 1) fun x21=>Vif x21 (KE [a0] [a0]<|J20 (.bool true) w) (Bp .gtr a0 (.int .i64 9) fun x22=>KE [a0] [a0]<|J20 x22 w))
theorem Tie.stream_New {a0 : Value} (h : Vcf.stream_New Tryz.prog a0 w R) : Cl Tryz.prog F.stream_New #[a0] w R :=
  cl_of_vc (n := 36) (rs := [(.tmp 2), (.tmp 3)]) (h := (.s .z (.s (.j [11] [0] .z (.i (.s .z .z) .z)) (.s .z (.s (.s .z (.b (.l [15] [0, 4] (.s .z (.s (.i .z .z) (.s (.b (.s .z (.r (.staged [0, 1, 3, 7, 0, 16, 48, 127])))) .z)))))) (.s .z (.s .z .z))))))) (args := [a0]) (by kernel_rfl) Tryz.func35 rfl (by kernel_rfl) rfl rfl rfl (Eq.mp (by kernel_rfl) h)

def Vcf.stream_Writer_Take (P : Program) (a0 : Value) (w : World) (R : Value → World → Prop) : Prop :=
 Bn P 109 false a0 (.pointer none) fun x1=>Vif x1 (R (.string ⟨#[]⟩) w) (Nc a0<|Fo 0 a0 fun x2=>Ld x2 w fun x3=>Cl P F.bits_Writer_Take #[x3] w fun x4 w1=>R x4 w1)
theorem Tie.stream_Writer_Take {a0 : Value} (h : Vcf.stream_Writer_Take Tryz.prog a0 w R) : Cl Tryz.prog F.stream_Writer_Take #[a0] w R :=
  cl_of_vc (n := 10) (rs := [(.tmp 2)]) (h := (.s .z (.s (.s .z (.i (.s .z .z) .z)) (.s .z .z)))) (args := [a0]) (by kernel_rfl) Tryz.func36 rfl (by kernel_rfl) rfl rfl rfl (Eq.mp (by kernel_rfl) h)

def Vcf.unstream_New (P : Program) (a0 : Value) (w : World) (R : Value → World → Prop) : Prop :=
 Cl P F.split_Room #[(.int .i64 1), a0] w fun x1 w1=>Ex x1 0 fun x2=>Ex x1 1 fun x3=>Bp .neq x3 (.int .i64 0) fun x4=>Vif x4 (R (.tuple #[(.pointer none), x3]) w1) (Bd P 116 #[(0, a0)] w1 fun x5=>New x5 116 w1 fun x6 w2=>R (.tuple #[x6, (.int .i64 0)]) w2)
theorem Tie.unstream_New {a0 : Value} (h : Vcf.unstream_New Tryz.prog a0 w R) : Cl Tryz.prog F.unstream_New #[a0] w R :=
  cl_of_vc (n := 17) (rs := [(.tmp 2), (.tmp 3)]) (h := (.s .z (.s (.s .z (.s .z (.i (.s .z .z) .z))) (.s .z .z)))) (args := [a0]) (by kernel_rfl) Tryz.func37 rfl (by kernel_rfl) rfl rfl rfl (Eq.mp (by kernel_rfl) h)

def Vcf.unpress_may (P : Program) (a0 a1 : Value) (w : World) (R : Value → World → Prop) : Prop :=
 Bp .geq a0 (.int .i64 64) fun x1=>Vif x1 (Bp .leq a0 (.int .i64 1048576) fun x2=>Vif x2 (Bp .geq a1 (.int .i64 1) fun x3=>Vif x3 (Bp .leq a1 (.int .i64 65536) fun x4=>R x4 w) (R (.bool false) w)) (R (.bool false) w)) (R (.bool false) w)
theorem Tie.unpress_may {a0 a1 : Value} (h : Vcf.unpress_may Tryz.prog a0 a1 w R) : Cl Tryz.prog F.unpress_may #[a0, a1] w R :=
  cl_of_vc (n := 19) (rs := [(.tmp 4)]) (h := (.s .z (.s .z .z))) (args := [a0, a1]) (by kernel_rfl) Tryz.func38 rfl (by kernel_rfl) rfl rfl rfl (Eq.mp (by kernel_rfl) h)

def Vcf.bits_NewReader (P : Program) (a0 : Value) (w : World) (R : Value → World → Prop) : Prop :=
 Bd P 118 #[(0, a0)] w fun x1=>New x1 118 w fun x2 w1=>R x2 w1
theorem Tie.bits_NewReader {a0 : Value} (h : Vcf.bits_NewReader Tryz.prog a0 w R) : Cl Tryz.prog F.bits_NewReader #[a0] w R :=
  cl_of_vc (n := 6) (rs := [(.tmp 2)]) (h := (.s .z (.s .z .z))) (args := [a0]) (by kernel_rfl) Tryz.func39 rfl (by kernel_rfl) rfl rfl rfl (Eq.mp (by kernel_rfl) h)

def Vcf.crc_New (P : Program) (w : World) (R : Value → World → Prop) : Prop :=
 Cl P F.crc_Table #[] w fun x1 w1=>Bd P 122 #[(0, x1), (1, (.int .u32 4294967295))] w1 fun x2=>New x2 122 w1 fun x3 w2=>R x3 w2
theorem Tie.crc_New (h : Vcf.crc_New Tryz.prog w R) : Cl Tryz.prog F.crc_New #[] w R :=
  cl_of_vc (n := 4) (rs := [(.tmp 0)]) (h := (.s .z (.s .z .z))) (args := []) (by kernel_rfl) Tryz.func40 rfl (by kernel_rfl) rfl rfl rfl (Eq.mp (by kernel_rfl) h)

def Vcf.feed_NewPacker (P : Program) (w : World) (R : Value → World → Prop) : Prop :=
 Bd P 126 #[] w fun x1=>New x1 126 w fun x2 w1=>R x2 w1
theorem Tie.feed_NewPacker (h : Vcf.feed_NewPacker Tryz.prog w R) : Cl Tryz.prog F.feed_NewPacker #[] w R :=
  cl_of_vc (n := 3) (rs := [(.tmp 0)]) (h := (.s .z (.s .z .z))) (args := []) (by kernel_rfl) Tryz.func41 rfl (by kernel_rfl) rfl rfl rfl (Eq.mp (by kernel_rfl) h)

def Vcf.bits_NewWriter (P : Program) (w : World) (R : Value → World → Prop) : Prop :=
 Bd P 128 #[] w fun x1=>New x1 128 w fun x2 w1=>R x2 w1
theorem Tie.bits_NewWriter (h : Vcf.bits_NewWriter Tryz.prog w R) : Cl Tryz.prog F.bits_NewWriter #[] w R :=
  cl_of_vc (n := 3) (rs := [(.tmp 0)]) (h := (.s .z (.s .z .z))) (args := []) (by kernel_rfl) Tryz.func42 rfl (by kernel_rfl) rfl rfl rfl (Eq.mp (by kernel_rfl) h)

def Vcf.bits_Writer_Put (P : Program) (a0 a1 a2 : Value) (w : World) (R : Value → World → Prop) : Prop :=
 Bn P 128 false a0 (.pointer none) fun x1=>Vif x1 (R (.int .i64 7) w) (Cl P F.bits_fits #[a1, a2] w fun x2 w1=>Up .not x2 fun x3=>Vif x3 (R (.int .i64 1) w1) (VLoop 1 [(.int .i64 0)] w1 fun _ next5 x4 w2=>Bp .lss x4 a2 fun x6=>Vif x6 (Bp .sub a2 (.int .i64 1) fun x7=>Bp .sub x7 x4 fun x8=>Bp .shr a1 x8 fun x9=>Bp .and x9 (.int .u32 1) fun x10=>Ci .u8 x10 fun x11=>Cl P F.bits_Writer_bit #[a0, x11] w2 fun x12 w3=>Bp .add x4 (.int .i64 1) fun x13=>KE [a0, a1, a2, a2] [a0, a1, a2, a2]<|next5 x13 w3) (R (.int .i64 0) w2)))
theorem Tie.bits_Writer_Put {a0 a1 a2 : Value} (h : Vcf.bits_Writer_Put Tryz.prog a0 a1 a2 w R) : Cl Tryz.prog F.bits_Writer_Put #[a0, a1, a2] w R :=
  cl_of_vc (n := 31) (rs := [(.tmp 6)]) (h := (.s .z (.s (.b (.s .z (.i (.s .z .z) (.s .z (.i (.s .z .z) .z))))) (.s (.s .z (.b (.l [17] [0, 1, 2, 16] (.s .z (.s (.i .z .z) (.s (.b (.s .z .z)) .z)))))) (.s .z .z))))) (args := [a0, a1, a2]) (by kernel_rfl) Tryz.func43 rfl (by kernel_rfl) rfl rfl rfl (Eq.mp (by kernel_rfl) h)

def Vcf.bits_Writer_Take (P : Program) (a0 : Value) (w : World) (R : Value → World → Prop) : Prop :=
 Bn P 128 false a0 (.pointer none) fun x1=>Vif x1 (R (.string ⟨#[]⟩) w) (Nc a0<|Fo 0 a0 fun x2=>Ld x2 w fun x3=>Cw P 44 9 x3 w fun x4 w1=>Nc a0<|Fo 0 a0 fun x5=>St x5 (.slice none 0 0) w1 fun w2=>R x4 w2)
theorem Tie.bits_Writer_Take {a0 : Value} (h : Vcf.bits_Writer_Take Tryz.prog a0 w R) : Cl Tryz.prog F.bits_Writer_Take #[a0] w R :=
  cl_of_vc (n := 15) (rs := [(.tmp 2)]) (h := (.s .z (.s (.s .z (.i (.s .z .z) .z)) (.s .z (.s .z (.s .z .z)))))) (args := [a0]) (by kernel_rfl) Tryz.func44 rfl (by kernel_rfl) rfl rfl rfl (Eq.mp (by kernel_rfl) h)

def Vcf.crc_Table (P : Program) (w : World) (R : Value → World → Prop) : Prop :=
 New (zeroP P 119) 119 w fun x1 w1=>New (zeroP P 119) 119 w1 fun out_2 w2=>VLoop 1 [(.int .i64 0)] w2 fun _ next4 x3 w3=>Bp .lss x3 (.int .i64 256) fun x5=>Vif x5 (Ci .u32 x3 fun x6=>Bp .shl x6 (.int .u64 24) fun x7=>VLoop 2 [x7, (.int .i64 0)] w3 fun _ next10 sum_8 x9 w4=>Bp .lss x9 (.int .i64 8) fun x11=>Vif x11 (Bp .shr sum_8 (.int .u64 31) fun x12=>Bp .shl sum_8 (.int .u64 1) fun x13=>Bp .mul x12 (.int .u32 79764919) fun x14=>Bp .xor x13 x14 fun x15=>Bp .add x9 (.int .i64 1) fun x16=>KE [x1, out_2, x3, x3] [x1, out_2, x3, x3]<|next10 x15 x16 w4) (Iaa 256 1 out_2 x3 fun x17=>St x17 sum_8 w4 fun w5=>Bp .add x3 (.int .i64 1) fun x18=>KE [x1, out_2] [x1, out_2]<|next4 x18 w5)) (LdA 256 out_2 w3 fun x19=>StA 256 x1 x19 w3 fun w6=>LdA 256 x1 w6 fun x20=>R x20 w6)
theorem Tie.crc_Table (h : Vcf.crc_Table Tryz.prog w R) : Cl Tryz.prog F.crc_Table #[] w R :=
  cl_of_vc (n := 26) (rs := [(.cell 0 119)]) (h := (.s .z (.s .z (.s (.s .z (.b (.l [5] [0, 1] (.s .z (.s (.i .z .z) (.s (.b (.s .z (.s .z (.s (.s .z (.b (.l [3, 11] [0, 1, 2, 5] (.s .z (.s (.i .z .z) (.s (.b (.s .z .z)) .z)))))) .z)))) .z)))))) (.s .z .z))))) (args := []) (by kernel_rfl) Tryz.func45 rfl (by kernel_rfl) rfl rfl rfl (Eq.mp (by kernel_rfl) h)

def Vcf.bits_fits (P : Program) (a0 a1 : Value) (w : World) (R : Value → World → Prop) : Prop :=
 Bp .geq a1 (.int .i64 0) fun x1=>Vif x1 (Bp .leq a1 (.int .i64 32) fun x2=>Vif x2 (Ci .u64 a0 fun x3=>Bp .shr x3 a1 fun x4=>Bp .eql x4 (.int .u64 0) fun x5=>R x5 w) (R (.bool false) w)) (R (.bool false) w)
theorem Tie.bits_fits {a0 a1 : Value} (h : Vcf.bits_fits Tryz.prog a0 a1 w R) : Cl Tryz.prog F.bits_fits #[a0, a1] w R :=
  cl_of_vc (n := 18) (rs := [(.tmp 4)]) (h := (.s .z (.s .z .z))) (args := [a0, a1]) (by kernel_rfl) Tryz.func46 rfl (by kernel_rfl) rfl rfl rfl (Eq.mp (by kernel_rfl) h)

def Vcf.bits_Writer_bit (P : Program) (a0 a1 : Value) (w : World) (R : Value → World → Prop) : Prop :=
 Nc a0<|Fo 2 a0 fun x1=>Ld x1 w fun x2=>Bp .rem x2 (.int .i64 8) fun x3=>Dr w fun w1=>Nc a0<|Fo 1 a0 fun x4=>Ld x4 w1 fun x5=>Bp .sub (.int .i64 7) x3 fun x7=>Bp .shl a1 x7 fun x8=>Bp .or x5 x8 fun x9=>Nc a0<|Fo 1 a0 fun x10=>St x10 x9 w1 fun w2=>Nc a0<|Fo 2 a0 fun x11=>Ld x11 w2 fun x12=>Bp .add x12 (.int .i64 1) fun x13=>Nc a0<|Fo 2 a0 fun x14=>St x14 x13 w2 fun w3=>Bp .eql x3 (.int .i64 7) fun x15=>Vif x15 (Dr w3 fun w4=>Nc a0<|Fo 0 a0 fun x16=>Ld x16 w4 fun x17=>Nc a0<|Fo 1 a0 fun x19=>Ld x19 w4 fun x20=>Bs P 44 1 #[(0, x20)] w4 fun x22 w5=>Rk (fun w K=>Ld x16 w fun x18=>K x18) x17 w5<|Ap P #[44, 44] 44 #[x17, x22] w5 fun x23 w6=>Nc a0<|Fo 0 a0 fun x24=>St x24 x23 w6 fun w7=>Nc a0<|Fo 1 a0 fun x25=>St x25 (.int .u8 0) w7 fun w8=>R (.tuple #[]) w8) (R (.tuple #[]) w3)
theorem Tie.bits_Writer_bit {a0 a1 : Value} (h : Vcf.bits_Writer_bit Tryz.prog a0 a1 w R) : Cl Tryz.prog F.bits_Writer_bit #[a0, a1] w R :=
  cl_of_vc (n := 46) (rs := []) (h := (.s .z (.s (.r (.staged [0, 1, 3, 7, 0, 0, 32, 112, 255, 511, 1023, 2047])) (.s .z (.s .z (.i (.s (.r (.staged [0, 0, 2, 6, 14, 0, 32, 96, 224, 480, 1022, 2047, 4095, 8191])) .z) .z)))))) (args := [a0, a1]) (by kernel_rfl) Tryz.func47 rfl (by kernel_rfl) rfl rfl rfl (Eq.mp (by kernel_rfl) h)

def Vcf.press_Press_Done (P : Program) (a0 : Value) (w : World) (R : Value → World → Prop) : Prop :=
 Bn P 80 true a0 (.pointer none) fun x1=>Vif x1 (Nc a0<|Fo 10 a0 fun x2=>Ld x2 w fun x3=>R x3 w) (R (.bool false) w)
theorem Tie.press_Press_Done {a0 : Value} (h : Vcf.press_Press_Done Tryz.prog a0 w R) : Cl Tryz.prog F.press_Press_Done #[a0] w R :=
  cl_of_vc (n := 11) (rs := [(.tmp 2)]) (h := (.s .z (.s .z .z))) (args := [a0]) (by kernel_rfl) Tryz.func65 rfl (by kernel_rfl) rfl rfl rfl (Eq.mp (by kernel_rfl) h)

def Vcf.press_Press_End (P : Program) (a0 : Value) (w : World) (R : Value → World → Prop) : Prop :=
 VJoin 1 (fun _ x1 w1=>Vif x1 (R (.int .i64 7) w1) (Nc a0<|Fo 2 a0 fun x2=>St x2 (.bool true) w1 fun w2=>Cl P F.press_Press_flush #[a0] w2 fun x3 w3=>R (.int .i64 0) w3)) (fun J4=>Bn P 80 false a0 (.pointer none) fun x5=>Vif x5 (KE [a0] [a0]<|J4 (.bool true) w) (Nc a0<|Fo 2 a0 fun x6=>Ld x6 w fun x7=>KE [a0] [a0]<|J4 x7 w))
theorem Tie.press_Press_End {a0 : Value} (h : Vcf.press_Press_End Tryz.prog a0 w R) : Cl Tryz.prog F.press_Press_End #[a0] w R :=
  cl_of_vc (n := 16) (rs := [(.tmp 2)]) (h := (.s .z (.s (.j [10] [0] .z (.i (.s .z .z) .z)) (.s .z (.s .z (.s .z .z)))))) (args := [a0]) (by kernel_rfl) Tryz.func66 rfl (by kernel_rfl) rfl rfl rfl (Eq.mp (by kernel_rfl) h)

def Vcf.press_Press_Feed (P : Program) (a0 a1 : Value) (w : World) (R : Value → World → Prop) : Prop :=
 VJoin 1 (fun _ x1 w1=>Vif x1 (R (.int .i64 0) w1) (Dr w1 fun w2=>Lns a1 fun x2=>Nc a0<|Fo 0 a0 fun x4=>Ld x4 w2 fun x5=>Nc a0<|Fo 1 a0 fun x7=>Ld x7 w2 fun x8=>Lns x8 fun x10=>Bp .sub x5 x10 fun x12=>Bmin P #[3, 3] 3 #[x2, x12] w2 fun x13=>Dr w2 fun w3=>Nc a0<|Fo 1 a0 fun x15=>Ld x15 w3 fun x16=>Sst a1 none (some x13) fun x18=>Bp .add x16 x18 fun x20=>Nc a0<|Fo 1 a0 fun x21=>St x21 x20 w3 fun w4=>R x13 w4)) (fun J22=>Bn P 80 false a0 (.pointer none) fun x23=>Vif x23 (KE [a0, a1] [a0, a1]<|J22 (.bool true) w) (Nc a0<|Fo 2 a0 fun x24=>Ld x24 w fun x25=>KE [a0, a1] [a0, a1]<|J22 x25 w))
theorem Tie.press_Press_Feed {a0 a1 : Value} (h : Vcf.press_Press_Feed Tryz.prog a0 a1 w R) : Cl Tryz.prog F.press_Press_Feed #[a0, a1] w R :=
  cl_of_vc (n := 38) (rs := [(.tmp 4)]) (h := (.s .z (.s (.j [13] [0, 1] .z (.i (.s .z .z) .z)) (.s (.r (.staged [0, 1, 0, 4, 12, 28, 0, 64, 192, 448, 960, 2044, 4095, 8191])) (.s (.r (.staged [0, 1, 3, 7, 0, 0, 48, 127, 255, 511, 1023])) (.s .z .z)))))) (args := [a0, a1]) (by kernel_rfl) Tryz.func67 rfl (by kernel_rfl) rfl rfl rfl (Eq.mp (by kernel_rfl) h)

def Vcf.press_Press_Held (P : Program) (a0 : Value) (w : World) (R : Value → World → Prop) : Prop :=
 Bn P 80 false a0 (.pointer none) fun x1=>Vif x1 (R (.int .i64 0) w) (Dr w fun w1=>Nc a0<|Fo 1 a0 fun x2=>Ld x2 w1 fun x3=>Lns x3 fun x5=>Nc a0<|Fo 3 a0 fun x7=>Ld x7 w1 fun x8=>Cl P F.split_Splitter_Held #[x8] w1 fun x10 w2=>Rk (fun w K=>Lns x3 fun x6=>K x6) x5 w2<|Rk (fun w K=>Ld x2 w fun x4=>K x4) x3 w2<|Bp .add x5 x10 fun x11=>Nc a0<|Fo 6 a0 fun x12=>Ld x12 w2 fun x13=>Rk (fun w K=>Ld x12 w fun x14=>K x14) x13 w1<|Cl P F.bwt_Turner_Held #[x13] w2 fun x16 w3=>Rk (fun w K=>Lns x3 fun x6=>K x6) x5 w3<|Rk (fun w K=>Ld x2 w fun x4=>K x4) x3 w3<|Bp .add x11 x16 fun x17=>Nc a0<|Fo 9 a0 fun x18=>Ld x18 w3 fun x19=>Rk (fun w K=>Ld x18 w fun x20=>K x20) x19 w2<|Rk (fun w K=>Ld x18 w fun x21=>K x21) x19 w1<|Lns x19 fun x23=>Rk (fun w K=>Lns x19 fun x24=>K x24) x23 w2<|Rk (fun w K=>Lns x19 fun x25=>K x25) x23 w1<|Bp .add x17 x23 fun x27=>Nc a0<|Fo 5 a0 fun x28=>Ld x28 w3 fun x29=>Lnl x29 fun x30=>VLoop 2 [x27, (.int .i64 0)] w3 fun _ next33 n_31 x32 w4=>Bp .lss x32 x30 fun x34=>Vif x34 (Ias 3 x29 x32 fun x35=>LdA 3 x35 w4 fun x36=>New (zeroP P 148) 148 w4 fun b_37 w5=>StA 3 b_37 x36 w5 fun w6=>Fo 0 b_37 fun x38=>Ld x38 w6 fun x39=>Lns x39 fun x40=>Bp .add n_31 x40 fun x41=>Bp .add x32 (.int .i64 1) fun x42=>KE [x29, x30] [x29, x30]<|next33 x41 x42 w6) (R n_31 w4))
theorem Tie.press_Press_Held {a0 : Value} (h : Vcf.press_Press_Held Tryz.prog a0 w R) : Cl Tryz.prog F.press_Press_Held #[a0] w R :=
  cl_of_vc (n := 47) (rs := [(.tmp 2)]) (h := (.s .z (.s (.s .z (.i (.s .z .z) .z)) (.s (.r (.staged [0, 1, 3, 7, 15, 0, 32, 96, 224, 480, 1023, 0, 2048, 6144, 14336, 31712, 65535, 0, 131072, 393216, 917504, 1966080, 4194303, 8388607])) (.s (.s .z (.b (.l [3, 36] [34, 35] (.s .z (.s (.i .z .z) (.s (.b (.s .z .z)) .z)))))) (.s .z .z)))))) (args := [a0]) (by kernel_rfl) Tryz.func68 rfl (by kernel_rfl) rfl rfl rfl (Eq.mp (by kernel_rfl) h)

def Vcf.press_Press_Step (P : Program) (a0 a1 : Value) (w : World) (R : Value → World → Prop) : Prop :=
 VLoop 1 [(.int .i64 0)] w fun _ next2 gone_1 w1=>VJoin 1 (fun _ x3 w2=>Vif x3 (Bp .sub a1 gone_1 fun x4=>Cl P F.press_Press_work #[a0, x4] w2 fun x5 w3=>Bp .add gone_1 x5 fun x6=>KE [a0, a1] [a0, a1]<|next2 x6 w3) (Bn P 80 true a0 (.pointer none) fun x7=>Vif x7 (Nc a0<|Fo 11 a0 fun x8=>Ld x8 w2 fun x9=>Bp .add x9 gone_1 fun x10=>Nc a0<|Fo 11 a0 fun x11=>St x11 x10 w2 fun w4=>R gone_1 w4) (R gone_1 w2))) (fun J12=>Bp .lss gone_1 a1 fun x13=>Vif x13 (Cl P F.press_Press_Stopped #[a0] w1 fun x14 w5=>Up .not x14 fun x15=>KE [a0, a1, gone_1] [a0, a1, gone_1]<|J12 x15 w5) (KE [a0, a1, gone_1] [a0, a1, gone_1]<|J12 (.bool false) w1))
theorem Tie.press_Press_Step {a0 a1 : Value} (h : Vcf.press_Press_Step Tryz.prog a0 a1 w R) : Cl Tryz.prog F.press_Press_Step #[a0, a1] w R :=
  cl_of_vc (n := 32) (rs := [(.tmp 4)]) (h := (.s .z (.s .z (.s (.b (.l [5] [0, 1] (.s (.j [13] [0, 1, 5] .z (.i .z .z)) (.b .z)))) (.s (.s .z (.i .z .z)) (.s .z .z)))))) (args := [a0, a1]) (by kernel_rfl) Tryz.func69 rfl (by kernel_rfl) rfl rfl rfl (Eq.mp (by kernel_rfl) h)

def Vcf.press_Press_Stopped (P : Program) (a0 : Value) (w : World) (R : Value → World → Prop) : Prop :=
 VJoin 1 (fun _ x1 w1=>Vif x1 (R (.bool true) w1) (Cl P F.press_Press_writes #[a0] w1 fun x2 w2=>Vif x2 (Nc a0<|Fo 9 a0 fun x3=>Ld x3 w2 fun x4=>Bp .neq x4 (.string ⟨#[]⟩) fun x5=>R x5 w2) (Cl P F.press_Press_whole #[a0] w2 fun x6 w3=>Up .not x6 fun x7=>Vif x7 (Nc a0<|Fo 1 a0 fun x8=>Ld x8 w3 fun x9=>Bp .eql x9 (.string ⟨#[]⟩) fun x10=>R x10 w3) (R (.bool false) w3)))) (fun J11=>Bn P 80 false a0 (.pointer none) fun x12=>Vif x12 (KE [a0] [a0]<|J11 (.bool true) w) (Nc a0<|Fo 10 a0 fun x13=>Ld x13 w fun x14=>KE [a0] [a0]<|J11 x14 w))
theorem Tie.press_Press_Stopped {a0 : Value} (h : Vcf.press_Press_Stopped Tryz.prog a0 w R) : Cl Tryz.prog F.press_Press_Stopped #[a0] w R :=
  cl_of_vc (n := 30) (rs := [(.tmp 2)]) (h := (.s .z (.s (.b (.j [3] [0] .z (.i (.s .z .z) (.s .z (.i (.s .z .z) .z))))) (.s .z .z)))) (args := [a0]) (by kernel_rfl) Tryz.func71 rfl (by kernel_rfl) rfl rfl rfl (Eq.mp (by kernel_rfl) h)

def Vcf.press_Press_flush (P : Program) (a0 : Value) (w : World) (R : Value → World → Prop) : Prop :=
 VJoin 1 (fun _ x1 w1=>Vif x1 (Dr w1 fun w2=>Nc a0<|Fo 5 a0 fun x2=>Ld x2 w2 fun x3=>Nc a0<|Fo 3 a0 fun x5=>Ld x5 w2 fun x6=>Cl P F.split_Splitter_End #[x6] w2 fun x8 w3=>Rk (fun w K=>Ld x2 w fun x4=>K x4) x3 w3<|Ap P #[77, 77] 77 #[x3, x8] w3 fun x9 w4=>Nc a0<|Fo 5 a0 fun x10=>St x10 x9 w4 fun w5=>Nc a0<|Fo 4 a0 fun x11=>St x11 (.bool true) w5 fun w6=>R (.tuple #[]) w6) (R (.tuple #[]) w1)) (fun J12=>Nc a0<|Fo 2 a0 fun x13=>Ld x13 w fun x14=>Vif x14 (Nc a0<|Fo 1 a0 fun x15=>Ld x15 w fun x16=>Bp .eql x16 (.string ⟨#[]⟩) fun x17=>Vif x17 (Nc a0<|Fo 4 a0 fun x18=>Ld x18 w fun x19=>Up .not x19 fun x20=>KE [a0] [a0]<|J12 x20 w) (KE [a0] [a0]<|J12 (.bool false) w)) (KE [a0] [a0]<|J12 (.bool false) w))
theorem Tie.press_Press_flush {a0 : Value} (h : Vcf.press_Press_flush Tryz.prog a0 w R) : Cl Tryz.prog F.press_Press_flush #[a0] w R :=
  cl_of_vc (n := 36) (rs := []) (h := (.j [19] [0] .z (.i (.s (.r (.staged [0, 0, 2, 6, 14, 0, 32, 96, 224, 480, 1022, 2047, 4095, 8191])) .z) .z))) (args := [a0]) (by kernel_rfl) Tryz.func74 rfl (by kernel_rfl) rfl rfl rfl (Eq.mp (by kernel_rfl) h)

def Vcf.split_Splitter_Held (P : Program) (a0 : Value) (w : World) (R : Value → World → Prop) : Prop :=
 Bn P 104 false a0 (.pointer none) fun x1=>Vif x1 (R (.int .i64 0) w) (Dr w fun w1=>Nc a0<|Fo 0 a0 fun x2=>Fo 0 x2 fun x3=>Ld x3 w1 fun x4=>Lnl x4 fun x6=>Nc a0<|Fo 4 a0 fun x8=>Ld x8 w1 fun x9=>Cl P F.feed_Packer_Row #[x9] w1 fun x11 w2=>Rk (fun w K=>Lnl x4 fun x7=>K x7) x6 w2<|Rk (fun w K=>Ld x3 w fun x5=>K x5) x4 w2<|Vc.Fd 1 x11 fun x12=>Bmin P #[3, 3] 3 #[x12, (.int .i64 1)] w2 fun x13=>Bp .add x6 x13 fun x15=>R x15 w2)
theorem Tie.split_Splitter_Held {a0 : Value} (h : Vcf.split_Splitter_Held Tryz.prog a0 w R) : Cl Tryz.prog F.split_Splitter_Held #[a0] w R :=
  cl_of_vc (n := 19) (rs := [(.tmp 2)]) (h := (.s .z (.s (.s .z (.i (.s .z .z) .z)) (.s (.r (.staged [0, 1, 3, 7, 15, 31, 0, 64, 192, 448, 960, 1984, 4032, 8191, 16383])) .z)))) (args := [a0]) (by kernel_rfl) Tryz.func75 rfl (by kernel_rfl) rfl rfl rfl (Eq.mp (by kernel_rfl) h)

def Vcf.bwt_Turner_Held (P : Program) (a0 : Value) (w : World) (R : Value → World → Prop) : Prop :=
 Bn P 154 false a0 (.pointer none) fun x1=>Vif x1 (R (.int .i64 0) w) (Dr w fun w1=>Nc a0<|Fo 1 a0 fun x2=>Ld x2 w1 fun x3=>Cl P F.sorter_Sorter_Held #[x3] w1 fun x5 w2=>Nc a0<|Fo 3 a0 fun x6=>Ld x6 w2 fun x7=>Rk (fun w K=>Ld x6 w fun x8=>K x8) x7 w1<|Lnl x7 fun x10=>Rk (fun w K=>Lnl x7 fun x11=>K x11) x10 w1<|Bp .add x5 x10 fun x13=>R x13 w2)
theorem Tie.bwt_Turner_Held {a0 : Value} (h : Vcf.bwt_Turner_Held Tryz.prog a0 w R) : Cl Tryz.prog F.bwt_Turner_Held #[a0] w R :=
  cl_of_vc (n := 16) (rs := [(.tmp 2)]) (h := (.s .z (.s (.s .z (.i (.s .z .z) .z)) (.s (.r (.staged [0, 1, 3, 7, 15, 0, 32, 96, 224, 480, 1023, 2047])) .z)))) (args := [a0]) (by kernel_rfl) Tryz.func76 rfl (by kernel_rfl) rfl rfl rfl (Eq.mp (by kernel_rfl) h)

def Vcf.press_Press_work (P : Program) (a0 a1 : Value) (w : World) (R : Value → World → Prop) : Prop :=
 Cl P F.press_Press_whole #[a0] w fun x1 w1=>Vif x1 (VJoin 0 (fun _ w2=>Nc a0<|Fo 6 a0 fun x2=>Ld x2 w2 fun x3=>Cl P F.bwt_Turner_Done #[x3] w2 fun x4 w3=>Up .not x4 fun x5=>Vif x5 (Nc a0<|Fo 6 a0 fun x6=>Ld x6 w3 fun x7=>Cl P F.bwt_Turner_Step #[x7, a1] w3 fun x8 w4=>R x8 w4) (Cl P F.press_Press_pay #[a0] w3 fun x9 w5=>R (.int .i64 1) w5)) (fun J10=>Nc a0<|Fo 6 a0 fun x11=>Ld x11 w1 fun x12=>Bn P 154 false x12 (.pointer none) fun x13=>Vif x13 (Nc a0<|Fo 5 a0 fun x14=>Ld x14 w1 fun x15=>Ias 3 x15 (.int .i64 0) fun x16=>Fo 0 x16 fun x17=>Ld x17 w1 fun x18=>Cl P F.bwt_New #[x18] w1 fun x19 w6=>Ex x19 0 fun x20=>Ex x19 1 fun x21=>Nc a0<|Fo 6 a0 fun x22=>St x22 x20 w6 fun w7=>KE [a0, a1] [a0, a1]<|J10 w7) (KE [a0, a1] [a0, a1]<|J10 w1))) (Nc a0<|Fo 1 a0 fun x23=>Ld x23 w1 fun x24=>Bp .neq x24 (.string ⟨#[]⟩) fun x25=>Vif x25 (Cl P F.press_Press_take #[a0] w1 fun x26 w8=>R (.int .i64 1) w8) (Nc a0<|Fo 8 a0 fun x27=>Ld x27 w1 fun x28=>Cl P F.stream_Writer_End #[x28] w1 fun x29 w9=>Dr w9 fun w10=>Nc a0<|Fo 9 a0 fun x30=>Ld x30 w10 fun x31=>Nc a0<|Fo 8 a0 fun x33=>Ld x33 w10 fun x34=>Cl P F.stream_Writer_Take #[x34] w10 fun x36 w11=>Rk (fun w K=>Ld x30 w fun x32=>K x32) x31 w11<|Bp .add x31 x36 fun x37=>Nc a0<|Fo 9 a0 fun x38=>St x38 x37 w11 fun w12=>Nc a0<|Fo 10 a0 fun x39=>St x39 (.bool true) w12 fun w13=>R (.int .i64 1) w13))
theorem Tie.press_Press_work {a0 a1 : Value} (h : Vcf.press_Press_work Tryz.prog a0 a1 w R) : Cl Tryz.prog F.press_Press_work #[a0, a1] w R :=
  cl_of_vc (n := 72) (rs := [(.tmp 4)]) (h := (.s .z (.s (.b (.s .z (.i (.j [] [0, 1] (.s .z (.i (.s .z .z) .z)) (.s (.s .z (.i (.s .z .z) .z)) .z)) (.s .z (.i .z (.s .z (.s (.r (.staged [0, 1, 3, 7, 0, 16, 48, 112, 240, 511, 1023, 2047, 4095])) .z))))))) (.s .z .z)))) (args := [a0, a1]) (by kernel_rfl) Tryz.func77 rfl (by kernel_rfl) rfl rfl rfl (Eq.mp (by kernel_rfl) h)

def Vcf.press_Press_writes (P : Program) (a0 : Value) (w : World) (R : Value → World → Prop) : Prop :=
 Cl P F.press_Press_whole #[a0] w fun x1 w1=>Vif x1 (Dr w1 fun w2=>Nc a0<|Fo 6 a0 fun x2=>Ld x2 w2 fun x3=>Bn P 154 true x3 (.pointer none) fun x5=>Vif x5 (Nc a0<|Fo 6 a0 fun x6=>Ld x6 w2 fun x7=>Cl P F.bwt_Turner_Done #[x7] w2 fun x9 w3=>Vif x9 (Nc a0<|Fo 7 a0 fun x10=>Ld x10 w3 fun x11=>Nc a0<|Fo 5 a0 fun x13=>Ld x13 w3 fun x14=>Ias 3 x14 (.int .i64 0) fun x16=>Fo 0 x16 fun x17=>Ld x17 w3 fun x18=>Lns x18 fun x20=>Bp .sub x20 (.int .i64 1) fun x22=>Bp .eql x11 x22 fun x23=>R x23 w3) (R (.bool false) w3)) (R (.bool false) w2)) (Nc a0<|Fo 4 a0 fun x24=>Ld x24 w1 fun x25=>R x25 w1)
theorem Tie.press_Press_writes {a0 : Value} (h : Vcf.press_Press_writes Tryz.prog a0 w R) : Cl Tryz.prog F.press_Press_writes #[a0] w R :=
  cl_of_vc (n := 37) (rs := [(.tmp 2)]) (h := (.s .z (.s (.s .z (.i (.s (.r (.staged [0, 1, 3, 7, 15, 31, 63, 127, 255, 511, 1023, 2047, 4095, 8191, 16383, 32767, 65535, 8191, 139263, 401407, 925695, 1974271, 4071423, 8265727, 16654335, 33431551, 67108863, 134217727, 268435455])) .z) .z)) (.s .z .z)))) (args := [a0]) (by kernel_rfl) Tryz.func78 rfl (by kernel_rfl) rfl rfl rfl (Eq.mp (by kernel_rfl) h)

def Vcf.press_Press_whole (P : Program) (a0 : Value) (w : World) (R : Value → World → Prop) : Prop :=
 Nc a0<|Fo 5 a0 fun x1=>Ld x1 w fun x2=>Lnl x2 fun x3=>Bp .gtr x3 (.int .i64 0) fun x4=>R x4 w
theorem Tie.press_Press_whole {a0 : Value} (h : Vcf.press_Press_whole Tryz.prog a0 w R) : Cl Tryz.prog F.press_Press_whole #[a0] w R :=
  cl_of_vc (n := 9) (rs := [(.tmp 2)]) (h := (.s .z (.s .z .z))) (args := [a0]) (by kernel_rfl) Tryz.func79 rfl (by kernel_rfl) rfl rfl rfl (Eq.mp (by kernel_rfl) h)

def Vcf.split_Splitter_End (P : Program) (a0 : Value) (w : World) (R : Value → World → Prop) : Prop :=
 Bn P 104 false a0 (.pointer none) fun x1=>Vif x1 (R (.slice none 0 0) w) (Nc a0<|Fo 4 a0 fun x2=>Ld x2 w fun x3=>Cl P F.feed_Packer_Row #[x3] w fun x4 w1=>New (zeroP P 124) 124 w1 fun row_5 w2=>StA 2 row_5 x4 w2 fun w3=>VJoin 1 (fun _ out_6 w4=>Nc a0<|Fo 0 a0 fun x7=>Cl P F.split_begun_close #[x7] w4 fun x8 w5=>Ex x8 0 fun x9=>Ex x8 1 fun x10=>New (zeroP P 148) 148 w5 fun b_11 w6=>StA 3 b_11 x9 w6 fun w7=>Vif x10 (LdA 3 b_11 w7 fun x12=>Bs P 77 1 #[(0, x12)] w7 fun x13 w8=>Ap P #[77, 77] 77 #[out_6, x13] w8 fun x14 w9=>R x14 w9) (R out_6 w7)) (fun J15=>Nc a0<|Fo 4 a0 fun x16=>Ld x16 w3 fun x17=>Cl P F.feed_Packer_End #[x17] w3 fun x18 w10=>Bp .neq x18 (.string ⟨#[]⟩) fun x19=>Vif x19 (LdA 2 row_5 w10 fun x20=>Lns x18 fun x21=>Cl P F.split_Splitter_piece #[a0, x20, x21] w10 fun x22 w11=>Ex x22 0 fun x23=>Ex x22 1 fun x24=>New (zeroP P 148) 148 w11 fun b_25 w12=>StA 3 b_25 x23 w12 fun w13=>Vif x24 (LdA 3 b_25 w13 fun x26=>Bs P 77 1 #[(0, x26)] w13 fun x27 w14=>Ap P #[77, 77] 77 #[(.slice none 0 0), x27] w14 fun x28 w15=>KE [a0] [a0]<|J15 x28 w15) (KE [a0] [a0]<|J15 (.slice none 0 0) w13)) (KE [a0] [a0]<|J15 (.slice none 0 0) w10)))
theorem Tie.split_Splitter_End {a0 : Value} (h : Vcf.split_Splitter_End Tryz.prog a0 w R) : Cl Tryz.prog F.split_Splitter_End #[a0] w R :=
  cl_of_vc (n := 50) (rs := [(.tmp 2)]) (h := (.s .z (.s (.s .z (.i (.s .z .z) .z)) (.s .z (.s .z (.j [3] [0] (.s .z (.s .z (.i (.s .z (.s .z (.i .z .z))) .z))) (.s (.s .z (.s .z (.i .z .z))) (.s .z .z)))))))) (args := [a0]) (by kernel_rfl) Tryz.func80 rfl (by kernel_rfl) rfl rfl rfl (Eq.mp (by kernel_rfl) h)

def Vcf.feed_Packer_Row (P : Program) (a0 : Value) (w : World) (R : Value → World → Prop) : Prop :=
 New (zeroP P 124) 124 w fun x1 w1=>Bn P 126 false a0 (.pointer none) fun x2=>Vif x2 (Bd P 124 #[] w1 fun x3=>StA 2 x1 x3 w1 fun w2=>LdA 2 x1 w2 fun x4=>R x4 w2) (Nc a0<|Fo 0 a0 fun x5=>LdA 2 x5 w1 fun x6=>StA 2 x1 x6 w1 fun w3=>LdA 2 x1 w3 fun x7=>R x7 w3)
theorem Tie.feed_Packer_Row {a0 : Value} (h : Vcf.feed_Packer_Row Tryz.prog a0 w R) : Cl Tryz.prog F.feed_Packer_Row #[a0] w R :=
  cl_of_vc (n := 10) (rs := [(.cell 2 124)]) (h := (.s .z (.s (.s .z (.i (.s .z .z) .z)) (.s .z .z)))) (args := [a0]) (by kernel_rfl) Tryz.func81 rfl (by kernel_rfl) rfl rfl rfl (Eq.mp (by kernel_rfl) h)

def Vcf.bwt_New (P : Program) (a0 : Value) (w : World) (R : Value → World → Prop) : Prop :=
 Bp .eql a0 (.string ⟨#[]⟩) fun x1=>Vif x1 (R (.tuple #[(.pointer none), (.int .i64 1)]) w) (Cl P F.sorter_New #[a0] w fun x2 w1=>Ex x2 0 fun x3=>Ex x2 1 fun x4=>Bp .neq x4 (.int .i64 0) fun x5=>Vif x5 (R (.tuple #[(.pointer none), x4]) w1) (Bd P 154 #[(0, a0), (1, x3)] w1 fun x6=>New x6 154 w1 fun x7 w2=>R (.tuple #[x7, (.int .i64 0)]) w2))
theorem Tie.bwt_New {a0 : Value} (h : Vcf.bwt_New Tryz.prog a0 w R) : Cl Tryz.prog F.bwt_New #[a0] w R :=
  cl_of_vc (n := 20) (rs := [(.tmp 2), (.tmp 3)]) (h := (.s .z (.s (.s .z (.i (.s .z .z) .z)) (.s .z (.s (.s .z (.i (.s .z .z) .z)) (.s .z .z)))))) (args := [a0]) (by kernel_rfl) Tryz.func83 rfl (by kernel_rfl) rfl rfl rfl (Eq.mp (by kernel_rfl) h)

def Vcf.bwt_Turner_Done (P : Program) (a0 : Value) (w : World) (R : Value → World → Prop) : Prop :=
 Dr w fun w1=>Bn P 154 true a0 (.pointer none) fun x1=>Vif x1 (Nc a0<|Fo 3 a0 fun x2=>Ld x2 w1 fun x3=>Lnl x3 fun x5=>Nc a0<|Fo 0 a0 fun x7=>Ld x7 w1 fun x8=>Lns x8 fun x10=>Bp .eql x5 x10 fun x12=>R x12 w1) (R (.bool false) w1)
theorem Tie.bwt_Turner_Done {a0 : Value} (h : Vcf.bwt_Turner_Done Tryz.prog a0 w R) : Cl Tryz.prog F.bwt_Turner_Done #[a0] w R :=
  cl_of_vc (n := 18) (rs := [(.tmp 2)]) (h := (.s .z (.s (.r (.staged [0, 1, 3, 7, 15, 31, 63, 127, 7, 263, 775, 1799, 3847, 8191, 16383, 32767])) .z))) (args := [a0]) (by kernel_rfl) Tryz.func84 rfl (by kernel_rfl) rfl rfl rfl (Eq.mp (by kernel_rfl) h)

def Vcf.bwt_Turner_Step (P : Program) (a0 a1 : Value) (w : World) (R : Value → World → Prop) : Prop :=
 VJoin 1 (fun _ x1 w1=>Vif x1 (R (.int .i64 0) w1) (Nc a0<|Fo 1 a0 fun x2=>Ld x2 w1 fun x3=>Cl P F.sorter_Sorter_Step #[x3, a1] w1 fun x4 w2=>VJoin 0 (fun _ w3=>VLoop 1 [x4] w3 fun _ next6 gone_5 w4=>VJoin 1 (fun _ x7 w5=>Vif x7 (Cl P F.bwt_Turner_take #[a0] w5 fun x8 w6=>Bp .add gone_5 (.int .i64 1) fun x9=>KE [a0, a1] [a0, a1]<|next6 x9 w6) (R gone_5 w5)) (fun J10=>Nc a0<|Fo 1 a0 fun x11=>Ld x11 w4 fun x12=>Cl P F.sorter_Sorter_Done #[x12] w4 fun x13 w7=>Vif x13 (Bp .lss gone_5 a1 fun x14=>Vif x14 (Cl P F.bwt_Turner_Done #[a0] w7 fun x15 w8=>Up .not x15 fun x16=>KE [a0, a1, gone_5] [a0, a1, gone_5]<|J10 x16 w8) (KE [a0, a1, gone_5] [a0, a1, gone_5]<|J10 (.bool false) w7)) (KE [a0, a1, gone_5] [a0, a1, gone_5]<|J10 (.bool false) w7))) (fun J17=>VJoin 1 (fun _ x18 w9=>Vif x18 (Nc a0<|Fo 1 a0 fun x19=>Ld x19 w9 fun x20=>Cl P F.sorter_Sorter_Order #[x20] w9 fun x21 w10=>Nc a0<|Fo 2 a0 fun x22=>St x22 x21 w10 fun w11=>KE [a0, a1, x4] [a0, a1, x4]<|J17 w11) (KE [a0, a1, x4] [a0, a1, x4]<|J17 w9)) (fun J23=>Nc a0<|Fo 2 a0 fun x24=>Ld x24 w2 fun x25=>Be P .eql 152 (.tmp 21) (.const (.slice none 0 0)) x25 (.slice none 0 0) w2 fun x26=>Vif x26 (Nc a0<|Fo 1 a0 fun x27=>Ld x27 w2 fun x28=>Cl P F.sorter_Sorter_Done #[x28] w2 fun x29 w12=>KE [a0, a1, x4] [a0, a1, x4]<|J23 x29 w12) (KE [a0, a1, x4] [a0, a1, x4]<|J23 (.bool false) w2))))) (fun J30=>Bn P 154 false a0 (.pointer none) fun x31=>Vif x31 (KE [a0, a1] [a0, a1]<|J30 (.bool true) w) (Bp .lss a1 (.int .i64 1) fun x32=>KE [a0, a1] [a0, a1]<|J30 x32 w))
theorem Tie.bwt_Turner_Step {a0 a1 : Value} (h : Vcf.bwt_Turner_Step Tryz.prog a0 a1 w R) : Cl Tryz.prog F.bwt_Turner_Step #[a0, a1] w R :=
  cl_of_vc (n := 58) (rs := [(.tmp 4)]) (h := (.s .z (.s (.j [11] [0, 1] .z (.i (.s .z .z) .z)) (.s .z (.j [] [0, 1, 5] (.j [29] [0, 1, 5] .z (.i .z .z)) (.s (.b (.l [5] [0, 1] (.s (.j [52] [0, 1, 5] .z (.i .z .z)) (.b (.s .z .z))))) (.s .z .z))))))) (args := [a0, a1]) (by kernel_rfl) Tryz.func85 rfl (by kernel_rfl) rfl rfl rfl (Eq.mp (by kernel_rfl) h)

def Vcf.press_Press_pay (P : Program) (a0 : Value) (w : World) (R : Value → World → Prop) : Prop :=
 Nc a0<|Fo 7 a0 fun x1=>Ld x1 w fun x2=>Bp .add x2 (.int .i64 1) fun x3=>Nc a0<|Fo 7 a0 fun x4=>St x4 x3 w fun w1=>Dr w1 fun w2=>Nc a0<|Fo 7 a0 fun x5=>Ld x5 w2 fun x6=>Nc a0<|Fo 5 a0 fun x8=>Ld x8 w2 fun x9=>Ias 3 x9 (.int .i64 0) fun x11=>Fo 0 x11 fun x12=>Ld x12 w2 fun x13=>Lns x13 fun x15=>Bp .lss x6 x15 fun x17=>Vif x17 (R (.tuple #[]) w2) (Nc a0<|Fo 6 a0 fun x18=>Ld x18 w2 fun x19=>Cl P F.bwt_Turner_Result #[x19] w2 fun x20 w3=>Ex x20 0 fun x21=>Ex x20 1 fun x22=>Dr w3 fun w4=>Nc a0<|Fo 8 a0 fun x23=>Ld x23 w4 fun x24=>Nc a0<|Fo 5 a0 fun x26=>Ld x26 w4 fun x27=>Ias 3 x27 (.int .i64 0) fun x29=>Fo 1 x29 fun x30=>Ld x30 w4 fun x31=>Cl P F.stream_Writer_Turned #[x24, x21, x22, x31] w4 fun x33 w5=>Dr w5 fun w6=>Nc a0<|Fo 9 a0 fun x34=>Ld x34 w6 fun x35=>Nc a0<|Fo 8 a0 fun x37=>Ld x37 w6 fun x38=>Cl P F.stream_Writer_Take #[x38] w6 fun x40 w7=>Rk (fun w K=>Ld x34 w fun x36=>K x36) x35 w7<|Bp .add x35 x40 fun x41=>Nc a0<|Fo 9 a0 fun x42=>St x42 x41 w7 fun w8=>Nc a0<|Fo 5 a0 fun x43=>Ld x43 w8 fun x44=>Ssl 3 x44 (some (.int .i64 1)) none fun x45=>Nc a0<|Fo 5 a0 fun x46=>St x46 x45 w8 fun w9=>Nc a0<|Fo 6 a0 fun x47=>St x47 (.pointer none) w9 fun w10=>Nc a0<|Fo 7 a0 fun x48=>St x48 (.int .i64 0) w10 fun w11=>R (.tuple #[]) w11)
theorem Tie.press_Press_pay {a0 : Value} (h : Vcf.press_Press_pay Tryz.prog a0 w R) : Cl Tryz.prog F.press_Press_pay #[a0] w R :=
  cl_of_vc (n := 72) (rs := []) (h := (.s .z (.s (.s (.r (.staged [0, 1, 3, 7, 0, 16, 48, 112, 240, 496, 1008, 2032, 4095])) (.i .z .z)) (.s .z (.s (.r (.staged [0, 1, 3, 7, 0, 0, 0, 64, 192, 448, 960, 1984, 4032, 8191])) (.s (.r (.staged [0, 1, 3, 7, 0, 16, 48, 112, 240, 511, 1023, 2047, 4095])) (.s .z (.s .z .z)))))))) (args := [a0]) (by kernel_rfl) Tryz.func86 rfl (by kernel_rfl) rfl rfl rfl (Eq.mp (by kernel_rfl) h)

def Vcf.press_Press_take (P : Program) (a0 : Value) (w : World) (R : Value → World → Prop) : Prop :=
 VJoin 2 (fun _ b_1 whole_2 w1=>Nc a0<|Fo 1 a0 fun x3=>Ld x3 w1 fun x4=>Sst x4 (some (.int .i64 1)) none fun x5=>Nc a0<|Fo 1 a0 fun x6=>St x6 x5 w1 fun w2=>Vif whole_2 (Dr w2 fun w3=>Nc a0<|Fo 5 a0 fun x7=>Ld x7 w3 fun x8=>LdA 3 b_1 w3 fun x10=>Bs P 77 1 #[(0, x10)] w3 fun x12 w4=>Rk (fun w K=>Ld x7 w fun x9=>K x9) x8 w4<|Ap P #[77, 77] 77 #[x8, x12] w4 fun x13 w5=>Nc a0<|Fo 5 a0 fun x14=>St x14 x13 w5 fun w6=>Cl P F.press_Press_flush #[a0] w6 fun x15 w7=>R (.tuple #[]) w7) (Cl P F.press_Press_flush #[a0] w2 fun x16 w8=>R (.tuple #[]) w8)) (fun J17=>Dr w fun w9=>(Nc a0<|Fo 3 a0 fun x18=>Ld x18 w9 fun x19=>Nc a0<|Fo 1 a0 fun x21=>Ld x21 w9 fun x22=>Ixs x22 (.int .i64 0) fun x24=>Cl P F.split_Splitter_Put #[x19, x24] w9 fun x25 w10=>Ex x25 0 fun x26=>Ex x25 1 fun x27=>New (zeroP P 148) 148 w10 fun b_28 w11=>Rk (fun w K=>Ld x21 w fun x23=>K x23) x22 w11<|Rk (fun w K=>Ld x18 w fun x20=>K x20) x19 w11<|StA 3 b_28 x26 w11 fun w12=>KE [a0] [a0]<|J17 b_28 x27 w12) ∧ (Nc a0<|Fo 3 a0 fun x29=>Ld x29 w9 fun x30=>Nc a0<|Fo 1 a0 fun x32=>Ld x32 w9 fun x33=>Ixs x33 (.int .i64 0) fun x35=>New (zeroP P 148) 148 w9 fun b_36 w13=>Rk (fun w K=>Ld x32 w fun x34=>K x34) x33 w13<|Rk (fun w K=>Ld x29 w fun x31=>K x31) x30 w13<|Cl P F.split_Splitter_Put #[x30, x35] w13 fun x37 w14=>Ex x37 0 fun x38=>Ex x37 1 fun x39=>StA 3 b_36 x38 w14 fun w15=>KE [a0] [a0]<|J17 b_36 x39 w15))
theorem Tie.press_Press_take {a0 : Value} (h : Vcf.press_Press_take Tryz.prog a0 w R) : Cl Tryz.prog F.press_Press_take #[a0] w R :=
  cl_of_vc (n := 38) (rs := []) (h := (.j [2, 3] [0] (.r (.two [0, 1, 3, 7, 0, 16, 48, 112, 240, 511, 1023, 2047, 2047, 0, 12287, 32767] 9 13 [0, 1, 2, 3, 4, 5, 6, 7, 8, 9, 10, 11, 12, 13, 14, 15] [0, 1, 2, 3, 4, 5, 6, 7, 8, 13, 9, 10, 11, 12, 14, 15])) (.s .z (.s (.s .z (.i (.r (.staged [0, 0, 2, 6, 14, 0, 32, 126, 255, 511, 1023])) .z)) .z)))) (args := [a0]) (by kernel_rfl) Tryz.func87 rfl (by kernel_rfl) rfl rfl rfl (Eq.mp (by kernel_rfl) h)

def Vcf.feed_Packer_End (P : Program) (a0 : Value) (w : World) (R : Value → World → Prop) : Prop :=
 Bn P 126 false a0 (.pointer none) fun x1=>Vif x1 (R (.string ⟨#[]⟩) w) (Cl P F.feed_Packer_close #[a0] w fun x2 w1=>R x2 w1)
theorem Tie.feed_Packer_End {a0 : Value} (h : Vcf.feed_Packer_End Tryz.prog a0 w R) : Cl Tryz.prog F.feed_Packer_End #[a0] w R :=
  cl_of_vc (n := 7) (rs := [(.tmp 2)]) (h := (.s .z (.s (.s .z (.i (.s .z .z) .z)) (.s .z .z)))) (args := [a0]) (by kernel_rfl) Tryz.func89 rfl (by kernel_rfl) rfl rfl rfl (Eq.mp (by kernel_rfl) h)

def Vcf.split_Splitter_piece (P : Program) (a0 a1 a2 : Value) (w : World) (R : Value → World → Prop) : Prop :=
 New a1 124 w fun x1 w1=>New (zeroP P 148) 148 w1 fun x2 w2=>New (zeroP P 148) 148 w2 fun out_3 w3=>VJoin 1 (fun _ whole_4 w4=>Dr w4 fun w5=>Nc a0<|Fo 0 a0 fun x5=>LdA 2 x1 w5 fun x6=>Cl P F.split_begun_take #[x5, x6] w5 fun x8 w6=>LdA 3 out_3 w6 fun x9=>StA 3 x2 x9 w6 fun w7=>LdA 3 x2 w7 fun x10=>R (.tuple #[x10, whole_4]) w7) (fun J11=>Dr w3 fun w8=>Nc a0<|Fo 0 a0 fun x12=>Fo 0 x12 fun x13=>Ld x13 w8 fun x14=>Lnl x14 fun x16=>Bp .add x16 a2 fun x18=>Nc a0<|Fo 3 a0 fun x19=>Ld x19 w8 fun x20=>Bp .gtr x18 x20 fun x22=>Vif x22 (Nc a0<|Fo 0 a0 fun x23=>Cl P F.split_begun_close #[x23] w8 fun x24 w9=>Ex x24 0 fun x25=>Ex x24 1 fun x26=>StA 3 out_3 x25 w9 fun w10=>KE [a0, x1, x2, out_3] [a0, x1, x2, out_3]<|J11 x26 w10) (KE [a0, x1, x2, out_3] [a0, x1, x2, out_3]<|J11 (.bool false) w8))
theorem Tie.split_Splitter_piece {a0 a1 a2 : Value} (h : Vcf.split_Splitter_piece Tryz.prog a0 a1 a2 w R) : Cl Tryz.prog F.split_Splitter_piece #[a0, a1, a2] w R :=
  cl_of_vc (n := 37) (rs := [(.cell 6 148), (.tmp 7)]) (h := (.s .z (.s .z (.s .z (.j [9] [0, 4, 6, 8] (.s (.r (.staged [0, 1, 3, 7, 15, 31, 0, 127, 0, 256, 768, 1792, 4095])) (.i .z .z)) (.s (.r (.staged [0, 1, 3, 0, 15])) (.s .z .z))))))) (args := [a0, a1, a2]) (by kernel_rfl) Tryz.func90 rfl (by kernel_rfl) rfl rfl rfl (Eq.mp (by kernel_rfl) h)

def Vcf.split_begun_close (P : Program) (a0 : Value) (w : World) (R : Value → World → Prop) : Prop :=
 New (zeroP P 148) 148 w fun x1 w1=>Nc a0<|Fo 0 a0 fun x2=>Ld x2 w1 fun x3=>Lnl x3 fun x4=>Bp .eql x4 (.int .i64 0) fun x5=>Vif x5 (Bd P 148 #[] w1 fun x6=>StA 3 x1 x6 w1 fun w2=>LdA 3 x1 w2 fun x7=>R (.tuple #[x7, (.bool false)]) w2) (VJoin 1 (fun _ out_8 w3=>Nc a0<|Fo 0 a0 fun x9=>St x9 (.slice none 0 0) w3 fun w4=>Nc a0<|Fo 2 a0 fun x10=>St x10 (.int .i64 0) w4 fun w5=>Nc a0<|Fo 1 a0 fun x11=>Ld x11 w5 fun x12=>Cl P F.crc_Sum_Reset #[x12] w5 fun x13 w6=>LdA 3 out_8 w6 fun x14=>StA 3 x1 x14 w6 fun w7=>LdA 3 x1 w7 fun x15=>R (.tuple #[x15, (.bool true)]) w7) (fun J16=>Dr w1 fun w8=>Nc a0<|Fo 0 a0 fun x17=>Ld x17 w8 fun x18=>Cv P 44 9 x18 w8 fun x20=>Nc a0<|Fo 1 a0 fun x22=>Ld x22 w8 fun x23=>Nc a0<|Fo 2 a0 fun x25=>Ld x25 w8 fun x26=>(Cl P F.crc_Sum_Value #[x23] w8 fun x28 w9=>Rk (fun w K=>Ld x25 w fun x27=>K x27) x26 w9<|Rk (fun w K=>Cv P 44 9 x18 w fun x21=>K x21) x20 w9<|Rk (fun w K=>Ld x17 w fun x19=>K x19) x18 w9<|Bd P 148 #[(0, x20), (1, x28), (2, x26)] w9 fun x29=>New (zeroP P 148) 148 w9 fun out_31 w10=>Rk (fun w K=>Bd P 148 #[(0, x20), (1, x28), (2, x26)] w fun x30=>K x30) x29 w10<|Rk (fun w K=>Ld x25 w fun x27=>K x27) x26 w10<|Rk (fun w K=>Ld x22 w fun x24=>K x24) x23 w10<|Rk (fun w K=>Cv P 44 9 x18 w fun x21=>K x21) x20 w10<|Rk (fun w K=>Ld x17 w fun x19=>K x19) x18 w10<|StA 3 out_31 x29 w10 fun w11=>KE [a0, x1] [a0, x1]<|J16 out_31 w11) ∧ (New (zeroP P 148) 148 w8 fun out_32 w12=>Rk (fun w K=>Ld x25 w fun x27=>K x27) x26 w12<|Rk (fun w K=>Ld x22 w fun x24=>K x24) x23 w12<|Rk (fun w K=>Cv P 44 9 x18 w fun x21=>K x21) x20 w12<|Rk (fun w K=>Ld x17 w fun x19=>K x19) x18 w12<|Cl P F.crc_Sum_Value #[x23] w12 fun x33 w13=>Rk (fun w K=>Ld x25 w fun x27=>K x27) x26 w13<|Rk (fun w K=>Cv P 44 9 x18 w fun x21=>K x21) x20 w13<|Rk (fun w K=>Ld x17 w fun x19=>K x19) x18 w13<|Bd P 148 #[(0, x20), (1, x33), (2, x26)] w13 fun x34=>StA 3 out_32 x34 w13 fun w14=>KE [a0, x1] [a0, x1]<|J16 out_32 w14)))
theorem Tie.split_begun_close {a0 : Value} (h : Vcf.split_begun_close Tryz.prog a0 w R) : Cl Tryz.prog F.split_begun_close #[a0] w R :=
  cl_of_vc (n := 39) (rs := [(.cell 2 148), (.tmp 3)]) (h := (.s .z (.s (.s .z (.i (.s .z .z) .z)) (.j [4] [0, 2] (.r (.tree [0, 1, 3, 7, 15, 0, 32, 96, 224, 480, 0, 1024, 3072, 7168, 16383, 0, 65535] (.op 0 (.op 1 (.op 2 (.op 3 (.op 4 (.op 5 (.op 6 (.op 7 (.op 8 (.op 10 (.op 11 (.op 12 (.op 13 (.fk (.op 9 (.op 14 (.op 15 (.op 16 .dn)))) (.op 15 (.op 9 (.op 14 (.op 16 .dn)))))))))))))))))))) (.s .z (.s .z (.s .z (.s .z .z)))))))) (args := [a0]) (by kernel_rfl) Tryz.func91 rfl (by kernel_rfl) rfl rfl rfl (Eq.mp (by kernel_rfl) h)

def Vcf.sorter_New (P : Program) (a0 : Value) (w : World) (R : Value → World → Prop) : Prop :=
 Lns a0 fun x1=>Bp .gtr x1 (.int .i64 900000) fun x2=>Vif x2 (R (.tuple #[(.pointer none), (.int .i64 2)]) w) (VJoin 1 (fun _ x3 w1=>Nc x3<|Fo 1 x3 fun x4=>Ld x4 w1 fun x5=>Lnl x5 fun x6=>VLoop 1 [(.int .i64 0)] w1 fun _ next8 x7 w2=>Bp .lss x7 x6 fun x9=>Vif x9 (Nc x3<|Fo 1 x3 fun x10=>Ld x10 w2 fun x11=>Ias 1 x11 x7 fun x12=>St x12 x7 w2 fun w3=>Bp .add x7 (.int .i64 1) fun x13=>KE [x1, x3, x6] [x1, x3, x6]<|next8 x13 w3) (Bd P 162 #[(0, (.int .i64 0)), (2, x1)] w2 fun x14=>Bs P 160 1 #[(0, x14)] w2 fun x15 w4=>Nc x3<|Fo 5 x3 fun x16=>St x16 x15 w4 fun w5=>R (.tuple #[x3, (.int .i64 0)]) w5)) (fun J17=>Dr w fun w6=>Bp .lss x1 (.int .i64 2) fun x18=>(Ms P 152 x1 x1 w6 fun x19 w7=>(Ms P 152 x1 x1 w7 fun x20 w8=>Ms P 152 x1 x1 w8 fun x21 w9=>Bd P 164 #[(0, a0), (1, x19), (2, x20), (3, x21), (13, x18)] w9 fun x22=>New x22 164 w9 fun x24 w10=>KE [x1] [x1]<|J17 x24 w10) ∧ (Ms P 152 x1 x1 w7 fun x25 w11=>Ms P 152 x1 x1 w11 fun x26 w12=>Bd P 164 #[(0, a0), (1, x19), (2, x26), (3, x25), (13, x18)] w12 fun x27=>New x27 164 w12 fun x29 w13=>KE [x1] [x1]<|J17 x29 w13)) ∧ ((Ms P 152 x1 x1 w6 fun x30 w14=>(Ms P 152 x1 x1 w14 fun x31 w15=>Ms P 152 x1 x1 w15 fun x32 w16=>Bd P 164 #[(0, a0), (1, x31), (2, x30), (3, x32), (13, x18)] w16 fun x33=>New x33 164 w16 fun x35 w17=>KE [x1] [x1]<|J17 x35 w17) ∧ (Ms P 152 x1 x1 w14 fun x36 w18=>Ms P 152 x1 x1 w18 fun x37 w19=>Bd P 164 #[(0, a0), (1, x37), (2, x30), (3, x36), (13, x18)] w19 fun x38=>New x38 164 w19 fun x40 w20=>KE [x1] [x1]<|J17 x40 w20)) ∧ (Ms P 152 x1 x1 w6 fun x41 w21=>(Ms P 152 x1 x1 w21 fun x42 w22=>Ms P 152 x1 x1 w22 fun x43 w23=>Bd P 164 #[(0, a0), (1, x42), (2, x43), (3, x41), (13, x18)] w23 fun x44=>New x44 164 w23 fun x46 w24=>KE [x1] [x1]<|J17 x46 w24) ∧ (Ms P 152 x1 x1 w21 fun x47 w25=>Ms P 152 x1 x1 w25 fun x48 w26=>Bd P 164 #[(0, a0), (1, x48), (2, x47), (3, x41), (13, x18)] w26 fun x49=>New x49 164 w26 fun x51 w27=>KE [x1] [x1]<|J17 x51 w27)))))
theorem Tie.sorter_New {a0 : Value} (h : Vcf.sorter_New Tryz.prog a0 w R) : Cl Tryz.prog F.sorter_New #[a0] w R :=
  cl_of_vc (n := 45) (rs := [(.tmp 2), (.tmp 3)]) (h := (.s .z (.s .z (.s (.s .z (.i (.s .z .z) .z)) (.j [5] [4] (.r (.tree [0, 0, 2, 0, 8, 0, 32, 0, 128, 511, 1023, 2047] (.op 0 (.op 1 (.op 3 (.op 5 (.op 7 (.op 8 (.fk (.op 2 (.fk (.op 4 (.op 6 (.op 9 (.op 10 (.op 11 .dn))))) (.op 6 (.op 4 (.op 9 (.op 10 (.op 11 .dn))))))) (.fk (.op 4 (.fk (.op 2 (.op 6 (.op 9 (.op 10 (.op 11 .dn))))) (.op 6 (.op 2 (.op 9 (.op 10 (.op 11 .dn))))))) (.op 6 (.fk (.op 2 (.op 4 (.op 9 (.op 10 (.op 11 .dn))))) (.op 4 (.op 2 (.op 9 (.op 10 (.op 11 .dn))))))))))))))))) (.s (.s .z (.b (.l [27] [4, 5, 26] (.s .z (.s (.i .z .z) (.s (.b (.s .z .z)) .z)))))) (.s .z (.s .z .z)))))))) (args := [a0]) (by kernel_rfl) Tryz.func92 rfl (by kernel_rfl) rfl rfl rfl (Eq.mp (by kernel_rfl) h)

def Vcf.sorter_Sorter_Step (P : Program) (a0 a1 : Value) (w : World) (R : Value → World → Prop) : Prop :=
 Bn P 164 false a0 (.pointer none) fun x1=>Vif x1 (R (.int .i64 0) w) (Nc a0<|Fo 14 a0 fun x2=>Ld x2 w fun x3=>VLoop 0 [] w fun _ next4 w1=>VJoin 1 (fun _ x5 w2=>Vif x5 (Cl P F.sorter_Sorter_step #[a0] w2 fun x6 w3=>KE [a0, a1, x3] [a0, a1, x3]<|next4 w3) (Nc a0<|Fo 14 a0 fun x7=>Ld x7 w2 fun x8=>Bp .sub x8 x3 fun x9=>R x9 w2)) (fun J10=>Nc a0<|Fo 15 a0 fun x11=>Ld x11 w1 fun x12=>Up .not x12 fun x13=>Vif x13 (Nc a0<|Fo 14 a0 fun x14=>Ld x14 w1 fun x15=>Bp .sub x15 x3 fun x16=>Bp .lss x16 a1 fun x17=>KE [a0, a1, x3] [a0, a1, x3]<|J10 x17 w1) (KE [a0, a1, x3] [a0, a1, x3]<|J10 (.bool false) w1)))
theorem Tie.sorter_Sorter_Step {a0 a1 : Value} (h : Vcf.sorter_Sorter_Step Tryz.prog a0 a1 w R) : Cl Tryz.prog F.sorter_Sorter_Step #[a0, a1] w R :=
  cl_of_vc (n := 35) (rs := [(.tmp 4)]) (h := (.s .z (.s (.s .z (.i (.s .z .z) .z)) (.s .z (.s (.b (.l [] [0, 1, 5] (.s (.j [26] [0, 1, 5] .z (.i .z .z)) (.b .z)))) (.s .z .z)))))) (args := [a0, a1]) (by kernel_rfl) Tryz.func93 rfl (by kernel_rfl) rfl rfl rfl (Eq.mp (by kernel_rfl) h)

def Vcf.sorter_Sorter_Done (P : Program) (a0 : Value) (w : World) (R : Value → World → Prop) : Prop :=
 Bn P 164 true a0 (.pointer none) fun x1=>Vif x1 (Nc a0<|Fo 15 a0 fun x2=>Ld x2 w fun x3=>R x3 w) (R (.bool false) w)
theorem Tie.sorter_Sorter_Done {a0 : Value} (h : Vcf.sorter_Sorter_Done Tryz.prog a0 w R) : Cl Tryz.prog F.sorter_Sorter_Done #[a0] w R :=
  cl_of_vc (n := 11) (rs := [(.tmp 2)]) (h := (.s .z (.s .z .z))) (args := [a0]) (by kernel_rfl) Tryz.func94 rfl (by kernel_rfl) rfl rfl rfl (Eq.mp (by kernel_rfl) h)

def Vcf.sorter_Sorter_Order (P : Program) (a0 : Value) (w : World) (R : Value → World → Prop) : Prop :=
 Cl P F.sorter_Sorter_Done #[a0] w fun x1 w1=>Up .not x1 fun x2=>Vif x2 (R (.slice none 0 0) w1) (Nc a0<|Fo 1 a0 fun x3=>Ld x3 w1 fun x4=>Cl P F.slices_Clone_int_int #[x4] w1 fun x5 w2=>R x5 w2)
theorem Tie.sorter_Sorter_Order {a0 : Value} (h : Vcf.sorter_Sorter_Order Tryz.prog a0 w R) : Cl Tryz.prog F.sorter_Sorter_Order #[a0] w R :=
  cl_of_vc (n := 11) (rs := [(.tmp 2)]) (h := (.s .z (.s (.s .z (.i (.s .z .z) .z)) (.s .z .z)))) (args := [a0]) (by kernel_rfl) Tryz.func95 rfl (by kernel_rfl) rfl rfl rfl (Eq.mp (by kernel_rfl) h)

def Vcf.bwt_Turner_take (P : Program) (a0 : Value) (w : World) (R : Value → World → Prop) : Prop :=
 Nc a0<|Fo 3 a0 fun x1=>Ld x1 w fun x2=>Lnl x2 fun x3=>Nc a0<|Fo 2 a0 fun x4=>Ld x4 w fun x5=>Ias 1 x5 x3 fun x6=>Ld x6 w fun x7=>VJoin 0 (fun _ w1=>Dr w1 fun w2=>Nc a0<|Fo 3 a0 fun x8=>Ld x8 w2 fun x9=>Nc a0<|Fo 0 a0 fun x11=>Ld x11 w2 fun x12=>Cl P F.bwt_ahead #[x12, x7] w2 fun x14 w3=>Rk (fun w K=>Ld x8 w fun x10=>K x10) x9 w3<|Bs P 44 1 #[(0, x14)] w3 fun x15 w4=>Rk (fun w K=>Ld x8 w fun x10=>K x10) x9 w4<|Ap P #[44, 44] 44 #[x9, x15] w4 fun x16 w5=>Nc a0<|Fo 3 a0 fun x17=>St x17 x16 w5 fun w6=>R (.tuple #[]) w6) (fun J18=>Bp .eql x7 (.int .i64 0) fun x19=>Vif x19 (Nc a0<|Fo 4 a0 fun x20=>St x20 x3 w fun w7=>KE [a0, x7] [a0, x7]<|J18 w7) (KE [a0, x7] [a0, x7]<|J18 w))
theorem Tie.bwt_Turner_take {a0 : Value} (h : Vcf.bwt_Turner_take Tryz.prog a0 w R) : Cl Tryz.prog F.bwt_Turner_take #[a0] w R :=
  cl_of_vc (n := 37) (rs := []) (h := (.s .z (.s .z (.j [] [0, 3] (.s .z (.i .z .z)) (.r (.staged [0, 0, 2, 6, 14, 0, 32, 96, 224, 0, 992, 2016, 4094, 8191, 16383, 32767])))))) (args := [a0]) (by kernel_rfl) Tryz.func96 rfl (by kernel_rfl) rfl rfl rfl (Eq.mp (by kernel_rfl) h)

def Vcf.split_Splitter_Put (P : Program) (a0 a1 : Value) (w : World) (R : Value → World → Prop) : Prop :=
 New (zeroP P 148) 148 w fun x1 w1=>Bn P 104 false a0 (.pointer none) fun x2=>Vif x2 (Bd P 148 #[] w1 fun x3=>StA 3 x1 x3 w1 fun w2=>LdA 3 x1 w2 fun x4=>R (.tuple #[x4, (.bool false)]) w2) (Nc a0<|Fo 4 a0 fun x5=>Ld x5 w1 fun x6=>Cl P F.feed_Packer_Row #[x6] w1 fun x7 w3=>New (zeroP P 124) 124 w3 fun row_8 w4=>StA 2 row_8 x7 w4 fun w5=>Nc a0<|Fo 4 a0 fun x9=>Ld x9 w5 fun x10=>Cl P F.feed_Packer_Put #[x10, a1] w5 fun x11 w6=>Bp .eql x11 (.string ⟨#[]⟩) fun x12=>Vif x12 (Bd P 148 #[] w6 fun x13=>StA 3 x1 x13 w6 fun w7=>LdA 3 x1 w7 fun x14=>R (.tuple #[x14, (.bool false)]) w7) (VJoin 0 (fun _ w8=>LdA 2 row_8 w8 fun x15=>Lns x11 fun x16=>Cl P F.split_Splitter_piece #[a0, x15, x16] w8 fun x17 w9=>Ex x17 0 fun x18=>Ex x17 1 fun x19=>StA 3 x1 x18 w9 fun w10=>LdA 3 x1 w10 fun x20=>R (.tuple #[x20, x19]) w10) (fun J21=>Fo 0 row_8 fun x22=>Ld x22 w6 fun x23=>Bp .eql x23 a1 fun x24=>Vif x24 (Fo 1 row_8 fun x25=>Ld x25 w6 fun x26=>Bp .add x26 (.int .i64 1) fun x27=>Fo 1 row_8 fun x28=>St x28 x27 w6 fun w11=>KE [a0, x1, row_8, x11] [a0, x1, row_8, x11]<|J21 w11) (KE [a0, x1, row_8, x11] [a0, x1, row_8, x11]<|J21 w6))))
theorem Tie.split_Splitter_Put {a0 a1 : Value} (h : Vcf.split_Splitter_Put Tryz.prog a0 a1 w R) : Cl Tryz.prog F.split_Splitter_Put #[a0, a1] w R :=
  cl_of_vc (n := 40) (rs := [(.cell 4 148), (.tmp 5)]) (h := (.s .z (.s (.s .z (.i (.s .z .z) .z)) (.s .z (.s .z (.s (.s .z (.i (.s .z .z) .z)) (.j [] [0, 4, 6, 7] (.s .z (.i .z .z)) (.s .z .z)))))))) (args := [a0, a1]) (by kernel_rfl) Tryz.func99 rfl (by kernel_rfl) rfl rfl rfl (Eq.mp (by kernel_rfl) h)

def Vcf.feed_Packer_close (P : Program) (a0 : Value) (w : World) (R : Value → World → Prop) : Prop :=
 Nc a0<|Fo 0 a0 fun x1=>LdA 2 x1 w fun x2=>Cl P F.rle_Piece #[x2] w fun x3 w1=>Ex x3 0 fun x4=>Ex x3 1 fun x5=>Bd P 124 #[] w1 fun x6=>Nc a0<|Fo 0 a0 fun x7=>StA 2 x7 x6 w1 fun w2=>R x4 w2
theorem Tie.feed_Packer_close {a0 : Value} (h : Vcf.feed_Packer_close Tryz.prog a0 w R) : Cl Tryz.prog F.feed_Packer_close #[a0] w R :=
  cl_of_vc (n := 18) (rs := [(.tmp 2)]) (h := (.s .z (.s .z (.s .z (.s .z .z))))) (args := [a0]) (by kernel_rfl) Tryz.func102 rfl (by kernel_rfl) rfl rfl rfl (Eq.mp (by kernel_rfl) h)

def Vcf.split_begun_take (P : Program) (a0 a1 : Value) (w : World) (R : Value → World → Prop) : Prop :=
 New a1 124 w fun p_1 w1=>LdA 2 p_1 w1 fun x2=>Cl P F.rle_Piece #[x2] w1 fun x3 w2=>Ex x3 0 fun x4=>Ex x3 1 fun x5=>Nc a0<|Fo 0 a0 fun x6=>Ld x6 w2 fun x7=>Ap P #[44, 9] 44 #[x7, x4] w2 fun x8 w3=>Nc a0<|Fo 0 a0 fun x9=>St x9 x8 w3 fun w4=>Dr w4 fun w5=>Nc a0<|Fo 2 a0 fun x10=>Ld x10 w5 fun x11=>Fo 1 p_1 fun x13=>Ld x13 w5 fun x14=>Bp .add x11 x14 fun x16=>Nc a0<|Fo 2 a0 fun x17=>St x17 x16 w5 fun w6=>Fo 1 p_1 fun x18=>Ld x18 w6 fun x19=>VLoop 1 [(.int .i64 0)] w6 fun _ next21 x20 w7=>Bp .lss x20 x19 fun x22=>Vif x22 (Dr w7 fun w8=>Nc a0<|Fo 1 a0 fun x23=>Ld x23 w8 fun x24=>Fo 0 p_1 fun x26=>Ld x26 w8 fun x27=>Cl P F.crc_Sum_Put #[x24, x27] w8 fun x29 w9=>Bp .add x20 (.int .i64 1) fun x30=>KE [a0, p_1, x19] [a0, p_1, x19]<|next21 x30 w9) (R (.tuple #[]) w7)
theorem Tie.split_begun_take {a0 a1 : Value} (h : Vcf.split_begun_take Tryz.prog a0 a1 w R) : Cl Tryz.prog F.split_begun_take #[a0, a1] w R :=
  cl_of_vc (n := 41) (rs := []) (h := (.s .z (.s .z (.s .z (.s (.r (.staged [0, 1, 3, 7, 0, 16, 63, 127, 255, 511])) (.s .z (.b (.l [31] [0, 3, 30] (.s .z (.s (.i .z .z) (.s (.b (.r (.staged [0, 1, 3, 7, 0, 16, 63]))) .z))))))))))) (args := [a0, a1]) (by kernel_rfl) Tryz.func103 rfl (by kernel_rfl) rfl rfl rfl (Eq.mp (by kernel_rfl) h)

def Vcf.crc_Sum_Value (P : Program) (a0 : Value) (w : World) (R : Value → World → Prop) : Prop :=
 Bn P 122 false a0 (.pointer none) fun x1=>Vif x1 (R (.int .u32 0) w) (Nc a0<|Fo 256 a0 fun x2=>Ld x2 w fun x3=>Up .xor x3 fun x4=>R x4 w)
theorem Tie.crc_Sum_Value {a0 : Value} (h : Vcf.crc_Sum_Value Tryz.prog a0 w R) : Cl Tryz.prog F.crc_Sum_Value #[a0] w R :=
  cl_of_vc (n := 10) (rs := [(.tmp 2)]) (h := (.s .z (.s (.s .z (.i (.s .z .z) .z)) (.s .z .z)))) (args := [a0]) (by kernel_rfl) Tryz.func104 rfl (by kernel_rfl) rfl rfl rfl (Eq.mp (by kernel_rfl) h)

def Vcf.crc_Sum_Reset (P : Program) (a0 : Value) (w : World) (R : Value → World → Prop) : Prop :=
 Bn P 122 true a0 (.pointer none) fun x1=>Vif x1 (Nc a0<|Fo 256 a0 fun x2=>St x2 (.int .u32 4294967295) w fun w1=>R (.tuple #[]) w1) (R (.tuple #[]) w)
theorem Tie.crc_Sum_Reset {a0 : Value} (h : Vcf.crc_Sum_Reset Tryz.prog a0 w R) : Cl Tryz.prog F.crc_Sum_Reset #[a0] w R :=
  cl_of_vc (n := 7) (rs := []) (h := (.s .z (.i .z .z))) (args := [a0]) (by kernel_rfl) Tryz.func105 rfl (by kernel_rfl) rfl rfl rfl (Eq.mp (by kernel_rfl) h)

def Vcf.sorter_Sorter_step (P : Program) (a0 : Value) (w : World) (R : Value → World → Prop) : Prop :=
 Cl P F.sorter_Sorter_join #[a0] w fun x1 w1=>VJoin 0 (fun _ w2=>Nc a0<|Fo 14 a0 fun x2=>Ld x2 w2 fun x3=>Bp .add x3 (.int .i64 1) fun x4=>Nc a0<|Fo 14 a0 fun x5=>St x5 x4 w2 fun w3=>R (.tuple #[]) w3) (fun J6=>VJoin 1 (fun _ x7 w4=>Vif x7 (Cl P F.sorter_Sorter_lay #[a0] w4 fun x8 w5=>KE [a0] [a0]<|J6 w5) (Nc a0<|Fo 6 a0 fun x9=>Fo 2 x9 fun x10=>Ld x10 w4 fun x11=>Bp .gtr x11 (.int .i64 0) fun x12=>Vif x12 (Cl P F.sorter_Sorter_put #[a0] w4 fun x13 w6=>KE [a0] [a0]<|J6 w6) (Nc a0<|Fo 5 a0 fun x14=>Ld x14 w4 fun x15=>Lnl x15 fun x16=>Bp .gtr x16 (.int .i64 0) fun x17=>Vif x17 (Cl P F.sorter_Sorter_begin #[a0] w4 fun x18 w7=>KE [a0] [a0]<|J6 w7) (Cl P F.sorter_Sorter_rank #[a0] w4 fun x19 w8=>KE [a0] [a0]<|J6 w8)))) (fun J20=>Dr w1 fun w9=>Nc a0<|Fo 6 a0 fun x21=>Fo 2 x21 fun x22=>Ld x22 w9 fun x23=>Bp .gtr x23 (.int .i64 0) fun x25=>Vif x25 (Nc a0<|Fo 9 a0 fun x26=>Ld x26 w9 fun x27=>Nc a0<|Fo 6 a0 fun x29=>Fo 1 x29 fun x30=>Ld x30 w9 fun x31=>Nc a0<|Fo 6 a0 fun x33=>Fo 0 x33 fun x34=>Ld x34 w9 fun x35=>Bp .sub x31 x35 fun x37=>Bp .lss x27 x37 fun x38=>KE [a0] [a0]<|J20 x38 w9) (KE [a0] [a0]<|J20 (.bool false) w9)))
theorem Tie.sorter_Sorter_step {a0 : Value} (h : Vcf.sorter_Sorter_step Tryz.prog a0 w R) : Cl Tryz.prog F.sorter_Sorter_step #[a0] w R :=
  cl_of_vc (n := 58) (rs := []) (h := (.s .z (.j [] [0] (.b (.j [6] [0] (.r (.staged [0, 1, 3, 7, 15, 31, 63, 127, 255, 511, 1023, 127, 2175, 6271, 14463, 30847, 127, 65663, 196735, 458879, 983167, 2095231, 4194303, 8388607, 16777215])) (.i .z (.s .z (.i .z (.s .z (.i .z .z))))))) .z))) (args := [a0]) (by kernel_rfl) Tryz.func106 rfl (by kernel_rfl) rfl rfl rfl (Eq.mp (by kernel_rfl) h)

def Vcf.slices_Clone_int_int (P : Program) (a0 : Value) (w : World) (R : Value → World → Prop) : Prop :=
 Be P .eql 152 (.tmp 3) (.const (.slice none 0 0)) a0 (.slice none 0 0) w fun x1=>Vif x1 (R (.slice none 0 0) w) (Bs P 152 0 #[] w fun x2 w1=>Ap P #[152, 152] 152 #[x2, a0] w1 fun x3 w2=>R x3 w2)
theorem Tie.slices_Clone_int_int {a0 : Value} (h : Vcf.slices_Clone_int_int Tryz.prog a0 w R) : Cl Tryz.prog F.slices_Clone_int_int #[a0] w R :=
  cl_of_vc (n := 8) (rs := [(.tmp 2)]) (h := (.s .z (.s (.s .z (.i (.s .z .z) .z)) (.s .z .z)))) (args := [a0]) (by kernel_rfl) Tryz.func107 rfl (by kernel_rfl) rfl rfl rfl (Eq.mp (by kernel_rfl) h)

def Vcf.bwt_ahead (P : Program) (a0 a1 : Value) (w : World) (R : Value → World → Prop) : Prop :=
 Bp .eql a1 (.int .i64 0) fun x1=>Vif x1 (Lns a0 fun x2=>Bp .sub x2 (.int .i64 1) fun x3=>Ixs a0 x3 fun x4=>R x4 w) (Bp .sub a1 (.int .i64 1) fun x5=>Ixs a0 x5 fun x6=>R x6 w)
theorem Tie.bwt_ahead {a0 a1 : Value} (h : Vcf.bwt_ahead Tryz.prog a0 a1 w R) : Cl Tryz.prog F.bwt_ahead #[a0, a1] w R :=
  cl_of_vc (n := 16) (rs := [(.tmp 4)]) (h := (.s .z (.s (.s .z (.i (.s .z .z) .z)) (.s .z .z)))) (args := [a0, a1]) (by kernel_rfl) Tryz.func108 rfl (by kernel_rfl) rfl rfl rfl (Eq.mp (by kernel_rfl) h)

def Vcf.crc_Combine (P : Program) (a0 a1 : Value) (w : World) (R : Value → World → Prop) : Prop :=
 Bp .shl a0 (.int .u64 1) fun x1=>Bp .shr a0 (.int .u64 31) fun x2=>Bp .xor x1 x2 fun x3=>Bp .xor x3 a1 fun x4=>R x4 w
theorem Tie.crc_Combine {a0 a1 : Value} (h : Vcf.crc_Combine Tryz.prog a0 a1 w R) : Cl Tryz.prog F.crc_Combine #[a0, a1] w R :=
  cl_of_vc (n := 12) (rs := [(.tmp 4)]) (h := (.s .z (.s .z .z))) (args := [a0, a1]) (by kernel_rfl) Tryz.func109 rfl (by kernel_rfl) rfl rfl rfl (Eq.mp (by kernel_rfl) h)

def Vcf.feed_Packer_Put (P : Program) (a0 a1 : Value) (w : World) (R : Value → World → Prop) : Prop :=
 Bn P 126 false a0 (.pointer none) fun x1=>Vif x1 (R (.string ⟨#[]⟩) w) (VJoin 1 (fun _ told_2 w1=>Nc a0<|Fo 0 a0 fun x3=>Fo 0 x3 fun x4=>St x4 a1 w1 fun w2=>Nc a0<|Fo 0 a0 fun x5=>Fo 1 x5 fun x6=>Ld x6 w2 fun x7=>Bp .add x7 (.int .i64 1) fun x8=>Nc a0<|Fo 0 a0 fun x9=>Fo 1 x9 fun x10=>St x10 x8 w2 fun w3=>Nc a0<|Fo 0 a0 fun x11=>Fo 1 x11 fun x12=>Ld x12 w3 fun x13=>Bp .eql x13 (.int .i64 255) fun x14=>Vif x14 (Cl P F.feed_Packer_close #[a0] w3 fun x15 w4=>Bp .add told_2 x15 fun x16=>R x16 w4) (R told_2 w3)) (fun J17=>VJoin 1 (fun _ x18 w5=>Vif x18 (Cl P F.feed_Packer_close #[a0] w5 fun x19 w6=>KE [a0, a1] [a0, a1]<|J17 x19 w6) (KE [a0, a1] [a0, a1]<|J17 (.string ⟨#[]⟩) w5)) (fun J20=>Nc a0<|Fo 0 a0 fun x21=>Fo 1 x21 fun x22=>Ld x22 w fun x23=>Bp .gtr x23 (.int .i64 0) fun x24=>Vif x24 (Nc a0<|Fo 0 a0 fun x25=>Fo 0 x25 fun x26=>Ld x26 w fun x27=>Bp .neq x27 a1 fun x28=>KE [a0, a1, (.string ⟨#[]⟩)] [a0, a1, (.string ⟨#[]⟩)]<|J20 x28 w) (KE [a0, a1, (.string ⟨#[]⟩)] [a0, a1, (.string ⟨#[]⟩)]<|J20 (.bool false) w))))
theorem Tie.feed_Packer_Put {a0 a1 : Value} (h : Vcf.feed_Packer_Put Tryz.prog a0 a1 w R) : Cl Tryz.prog F.feed_Packer_Put #[a0, a1] w R :=
  cl_of_vc (n := 50) (rs := [(.tmp 4)]) (h := (.s .z (.s (.s .z (.i (.s .z .z) .z)) (.s .z (.j [5] [0, 1] (.j [22] [0, 1, 5] .z (.i .z .z)) (.s .z (.s .z (.s (.s .z (.i .z .z)) (.s .z .z))))))))) (args := [a0, a1]) (by kernel_rfl) Tryz.func111 rfl (by kernel_rfl) rfl rfl rfl (Eq.mp (by kernel_rfl) h)

def Vcf.rle_Piece (P : Program) (a0 : Value) (w : World) (R : Value → World → Prop) : Prop :=
 New a0 124 w fun p_1 w1=>VJoin 1 (fun _ x2 w2=>Vif x2 (R (.tuple #[(.string ⟨#[]⟩), (.int .i64 1)]) w2) (LdA 2 p_1 w2 fun x3=>Cl P F.rle_text #[x3] w2 fun x4 w3=>R (.tuple #[x4, (.int .i64 0)]) w3)) (fun J5=>Fo 1 p_1 fun x6=>Ld x6 w1 fun x7=>Bp .lss x7 (.int .i64 1) fun x8=>Vif x8 (KE [p_1] [p_1]<|J5 (.bool true) w1) (Fo 1 p_1 fun x9=>Ld x9 w1 fun x10=>Bp .gtr x10 (.int .i64 255) fun x11=>KE [p_1] [p_1]<|J5 x11 w1))
theorem Tie.rle_Piece {a0 : Value} (h : Vcf.rle_Piece Tryz.prog a0 w R) : Cl Tryz.prog F.rle_Piece #[a0] w R :=
  cl_of_vc (n := 14) (rs := [(.tmp 2), (.tmp 3)]) (h := (.s .z (.s (.j [11] [1] .z (.i (.s .z .z) .z)) (.s .z .z)))) (args := [a0]) (by kernel_rfl) Tryz.func112 rfl (by kernel_rfl) rfl rfl rfl (Eq.mp (by kernel_rfl) h)

def Vcf.crc_Sum_Put (P : Program) (a0 a1 : Value) (w : World) (R : Value → World → Prop) : Prop :=
 Bn P 122 true a0 (.pointer none) fun x1=>Vif x1 (Dr w fun w1=>Nc a0<|Fo 0 a0 fun x2=>Nc a0<|Fo 256 a0 fun x3=>Ld x3 w1 fun x4=>Cl P F.crc_step #[x2, x4, a1] w1 fun x6 w2=>Nc a0<|Fo 256 a0 fun x7=>St x7 x6 w2 fun w3=>R (.tuple #[]) w3) (R (.tuple #[]) w)
theorem Tie.crc_Sum_Put {a0 a1 : Value} (h : Vcf.crc_Sum_Put Tryz.prog a0 a1 w R) : Cl Tryz.prog F.crc_Sum_Put #[a0, a1] w R :=
  cl_of_vc (n := 18) (rs := []) (h := (.s .z (.i (.r (.staged [0, 0, 2, 6, 0, 16, 48, 112, 0, 510, 1023, 2047, 4095])) .z))) (args := [a0, a1]) (by kernel_rfl) Tryz.func113 rfl (by kernel_rfl) rfl rfl rfl (Eq.mp (by kernel_rfl) h)

def Vcf.sorter_Sorter_join (P : Program) (a0 : Value) (w : World) (R : Value → World → Prop) : Prop :=
 Nc a0<|Fo 5 a0 fun x1=>Ld x1 w fun x2=>Lnl x2 fun x3=>Bp .sub x3 (.int .i64 1) fun x4=>VJoin 1 (fun _ x5 w1=>Vif x5 (R (.tuple #[]) w1) (Nc a0<|Fo 5 a0 fun x6=>Ld x6 w1 fun x7=>Ias 3 x7 x4 fun x8=>LdA 3 x8 w1 fun x9=>Nc a0<|Fo 6 a0 fun x10=>StA 3 x10 x9 w1 fun w2=>Nc a0<|Fo 5 a0 fun x11=>Ld x11 w2 fun x12=>Ssl 3 x12 none (some x4) fun x13=>Nc a0<|Fo 5 a0 fun x14=>St x14 x13 w2 fun w3=>Nc a0<|Fo 9 a0 fun x15=>St x15 (.int .i64 0) w3 fun w4=>Nc a0<|Fo 10 a0 fun x16=>St x16 (.int .i64 0) w4 fun w5=>Nc a0<|Fo 6 a0 fun x17=>Fo 1 x17 fun x18=>Ld x18 w5 fun x19=>Nc a0<|Fo 11 a0 fun x20=>St x20 x19 w5 fun w6=>R (.tuple #[]) w6)) (fun J21=>Bp .lss x4 (.int .i64 0) fun x22=>Vif x22 (KE [a0, x4] [a0, x4]<|J21 (.bool true) w) (Nc a0<|Fo 6 a0 fun x23=>Fo 2 x23 fun x24=>Ld x24 w fun x25=>Bp .gtr x25 (.int .i64 0) fun x26=>Vif x26 (KE [a0, x4] [a0, x4]<|J21 (.bool true) w) (Nc a0<|Fo 5 a0 fun x27=>Ld x27 w fun x28=>Ias 3 x28 x4 fun x29=>Fo 1 x29 fun x30=>Ld x30 w fun x31=>Bp .eql x31 (.int .i64 0) fun x32=>KE [a0, x4] [a0, x4]<|J21 x32 w)))
theorem Tie.sorter_Sorter_join {a0 : Value} (h : Vcf.sorter_Sorter_join Tryz.prog a0 w R) : Cl Tryz.prog F.sorter_Sorter_join #[a0] w R :=
  cl_of_vc (n := 63) (rs := []) (h := (.s .z (.s (.j [29] [0, 2] .z (.i .z .z)) (.s .z (.s .z (.s .z (.s .z .z))))))) (args := [a0]) (by kernel_rfl) Tryz.func114 rfl (by kernel_rfl) rfl rfl rfl (Eq.mp (by kernel_rfl) h)

def Vcf.sorter_Sorter_lay (P : Program) (a0 : Value) (w : World) (R : Value → World → Prop) : Prop :=
 Dr w fun w1=>Nc a0<|Fo 3 a0 fun x1=>Ld x1 w1 fun x2=>Nc a0<|Fo 9 a0 fun x4=>Ld x4 w1 fun x5=>Nc a0<|Fo 1 a0 fun x7=>Ld x7 w1 fun x8=>Nc a0<|Fo 6 a0 fun x10=>Fo 0 x10 fun x11=>Ld x11 w1 fun x12=>Nc a0<|Fo 9 a0 fun x14=>Ld x14 w1 fun x15=>Bp .add x12 x15 fun x17=>Ias 1 x8 x17 fun x18=>Ld x18 w1 fun x19=>Ias 1 x2 x5 fun x21=>St x21 x19 w1 fun w2=>Nc a0<|Fo 9 a0 fun x22=>Ld x22 w2 fun x23=>Bp .add x23 (.int .i64 1) fun x24=>Nc a0<|Fo 9 a0 fun x25=>St x25 x24 w2 fun w3=>R (.tuple #[]) w3
theorem Tie.sorter_Sorter_lay {a0 : Value} (h : Vcf.sorter_Sorter_lay Tryz.prog a0 w R) : Cl Tryz.prog F.sorter_Sorter_lay #[a0] w R :=
  cl_of_vc (n := 34) (rs := []) (h := (.s (.r (.staged [0, 1, 3, 7, 0, 16, 48, 112, 0, 256, 768, 1792, 0, 4096, 12288, 28672, 61440, 0, 131072, 393216, 917504, 2093056, 4194048, 8388352, 16777215, 33554431])) .z)) (args := [a0]) (by kernel_rfl) Tryz.func115 rfl (by kernel_rfl) rfl rfl rfl (Eq.mp (by kernel_rfl) h)

def Vcf.sorter_Sorter_put (P : Program) (a0 : Value) (w : World) (R : Value → World → Prop) : Prop :=
 Nc a0<|Fo 6 a0 fun x1=>LdA 3 x1 w fun x2=>New (zeroP P 162) 162 w fun m_3 w1=>StA 3 m_3 x2 w1 fun w2=>Dr w2 fun w3=>Fo 0 m_3 fun x4=>Ld x4 w3 fun x5=>Nc a0<|Fo 10 a0 fun x7=>Ld x7 w3 fun x8=>Bp .add x5 x8 fun x10=>Nc a0<|Fo 11 a0 fun x11=>Ld x11 w3 fun x12=>Bp .add x10 x12 fun x14=>Fo 1 m_3 fun x15=>Ld x15 w3 fun x16=>Bp .sub x14 x16 fun x18=>VJoin 0 (fun _ w4=>Fo 2 m_3 fun x19=>Ld x19 w4 fun x20=>Bp .sub x20 (.int .i64 1) fun x21=>Bp .eql x18 x21 fun x22=>Vif x22 (Bd P 162 #[] w4 fun x23=>Nc a0<|Fo 6 a0 fun x24=>StA 3 x24 x23 w4 fun w5=>R (.tuple #[]) w5) (R (.tuple #[]) w4)) (fun J25=>VJoin 1 (fun _ x26 w6=>Vif x26 (Dr w6 fun w7=>Nc a0<|Fo 1 a0 fun x27=>Ld x27 w7 fun x28=>Nc a0<|Fo 3 a0 fun x30=>Ld x30 w7 fun x31=>Nc a0<|Fo 10 a0 fun x33=>Ld x33 w7 fun x34=>Ias 1 x31 x34 fun x36=>Ld x36 w7 fun x37=>Ias 1 x28 x18 fun x39=>St x39 x37 w7 fun w8=>Nc a0<|Fo 10 a0 fun x40=>Ld x40 w8 fun x41=>Bp .add x41 (.int .i64 1) fun x42=>Nc a0<|Fo 10 a0 fun x43=>St x43 x42 w8 fun w9=>KE [a0, m_3, x18] [a0, m_3, x18]<|J25 w9) (Dr w6 fun w10=>Nc a0<|Fo 1 a0 fun x44=>Ld x44 w10 fun x45=>Nc a0<|Fo 1 a0 fun x47=>Ld x47 w10 fun x48=>Nc a0<|Fo 11 a0 fun x50=>Ld x50 w10 fun x51=>Ias 1 x48 x51 fun x53=>Ld x53 w10 fun x54=>Ias 1 x45 x18 fun x56=>St x56 x54 w10 fun w11=>Nc a0<|Fo 11 a0 fun x57=>Ld x57 w11 fun x58=>Bp .add x58 (.int .i64 1) fun x59=>Nc a0<|Fo 11 a0 fun x60=>St x60 x59 w11 fun w12=>KE [a0, m_3, x18] [a0, m_3, x18]<|J25 w12)) (fun J61=>Dr w3 fun w13=>Nc a0<|Fo 11 a0 fun x62=>Ld x62 w13 fun x63=>Fo 2 m_3 fun x65=>Ld x65 w13 fun x66=>Bp .eql x63 x66 fun x68=>Vif x68 (KE [a0, m_3, x18] [a0, m_3, x18]<|J61 (.bool true) w13) (Nc a0<|Fo 10 a0 fun x69=>Ld x69 w13 fun x70=>Nc a0<|Fo 9 a0 fun x72=>Ld x72 w13 fun x73=>Bp .lss x70 x73 fun x75=>Vif x75 (Nc a0<|Fo 3 a0 fun x76=>Ld x76 w13 fun x77=>Nc a0<|Fo 10 a0 fun x79=>Ld x79 w13 fun x80=>Ias 1 x77 x80 fun x82=>Ld x82 w13 fun x83=>Nc a0<|Fo 1 a0 fun x85=>Ld x85 w13 fun x86=>Nc a0<|Fo 11 a0 fun x88=>Ld x88 w13 fun x89=>Ias 1 x86 x89 fun x91=>Ld x91 w13 fun x92=>Cl P F.sorter_Sorter_above #[a0, x83, x92] w13 fun x94 w14=>Up .not x94 fun x95=>KE [a0, m_3, x18] [a0, m_3, x18]<|J61 x95 w14) (KE [a0, m_3, x18] [a0, m_3, x18]<|J61 (.bool false) w13))))
theorem Tie.sorter_Sorter_put {a0 : Value} (h : Vcf.sorter_Sorter_put Tryz.prog a0 w R) : Cl Tryz.prog F.sorter_Sorter_put #[a0] w R :=
  cl_of_vc (n := 121) (rs := []) (h := (.s .z (.s (.r (.staged [0, 1, 0, 4, 12, 28, 63, 0, 128, 384, 896, 2047, 0, 4096, 16383, 32767])) (.j [] [0, 2, 3] (.j [65] [0, 2, 3] (.r (.staged [0, 1, 3, 7, 0, 16, 63, 127, 255, 511, 1023, 2047, 255, 4351, 12543, 28927, 65535, 131071, 262143, 262143, 786431, 1835007, 3932159, 262143, 8650751, 25427967, 58982399, 133955583, 268173311, 262143, 537133055, 1610874879, 3758358527, 262143, 8590196735, 25770065919, 60129804287, 136902344703, 274341298175, 549755813887, 1099511627775, 2199023255551, 4398046511103])) (.i (.s (.r (.staged [0, 1, 3, 7, 0, 0, 32, 96, 224, 0, 512, 1536, 3584, 8160, 16352, 32767, 65535])) .z) (.s (.r (.staged [0, 1, 3, 7, 0, 0, 32, 96, 224, 0, 512, 1536, 3584, 8160, 16352, 32767, 65535])) .z))) (.s .z (.i .z .z)))))) (args := [a0]) (by kernel_rfl) Tryz.func116 rfl (by kernel_rfl) rfl rfl rfl (Eq.mp (by kernel_rfl) h)

def Vcf.sorter_Sorter_begin (P : Program) (a0 : Value) (w : World) (R : Value → World → Prop) : Prop :=
 Dr w fun w1=>Nc a0<|Fo 5 a0 fun x1=>Ld x1 w1 fun x2=>Nc a0<|Fo 5 a0 fun x4=>Ld x4 w1 fun x5=>Lnl x5 fun x7=>Bp .sub x7 (.int .i64 1) fun x9=>Ias 3 x2 x9 fun x10=>LdA 3 x10 w1 fun x11=>New (zeroP P 162) 162 w1 fun p_13 w2=>Rk (fun w K=>LdA 3 x10 w fun x12=>K x12) x11 w2<|Rk (fun w K=>Lnl x5 fun x8=>K x8) x7 w2<|Rk (fun w K=>Ld x4 w fun x6=>K x6) x5 w2<|Rk (fun w K=>Ld x1 w fun x3=>K x3) x2 w2<|StA 3 p_13 x11 w2 fun w3=>Dr w3 fun w4=>Nc a0<|Fo 5 a0 fun x14=>Ld x14 w4 fun x15=>Nc a0<|Fo 5 a0 fun x17=>Ld x17 w4 fun x18=>Lnl x18 fun x20=>Bp .sub x20 (.int .i64 1) fun x22=>Ssl 3 x15 none (some x22) fun x23=>Nc a0<|Fo 5 a0 fun x25=>St x25 x23 w4 fun w5=>Fo 2 p_13 fun x26=>Ld x26 w5 fun x27=>Fo 0 p_13 fun x28=>Ld x28 w5 fun x29=>Bp .sub x27 x29 fun x30=>Bp .lss x30 (.int .i64 2) fun x31=>Vif x31 (R (.tuple #[]) w5) (Fo 0 p_13 fun x32=>Ld x32 w5 fun x33=>Fo 2 p_13 fun x34=>Ld x34 w5 fun x35=>Bp .add x33 x35 fun x36=>Bp .quo x36 (.int .i64 2) fun x37=>Dr w5 fun w6=>Nc a0<|Fo 5 a0 fun x38=>Ld x38 w6 fun x39=>Fo 0 p_13 fun x41=>Ld x41 w6 fun x42=>Fo 2 p_13 fun x44=>Ld x44 w6 fun x45=>Bd P 162 #[(0, x42), (1, x37), (2, x45)] w6 fun x47=>Fo 2 p_13 fun x49=>Ld x49 w6 fun x50=>Bd P 162 #[(0, x37), (2, x50)] w6 fun x52=>Fo 0 p_13 fun x54=>Ld x54 w6 fun x55=>Bd P 162 #[(0, x55), (2, x37)] w6 fun x57=>Bs P 160 3 #[(0, x47), (1, x52), (2, x57)] w6 fun x59 w7=>Rk (fun w K=>Ld x38 w fun x40=>K x40) x39 w7<|Ap P #[160, 160] 160 #[x39, x59] w7 fun x60 w8=>Nc a0<|Fo 5 a0 fun x61=>St x61 x60 w8 fun w9=>R (.tuple #[]) w9)
theorem Tie.sorter_Sorter_begin {a0 : Value} (h : Vcf.sorter_Sorter_begin Tryz.prog a0 w R) : Cl Tryz.prog F.sorter_Sorter_begin #[a0] w R :=
  cl_of_vc (n := 65) (rs := []) (h := (.s (.r (.staged [0, 1, 3, 7, 0, 16, 48, 112, 240, 496, 1023, 2047, 0, 8191])) (.s (.r (.staged [0, 0, 2, 6, 14, 0, 32, 96, 224, 480, 992, 2046, 4095, 8191, 16383])) (.s (.s .z (.i .z .z)) (.s .z (.r (.staged [0, 0, 2, 6, 14, 0, 32, 0, 0, 256, 992, 0, 0, 4096, 14336, 0, 32768, 0, 229376, 524256, 1048574, 2097151, 4194303, 8388607]))))))) (args := [a0]) (by kernel_rfl) Tryz.func117 rfl (by kernel_rfl) rfl rfl rfl (Eq.mp (by kernel_rfl) h)

def Vcf.sorter_Sorter_rank (P : Program) (a0 : Value) (w : World) (R : Value → World → Prop) : Prop :=
 Nc a0<|Fo 12 a0 fun x1=>Ld x1 w fun x2=>VJoin 0 (fun _ w1=>Dr w1 fun w2=>Nc a0<|Fo 3 a0 fun x3=>Ld x3 w2 fun x4=>Nc a0<|Fo 1 a0 fun x6=>Ld x6 w2 fun x7=>Ias 1 x7 x2 fun x9=>Ld x9 w2 fun x10=>Nc a0<|Fo 13 a0 fun x12=>Ld x12 w2 fun x13=>Ias 1 x4 x10 fun x15=>St x15 x13 w2 fun w3=>Nc a0<|Fo 12 a0 fun x16=>Ld x16 w3 fun x17=>Bp .add x17 (.int .i64 1) fun x18=>Nc a0<|Fo 12 a0 fun x19=>St x19 x18 w3 fun w4=>Dr w4 fun w5=>Nc a0<|Fo 12 a0 fun x20=>Ld x20 w5 fun x21=>Nc a0<|Fo 1 a0 fun x23=>Ld x23 w5 fun x24=>Lnl x24 fun x26=>Bp .eql x21 x26 fun x28=>Vif x28 (Cl P F.sorter_Sorter_pass #[a0] w5 fun x29 w6=>R (.tuple #[]) w6) (R (.tuple #[]) w5)) (fun J30=>Bp .eql x2 (.int .i64 0) fun x31=>Vif x31 (Nc a0<|Fo 13 a0 fun x32=>St x32 (.int .i64 0) w fun w7=>KE [a0, x2] [a0, x2]<|J30 w7) (Dr w fun w8=>Nc a0<|Fo 1 a0 fun x33=>Ld x33 w8 fun x34=>Ias 1 x34 x2 fun x36=>Ld x36 w8 fun x37=>Nc a0<|Fo 1 a0 fun x39=>Ld x39 w8 fun x40=>Bp .sub x2 (.int .i64 1) fun x42=>Ias 1 x40 x42 fun x43=>Ld x43 w8 fun x44=>Cl P F.sorter_Sorter_above #[a0, x37, x44] w8 fun x46 w9=>Vif x46 (Nc a0<|Fo 13 a0 fun x47=>Ld x47 w9 fun x48=>Bp .add x48 (.int .i64 1) fun x49=>Nc a0<|Fo 13 a0 fun x50=>St x50 x49 w9 fun w10=>KE [a0, x2] [a0, x2]<|J30 w10) (KE [a0, x2] [a0, x2]<|J30 w9)))
theorem Tie.sorter_Sorter_rank {a0 : Value} (h : Vcf.sorter_Sorter_rank Tryz.prog a0 w R) : Cl Tryz.prog F.sorter_Sorter_rank #[a0] w R :=
  cl_of_vc (n := 73) (rs := []) (h := (.s .z (.j [] [0, 2] (.b (.s .z (.i .z (.s (.r (.staged [0, 0, 2, 6, 14, 0, 62, 126, 0, 256, 768, 1792, 0, 4096, 16128, 32512, 65535, 131071])) (.i .z .z))))) (.s (.r (.staged [0, 1, 3, 7, 0, 16, 48, 112, 0, 496, 1008, 0, 2048, 6144, 14336, 32767, 65535])) (.s .z (.s (.r (.staged [0, 1, 3, 7, 0, 16, 48, 112, 240, 511])) (.i .z .z))))))) (args := [a0]) (by kernel_rfl) Tryz.func118 rfl (by kernel_rfl) rfl rfl rfl (Eq.mp (by kernel_rfl) h)

def Vcf.rle_text (P : Program) (a0 : Value) (w : World) (R : Value → World → Prop) : Prop :=
 New a0 124 w fun p_1 w1=>Fo 0 p_1 fun x2=>Ld x2 w1 fun x3=>Bs P 44 1 #[(0, x3)] w1 fun x4 w2=>Cw P 44 9 x4 w2 fun x5 w3=>Fo 1 p_1 fun x6=>Ld x6 w3 fun x7=>Bp .lss x7 (.int .i64 4) fun x8=>Vif x8 (Fo 1 p_1 fun x9=>Ld x9 w3 fun x10=>Cl P F.strings_Repeat #[x5, x10] w3 fun x11 w4=>R x11 w4) (Dr w3 fun w5=>Fo 1 p_1 fun x12=>Ld x12 w5 fun x13=>Bp .sub x13 (.int .i64 4) fun x15=>Ci .u8 x15 fun x16=>(Cl P F.strings_Repeat #[x5, (.int .i64 4)] w5 fun x17 w6=>Rk (fun w K=>Ld x12 w fun x14=>K x14) x13 w6<|Bs P 44 1 #[(0, x16)] w6 fun x18 w7=>Cv P 44 9 x18 w7 fun x19=>Bp .add x17 x19 fun x21=>R x21 w7) ∧ (Bs P 44 1 #[(0, x16)] w5 fun x22 w8=>Cv P 44 9 x22 w8 fun x23=>Cl P F.strings_Repeat #[x5, (.int .i64 4)] w8 fun x25 w9=>Rk (fun w K=>Cv P 44 9 x22 w fun x24=>K x24) x23 w9<|Rk (fun w K=>Ld x12 w fun x14=>K x14) x13 w9<|Bp .add x25 x23 fun x26=>R x26 w9))
theorem Tie.rle_text {a0 : Value} (h : Vcf.rle_text Tryz.prog a0 w R) : Cl Tryz.prog F.rle_text #[a0] w R :=
  cl_of_vc (n := 24) (rs := [(.tmp 2)]) (h := (.s .z (.s .z (.s (.s .z (.i (.s .z .z) .z)) (.s (.r (.tree [0, 1, 0, 4, 12, 28, 60, 124, 255, 511] (.op 0 (.op 2 (.op 3 (.op 4 (.op 5 (.fk (.op 1 (.op 6 (.op 7 (.op 8 (.op 9 .dn))))) (.op 6 (.op 7 (.op 1 (.op 8 (.op 9 .dn))))))))))))) .z))))) (args := [a0]) (by kernel_rfl) Tryz.func125 rfl (by kernel_rfl) rfl rfl rfl (Eq.mp (by kernel_rfl) h)

def Vcf.crc_step (P : Program) (a0 a1 a2 : Value) (w : World) (R : Value → World → Prop) : Prop :=
 Bp .shl a1 (.int .u64 8) fun x1=>Bp .shr a1 (.int .u64 24) fun x2=>Ci .u8 x2 fun x3=>Bp .xor x3 a2 fun x4=>Nc a0<|Iaa 256 1 a0 x4 fun x5=>Ld x5 w fun x6=>Bp .xor x1 x6 fun x7=>R x7 w
theorem Tie.crc_step {a0 a1 a2 : Value} (h : Vcf.crc_step Tryz.prog a0 a1 a2 w R) : Cl Tryz.prog F.crc_step #[a0, a1, a2] w R :=
  cl_of_vc (n := 19) (rs := [(.tmp 6)]) (h := (.s .z (.s .z .z))) (args := [a0, a1, a2]) (by kernel_rfl) Tryz.func126 rfl (by kernel_rfl) rfl rfl rfl (Eq.mp (by kernel_rfl) h)

def Vcf.sorter_Sorter_above (P : Program) (a0 a1 a2 : Value) (w : World) (R : Value → World → Prop) : Prop :=
 Cl P F.sorter_Sorter_key #[a0, a1] w fun x1 w1=>Cl P F.sorter_Sorter_key #[a0, a2] w1 fun x2 w2=>New (zeroP P 217) 217 w2 fun k_3 w3=>New (zeroP P 217) 217 w3 fun l_4 w4=>StA 2 k_3 x1 w4 fun w5=>StA 2 l_4 x2 w5 fun w6=>Iaa 2 1 k_3 (.int .i64 0) fun x5=>Ld x5 w6 fun x6=>Iaa 2 1 l_4 (.int .i64 0) fun x7=>Ld x7 w6 fun x8=>Bp .gtr x6 x8 fun x9=>Vif x9 (R (.bool true) w6) (Iaa 2 1 k_3 (.int .i64 0) fun x10=>Ld x10 w6 fun x11=>Iaa 2 1 l_4 (.int .i64 0) fun x12=>Ld x12 w6 fun x13=>Bp .eql x11 x13 fun x14=>Vif x14 (Iaa 2 1 k_3 (.int .i64 1) fun x15=>Ld x15 w6 fun x16=>Iaa 2 1 l_4 (.int .i64 1) fun x17=>Ld x17 w6 fun x18=>Bp .gtr x16 x18 fun x19=>R x19 w6) (R (.bool false) w6))
theorem Tie.sorter_Sorter_above {a0 a1 a2 : Value} (h : Vcf.sorter_Sorter_above Tryz.prog a0 a1 a2 w R) : Cl Tryz.prog F.sorter_Sorter_above #[a0, a1, a2] w R :=
  cl_of_vc (n := 34) (rs := [(.tmp 6)]) (h := (.s .z (.s .z (.s .z .z)))) (args := [a0, a1, a2]) (by kernel_rfl) Tryz.func127 rfl (by kernel_rfl) rfl rfl rfl (Eq.mp (by kernel_rfl) h)

def Vcf.sorter_Sorter_pass (P : Program) (a0 : Value) (w : World) (R : Value → World → Prop) : Prop :=
 Nc a0<|Fo 2 a0 fun x1=>Ld x1 w fun x2=>Nc a0<|Fo 3 a0 fun x3=>Ld x3 w fun x4=>Nc a0<|Fo 2 a0 fun x5=>St x5 x4 w fun w1=>Nc a0<|Fo 3 a0 fun x6=>St x6 x2 w1 fun w2=>Nc a0<|Fo 12 a0 fun x7=>St x7 (.int .i64 0) w2 fun w3=>VJoin 1 (fun _ x8 w4=>Vif x8 (Nc a0<|Fo 15 a0 fun x9=>St x9 (.bool true) w4 fun w5=>R (.tuple #[]) w5) (Nc a0<|Fo 4 a0 fun x10=>Ld x10 w4 fun x11=>Bp .mul (.int .i64 2) x11 fun x12=>Bmax P #[3, 3] 3 #[(.int .i64 1), x12] w4 fun x13=>Nc a0<|Fo 4 a0 fun x14=>St x14 x13 w4 fun w6=>Dr w6 fun w7=>Nc a0<|Fo 5 a0 fun x15=>Ld x15 w7 fun x16=>Nc a0<|Fo 1 a0 fun x18=>Ld x18 w7 fun x19=>Lnl x19 fun x21=>Bd P 162 #[(0, (.int .i64 0)), (2, x21)] w7 fun x23=>Bs P 160 1 #[(0, x23)] w7 fun x25 w8=>Rk (fun w K=>Ld x15 w fun x17=>K x17) x16 w8<|Ap P #[160, 160] 160 #[x16, x25] w8 fun x26 w9=>Nc a0<|Fo 5 a0 fun x27=>St x27 x26 w9 fun w10=>R (.tuple #[]) w10)) (fun J28=>Dr w3 fun w11=>Nc a0<|Fo 13 a0 fun x29=>Ld x29 w11 fun x30=>Nc a0<|Fo 1 a0 fun x32=>Ld x32 w11 fun x33=>Lnl x33 fun x35=>Bp .sub x35 (.int .i64 1) fun x37=>Bp .eql x30 x37 fun x38=>Vif x38 (KE [a0] [a0]<|J28 (.bool true) w11) (Nc a0<|Fo 4 a0 fun x39=>Ld x39 w11 fun x40=>Nc a0<|Fo 1 a0 fun x42=>Ld x42 w11 fun x43=>Lnl x43 fun x45=>Bp .geq x40 x45 fun x47=>KE [a0] [a0]<|J28 x47 w11))
theorem Tie.sorter_Sorter_pass {a0 : Value} (h : Vcf.sorter_Sorter_pass Tryz.prog a0 w R) : Cl Tryz.prog F.sorter_Sorter_pass #[a0] w R :=
  cl_of_vc (n := 71) (rs := []) (h := (.s .z (.s .z (.s .z (.s .z (.s (.j [43] [0] (.r (.staged [0, 1, 3, 7, 0, 16, 48, 112, 240, 496, 1023, 2047, 4095, 8191, 16383, 32767, 4095, 69631, 200703, 462847, 987135, 2097151, 4194303])) (.i (.s .z .z) .z)) (.s .z (.r (.staged [0, 0, 2, 6, 14, 0, 32, 96, 224, 480, 992, 2016, 4094, 8191, 16383, 32767]))))))))) (args := [a0]) (by kernel_rfl) Tryz.func128 rfl (by kernel_rfl) rfl rfl rfl (Eq.mp (by kernel_rfl) h)

def Vcf.used_listed (P : Program) (a0 : Value) (w : World) (R : Value → World → Prop) : Prop :=
 New a0 193 w fun there_1 w1=>LdA 256 there_1 w1 fun x2=>VLoop 2 [(.slice none 0 0), (.int .i64 0)] w1 fun _ next5 out_3 x4 w2=>Bp .lss x4 (.int .i64 256) fun x6=>Vif x6 (Ixa 256 1 false x2 x4 fun x7=>Vif x7 (Ci .u8 x4 fun x8=>Bs P 44 1 #[(0, x8)] w2 fun x9 w3=>Ap P #[44, 44] 44 #[out_3, x9] w3 fun x10 w4=>Bp .add x4 (.int .i64 1) fun x11=>KE [x2] [x2]<|next5 x10 x11 w4) (Bp .add x4 (.int .i64 1) fun x12=>KE [x2] [x2]<|next5 out_3 x12 w2)) (Cw P 44 9 out_3 w2 fun x13 w5=>R x13 w5)
theorem Tie.used_listed {a0 : Value} (h : Vcf.used_listed Tryz.prog a0 w R) : Cl Tryz.prog F.used_listed #[a0] w R :=
  cl_of_vc (n := 20) (rs := [(.tmp 2)]) (h := (.s .z (.s .z (.s (.s .z (.b (.l [3, 7] [6] (.s .z (.s (.i .z .z) (.s (.b (.s .z (.s .z (.i .z .z)))) .z)))))) (.s .z .z))))) (args := [a0]) (by kernel_rfl) Tryz.func129 rfl (by kernel_rfl) rfl rfl rfl (Eq.mp (by kernel_rfl) h)

def Vcf.mtf_New (P : Program) (a0 : Value) (w : World) (R : Value → World → Prop) : Prop :=
 Cl P F.used_Is #[a0] w fun x1 w1=>Up .not x1 fun x2=>Vif x2 (R (.tuple #[(.pointer none), (.int .i64 1)]) w1) (Cw P 9 44 a0 w1 fun x3 w2=>Bd P 220 #[(0, x3)] w2 fun x4=>New x4 220 w2 fun x5 w3=>R (.tuple #[x5, (.int .i64 0)]) w3)
theorem Tie.mtf_New {a0 : Value} (h : Vcf.mtf_New Tryz.prog a0 w R) : Cl Tryz.prog F.mtf_New #[a0] w R :=
  cl_of_vc (n := 11) (rs := [(.tmp 2), (.tmp 3)]) (h := (.s .z (.s (.s .z (.i (.s .z .z) .z)) (.s .z .z)))) (args := [a0]) (by kernel_rfl) Tryz.func130 rfl (by kernel_rfl) rfl rfl rfl (Eq.mp (by kernel_rfl) h)

def Vcf.zeros_may (P : Program) (a0 : Value) (w : World) (R : Value → World → Prop) : Prop :=
 Bp .geq a0 (.int .i64 1) fun x1=>Vif x1 (Bp .leq a0 (.int .i64 256) fun x2=>R x2 w) (R (.bool false) w)
theorem Tie.zeros_may {a0 : Value} (h : Vcf.zeros_may Tryz.prog a0 w R) : Cl Tryz.prog F.zeros_may #[a0] w R :=
  cl_of_vc (n := 9) (rs := [(.tmp 2)]) (h := (.s .z (.s .z .z))) (args := [a0]) (by kernel_rfl) Tryz.func132 rfl (by kernel_rfl) rfl rfl rfl (Eq.mp (by kernel_rfl) h)

def Vcf.used_Is (P : Program) (a0 : Value) (w : World) (R : Value → World → Prop) : Prop :=
 Lns a0 fun x1=>VLoop 1 [(.int .i64 0)] w fun _ next3 x2 w1=>Bp .lss x2 x1 fun x4=>Vif x4 (VJoin 1 (fun _ x5 w2=>Vif x5 (R (.bool false) w2) (Bp .add x2 (.int .i64 1) fun x6=>KE [a0, x1] [a0, x1]<|next3 x6 w2)) (fun J7=>Dr w1 fun w3=>Bp .gtr x2 (.int .i64 0) fun x8=>Vif x8 (Ixs a0 x2 fun x9=>Bp .sub x2 (.int .i64 1) fun x10=>Ixs a0 x10 fun x11=>Bp .leq x9 x11 fun x12=>KE [a0, x1, x2] [a0, x1, x2]<|J7 x12 w3) (KE [a0, x1, x2] [a0, x1, x2]<|J7 (.bool false) w3))) (Bp .neq a0 (.string ⟨#[]⟩) fun x13=>R x13 w1)
theorem Tie.used_Is {a0 : Value} (h : Vcf.used_Is Tryz.prog a0 w R) : Cl Tryz.prog F.used_Is #[a0] w R :=
  cl_of_vc (n := 24) (rs := [(.tmp 2)]) (h := (.s .z (.s (.s .z (.b (.l [6] [0, 5] (.s .z (.s (.i .z .z) (.s (.b (.s .z (.j [20] [0, 5, 6] (.r (.staged [0, 1, 3, 7, 7, 31, 7, 7, 135, 455, 1023, 2047])) (.i (.s .z .z) .z)))) .z)))))) (.s .z .z)))) (args := [a0]) (by kernel_rfl) Tryz.func138 rfl (by kernel_rfl) rfl rfl rfl (Eq.mp (by kernel_rfl) h)

def Vcf.canon_New (P : Program) (a0 : Value) (w : World) (R : Value → World → Prop) : Prop :=
 VJoin 1 (fun _ x1 w1=>Vif x1 (R (.tuple #[(.pointer none), (.int .i64 1)]) w1) (Cl P F.canon_whole #[a0] w1 fun x2 w2=>Up .not x2 fun x3=>Vif x3 (R (.tuple #[(.pointer none), (.int .i64 22)]) w2) (VJoin 1 (fun _ c_4 w3=>VLoop 2 [(.int .i64 0), (.int .i64 1)] w3 fun _ next7 next_5 n_6 w4=>Bp .leq n_6 (.int .i64 20) fun x8=>Vif x8 (Bp .mul next_5 (.int .i64 2) fun x9=>Nc c_4<|Fo 3 c_4 fun x10=>Iaa 21 1 x10 n_6 fun x11=>St x11 x9 w4 fun w5=>Dr w5 fun w6=>Nc c_4<|Fo 2 c_4 fun x12=>Ld x12 w6 fun x13=>Lnl x13 fun x15=>Nc c_4<|Fo 24 c_4 fun x17=>Iaa 22 1 x17 n_6 fun x18=>St x18 x15 w6 fun w7=>Lnl a0 fun x19=>VLoop 2 [x9, (.int .i64 0)] w7 fun _ next22 next_20 x21 w8=>Bp .lss x21 x19 fun x23=>Vif x23 (Ias 1 a0 x21 fun x24=>Ld x24 w8 fun x25=>Bp .eql x25 n_6 fun x26=>Vif x26 (Nc c_4<|Fo 1 c_4 fun x27=>Ld x27 w8 fun x28=>Ci .u32 next_20 fun x29=>Ias 1 x28 x21 fun x30=>St x30 x29 w8 fun w9=>Nc c_4<|Fo 2 c_4 fun x31=>Ld x31 w9 fun x32=>Bs P 152 1 #[(0, x21)] w9 fun x33 w10=>Ap P #[152, 152] 152 #[x32, x33] w10 fun x34 w11=>Nc c_4<|Fo 2 c_4 fun x35=>St x35 x34 w11 fun w12=>Bp .add next_20 (.int .i64 1) fun x36=>Bp .add x21 (.int .i64 1) fun x37=>KE [a0, c_4, n_6, a0, x19] [a0, c_4, n_6, a0, x19]<|next22 x36 x37 w12) (Bp .add x21 (.int .i64 1) fun x38=>KE [a0, c_4, n_6, a0, x19] [a0, c_4, n_6, a0, x19]<|next22 next_20 x38 w8)) (Bp .add n_6 (.int .i64 1) fun x39=>KE [a0, c_4] [a0, c_4]<|next7 next_20 x39 w8)) (Dr w4 fun w13=>Nc c_4<|Fo 2 c_4 fun x40=>Ld x40 w13 fun x41=>Lnl x41 fun x43=>Nc c_4<|Fo 24 c_4 fun x45=>Iaa 22 1 x45 (.int .i64 21) fun x46=>St x46 x43 w13 fun w14=>R (.tuple #[c_4, (.int .i64 0)]) w14)) (fun J47=>Dr w2 fun w15=>(Cl P F.slices_Clone_int_int #[a0] w15 fun x48 w16=>Lnl a0 fun x49=>Rk (fun w K=>Lnl a0 fun x50=>K x50) x49 w15<|Ms P 229 x49 x49 w16 fun x52 w17=>Bd P 233 #[(0, x48), (1, x52)] w17 fun x53=>New x53 233 w17 fun x55 w18=>KE [a0] [a0]<|J47 x55 w18) ∧ (Lnl a0 fun x56=>Ms P 229 x56 x56 w15 fun x58 w19=>Cl P F.slices_Clone_int_int #[a0] w19 fun x59 w20=>Rk (fun w K=>Lnl a0 fun x57=>K x57) x56 w20<|Bd P 233 #[(0, x59), (1, x58)] w20 fun x60=>New x60 233 w20 fun x62 w21=>KE [a0] [a0]<|J47 x62 w21))))) (fun J63=>Lnl a0 fun x64=>Bp .lss x64 (.int .i64 3) fun x65=>Vif x65 (KE [a0] [a0]<|J63 (.bool true) w) (Lnl a0 fun x66=>Bp .gtr x66 (.int .i64 258) fun x67=>KE [a0] [a0]<|J63 x67 w))
theorem Tie.canon_New {a0 : Value} (h : Vcf.canon_New Tryz.prog a0 w R) : Cl Tryz.prog F.canon_New #[a0] w R :=
  cl_of_vc (n := 92) (rs := [(.tmp 2), (.tmp 3)]) (h := (.s .z (.s (.b (.j [9] [0] .z (.i (.s .z .z) (.s .z (.i (.s .z .z) .z))))) (.j [4] [0] (.r (.two [0, 1, 0, 4, 12, 31, 63, 127] 1 4 [0, 1, 2, 3, 4, 5, 6, 7] [0, 2, 3, 4, 1, 5, 6, 7])) (.s .z (.s (.s .z (.b (.l [5, 6] [0, 4] (.s (.s .z (.i .z .z)) (.s (.b (.s .z (.s .z (.s (.r (.staged [0, 0, 0, 4, 12, 28, 60, 1, 129, 511, 1023])) (.s .z (.b (.l [5, 53] [0, 4, 6, 51, 52] (.s .z (.s (.i .z .z) (.s (.b (.s .z (.s .z (.i (.s .z (.s .z .z)) .z)))) .z)))))))))) .z))))) (.s (.r (.staged [0, 0, 2, 6, 14, 30, 1, 65, 255, 511])) (.s .z .z)))))))) (args := [a0]) (by kernel_rfl) Tryz.func142 rfl (by kernel_rfl) rfl rfl rfl (Eq.mp (by kernel_rfl) h)

def Vcf.sorter_Sorter_key (P : Program) (a0 a1 : Value) (w : World) (R : Value → World → Prop) : Prop :=
 New (zeroP P 217) 217 w fun x1 w1=>Nc a0<|Fo 4 a0 fun x2=>Ld x2 w1 fun x3=>Bp .eql x3 (.int .i64 0) fun x4=>Vif x4 (Nc a0<|Fo 0 a0 fun x5=>Ld x5 w1 fun x6=>Ixs x6 a1 fun x7=>Ci .i64 x7 fun x8=>Bd P 217 #[(0, x8), (1, (.int .i64 0))] w1 fun x9=>StA 2 x1 x9 w1 fun w2=>LdA 2 x1 w2 fun x10=>R x10 w2) (Dr w1 fun w3=>Nc a0<|Fo 2 a0 fun x11=>Ld x11 w3 fun x12=>Ias 1 x12 a1 fun x14=>Ld x14 w3 fun x15=>Nc a0<|Fo 2 a0 fun x17=>Ld x17 w3 fun x18=>Nc a0<|Fo 4 a0 fun x20=>Ld x20 w3 fun x21=>Bp .add a1 x21 fun x23=>Nc a0<|Fo 0 a0 fun x24=>Ld x24 w3 fun x25=>Lns x25 fun x27=>Bp .rem x23 x27 fun x29=>Ias 1 x18 x29 fun x30=>Ld x30 w3 fun x31=>Bd P 217 #[(0, x15), (1, x31)] w3 fun x33=>StA 2 x1 x33 w3 fun w4=>LdA 2 x1 w4 fun x35=>R x35 w4)
theorem Tie.sorter_Sorter_key {a0 a1 : Value} (h : Vcf.sorter_Sorter_key Tryz.prog a0 a1 w R) : Cl Tryz.prog F.sorter_Sorter_key #[a0, a1] w R :=
  cl_of_vc (n := 44) (rs := [(.cell 4 217)]) (h := (.s .z (.s (.s .z (.i (.s .z .z) .z)) (.s (.r (.staged [0, 1, 3, 7, 0, 31, 63, 0, 128, 384, 896, 0, 0, 4096, 12288, 28672, 63488, 0, 131072, 393216, 917504, 1966080, 4192256, 8388480, 16777088, 33554431, 67108863])) .z)))) (args := [a0, a1]) (by kernel_rfl) Tryz.func145 rfl (by kernel_rfl) rfl rfl rfl (Eq.mp (by kernel_rfl) h)

def Vcf.mtf_List_touch (P : Program) (a0 a1 : Value) (w : World) (R : Value → World → Prop) : Prop :=
 Nc a0<|Fo 0 a0 fun x1=>Ld x1 w fun x2=>Ias 1 x2 a1 fun x3=>Ld x3 w fun x4=>Dr w fun w1=>Nc a0<|Fo 0 a0 fun x5=>Ld x5 w1 fun x6=>Bp .add a1 (.int .i64 1) fun x8=>Ssl 1 x6 (some (.int .i64 1)) (some x8) fun x9=>Nc a0<|Fo 0 a0 fun x11=>Ld x11 w1 fun x12=>Ssl 1 x12 none (some a1) fun x14=>Cp P #[44, 44] 3 #[x9, x14] w1 fun x16 w2=>Nc a0<|Fo 0 a0 fun x17=>Ld x17 w2 fun x18=>Ias 1 x18 (.int .i64 0) fun x19=>St x19 x4 w2 fun w3=>R x4 w3
theorem Tie.mtf_List_touch {a0 a1 : Value} (h : Vcf.mtf_List_touch Tryz.prog a0 a1 w R) : Cl Tryz.prog F.mtf_List_touch #[a0, a1] w R :=
  cl_of_vc (n := 34) (rs := [(.tmp 4)]) (h := (.s .z (.s .z (.s (.r (.staged [0, 1, 3, 7, 0, 16, 63, 0, 128, 384, 896, 0, 3968, 8191])) (.s .z (.s .z .z)))))) (args := [a0, a1]) (by kernel_rfl) Tryz.func147 rfl (by kernel_rfl) rfl rfl rfl (Eq.mp (by kernel_rfl) h)

def Vcf.slices_Index_int_int (P : Program) (a0 a1 : Value) (w : World) (R : Value → World → Prop) : Prop :=
 Lnl a0 fun x1=>VLoop 1 [(.int .i64 0)] w fun _ next3 x2 w1=>Bp .lss x2 x1 fun x4=>Vif x4 (Ias 1 a0 x2 fun x5=>Ld x5 w1 fun x6=>Bp .eql a1 x6 fun x7=>Vif x7 (R x2 w1) (Bp .add x2 (.int .i64 1) fun x8=>KE [a0, a1, x1] [a0, a1, x1]<|next3 x8 w1)) (R (.int .i64 (-1)) w1)
theorem Tie.slices_Index_int_int {a0 a1 : Value} (h : Vcf.slices_Index_int_int Tryz.prog a0 a1 w R) : Cl Tryz.prog F.slices_Index_int_int #[a0, a1] w R :=
  cl_of_vc (n := 19) (rs := [(.tmp 4)]) (h := (.s .z (.s (.s .z (.b (.l [8] [0, 1, 7] (.s .z (.s (.i .z .z) (.s (.b (.s .z (.s .z (.i (.s .z .z) .z)))) .z)))))) (.s .z .z)))) (args := [a0, a1]) (by kernel_rfl) Tryz.func148 rfl (by kernel_rfl) rfl rfl rfl (Eq.mp (by kernel_rfl) h)

def Vcf.canon_whole (P : Program) (a0 : Value) (w : World) (R : Value → World → Prop) : Prop :=
 Cl P F.lens_Share #[a0] w fun x1 w1=>Ex x1 0 fun x2=>Ex x1 1 fun x3=>Bp .eql x3 (.int .i64 0) fun x4=>Vif x4 (Bp .eql x2 (.int .i64 1048576) fun x5=>Vif x5 (Cl P F.slices_Contains_int_int #[a0, (.int .i64 0)] w1 fun x6 w2=>Up .not x6 fun x7=>R x7 w2) (R (.bool false) w1)) (R (.bool false) w1)
theorem Tie.canon_whole {a0 : Value} (h : Vcf.canon_whole Tryz.prog a0 w R) : Cl Tryz.prog F.canon_whole #[a0] w R :=
  cl_of_vc (n := 21) (rs := [(.tmp 2)]) (h := (.s .z (.s .z (.s .z .z)))) (args := [a0]) (by kernel_rfl) Tryz.func159 rfl (by kernel_rfl) rfl rfl rfl (Eq.mp (by kernel_rfl) h)

def Vcf.picks_tabled (P : Program) (a0 : Value) (w : World) (R : Value → World → Prop) : Prop :=
 Bp .geq a0 (.int .i64 2) fun x1=>Vif x1 (Bp .leq a0 (.int .i64 6) fun x2=>R x2 w) (R (.bool false) w)
theorem Tie.picks_tabled {a0 : Value} (h : Vcf.picks_tabled Tryz.prog a0 w R) : Cl Tryz.prog F.picks_tabled #[a0] w R :=
  cl_of_vc (n := 9) (rs := [(.tmp 2)]) (h := (.s .z (.s .z .z))) (args := [a0]) (by kernel_rfl) Tryz.func172 rfl (by kernel_rfl) rfl rfl rfl (Eq.mp (by kernel_rfl) h)

def Vcf.slices_ContainsFunc_int_int (P : Program) (a0 a1 : Value) (w : World) (R : Value → World → Prop) : Prop :=
 Cl P F.slices_IndexFunc_int_int #[a0, a1] w fun x1 w1=>Bp .geq x1 (.int .i64 0) fun x2=>R x2 w1
theorem Tie.slices_ContainsFunc_int_int {a0 a1 : Value} (h : Vcf.slices_ContainsFunc_int_int Tryz.prog a0 a1 w R) : Cl Tryz.prog F.slices_ContainsFunc_int_int #[a0, a1] w R :=
  cl_of_vc (n := 9) (rs := [(.tmp 4)]) (h := (.s .z (.s .z .z))) (args := [a0, a1]) (by kernel_rfl) Tryz.func173 rfl (by kernel_rfl) rfl rfl rfl (Eq.mp (by kernel_rfl) h)

def Vcf.picks_fresh (P : Program) (w : World) (R : Value → World → Prop) : Prop :=
 New (zeroP P 253) 253 w fun x1 w1=>New (zeroP P 253) 253 w1 fun o_2 w2=>VLoop 1 [(.int .i64 0)] w2 fun _ next4 x3 w3=>Bp .lss x3 (.int .i64 6) fun x5=>Vif x5 (Iaa 6 1 o_2 x3 fun x6=>St x6 x3 w3 fun w4=>Bp .add x3 (.int .i64 1) fun x7=>KE [x1, o_2] [x1, o_2]<|next4 x7 w4) (LdA 6 o_2 w3 fun x8=>StA 6 x1 x8 w3 fun w5=>LdA 6 x1 w5 fun x9=>R x9 w5)
theorem Tie.picks_fresh (h : Vcf.picks_fresh Tryz.prog w R) : Cl Tryz.prog F.picks_fresh #[] w R :=
  cl_of_vc (n := 11) (rs := [(.cell 0 253)]) (h := (.s .z (.s .z (.s (.s .z (.b (.l [3] [0, 1] (.s .z (.s (.i .z .z) (.s (.b (.s .z .z)) .z)))))) (.s .z .z))))) (args := []) (by kernel_rfl) Tryz.func175 rfl (by kernel_rfl) rfl rfl rfl (Eq.mp (by kernel_rfl) h)

def Vcf.delta_sized (P : Program) (a0 : Value) (w : World) (R : Value → World → Prop) : Prop :=
 Bp .geq a0 (.int .i64 3) fun x1=>Vif x1 (Bp .leq a0 (.int .i64 258) fun x2=>R x2 w) (R (.bool false) w)
theorem Tie.delta_sized {a0 : Value} (h : Vcf.delta_sized Tryz.prog a0 w R) : Cl Tryz.prog F.delta_sized #[a0] w R :=
  cl_of_vc (n := 9) (rs := [(.tmp 2)]) (h := (.s .z (.s .z .z))) (args := [a0]) (by kernel_rfl) Tryz.func177 rfl (by kernel_rfl) rfl rfl rfl (Eq.mp (by kernel_rfl) h)

def Vcf.delta_length (P : Program) (a0 : Value) (w : World) (R : Value → World → Prop) : Prop :=
 Bp .geq a0 (.int .i64 1) fun x1=>Vif x1 (Bp .leq a0 (.int .i64 20) fun x2=>R x2 w) (R (.bool false) w)
theorem Tie.delta_length {a0 : Value} (h : Vcf.delta_length Tryz.prog a0 w R) : Cl Tryz.prog F.delta_length #[a0] w R :=
  cl_of_vc (n := 9) (rs := [(.tmp 2)]) (h := (.s .z (.s .z .z))) (args := [a0]) (by kernel_rfl) Tryz.func179 rfl (by kernel_rfl) rfl rfl rfl (Eq.mp (by kernel_rfl) h)

def Vcf.lens_Share (P : Program) (a0 : Value) (w : World) (R : Value → World → Prop) : Prop :=
 VJoin 1 (fun _ x1 w1=>Vif x1 (R (.tuple #[(.int .i64 0), (.int .i64 1)]) w1) (Lnl a0 fun x2=>VLoop 2 [(.int .i64 0), (.int .i64 0)] w1 fun _ next5 n_3 x4 w2=>Bp .lss x4 x2 fun x6=>Vif x6 (Ias 1 a0 x4 fun x7=>Ld x7 w2 fun x8=>Bp .sub (.int .i64 20) x8 fun x9=>Bp .shl (.int .i64 1) x9 fun x10=>Bp .add n_3 x10 fun x11=>Bp .add x4 (.int .i64 1) fun x12=>KE [a0, x2] [a0, x2]<|next5 x11 x12 w2) (R (.tuple #[n_3, (.int .i64 0)]) w2))) (fun J13=>Lnl a0 fun x14=>Bp .gtr x14 (.int .i64 258) fun x15=>Vif x15 (KE [a0] [a0]<|J13 (.bool true) w) (Cl P F.lens_between #[a0, (.int .i64 0), (.int .i64 20)] w fun x16 w3=>Up .not x16 fun x17=>KE [a0] [a0]<|J13 x17 w3))
theorem Tie.lens_Share {a0 : Value} (h : Vcf.lens_Share Tryz.prog a0 w R) : Cl Tryz.prog F.lens_Share #[a0] w R :=
  cl_of_vc (n := 28) (rs := [(.tmp 2), (.tmp 3)]) (h := (.s .z (.s (.j [14] [0] .z (.i (.s .z .z) .z)) (.s .z (.s (.s .z (.b (.l [4, 17] [15, 16] (.s .z (.s (.i .z .z) (.s (.b (.s .z .z)) .z)))))) (.s .z .z)))))) (args := [a0]) (by kernel_rfl) Tryz.func183 rfl (by kernel_rfl) rfl rfl rfl (Eq.mp (by kernel_rfl) h)

def Vcf.slices_Contains_int_int (P : Program) (a0 a1 : Value) (w : World) (R : Value → World → Prop) : Prop :=
 Cl P F.slices_Index_int_int #[a0, a1] w fun x1 w1=>Bp .geq x1 (.int .i64 0) fun x2=>R x2 w1
theorem Tie.slices_Contains_int_int {a0 a1 : Value} (h : Vcf.slices_Contains_int_int Tryz.prog a0 a1 w R) : Cl Tryz.prog F.slices_Contains_int_int #[a0, a1] w R :=
  cl_of_vc (n := 9) (rs := [(.tmp 4)]) (h := (.s .z (.s .z .z))) (args := [a0, a1]) (by kernel_rfl) Tryz.func184 rfl (by kernel_rfl) rfl rfl rfl (Eq.mp (by kernel_rfl) h)

def Vcf.slices_IndexFunc_int_int (P : Program) (a0 a1 : Value) (w : World) (R : Value → World → Prop) : Prop :=
 Lnl a0 fun x1=>VLoop 1 [(.int .i64 0)] w fun _ next3 x2 w1=>Bp .lss x2 x1 fun x4=>Vif x4 (Ias 1 a0 x2 fun x5=>Ld x5 w1 fun x6=>Inv P (do let d ← Deferred.ofValue a1 #[x6]; invoke d.target d.args) w1 fun x7 w2=>Vif x7 (R x2 w2) (Bp .add x2 (.int .i64 1) fun x8=>KE [a0, a1, x1] [a0, a1, x1]<|next3 x8 w2)) (R (.int .i64 (-1)) w1)
theorem Tie.slices_IndexFunc_int_int {a0 a1 : Value} (h : Vcf.slices_IndexFunc_int_int Tryz.prog a0 a1 w R) : Cl Tryz.prog F.slices_IndexFunc_int_int #[a0, a1] w R :=
  cl_of_vc (n := 19) (rs := [(.tmp 4)]) (h := (.s .z (.s (.s .z (.b (.l [8] [0, 1, 7] (.s .z (.s (.i .z .z) (.s (.b (.s .z (.s .z (.i (.s .z .z) .z)))) .z)))))) (.s .z .z)))) (args := [a0, a1]) (by kernel_rfl) Tryz.func194 rfl (by kernel_rfl) rfl rfl rfl (Eq.mp (by kernel_rfl) h)

def Vcf.picks_order_touch (P : Program) (a0 a1 : Value) (w : World) (R : Value → World → Prop) : Prop :=
 Nc a0<|Iaa 6 1 a0 a1 fun x1=>Ld x1 w fun x2=>VLoop 1 [a1] w fun _ next4 k_3 w1=>Bp .gtr k_3 (.int .i64 0) fun x5=>Vif x5 (Dr w1 fun w2=>Bp .sub k_3 (.int .i64 1) fun x6=>Nc a0<|Iaa 6 1 a0 x6 fun x7=>Ld x7 w2 fun x8=>Nc a0<|Iaa 6 1 a0 k_3 fun x10=>St x10 x8 w2 fun w3=>Bp .sub k_3 (.int .i64 1) fun x11=>KE [a0, x2] [a0, x2]<|next4 x11 w3) (Nc a0<|Iaa 6 1 a0 (.int .i64 0) fun x12=>St x12 x2 w1 fun w4=>R x2 w4)
theorem Tie.picks_order_touch {a0 a1 : Value} (h : Vcf.picks_order_touch Tryz.prog a0 a1 w R) : Cl Tryz.prog F.picks_order_touch #[a0, a1] w R :=
  cl_of_vc (n := 32) (rs := [(.tmp 4)]) (h := (.s .z (.s .z (.s (.s .z (.b (.l [6] [0, 5] (.s (.s .z (.i .z .z)) (.s (.b (.r (.staged [0, 0, 0, 0, 8, 4, 60, 124, 1, 511, 1023]))) .z))))) (.s .z (.s .z .z)))))) (args := [a0, a1]) (by kernel_rfl) Tryz.func195 rfl (by kernel_rfl) rfl rfl rfl (Eq.mp (by kernel_rfl) h)

def Vcf.lens_between (P : Program) (a0 a1 a2 : Value) (w : World) (R : Value → World → Prop) : Prop :=
 New a1 3 w fun low_1 w1=>New a2 3 w1 fun high_2 w2=>Mf P (.func 204) #[] #[low_1, high_2] w2 fun x3=>Cl P F.slices_ContainsFunc_int_int #[a0, x3] w2 fun x4 w3=>Up .not x4 fun x5=>R x5 w3
theorem Tie.lens_between {a0 a1 a2 : Value} (h : Vcf.lens_between Tryz.prog a0 a1 a2 w R) : Cl Tryz.prog F.lens_between #[a0, a1, a2] w R :=
  cl_of_vc (n := 11) (rs := [(.tmp 6)]) (h := (.s .z (.s .z .z))) (args := [a0, a1, a2]) (by kernel_rfl) Tryz.func198 rfl (by kernel_rfl) rfl rfl rfl (Eq.mp (by kernel_rfl) h)

def Vcf.lens_between_1 (P : Program) (a0 a1 a2 : Value) (w : World) (R : Value → World → Prop) : Prop :=
 Ld a1 w fun x1=>Bp .lss a0 x1 fun x2=>Vif x2 (R (.bool true) w) (Ld a2 w fun x3=>Bp .gtr a0 x3 fun x4=>R x4 w)
theorem Tie.lens_between_1 {a0 a1 a2 : Value} (h : Vcf.lens_between_1 Tryz.prog a0 a1 a2 w R) : Cl Tryz.prog F.lens_between_1 #[a0, a1, a2] w R :=
  cl_of_vc (n := 13) (rs := [(.tmp 4)]) (h := (.s .z (.s .z .z))) (args := [a0, a1, a2]) (by kernel_rfl) Tryz.func204 rfl (by kernel_rfl) rfl rfl rfl (Eq.mp (by kernel_rfl) h)

def Vcf.unpress_Expander_Done (P : Program) (a0 : Value) (w : World) (R : Value → World → Prop) : Prop :=
 Bn P 89 true a0 (.pointer none) fun x1=>Vif x1 (Nc a0<|Fo 8 a0 fun x2=>Ld x2 w fun x3=>R x3 w) (R (.bool false) w)
theorem Tie.unpress_Expander_Done {a0 : Value} (h : Vcf.unpress_Expander_Done Tryz.prog a0 w R) : Cl Tryz.prog F.unpress_Expander_Done #[a0] w R :=
  cl_of_vc (n := 11) (rs := [(.tmp 2)]) (h := (.s .z (.s .z .z))) (args := [a0]) (by kernel_rfl) Tryz.func217 rfl (by kernel_rfl) rfl rfl rfl (Eq.mp (by kernel_rfl) h)

def Vcf.unpress_Expander_End (P : Program) (a0 : Value) (w : World) (R : Value → World → Prop) : Prop :=
 VJoin 1 (fun _ x1 w1=>Vif x1 (R (.int .i64 7) w1) (Nc a0<|Fo 2 a0 fun x2=>St x2 (.bool true) w1 fun w2=>Nc a0<|Fo 6 a0 fun x3=>St x3 (.bool false) w2 fun w3=>R (.int .i64 0) w3)) (fun J4=>Bn P 89 false a0 (.pointer none) fun x5=>Vif x5 (KE [a0] [a0]<|J4 (.bool true) w) (Nc a0<|Fo 2 a0 fun x6=>Ld x6 w fun x7=>KE [a0] [a0]<|J4 x7 w))
theorem Tie.unpress_Expander_End {a0 : Value} (h : Vcf.unpress_Expander_End Tryz.prog a0 w R) : Cl Tryz.prog F.unpress_Expander_End #[a0] w R :=
  cl_of_vc (n := 17) (rs := [(.tmp 2)]) (h := (.s .z (.s (.j [10] [0] .z (.i (.s .z .z) .z)) (.s .z (.s .z (.s .z .z)))))) (args := [a0]) (by kernel_rfl) Tryz.func218 rfl (by kernel_rfl) rfl rfl rfl (Eq.mp (by kernel_rfl) h)

def Vcf.unpress_Expander_Err (P : Program) (a0 : Value) (w : World) (R : Value → World → Prop) : Prop :=
 Bn P 89 false a0 (.pointer none) fun x1=>Vif x1 (R (.int .i64 0) w) (Nc a0<|Fo 9 a0 fun x2=>Ld x2 w fun x3=>R x3 w)
theorem Tie.unpress_Expander_Err {a0 : Value} (h : Vcf.unpress_Expander_Err Tryz.prog a0 w R) : Cl Tryz.prog F.unpress_Expander_Err #[a0] w R :=
  cl_of_vc (n := 9) (rs := [(.tmp 2)]) (h := (.s .z (.s (.s .z (.i (.s .z .z) .z)) (.s .z .z)))) (args := [a0]) (by kernel_rfl) Tryz.func219 rfl (by kernel_rfl) rfl rfl rfl (Eq.mp (by kernel_rfl) h)

def Vcf.unpress_Expander_Feed (P : Program) (a0 a1 : Value) (w : World) (R : Value → World → Prop) : Prop :=
 VJoin 1 (fun _ x1 w1=>Vif x1 (R (.int .i64 0) w1) (Dr w1 fun w2=>Lns a1 fun x2=>Nc a0<|Fo 0 a0 fun x4=>Ld x4 w2 fun x5=>Nc a0<|Fo 3 a0 fun x7=>Ld x7 w2 fun x8=>Cl P F.bits_Reader_Held #[x8] w2 fun x10 w3=>Rk (fun w K=>Ld x4 w fun x6=>K x6) x5 w3<|Rk (fun w K=>Lns a1 fun x3=>K x3) x2 w3<|Bp .sub x5 x10 fun x11=>Bmin P #[3, 3] 3 #[x2, x11] w3 fun x12=>Dr w3 fun w4=>Nc a0<|Fo 3 a0 fun x14=>Ld x14 w4 fun x15=>Sst a1 none (some x12) fun x17=>Cl P F.bits_Reader_More #[x15, x17] w4 fun x19 w5=>Bp .gtr x12 (.int .i64 0) fun x20=>Vif x20 (Nc a0<|Fo 6 a0 fun x21=>St x21 (.bool false) w5 fun w6=>R x12 w6) (R x12 w5))) (fun J22=>Bn P 89 false a0 (.pointer none) fun x23=>Vif x23 (KE [a0, a1] [a0, a1]<|J22 (.bool true) w) (Nc a0<|Fo 2 a0 fun x24=>Ld x24 w fun x25=>Vif x25 (KE [a0, a1] [a0, a1]<|J22 (.bool true) w) (Nc a0<|Fo 8 a0 fun x26=>Ld x26 w fun x27=>KE [a0, a1] [a0, a1]<|J22 x27 w)))
theorem Tie.unpress_Expander_Feed {a0 a1 : Value} (h : Vcf.unpress_Expander_Feed Tryz.prog a0 a1 w R) : Cl Tryz.prog F.unpress_Expander_Feed #[a0, a1] w R :=
  cl_of_vc (n := 47) (rs := [(.tmp 4)]) (h := (.s .z (.s (.j [19] [0, 1] .z (.i (.s .z .z) .z)) (.s (.r (.staged [0, 1, 0, 4, 12, 28, 0, 64, 192, 448, 960, 2044, 4095, 8191])) (.s (.r (.staged [0, 1, 3, 7, 0, 0, 48, 127])) (.s (.s .z (.i .z .z)) (.s .z .z))))))) (args := [a0, a1]) (by kernel_rfl) Tryz.func220 rfl (by kernel_rfl) rfl rfl rfl (Eq.mp (by kernel_rfl) h)

def Vcf.unpress_Expander_Step (P : Program) (a0 a1 : Value) (w : World) (R : Value → World → Prop) : Prop :=
 VLoop 1 [(.int .i64 0)] w fun _ next2 gone_1 w1=>VJoin 1 (fun _ x3 w2=>Vif x3 (Nc a0<|Fo 5 a0 fun x4=>Ld x4 w2 fun x5=>Bn P 283 true x5 (.pointer none) fun x6=>Vif x6 (Cl P F.unpress_Expander_open #[a0] w2 fun x7 w3=>Bp .add gone_1 (.int .i64 1) fun x8=>KE [a0, a1] [a0, a1]<|next2 x8 w3) (Cl P F.unpress_Expander_read #[a0] w2 fun x9 w4=>Up .not x9 fun x10=>Vif x10 (KE [a0, a1] [a0, a1]<|next2 gone_1 w4) (Bp .add gone_1 (.int .i64 1) fun x11=>KE [a0, a1] [a0, a1]<|next2 x11 w4))) (Bn P 89 true a0 (.pointer none) fun x12=>Vif x12 (Nc a0<|Fo 10 a0 fun x13=>Ld x13 w2 fun x14=>Bp .add x14 gone_1 fun x15=>Nc a0<|Fo 10 a0 fun x16=>St x16 x15 w2 fun w5=>R gone_1 w5) (R gone_1 w2))) (fun J17=>Bp .lss gone_1 a1 fun x18=>Vif x18 (Cl P F.unpress_Expander_Stopped #[a0] w1 fun x19 w6=>Up .not x19 fun x20=>KE [a0, a1, gone_1] [a0, a1, gone_1]<|J17 x20 w6) (KE [a0, a1, gone_1] [a0, a1, gone_1]<|J17 (.bool false) w1))
theorem Tie.unpress_Expander_Step {a0 a1 : Value} (h : Vcf.unpress_Expander_Step Tryz.prog a0 a1 w R) : Cl Tryz.prog F.unpress_Expander_Step #[a0, a1] w R :=
  cl_of_vc (n := 37) (rs := [(.tmp 4)]) (h := (.s .z (.s .z (.s (.b (.l [5] [0, 1] (.s (.j [13] [0, 1, 5] .z (.i .z .z)) (.b (.s (.s .z (.i .z (.s .z (.i .z .z)))) .z))))) (.s (.s .z (.i .z .z)) (.s .z .z)))))) (args := [a0, a1]) (by kernel_rfl) Tryz.func222 rfl (by kernel_rfl) rfl rfl rfl (Eq.mp (by kernel_rfl) h)

def Vcf.unpress_Expander_Stopped (P : Program) (a0 : Value) (w : World) (R : Value → World → Prop) : Prop :=
 VJoin 1 (fun _ x1 w1=>Vif x1 (R (.bool true) w1) (Nc a0<|Fo 5 a0 fun x2=>Ld x2 w1 fun x3=>Bn P 283 true x3 (.pointer none) fun x4=>Vif x4 (Dr w1 fun w2=>Nc a0<|Fo 7 a0 fun x5=>Ld x5 w2 fun x6=>Lnl x6 fun x8=>Nc a0<|Fo 1 a0 fun x10=>Ld x10 w2 fun x11=>Bp .geq x8 x11 fun x13=>R x13 w2) (Nc a0<|Fo 6 a0 fun x14=>Ld x14 w1 fun x15=>R x15 w1))) (fun J16=>Bn P 89 false a0 (.pointer none) fun x17=>Vif x17 (KE [a0] [a0]<|J16 (.bool true) w) (Nc a0<|Fo 8 a0 fun x18=>Ld x18 w fun x19=>KE [a0] [a0]<|J16 x19 w))
theorem Tie.unpress_Expander_Stopped {a0 : Value} (h : Vcf.unpress_Expander_Stopped Tryz.prog a0 w R) : Cl Tryz.prog F.unpress_Expander_Stopped #[a0] w R :=
  cl_of_vc (n := 32) (rs := [(.tmp 2)]) (h := (.s .z (.s (.b (.j [3] [0] .z (.i (.s .z .z) (.s .z (.i (.s (.r (.staged [0, 1, 3, 7, 15, 0, 32, 96, 224, 511, 1023])) .z) .z))))) (.s .z .z)))) (args := [a0]) (by kernel_rfl) Tryz.func224 rfl (by kernel_rfl) rfl rfl rfl (Eq.mp (by kernel_rfl) h)

def Vcf.unpress_Expander_Take (P : Program) (a0 a1 : Value) (w : World) (R : Value → World → Prop) : Prop :=
 VJoin 1 (fun _ x1 w1=>Vif x1 (R (.string ⟨#[]⟩) w1) (Nc a0<|Fo 7 a0 fun x2=>Ld x2 w1 fun x3=>Lnl x3 fun x4=>Bmin P #[3, 3] 3 #[a1, x4] w1 fun x5=>Nc a0<|Fo 7 a0 fun x6=>Ld x6 w1 fun x7=>Ssl 1 x7 none (some x5) fun x8=>Cw P 44 9 x8 w1 fun x9 w2=>Nc a0<|Fo 7 a0 fun x10=>Ld x10 w2 fun x11=>Ssl 1 x11 (some x5) none fun x12=>Nc a0<|Fo 7 a0 fun x13=>St x13 x12 w2 fun w3=>R x9 w3)) (fun J14=>Bn P 89 false a0 (.pointer none) fun x15=>Vif x15 (KE [a0, a1] [a0, a1]<|J14 (.bool true) w) (Bp .lss a1 (.int .i64 1) fun x16=>KE [a0, a1] [a0, a1]<|J14 x16 w))
theorem Tie.unpress_Expander_Take {a0 a1 : Value} (h : Vcf.unpress_Expander_Take Tryz.prog a0 a1 w R) : Cl Tryz.prog F.unpress_Expander_Take #[a0, a1] w R :=
  cl_of_vc (n := 37) (rs := [(.tmp 4)]) (h := (.s .z (.s (.j [12] [0, 1] .z (.i (.s .z .z) .z)) (.s .z (.s .z (.s .z (.s .z .z))))))) (args := [a0, a1]) (by kernel_rfl) Tryz.func225 rfl (by kernel_rfl) rfl rfl rfl (Eq.mp (by kernel_rfl) h)

def Vcf.unpress_Expander_Waiting (P : Program) (a0 : Value) (w : World) (R : Value → World → Prop) : Prop :=
 Bn P 89 false a0 (.pointer none) fun x1=>Vif x1 (R (.int .i64 0) w) (Nc a0<|Fo 7 a0 fun x2=>Ld x2 w fun x3=>Lnl x3 fun x4=>R x4 w)
theorem Tie.unpress_Expander_Waiting {a0 : Value} (h : Vcf.unpress_Expander_Waiting Tryz.prog a0 w R) : Cl Tryz.prog F.unpress_Expander_Waiting #[a0] w R :=
  cl_of_vc (n := 10) (rs := [(.tmp 2)]) (h := (.s .z (.s (.s .z (.i (.s .z .z) .z)) (.s .z .z)))) (args := [a0]) (by kernel_rfl) Tryz.func226 rfl (by kernel_rfl) rfl rfl rfl (Eq.mp (by kernel_rfl) h)

def Vcf.unpress_Expander_open (P : Program) (a0 : Value) (w : World) (R : Value → World → Prop) : Prop :=
 Nc a0<|Fo 5 a0 fun x1=>Ld x1 w fun x2=>Cl P F.unpress_opening_step #[x2] w fun x3 w1=>Ex x3 0 fun x4=>Ex x3 1 fun x5=>Nc a0<|Fo 7 a0 fun x6=>Ld x6 w1 fun x7=>Ap P #[44, 9] 44 #[x7, x4] w1 fun x8 w2=>Nc a0<|Fo 7 a0 fun x9=>St x9 x8 w2 fun w3=>Bp .neq x5 (.int .i64 0) fun x10=>Vif x10 (Cl P F.unpress_Expander_fail #[a0, x5] w3 fun x11 w4=>R (.tuple #[]) w4) (Nc a0<|Fo 5 a0 fun x12=>Ld x12 w3 fun x13=>Nc x13<|Fo 3 x13 fun x14=>Ld x14 w3 fun x15=>Cl P F.unbwt_Inverter_Done #[x15] w3 fun x16 w5=>Vif x16 (Nc a0<|Fo 5 a0 fun x17=>St x17 (.pointer none) w5 fun w6=>R (.tuple #[]) w6) (R (.tuple #[]) w5))
theorem Tie.unpress_Expander_open {a0 : Value} (h : Vcf.unpress_Expander_open Tryz.prog a0 w R) : Cl Tryz.prog F.unpress_Expander_open #[a0] w R :=
  cl_of_vc (n := 39) (rs := []) (h := (.s .z (.s .z (.b (.s .z (.i .z (.s .z (.i .z .z)))))))) (args := [a0]) (by kernel_rfl) Tryz.func227 rfl (by kernel_rfl) rfl rfl rfl (Eq.mp (by kernel_rfl) h)

def Vcf.bits_Reader_Held (P : Program) (a0 : Value) (w : World) (R : Value → World → Prop) : Prop :=
 Bn P 118 false a0 (.pointer none) fun x1=>Vif x1 (R (.int .i64 0) w) (Nc a0<|Fo 0 a0 fun x2=>Ld x2 w fun x3=>Lns x3 fun x4=>R x4 w)
theorem Tie.bits_Reader_Held {a0 : Value} (h : Vcf.bits_Reader_Held Tryz.prog a0 w R) : Cl Tryz.prog F.bits_Reader_Held #[a0] w R :=
  cl_of_vc (n := 10) (rs := [(.tmp 2)]) (h := (.s .z (.s (.s .z (.i (.s .z .z) .z)) (.s .z .z)))) (args := [a0]) (by kernel_rfl) Tryz.func228 rfl (by kernel_rfl) rfl rfl rfl (Eq.mp (by kernel_rfl) h)

def Vcf.bits_Reader_More (P : Program) (a0 a1 : Value) (w : World) (R : Value → World → Prop) : Prop :=
 Bn P 118 false a0 (.pointer none) fun x1=>Vif x1 (R (.int .i64 7) w) (Nc a0<|Fo 0 a0 fun x2=>Ld x2 w fun x3=>Bp .add x3 a1 fun x4=>Nc a0<|Fo 0 a0 fun x5=>St x5 x4 w fun w1=>R (.int .i64 0) w1)
theorem Tie.bits_Reader_More {a0 a1 : Value} (h : Vcf.bits_Reader_More Tryz.prog a0 a1 w R) : Cl Tryz.prog F.bits_Reader_More #[a0, a1] w R :=
  cl_of_vc (n := 15) (rs := [(.tmp 4)]) (h := (.s .z (.s (.s .z (.i (.s .z .z) .z)) (.s .z (.s .z .z))))) (args := [a0, a1]) (by kernel_rfl) Tryz.func229 rfl (by kernel_rfl) rfl rfl rfl (Eq.mp (by kernel_rfl) h)

def Vcf.unpress_Expander_read (P : Program) (a0 : Value) (w : World) (R : Value → World → Prop) : Prop :=
 VJoin 1 (fun _ x1 w1=>Vif x1 (Cl P F.unpress_Expander_fail #[a0, (.int .i64 0)] w1 fun x2 w2=>R (.bool true) w2) (Dr w1 fun w3=>Nc a0<|Fo 4 a0 fun x3=>Ld x3 w3 fun x4=>Nc a0<|Fo 3 a0 fun x6=>Ld x6 w3 fun x7=>Cl P F.unstream_Reader_Step #[x4, x7] w3 fun x9 w4=>Ex x9 0 fun x10=>Ex x9 1 fun x11=>Nc a0<|Fo 3 a0 fun x12=>Ld x12 w4 fun x13=>Cl P F.bits_Reader_Drop #[x13] w4 fun x14 w5=>VJoin 1 (fun _ x15 w6=>Vif x15 (Nc a0<|Fo 6 a0 fun x16=>St x16 (.bool true) w6 fun w7=>R (.bool false) w7) (Bp .eql x11 (.int .i64 3) fun x17=>Vif x17 (Cl P F.unpress_Expander_fail #[a0, (.int .i64 24)] w6 fun x18 w8=>R (.bool true) w8) (Bp .neq x11 (.int .i64 0) fun x19=>Vif x19 (Cl P F.unpress_Expander_fail #[a0, x11] w6 fun x20 w9=>R (.bool true) w9) (Bp .eql x10 (.int .i64 1) fun x21=>Vif x21 (Nc a0<|Fo 4 a0 fun x22=>Ld x22 w6 fun x23=>Cl P F.unstream_Reader_Got #[x23] w6 fun x24 w10=>Cl P F.unpress_openingOf #[x24] w10 fun x25 w11=>Nc a0<|Fo 5 a0 fun x26=>St x26 x25 w11 fun w12=>R (.bool true) w12) (R (.bool true) w6))))) (fun J27=>Bp .eql x11 (.int .i64 3) fun x28=>Vif x28 (Nc a0<|Fo 2 a0 fun x29=>Ld x29 w5 fun x30=>Up .not x30 fun x31=>KE [a0, x10, x11] [a0, x10, x11]<|J27 x31 w5) (KE [a0, x10, x11] [a0, x10, x11]<|J27 (.bool false) w5)))) (fun J32=>Nc a0<|Fo 2 a0 fun x33=>Ld x33 w fun x34=>Vif x34 (Nc a0<|Fo 4 a0 fun x35=>Ld x35 w fun x36=>Cl P F.unstream_Reader_MayEnd #[x36] w fun x37 w13=>Vif x37 (Nc a0<|Fo 3 a0 fun x38=>Ld x38 w13 fun x39=>Cl P F.bits_Reader_Left #[x39] w13 fun x40 w14=>Bp .eql x40 (.int .i64 0) fun x41=>KE [a0] [a0]<|J32 x41 w14) (KE [a0] [a0]<|J32 (.bool false) w13)) (KE [a0] [a0]<|J32 (.bool false) w))
theorem Tie.unpress_Expander_read {a0 : Value} (h : Vcf.unpress_Expander_read Tryz.prog a0 w R) : Cl Tryz.prog F.unpress_Expander_read #[a0] w R :=
  cl_of_vc (n := 79) (rs := [(.tmp 2)]) (h := (.s .z (.s (.j [23] [0] .z (.i (.s .z (.s .z .z)) .z)) (.s (.r (.staged [0, 1, 3, 7, 0, 16, 48, 112, 255, 511, 1023, 1023, 2047, 8191])) (.s .z (.s (.b (.j [43] [0, 3, 4] .z (.i (.s .z (.s .z .z)) (.s .z (.i .z (.s .z (.i .z (.s .z (.i .z .z))))))))) (.s .z .z))))))) (args := [a0]) (by kernel_rfl) Tryz.func232 rfl (by kernel_rfl) rfl rfl rfl (Eq.mp (by kernel_rfl) h)

def Vcf.unpress_opening_step (P : Program) (a0 : Value) (w : World) (R : Value → World → Prop) : Prop :=
 Nc a0<|Fo 3 a0 fun x1=>Ld x1 w fun x2=>Cl P F.unbwt_Inverter_Step #[x2, (.int .i64 1)] w fun x3 w1=>Nc a0<|Fo 3 a0 fun x4=>Ld x4 w1 fun x5=>Cl P F.unbwt_Inverter_Take #[x5] w1 fun x6 w2=>Bp .eql x6 (.string ⟨#[]⟩) fun x7=>Vif x7 (R (.tuple #[(.string ⟨#[]⟩), (.int .i64 0)]) w2) (Dr w2 fun w3=>Nc a0<|Fo 4 a0 fun x8=>Ld x8 w3 fun x9=>Ixs x6 (.int .i64 0) fun x11=>Cl P F.feed_Unpacker_Put #[x9, x11] w3 fun x12 w4=>Ex x12 0 fun x13=>Ex x12 1 fun x14=>Bp .neq x14 (.int .i64 0) fun x15=>Vif x15 (R (.tuple #[(.string ⟨#[]⟩), x14]) w4) (Nc a0<|Fo 5 a0 fun x16=>Ld x16 w4 fun x17=>Cl P F.crc_Sum_Text #[x17, x13] w4 fun x18 w5=>Cl P F.unpress_opening_end #[a0] w5 fun x19 w6=>R (.tuple #[x13, x19]) w6))
theorem Tie.unpress_opening_step {a0 : Value} (h : Vcf.unpress_opening_step Tryz.prog a0 w R) : Cl Tryz.prog F.unpress_opening_step #[a0] w R :=
  cl_of_vc (n := 41) (rs := [(.tmp 2), (.tmp 3)]) (h := (.s .z (.s .z (.s .z (.s (.s .z (.i (.s .z .z) .z)) (.s (.r (.staged [0, 1, 3, 7, 0, 16, 63, 127, 255, 255, 511, 2047])) (.s (.s .z (.i (.s .z .z) .z)) (.s .z (.s .z .z))))))))) (args := [a0]) (by kernel_rfl) Tryz.func233 rfl (by kernel_rfl) rfl rfl rfl (Eq.mp (by kernel_rfl) h)

def Vcf.unpress_Expander_fail (P : Program) (a0 a1 : Value) (w : World) (R : Value → World → Prop) : Prop :=
 Nc a0<|Fo 8 a0 fun x1=>St x1 (.bool true) w fun w1=>Nc a0<|Fo 9 a0 fun x2=>St x2 a1 w1 fun w2=>Nc a0<|Fo 5 a0 fun x3=>St x3 (.pointer none) w2 fun w3=>R (.tuple #[]) w3
theorem Tie.unpress_Expander_fail {a0 a1 : Value} (h : Vcf.unpress_Expander_fail Tryz.prog a0 a1 w R) : Cl Tryz.prog F.unpress_Expander_fail #[a0, a1] w R :=
  cl_of_vc (n := 14) (rs := []) (h := (.s .z (.s .z .z))) (args := [a0, a1]) (by kernel_rfl) Tryz.func234 rfl (by kernel_rfl) rfl rfl rfl (Eq.mp (by kernel_rfl) h)

def Vcf.unbwt_Inverter_Done (P : Program) (a0 : Value) (w : World) (R : Value → World → Prop) : Prop :=
 Dr w fun w1=>Bn P 288 true a0 (.pointer none) fun x1=>Vif x1 (Nc a0<|Fo 260 a0 fun x2=>Ld x2 w1 fun x3=>Nc a0<|Fo 0 a0 fun x5=>Ld x5 w1 fun x6=>Lns x6 fun x8=>Bp .mul (.int .i64 3) x8 fun x10=>Bp .eql x3 x10 fun x11=>R x11 w1) (R (.bool false) w1)
theorem Tie.unbwt_Inverter_Done {a0 : Value} (h : Vcf.unbwt_Inverter_Done Tryz.prog a0 w R) : Cl Tryz.prog F.unbwt_Inverter_Done #[a0] w R :=
  cl_of_vc (n := 18) (rs := [(.tmp 2)]) (h := (.s .z (.s (.r (.staged [0, 1, 3, 7, 15, 31, 63, 7, 135, 391, 903, 1927, 3975, 8191, 16383, 32767])) .z))) (args := [a0]) (by kernel_rfl) Tryz.func235 rfl (by kernel_rfl) rfl rfl rfl (Eq.mp (by kernel_rfl) h)

def Vcf.unstream_Reader_MayEnd (P : Program) (a0 : Value) (w : World) (R : Value → World → Prop) : Prop :=
 Bn P 116 true a0 (.pointer none) fun x1=>Vif x1 (Nc a0<|Fo 9 a0 fun x2=>Ld x2 w fun x3=>Vif x3 (Nc a0<|Fo 1 a0 fun x4=>Ld x4 w fun x5=>Bp .eql x5 (.int .i64 0) fun x6=>Vif x6 (Nc a0<|Fo 2 a0 fun x7=>Ld x7 w fun x8=>Bp .eql x8 (.int .i64 0) fun x9=>Vif x9 (Nc a0<|Fo 10 a0 fun x10=>Ld x10 w fun x11=>Bp .eql x11 (.int .i64 0) fun x12=>R x12 w) (R (.bool false) w)) (R (.bool false) w)) (R (.bool false) w)) (R (.bool false) w)
theorem Tie.unstream_Reader_MayEnd {a0 : Value} (h : Vcf.unstream_Reader_MayEnd Tryz.prog a0 w R) : Cl Tryz.prog F.unstream_Reader_MayEnd #[a0] w R :=
  cl_of_vc (n := 32) (rs := [(.tmp 2)]) (h := (.s .z (.s .z .z))) (args := [a0]) (by kernel_rfl) Tryz.func237 rfl (by kernel_rfl) rfl rfl rfl (Eq.mp (by kernel_rfl) h)

def Vcf.bits_Reader_Left (P : Program) (a0 : Value) (w : World) (R : Value → World → Prop) : Prop :=
 Bn P 118 false a0 (.pointer none) fun x1=>Vif x1 (R (.int .i64 0) w) (Dr w fun w1=>Cl P F.bits_Reader_end #[a0] w1 fun x2 w2=>Nc a0<|Fo 2 a0 fun x3=>Ld x3 w2 fun x4=>Rk (fun w K=>Ld x3 w fun x5=>K x5) x4 w1<|Bp .sub x2 x4 fun x7=>R x7 w2)
theorem Tie.bits_Reader_Left {a0 : Value} (h : Vcf.bits_Reader_Left Tryz.prog a0 w R) : Cl Tryz.prog F.bits_Reader_Left #[a0] w R :=
  cl_of_vc (n := 12) (rs := [(.tmp 2)]) (h := (.s .z (.s (.s .z (.i (.s .z .z) .z)) (.s (.r (.staged [0, 1, 0, 4, 12, 28, 63, 127])) .z)))) (args := [a0]) (by kernel_rfl) Tryz.func238 rfl (by kernel_rfl) rfl rfl rfl (Eq.mp (by kernel_rfl) h)

def Vcf.unstream_Reader_Step (P : Program) (a0 a1 : Value) (w : World) (R : Value → World → Prop) : Prop :=
 VJoin 1 (fun _ x1 w1=>Vif x1 (R (.tuple #[(.int .i64 0), (.int .i64 7)]) w1) (Nc a0<|Fo 10 a0 fun x2=>Ld x2 w1 fun x3=>Bp .neq x3 (.int .i64 0) fun x4=>Vif x4 (Dr w1 fun w2=>Nc a0<|Fo 10 a0 fun x5=>Ld x5 w2 fun x6=>R (.tuple #[(.int .i64 0), x6]) w2) (Cl P F.unstream_Reader_step #[a0, a1] w1 fun x8 w3=>Ex x8 0 fun x9=>Ex x8 1 fun x10=>Bp .neq x10 (.int .i64 3) fun x11=>Vif x11 (Nc a0<|Fo 10 a0 fun x12=>St x12 x10 w3 fun w4=>R (.tuple #[x9, x10]) w4) (R (.tuple #[x9, x10]) w3)))) (fun J13=>Bn P 116 false a0 (.pointer none) fun x14=>Vif x14 (KE [a0, a1] [a0, a1]<|J13 (.bool true) w) (Bn P 118 false a1 (.pointer none) fun x15=>KE [a0, a1] [a0, a1]<|J13 x15 w))
theorem Tie.unstream_Reader_Step {a0 a1 : Value} (h : Vcf.unstream_Reader_Step Tryz.prog a0 a1 w R) : Cl Tryz.prog F.unstream_Reader_Step #[a0, a1] w R :=
  cl_of_vc (n := 39) (rs := [(.tmp 4), (.tmp 5)]) (h := (.s .z (.s (.b (.j [8] [0, 1] .z (.i (.s .z .z) (.s .z (.i (.s (.r (.staged [0, 1, 3, 7, 0, 31])) .z) .z))))) (.s .z (.s (.s .z (.i .z .z)) (.s .z .z)))))) (args := [a0, a1]) (by kernel_rfl) Tryz.func239 rfl (by kernel_rfl) rfl rfl rfl (Eq.mp (by kernel_rfl) h)

def Vcf.bits_Reader_Drop (P : Program) (a0 : Value) (w : World) (R : Value → World → Prop) : Prop :=
 Bn P 118 false a0 (.pointer none) fun x1=>Vif x1 (R (.int .i64 0) w) (Dr w fun w1=>Nc a0<|Fo 2 a0 fun x2=>Ld x2 w1 fun x3=>Bp .quo x3 (.int .i64 8) fun x5=>Nc a0<|Fo 1 a0 fun x6=>Ld x6 w1 fun x7=>Bp .sub x5 x7 fun x9=>Nc a0<|Fo 0 a0 fun x10=>Ld x10 w1 fun x11=>Sst x11 (some x9) none fun x12=>Nc a0<|Fo 0 a0 fun x13=>St x13 x12 w1 fun w2=>Nc a0<|Fo 1 a0 fun x14=>Ld x14 w2 fun x15=>Bp .add x15 x9 fun x16=>Nc a0<|Fo 1 a0 fun x17=>St x17 x16 w2 fun w3=>R x9 w3)
theorem Tie.bits_Reader_Drop {a0 : Value} (h : Vcf.bits_Reader_Drop Tryz.prog a0 w R) : Cl Tryz.prog F.bits_Reader_Drop #[a0] w R :=
  cl_of_vc (n := 34) (rs := [(.tmp 2)]) (h := (.s .z (.s (.s .z (.i (.s .z .z) .z)) (.s (.r (.staged [0, 1, 3, 7, 15, 0, 32, 96, 224, 511, 1023])) (.s .z (.s .z (.s .z .z))))))) (args := [a0]) (by kernel_rfl) Tryz.func240 rfl (by kernel_rfl) rfl rfl rfl (Eq.mp (by kernel_rfl) h)

def Vcf.unpress_openingOf (P : Program) (a0 : Value) (w : World) (R : Value → World → Prop) : Prop :=
 New a0 114 w fun g_1 w1=>Fo 0 g_1 fun x2=>Ld x2 w1 fun x3=>Fo 1 g_1 fun x4=>Ld x4 w1 fun x5=>Cl P F.unbwt_New #[x3, x5] w1 fun x6 w2=>Ex x6 0 fun x7=>Ex x6 1 fun x8=>Dr w2 fun w3=>LdA 3 g_1 w3 fun x9=>Cl P F.feed_NewUnpacker #[] w3 fun x11 w4=>Rk (fun w K=>LdA 3 g_1 w fun x10=>K x10) x9 w4<|Cl P F.crc_New #[] w4 fun x12 w5=>Rk (fun w K=>LdA 3 g_1 w fun x10=>K x10) x9 w5<|Bd P 283 #[(0, x9), (1, x7), (2, x11), (3, x12)] w5 fun x13=>New x13 283 w5 fun x15 w6=>R x15 w6
theorem Tie.unpress_openingOf {a0 : Value} (h : Vcf.unpress_openingOf Tryz.prog a0 w R) : Cl Tryz.prog F.unpress_openingOf #[a0] w R :=
  cl_of_vc (n := 19) (rs := [(.tmp 2)]) (h := (.s .z (.s .z (.s (.r (.staged [0, 0, 0, 4, 15, 31, 63])) .z)))) (args := [a0]) (by kernel_rfl) Tryz.func241 rfl (by kernel_rfl) rfl rfl rfl (Eq.mp (by kernel_rfl) h)

def Vcf.unstream_Reader_Got (P : Program) (a0 : Value) (w : World) (R : Value → World → Prop) : Prop :=
 New (zeroP P 114) 114 w fun x1 w1=>Bn P 116 false a0 (.pointer none) fun x2=>Vif x2 (Bd P 114 #[] w1 fun x3=>StA 3 x1 x3 w1 fun w2=>LdA 3 x1 w2 fun x4=>R x4 w2) (Nc a0<|Fo 5 a0 fun x5=>LdA 3 x5 w1 fun x6=>StA 3 x1 x6 w1 fun w3=>LdA 3 x1 w3 fun x7=>R x7 w3)
theorem Tie.unstream_Reader_Got {a0 : Value} (h : Vcf.unstream_Reader_Got Tryz.prog a0 w R) : Cl Tryz.prog F.unstream_Reader_Got #[a0] w R :=
  cl_of_vc (n := 10) (rs := [(.cell 2 114)]) (h := (.s .z (.s (.s .z (.i (.s .z .z) .z)) (.s .z .z)))) (args := [a0]) (by kernel_rfl) Tryz.func242 rfl (by kernel_rfl) rfl rfl rfl (Eq.mp (by kernel_rfl) h)

def Vcf.unbwt_Inverter_Step (P : Program) (a0 a1 : Value) (w : World) (R : Value → World → Prop) : Prop :=
 Bn P 288 false a0 (.pointer none) fun x1=>Vif x1 (R (.int .i64 0) w) (Nc a0<|Fo 260 a0 fun x2=>Ld x2 w fun x3=>VLoop 0 [] w fun _ next4 w1=>VJoin 1 (fun _ x5 w2=>Vif x5 (Cl P F.unbwt_Inverter_step #[a0] w2 fun x6 w3=>KE [a0, a1, x3] [a0, a1, x3]<|next4 w3) (Nc a0<|Fo 260 a0 fun x7=>Ld x7 w2 fun x8=>Bp .sub x8 x3 fun x9=>R x9 w2)) (fun J10=>Cl P F.unbwt_Inverter_Done #[a0] w1 fun x11 w4=>Up .not x11 fun x12=>Vif x12 (Nc a0<|Fo 260 a0 fun x13=>Ld x13 w4 fun x14=>Bp .sub x14 x3 fun x15=>Bp .lss x15 a1 fun x16=>KE [a0, a1, x3] [a0, a1, x3]<|J10 x16 w4) (KE [a0, a1, x3] [a0, a1, x3]<|J10 (.bool false) w4)))
theorem Tie.unbwt_Inverter_Step {a0 a1 : Value} (h : Vcf.unbwt_Inverter_Step Tryz.prog a0 a1 w R) : Cl Tryz.prog F.unbwt_Inverter_Step #[a0, a1] w R :=
  cl_of_vc (n := 33) (rs := [(.tmp 4)]) (h := (.s .z (.s (.s .z (.i (.s .z .z) .z)) (.s .z (.s (.b (.l [] [0, 1, 5] (.s (.j [24] [0, 1, 5] .z (.i .z .z)) (.b .z)))) (.s .z .z)))))) (args := [a0, a1]) (by kernel_rfl) Tryz.func243 rfl (by kernel_rfl) rfl rfl rfl (Eq.mp (by kernel_rfl) h)

def Vcf.unbwt_Inverter_Take (P : Program) (a0 : Value) (w : World) (R : Value → World → Prop) : Prop :=
 Bn P 288 false a0 (.pointer none) fun x1=>Vif x1 (R (.string ⟨#[]⟩) w) (Nc a0<|Fo 259 a0 fun x2=>Ld x2 w fun x3=>Cw P 44 9 x3 w fun x4 w1=>Nc a0<|Fo 259 a0 fun x5=>St x5 (.slice none 0 0) w1 fun w2=>R x4 w2)
theorem Tie.unbwt_Inverter_Take {a0 : Value} (h : Vcf.unbwt_Inverter_Take Tryz.prog a0 w R) : Cl Tryz.prog F.unbwt_Inverter_Take #[a0] w R :=
  cl_of_vc (n := 15) (rs := [(.tmp 2)]) (h := (.s .z (.s (.s .z (.i (.s .z .z) .z)) (.s .z (.s .z (.s .z .z)))))) (args := [a0]) (by kernel_rfl) Tryz.func244 rfl (by kernel_rfl) rfl rfl rfl (Eq.mp (by kernel_rfl) h)

def Vcf.feed_Unpacker_Put (P : Program) (a0 a1 : Value) (w : World) (R : Value → World → Prop) : Prop :=
 Bn P 306 false a0 (.pointer none) fun x1=>Vif x1 (R (.tuple #[(.string ⟨#[]⟩), (.int .i64 7)]) w) (Cl P F.feed_Unpacker_Wants #[a0] w fun x2 w1=>Vif x2 (Bp .gtr a1 (.int .u8 251) fun x3=>Vif x3 (R (.tuple #[(.string ⟨#[]⟩), (.int .i64 25)]) w1) (Nc a0<|Fo 0 a0 fun x4=>Fo 0 x4 fun x5=>Ld x5 w1 fun x6=>Bs P 44 1 #[(0, x6)] w1 fun x7 w2=>Cw P 44 9 x7 w2 fun x8 w3=>Ci .i64 a1 fun x9=>Cl P F.strings_Repeat #[x8, x9] w3 fun x10 w4=>Bd P 124 #[] w4 fun x11=>Nc a0<|Fo 0 a0 fun x12=>StA 2 x12 x11 w4 fun w5=>R (.tuple #[x10, (.int .i64 0)]) w5)) (VJoin 1 (fun _ x13 w6=>Vif x13 (Nc a0<|Fo 0 a0 fun x14=>Fo 1 x14 fun x15=>Ld x15 w6 fun x16=>Bp .add x16 (.int .i64 1) fun x17=>Nc a0<|Fo 0 a0 fun x18=>Fo 1 x18 fun x19=>St x19 x17 w6 fun w7=>Bs P 44 1 #[(0, a1)] w7 fun x20 w8=>Cw P 44 9 x20 w8 fun x21 w9=>R (.tuple #[x21, (.int .i64 0)]) w9) (Bd P 124 #[(0, a1), (1, (.int .i64 1))] w6 fun x22=>Nc a0<|Fo 0 a0 fun x23=>StA 2 x23 x22 w6 fun w10=>Bs P 44 1 #[(0, a1)] w10 fun x24 w11=>Cw P 44 9 x24 w11 fun x25 w12=>R (.tuple #[x25, (.int .i64 0)]) w12)) (fun J26=>Nc a0<|Fo 0 a0 fun x27=>Fo 1 x27 fun x28=>Ld x28 w1 fun x29=>Bp .gtr x29 (.int .i64 0) fun x30=>Vif x30 (Nc a0<|Fo 0 a0 fun x31=>Fo 0 x31 fun x32=>Ld x32 w1 fun x33=>Bp .eql x33 a1 fun x34=>KE [a0, a1] [a0, a1]<|J26 x34 w1) (KE [a0, a1] [a0, a1]<|J26 (.bool false) w1))))
theorem Tie.feed_Unpacker_Put {a0 a1 : Value} (h : Vcf.feed_Unpacker_Put Tryz.prog a0 a1 w R) : Cl Tryz.prog F.feed_Unpacker_Put #[a0, a1] w R :=
  cl_of_vc (n := 63) (rs := [(.tmp 4), (.tmp 5)]) (h := (.s .z (.s (.b (.s .z (.i (.s .z .z) (.s .z (.i (.s (.s .z (.i (.s .z .z) .z)) (.s .z (.s .z (.s .z .z)))) (.j [35] [0, 1] .z (.i .z .z))))))) (.s .z .z)))) (args := [a0, a1]) (by kernel_rfl) Tryz.func245 rfl (by kernel_rfl) rfl rfl rfl (Eq.mp (by kernel_rfl) h)

def Vcf.crc_Sum_Text (P : Program) (a0 a1 : Value) (w : World) (R : Value → World → Prop) : Prop :=
 Lns a1 fun x1=>VLoop 1 [(.int .i64 0)] w fun _ next3 x2 w1=>Bp .lss x2 x1 fun x4=>Vif x4 (Ixs a1 x2 fun x5=>Cl P F.crc_Sum_Put #[a0, x5] w1 fun x6 w2=>Bp .add x2 (.int .i64 1) fun x7=>KE [a0, a1, x1] [a0, a1, x1]<|next3 x7 w2) (R (.tuple #[]) w1)
theorem Tie.crc_Sum_Text {a0 a1 : Value} (h : Vcf.crc_Sum_Text Tryz.prog a0 a1 w R) : Cl Tryz.prog F.crc_Sum_Text #[a0, a1] w R :=
  cl_of_vc (n := 16) (rs := []) (h := (.s .z (.b (.l [7] [0, 1, 6] (.s .z (.s (.i .z .z) (.s (.b (.s .z .z)) .z))))))) (args := [a0, a1]) (by kernel_rfl) Tryz.func246 rfl (by kernel_rfl) rfl rfl rfl (Eq.mp (by kernel_rfl) h)

def Vcf.unpress_opening_end (P : Program) (a0 : Value) (w : World) (R : Value → World → Prop) : Prop :=
 Nc a0<|Fo 3 a0 fun x1=>Ld x1 w fun x2=>Cl P F.unbwt_Inverter_Done #[x2] w fun x3 w1=>Up .not x3 fun x4=>Vif x4 (R (.int .i64 0) w1) (Nc a0<|Fo 4 a0 fun x5=>Ld x5 w1 fun x6=>Cl P F.feed_Unpacker_End #[x6] w1 fun x7 w2=>Bp .neq x7 (.int .i64 0) fun x8=>Vif x8 (R (.int .i64 25) w2) (Dr w2 fun w3=>Nc a0<|Fo 5 a0 fun x9=>Ld x9 w3 fun x10=>Cl P F.crc_Sum_Value #[x10] w3 fun x12 w4=>Nc a0<|Fo 0 a0 fun x13=>Fo 2 x13 fun x14=>Ld x14 w4 fun x15=>Rk (fun w K=>Ld x14 w fun x16=>K x16) x15 w3<|Bp .neq x12 x15 fun x18=>Vif x18 (R (.int .i64 21) w4) (R (.int .i64 0) w4)))
theorem Tie.unpress_opening_end {a0 : Value} (h : Vcf.unpress_opening_end Tryz.prog a0 w R) : Cl Tryz.prog F.unpress_opening_end #[a0] w R :=
  cl_of_vc (n := 29) (rs := [(.tmp 2)]) (h := (.s .z (.s (.b (.s .z (.i (.s .z .z) (.s .z (.i (.s .z .z) (.s (.r (.staged [0, 1, 3, 7, 15, 0, 32, 96, 224, 480, 1023, 2047])) (.i (.s .z .z) .z))))))) (.s .z .z)))) (args := [a0]) (by kernel_rfl) Tryz.func247 rfl (by kernel_rfl) rfl rfl rfl (Eq.mp (by kernel_rfl) h)

def Vcf.bits_Reader_end (P : Program) (a0 : Value) (w : World) (R : Value → World → Prop) : Prop :=
 Dr w fun w1=>Nc a0<|Fo 1 a0 fun x1=>Ld x1 w1 fun x2=>Nc a0<|Fo 0 a0 fun x4=>Ld x4 w1 fun x5=>Lns x5 fun x7=>Bp .add x2 x7 fun x9=>Bp .mul (.int .i64 8) x9 fun x10=>R x10 w1
theorem Tie.bits_Reader_end {a0 : Value} (h : Vcf.bits_Reader_end Tryz.prog a0 w R) : Cl Tryz.prog F.bits_Reader_end #[a0] w R :=
  cl_of_vc (n := 14) (rs := [(.tmp 2)]) (h := (.s .z (.s (.r (.staged [0, 1, 3, 7, 0, 16, 48, 112, 240, 511, 1023, 2047])) .z))) (args := [a0]) (by kernel_rfl) Tryz.func249 rfl (by kernel_rfl) rfl rfl rfl (Eq.mp (by kernel_rfl) h)

def Vcf.unstream_Reader_step (P : Program) (a0 a1 : Value) (w : World) (R : Value → World → Prop) : Prop :=
 Nc a0<|Fo 1 a0 fun x1=>Ld x1 w fun x2=>Bp .eql x2 (.int .i64 0) fun x3=>Vif x3 (Cl P F.unstream_Reader_letter #[a0, a1] w fun x4 w1=>R (.tuple #[(.int .i64 0), x4]) w1) (Bp .eql x2 (.int .i64 1) fun x5=>Vif x5 (Cl P F.unstream_Reader_magic #[a0, a1] w fun x6 w2=>R (.tuple #[(.int .i64 0), x6]) w2) (Bp .eql x2 (.int .i64 2) fun x7=>Vif x7 (Cl P F.unstream_Reader_body #[a0, a1] w fun x8 w3=>Ex x8 0 fun x9=>Ex x8 1 fun x10=>R (.tuple #[x9, x10]) w3) (Cl P F.unstream_Reader_sum #[a0, a1] w fun x11 w4=>Ex x11 0 fun x12=>Ex x11 1 fun x13=>R (.tuple #[x12, x13]) w4)))
theorem Tie.unstream_Reader_step {a0 a1 : Value} (h : Vcf.unstream_Reader_step Tryz.prog a0 a1 w R) : Cl Tryz.prog F.unstream_Reader_step #[a0, a1] w R :=
  cl_of_vc (n := 32) (rs := [(.tmp 4), (.tmp 5)]) (h := (.s .z (.s (.s .z (.b (.s .z (.i (.s .z .z) (.s .z (.i (.s .z .z) (.s .z (.i (.s .z .z) .z)))))))) (.s .z .z)))) (args := [a0, a1]) (by kernel_rfl) Tryz.func250 rfl (by kernel_rfl) rfl rfl rfl (Eq.mp (by kernel_rfl) h)

def Vcf.unbwt_New (P : Program) (a0 a1 : Value) (w : World) (R : Value → World → Prop) : Prop :=
 Bp .eql a0 (.string ⟨#[]⟩) fun x1=>Vif x1 (R (.tuple #[(.pointer none), (.int .i64 1)]) w) (Lns a0 fun x2=>Bp .gtr x2 (.int .i64 900000) fun x3=>Vif x3 (R (.tuple #[(.pointer none), (.int .i64 2)]) w) (VJoin 1 (fun _ x4 w1=>Vif x4 (R (.tuple #[(.pointer none), (.int .i64 23)]) w1) (Lns a0 fun x5=>Ms P 152 x5 x5 w1 fun x6 w2=>Bd P 288 #[(0, a0), (2, x6), (3, a1)] w2 fun x7=>New x7 288 w2 fun x8 w3=>R (.tuple #[x8, (.int .i64 0)]) w3)) (fun J9=>Bp .lss a1 (.int .i64 0) fun x10=>Vif x10 (KE [a0, a1] [a0, a1]<|J9 (.bool true) w) (Lns a0 fun x11=>Bp .geq a1 x11 fun x12=>KE [a0, a1] [a0, a1]<|J9 x12 w))))
theorem Tie.unbwt_New {a0 a1 : Value} (h : Vcf.unbwt_New Tryz.prog a0 a1 w R) : Cl Tryz.prog F.unbwt_New #[a0, a1] w R :=
  cl_of_vc (n := 29) (rs := [(.tmp 4), (.tmp 5)]) (h := (.s .z (.s (.b (.s .z (.i (.s .z .z) (.s .z (.i (.s .z .z) (.j [13] [0, 1] .z (.i (.s .z .z) .z))))))) (.s .z .z)))) (args := [a0, a1]) (by kernel_rfl) Tryz.func251 rfl (by kernel_rfl) rfl rfl rfl (Eq.mp (by kernel_rfl) h)

def Vcf.feed_NewUnpacker (P : Program) (w : World) (R : Value → World → Prop) : Prop :=
 Bd P 306 #[] w fun x1=>New x1 306 w fun x2 w1=>R x2 w1
theorem Tie.feed_NewUnpacker (h : Vcf.feed_NewUnpacker Tryz.prog w R) : Cl Tryz.prog F.feed_NewUnpacker #[] w R :=
  cl_of_vc (n := 3) (rs := [(.tmp 0)]) (h := (.s .z (.s .z .z))) (args := []) (by kernel_rfl) Tryz.func252 rfl (by kernel_rfl) rfl rfl rfl (Eq.mp (by kernel_rfl) h)

def Vcf.unbwt_Inverter_step (P : Program) (a0 : Value) (w : World) (R : Value → World → Prop) : Prop :=
 Nc a0<|Fo 0 a0 fun x1=>Ld x1 w fun x2=>Lns x2 fun x3=>Nc a0<|Fo 260 a0 fun x4=>Ld x4 w fun x5=>Bp .rem x5 x3 fun x6=>VJoin 0 (fun _ w1=>Nc a0<|Fo 260 a0 fun x7=>Ld x7 w1 fun x8=>Bp .add x8 (.int .i64 1) fun x9=>Nc a0<|Fo 260 a0 fun x10=>St x10 x9 w1 fun w2=>R (.tuple #[]) w2) (fun J11=>Nc a0<|Fo 260 a0 fun x12=>Ld x12 w fun x13=>Bp .quo x13 x3 fun x14=>Bp .eql x14 (.int .i64 0) fun x15=>Vif x15 (Dr w fun w3=>Nc a0<|Fo 0 a0 fun x16=>Ld x16 w3 fun x17=>Ixs x17 x6 fun x19=>Nc a0<|Fo 1 a0 fun x20=>Iaa 256 1 x20 x19 fun x21=>Ld x21 w3 fun x22=>Bp .add x22 (.int .i64 1) fun x24=>Nc a0<|Fo 1 a0 fun x25=>Iaa 256 1 x25 x19 fun x26=>St x26 x24 w3 fun w4=>Bp .sub x3 (.int .i64 1) fun x27=>Bp .eql x6 x27 fun x28=>Vif x28 (Cl P F.unbwt_Inverter_begins #[a0] w4 fun x29 w5=>KE [a0] [a0]<|J11 w5) (KE [a0] [a0]<|J11 w4)) (Bp .eql x14 (.int .i64 1) fun x30=>Vif x30 (Nc a0<|Fo 0 a0 fun x31=>Ld x31 w fun x32=>Ixs x32 x6 fun x33=>Dr w fun w6=>Nc a0<|Fo 257 a0 fun x34=>Ld x34 w6 fun x35=>Nc a0<|Fo 1 a0 fun x37=>Iaa 256 1 x37 x33 fun x38=>Ld x38 w6 fun x39=>Ias 1 x35 x39 fun x41=>St x41 x6 w6 fun w7=>Dr w7 fun w8=>Nc a0<|Fo 1 a0 fun x42=>Iaa 256 1 x42 x33 fun x43=>Ld x43 w8 fun x44=>Bp .add x44 (.int .i64 1) fun x46=>Nc a0<|Fo 1 a0 fun x47=>Iaa 256 1 x47 x33 fun x48=>St x48 x46 w8 fun w9=>KE [a0] [a0]<|J11 w9) (Dr w fun w10=>Nc a0<|Fo 257 a0 fun x49=>Ld x49 w10 fun x50=>Nc a0<|Fo 258 a0 fun x52=>Ld x52 w10 fun x53=>Ias 1 x50 x53 fun x55=>Ld x55 w10 fun x56=>Nc a0<|Fo 258 a0 fun x58=>St x58 x56 w10 fun w11=>Dr w11 fun w12=>Nc a0<|Fo 259 a0 fun x59=>Ld x59 w12 fun x60=>Nc a0<|Fo 0 a0 fun x62=>Ld x62 w12 fun x63=>Nc a0<|Fo 258 a0 fun x65=>Ld x65 w12 fun x66=>Ixs x63 x66 fun x68=>Bs P 44 1 #[(0, x68)] w12 fun x69 w13=>Rk (fun w K=>Ld x59 w fun x61=>K x61) x60 w13<|Ap P #[44, 44] 44 #[x60, x69] w13 fun x70 w14=>Nc a0<|Fo 259 a0 fun x71=>St x71 x70 w14 fun w15=>KE [a0] [a0]<|J11 w15)))
theorem Tie.unbwt_Inverter_step {a0 : Value} (h : Vcf.unbwt_Inverter_step Tryz.prog a0 w R) : Cl Tryz.prog F.unbwt_Inverter_step #[a0] w R :=
  cl_of_vc (n := 113) (rs := []) (h := (.s .z (.s .z (.j [] [0] (.s .z (.b (.s .z (.i (.s (.r (.staged [0, 0, 2, 6, 14, 0, 62, 1, 129, 511, 1023, 2047, 1, 4097, 16383, 32767])) (.s .z (.i .z .z))) (.s .z (.i (.s .z (.s (.r (.staged [0, 1, 3, 7, 0, 0, 16, 80, 240, 496, 0, 2047, 4095])) (.r (.staged [0, 0, 1, 5, 15, 31, 63, 1, 129, 511, 1023])))) (.s (.r (.staged [0, 0, 2, 6, 14, 0, 32, 96, 224, 510, 1022, 2047, 4095, 8191])) (.r (.staged [0, 0, 2, 6, 14, 0, 32, 96, 224, 0, 512, 1536, 3584, 8160, 16352, 32766, 65535, 131071, 262143]))))))))) .z)))) (args := [a0]) (by kernel_rfl) Tryz.func253 rfl (by kernel_rfl) rfl rfl rfl (Eq.mp (by kernel_rfl) h)

def Vcf.feed_Unpacker_Wants (P : Program) (a0 : Value) (w : World) (R : Value → World → Prop) : Prop :=
 Bn P 306 true a0 (.pointer none) fun x1=>Vif x1 (Nc a0<|Fo 0 a0 fun x2=>Fo 1 x2 fun x3=>Ld x3 w fun x4=>Bp .eql x4 (.int .i64 4) fun x5=>R x5 w) (R (.bool false) w)
theorem Tie.feed_Unpacker_Wants {a0 : Value} (h : Vcf.feed_Unpacker_Wants Tryz.prog a0 w R) : Cl Tryz.prog F.feed_Unpacker_Wants #[a0] w R :=
  cl_of_vc (n := 13) (rs := [(.tmp 2)]) (h := (.s .z (.s .z .z))) (args := [a0]) (by kernel_rfl) Tryz.func254 rfl (by kernel_rfl) rfl rfl rfl (Eq.mp (by kernel_rfl) h)

def Vcf.feed_Unpacker_End (P : Program) (a0 : Value) (w : World) (R : Value → World → Prop) : Prop :=
 Bn P 306 false a0 (.pointer none) fun x1=>Vif x1 (R (.int .i64 7) w) (Cl P F.feed_Unpacker_Wants #[a0] w fun x2 w1=>Vif x2 (R (.int .i64 24) w1) (Bd P 124 #[] w1 fun x3=>Nc a0<|Fo 0 a0 fun x4=>StA 2 x4 x3 w1 fun w2=>R (.int .i64 0) w2))
theorem Tie.feed_Unpacker_End {a0 : Value} (h : Vcf.feed_Unpacker_End Tryz.prog a0 w R) : Cl Tryz.prog F.feed_Unpacker_End #[a0] w R :=
  cl_of_vc (n := 13) (rs := [(.tmp 2)]) (h := (.s .z (.s (.b (.s .z (.i (.s .z .z) (.s .z (.i (.s .z .z) .z))))) (.s .z (.s .z .z))))) (args := [a0]) (by kernel_rfl) Tryz.func255 rfl (by kernel_rfl) rfl rfl rfl (Eq.mp (by kernel_rfl) h)

def Vcf.picks_Reader_Picks (P : Program) (a0 : Value) (w : World) (R : Value → World → Prop) : Prop :=
 Bn P 313 false a0 (.pointer none) fun x1=>Vif x1 (R (.slice none 0 0) w) (Nc a0<|Fo 8 a0 fun x2=>Ld x2 w fun x3=>Cl P F.slices_Clone_int_int #[x3] w fun x4 w1=>R x4 w1)
theorem Tie.picks_Reader_Picks {a0 : Value} (h : Vcf.picks_Reader_Picks Tryz.prog a0 w R) : Cl Tryz.prog F.picks_Reader_Picks #[a0] w R :=
  cl_of_vc (n := 10) (rs := [(.tmp 2)]) (h := (.s .z (.s (.s .z (.i (.s .z .z) .z)) (.s .z .z)))) (args := [a0]) (by kernel_rfl) Tryz.func256 rfl (by kernel_rfl) rfl rfl rfl (Eq.mp (by kernel_rfl) h)

def Vcf.unstream_Reader_letter (P : Program) (a0 a1 : Value) (w : World) (R : Value → World → Prop) : Prop :=
 Cl P F.bits_Reader_Get #[a1, (.int .i64 8)] w fun x1 w1=>Ex x1 0 fun x2=>Ex x1 1 fun x3=>Bp .neq x3 (.int .i64 0) fun x4=>Vif x4 (R x3 w1) (Nc a0<|Fo 2 a0 fun x5=>Ld x5 w1 fun x6=>Bp .lss x6 (.int .i64 3) fun x7=>Vif x7 (Nc a0<|Fo 2 a0 fun x8=>Ld x8 w1 fun x9=>Ixs (.string ⟨#[66, 90, 104]⟩) x9 fun x10=>Ci .u32 x10 fun x11=>Bp .neq x2 x11 fun x12=>Vif x12 (R (.int .i64 20) w1) (Nc a0<|Fo 2 a0 fun x13=>Ld x13 w1 fun x14=>Bp .add x14 (.int .i64 1) fun x15=>Nc a0<|Fo 2 a0 fun x16=>St x16 x15 w1 fun w2=>R (.int .i64 0) w2)) (VJoin 1 (fun _ x17 w3=>Vif x17 (R (.int .i64 20) w3) (Bp .sub x2 (.int .u32 48) fun x18=>Ci .i64 x18 fun x19=>Nc a0<|Fo 3 a0 fun x20=>St x20 x19 w3 fun w4=>Nc a0<|Fo 2 a0 fun x21=>St x21 (.int .i64 0) w4 fun w5=>Nc a0<|Fo 8 a0 fun x22=>St x22 (.int .u32 0) w5 fun w6=>Nc a0<|Fo 1 a0 fun x23=>St x23 (.int .i64 1) w6 fun w7=>R (.int .i64 0) w7)) (fun J24=>Bp .lss x2 (.int .u32 49) fun x25=>Vif x25 (KE [a0, x2] [a0, x2]<|J24 (.bool true) w1) (Bp .gtr x2 (.int .u32 57) fun x26=>KE [a0, x2] [a0, x2]<|J24 x26 w1))))
theorem Tie.unstream_Reader_letter {a0 a1 : Value} (h : Vcf.unstream_Reader_letter Tryz.prog a0 a1 w R) : Cl Tryz.prog F.unstream_Reader_letter #[a0, a1] w R :=
  cl_of_vc (n := 59) (rs := [(.tmp 4)]) (h := (.s .z (.s .z (.s (.b (.s .z (.i (.s .z .z) (.s .z (.i (.s (.s .z (.i (.s .z .z) .z)) (.s .z (.s .z .z))) (.j [37] [0, 5] .z (.i (.s .z .z) .z))))))) (.s .z (.s .z (.s .z (.s .z (.s .z .z))))))))) (args := [a0, a1]) (by kernel_rfl) Tryz.func257 rfl (by kernel_rfl) rfl rfl rfl (Eq.mp (by kernel_rfl) h)

def Vcf.unstream_Reader_magic (P : Program) (a0 a1 : Value) (w : World) (R : Value → World → Prop) : Prop :=
 Cl P F.bits_Reader_Left #[a1] w fun x1 w1=>Bp .lss x1 (.int .i64 48) fun x2=>Vif x2 (R (.int .i64 3) w1) (Cl P F.bits_Reader_Get #[a1, (.int .i64 24)] w1 fun x3 w2=>Ex x3 0 fun x4=>Ex x3 1 fun x5=>Cl P F.bits_Reader_Get #[a1, (.int .i64 24)] w2 fun x6 w3=>Ex x6 0 fun x7=>Ex x6 1 fun x8=>Ci .u64 x4 fun x9=>Bp .shl x9 (.int .u64 24) fun x10=>Ci .u64 x7 fun x11=>Bp .or x10 x11 fun x12=>Bp .eql x12 (.int .u64 54156738319193) fun x13=>Vif x13 (Dr w3 fun w4=>Nc a0<|Fo 3 a0 fun x14=>Ld x14 w4 fun x15=>Nc a0<|Fo 0 a0 fun x17=>Ld x17 w4 fun x18=>Bp .mul x15 x18 fun x20=>Cl P F.block_NewReader #[x20] w4 fun x21 w5=>Ex x21 0 fun x22=>Ex x21 1 fun x23=>Nc a0<|Fo 4 a0 fun x24=>St x24 x22 w5 fun w6=>Nc a0<|Fo 1 a0 fun x25=>St x25 (.int .i64 2) w6 fun w7=>R x23 w7) (Bp .eql x12 (.int .u64 25779555029136) fun x26=>Vif x26 (Nc a0<|Fo 1 a0 fun x27=>St x27 (.int .i64 3) w3 fun w8=>R (.int .i64 0) w8) (R (.int .i64 20) w3)))
theorem Tie.unstream_Reader_magic {a0 a1 : Value} (h : Vcf.unstream_Reader_magic Tryz.prog a0 a1 w R) : Cl Tryz.prog F.unstream_Reader_magic #[a0, a1] w R :=
  cl_of_vc (n := 58) (rs := [(.tmp 4)]) (h := (.s .z (.s (.s .z (.i (.s .z .z) .z)) (.s .z (.s .z (.s (.s .z (.b (.s .z (.i (.s (.r (.staged [0, 1, 3, 7, 0, 16, 48, 112, 255, 511, 1023, 2047, 2047, 4095, 16383])) (.s .z (.s .z (.s .z .z)))) (.s .z (.i (.s .z (.s .z .z)) .z)))))) (.s .z .z))))))) (args := [a0, a1]) (by kernel_rfl) Tryz.func258 rfl (by kernel_rfl) rfl rfl rfl (Eq.mp (by kernel_rfl) h)

def Vcf.unstream_Reader_body (P : Program) (a0 a1 : Value) (w : World) (R : Value → World → Prop) : Prop :=
 Nc a0<|Fo 4 a0 fun x1=>Ld x1 w fun x2=>Cl P F.block_Reader_Step #[x2, a1] w fun x3 w1=>VJoin 1 (fun _ x4 w2=>Vif x4 (R (.tuple #[(.int .i64 0), x3]) w2) (Nc a0<|Fo 4 a0 fun x5=>Ld x5 w2 fun x6=>Cl P F.block_Reader_Got #[x6] w2 fun x7 w3=>Nc a0<|Fo 5 a0 fun x8=>StA 3 x8 x7 w3 fun w4=>Nc a0<|Fo 4 a0 fun x9=>St x9 (.pointer none) w4 fun w5=>Dr w5 fun w6=>Nc a0<|Fo 8 a0 fun x10=>Ld x10 w6 fun x11=>Nc a0<|Fo 5 a0 fun x13=>Fo 2 x13 fun x14=>Ld x14 w6 fun x15=>Cl P F.crc_Combine #[x11, x15] w6 fun x17 w7=>Nc a0<|Fo 8 a0 fun x18=>St x18 x17 w7 fun w8=>Nc a0<|Fo 1 a0 fun x19=>St x19 (.int .i64 1) w8 fun w9=>R (.tuple #[(.int .i64 1), (.int .i64 0)]) w9)) (fun J20=>Bp .neq x3 (.int .i64 0) fun x21=>Vif x21 (KE [a0, x3] [a0, x3]<|J20 (.bool true) w1) (Nc a0<|Fo 4 a0 fun x22=>Ld x22 w1 fun x23=>Cl P F.block_Reader_Done #[x23] w1 fun x24 w10=>Up .not x24 fun x25=>KE [a0, x3] [a0, x3]<|J20 x25 w10))
theorem Tie.unstream_Reader_body {a0 a1 : Value} (h : Vcf.unstream_Reader_body Tryz.prog a0 a1 w R) : Cl Tryz.prog F.unstream_Reader_body #[a0, a1] w R :=
  cl_of_vc (n := 51) (rs := [(.tmp 4), (.tmp 5)]) (h := (.s .z (.s .z (.s (.j [22] [0, 6] .z (.i (.s .z .z) .z)) (.s .z (.s .z (.s (.r (.staged [0, 0, 2, 6, 14, 0, 32, 96, 224, 480, 1022, 2047, 4095, 8191])) (.s .z (.s .z .z))))))))) (args := [a0, a1]) (by kernel_rfl) Tryz.func259 rfl (by kernel_rfl) rfl rfl rfl (Eq.mp (by kernel_rfl) h)

def Vcf.unstream_Reader_sum (P : Program) (a0 a1 : Value) (w : World) (R : Value → World → Prop) : Prop :=
 Cl P F.bits_Reader_Get #[a1, (.int .i64 32)] w fun x1 w1=>Ex x1 0 fun x2=>Ex x1 1 fun x3=>Bp .neq x3 (.int .i64 0) fun x4=>Vif x4 (R (.tuple #[(.int .i64 0), x3]) w1) (Nc a0<|Fo 8 a0 fun x5=>Ld x5 w1 fun x6=>Bp .neq x2 x6 fun x7=>Vif x7 (R (.tuple #[(.int .i64 0), (.int .i64 21)]) w1) (Cl P F.bits_Reader_Align #[a1] w1 fun x8 w2=>Nc a0<|Fo 1 a0 fun x9=>St x9 (.int .i64 0) w2 fun w3=>Nc a0<|Fo 9 a0 fun x10=>St x10 (.bool true) w3 fun w4=>R (.tuple #[(.int .i64 2), (.int .i64 0)]) w4))
theorem Tie.unstream_Reader_sum {a0 a1 : Value} (h : Vcf.unstream_Reader_sum Tryz.prog a0 a1 w R) : Cl Tryz.prog F.unstream_Reader_sum #[a0, a1] w R :=
  cl_of_vc (n := 32) (rs := [(.tmp 4), (.tmp 5)]) (h := (.s .z (.s .z (.s (.b (.s .z (.i (.s .z .z) (.s .z (.i (.s .z .z) .z))))) (.s .z (.s .z (.s .z (.s .z .z)))))))) (args := [a0, a1]) (by kernel_rfl) Tryz.func260 rfl (by kernel_rfl) rfl rfl rfl (Eq.mp (by kernel_rfl) h)

def Vcf.unbwt_Inverter_begins (P : Program) (a0 : Value) (w : World) (R : Value → World → Prop) : Prop :=
 Nc a0<|Fo 1 a0 fun x1=>LdA 256 x1 w fun x2=>VLoop 2 [(.int .i64 0), (.int .i64 0)] w fun _ next5 from_3 x4 w1=>Bp .lss x4 (.int .i64 256) fun x6=>Vif x6 (Ixa 256 1 false x2 x4 fun x7=>Nc a0<|Fo 1 a0 fun x8=>Iaa 256 1 x8 x4 fun x9=>St x9 from_3 w1 fun w2=>Bp .add from_3 x7 fun x10=>Bp .add x4 (.int .i64 1) fun x11=>KE [a0, x2] [a0, x2]<|next5 x10 x11 w2) (R (.tuple #[]) w1)
theorem Tie.unbwt_Inverter_begins {a0 : Value} (h : Vcf.unbwt_Inverter_begins Tryz.prog a0 w R) : Cl Tryz.prog F.unbwt_Inverter_begins #[a0] w R :=
  cl_of_vc (n := 23) (rs := []) (h := (.s .z (.s .z (.b (.l [2, 9] [0, 8] (.s .z (.s (.i .z .z) (.s (.b (.s .z (.s .z .z))) .z)))))))) (args := [a0]) (by kernel_rfl) Tryz.func261 rfl (by kernel_rfl) rfl rfl rfl (Eq.mp (by kernel_rfl) h)

def Vcf.bits_Reader_Get (P : Program) (a0 a1 : Value) (w : World) (R : Value → World → Prop) : Prop :=
 Bn P 118 false a0 (.pointer none) fun x1=>Vif x1 (R (.tuple #[(.int .u32 0), (.int .i64 7)]) w) (VJoin 1 (fun _ x2 w1=>Vif x2 (R (.tuple #[(.int .u32 0), (.int .i64 1)]) w1) (Cl P F.bits_Reader_Left #[a0] w1 fun x3 w2=>Bp .lss x3 a1 fun x4=>Vif x4 (R (.tuple #[(.int .u32 0), (.int .i64 3)]) w2) (VLoop 2 [(.int .u32 0), (.int .i64 0)] w2 fun _ next7 v_5 x6 w3=>Bp .lss x6 a1 fun x8=>Vif x8 (Bp .shl v_5 (.int .u64 1) fun x9=>Nc a0<|Fo 2 a0 fun x10=>Ld x10 w3 fun x11=>Cl P F.bits_Reader_bit #[a0, x11] w3 fun x12 w4=>Bp .or x9 x12 fun x13=>Nc a0<|Fo 2 a0 fun x14=>Ld x14 w4 fun x15=>Bp .add x15 (.int .i64 1) fun x16=>Nc a0<|Fo 2 a0 fun x17=>St x17 x16 w4 fun w5=>Bp .add x6 (.int .i64 1) fun x18=>KE [a0, a1] [a0, a1]<|next7 x13 x18 w5) (R (.tuple #[v_5, (.int .i64 0)]) w3)))) (fun J19=>Bp .lss a1 (.int .i64 0) fun x20=>Vif x20 (KE [a0, a1] [a0, a1]<|J19 (.bool true) w) (Bp .gtr a1 (.int .i64 32) fun x21=>KE [a0, a1] [a0, a1]<|J19 x21 w)))
theorem Tie.bits_Reader_Get {a0 a1 : Value} (h : Vcf.bits_Reader_Get Tryz.prog a0 a1 w R) : Cl Tryz.prog F.bits_Reader_Get #[a0, a1] w R :=
  cl_of_vc (n := 43) (rs := [(.tmp 4), (.tmp 5)]) (h := (.s .z (.s (.b (.s .z (.i (.s .z .z) (.j [10] [0, 1] .z (.i (.s .z .z) (.s .z (.i (.s .z .z) .z))))))) (.s .z (.s (.s .z (.b (.l [6, 23] [0, 22] (.s .z (.s (.i .z .z) (.s (.b (.s .z .z)) .z)))))) (.s .z .z)))))) (args := [a0, a1]) (by kernel_rfl) Tryz.func262 rfl (by kernel_rfl) rfl rfl rfl (Eq.mp (by kernel_rfl) h)

def Vcf.block_NewReader (P : Program) (a0 : Value) (w : World) (R : Value → World → Prop) : Prop :=
 VJoin 1 (fun _ x1 w1=>Vif x1 (R (.tuple #[(.pointer none), (.int .i64 1)]) w1) (Bd P 298 #[(1, a0)] w1 fun x2=>New x2 298 w1 fun x3 w2=>R (.tuple #[x3, (.int .i64 0)]) w2)) (fun J4=>Bp .lss a0 (.int .i64 5) fun x5=>Vif x5 (KE [a0] [a0]<|J4 (.bool true) w) (Bp .gtr a0 (.int .i64 900000) fun x6=>KE [a0] [a0]<|J4 x6 w))
theorem Tie.block_NewReader {a0 : Value} (h : Vcf.block_NewReader Tryz.prog a0 w R) : Cl Tryz.prog F.block_NewReader #[a0] w R :=
  cl_of_vc (n := 13) (rs := [(.tmp 2), (.tmp 3)]) (h := (.s .z (.s (.j [9] [0] .z (.i (.s .z .z) .z)) (.s .z .z)))) (args := [a0]) (by kernel_rfl) Tryz.func263 rfl (by kernel_rfl) rfl rfl rfl (Eq.mp (by kernel_rfl) h)

def Vcf.block_Reader_Step (P : Program) (a0 a1 : Value) (w : World) (R : Value → World → Prop) : Prop :=
 VJoin 1 (fun _ x1 w1=>Vif x1 (R (.int .i64 7) w1) (Nc a0<|Fo 7 a0 fun x2=>Ld x2 w1 fun x3=>Bp .neq x3 (.int .i64 0) fun x4=>Vif x4 (Nc a0<|Fo 7 a0 fun x5=>Ld x5 w1 fun x6=>R x6 w1) (Cl P F.block_Reader_step #[a0, a1] w1 fun x7 w2=>Bp .neq x7 (.int .i64 3) fun x8=>Vif x8 (Nc a0<|Fo 7 a0 fun x9=>St x9 x7 w2 fun w3=>R x7 w3) (R x7 w2)))) (fun J10=>Bn P 298 false a0 (.pointer none) fun x11=>Vif x11 (KE [a0, a1] [a0, a1]<|J10 (.bool true) w) (Bn P 118 false a1 (.pointer none) fun x12=>Vif x12 (KE [a0, a1] [a0, a1]<|J10 (.bool true) w) (Nc a0<|Fo 6 a0 fun x13=>Ld x13 w fun x14=>KE [a0, a1] [a0, a1]<|J10 x14 w)))
theorem Tie.block_Reader_Step {a0 a1 : Value} (h : Vcf.block_Reader_Step Tryz.prog a0 a1 w R) : Cl Tryz.prog F.block_Reader_Step #[a0, a1] w R :=
  cl_of_vc (n := 39) (rs := [(.tmp 4)]) (h := (.s .z (.s (.b (.j [6] [0, 1] .z (.i (.s .z .z) (.s .z (.i (.s .z .z) .z))))) (.s .z (.s (.s .z (.i .z .z)) (.s .z .z)))))) (args := [a0, a1]) (by kernel_rfl) Tryz.func264 rfl (by kernel_rfl) rfl rfl rfl (Eq.mp (by kernel_rfl) h)

def Vcf.block_Reader_Done (P : Program) (a0 : Value) (w : World) (R : Value → World → Prop) : Prop :=
 Bn P 298 true a0 (.pointer none) fun x1=>Vif x1 (Nc a0<|Fo 6 a0 fun x2=>Ld x2 w fun x3=>R x3 w) (R (.bool false) w)
theorem Tie.block_Reader_Done {a0 : Value} (h : Vcf.block_Reader_Done Tryz.prog a0 w R) : Cl Tryz.prog F.block_Reader_Done #[a0] w R :=
  cl_of_vc (n := 11) (rs := [(.tmp 2)]) (h := (.s .z (.s .z .z))) (args := [a0]) (by kernel_rfl) Tryz.func265 rfl (by kernel_rfl) rfl rfl rfl (Eq.mp (by kernel_rfl) h)

def Vcf.block_Reader_Got (P : Program) (a0 : Value) (w : World) (R : Value → World → Prop) : Prop :=
 New (zeroP P 114) 114 w fun x1 w1=>Cl P F.block_Reader_Done #[a0] w1 fun x2 w2=>Up .not x2 fun x3=>Vif x3 (Bd P 114 #[] w2 fun x4=>StA 3 x1 x4 w2 fun w3=>LdA 3 x1 w3 fun x5=>R x5 w3) (Dr w2 fun w4=>Nc a0<|Fo 5 a0 fun x6=>Ld x6 w4 fun x7=>Cv P 44 9 x7 w4 fun x9=>Nc a0<|Fo 4 a0 fun x11=>Ld x11 w4 fun x12=>Nc a0<|Fo 3 a0 fun x14=>Ld x14 w4 fun x15=>Bd P 114 #[(0, x9), (1, x12), (2, x15)] w4 fun x17=>StA 3 x1 x17 w4 fun w5=>LdA 3 x1 w5 fun x19=>R x19 w5)
theorem Tie.block_Reader_Got {a0 : Value} (h : Vcf.block_Reader_Got Tryz.prog a0 w R) : Cl Tryz.prog F.block_Reader_Got #[a0] w R :=
  cl_of_vc (n := 21) (rs := [(.cell 2 114)]) (h := (.s .z (.s (.s .z (.i (.s .z .z) .z)) (.s (.r (.staged [0, 1, 3, 7, 15, 0, 32, 96, 224, 0, 512, 1536, 3584, 8191, 16383])) .z)))) (args := [a0]) (by kernel_rfl) Tryz.func266 rfl (by kernel_rfl) rfl rfl rfl (Eq.mp (by kernel_rfl) h)

def Vcf.bits_Reader_Align (P : Program) (a0 : Value) (w : World) (R : Value → World → Prop) : Prop :=
 VLoop 0 [] w fun _ next1 w1=>VJoin 1 (fun _ x2 w2=>Vif x2 (Nc a0<|Fo 2 a0 fun x3=>Ld x3 w2 fun x4=>Bp .add x4 (.int .i64 1) fun x5=>Nc a0<|Fo 2 a0 fun x6=>St x6 x5 w2 fun w3=>KE [a0] [a0]<|next1 w3) (R (.tuple #[]) w2)) (fun J7=>Bn P 118 true a0 (.pointer none) fun x8=>Vif x8 (Nc a0<|Fo 2 a0 fun x9=>Ld x9 w1 fun x10=>Bp .rem x10 (.int .i64 8) fun x11=>Bp .neq x11 (.int .i64 0) fun x12=>KE [a0] [a0]<|J7 x12 w1) (KE [a0] [a0]<|J7 (.bool false) w1))
theorem Tie.bits_Reader_Align {a0 : Value} (h : Vcf.bits_Reader_Align Tryz.prog a0 w R) : Cl Tryz.prog F.bits_Reader_Align #[a0] w R :=
  cl_of_vc (n := 19) (rs := []) (h := (.b (.l [] [0] (.s (.j [11] [0] .z (.i .z .z)) (.b .z))))) (args := [a0]) (by kernel_rfl) Tryz.func267 rfl (by kernel_rfl) rfl rfl rfl (Eq.mp (by kernel_rfl) h)

def Vcf.bits_Reader_bit (P : Program) (a0 a1 : Value) (w : World) (R : Value → World → Prop) : Prop :=
 Dr w fun w1=>Nc a0<|Fo 0 a0 fun x1=>Ld x1 w1 fun x2=>Bp .quo a1 (.int .i64 8) fun x4=>Nc a0<|Fo 1 a0 fun x5=>Ld x5 w1 fun x6=>Bp .sub x4 x6 fun x8=>Ixs x2 x8 fun x9=>Bp .rem a1 (.int .i64 8) fun x10=>Bp .sub (.int .i64 7) x10 fun x11=>Bp .shr x9 x11 fun x12=>Bp .and x12 (.int .u8 1) fun x13=>Ci .u32 x13 fun x14=>R x14 w1
theorem Tie.bits_Reader_bit {a0 a1 : Value} (h : Vcf.bits_Reader_bit Tryz.prog a0 a1 w R) : Cl Tryz.prog F.bits_Reader_bit #[a0, a1] w R :=
  cl_of_vc (n := 25) (rs := [(.tmp 4)]) (h := (.s .z (.s (.r (.staged [0, 1, 3, 7, 0, 16, 0, 64, 192, 448, 1008, 2047, 4095])) (.s .z .z)))) (args := [a0, a1]) (by kernel_rfl) Tryz.func268 rfl (by kernel_rfl) rfl rfl rfl (Eq.mp (by kernel_rfl) h)

def Vcf.block_Reader_step (P : Program) (a0 a1 : Value) (w : World) (R : Value → World → Prop) : Prop :=
 VJoin 1 (fun _ e_1 w1=>Bp .neq e_1 (.int .i64 0) fun x2=>Vif x2 (R e_1 w1) (Cl P F.block_Reader_end #[a0] w1 fun x3 w2=>R x3 w2)) (fun J4=>Nc a0<|Fo 2 a0 fun x5=>Ld x5 w fun x6=>Up .not x6 fun x7=>Vif x7 (Cl P F.block_Reader_begin #[a0, a1] w fun x8 w3=>KE [a0] [a0]<|J4 x8 w3) (Nc a0<|Fo 0 a0 fun x9=>Ld x9 w fun x10=>Bn P 302 false x10 (.pointer none) fun x11=>Vif x11 (Cl P F.block_Reader_symbols #[a0, a1] w fun x12 w4=>KE [a0] [a0]<|J4 x12 w4) (Nc a0<|Fo 0 a0 fun x13=>Ld x13 w fun x14=>Cl P F.block_row_waits #[x14] w fun x15 w5=>Vif x15 (Dr w5 fun w6=>Nc a0<|Fo 5 a0 fun x16=>Ld x16 w6 fun x17=>Nc a0<|Fo 0 a0 fun x19=>Ld x19 w6 fun x20=>Cl P F.block_row_next #[x20] w6 fun x22 w7=>Rk (fun w K=>Ld x16 w fun x18=>K x18) x17 w7<|Bs P 44 1 #[(0, x22)] w7 fun x23 w8=>Rk (fun w K=>Ld x16 w fun x18=>K x18) x17 w8<|Ap P #[44, 44] 44 #[x17, x23] w8 fun x24 w9=>Nc a0<|Fo 5 a0 fun x25=>St x25 x24 w9 fun w10=>KE [a0] [a0]<|J4 (.int .i64 0) w10) (Cl P F.block_Reader_symbol #[a0, a1] w5 fun x26 w11=>KE [a0] [a0]<|J4 x26 w11))))
theorem Tie.block_Reader_step {a0 a1 : Value} (h : Vcf.block_Reader_step Tryz.prog a0 a1 w R) : Cl Tryz.prog F.block_Reader_step #[a0, a1] w R :=
  cl_of_vc (n := 52) (rs := [(.tmp 4)]) (h := (.s .z (.s .z (.j [5] [0] (.b (.s .z (.i .z (.s .z (.i .z (.s .z (.i (.r (.staged [0, 0, 2, 6, 14, 0, 32, 96, 224, 480, 992, 2046, 4095, 8191, 16383])) .z))))))) (.s (.s .z (.i (.s .z .z) .z)) (.s .z .z)))))) (args := [a0, a1]) (by kernel_rfl) Tryz.func269 rfl (by kernel_rfl) rfl rfl rfl (Eq.mp (by kernel_rfl) h)

def Vcf.block_Reader_begin (P : Program) (a0 a1 : Value) (w : World) (R : Value → World → Prop) : Prop :=
 Cl P F.bits_Reader_Left #[a1] w fun x1 w1=>Bp .lss x1 (.int .i64 57) fun x2=>Vif x2 (R (.int .i64 3) w1) (Cl P F.bits_Reader_Get #[a1, (.int .i64 32)] w1 fun x3 w2=>Ex x3 0 fun x4=>Ex x3 1 fun x5=>Cl P F.bits_Reader_Get #[a1, (.int .i64 1)] w2 fun x6 w3=>Ex x6 0 fun x7=>Ex x6 1 fun x8=>Cl P F.bits_Reader_Get #[a1, (.int .i64 24)] w3 fun x9 w4=>Ex x9 0 fun x10=>Ex x9 1 fun x11=>Nc a0<|Fo 2 a0 fun x12=>St x12 (.bool true) w4 fun w5=>Nc a0<|Fo 3 a0 fun x13=>St x13 x4 w5 fun w6=>Ci .i64 x10 fun x14=>Nc a0<|Fo 4 a0 fun x15=>St x15 x14 w6 fun w7=>Bp .eql x7 (.int .u32 1) fun x16=>Vif x16 (R (.int .i64 25) w7) (R (.int .i64 0) w7))
theorem Tie.block_Reader_begin {a0 a1 : Value} (h : Vcf.block_Reader_begin Tryz.prog a0 a1 w R) : Cl Tryz.prog F.block_Reader_begin #[a0, a1] w R :=
  cl_of_vc (n := 43) (rs := [(.tmp 4)]) (h := (.s .z (.s (.s .z (.i (.s .z .z) .z)) (.s .z (.s .z (.s .z (.s .z (.s .z (.s .z (.s (.s .z (.i (.s .z .z) .z)) (.s .z .z))))))))))) (args := [a0, a1]) (by kernel_rfl) Tryz.func270 rfl (by kernel_rfl) rfl rfl rfl (Eq.mp (by kernel_rfl) h)

def Vcf.block_Reader_symbols (P : Program) (a0 a1 : Value) (w : World) (R : Value → World → Prop) : Prop :=
 Cl P F.used_Read #[a1] w fun x1 w1=>Ex x1 0 fun x2=>Ex x1 1 fun x3=>Bp .eql x3 (.int .i64 0) fun x4=>Vif x4 (Nc a0<|Fo 1 a0 fun x5=>Ld x5 w1 fun x6=>Cl P F.block_rowOf #[x2, x6] w1 fun x7 w2=>Nc a0<|Fo 0 a0 fun x8=>St x8 x7 w2 fun w3=>R x3 w3) (R x3 w1)
theorem Tie.block_Reader_symbols {a0 a1 : Value} (h : Vcf.block_Reader_symbols Tryz.prog a0 a1 w R) : Cl Tryz.prog F.block_Reader_symbols #[a0, a1] w R :=
  cl_of_vc (n := 24) (rs := [(.tmp 4)]) (h := (.s .z (.s .z (.s (.s .z (.i .z .z)) (.s .z .z))))) (args := [a0, a1]) (by kernel_rfl) Tryz.func271 rfl (by kernel_rfl) rfl rfl rfl (Eq.mp (by kernel_rfl) h)

def Vcf.block_row_waits (P : Program) (a0 : Value) (w : World) (R : Value → World → Prop) : Prop :=
 Bn P 302 true a0 (.pointer none) fun x1=>Vif x1 (Nc a0<|Fo 3 a0 fun x2=>Ld x2 w fun x3=>Bp .gtr x3 (.int .i64 0) fun x4=>Vif x4 (R (.bool true) w) (Nc a0<|Fo 4 a0 fun x5=>Ld x5 w fun x6=>Bp .gtr x6 (.int .i64 0) fun x7=>R x7 w)) (R (.bool false) w)
theorem Tie.block_row_waits {a0 : Value} (h : Vcf.block_row_waits Tryz.prog a0 w R) : Cl Tryz.prog F.block_row_waits #[a0] w R :=
  cl_of_vc (n := 19) (rs := [(.tmp 2)]) (h := (.s .z (.s .z .z))) (args := [a0]) (by kernel_rfl) Tryz.func272 rfl (by kernel_rfl) rfl rfl rfl (Eq.mp (by kernel_rfl) h)

def Vcf.block_row_next (P : Program) (a0 : Value) (w : World) (R : Value → World → Prop) : Prop :=
 VJoin 1 (fun _ at_1 w1=>Nc a0<|Fo 2 a0 fun x2=>Ld x2 w1 fun x3=>Cl P F.mtf_List_At #[x3, at_1] w1 fun x4 w2=>Ex x4 0 fun x5=>Ex x4 1 fun x6=>R x5 w2) (fun J7=>Nc a0<|Fo 3 a0 fun x8=>Ld x8 w fun x9=>Bp .gtr x9 (.int .i64 0) fun x10=>Vif x10 (Nc a0<|Fo 3 a0 fun x11=>Ld x11 w fun x12=>Bp .sub x12 (.int .i64 1) fun x13=>Nc a0<|Fo 3 a0 fun x14=>St x14 x13 w fun w3=>KE [a0] [a0]<|J7 (.int .i64 0) w3) (Nc a0<|Fo 4 a0 fun x15=>Ld x15 w fun x16=>Nc a0<|Fo 4 a0 fun x17=>St x17 (.int .i64 0) w fun w4=>KE [a0] [a0]<|J7 x16 w4))
theorem Tie.block_row_next {a0 : Value} (h : Vcf.block_row_next Tryz.prog a0 w R) : Cl Tryz.prog F.block_row_next #[a0] w R :=
  cl_of_vc (n := 35) (rs := [(.tmp 2)]) (h := (.s .z (.s .z (.j [3] [0] (.s .z (.i .z (.s .z .z))) (.s .z (.s .z .z)))))) (args := [a0]) (by kernel_rfl) Tryz.func273 rfl (by kernel_rfl) rfl rfl rfl (Eq.mp (by kernel_rfl) h)

def Vcf.block_Reader_symbol (P : Program) (a0 a1 : Value) (w : World) (R : Value → World → Prop) : Prop :=
 Nc a0<|Fo 0 a0 fun x1=>Ld x1 w fun x2=>Nc x2<|Fo 0 x2 fun x3=>Ld x3 w fun x4=>Cl P F.code_Reader_Step #[x4, a1] w fun x5 w1=>Ex x5 0 fun x6=>Ex x5 1 fun x7=>VJoin 1 (fun _ x8 w2=>Vif x8 (R x7 w2) (Nc a0<|Fo 0 a0 fun x9=>Ld x9 w2 fun x10=>Cl P F.block_row_told #[x10, x6] w2 fun x11 w3=>R x11 w3)) (fun J12=>Bp .neq x7 (.int .i64 0) fun x13=>Vif x13 (KE [a0, x6, x7] [a0, x6, x7]<|J12 (.bool true) w1) (Bp .lss x6 (.int .i64 0) fun x14=>KE [a0, x6, x7] [a0, x6, x7]<|J12 x14 w1))
theorem Tie.block_Reader_symbol {a0 a1 : Value} (h : Vcf.block_Reader_symbol Tryz.prog a0 a1 w R) : Cl Tryz.prog F.block_Reader_symbol #[a0, a1] w R :=
  cl_of_vc (n := 32) (rs := [(.tmp 4)]) (h := (.s .z (.s .z (.s (.j [24] [0, 5, 6] .z (.i (.s .z .z) .z)) (.s .z .z))))) (args := [a0, a1]) (by kernel_rfl) Tryz.func274 rfl (by kernel_rfl) rfl rfl rfl (Eq.mp (by kernel_rfl) h)

def Vcf.block_Reader_end (P : Program) (a0 : Value) (w : World) (R : Value → World → Prop) : Prop :=
 VJoin 1 (fun _ x1 w1=>Vif x1 (R (.int .i64 0) w1) (Dr w1 fun w2=>Nc a0<|Fo 4 a0 fun x2=>Ld x2 w2 fun x3=>Nc a0<|Fo 5 a0 fun x5=>Ld x5 w2 fun x6=>Lnl x6 fun x8=>Bp .geq x3 x8 fun x10=>Vif x10 (R (.int .i64 23) w2) (Nc a0<|Fo 6 a0 fun x11=>St x11 (.bool true) w2 fun w3=>R (.int .i64 0) w3))) (fun J12=>Nc a0<|Fo 0 a0 fun x13=>Ld x13 w fun x14=>Bn P 302 false x14 (.pointer none) fun x15=>Vif x15 (KE [a0] [a0]<|J12 (.bool true) w) (Nc a0<|Fo 0 a0 fun x16=>Ld x16 w fun x17=>Nc x17<|Fo 0 x17 fun x18=>Ld x18 w fun x19=>Cl P F.code_Reader_Done #[x19] w fun x20 w4=>Up .not x20 fun x21=>Vif x21 (KE [a0] [a0]<|J12 (.bool true) w4) (Nc a0<|Fo 0 a0 fun x22=>Ld x22 w4 fun x23=>Cl P F.block_row_waits #[x23] w4 fun x24 w5=>KE [a0] [a0]<|J12 x24 w5)))
theorem Tie.block_Reader_end {a0 : Value} (h : Vcf.block_Reader_end Tryz.prog a0 w R) : Cl Tryz.prog F.block_Reader_end #[a0] w R :=
  cl_of_vc (n := 41) (rs := [(.tmp 2)]) (h := (.s .z (.s (.b (.j [3] [0] .z (.i (.s .z .z) (.s (.r (.staged [0, 1, 3, 7, 0, 16, 48, 112, 240, 511, 1023])) (.i (.s .z .z) .z))))) (.s .z (.s .z .z))))) (args := [a0]) (by kernel_rfl) Tryz.func275 rfl (by kernel_rfl) rfl rfl rfl (Eq.mp (by kernel_rfl) h)

def Vcf.used_Read (P : Program) (a0 : Value) (w : World) (R : Value → World → Prop) : Prop :=
 Cl P F.bits_Reader_At #[a0] w fun x1 w1=>Cl P F.used_read #[a0] w1 fun x2 w2=>Ex x2 0 fun x3=>Ex x2 1 fun x4=>Bp .neq x4 (.int .i64 0) fun x5=>Vif x5 (Cl P F.bits_Reader_Seek #[a0, x1] w2 fun x6 w3=>R (.tuple #[x3, x4]) w3) (R (.tuple #[x3, x4]) w2)
theorem Tie.used_Read {a0 : Value} (h : Vcf.used_Read Tryz.prog a0 w R) : Cl Tryz.prog F.used_Read #[a0] w R :=
  cl_of_vc (n := 21) (rs := [(.tmp 2), (.tmp 3)]) (h := (.s .z (.s .z (.s .z (.s (.s .z (.i .z .z)) (.s .z .z)))))) (args := [a0]) (by kernel_rfl) Tryz.func276 rfl (by kernel_rfl) rfl rfl rfl (Eq.mp (by kernel_rfl) h)

def Vcf.block_rowOf (P : Program) (a0 a1 : Value) (w : World) (R : Value → World → Prop) : Prop :=
 Lns a0 fun x1=>Bp .add x1 (.int .i64 2) fun x2=>Cl P F.code_NewReader #[x2] w fun x3 w1=>Ex x3 0 fun x4=>Ex x3 1 fun x5=>Lns a0 fun x6=>Cl P F.zeros_NewReader #[x6, a1] w1 fun x7 w2=>Ex x7 0 fun x8=>Ex x7 1 fun x9=>Cl P F.mtf_New #[a0] w2 fun x10 w3=>Ex x10 0 fun x11=>Ex x10 1 fun x12=>Bd P 302 #[(0, x4), (1, x8), (2, x11)] w3 fun x13=>New x13 302 w3 fun x14 w4=>R x14 w4
theorem Tie.block_rowOf {a0 a1 : Value} (h : Vcf.block_rowOf Tryz.prog a0 a1 w R) : Cl Tryz.prog F.block_rowOf #[a0, a1] w R :=
  cl_of_vc (n := 35) (rs := [(.tmp 4)]) (h := (.s .z (.s .z (.s .z (.s .z (.s .z .z)))))) (args := [a0, a1]) (by kernel_rfl) Tryz.func277 rfl (by kernel_rfl) rfl rfl rfl (Eq.mp (by kernel_rfl) h)

def Vcf.mtf_List_At (P : Program) (a0 a1 : Value) (w : World) (R : Value → World → Prop) : Prop :=
 Bn P 220 false a0 (.pointer none) fun x1=>Vif x1 (R (.tuple #[(.int .u8 0), (.int .i64 7)]) w) (VJoin 1 (fun _ x2 w1=>Vif x2 (R (.tuple #[(.int .u8 0), (.int .i64 1)]) w1) (Cl P F.mtf_List_touch #[a0, a1] w1 fun x3 w2=>R (.tuple #[x3, (.int .i64 0)]) w2)) (fun J4=>Bp .lss a1 (.int .i64 0) fun x5=>Vif x5 (KE [a0, a1] [a0, a1]<|J4 (.bool true) w) (Nc a0<|Fo 0 a0 fun x6=>Ld x6 w fun x7=>Lnl x7 fun x8=>Bp .geq a1 x8 fun x9=>KE [a0, a1] [a0, a1]<|J4 x9 w)))
theorem Tie.mtf_List_At {a0 a1 : Value} (h : Vcf.mtf_List_At Tryz.prog a0 a1 w R) : Cl Tryz.prog F.mtf_List_At #[a0, a1] w R :=
  cl_of_vc (n := 24) (rs := [(.tmp 4), (.tmp 5)]) (h := (.s .z (.s (.b (.s .z (.i (.s .z .z) (.j [9] [0, 1] .z (.i (.s .z .z) .z))))) (.s .z .z)))) (args := [a0, a1]) (by kernel_rfl) Tryz.func278 rfl (by kernel_rfl) rfl rfl rfl (Eq.mp (by kernel_rfl) h)

def Vcf.code_Reader_Step (P : Program) (a0 a1 : Value) (w : World) (R : Value → World → Prop) : Prop :=
 VJoin 1 (fun _ x1 w1=>Vif x1 (R (.tuple #[(.int .i64 0), (.int .i64 7)]) w1) (Nc a0<|Fo 7 a0 fun x2=>Ld x2 w1 fun x3=>Bp .neq x3 (.int .i64 0) fun x4=>Vif x4 (Dr w1 fun w2=>Nc a0<|Fo 7 a0 fun x5=>Ld x5 w2 fun x6=>R (.tuple #[(.int .i64 0), x6]) w2) (Mf P (.func 287) #[a0] #[] w1 fun x8=>VJoin 1 (fun _ step_9 w3=>Inv P (do let d ← Deferred.ofValue step_9 #[a1]; invoke d.target d.args) w3 fun x10 w4=>Ex x10 0 fun x11=>Ex x10 1 fun x12=>Bp .eql x12 (.int .i64 0) fun x13=>Vif x13 (R (.tuple #[x11, x12]) w4) (Bp .neq x12 (.int .i64 3) fun x14=>Vif x14 (Nc a0<|Fo 7 a0 fun x15=>St x15 x12 w4 fun w5=>R (.tuple #[(.int .i64 0), x12]) w5) (R (.tuple #[(.int .i64 0), x12]) w4))) (fun J16=>Nc a0<|Fo 1 a0 fun x17=>Ld x17 w1 fun x18=>Cl P F.picks_Reader_Done #[x18] w1 fun x19 w6=>Up .not x19 fun x20=>Vif x20 (Mf P (.func 289) #[a0] #[] w6 fun x21=>KE [a0, a1] [a0, a1]<|J16 x21 w6) (Dr w6 fun w7=>Nc a0<|Fo 4 a0 fun x22=>Ld x22 w7 fun x23=>Lnl x23 fun x25=>Nc a0<|Fo 1 a0 fun x27=>Ld x27 w7 fun x28=>Cl P F.picks_Reader_Tables #[x28] w7 fun x30 w8=>Rk (fun w K=>Lnl x23 fun x26=>K x26) x25 w8<|Rk (fun w K=>Ld x22 w fun x24=>K x24) x23 w8<|Bp .lss x25 x30 fun x31=>Vif x31 (Mf P (.func 291) #[a0] #[] w8 fun x32=>KE [a0, a1] [a0, a1]<|J16 x32 w8) (KE [a0, a1] [a0, a1]<|J16 x8 w8)))))) (fun J33=>Bn P 310 false a0 (.pointer none) fun x34=>Vif x34 (KE [a0, a1] [a0, a1]<|J33 (.bool true) w) (Bn P 118 false a1 (.pointer none) fun x35=>Vif x35 (KE [a0, a1] [a0, a1]<|J33 (.bool true) w) (Nc a0<|Fo 6 a0 fun x36=>Ld x36 w fun x37=>KE [a0, a1] [a0, a1]<|J33 x37 w)))
theorem Tie.code_Reader_Step {a0 a1 : Value} (h : Vcf.code_Reader_Step Tryz.prog a0 a1 w R) : Cl Tryz.prog F.code_Reader_Step #[a0, a1] w R :=
  cl_of_vc (n := 74) (rs := [(.tmp 4), (.tmp 5)]) (h := (.s .z (.s (.b (.j [9] [0, 1] .z (.i (.s .z .z) (.s .z (.i (.s (.r (.staged [0, 1, 3, 7, 0, 31])) .z) .z))))) (.s .z (.j [6] [0, 1] (.b (.s .z (.i .z (.s (.r (.staged [0, 1, 3, 7, 15, 0, 32, 96, 224, 480, 1023, 2047])) (.i .z .z))))) (.s .z (.s (.s .z (.i (.s .z .z) .z)) (.s (.s .z (.i .z .z)) (.s .z .z))))))))) (args := [a0, a1]) (by kernel_rfl) Tryz.func279 rfl (by kernel_rfl) rfl rfl rfl (Eq.mp (by kernel_rfl) h)

def Vcf.block_row_told (P : Program) (a0 a1 : Value) (w : World) (R : Value → World → Prop) : Prop :=
 Nc a0<|Fo 1 a0 fun x1=>Ld x1 w fun x2=>Cl P F.zeros_Reader_Put #[x2, a1] w fun x3 w1=>Ex x3 0 fun x4=>Ex x3 1 fun x5=>Ex x3 2 fun x6=>Bp .neq x6 (.int .i64 0) fun x7=>Vif x7 (R (.int .i64 25) w1) (Nc a0<|Fo 3 a0 fun x8=>St x8 x4 w1 fun w2=>Bmax P #[3, 3] 3 #[x5, (.int .i64 0)] w2 fun x9=>Nc a0<|Fo 4 a0 fun x10=>St x10 x9 w2 fun w3=>R (.int .i64 0) w3)
theorem Tie.block_row_told {a0 a1 : Value} (h : Vcf.block_row_told Tryz.prog a0 a1 w R) : Cl Tryz.prog F.block_row_told #[a0, a1] w R :=
  cl_of_vc (n := 29) (rs := [(.tmp 4)]) (h := (.s .z (.s .z (.s (.s .z (.i (.s .z .z) .z)) (.s .z (.s .z (.s .z .z))))))) (args := [a0, a1]) (by kernel_rfl) Tryz.func280 rfl (by kernel_rfl) rfl rfl rfl (Eq.mp (by kernel_rfl) h)

def Vcf.code_Reader_Done (P : Program) (a0 : Value) (w : World) (R : Value → World → Prop) : Prop :=
 Bn P 310 true a0 (.pointer none) fun x1=>Vif x1 (Nc a0<|Fo 6 a0 fun x2=>Ld x2 w fun x3=>R x3 w) (R (.bool false) w)
theorem Tie.code_Reader_Done {a0 : Value} (h : Vcf.code_Reader_Done Tryz.prog a0 w R) : Cl Tryz.prog F.code_Reader_Done #[a0] w R :=
  cl_of_vc (n := 11) (rs := [(.tmp 2)]) (h := (.s .z (.s .z .z))) (args := [a0]) (by kernel_rfl) Tryz.func281 rfl (by kernel_rfl) rfl rfl rfl (Eq.mp (by kernel_rfl) h)

def Vcf.bits_Reader_At (P : Program) (a0 : Value) (w : World) (R : Value → World → Prop) : Prop :=
 Bn P 118 false a0 (.pointer none) fun x1=>Vif x1 (R (.int .i64 0) w) (Nc a0<|Fo 2 a0 fun x2=>Ld x2 w fun x3=>R x3 w)
theorem Tie.bits_Reader_At {a0 : Value} (h : Vcf.bits_Reader_At Tryz.prog a0 w R) : Cl Tryz.prog F.bits_Reader_At #[a0] w R :=
  cl_of_vc (n := 9) (rs := [(.tmp 2)]) (h := (.s .z (.s (.s .z (.i (.s .z .z) .z)) (.s .z .z)))) (args := [a0]) (by kernel_rfl) Tryz.func282 rfl (by kernel_rfl) rfl rfl rfl (Eq.mp (by kernel_rfl) h)

def Vcf.used_read (P : Program) (a0 : Value) (w : World) (R : Value → World → Prop) : Prop :=
 Cl P F.bits_Reader_Get #[a0, (.int .i64 16)] w fun x1 w1=>Ex x1 0 fun x2=>Ex x1 1 fun x3=>Bp .neq x3 (.int .i64 0) fun x4=>Vif x4 (R (.tuple #[(.string ⟨#[]⟩), x3]) w1) (New (zeroP P 193) 193 w1 fun there_5 w2=>Cl P F.used_marks #[x2] w2 fun x6 w3=>Lnl x6 fun x7=>VLoop 1 [(.int .i64 0)] w3 fun _ next9 x8 w4=>Bp .lss x8 x7 fun x10=>Vif x10 (Ias 1 x6 x8 fun x11=>Ld x11 w4 fun x12=>Cl P F.bits_Reader_Get #[a0, (.int .i64 16)] w4 fun x13 w5=>Ex x13 0 fun x14=>Ex x13 1 fun x15=>Bp .neq x15 (.int .i64 0) fun x16=>Vif x16 (R (.tuple #[(.string ⟨#[]⟩), x15]) w5) (Cl P F.used_marks #[x14] w5 fun x17 w6=>Lnl x17 fun x18=>VLoop 1 [(.int .i64 0)] w6 fun _ next20 x19 w7=>Bp .lss x19 x18 fun x21=>Vif x21 (Ias 1 x17 x19 fun x22=>Ld x22 w7 fun x23=>Bp .mul (.int .i64 16) x12 fun x24=>Bp .add x24 x23 fun x25=>Iaa 256 1 there_5 x25 fun x26=>St x26 (.bool true) w7 fun w8=>Bp .add x19 (.int .i64 1) fun x27=>KE [a0, there_5, x12, x6, x7, x8, x17, x18] [a0, there_5, x12, x6, x7, x8, x17, x18]<|next20 x27 w8) (Bp .add x8 (.int .i64 1) fun x28=>KE [a0, there_5, x6, x7] [a0, there_5, x6, x7]<|next9 x28 w7))) (LdA 256 there_5 w4 fun x29=>Cl P F.used_listed #[x29] w4 fun x30 w9=>Bp .eql x30 (.string ⟨#[]⟩) fun x31=>Vif x31 (R (.tuple #[(.string ⟨#[]⟩), (.int .i64 25)]) w9) (R (.tuple #[x30, (.int .i64 0)]) w9)))
theorem Tie.used_read {a0 : Value} (h : Vcf.used_read Tryz.prog a0 w R) : Cl Tryz.prog F.used_read #[a0] w R :=
  cl_of_vc (n := 56) (rs := [(.tmp 2), (.tmp 3)]) (h := (.s .z (.s .z (.s (.s .z (.i (.s .z .z) .z)) (.s .z (.s (.s .z (.b (.l [25] [0, 6, 23, 24] (.s .z (.s (.i .z .z) (.s (.b (.s .z (.s .z (.s (.s .z (.i (.s .z .z) .z)) (.s .z (.b (.l [40] [0, 6, 8, 23, 24, 25, 38, 39] (.s .z (.s (.i .z .z) (.s (.b (.s .z .z)) .z)))))))))) .z)))))) (.s .z (.s (.s .z (.i (.s .z .z) .z)) (.s .z .z))))))))) (args := [a0]) (by kernel_rfl) Tryz.func283 rfl (by kernel_rfl) rfl rfl rfl (Eq.mp (by kernel_rfl) h)

def Vcf.bits_Reader_Seek (P : Program) (a0 a1 : Value) (w : World) (R : Value → World → Prop) : Prop :=
 Bn P 118 false a0 (.pointer none) fun x1=>Vif x1 (R (.int .i64 7) w) (VJoin 1 (fun _ x2 w1=>Vif x2 (R (.int .i64 1) w1) (Nc a0<|Fo 2 a0 fun x3=>St x3 a1 w1 fun w2=>R (.int .i64 0) w2)) (fun J4=>Nc a0<|Fo 1 a0 fun x5=>Ld x5 w fun x6=>Bp .mul (.int .i64 8) x6 fun x7=>Bp .lss a1 x7 fun x8=>Vif x8 (KE [a0, a1] [a0, a1]<|J4 (.bool true) w) (Cl P F.bits_Reader_end #[a0] w fun x9 w3=>Bp .gtr a1 x9 fun x10=>KE [a0, a1] [a0, a1]<|J4 x10 w3)))
theorem Tie.bits_Reader_Seek {a0 a1 : Value} (h : Vcf.bits_Reader_Seek Tryz.prog a0 a1 w R) : Cl Tryz.prog F.bits_Reader_Seek #[a0, a1] w R :=
  cl_of_vc (n := 26) (rs := [(.tmp 4)]) (h := (.s .z (.s (.b (.s .z (.i (.s .z .z) (.j [8] [0, 1] .z (.i (.s .z .z) .z))))) (.s .z (.s .z .z))))) (args := [a0, a1]) (by kernel_rfl) Tryz.func284 rfl (by kernel_rfl) rfl rfl rfl (Eq.mp (by kernel_rfl) h)

def Vcf.code_NewReader (P : Program) (a0 : Value) (w : World) (R : Value → World → Prop) : Prop :=
 Cl P F.delta_NewReader #[a0] w fun x1 w1=>Ex x1 0 fun x2=>Ex x1 1 fun x3=>Bp .neq x3 (.int .i64 0) fun x4=>Vif x4 (R (.tuple #[(.pointer none), x3]) w1) (Cl P F.picks_NewReader #[] w1 fun x5 w2=>Bd P 310 #[(0, a0), (1, x5), (3, x2)] w2 fun x6=>New x6 310 w2 fun x7 w3=>R (.tuple #[x7, (.int .i64 0)]) w3)
theorem Tie.code_NewReader {a0 : Value} (h : Vcf.code_NewReader Tryz.prog a0 w R) : Cl Tryz.prog F.code_NewReader #[a0] w R :=
  cl_of_vc (n := 19) (rs := [(.tmp 2), (.tmp 3)]) (h := (.s .z (.s .z (.s (.s .z (.i (.s .z .z) .z)) (.s .z .z))))) (args := [a0]) (by kernel_rfl) Tryz.func285 rfl (by kernel_rfl) rfl rfl rfl (Eq.mp (by kernel_rfl) h)

def Vcf.zeros_NewReader (P : Program) (a0 a1 : Value) (w : World) (R : Value → World → Prop) : Prop :=
 VJoin 1 (fun _ x1 w1=>Vif x1 (R (.tuple #[(.pointer none), (.int .i64 1)]) w1) (Bd P 337 #[(0, a0), (1, a1), (4, (.int .i64 1))] w1 fun x2=>New x2 337 w1 fun x3 w2=>R (.tuple #[x3, (.int .i64 0)]) w2)) (fun J4=>Cl P F.zeros_may #[a0] w fun x5 w3=>Up .not x5 fun x6=>Vif x6 (KE [a0, a1] [a0, a1]<|J4 (.bool true) w3) (Bp .lss a1 (.int .i64 0) fun x7=>Vif x7 (KE [a0, a1] [a0, a1]<|J4 (.bool true) w3) (Bp .gtr a1 (.int .i64 1099511627776) fun x8=>KE [a0, a1] [a0, a1]<|J4 x8 w3)))
theorem Tie.zeros_NewReader {a0 a1 : Value} (h : Vcf.zeros_NewReader Tryz.prog a0 a1 w R) : Cl Tryz.prog F.zeros_NewReader #[a0, a1] w R :=
  cl_of_vc (n := 21) (rs := [(.tmp 4), (.tmp 5)]) (h := (.s .z (.s (.j [16] [0, 1] .z (.i (.s .z .z) .z)) (.s .z .z)))) (args := [a0, a1]) (by kernel_rfl) Tryz.func286 rfl (by kernel_rfl) rfl rfl rfl (Eq.mp (by kernel_rfl) h)

def Vcf.code_Reader_symbol (P : Program) (a0 a1 : Value) (w : World) (R : Value → World → Prop) : Prop :=
 Nc a0<|Fo 5 a0 fun x1=>Ld x1 w fun x2=>Bp .quo x2 (.int .i64 50) fun x3=>Nc a0<|Fo 2 a0 fun x4=>Ld x4 w fun x5=>Lnl x5 fun x6=>Bp .geq x3 x6 fun x7=>Vif x7 (R (.tuple #[(.int .i64 (-1)), (.int .i64 25)]) w) (Dr w fun w1=>Nc a0<|Fo 4 a0 fun x8=>Ld x8 w1 fun x9=>Nc a0<|Fo 2 a0 fun x11=>Ld x11 w1 fun x12=>Ias 1 x12 x3 fun x14=>Ld x14 w1 fun x15=>Ias 1 x9 x15 fun x17=>Ld x17 w1 fun x18=>Cl P F.canon_Code_Get #[x18, a1] w1 fun x20 w2=>Ex x20 0 fun x21=>Ex x20 1 fun x22=>Bp .neq x22 (.int .i64 0) fun x23=>Vif x23 (R (.tuple #[(.int .i64 (-1)), x22]) w2) (Nc a0<|Fo 5 a0 fun x24=>Ld x24 w2 fun x25=>Bp .add x25 (.int .i64 1) fun x26=>Nc a0<|Fo 5 a0 fun x27=>St x27 x26 w2 fun w3=>Nc a0<|Fo 0 a0 fun x28=>Ld x28 w3 fun x29=>Bp .sub x29 (.int .i64 1) fun x30=>Bp .eql x21 x30 fun x31=>Nc a0<|Fo 6 a0 fun x32=>St x32 x31 w3 fun w4=>R (.tuple #[x21, (.int .i64 0)]) w4))
theorem Tie.code_Reader_symbol {a0 a1 : Value} (h : Vcf.code_Reader_symbol Tryz.prog a0 a1 w R) : Cl Tryz.prog F.code_Reader_symbol #[a0, a1] w R :=
  cl_of_vc (n := 60) (rs := [(.tmp 4), (.tmp 5)]) (h := (.s .z (.s .z (.s (.s .z (.i (.s .z .z) .z)) (.s (.r (.staged [0, 1, 3, 7, 0, 16, 48, 112, 0, 496, 1008, 2047, 4095, 0, 16383, 32767, 65535, 65535, 131071, 524287])) (.s (.s .z (.i (.s .z .z) .z)) (.s .z (.s .z (.s .z .z))))))))) (args := [a0, a1]) (by kernel_rfl) Tryz.func287 rfl (by kernel_rfl) rfl rfl rfl (Eq.mp (by kernel_rfl) h)

def Vcf.picks_Reader_Done (P : Program) (a0 : Value) (w : World) (R : Value → World → Prop) : Prop :=
 Dr w fun w1=>Bn P 313 true a0 (.pointer none) fun x1=>Vif x1 (Nc a0<|Fo 1 a0 fun x2=>Ld x2 w1 fun x3=>Bp .gtr x3 (.int .i64 0) fun x5=>Vif x5 (Nc a0<|Fo 8 a0 fun x6=>Ld x6 w1 fun x7=>Lnl x7 fun x9=>Nc a0<|Fo 1 a0 fun x11=>Ld x11 w1 fun x12=>Bp .eql x9 x12 fun x14=>R x14 w1) (R (.bool false) w1)) (R (.bool false) w1)
theorem Tie.picks_Reader_Done {a0 : Value} (h : Vcf.picks_Reader_Done Tryz.prog a0 w R) : Cl Tryz.prog F.picks_Reader_Done #[a0] w R :=
  cl_of_vc (n := 24) (rs := [(.tmp 2)]) (h := (.s .z (.s (.r (.staged [0, 1, 3, 7, 15, 31, 63, 127, 255, 511, 1023, 2047, 4095, 8191, 16383, 1023, 33791, 99327, 230399, 524287, 1048575, 2097151])) .z))) (args := [a0]) (by kernel_rfl) Tryz.func288 rfl (by kernel_rfl) rfl rfl rfl (Eq.mp (by kernel_rfl) h)

def Vcf.code_Reader_pick (P : Program) (a0 a1 : Value) (w : World) (R : Value → World → Prop) : Prop :=
 Nc a0<|Fo 1 a0 fun x1=>Ld x1 w fun x2=>Cl P F.picks_Reader_Step #[x2, a1] w fun x3 w1=>Nc a0<|Fo 1 a0 fun x4=>Ld x4 w1 fun x5=>Cl P F.picks_Reader_Done #[x5] w1 fun x6 w2=>Vif x6 (Nc a0<|Fo 1 a0 fun x7=>Ld x7 w2 fun x8=>Cl P F.picks_Reader_Picks #[x8] w2 fun x9 w3=>Nc a0<|Fo 2 a0 fun x10=>St x10 x9 w3 fun w4=>R (.tuple #[(.int .i64 (-1)), x3]) w4) (R (.tuple #[(.int .i64 (-1)), x3]) w2)
theorem Tie.code_Reader_pick {a0 a1 : Value} (h : Vcf.code_Reader_pick Tryz.prog a0 a1 w R) : Cl Tryz.prog F.code_Reader_pick #[a0, a1] w R :=
  cl_of_vc (n := 27) (rs := [(.tmp 4), (.tmp 5)]) (h := (.s .z (.s .z (.s (.s .z (.i .z .z)) (.s .z .z))))) (args := [a0, a1]) (by kernel_rfl) Tryz.func289 rfl (by kernel_rfl) rfl rfl rfl (Eq.mp (by kernel_rfl) h)

def Vcf.picks_Reader_Tables (P : Program) (a0 : Value) (w : World) (R : Value → World → Prop) : Prop :=
 Bn P 313 false a0 (.pointer none) fun x1=>Vif x1 (R (.int .i64 0) w) (Nc a0<|Fo 0 a0 fun x2=>Ld x2 w fun x3=>R x3 w)
theorem Tie.picks_Reader_Tables {a0 : Value} (h : Vcf.picks_Reader_Tables Tryz.prog a0 w R) : Cl Tryz.prog F.picks_Reader_Tables #[a0] w R :=
  cl_of_vc (n := 9) (rs := [(.tmp 2)]) (h := (.s .z (.s (.s .z (.i (.s .z .z) .z)) (.s .z .z)))) (args := [a0]) (by kernel_rfl) Tryz.func290 rfl (by kernel_rfl) rfl rfl rfl (Eq.mp (by kernel_rfl) h)

def Vcf.code_Reader_table (P : Program) (a0 a1 : Value) (w : World) (R : Value → World → Prop) : Prop :=
 Nc a0<|Fo 3 a0 fun x1=>Ld x1 w fun x2=>Cl P F.delta_Reader_Step #[x2, a1] w fun x3 w1=>VJoin 1 (fun _ x4 w2=>Vif x4 (R (.tuple #[(.int .i64 (-1)), x3]) w2) (Nc a0<|Fo 3 a0 fun x5=>Ld x5 w2 fun x6=>Cl P F.delta_Reader_Lens #[x6] w2 fun x7 w3=>Cl P F.canon_New #[x7] w3 fun x8 w4=>Ex x8 0 fun x9=>Ex x8 1 fun x10=>Bp .neq x10 (.int .i64 0) fun x11=>Vif x11 (R (.tuple #[(.int .i64 (-1)), x10]) w4) (Nc a0<|Fo 4 a0 fun x12=>Ld x12 w4 fun x13=>Bs P 210 1 #[(0, x9)] w4 fun x14 w5=>Ap P #[210, 210] 210 #[x13, x14] w5 fun x15 w6=>Nc a0<|Fo 4 a0 fun x16=>St x16 x15 w6 fun w7=>Nc a0<|Fo 0 a0 fun x17=>Ld x17 w7 fun x18=>Cl P F.delta_NewReader #[x18] w7 fun x19 w8=>Ex x19 0 fun x20=>Ex x19 1 fun x21=>Nc a0<|Fo 3 a0 fun x22=>St x22 x20 w8 fun w9=>R (.tuple #[(.int .i64 (-1)), (.int .i64 0)]) w9))) (fun J23=>Bp .neq x3 (.int .i64 0) fun x24=>Vif x24 (KE [a0, x3] [a0, x3]<|J23 (.bool true) w1) (Nc a0<|Fo 3 a0 fun x25=>Ld x25 w1 fun x26=>Cl P F.delta_Reader_Done #[x26] w1 fun x27 w10=>Up .not x27 fun x28=>KE [a0, x3] [a0, x3]<|J23 x28 w10))
theorem Tie.code_Reader_table {a0 a1 : Value} (h : Vcf.code_Reader_table Tryz.prog a0 a1 w R) : Cl Tryz.prog F.code_Reader_table #[a0, a1] w R :=
  cl_of_vc (n := 62) (rs := [(.tmp 4), (.tmp 5)]) (h := (.s .z (.s (.s .z (.j [26] [0, 6] .z (.i (.s .z .z) .z))) (.s .z (.s (.s .z (.i (.s .z .z) .z)) (.s .z (.s .z (.s .z (.s .z .z))))))))) (args := [a0, a1]) (by kernel_rfl) Tryz.func291 rfl (by kernel_rfl) rfl rfl rfl (Eq.mp (by kernel_rfl) h)

def Vcf.zeros_Reader_Put (P : Program) (a0 a1 : Value) (w : World) (R : Value → World → Prop) : Prop :=
 VJoin 1 (fun _ x1 w1=>Vif x1 (R (.tuple #[(.int .i64 0), (.int .i64 0), (.int .i64 7)]) w1) (VJoin 1 (fun _ x2 w2=>Vif x2 (R (.tuple #[(.int .i64 0), (.int .i64 0), (.int .i64 25)]) w2) (Bp .leq a1 (.int .i64 1) fun x3=>Vif x3 (Cl P F.zeros_Reader_more #[a0, a1] w2 fun x4 w3=>Bp .neq x4 (.int .i64 0) fun x5=>Vif x5 (R (.tuple #[(.int .i64 0), (.int .i64 0), x4]) w3) (R (.tuple #[(.int .i64 0), (.int .i64 (-1)), (.int .i64 0)]) w3)) (Bp .sub a1 (.int .i64 1) fun x6=>VJoin 1 (fun _ place_7 w4=>Nc a0<|Fo 3 a0 fun x8=>Ld x8 w4 fun x9=>Nc a0<|Fo 2 a0 fun x10=>Ld x10 w4 fun x11=>Bp .add x11 x9 fun x12=>Nc a0<|Fo 2 a0 fun x13=>St x13 x12 w4 fun w5=>Nc a0<|Fo 3 a0 fun x14=>St x14 (.int .i64 0) w5 fun w6=>Nc a0<|Fo 4 a0 fun x15=>St x15 (.int .i64 1) w6 fun w7=>R (.tuple #[x9, place_7, (.int .i64 0)]) w7) (fun J16=>Nc a0<|Fo 0 a0 fun x17=>Ld x17 w2 fun x18=>Bp .add x18 (.int .i64 1) fun x19=>Bp .eql a1 x19 fun x20=>Vif x20 (Nc a0<|Fo 5 a0 fun x21=>St x21 (.bool true) w2 fun w8=>KE [a0] [a0]<|J16 (.int .i64 (-1)) w8) (Dr w2 fun w9=>Cl P F.zeros_Reader_Count #[a0] w9 fun x22 w10=>Nc a0<|Fo 1 a0 fun x23=>Ld x23 w10 fun x24=>Rk (fun w K=>Ld x23 w fun x25=>K x25) x24 w9<|Bp .eql x22 x24 fun x27=>Vif x27 (R (.tuple #[(.int .i64 0), (.int .i64 0), (.int .i64 2)]) w10) (Nc a0<|Fo 2 a0 fun x28=>Ld x28 w10 fun x29=>Bp .add x29 (.int .i64 1) fun x30=>Nc a0<|Fo 2 a0 fun x31=>St x31 x30 w10 fun w11=>KE [a0] [a0]<|J16 x6 w11)))))) (fun J32=>Bp .lss a1 (.int .i64 0) fun x33=>Vif x33 (KE [a0, a1] [a0, a1]<|J32 (.bool true) w1) (Nc a0<|Fo 0 a0 fun x34=>Ld x34 w1 fun x35=>Bp .add x35 (.int .i64 1) fun x36=>Bp .gtr a1 x36 fun x37=>KE [a0, a1] [a0, a1]<|J32 x37 w1)))) (fun J38=>Bn P 337 false a0 (.pointer none) fun x39=>Vif x39 (KE [a0, a1] [a0, a1]<|J38 (.bool true) w) (Nc a0<|Fo 5 a0 fun x40=>Ld x40 w fun x41=>KE [a0, a1] [a0, a1]<|J38 x41 w))
theorem Tie.zeros_Reader_Put {a0 a1 : Value} (h : Vcf.zeros_Reader_Put Tryz.prog a0 a1 w R) : Cl Tryz.prog F.zeros_Reader_Put #[a0, a1] w R :=
  cl_of_vc (n := 84) (rs := [(.tmp 4), (.tmp 5), (.tmp 6)]) (h := (.s .z (.s (.b (.j [8] [0, 1] .z (.i (.s .z .z) (.j [17] [0, 1] .z (.i (.s .z .z) (.s .z (.i (.s (.s .z (.s .z (.i (.s .z .z) .z))) (.s .z .z)) .z))))))) (.s .z (.j [5] [0] (.s .z (.i (.s .z .z) (.s (.r (.staged [0, 1, 0, 4, 12, 28, 63])) (.i (.s .z .z) .z)))) (.s .z (.s .z (.s .z (.s .z (.s .z .z)))))))))) (args := [a0, a1]) (by kernel_rfl) Tryz.func292 rfl (by kernel_rfl) rfl rfl rfl (Eq.mp (by kernel_rfl) h)

def Vcf.used_marks (P : Program) (a0 : Value) (w : World) (R : Value → World → Prop) : Prop :=
 VLoop 2 [(.slice none 0 0), (.int .i64 0)] w fun _ next3 out_1 x2 w1=>Bp .lss x2 (.int .i64 16) fun x4=>Vif x4 (Bp .sub (.int .i64 15) x2 fun x5=>Bp .shr a0 x5 fun x6=>Bp .and x6 (.int .u32 1) fun x7=>Bp .eql x7 (.int .u32 1) fun x8=>Vif x8 (Bs P 152 1 #[(0, x2)] w1 fun x9 w2=>Ap P #[152, 152] 152 #[out_1, x9] w2 fun x10 w3=>Bp .add x2 (.int .i64 1) fun x11=>KE [a0] [a0]<|next3 x10 x11 w3) (Bp .add x2 (.int .i64 1) fun x12=>KE [a0] [a0]<|next3 out_1 x12 w1)) (R out_1 w1)
theorem Tie.used_marks {a0 : Value} (h : Vcf.used_marks Tryz.prog a0 w R) : Cl Tryz.prog F.used_marks #[a0] w R :=
  cl_of_vc (n := 20) (rs := [(.tmp 2)]) (h := (.s .z (.s .z (.s (.s .z (.b (.l [3, 5] [0] (.s .z (.s (.i .z .z) (.s (.b (.s .z (.s .z (.i .z .z)))) .z)))))) (.s .z .z))))) (args := [a0]) (by kernel_rfl) Tryz.func293 rfl (by kernel_rfl) rfl rfl rfl (Eq.mp (by kernel_rfl) h)

def Vcf.delta_NewReader (P : Program) (a0 : Value) (w : World) (R : Value → World → Prop) : Prop :=
 Cl P F.delta_sized #[a0] w fun x1 w1=>Up .not x1 fun x2=>Vif x2 (R (.tuple #[(.pointer none), (.int .i64 1)]) w1) (Bd P 339 #[(0, a0)] w1 fun x3=>New x3 339 w1 fun x4 w2=>R (.tuple #[x4, (.int .i64 0)]) w2)
theorem Tie.delta_NewReader {a0 : Value} (h : Vcf.delta_NewReader Tryz.prog a0 w R) : Cl Tryz.prog F.delta_NewReader #[a0] w R :=
  cl_of_vc (n := 10) (rs := [(.tmp 2), (.tmp 3)]) (h := (.s .z (.s (.s .z (.i (.s .z .z) .z)) (.s .z .z)))) (args := [a0]) (by kernel_rfl) Tryz.func294 rfl (by kernel_rfl) rfl rfl rfl (Eq.mp (by kernel_rfl) h)

def Vcf.picks_NewReader (P : Program) (w : World) (R : Value → World → Prop) : Prop :=
 Cl P F.picks_fresh #[] w fun x1 w1=>Bd P 313 #[(2, x1)] w1 fun x2=>New x2 313 w1 fun x3 w2=>R x3 w2
theorem Tie.picks_NewReader (h : Vcf.picks_NewReader Tryz.prog w R) : Cl Tryz.prog F.picks_NewReader #[] w R :=
  cl_of_vc (n := 4) (rs := [(.tmp 0)]) (h := (.s .z (.s .z .z))) (args := []) (by kernel_rfl) Tryz.func295 rfl (by kernel_rfl) rfl rfl rfl (Eq.mp (by kernel_rfl) h)

def Vcf.canon_Code_Get (P : Program) (a0 a1 : Value) (w : World) (R : Value → World → Prop) : Prop :=
 VJoin 1 (fun _ x1 w1=>Vif x1 (R (.tuple #[(.int .i64 0), (.int .i64 7)]) w1) (Cl P F.bits_Reader_At #[a1] w1 fun x2 w2=>Cl P F.canon_Code_get #[a0, a1] w2 fun x3 w3=>Ex x3 0 fun x4=>Ex x3 1 fun x5=>Bp .neq x5 (.int .i64 0) fun x6=>Vif x6 (Cl P F.bits_Reader_Seek #[a1, x2] w3 fun x7 w4=>R (.tuple #[x4, x5]) w4) (R (.tuple #[x4, x5]) w3))) (fun J8=>Bn P 233 false a0 (.pointer none) fun x9=>Vif x9 (KE [a0, a1] [a0, a1]<|J8 (.bool true) w) (Bn P 118 false a1 (.pointer none) fun x10=>KE [a0, a1] [a0, a1]<|J8 x10 w))
theorem Tie.canon_Code_Get {a0 a1 : Value} (h : Vcf.canon_Code_Get Tryz.prog a0 a1 w R) : Cl Tryz.prog F.canon_Code_Get #[a0, a1] w R :=
  cl_of_vc (n := 30) (rs := [(.tmp 4), (.tmp 5)]) (h := (.s .z (.s (.j [14] [0, 1] .z (.i (.s .z .z) .z)) (.s .z (.s .z (.s (.s .z (.i .z .z)) (.s .z .z))))))) (args := [a0, a1]) (by kernel_rfl) Tryz.func296 rfl (by kernel_rfl) rfl rfl rfl (Eq.mp (by kernel_rfl) h)

def Vcf.picks_Reader_Step (P : Program) (a0 a1 : Value) (w : World) (R : Value → World → Prop) : Prop :=
 VJoin 1 (fun _ x1 w1=>Vif x1 (R (.int .i64 7) w1) (Nc a0<|Fo 9 a0 fun x2=>Ld x2 w1 fun x3=>Vif x3 (R (.int .i64 25) w1) (Cl P F.bits_Reader_At #[a1] w1 fun x4 w2=>Mf P (.func 304) #[a0] #[] w2 fun x5=>VJoin 1 (fun _ step_6 w3=>Inv P (do let d ← Deferred.ofValue step_6 #[a1]; invoke d.target d.args) w3 fun x7 w4=>Bp .eql x7 (.int .i64 3) fun x8=>Vif x8 (Cl P F.bits_Reader_Seek #[a1, x4] w4 fun x9 w5=>R x7 w5) (R x7 w4)) (fun J10=>Nc a0<|Fo 1 a0 fun x11=>Ld x11 w2 fun x12=>Bp .eql x12 (.int .i64 0) fun x13=>Vif x13 (Mf P (.func 305) #[a0] #[] w2 fun x14=>KE [a1, x4] [a1, x4]<|J10 x14 w2) (KE [a1, x4] [a1, x4]<|J10 x5 w2))))) (fun J15=>Bn P 313 false a0 (.pointer none) fun x16=>Vif x16 (KE [a0, a1] [a0, a1]<|J15 (.bool true) w) (Bn P 118 false a1 (.pointer none) fun x17=>Vif x17 (KE [a0, a1] [a0, a1]<|J15 (.bool true) w) (Cl P F.picks_Reader_Done #[a0] w fun x18 w6=>KE [a0, a1] [a0, a1]<|J15 x18 w6)))
theorem Tie.picks_Reader_Step {a0 a1 : Value} (h : Vcf.picks_Reader_Step Tryz.prog a0 a1 w R) : Cl Tryz.prog F.picks_Reader_Step #[a0, a1] w R :=
  cl_of_vc (n := 44) (rs := [(.tmp 4)]) (h := (.s .z (.s (.b (.j [8] [0, 1] .z (.i (.s .z .z) (.s .z (.i (.s .z .z) .z))))) (.s .z (.s .z (.j [6] [1, 5] (.s .z (.i .z .z)) (.s .z (.s (.s .z (.i .z .z)) (.s .z .z))))))))) (args := [a0, a1]) (by kernel_rfl) Tryz.func297 rfl (by kernel_rfl) rfl rfl rfl (Eq.mp (by kernel_rfl) h)

def Vcf.delta_Reader_Step (P : Program) (a0 a1 : Value) (w : World) (R : Value → World → Prop) : Prop :=
 VJoin 1 (fun _ x1 w1=>Vif x1 (R (.int .i64 7) w1) (Nc a0<|Fo 3 a0 fun x2=>Ld x2 w1 fun x3=>Vif x3 (R (.int .i64 22) w1) (Cl P F.bits_Reader_At #[a1] w1 fun x4 w2=>Cl P F.delta_Reader_step #[a0, a1] w2 fun x5 w3=>Bp .eql x5 (.int .i64 3) fun x6=>Vif x6 (Cl P F.bits_Reader_Seek #[a1, x4] w3 fun x7 w4=>R x5 w4) (R x5 w3)))) (fun J8=>Bn P 339 false a0 (.pointer none) fun x9=>Vif x9 (KE [a0, a1] [a0, a1]<|J8 (.bool true) w) (Bn P 118 false a1 (.pointer none) fun x10=>Vif x10 (KE [a0, a1] [a0, a1]<|J8 (.bool true) w) (Cl P F.delta_Reader_Done #[a0] w fun x11 w5=>KE [a0, a1] [a0, a1]<|J8 x11 w5)))
theorem Tie.delta_Reader_Step {a0 a1 : Value} (h : Vcf.delta_Reader_Step Tryz.prog a0 a1 w R) : Cl Tryz.prog F.delta_Reader_Step #[a0, a1] w R :=
  cl_of_vc (n := 34) (rs := [(.tmp 4)]) (h := (.s .z (.s (.b (.j [7] [0, 1] .z (.i (.s .z .z) (.s .z (.i (.s .z .z) .z))))) (.s .z (.s .z (.s (.s .z (.i .z .z)) (.s .z .z))))))) (args := [a0, a1]) (by kernel_rfl) Tryz.func298 rfl (by kernel_rfl) rfl rfl rfl (Eq.mp (by kernel_rfl) h)

def Vcf.delta_Reader_Done (P : Program) (a0 : Value) (w : World) (R : Value → World → Prop) : Prop :=
 Dr w fun w1=>Bn P 339 true a0 (.pointer none) fun x1=>Vif x1 (Nc a0<|Fo 2 a0 fun x2=>Ld x2 w1 fun x3=>Lnl x3 fun x5=>Nc a0<|Fo 0 a0 fun x7=>Ld x7 w1 fun x8=>Bp .eql x5 x8 fun x10=>R x10 w1) (R (.bool false) w1)
theorem Tie.delta_Reader_Done {a0 : Value} (h : Vcf.delta_Reader_Done Tryz.prog a0 w R) : Cl Tryz.prog F.delta_Reader_Done #[a0] w R :=
  cl_of_vc (n := 17) (rs := [(.tmp 2)]) (h := (.s .z (.s (.r (.staged [0, 1, 3, 7, 15, 31, 63, 127, 7, 263, 775, 1799, 4095, 8191, 16383])) .z))) (args := [a0]) (by kernel_rfl) Tryz.func299 rfl (by kernel_rfl) rfl rfl rfl (Eq.mp (by kernel_rfl) h)

def Vcf.delta_Reader_Lens (P : Program) (a0 : Value) (w : World) (R : Value → World → Prop) : Prop :=
 Bn P 339 false a0 (.pointer none) fun x1=>Vif x1 (R (.slice none 0 0) w) (Nc a0<|Fo 2 a0 fun x2=>Ld x2 w fun x3=>Cl P F.slices_Clone_int_int #[x3] w fun x4 w1=>R x4 w1)
theorem Tie.delta_Reader_Lens {a0 : Value} (h : Vcf.delta_Reader_Lens Tryz.prog a0 w R) : Cl Tryz.prog F.delta_Reader_Lens #[a0] w R :=
  cl_of_vc (n := 10) (rs := [(.tmp 2)]) (h := (.s .z (.s (.s .z (.i (.s .z .z) .z)) (.s .z .z)))) (args := [a0]) (by kernel_rfl) Tryz.func300 rfl (by kernel_rfl) rfl rfl rfl (Eq.mp (by kernel_rfl) h)

def Vcf.zeros_Reader_more (P : Program) (a0 a1 : Value) (w : World) (R : Value → World → Prop) : Prop :=
 Nc a0<|Fo 4 a0 fun x1=>Ld x1 w fun x2=>Bp .shl x2 a1 fun x3=>Dr w fun w1=>Nc a0<|Fo 1 a0 fun x4=>Ld x4 w1 fun x5=>Cl P F.zeros_Reader_Count #[a0] w1 fun x7 w2=>Rk (fun w K=>Ld x4 w fun x6=>K x6) x5 w2<|Bp .sub x5 x7 fun x8=>Bp .gtr x3 x8 fun x9=>Vif x9 (R (.int .i64 2) w2) (Nc a0<|Fo 3 a0 fun x10=>Ld x10 w2 fun x11=>Bp .add x11 x3 fun x12=>Nc a0<|Fo 3 a0 fun x13=>St x13 x12 w2 fun w3=>Nc a0<|Fo 4 a0 fun x14=>Ld x14 w3 fun x15=>Bp .mul x15 (.int .i64 2) fun x16=>Nc a0<|Fo 4 a0 fun x17=>St x17 x16 w3 fun w4=>R (.int .i64 0) w4)
theorem Tie.zeros_Reader_more {a0 a1 : Value} (h : Vcf.zeros_Reader_more Tryz.prog a0 a1 w R) : Cl Tryz.prog F.zeros_Reader_more #[a0, a1] w R :=
  cl_of_vc (n := 36) (rs := [(.tmp 4)]) (h := (.s .z (.s .z (.s (.s (.r (.staged [0, 0, 2, 6, 14, 0, 32, 126, 255])) (.i (.s .z .z) .z)) (.s .z (.s .z (.s .z .z))))))) (args := [a0, a1]) (by kernel_rfl) Tryz.func301 rfl (by kernel_rfl) rfl rfl rfl (Eq.mp (by kernel_rfl) h)

def Vcf.zeros_Reader_Count (P : Program) (a0 : Value) (w : World) (R : Value → World → Prop) : Prop :=
 Bn P 337 false a0 (.pointer none) fun x1=>Vif x1 (R (.int .i64 0) w) (Dr w fun w1=>Nc a0<|Fo 2 a0 fun x2=>Ld x2 w1 fun x3=>Nc a0<|Fo 3 a0 fun x5=>Ld x5 w1 fun x6=>Bp .add x3 x6 fun x8=>R x8 w1)
theorem Tie.zeros_Reader_Count {a0 : Value} (h : Vcf.zeros_Reader_Count Tryz.prog a0 w R) : Cl Tryz.prog F.zeros_Reader_Count #[a0] w R :=
  cl_of_vc (n := 14) (rs := [(.tmp 2)]) (h := (.s .z (.s (.s .z (.i (.s .z .z) .z)) (.s (.r (.staged [0, 1, 3, 7, 0, 16, 48, 112, 255, 511])) .z)))) (args := [a0]) (by kernel_rfl) Tryz.func302 rfl (by kernel_rfl) rfl rfl rfl (Eq.mp (by kernel_rfl) h)

def Vcf.canon_Code_get (P : Program) (a0 a1 : Value) (w : World) (R : Value → World → Prop) : Prop :=
 VLoop 2 [(.int .i64 0), (.int .i64 1)] w fun _ next3 code_1 n_2 w1=>Bp .leq n_2 (.int .i64 20) fun x4=>Vif x4 (Cl P F.bits_Reader_Get #[a1, (.int .i64 1)] w1 fun x5 w2=>Ex x5 0 fun x6=>Ex x5 1 fun x7=>Bp .neq x7 (.int .i64 0) fun x8=>Vif x8 (R (.tuple #[(.int .i64 0), x7]) w2) (Bp .mul (.int .i64 2) code_1 fun x9=>Ci .i64 x6 fun x10=>Bp .add x9 x10 fun x11=>Dr w2 fun w3=>Nc a0<|Fo 24 a0 fun x12=>Iaa 22 1 x12 n_2 fun x13=>Ld x13 w3 fun x14=>Bp .add x14 x11 fun x16=>Nc a0<|Fo 3 a0 fun x17=>Iaa 21 1 x17 n_2 fun x18=>Ld x18 w3 fun x19=>Bp .sub x16 x19 fun x21=>Bp .add n_2 (.int .i64 1) fun x22=>Nc a0<|Fo 24 a0 fun x23=>Iaa 22 1 x23 x22 fun x24=>Ld x24 w3 fun x25=>Bp .lss x21 x25 fun x26=>Vif x26 (Nc a0<|Fo 2 a0 fun x27=>Ld x27 w3 fun x28=>Ias 1 x28 x21 fun x29=>Ld x29 w3 fun x30=>R (.tuple #[x30, (.int .i64 0)]) w3) (Bp .add n_2 (.int .i64 1) fun x31=>KE [a0, a1] [a0, a1]<|next3 x11 x31 w3))) (R (.tuple #[(.int .i64 0), (.int .i64 22)]) w1)
theorem Tie.canon_Code_get {a0 a1 : Value} (h : Vcf.canon_Code_get Tryz.prog a0 a1 w R) : Cl Tryz.prog F.canon_Code_get #[a0, a1] w R :=
  cl_of_vc (n := 59) (rs := [(.tmp 4), (.tmp 5)]) (h := (.s .z (.s .z (.s (.s .z (.b (.l [6, 7] [0, 1] (.s (.s .z (.i .z .z)) (.s (.b (.s .z (.s (.s .z (.i (.s .z .z) .z)) (.s .z (.s (.r (.staged [0, 0, 1, 5, 15, 31, 0, 127, 0, 0, 256, 1280, 3840, 7936, 16383, 32767])) (.s .z (.i (.s .z .z) .z))))))) .z))))) (.s .z .z))))) (args := [a0, a1]) (by kernel_rfl) Tryz.func303 rfl (by kernel_rfl) rfl rfl rfl (Eq.mp (by kernel_rfl) h)

def Vcf.picks_Reader_pick (P : Program) (a0 a1 : Value) (w : World) (R : Value → World → Prop) : Prop :=
 Nc a0<|Fo 0 a0 fun x1=>Ld x1 w fun x2=>VLoop 1 [(.int .i64 0)] w fun _ next4 x3 w1=>Bp .lss x3 x2 fun x5=>Vif x5 (Cl P F.bits_Reader_Get #[a1, (.int .i64 1)] w1 fun x6 w2=>Ex x6 0 fun x7=>Ex x6 1 fun x8=>Bp .neq x8 (.int .i64 0) fun x9=>Vif x9 (R x8 w2) (Bp .eql x7 (.int .u32 0) fun x10=>Vif x10 (Dr w2 fun w3=>Nc a0<|Fo 8 a0 fun x11=>Ld x11 w3 fun x12=>Nc a0<|Fo 2 a0 fun x14=>Cl P F.picks_order_touch #[x14, x3] w3 fun x15 w4=>Rk (fun w K=>Ld x11 w fun x13=>K x13) x12 w4<|Bs P 152 1 #[(0, x15)] w4 fun x16 w5=>Rk (fun w K=>Ld x11 w fun x13=>K x13) x12 w5<|Ap P #[152, 152] 152 #[x12, x16] w5 fun x17 w6=>Nc a0<|Fo 8 a0 fun x18=>St x18 x17 w6 fun w7=>R (.int .i64 0) w7) (Bp .add x3 (.int .i64 1) fun x19=>KE [a0, a1, x2] [a0, a1, x2]<|next4 x19 w2))) (Cl P F.picks_Reader_fail #[a0] w1 fun x20 w8=>R x20 w8)
theorem Tie.picks_Reader_pick {a0 a1 : Value} (h : Vcf.picks_Reader_pick Tryz.prog a0 a1 w R) : Cl Tryz.prog F.picks_Reader_pick #[a0, a1] w R :=
  cl_of_vc (n := 42) (rs := [(.tmp 4)]) (h := (.s .z (.s (.s .z (.b (.l [12] [0, 1, 11] (.s .z (.s (.i .z .z) (.s (.b (.s .z (.s .z (.s (.s .z (.i (.s .z .z) .z)) (.s .z (.i (.s (.r (.staged [0, 0, 2, 6, 14, 0, 32, 96, 0, 480, 992, 2046, 4095, 8191, 16383])) (.s .z .z)) .z)))))) .z)))))) (.s .z .z)))) (args := [a0, a1]) (by kernel_rfl) Tryz.func304 rfl (by kernel_rfl) rfl rfl rfl (Eq.mp (by kernel_rfl) h)

def Vcf.picks_Reader_head (P : Program) (a0 a1 : Value) (w : World) (R : Value → World → Prop) : Prop :=
 Cl P F.bits_Reader_Get #[a1, (.int .i64 18)] w fun x1 w1=>Ex x1 0 fun x2=>Ex x1 1 fun x3=>Bp .neq x3 (.int .i64 0) fun x4=>Vif x4 (R x3 w1) (Bp .shr x2 (.int .u64 15) fun x5=>Ci .i64 x5 fun x6=>Bp .and x2 (.int .u32 32767) fun x7=>Ci .i64 x7 fun x8=>VJoin 1 (fun _ x9 w2=>Vif x9 (Cl P F.picks_Reader_fail #[a0] w2 fun x10 w3=>R x10 w3) (Nc a0<|Fo 0 a0 fun x11=>St x11 x6 w2 fun w4=>Nc a0<|Fo 1 a0 fun x12=>St x12 x8 w4 fun w5=>R (.int .i64 0) w5)) (fun J13=>Cl P F.picks_tabled #[x6] w1 fun x14 w6=>Up .not x14 fun x15=>Vif x15 (KE [a0, x6, x8] [a0, x6, x8]<|J13 (.bool true) w6) (Bp .eql x8 (.int .i64 0) fun x16=>KE [a0, x6, x8] [a0, x6, x8]<|J13 x16 w6)))
theorem Tie.picks_Reader_head {a0 a1 : Value} (h : Vcf.picks_Reader_head Tryz.prog a0 a1 w R) : Cl Tryz.prog F.picks_Reader_head #[a0, a1] w R :=
  cl_of_vc (n := 40) (rs := [(.tmp 4)]) (h := (.s .z (.s .z (.s (.s .z (.i (.s .z .z) .z)) (.s .z (.s (.j [29] [0, 7, 8] .z (.i (.s .z .z) .z)) (.s .z (.s .z (.s .z .z))))))))) (args := [a0, a1]) (by kernel_rfl) Tryz.func305 rfl (by kernel_rfl) rfl rfl rfl (Eq.mp (by kernel_rfl) h)

def Vcf.delta_Reader_step (P : Program) (a0 a1 : Value) (w : World) (R : Value → World → Prop) : Prop :=
 Nc a0<|Fo 1 a0 fun x1=>Ld x1 w fun x2=>Bp .eql x2 (.int .i64 0) fun x3=>Vif x3 (Cl P F.bits_Reader_Get #[a1, (.int .i64 5)] w fun x4 w1=>Ex x4 0 fun x5=>Ex x4 1 fun x6=>Bp .neq x6 (.int .i64 0) fun x7=>Vif x7 (R x6 w1) (Ci .i64 x5 fun x8=>Cl P F.delta_Reader_turned #[a0, x8] w1 fun x9 w2=>R x9 w2)) (Cl P F.bits_Reader_Get #[a1, (.int .i64 1)] w fun x10 w3=>Ex x10 0 fun x11=>Ex x10 1 fun x12=>Bp .neq x12 (.int .i64 0) fun x13=>Vif x13 (R x12 w3) (Bp .eql x11 (.int .u32 0) fun x14=>Vif x14 (Dr w3 fun w4=>Nc a0<|Fo 2 a0 fun x15=>Ld x15 w4 fun x16=>Nc a0<|Fo 1 a0 fun x18=>Ld x18 w4 fun x19=>Bs P 152 1 #[(0, x19)] w4 fun x21 w5=>Rk (fun w K=>Ld x15 w fun x17=>K x17) x16 w5<|Ap P #[152, 152] 152 #[x16, x21] w5 fun x22 w6=>Nc a0<|Fo 2 a0 fun x23=>St x23 x22 w6 fun w7=>R (.int .i64 0) w7) (Cl P F.bits_Reader_Get #[a1, (.int .i64 1)] w3 fun x24 w8=>Ex x24 0 fun x25=>Ex x24 1 fun x26=>Bp .neq x26 (.int .i64 0) fun x27=>Vif x27 (R x26 w8) (Nc a0<|Fo 1 a0 fun x28=>Ld x28 w8 fun x29=>Bp .add x29 (.int .i64 1) fun x30=>Ci .i64 x25 fun x31=>Bp .mul (.int .i64 2) x31 fun x32=>Bp .sub x30 x32 fun x33=>Cl P F.delta_Reader_turned #[a0, x33] w8 fun x34 w9=>R x34 w9))))
theorem Tie.delta_Reader_step {a0 a1 : Value} (h : Vcf.delta_Reader_step Tryz.prog a0 a1 w R) : Cl Tryz.prog F.delta_Reader_step #[a0, a1] w R :=
  cl_of_vc (n := 68) (rs := [(.tmp 4)]) (h := (.s .z (.s (.s .z (.i (.s .z (.s (.s .z (.i (.s .z .z) .z)) (.s .z .z))) .z)) (.s .z (.s (.s .z (.i (.s .z .z) .z)) (.s (.s .z (.i (.s (.r (.staged [0, 0, 2, 6, 14, 0, 32, 96, 224, 480, 1022, 2047, 4095, 8191])) (.s .z .z)) .z)) (.s .z (.s (.s .z (.i (.s .z .z) .z)) (.s .z .z))))))))) (args := [a0, a1]) (by kernel_rfl) Tryz.func306 rfl (by kernel_rfl) rfl rfl rfl (Eq.mp (by kernel_rfl) h)

def Vcf.picks_Reader_fail (P : Program) (a0 : Value) (w : World) (R : Value → World → Prop) : Prop :=
 Nc a0<|Fo 9 a0 fun x1=>St x1 (.bool true) w fun w1=>R (.int .i64 25) w1
theorem Tie.picks_Reader_fail {a0 : Value} (h : Vcf.picks_Reader_fail Tryz.prog a0 w R) : Cl Tryz.prog F.picks_Reader_fail #[a0] w R :=
  cl_of_vc (n := 6) (rs := [(.tmp 2)]) (h := (.s .z (.s .z (.s .z .z)))) (args := [a0]) (by kernel_rfl) Tryz.func307 rfl (by kernel_rfl) rfl rfl rfl (Eq.mp (by kernel_rfl) h)

def Vcf.delta_Reader_turned (P : Program) (a0 a1 : Value) (w : World) (R : Value → World → Prop) : Prop :=
 Cl P F.delta_length #[a1] w fun x1 w1=>Up .not x1 fun x2=>Vif x2 (Nc a0<|Fo 3 a0 fun x3=>St x3 (.bool true) w1 fun w2=>R (.int .i64 22) w2) (Nc a0<|Fo 1 a0 fun x4=>St x4 a1 w1 fun w3=>R (.int .i64 0) w3)
theorem Tie.delta_Reader_turned {a0 a1 : Value} (h : Vcf.delta_Reader_turned Tryz.prog a0 a1 w R) : Cl Tryz.prog F.delta_Reader_turned #[a0, a1] w R :=
  cl_of_vc (n := 15) (rs := [(.tmp 4)]) (h := (.s .z (.s (.s .z (.i (.s .z (.s .z .z)) .z)) (.s .z (.s .z .z))))) (args := [a0, a1]) (by kernel_rfl) Tryz.func308 rfl (by kernel_rfl) rfl rfl rfl (Eq.mp (by kernel_rfl) h)

def Vcf.tester_Tester_Done (P : Program) (a0 : Value) (w : World) (R : Value → World → Prop) : Prop :=
 Bn P 93 true a0 (.pointer none) fun x1=>Vif x1 (Nc a0<|Fo 0 a0 fun x2=>Fo 0 x2 fun x3=>Ld x3 w fun x4=>Cl P F.unpress_Expander_Done #[x4] w fun x5 w1=>R x5 w1) (R (.bool false) w)
theorem Tie.tester_Tester_Done {a0 : Value} (h : Vcf.tester_Tester_Done Tryz.prog a0 w R) : Cl Tryz.prog F.tester_Tester_Done #[a0] w R :=
  cl_of_vc (n := 13) (rs := [(.tmp 2)]) (h := (.s .z (.s .z .z))) (args := [a0]) (by kernel_rfl) Tryz.func309 rfl (by kernel_rfl) rfl rfl rfl (Eq.mp (by kernel_rfl) h)

def Vcf.tester_Tester_End (P : Program) (a0 : Value) (w : World) (R : Value → World → Prop) : Prop :=
 Bn P 93 false a0 (.pointer none) fun x1=>Vif x1 (R (.int .i64 7) w) (Nc a0<|Fo 0 a0 fun x2=>Fo 0 x2 fun x3=>Ld x3 w fun x4=>Cl P F.unpress_Expander_End #[x4] w fun x5 w1=>R x5 w1)
theorem Tie.tester_Tester_End {a0 : Value} (h : Vcf.tester_Tester_End Tryz.prog a0 w R) : Cl Tryz.prog F.tester_Tester_End #[a0] w R :=
  cl_of_vc (n := 11) (rs := [(.tmp 2)]) (h := (.s .z (.s (.s .z (.i (.s .z .z) .z)) (.s .z .z)))) (args := [a0]) (by kernel_rfl) Tryz.func310 rfl (by kernel_rfl) rfl rfl rfl (Eq.mp (by kernel_rfl) h)

def Vcf.tester_Tester_Feed (P : Program) (a0 a1 : Value) (w : World) (R : Value → World → Prop) : Prop :=
 Bn P 93 false a0 (.pointer none) fun x1=>Vif x1 (R (.int .i64 0) w) (Nc a0<|Fo 0 a0 fun x2=>Fo 0 x2 fun x3=>Ld x3 w fun x4=>Cl P F.unpress_Expander_Feed #[x4, a1] w fun x5 w1=>R x5 w1)
theorem Tie.tester_Tester_Feed {a0 a1 : Value} (h : Vcf.tester_Tester_Feed Tryz.prog a0 a1 w R) : Cl Tryz.prog F.tester_Tester_Feed #[a0, a1] w R :=
  cl_of_vc (n := 14) (rs := [(.tmp 4)]) (h := (.s .z (.s (.s .z (.i (.s .z .z) .z)) (.s .z .z)))) (args := [a0, a1]) (by kernel_rfl) Tryz.func312 rfl (by kernel_rfl) rfl rfl rfl (Eq.mp (by kernel_rfl) h)

def Vcf.tester_Tester_Step (P : Program) (a0 a1 : Value) (w : World) (R : Value → World → Prop) : Prop :=
 Bn P 93 false a0 (.pointer none) fun x1=>Vif x1 (R (.int .i64 0) w) (VLoop 1 [(.int .i64 0)] w fun _ next3 gone_2 w1=>VJoin 1 (fun _ x4 w2=>Vif x4 (Nc a0<|Fo 0 a0 fun x5=>Fo 0 x5 fun x6=>Ld x6 w2 fun x7=>Bp .sub a1 gone_2 fun x8=>Cl P F.unpress_Expander_Step #[x7, x8] w2 fun x9 w3=>Bp .add gone_2 x9 fun x10=>VJoin 1 (fun _ x11 w4=>Vif x11 (Nc a0<|Fo 0 a0 fun x12=>Cl P F.tester_counted_forget #[x12] w4 fun x13 w5=>KE [a0, a1] [a0, a1]<|next3 x10 w5) (KE [a0, a1] [a0, a1]<|next3 x10 w4)) (fun J14=>Nc a0<|Fo 0 a0 fun x15=>Fo 0 x15 fun x16=>Ld x16 w3 fun x17=>Cl P F.unpress_Expander_Waiting #[x17] w3 fun x18 w6=>Bp .geq x18 (.int .i64 4096) fun x19=>Vif x19 (KE [a0, a1, x10] [a0, a1, x10]<|J14 (.bool true) w6) (Nc a0<|Fo 0 a0 fun x20=>Fo 0 x20 fun x21=>Ld x21 w6 fun x22=>Cl P F.unpress_Expander_Done #[x22] w6 fun x23 w7=>KE [a0, a1, x10] [a0, a1, x10]<|J14 x23 w7))) (Cl P F.tester_Tester_tell #[a0] w2 fun x24 w8=>R gone_2 w8)) (fun J25=>Bp .lss gone_2 a1 fun x26=>Vif x26 (Cl P F.tester_Tester_Stopped #[a0] w1 fun x27 w9=>Up .not x27 fun x28=>KE [a0, a1, gone_2] [a0, a1, gone_2]<|J25 x28 w9) (KE [a0, a1, gone_2] [a0, a1, gone_2]<|J25 (.bool false) w1)))
theorem Tie.tester_Tester_Step {a0 a1 : Value} (h : Vcf.tester_Tester_Step Tryz.prog a0 a1 w R) : Cl Tryz.prog F.tester_Tester_Step #[a0, a1] w R :=
  cl_of_vc (n := 49) (rs := [(.tmp 4)]) (h := (.s .z (.s (.s .z (.i (.s .z .z) .z)) (.s .z (.s (.b (.l [5] [0, 1] (.s (.j [15] [0, 1, 5] .z (.i .z .z)) (.b (.s .z (.j [41] [0, 1, 5] .z (.i .z .z))))))) (.s .z (.s .z .z))))))) (args := [a0, a1]) (by kernel_rfl) Tryz.func314 rfl (by kernel_rfl) rfl rfl rfl (Eq.mp (by kernel_rfl) h)

def Vcf.tester_Tester_Stopped (P : Program) (a0 : Value) (w : World) (R : Value → World → Prop) : Prop :=
 Bn P 93 false a0 (.pointer none) fun x1=>Vif x1 (R (.bool true) w) (Nc a0<|Fo 0 a0 fun x2=>Fo 0 x2 fun x3=>Ld x3 w fun x4=>Cl P F.unpress_Expander_Stopped #[x4] w fun x5 w1=>R x5 w1)
theorem Tie.tester_Tester_Stopped {a0 : Value} (h : Vcf.tester_Tester_Stopped Tryz.prog a0 w R) : Cl Tryz.prog F.tester_Tester_Stopped #[a0] w R :=
  cl_of_vc (n := 13) (rs := [(.tmp 2)]) (h := (.s .z (.s .z .z))) (args := [a0]) (by kernel_rfl) Tryz.func316 rfl (by kernel_rfl) rfl rfl rfl (Eq.mp (by kernel_rfl) h)

def Vcf.tester_Tester_tell (P : Program) (a0 : Value) (w : World) (R : Value → World → Prop) : Prop :=
 VJoin 1 (fun _ x1 w1=>Vif x1 (Nc a0<|Fo 3 a0 fun x2=>St x2 (.bool true) w1 fun w2=>Nc a0<|Fo 0 a0 fun x3=>Fo 1 x3 fun x4=>Ld x4 w2 fun x5=>Cl P F.tester_Digits #[x5] w2 fun x6 w3=>Nc a0<|Fo 2 a0 fun x7=>St x7 x6 w3 fun w4=>R (.tuple #[]) w4) (R (.tuple #[]) w1)) (fun J8=>Nc a0<|Fo 0 a0 fun x9=>Fo 0 x9 fun x10=>Ld x10 w fun x11=>Cl P F.unpress_Expander_Done #[x11] w fun x12 w5=>Vif x12 (Nc a0<|Fo 0 a0 fun x13=>Fo 0 x13 fun x14=>Ld x14 w5 fun x15=>Cl P F.unpress_Expander_Err #[x15] w5 fun x16 w6=>Bp .eql x16 (.int .i64 0) fun x17=>Vif x17 (Nc a0<|Fo 3 a0 fun x18=>Ld x18 w6 fun x19=>Up .not x19 fun x20=>KE [a0] [a0]<|J8 x20 w6) (KE [a0] [a0]<|J8 (.bool false) w6)) (KE [a0] [a0]<|J8 (.bool false) w5))
theorem Tie.tester_Tester_tell {a0 : Value} (h : Vcf.tester_Tester_tell Tryz.prog a0 w R) : Cl Tryz.prog F.tester_Tester_tell #[a0] w R :=
  cl_of_vc (n := 36) (rs := []) (h := (.j [23] [0] .z (.i (.s .z .z) .z))) (args := [a0]) (by kernel_rfl) Tryz.func319 rfl (by kernel_rfl) rfl rfl rfl (Eq.mp (by kernel_rfl) h)

def Vcf.tester_counted_forget (P : Program) (a0 : Value) (w : World) (R : Value → World → Prop) : Prop :=
 Dr w fun w1=>Nc a0<|Fo 1 a0 fun x1=>Ld x1 w1 fun x2=>Nc a0<|Fo 0 a0 fun x4=>Ld x4 w1 fun x5=>Nc a0<|Fo 0 a0 fun x7=>Ld x7 w1 fun x8=>Cl P F.unpress_Expander_Waiting #[x8] w1 fun x10 w2=>Rk (fun w K=>Ld x4 w fun x6=>K x6) x5 w2<|Rk (fun w K=>Ld x1 w fun x3=>K x3) x2 w2<|Cl P F.unpress_Expander_Take #[x5, x10] w2 fun x11 w3=>Rk (fun w K=>Ld x1 w fun x3=>K x3) x2 w3<|Lns x11 fun x12=>Bp .add x2 x12 fun x14=>Nc a0<|Fo 1 a0 fun x15=>St x15 x14 w3 fun w4=>R (.tuple #[]) w4
theorem Tie.tester_counted_forget {a0 : Value} (h : Vcf.tester_counted_forget Tryz.prog a0 w R) : Cl Tryz.prog F.tester_counted_forget #[a0] w R :=
  cl_of_vc (n := 20) (rs := []) (h := (.r (.staged [0, 1, 3, 7, 0, 16, 48, 112, 0, 256, 768, 1792, 3840, 8176, 16368, 32767, 65535, 131071, 262143]))) (args := [a0]) (by kernel_rfl) Tryz.func320 rfl (by kernel_rfl) rfl rfl rfl (Eq.mp (by kernel_rfl) h)

def Vcf.tester_Digits (P : Program) (a0 : Value) (w : World) (R : Value → World → Prop) : Prop :=
 Bp .lss a0 (.int .i64 10) fun x1=>Vif x1 (Bmax P #[3, 3] 3 #[a0, (.int .i64 0)] w fun x2=>Bp .add (.int .i64 48) x2 fun x3=>Ci .u8 x3 fun x4=>Bs P 44 1 #[(0, x4)] w fun x5 w1=>Cw P 44 9 x5 w1 fun x6 w2=>R x6 w2) (Dr w fun w3=>Bp .quo a0 (.int .i64 10) fun x7=>Bp .rem a0 (.int .i64 10) fun x8=>Bp .add (.int .i64 48) x8 fun x9=>Ci .u8 x9 fun x10=>(Cl P F.tester_Digits #[x7] w3 fun x11 w4=>Bs P 44 1 #[(0, x10)] w4 fun x12 w5=>Cv P 44 9 x12 w5 fun x13=>Bp .add x11 x13 fun x15=>R x15 w5) ∧ (Bs P 44 1 #[(0, x10)] w3 fun x16 w6=>Cv P 44 9 x16 w6 fun x17=>Cl P F.tester_Digits #[x7] w6 fun x19 w7=>Rk (fun w K=>Cv P 44 9 x16 w fun x18=>K x18) x17 w7<|Bp .add x19 x17 fun x20=>R x20 w7))
theorem Tie.tester_Digits {a0 : Value} (h : Vcf.tester_Digits Tryz.prog a0 w R) : Cl Tryz.prog F.tester_Digits #[a0] w R :=
  cl_of_vc (n := 21) (rs := [(.tmp 2)]) (h := (.s .z (.s (.s .z (.i (.s .z .z) .z)) (.s (.r (.tree [0, 1, 3, 0, 8, 24, 56, 120, 248, 511, 1023] (.op 0 (.op 1 (.op 3 (.op 4 (.op 5 (.op 6 (.fk (.op 2 (.op 7 (.op 8 (.op 9 (.op 10 .dn))))) (.op 7 (.op 8 (.op 2 (.op 9 (.op 10 .dn)))))))))))))) .z)))) (args := [a0]) (by kernel_rfl) Tryz.func321 rfl (by kernel_rfl) rfl rfl rfl (Eq.mp (by kernel_rfl) h)

end Go.Proofs.YtpbbfonfakjecaaGreat
