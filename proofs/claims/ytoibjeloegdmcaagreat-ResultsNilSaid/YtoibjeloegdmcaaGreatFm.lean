/- Formulas of the program's functions, printed by a program of the prover's own (dec.py); each is tied to its code by the kernel. -/
import Derived.Test.YtoibjeloegdmcaaGreatVc
import Derived.Test.YtoibjeloegdmcaaGreatChecked
set_option linter.unusedVariables false
set_option maxRecDepth 1000000
namespace Go.Proofs.YtoibjeloegdmcaaGreat
open Go Go.Vc

abbrev F.main_main : Nat := 0
abbrev F.gosem_cut : Nat := 1
abbrev F.gosem_cut_init : Nat := 2
abbrev F.balerlaw26_JobNil : Nat := 3
abbrev F.balerlaw26_JobNews : Nat := 4
abbrev F.balerlaw39_ResultsNil : Nat := 5
abbrev F.job_Job_Kind : Nat := 6
abbrev F.job_Job_Feed : Nat := 7
abbrev F.job_Job_End : Nat := 8
abbrev F.job_Job_Step : Nat := 9
abbrev F.job_Job_Stopped : Nat := 10
abbrev F.job_Job_Take : Nat := 11
abbrev F.job_Job_Waiting : Nat := 12
abbrev F.job_Job_Done : Nat := 13
abbrev F.job_Job_Err : Nat := 14
abbrev F.job_Job_Count : Nat := 15
abbrev F.job_Job_Finished : Nat := 16
abbrev F.job_Job_Steps : Nat := 17
abbrev F.job_Job_Held : Nat := 18
abbrev F.balerlaw26_three : Nat := 19
abbrev F.job_New : Nat := 20
abbrev F.job_Need : Nat := 21
abbrev F.balerlaw26_Setup_may : Nat := 22
abbrev F.balerlaw26_Setup_need : Nat := 23
abbrev F.results_Stream_Next : Nat := 24
abbrev F.results_Stream_Grant : Nat := 25
abbrev F.results_Stream_Ready : Nat := 26
abbrev F.results_Stream_Credit : Nat := 27
abbrev F.results_Stream_Told : Nat := 28
abbrev F.balerlaw39_three : Nat := 29
abbrev F.job_Job_failed : Nat := 30
abbrev F.tester_Tester_Count : Nat := 31
abbrev F.job_Of : Nat := 32
abbrev F.balerref21_With : Nat := 33
abbrev F.job_machineOf : Nat := 34
abbrev F.press_Need : Nat := 35
abbrev F.unpress_Need : Nat := 36
abbrev F.tester_Need : Nat := 37
abbrev F.balerref26_May : Nat := 38
abbrev F.balerref26_Need : Nat := 39
abbrev F.results_Stream_next : Nat := 40
abbrev F.results_least : Nat := 41
abbrev F.results_New : Nat := 42
abbrev F.strings_Builder_WriteString : Nat := 43
abbrev F.strings_Builder_String : Nat := 44
abbrev F.balerref21_Head : Nat := 45
abbrev F.balerref19_Of : Nat := 46
abbrev F.balerref20_Write : Nat := 47
abbrev F.balerref19_Block_Sum : Nat := 48
abbrev F.balerref01_Pack : Nat := 49
abbrev F.balerref21_Tail : Nat := 50
abbrev F.press_New : Nat := 51
abbrev F.unpress_New : Nat := 52
abbrev F.tester_New : Nat := 53
abbrev F.split_Room : Nat := 54
abbrev F.press_windowed : Nat := 55
abbrev F.stream_Most : Nat := 56
abbrev F.unstream_New : Nat := 57
abbrev F.unpress_may : Nat := 58
abbrev F.balerref23_May : Nat := 59
abbrev F.balerref24_May : Nat := 60
abbrev F.balerref23_Need : Nat := 61
abbrev F.balerref24_Need : Nat := 62
abbrev F.balerref25_Need : Nat := 63
abbrev F.strings_Builder_copyCheck : Nat := 64
abbrev F.balerref01_Bits : Nat := 65
abbrev F.balerref03_Pieces : Nat := 66
abbrev F.balerref03_Piece : Nat := 67
abbrev F.balerref17_Of : Nat := 68
abbrev F.balerref20_Bits : Nat := 69
abbrev F.balerref02_Of : Nat := 70
abbrev F.balerref01_Bytes : Nat := 71
abbrev F.balerref01_Padded : Nat := 72
abbrev F.balerref01_Field : Nat := 73
abbrev F.balerref02_Stream : Nat := 74
abbrev F.split_New : Nat := 75
abbrev F.stream_New : Nat := 76
abbrev F.stream_Writer_Take : Nat := 77
abbrev F.bits_NewReader : Nat := 78
abbrev F.balerref21_Level : Nat := 79
abbrev F.balerref21_Unit : Nat := 80
abbrev F.internal_abi_NoEscape : Nat := 81
abbrev F.balerref03_row : Nat := 82
abbrev F.balerref17_From : Nat := 83
abbrev F.balerref15_Sorted : Nat := 84
abbrev F.balerref05_Symbols : Nat := 85
abbrev F.balerref06_Encode : Nat := 86
abbrev F.balerref07_Encode : Nat := 87
abbrev F.balerref05_Bits : Nat := 88
abbrev F.balerref14_Bits : Nat := 89
abbrev F.balerref02_Step : Nat := 90
abbrev F.balerref01_Number : Nat := 91
abbrev F.balerref02_Combine : Nat := 92
abbrev F.crc_New : Nat := 93
abbrev F.feed_NewPacker : Nat := 94
abbrev F.bits_NewWriter : Nat := 95
abbrev F.bits_Writer_Put : Nat := 96
abbrev F.bits_Writer_Take : Nat := 97
abbrev F.balerref15_Rotation : Nat := 98
abbrev F.balerref15_Ahead : Nat := 99
abbrev F.balerref05_There : Nat := 100
abbrev F.balerref05_Is : Nat := 101
abbrev F.balerref06_Place : Nat := 102
abbrev F.balerref06_Touch : Nat := 103
abbrev F.balerref07_Row : Nat := 104
abbrev F.balerref12_Of : Nat := 105
abbrev F.balerref13_Bits : Nat := 106
abbrev F.balerref11_Bits : Nat := 107
abbrev F.balerref10_Codes : Nat := 108
abbrev F.balerref02_Bits : Nat := 109
abbrev F.crc_Table : Nat := 110
abbrev F.bits_fits : Nat := 111
abbrev F.bits_Writer_bit : Nat := 112
abbrev F.balerref12_First : Nat := 113
abbrev F.balerref08_Counts : Nat := 114
abbrev F.balerref08_Groups : Nat := 115
abbrev F.balerref12_pick : Nat := 116
abbrev F.balerref09_Of : Nat := 117
abbrev F.balerref10_next : Nat := 118
abbrev F.balerref12_Number : Nat := 119
abbrev F.balerref08_count : Nat := 120
abbrev F.balerref08_Cost : Nat := 121
abbrev F.balerref09_Depths : Nat := 122
abbrev F.balerref09_May : Nat := 123
abbrev F.balerref09_Halved : Nat := 124
abbrev F.balerref08_most : Nat := 125
abbrev F.balerref09_least : Nat := 126
abbrev F.balerref09_without : Nat := 127
abbrev F.balerref09_less : Nat := 128
abbrev F.runtime_boundsError_Error : Nat := 129
abbrev F.runtime_boundsError_RuntimeError : Nat := 130
abbrev F.runtime_errorString_Error : Nat := 131
abbrev F.runtime_errorString_RuntimeError : Nat := 132
abbrev F.runtime_plainError_Error : Nat := 133
abbrev F.runtime_plainError_RuntimeError : Nat := 134
abbrev F.runtime_errorAddressString_Error : Nat := 135
abbrev F.runtime_errorAddressString_RuntimeError : Nat := 136
abbrev F.runtime_TypeAssertionError_Error : Nat := 137
abbrev F.runtime_TypeAssertionError_RuntimeError : Nat := 138
abbrev F.runtime_PanicNilError_Error : Nat := 139
abbrev F.runtime_PanicNilError_RuntimeError : Nat := 140
abbrev F.internal_abi_Type_Align : Nat := 141
abbrev F.internal_runtime_maps_unhashableTypeError_Error : Nat := 142
abbrev F.internal_runtime_maps_unhashableTypeError_RuntimeError : Nat := 143
abbrev F.api_Errno_Error : Nat := 144
abbrev F.tester_Tester_Done : Nat := 145
abbrev F.tester_Tester_End : Nat := 146
abbrev F.tester_Tester_Err : Nat := 147
abbrev F.tester_Tester_Feed : Nat := 148
abbrev F.tester_Tester_Held : Nat := 149
abbrev F.tester_Tester_Step : Nat := 150
abbrev F.tester_Tester_Steps : Nat := 151
abbrev F.tester_Tester_Stopped : Nat := 152
abbrev F.tester_Tester_Take : Nat := 153
abbrev F.tester_Tester_Waiting : Nat := 154
abbrev F.tester_Tester_tell : Nat := 155
abbrev F.unpress_Expander_Done : Nat := 156
abbrev F.unpress_Expander_End : Nat := 157
abbrev F.unpress_Expander_Err : Nat := 158
abbrev F.unpress_Expander_Feed : Nat := 159
abbrev F.unpress_Expander_Held : Nat := 160
abbrev F.unpress_Expander_Step : Nat := 161
abbrev F.unpress_Expander_Waiting : Nat := 162
abbrev F.tester_counted_forget : Nat := 163
abbrev F.unpress_Expander_Steps : Nat := 164
abbrev F.unpress_Expander_Stopped : Nat := 165
abbrev F.tester_Digits : Nat := 166
abbrev F.bits_Reader_Held : Nat := 167
abbrev F.bits_Reader_More : Nat := 168
abbrev F.unstream_Reader_Held : Nat := 169
abbrev F.unbwt_Inverter_Held : Nat := 170
abbrev F.unpress_Expander_open : Nat := 171
abbrev F.unpress_Expander_read : Nat := 172
abbrev F.unpress_Expander_Take : Nat := 173
abbrev F.block_Reader_Held : Nat := 174
abbrev F.unpress_opening_step : Nat := 175
abbrev F.unpress_Expander_fail : Nat := 176
abbrev F.unbwt_Inverter_Done : Nat := 177
abbrev F.unstream_Reader_MayEnd : Nat := 178
abbrev F.bits_Reader_Left : Nat := 179
abbrev F.unstream_Reader_Step : Nat := 180
abbrev F.bits_Reader_Drop : Nat := 181
abbrev F.unpress_openingOf : Nat := 182
abbrev F.unstream_Reader_Got : Nat := 183
abbrev F.code_Reader_Held : Nat := 184
abbrev F.unbwt_Inverter_Step : Nat := 185
abbrev F.unbwt_Inverter_Take : Nat := 186
abbrev F.feed_Unpacker_Put : Nat := 187
abbrev F.crc_Sum_Text : Nat := 188
abbrev F.unpress_opening_end : Nat := 189
abbrev F.bits_Reader_end : Nat := 190
abbrev F.unstream_Reader_step : Nat := 191
abbrev F.unbwt_New : Nat := 192
abbrev F.feed_NewUnpacker : Nat := 193
abbrev F.picks_Reader_Picks : Nat := 194
abbrev F.unbwt_Inverter_step : Nat := 195
abbrev F.feed_Unpacker_Wants : Nat := 196
abbrev F.strings_Repeat : Nat := 197
abbrev F.crc_Sum_Put : Nat := 198
abbrev F.feed_Unpacker_End : Nat := 199
abbrev F.crc_Sum_Value : Nat := 200
abbrev F.unstream_Reader_letter : Nat := 201
abbrev F.unstream_Reader_magic : Nat := 202
abbrev F.unstream_Reader_body : Nat := 203
abbrev F.unstream_Reader_sum : Nat := 204
abbrev F.slices_Clone_int_int : Nat := 205
abbrev F.unbwt_Inverter_begins : Nat := 206
abbrev F.math_bits_Mul : Nat := 207
abbrev F.strings_HasPrefix : Nat := 208
abbrev F.strings_Builder_Grow : Nat := 209
abbrev F.strings_Builder_Len : Nat := 210
abbrev F.crc_step : Nat := 211
abbrev F.bits_Reader_Get : Nat := 212
abbrev F.block_NewReader : Nat := 213
abbrev F.block_Reader_Step : Nat := 214
abbrev F.block_Reader_Done : Nat := 215
abbrev F.block_Reader_Got : Nat := 216
abbrev F.crc_Combine : Nat := 217
abbrev F.bits_Reader_Align : Nat := 218
abbrev F.math_bits_Mul32 : Nat := 219
abbrev F.math_bits_Mul64 : Nat := 220
abbrev F.internal_stringslite_HasPrefix : Nat := 221
abbrev F.strings_Builder_grow : Nat := 222
abbrev F.bits_Reader_bit : Nat := 223
abbrev F.block_Reader_step : Nat := 224
abbrev F.internal_bytealg_MakeNoZero : Nat := 225
abbrev F.block_Reader_begin : Nat := 226
abbrev F.block_Reader_symbols : Nat := 227
abbrev F.block_row_waits : Nat := 228
abbrev F.block_row_next : Nat := 229
abbrev F.block_Reader_symbol : Nat := 230
abbrev F.block_Reader_end : Nat := 231
abbrev F.used_Read : Nat := 232
abbrev F.block_rowOf : Nat := 233
abbrev F.mtf_List_At : Nat := 234
abbrev F.code_Reader_Step : Nat := 235
abbrev F.block_row_told : Nat := 236
abbrev F.code_Reader_Done : Nat := 237
abbrev F.bits_Reader_At : Nat := 238
abbrev F.used_read : Nat := 239
abbrev F.bits_Reader_Seek : Nat := 240
abbrev F.code_NewReader : Nat := 241
abbrev F.zeros_NewReader : Nat := 242
abbrev F.mtf_New : Nat := 243
abbrev F.mtf_List_touch : Nat := 244
abbrev F.code_Reader_symbol : Nat := 245
abbrev F.picks_Reader_Done : Nat := 246
abbrev F.code_Reader_pick : Nat := 247
abbrev F.picks_Reader_Tables : Nat := 248
abbrev F.code_Reader_table : Nat := 249
abbrev F.zeros_Reader_Put : Nat := 250
abbrev F.used_marks : Nat := 251
abbrev F.used_listed : Nat := 252
abbrev F.delta_NewReader : Nat := 253
abbrev F.picks_NewReader : Nat := 254
abbrev F.zeros_may : Nat := 255
abbrev F.used_Is : Nat := 256
abbrev F.canon_Code_Get : Nat := 257
abbrev F.picks_Reader_Step : Nat := 258
abbrev F.delta_Reader_Step : Nat := 259
abbrev F.delta_Reader_Done : Nat := 260
abbrev F.canon_New : Nat := 261
abbrev F.delta_Reader_Lens : Nat := 262
abbrev F.zeros_Reader_more : Nat := 263
abbrev F.zeros_Reader_Count : Nat := 264
abbrev F.delta_sized : Nat := 265
abbrev F.picks_fresh : Nat := 266
abbrev F.canon_Code_get : Nat := 267
abbrev F.picks_Reader_pick : Nat := 268
abbrev F.picks_Reader_head : Nat := 269
abbrev F.delta_Reader_step : Nat := 270
abbrev F.canon_whole : Nat := 271
abbrev F.picks_order_touch : Nat := 272
abbrev F.picks_Reader_fail : Nat := 273
abbrev F.picks_tabled : Nat := 274
abbrev F.delta_Reader_turned : Nat := 275
abbrev F.lens_Share : Nat := 276
abbrev F.slices_Contains_int_int : Nat := 277
abbrev F.delta_length : Nat := 278
abbrev F.lens_between : Nat := 279
abbrev F.slices_Index_int_int : Nat := 280
abbrev F.slices_ContainsFunc_int_int : Nat := 281
abbrev F.lens_between_1 : Nat := 282
abbrev F.slices_IndexFunc_int_int : Nat := 283
abbrev F.strings_Builder_Reset : Nat := 284
abbrev F.press_Press_Done : Nat := 285
abbrev F.press_Press_End : Nat := 286
abbrev F.press_Press_Feed : Nat := 287
abbrev F.press_Press_Held : Nat := 288
abbrev F.press_Press_Step : Nat := 289
abbrev F.press_Press_Steps : Nat := 290
abbrev F.press_Press_Stopped : Nat := 291
abbrev F.press_Press_Take : Nat := 292
abbrev F.press_Press_Waiting : Nat := 293
abbrev F.press_Press_flush : Nat := 294
abbrev F.split_Splitter_Held : Nat := 295
abbrev F.bwt_Turner_Held : Nat := 296
abbrev F.press_Press_work : Nat := 297
abbrev F.press_Press_writes : Nat := 298
abbrev F.press_Press_whole : Nat := 299
abbrev F.split_Splitter_End : Nat := 300
abbrev F.feed_Packer_Row : Nat := 301
abbrev F.sorter_Sorter_Held : Nat := 302
abbrev F.bwt_New : Nat := 303
abbrev F.bwt_Turner_Done : Nat := 304
abbrev F.bwt_Turner_Step : Nat := 305
abbrev F.press_Press_pay : Nat := 306
abbrev F.press_Press_take : Nat := 307
abbrev F.stream_Writer_End : Nat := 308
abbrev F.feed_Packer_End : Nat := 309
abbrev F.split_Splitter_piece : Nat := 310
abbrev F.split_begun_close : Nat := 311
abbrev F.sorter_New : Nat := 312
abbrev F.sorter_Sorter_Step : Nat := 313
abbrev F.sorter_Sorter_Done : Nat := 314
abbrev F.sorter_Sorter_Order : Nat := 315
abbrev F.bwt_Turner_take : Nat := 316
abbrev F.bwt_Turner_Result : Nat := 317
abbrev F.stream_Writer_Turned : Nat := 318
abbrev F.split_Splitter_Put : Nat := 319
abbrev F.stream_Writer_magic : Nat := 320
abbrev F.bits_Writer_Pad : Nat := 321
abbrev F.feed_Packer_close : Nat := 322
abbrev F.split_begun_take : Nat := 323
abbrev F.crc_Sum_Reset : Nat := 324
abbrev F.sorter_Sorter_step : Nat := 325
abbrev F.bwt_ahead : Nat := 326
abbrev F.block_Turned : Nat := 327
abbrev F.feed_Packer_Put : Nat := 328
abbrev F.rle_Piece : Nat := 329
abbrev F.sorter_Sorter_join : Nat := 330
abbrev F.sorter_Sorter_lay : Nat := 331
abbrev F.sorter_Sorter_put : Nat := 332
abbrev F.sorter_Sorter_begin : Nat := 333
abbrev F.sorter_Sorter_rank : Nat := 334
abbrev F.used_Symbols : Nat := 335
abbrev F.mtf_Encode : Nat := 336
abbrev F.zeros_Encode : Nat := 337
abbrev F.code_Bits : Nat := 338
abbrev F.used_Write : Nat := 339
abbrev F.code_Write : Nat := 340
abbrev F.rle_text : Nat := 341
abbrev F.sorter_Sorter_above : Nat := 342
abbrev F.sorter_Sorter_pass : Nat := 343
abbrev F.mtf_List_Find : Nat := 344
abbrev F.zeros_row : Nat := 345
abbrev F.code_chosen : Nat := 346
abbrev F.picks_Bits : Nat := 347
abbrev F.delta_Bits : Nat := 348
abbrev F.tables_Cost : Nat := 349
abbrev F.used_rows : Nat := 350
abbrev F.picks_Write : Nat := 351
abbrev F.delta_Write : Nat := 352
abbrev F.canon_Code_Put : Nat := 353
abbrev F.sorter_Sorter_key : Nat := 354
abbrev F.bytes_IndexByte : Nat := 355
abbrev F.tables_Of : Nat := 356
abbrev F.picks_may : Nat := 357
abbrev F.picks_places : Nat := 358
abbrev F.delta_may : Nat := 359
abbrev F.delta_steps : Nat := 360
abbrev F.delta_Bits_1 : Nat := 361
abbrev F.freq_Groups : Nat := 362
abbrev F.freq_Group : Nat := 363
abbrev F.freq_Cost : Nat := 364
abbrev F.delta_Write_1 : Nat := 365
abbrev F.canon_Code_Of : Nat := 366
abbrev F.internal_bytealg_IndexByte : Nat := 367
abbrev F.freq_Counts : Nat := 368
abbrev F.tables_groupsOf : Nat := 369
abbrev F.tables_first : Nat := 370
abbrev F.tables_round : Nat := 371
abbrev F.picks_may_1 : Nat := 372
abbrev F.picks_order_find : Nat := 373
abbrev F.delta_may_1 : Nat := 374
abbrev F.freq_part_int : Nat := 375
abbrev F.freq_all : Nat := 376
abbrev F.freq_together : Nat := 377
abbrev F.tables_Number : Nat := 378
abbrev F.tables_pick : Nat := 379
abbrev F.freq_Add : Nat := 380
abbrev F.lens_Of : Nat := 381
abbrev F.freq_all_1 : Nat := 382
abbrev F.freq_may : Nat := 383
abbrev F.lens_depths : Nat := 384
abbrev F.lens_Longest : Nat := 385
abbrev F.lens_Halved : Nat := 386
abbrev F.lens_treesOf : Nat := 387
abbrev F.lens_trees_least : Nat := 388
abbrev F.lens_trees_join : Nat := 389
abbrev F.slices_SortStableFunc_int_int : Nat := 390
abbrev F.lens_treesOf_1 : Nat := 391
abbrev F.cmp_Compare_int : Nat := 392
abbrev F.slices_stableCmpFunc_int : Nat := 393
abbrev F.cmp_isNaN_int : Nat := 394
abbrev F.slices_insertionSortCmpFunc_int : Nat := 395
abbrev F.slices_symMergeCmpFunc_int : Nat := 396
abbrev F.slices_rotateCmpFunc_int : Nat := 397
abbrev F.slices_swapRangeCmpFunc_int : Nat := 398
abbrev F.stream_Writer_Held : Nat := 399
abbrev F.bits_Writer_Held : Nat := 400
abbrev F.bwt_Turner_Steps : Nat := 401
abbrev F.sorter_Sorter_Steps : Nat := 402
abbrev F.internal_abi_Kind_String : Nat := 403
abbrev F.unbwt_Inverter_Steps : Nat := 404
abbrev F.unbwt_Inverter_Waiting : Nat := 405
abbrev F.code_Reader_Count : Nat := 406
abbrev F.zeros_Reader_Done : Nat := 407
abbrev F.mtf_List_Len : Nat := 408
abbrev F.canon_Code_Size : Nat := 409
abbrev F.gosem_cut_vars : Nat := 410

/-- baler/balerlaw39.ResultsNil -/
def Vcf.balerlaw39_ResultsNil (P : Program) (n_p0 : Value) (w : World) (R : Value → World → Prop) : Prop   :=
 Cl P F.results_Stream_Next #[(.pointer none)] w fun x_1 w1 =>
 Ex x_1 0 fun x_2 =>
 Ex x_1 1 fun x_3 =>
 Cl P F.results_Stream_Grant #[(.pointer none), n_p0] w1 fun x_4 w2 =>
 Bp .eql x_4 (.int .i64 7) fun x_5 =>
 Vif x_5 (
 Bp .eql x_2 (.string ⟨#[]⟩) fun x_6 =>
 Vif x_6 (
 Up .not x_3 fun x_7 =>
 Vif x_7 (
 Cl P F.results_Stream_Ready #[(.pointer none)] w2 fun x_8 w3 =>
 Up .not x_8 fun x_9 =>
 Vif x_9 (
 Cl P F.results_Stream_Credit #[(.pointer none)] w3 fun x_10 w4 =>
 Bp .eql x_10 (.int .i64 0) fun x_11 =>
 Vif x_11 (
 Cl P F.results_Stream_Told #[(.pointer none)] w4 fun x_12 w5 =>
 Bp .eql x_12 (.int .i64 0) fun x_13 =>
 Vif x_13 (
 Cl P F.balerlaw39_three #[] w5 fun x_14 w6 =>
 R x_14 w6) (
 R (.bool false) w5)) (
 R (.bool false) w4)) (
 R (.bool false) w3)) (
 R (.bool false) w2)) (
 R (.bool false) w2)) (
 R (.bool false) w2)
theorem Tie.balerlaw39_ResultsNil {n_p0 : Value} {w : World} {R : Value → World → Prop} (h : Vcf.balerlaw39_ResultsNil Tryz.prog n_p0 w R) : Cl Tryz.prog F.balerlaw39_ResultsNil #[n_p0] w R :=
  cl_of_vc (n := 41) (rs := [(.tmp 2)]) (h := (.s .z (.s .z (.s .z (.s .z .z))))) (args := [n_p0]) (by kernel_rfl) Tryz.func5 rfl (by kernel_rfl) rfl rfl rfl (Eq.mp (by kernel_rfl) h)

/-- (baler/results.Stream).Next -/
def Vcf.results_Stream_Next (P : Program) (s_p0 : Value) (w : World) (R : Value → World → Prop) : Prop   :=
 Cl P F.results_Stream_next #[s_p0] w fun x_1 w1 =>
 Bp .eql x_1 (.int .i64 0) fun x_2 =>
 Vif x_2 (
 R (.tuple #[(.string ⟨#[]⟩), (.bool false)]) w1) (
 Nc s_p0 <|
 Fo 2 s_p0 fun x_3 =>
 Ld x_3 w1 fun x_4 =>
 Bp .sub x_4 x_1 fun x_5 =>
 Nc s_p0 <|
 Fo 2 s_p0 fun x_6 =>
 St x_6 x_5 w1 fun w2 =>
 Nc s_p0 <|
 Fo 3 s_p0 fun x_7 =>
 Ld x_7 w2 fun x_8 =>
 Bp .add x_8 x_1 fun x_9 =>
 Nc s_p0 <|
 Fo 3 s_p0 fun x_10 =>
 St x_10 x_9 w2 fun w3 =>
 Nc s_p0 <|
 Fo 0 s_p0 fun x_11 =>
 Ld x_11 w3 fun x_12 =>
 Cl P F.job_Job_Take #[x_12, x_1] w3 fun x_13 w4 =>
 R (.tuple #[x_13, (.bool true)]) w4)
theorem Tie.results_Stream_Next {s_p0 : Value} {w : World} {R : Value → World → Prop} (h : Vcf.results_Stream_Next Tryz.prog s_p0 w R) : Cl Tryz.prog F.results_Stream_Next #[s_p0] w R :=
  cl_of_vc (n := 31) (rs := [(.tmp 2), (.tmp 3)]) (h := (.s .z (.s .z (.s (.s .z (.i (.s .z .z) .z)) (.s .z (.s .z (.s .z .z))))))) (args := [s_p0]) (by kernel_rfl) Tryz.func24 rfl (by kernel_rfl) rfl rfl rfl (Eq.mp (by kernel_rfl) h)

/-- (baler/results.Stream).Grant -/
def Vcf.results_Stream_Grant (P : Program) (s_p0 n_p1 : Value) (w : World) (R : Value → World → Prop) : Prop   :=
 Bn P 63 false s_p0 (.pointer none) fun x_1 =>
 Vif x_1 (
 R (.int .i64 7) w) (
 VJoin 1 (fun _ x_2 w1 =>
 Vif x_2 (
 R (.int .i64 1) w1) (
 Nc s_p0 <|
 Fo 2 s_p0 fun x_3 =>
 Ld x_3 w1 fun x_4 =>
 Bp .add x_4 n_p1 fun x_5 =>
 Bs P 105 1 #[(0, (.int .i64 1099511627776))] w1 fun x_6 w2 =>
 Cl P F.results_least #[x_5, x_6] w2 fun x_7 w3 =>
 Nc s_p0 <|
 Fo 2 s_p0 fun x_8 =>
 St x_8 x_7 w3 fun w4 =>
 R (.int .i64 0) w4))
 (fun J9 =>
 Bp .lss n_p1 (.int .i64 0) fun x_10 =>
 Vif x_10 (
 KE [s_p0, n_p1] [s_p0, n_p1] <| J9 (.bool true) w) (
 Bp .gtr n_p1 (.int .i64 1099511627776) fun x_11 =>
 KE [s_p0, n_p1] [s_p0, n_p1] <| J9 x_11 w)))
theorem Tie.results_Stream_Grant {s_p0 n_p1 : Value} {w : World} {R : Value → World → Prop} (h : Vcf.results_Stream_Grant Tryz.prog s_p0 n_p1 w R) : Cl Tryz.prog F.results_Stream_Grant #[s_p0, n_p1] w R :=
  cl_of_vc (n := 26) (rs := [(.tmp 4)]) (h := (.s .z (.s (.b (.s .z (.i (.s .z .z) (.j [8] [0, 1] .z (.i (.s .z .z) .z))))) (.s .z (.s .z .z))))) (args := [s_p0, n_p1]) (by kernel_rfl) Tryz.func25 rfl (by kernel_rfl) rfl rfl rfl (Eq.mp (by kernel_rfl) h)

/-- (baler/results.Stream).Ready -/
def Vcf.results_Stream_Ready (P : Program) (s_p0 : Value) (w : World) (R : Value → World → Prop) : Prop   :=
 Cl P F.results_Stream_next #[s_p0] w fun x_1 w1 =>
 Bp .gtr x_1 (.int .i64 0) fun x_2 =>
 R x_2 w1
theorem Tie.results_Stream_Ready {s_p0 : Value} {w : World} {R : Value → World → Prop} (h : Vcf.results_Stream_Ready Tryz.prog s_p0 w R) : Cl Tryz.prog F.results_Stream_Ready #[s_p0] w R :=
  cl_of_vc (n := 6) (rs := [(.tmp 2)]) (h := (.s .z (.s .z .z))) (args := [s_p0]) (by kernel_rfl) Tryz.func26 rfl (by kernel_rfl) rfl rfl rfl (Eq.mp (by kernel_rfl) h)

/-- (baler/results.Stream).Credit -/
def Vcf.results_Stream_Credit (P : Program) (s_p0 : Value) (w : World) (R : Value → World → Prop) : Prop   :=
 Bn P 63 false s_p0 (.pointer none) fun x_1 =>
 Vif x_1 (
 R (.int .i64 0) w) (
 Nc s_p0 <|
 Fo 2 s_p0 fun x_2 =>
 Ld x_2 w fun x_3 =>
 R x_3 w)
theorem Tie.results_Stream_Credit {s_p0 : Value} {w : World} {R : Value → World → Prop} (h : Vcf.results_Stream_Credit Tryz.prog s_p0 w R) : Cl Tryz.prog F.results_Stream_Credit #[s_p0] w R :=
  cl_of_vc (n := 9) (rs := [(.tmp 2)]) (h := (.s .z (.s (.s .z (.i (.s .z .z) .z)) (.s .z .z)))) (args := [s_p0]) (by kernel_rfl) Tryz.func27 rfl (by kernel_rfl) rfl rfl rfl (Eq.mp (by kernel_rfl) h)

/-- (baler/results.Stream).Told -/
def Vcf.results_Stream_Told (P : Program) (s_p0 : Value) (w : World) (R : Value → World → Prop) : Prop   :=
 Bn P 63 false s_p0 (.pointer none) fun x_1 =>
 Vif x_1 (
 R (.int .i64 0) w) (
 Nc s_p0 <|
 Fo 3 s_p0 fun x_2 =>
 Ld x_2 w fun x_3 =>
 R x_3 w)
theorem Tie.results_Stream_Told {s_p0 : Value} {w : World} {R : Value → World → Prop} (h : Vcf.results_Stream_Told Tryz.prog s_p0 w R) : Cl Tryz.prog F.results_Stream_Told #[s_p0] w R :=
  cl_of_vc (n := 9) (rs := [(.tmp 2)]) (h := (.s .z (.s (.s .z (.i (.s .z .z) .z)) (.s .z .z)))) (args := [s_p0]) (by kernel_rfl) Tryz.func28 rfl (by kernel_rfl) rfl rfl rfl (Eq.mp (by kernel_rfl) h)

/-- (baler/results.Stream).next -/
def Vcf.results_Stream_next (P : Program) (s_p0 : Value) (w : World) (R : Value → World → Prop) : Prop   :=
 Bn P 63 false s_p0 (.pointer none) fun x_1 =>
 Vif x_1 (
 R (.int .i64 0) w) (
 Dr w fun w1 =>
 (Nc s_p0 <|
 Fo 0 s_p0 fun x_2 =>
 Ld x_2 w1 fun x_3 =>
 Cl P F.job_Job_Waiting #[x_3] w1 fun x_5 w2 =>
 Nc s_p0 <|
 Fo 2 s_p0 fun x_6 =>
 Ld x_6 w2 fun x_7 =>
 Rk (fun w K => Ld x_6 w fun x_8 => K x_8) x_7 w1 <|
 Nc s_p0 <|
 Fo 1 s_p0 fun x_10 =>
 Ld x_10 w2 fun x_11 =>
 Rk (fun w K => Ld x_10 w fun x_12 => K x_12) x_11 w1 <|
 Bs P 105 2 #[(0, x_7), (1, x_11)] w2 fun x_14 w3 =>
 Rk (fun w K => Ld x_2 w fun x_4 => K x_4) x_3 w3 <|
 Cl P F.results_least #[x_5, x_14] w3 fun x_15 w4 =>
 R x_15 w4) ∧
 (Nc s_p0 <|
 Fo 0 s_p0 fun x_16 =>
 Ld x_16 w1 fun x_17 =>
 Nc s_p0 <|
 Fo 2 s_p0 fun x_19 =>
 Ld x_19 w1 fun x_20 =>
 Nc s_p0 <|
 Fo 1 s_p0 fun x_22 =>
 Ld x_22 w1 fun x_23 =>
 Bs P 105 2 #[(0, x_20), (1, x_23)] w1 fun x_25 w5 =>
 Rk (fun w K => Ld x_16 w fun x_18 => K x_18) x_17 w5 <|
 Cl P F.job_Job_Waiting #[x_17] w5 fun x_26 w6 =>
 Rk (fun w K => Ld x_22 w fun x_24 => K x_24) x_23 w6 <|
 Rk (fun w K => Ld x_19 w fun x_21 => K x_21) x_20 w6 <|
 Cl P F.results_least #[x_26, x_25] w6 fun x_27 w7 =>
 R x_27 w7))
theorem Tie.results_Stream_next {s_p0 : Value} {w : World} {R : Value → World → Prop} (h : Vcf.results_Stream_next Tryz.prog s_p0 w R) : Cl Tryz.prog F.results_Stream_next #[s_p0] w R :=
  cl_of_vc (n := 20) (rs := [(.tmp 2)]) (h := (.s .z (.s (.s .z (.i (.s .z .z) .z)) (.s (.r (.two [0, 1, 3, 7, 15, 0, 32, 96, 224, 0, 512, 1536, 3584, 8160, 16383, 32767] 4 13 [0, 1, 2, 3, 4, 5, 6, 7, 8, 9, 10, 11, 12, 13, 14, 15] [0, 1, 2, 3, 5, 6, 7, 8, 9, 10, 11, 12, 13, 4, 14, 15])) .z)))) (args := [s_p0]) (by kernel_rfl) Tryz.func40 rfl (by kernel_rfl) rfl rfl rfl (Eq.mp (by kernel_rfl) h)

/-- baler/results.least -/
def Vcf.results_least (P : Program) (first_p0 more_p1 : Value) (w : World) (R : Value → World → Prop) : Prop   :=
 Lnl more_p1 fun x_1 =>
 VLoop 2 [first_p0, (.int .i64 0)] w fun _ next4 first_2 x_3 w1 =>
 Bp .lss x_3 x_1 fun x_5 =>
 Vif x_5 (
 Ias 1 more_p1 x_3 fun x_6 =>
 Ld x_6 w1 fun x_7 =>
 Bmin P #[3, 3] 3 #[first_2, x_7] w1 fun x_8 =>
 Bp .add x_3 (.int .i64 1) fun x_9 =>
 KE [more_p1, x_1] [more_p1, x_1] <| next4 x_8 x_9 w1) (
 R first_2 w1)
theorem Tie.results_least {first_p0 more_p1 : Value} {w : World} {R : Value → World → Prop} (h : Vcf.results_least Tryz.prog first_p0 more_p1 w R) : Cl Tryz.prog F.results_least #[first_p0, more_p1] w R :=
  cl_of_vc (n := 18) (rs := [(.tmp 4)]) (h := (.s .z (.s (.s .z (.b (.l [0, 9] [7, 8] (.s .z (.s (.i .z .z) (.s (.b (.s .z .z)) .z)))))) (.s .z .z)))) (args := [first_p0, more_p1]) (by kernel_rfl) Tryz.func41 rfl (by kernel_rfl) rfl rfl rfl (Eq.mp (by kernel_rfl) h)

/-- baler/results.New -/
def Vcf.results_New (P : Program) (j_p0 chunk_p1 : Value) (w : World) (R : Value → World → Prop) : Prop   :=
 Bn P 48 false j_p0 (.pointer none) fun x_1 =>
 Vif x_1 (
 R (.tuple #[(.pointer none), (.int .i64 7)]) w) (
 VJoin 1 (fun _ x_2 w1 =>
 Vif x_2 (
 R (.tuple #[(.pointer none), (.int .i64 1)]) w1) (
 Bd P 63 #[(0, j_p0), (1, chunk_p1)] w1 fun x_3 =>
 New x_3 63 w1 fun x_4 w2 =>
 R (.tuple #[x_4, (.int .i64 0)]) w2))
 (fun J5 =>
 Bp .lss chunk_p1 (.int .i64 1) fun x_6 =>
 Vif x_6 (
 KE [j_p0, chunk_p1] [j_p0, chunk_p1] <| J5 (.bool true) w) (
 Bp .gtr chunk_p1 (.int .i64 4096) fun x_7 =>
 KE [j_p0, chunk_p1] [j_p0, chunk_p1] <| J5 x_7 w)))
theorem Tie.results_New {j_p0 chunk_p1 : Value} {w : World} {R : Value → World → Prop} (h : Vcf.results_New Tryz.prog j_p0 chunk_p1 w R) : Cl Tryz.prog F.results_New #[j_p0, chunk_p1] w R :=
  cl_of_vc (n := 20) (rs := [(.tmp 4), (.tmp 5)]) (h := (.s .z (.s (.b (.s .z (.i (.s .z .z) (.j [9] [0, 1] .z (.i (.s .z .z) .z))))) (.s .z .z)))) (args := [j_p0, chunk_p1]) (by kernel_rfl) Tryz.func42 rfl (by kernel_rfl) rfl rfl rfl (Eq.mp (by kernel_rfl) h)

/-- baler/crc.Table -/
def Vcf.crc_Table (P : Program) (w : World) (R : Value → World → Prop) : Prop   :=
 New (zeroP P 180) 180 w fun x_1 w1 =>
 New (zeroP P 180) 180 w1 fun out_2 w2 =>
 VLoop 1 [(.int .i64 0)] w2 fun _ next4 x_3 w3 =>
 Bp .lss x_3 (.int .i64 256) fun x_5 =>
 Vif x_5 (
 Ci .u32 x_3 fun x_6 =>
 Bp .shl x_6 (.int .u64 24) fun x_7 =>
 VLoop 2 [x_7, (.int .i64 0)] w3 fun _ next10 sum_8 x_9 w4 =>
 Bp .lss x_9 (.int .i64 8) fun x_11 =>
 Vif x_11 (
 Bp .shr sum_8 (.int .u64 31) fun x_12 =>
 Bp .shl sum_8 (.int .u64 1) fun x_13 =>
 Bp .mul x_12 (.int .u32 79764919) fun x_14 =>
 Bp .xor x_13 x_14 fun x_15 =>
 Bp .add x_9 (.int .i64 1) fun x_16 =>
 KE [x_1, out_2, x_3, x_3] [x_1, out_2, x_3, x_3] <| next10 x_15 x_16 w4) (
 Iaa 256 1 out_2 x_3 fun x_17 =>
 St x_17 sum_8 w4 fun w5 =>
 Bp .add x_3 (.int .i64 1) fun x_18 =>
 KE [x_1, out_2] [x_1, out_2] <| next4 x_18 w5)) (
 LdA 256 out_2 w3 fun x_19 =>
 StA 256 x_1 x_19 w3 fun w6 =>
 LdA 256 x_1 w6 fun x_20 =>
 R x_20 w6)
theorem Tie.crc_Table {w : World} {R : Value → World → Prop} (h : Vcf.crc_Table Tryz.prog w R) : Cl Tryz.prog F.crc_Table #[] w R :=
  cl_of_vc (n := 26) (rs := [(.cell 0 180)]) (h := (.s .z (.s .z (.s (.s .z (.b (.l [5] [0, 1] (.s .z (.s (.i .z .z) (.s (.b (.s .z (.s .z (.s (.s .z (.b (.l [3, 11] [0, 1, 2, 5] (.s .z (.s (.i .z .z) (.s (.b (.s .z .z)) .z)))))) .z)))) .z)))))) (.s .z .z))))) (args := []) (by kernel_rfl) Tryz.func110 rfl (by kernel_rfl) rfl rfl rfl (Eq.mp (by kernel_rfl) h)

end Go.Proofs.YtoibjeloegdmcaaGreat
