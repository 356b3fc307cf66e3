/- Formulas of the program's functions, printed by a program of the prover's own (dec.py); each is tied to its code by the kernel. -/
import Derived.Test.YtkjelcjffbcenaaGreatDoorVc
import Derived.Test.YtkjelcjffbcenaaGreatDoorProg
set_option linter.unusedVariables false
set_option maxRecDepth 1000000
namespace Go.Proofs.YtkjelcjffbcenaaGreatDoor
open Go Go.Vc

abbrev F.main_main : Nat := 0
abbrev F.gosem_cut : Nat := 1
abbrev F.gosem_cut_init : Nat := 2
abbrev F.balerlaw40_ServerNews : Nat := 3
abbrev F.balerlaw42_ScriptChecks : Nat := 4
abbrev F.balerlaw40_large : Nat := 5
abbrev F.balerlaw40_test : Nat := 6
abbrev F.server_New : Nat := 7
abbrev F.balerref32_Config : Nat := 8
abbrev F.server_Server_Used : Nat := 9
abbrev F.server_Server_Held : Nat := 10
abbrev F.server_Server_Left : Nat := 11
abbrev F.server_Server_Jobs : Nat := 12
abbrev F.server_Server_Charged : Nat := 13
abbrev F.server_Server_At : Nat := 14
abbrev F.server_Server_Idle : Nat := 15
abbrev F.server_Server_Sent : Nat := 16
abbrev F.server_Server_Waits : Nat := 17
abbrev F.server_Server_Over : Nat := 18
abbrev F.balerref42_Large : Nat := 19
abbrev F.balerlaw42_hello : Nat := 20
abbrev F.script_Check : Nat := 21
abbrev F.balerref42_Check : Nat := 22
abbrev F.balerref33_Wrong : Nat := 23
abbrev F.balerlaw40_little : Nat := 24
abbrev F.balerlaw40_request : Nat := 25
abbrev F.server_Server_Deliver : Nat := 26
abbrev F.server_Server_Tick : Nat := 27
abbrev F.balerlaw40_bytes : Nat := 28
abbrev F.tenants_Config : Nat := 29
abbrev F.jobs_New : Nat := 30
abbrev F.ledger_New : Nat := 31
abbrev F.server_each : Nat := 32
abbrev F.server_New_1 : Nat := 33
abbrev F.window_New : Nat := 34
abbrev F.server_New_2 : Nat := 35
abbrev F.drr_New : Nat := 36
abbrev F.server_New_3 : Nat := 37
abbrev F.balerref32_Check : Nat := 38
abbrev F.balerref32_most : Nat := 39
abbrev F.ledger_Ledger_Used : Nat := 40
abbrev F.jobs_Table_By : Nat := 41
abbrev F.job_Job_Held : Nat := 42
abbrev F.window_Meter_Left : Nat := 43
abbrev F.window_Meter_Total : Nat := 44
abbrev F.window_Meter_At : Nat := 45
abbrev F.drr_Scheduler_Ring : Nat := 46
abbrev F.server_Server_known : Nat := 47
abbrev F.strings_Builder_String : Nat := 48
abbrev F.script_Play : Nat := 49
abbrev F.balerlaw42_little : Nat := 50
abbrev F.script_Text : Nat := 51
abbrev F.balerplain_Ints : Nat := 52
abbrev F.balerplain_Texts : Nat := 53
abbrev F.balerref33_Encode : Nat := 54
abbrev F.slices_ContainsFunc_string_string : Nat := 55
abbrev F.script_Check_1 : Nat := 56
abbrev F.script_event : Nat := 57
abbrev F.balerref42_event : Nat := 58
abbrev F.balerref33_Type : Nat := 59
abbrev F.server_numbered : Nat := 60
abbrev F.server_Server_line : Nat := 61
abbrev F.parser_Parser_Feed : Nat := 62
abbrev F.server_Server_run : Nat := 63
abbrev F.drr_Scheduler_Next : Nat := 64
abbrev F.window_Meter_All : Nat := 65
abbrev F.jobs_Table_Get : Nat := 66
abbrev F.job_Job_Step : Nat := 67
abbrev F.window_Meter_Charge : Nat := 68
abbrev F.drr_Scheduler_Spent : Nat := 69
abbrev F.job_Job_Stopped : Nat := 70
abbrev F.server_Server_after : Nat := 71
abbrev F.window_Meter_Tick : Nat := 72
abbrev F.tenants_Check : Nat := 73
abbrev F.tenants_between : Nat := 74
abbrev F.slices_ContainsFunc_int_int : Nat := 75
abbrev F.ledger_New_1 : Nat := 76
abbrev F.ledger_may : Nat := 77
abbrev F.window_New_1 : Nat := 78
abbrev F.window_may : Nat := 79
abbrev F.slices_Clone_int_int : Nat := 80
abbrev F.drr_New_1 : Nat := 81
abbrev F.drr_many : Nat := 82
abbrev F.balerref32_May : Nat := 83
abbrev F.ledger_Ledger_read : Nat := 84
abbrev F.ledger_Ledger_Used_1 : Nat := 85
abbrev F.jobs_Table_handles : Nat := 86
abbrev F.jobs_Table_By_1 : Nat := 87
abbrev F.job_Job_failed : Nat := 88
abbrev F.window_Meter_is : Nat := 89
abbrev F.queue_Queue_All : Nat := 90
abbrev F.script_player_play : Nat := 91
abbrev F.script_configLine : Nat := 92
abbrev F.tenants_Text : Nat := 93
abbrev F.strings_Split : Nat := 94
abbrev F.strings_TrimSuffix : Nat := 95
abbrev F.script_streamLine : Nat := 96
abbrev F.script_line : Nat := 97
abbrev F.strings_Join : Nat := 98
abbrev F.balerref33_Four : Nat := 99
abbrev F.slices_IndexFunc_string_string : Nat := 100
abbrev F.parser_New : Nat := 101
abbrev F.conn_New : Nat := 102
abbrev F.parser_Parser_Next : Nat := 103
abbrev F.server_line_refuse : Nat := 104
abbrev F.server_Server_end : Nat := 105
abbrev F.conn_Conn_Step : Nat := 106
abbrev F.server_Server_do : Nat := 107
abbrev F.queue_Queue_Len : Nat := 108
abbrev F.queue_Queue_Front : Nat := 109
abbrev F.queue_Queue_Rotate : Nat := 110
abbrev F.jobs_Table_place : Nat := 111
abbrev F.jobs_Table_Get_1 : Nat := 112
abbrev F.drr_Scheduler_first : Nat := 113
abbrev F.drr_Scheduler_of : Nat := 114
abbrev F.drr_Scheduler_out : Nat := 115
abbrev F.upload_Flow_Move : Nat := 116
abbrev F.upload_Flow_Rest : Nat := 117
abbrev F.results_Stream_Next : Nat := 118
abbrev F.server_line_send : Nat := 119
abbrev F.job_Job_Finished : Nat := 120
abbrev F.job_Job_Err : Nat := 121
abbrev F.server_Server_drop : Nat := 122
abbrev F.drr_Scheduler_Add : Nat := 123
abbrev F.window_Meter_Begins : Nat := 124
abbrev F.tenants_May : Nat := 125
abbrev F.tenants_again : Nat := 126
abbrev F.slices_IndexFunc_int_int : Nat := 127
abbrev F.queue_New : Nat := 128
abbrev F.balerref31_Word : Nat := 129
abbrev F.ledger_Ledger_of : Nat := 130
abbrev F.jobs_Table_all : Nat := 131
abbrev F.server_Server_Close : Nat := 132
abbrev F.script_words : Nat := 133
abbrev F.strings_Builder_WriteString : Nat := 134
abbrev F.tenants_line : Nat := 135
abbrev F.strings_genSplit : Nat := 136
abbrev F.internal_stringslite_TrimSuffix : Nat := 137
abbrev F.script_hexed : Nat := 138
abbrev F.strings_Builder_Grow : Nat := 139
abbrev F.slices_Clone_api_Tenant_api_Tenant : Nat := 140
abbrev F.frame_Decode : Nat := 141
abbrev F.parser_Parser_fail : Nat := 142
abbrev F.parser_Parser_tooLong : Nat := 143
abbrev F.jobs_Table_Of : Nat := 144
abbrev F.conn_Conn_login : Nat := 145
abbrev F.proto_Read : Nat := 146
abbrev F.conn_refuse : Nat := 147
abbrev F.conn_Conn_act : Nat := 148
abbrev F.server_Server_status : Nat := 149
abbrev F.conn_Conn_Tenant : Nat := 150
abbrev F.server_Server_open : Nat := 151
abbrev F.server_Server_use : Nat := 152
abbrev F.queue_Queue_Pop : Nat := 153
abbrev F.slices_IndexFunc_jobs_live_jobs_live : Nat := 154
abbrev F.queue_Queue_Remove : Nat := 155
abbrev F.job_Job_Done : Nat := 156
abbrev F.job_Job_Feed : Nat := 157
abbrev F.job_Job_End : Nat := 158
abbrev F.results_Stream_next : Nat := 159
abbrev F.job_Job_Take : Nat := 160
abbrev F.proto_Write : Nat := 161
abbrev F.frame_Encode : Nat := 162
abbrev F.job_Job_Waiting : Nat := 163
abbrev F.jobs_Table_Drop : Nat := 164
abbrev F.drr_Scheduler_Remove : Nat := 165
abbrev F.ledger_Ledger_Release : Nat := 166
abbrev F.drr_Scheduler_whose : Nat := 167
abbrev F.queue_Queue_Push : Nat := 168
abbrev F.token_Is : Nat := 169
abbrev F.balerref31_Runes : Nat := 170
abbrev F.balerref31_May : Nat := 171
abbrev F.tester_Digits : Nat := 172
abbrev F.strings_Builder_copyCheck : Nat := 173
abbrev F.strings_explode : Nat := 174
abbrev F.strings_Count : Nat := 175
abbrev F.strings_Index : Nat := 176
abbrev F.internal_stringslite_HasSuffix : Nat := 177
abbrev F.strings_Builder_grow : Nat := 178
abbrev F.frame_may : Nat := 179
abbrev F.frame_number : Nat := 180
abbrev F.frame_Number : Nat := 181
abbrev F.jobs_Table_Of_1 : Nat := 182
abbrev F.tenants_Find : Nat := 183
abbrev F.proto_whole : Nat := 184
abbrev F.proto_kind : Nat := 185
abbrev F.conn_Conn_open : Nat := 186
abbrev F.conn_Conn_over : Nat := 187
abbrev F.conn_Conn_use : Nat := 188
abbrev F.server_join : Nat := 189
abbrev F.ledger_Ledger_Limit : Nat := 190
abbrev F.job_Need : Nat := 191
abbrev F.server_Server_admitted : Nat := 192
abbrev F.job_New : Nat := 193
abbrev F.upload_New : Nat := 194
abbrev F.results_New : Nat := 195
abbrev F.jobs_Table_Add : Nat := 196
abbrev F.jobs_Table_Find : Nat := 197
abbrev F.upload_Flow_Put : Nat := 198
abbrev F.upload_Flow_End : Nat := 199
abbrev F.results_Stream_Grant : Nat := 200
abbrev F.queue_without_int : Nat := 201
abbrev F.slices_Index_int_int : Nat := 202
abbrev F.results_least : Nat := 203
abbrev F.proto_Hear : Nat := 204
abbrev F.frame_put : Nat := 205
abbrev F.slices_DeleteFunc_jobs_live_jobs_live : Nat := 206
abbrev F.slices_Clone_jobs_live_jobs_live : Nat := 207
abbrev F.jobs_Table_Drop_1 : Nat := 208
abbrev F.slices_IndexFunc_drr_tenant_drr_tenant : Nat := 209
abbrev F.drr_Scheduler_whose_1 : Nat := 210
abbrev F.queue_Queue_Has : Nat := 211
abbrev F.token_First : Nat := 212
abbrev F.token_Len : Nat := 213
abbrev F.balerref31_First : Nat := 214
abbrev F.internal_abi_NoEscape : Nat := 215
abbrev F.unicode_utf8_RuneCountInString : Nat := 216
abbrev F.unicode_utf8_DecodeRuneInString : Nat := 217
abbrev F.internal_bytealg_CountString : Nat := 218
abbrev F.internal_stringslite_Index : Nat := 219
abbrev F.internal_bytealg_MakeNoZero : Nat := 220
abbrev F.frame_Client : Nat := 221
abbrev F.frame_Server : Nat := 222
abbrev F.token_Same : Nat := 223
abbrev F.ledger_Ledger_Limit_1 : Nat := 224
abbrev F.press_Need : Nat := 225
abbrev F.unpress_Need : Nat := 226
abbrev F.tester_Need : Nat := 227
abbrev F.jobs_Table_Len : Nat := 228
abbrev F.ledger_Ledger_Reserve : Nat := 229
abbrev F.job_machineOf : Nat := 230
abbrev F.jobs_Table_Find_1 : Nat := 231
abbrev F.slices_Contains_int_int : Nat := 232
abbrev F.token_told : Nat := 233
abbrev F.token_may : Nat := 234
abbrev F.balerref31_wide : Nat := 235
abbrev F.unicode_utf8_decodeRuneInStringSlow : Nat := 236
abbrev F.internal_stringslite_IndexByte : Nat := 237
abbrev F.internal_bytealg_IndexString : Nat := 238
abbrev F.internal_bytealg_Cutover : Nat := 239
abbrev F.internal_bytealg_IndexRabinKarp_string : Nat := 240
abbrev F.split_Room : Nat := 241
abbrev F.press_windowed : Nat := 242
abbrev F.stream_Most : Nat := 243
abbrev F.unstream_New : Nat := 244
abbrev F.unpress_may : Nat := 245
abbrev F.press_New : Nat := 246
abbrev F.unpress_New : Nat := 247
abbrev F.tester_New : Nat := 248
abbrev F.balerref31_more : Nat := 249
abbrev F.internal_bytealg_IndexByteString : Nat := 250
abbrev F.internal_bytealg_hashStr_string : Nat := 251
abbrev F.split_New : Nat := 252
abbrev F.stream_New : Nat := 253
abbrev F.stream_Writer_Take : Nat := 254
abbrev F.bits_NewReader : Nat := 255
abbrev F.crc_New : Nat := 256
abbrev F.feed_NewPacker : Nat := 257
abbrev F.bits_NewWriter : Nat := 258
abbrev F.bits_Writer_Put : Nat := 259
abbrev F.bits_Writer_Take : Nat := 260
abbrev F.crc_Table : Nat := 261
abbrev F.bits_fits : Nat := 262
abbrev F.bits_Writer_bit : Nat := 263
abbrev F.runtime_boundsError_Error : Nat := 264
abbrev F.runtime_boundsError_RuntimeError : Nat := 265
abbrev F.runtime_errorString_Error : Nat := 266
abbrev F.runtime_errorString_RuntimeError : Nat := 267
abbrev F.runtime_plainError_Error : Nat := 268
abbrev F.runtime_plainError_RuntimeError : Nat := 269
abbrev F.runtime_errorAddressString_Error : Nat := 270
abbrev F.runtime_errorAddressString_RuntimeError : Nat := 271
abbrev F.runtime_TypeAssertionError_Error : Nat := 272
abbrev F.runtime_TypeAssertionError_RuntimeError : Nat := 273
abbrev F.runtime_PanicNilError_Error : Nat := 274
abbrev F.runtime_PanicNilError_RuntimeError : Nat := 275
abbrev F.internal_abi_Type_Align : Nat := 276
abbrev F.internal_runtime_maps_unhashableTypeError_Error : Nat := 277
abbrev F.internal_runtime_maps_unhashableTypeError_RuntimeError : Nat := 278
abbrev F.api_Errno_Error : Nat := 279
abbrev F.ledger_Ledger_Tenants : Nat := 280
abbrev F.job_Job_Count : Nat := 281
abbrev F.upload_Flow_Ended : Nat := 282
abbrev F.results_Stream_Credit : Nat := 283
abbrev F.parser_Parser_Held : Nat := 284
abbrev F.conn_Conn_Opened : Nat := 285
abbrev F.strings_Builder_Reset : Nat := 286
abbrev F.unstream_Reader_Held : Nat := 287
abbrev F.unstream_Reader_Step : Nat := 288
abbrev F.block_Reader_Held : Nat := 289
abbrev F.unstream_Reader_step : Nat := 290
abbrev F.code_Reader_Held : Nat := 291
abbrev F.unstream_Reader_letter : Nat := 292
abbrev F.unstream_Reader_magic : Nat := 293
abbrev F.unstream_Reader_body : Nat := 294
abbrev F.unstream_Reader_sum : Nat := 295
abbrev F.picks_Reader_Picks : Nat := 296
abbrev F.bits_Reader_Get : Nat := 297
abbrev F.bits_Reader_Left : Nat := 298
abbrev F.block_NewReader : Nat := 299
abbrev F.block_Reader_Step : Nat := 300
abbrev F.block_Reader_Done : Nat := 301
abbrev F.block_Reader_Got : Nat := 302
abbrev F.crc_Combine : Nat := 303
abbrev F.bits_Reader_Align : Nat := 304
abbrev F.bits_Reader_bit : Nat := 305
abbrev F.bits_Reader_end : Nat := 306
abbrev F.block_Reader_step : Nat := 307
abbrev F.block_Reader_begin : Nat := 308
abbrev F.block_Reader_symbols : Nat := 309
abbrev F.block_row_waits : Nat := 310
abbrev F.block_row_next : Nat := 311
abbrev F.block_Reader_symbol : Nat := 312
abbrev F.block_Reader_end : Nat := 313
abbrev F.used_Read : Nat := 314
abbrev F.block_rowOf : Nat := 315
abbrev F.mtf_List_At : Nat := 316
abbrev F.code_Reader_Step : Nat := 317
abbrev F.block_row_told : Nat := 318
abbrev F.code_Reader_Done : Nat := 319
abbrev F.bits_Reader_At : Nat := 320
abbrev F.used_read : Nat := 321
abbrev F.bits_Reader_Seek : Nat := 322
abbrev F.code_NewReader : Nat := 323
abbrev F.zeros_NewReader : Nat := 324
abbrev F.mtf_New : Nat := 325
abbrev F.mtf_List_touch : Nat := 326
abbrev F.code_Reader_symbol : Nat := 327
abbrev F.picks_Reader_Done : Nat := 328
abbrev F.code_Reader_pick : Nat := 329
abbrev F.picks_Reader_Tables : Nat := 330
abbrev F.code_Reader_table : Nat := 331
abbrev F.zeros_Reader_Put : Nat := 332
abbrev F.used_marks : Nat := 333
abbrev F.used_listed : Nat := 334
abbrev F.delta_NewReader : Nat := 335
abbrev F.picks_NewReader : Nat := 336
abbrev F.zeros_may : Nat := 337
abbrev F.used_Is : Nat := 338
abbrev F.canon_Code_Get : Nat := 339
abbrev F.picks_Reader_Step : Nat := 340
abbrev F.delta_Reader_Step : Nat := 341
abbrev F.delta_Reader_Done : Nat := 342
abbrev F.canon_New : Nat := 343
abbrev F.delta_Reader_Lens : Nat := 344
abbrev F.zeros_Reader_more : Nat := 345
abbrev F.zeros_Reader_Count : Nat := 346
abbrev F.delta_sized : Nat := 347
abbrev F.picks_fresh : Nat := 348
abbrev F.canon_Code_get : Nat := 349
abbrev F.picks_Reader_pick : Nat := 350
abbrev F.picks_Reader_head : Nat := 351
abbrev F.delta_Reader_step : Nat := 352
abbrev F.canon_whole : Nat := 353
abbrev F.picks_order_touch : Nat := 354
abbrev F.picks_Reader_fail : Nat := 355
abbrev F.picks_tabled : Nat := 356
abbrev F.delta_Reader_turned : Nat := 357
abbrev F.lens_Share : Nat := 358
abbrev F.delta_length : Nat := 359
abbrev F.lens_between : Nat := 360
abbrev F.lens_between_1 : Nat := 361
abbrev F.press_Press_Done : Nat := 362
abbrev F.press_Press_End : Nat := 363
abbrev F.press_Press_Feed : Nat := 364
abbrev F.press_Press_Held : Nat := 365
abbrev F.press_Press_Step : Nat := 366
abbrev F.press_Press_Steps : Nat := 367
abbrev F.press_Press_Stopped : Nat := 368
abbrev F.press_Press_Take : Nat := 369
abbrev F.press_Press_Waiting : Nat := 370
abbrev F.press_Press_flush : Nat := 371
abbrev F.split_Splitter_Held : Nat := 372
abbrev F.bwt_Turner_Held : Nat := 373
abbrev F.press_Press_work : Nat := 374
abbrev F.press_Press_writes : Nat := 375
abbrev F.press_Press_whole : Nat := 376
abbrev F.split_Splitter_End : Nat := 377
abbrev F.feed_Packer_Row : Nat := 378
abbrev F.sorter_Sorter_Held : Nat := 379
abbrev F.bwt_New : Nat := 380
abbrev F.bwt_Turner_Done : Nat := 381
abbrev F.bwt_Turner_Step : Nat := 382
abbrev F.press_Press_pay : Nat := 383
abbrev F.press_Press_take : Nat := 384
abbrev F.stream_Writer_End : Nat := 385
abbrev F.feed_Packer_End : Nat := 386
abbrev F.split_Splitter_piece : Nat := 387
abbrev F.split_begun_close : Nat := 388
abbrev F.sorter_New : Nat := 389
abbrev F.sorter_Sorter_Step : Nat := 390
abbrev F.sorter_Sorter_Done : Nat := 391
abbrev F.sorter_Sorter_Order : Nat := 392
abbrev F.bwt_Turner_take : Nat := 393
abbrev F.bwt_Turner_Result : Nat := 394
abbrev F.stream_Writer_Turned : Nat := 395
abbrev F.split_Splitter_Put : Nat := 396
abbrev F.stream_Writer_magic : Nat := 397
abbrev F.bits_Writer_Pad : Nat := 398
abbrev F.feed_Packer_close : Nat := 399
abbrev F.split_begun_take : Nat := 400
abbrev F.crc_Sum_Value : Nat := 401
abbrev F.crc_Sum_Reset : Nat := 402
abbrev F.sorter_Sorter_step : Nat := 403
abbrev F.bwt_ahead : Nat := 404
abbrev F.block_Turned : Nat := 405
abbrev F.feed_Packer_Put : Nat := 406
abbrev F.rle_Piece : Nat := 407
abbrev F.crc_Sum_Put : Nat := 408
abbrev F.sorter_Sorter_join : Nat := 409
abbrev F.sorter_Sorter_lay : Nat := 410
abbrev F.sorter_Sorter_put : Nat := 411
abbrev F.sorter_Sorter_begin : Nat := 412
abbrev F.sorter_Sorter_rank : Nat := 413
abbrev F.used_Symbols : Nat := 414
abbrev F.mtf_Encode : Nat := 415
abbrev F.zeros_Encode : Nat := 416
abbrev F.code_Bits : Nat := 417
abbrev F.used_Write : Nat := 418
abbrev F.code_Write : Nat := 419
abbrev F.rle_text : Nat := 420
abbrev F.crc_step : Nat := 421
abbrev F.sorter_Sorter_above : Nat := 422
abbrev F.sorter_Sorter_pass : Nat := 423
abbrev F.mtf_List_Find : Nat := 424
abbrev F.zeros_row : Nat := 425
abbrev F.code_chosen : Nat := 426
abbrev F.picks_Bits : Nat := 427
abbrev F.delta_Bits : Nat := 428
abbrev F.tables_Cost : Nat := 429
abbrev F.used_rows : Nat := 430
abbrev F.picks_Write : Nat := 431
abbrev F.delta_Write : Nat := 432
abbrev F.canon_Code_Put : Nat := 433
abbrev F.strings_Repeat : Nat := 434
abbrev F.sorter_Sorter_key : Nat := 435
abbrev F.bytes_IndexByte : Nat := 436
abbrev F.tables_Of : Nat := 437
abbrev F.picks_may : Nat := 438
abbrev F.picks_places : Nat := 439
abbrev F.delta_may : Nat := 440
abbrev F.delta_steps : Nat := 441
abbrev F.delta_Bits_1 : Nat := 442
abbrev F.freq_Groups : Nat := 443
abbrev F.freq_Group : Nat := 444
abbrev F.freq_Cost : Nat := 445
abbrev F.delta_Write_1 : Nat := 446
abbrev F.canon_Code_Of : Nat := 447
abbrev F.math_bits_Mul : Nat := 448
abbrev F.strings_HasPrefix : Nat := 449
abbrev F.strings_Builder_Len : Nat := 450
abbrev F.internal_bytealg_IndexByte : Nat := 451
abbrev F.freq_Counts : Nat := 452
abbrev F.tables_groupsOf : Nat := 453
abbrev F.tables_first : Nat := 454
abbrev F.tables_round : Nat := 455
abbrev F.picks_may_1 : Nat := 456
abbrev F.picks_order_find : Nat := 457
abbrev F.delta_may_1 : Nat := 458
abbrev F.freq_part_int : Nat := 459
abbrev F.freq_all : Nat := 460
abbrev F.freq_together : Nat := 461
abbrev F.math_bits_Mul32 : Nat := 462
abbrev F.math_bits_Mul64 : Nat := 463
abbrev F.internal_stringslite_HasPrefix : Nat := 464
abbrev F.tables_Number : Nat := 465
abbrev F.tables_pick : Nat := 466
abbrev F.freq_Add : Nat := 467
abbrev F.lens_Of : Nat := 468
abbrev F.freq_all_1 : Nat := 469
abbrev F.freq_may : Nat := 470
abbrev F.lens_depths : Nat := 471
abbrev F.lens_Longest : Nat := 472
abbrev F.lens_Halved : Nat := 473
abbrev F.lens_treesOf : Nat := 474
abbrev F.lens_trees_least : Nat := 475
abbrev F.lens_trees_join : Nat := 476
abbrev F.slices_SortStableFunc_int_int : Nat := 477
abbrev F.lens_treesOf_1 : Nat := 478
abbrev F.cmp_Compare_int : Nat := 479
abbrev F.slices_stableCmpFunc_int : Nat := 480
abbrev F.cmp_isNaN_int : Nat := 481
abbrev F.slices_insertionSortCmpFunc_int : Nat := 482
abbrev F.slices_symMergeCmpFunc_int : Nat := 483
abbrev F.slices_rotateCmpFunc_int : Nat := 484
abbrev F.slices_swapRangeCmpFunc_int : Nat := 485
abbrev F.unpress_Expander_Done : Nat := 486
abbrev F.unpress_Expander_End : Nat := 487
abbrev F.unpress_Expander_Err : Nat := 488
abbrev F.unpress_Expander_Feed : Nat := 489
abbrev F.unpress_Expander_Held : Nat := 490
abbrev F.unpress_Expander_Step : Nat := 491
abbrev F.unpress_Expander_Steps : Nat := 492
abbrev F.unpress_Expander_Stopped : Nat := 493
abbrev F.unpress_Expander_Take : Nat := 494
abbrev F.unpress_Expander_Waiting : Nat := 495
abbrev F.unpress_Expander_open : Nat := 496
abbrev F.bits_Reader_Held : Nat := 497
abbrev F.bits_Reader_More : Nat := 498
abbrev F.unbwt_Inverter_Held : Nat := 499
abbrev F.unpress_Expander_read : Nat := 500
abbrev F.unpress_opening_step : Nat := 501
abbrev F.unpress_Expander_fail : Nat := 502
abbrev F.unbwt_Inverter_Done : Nat := 503
abbrev F.unstream_Reader_MayEnd : Nat := 504
abbrev F.bits_Reader_Drop : Nat := 505
abbrev F.unpress_openingOf : Nat := 506
abbrev F.unstream_Reader_Got : Nat := 507
abbrev F.unbwt_Inverter_Step : Nat := 508
abbrev F.unbwt_Inverter_Take : Nat := 509
abbrev F.feed_Unpacker_Put : Nat := 510
abbrev F.crc_Sum_Text : Nat := 511
abbrev F.unpress_opening_end : Nat := 512
abbrev F.unbwt_New : Nat := 513
abbrev F.feed_NewUnpacker : Nat := 514
abbrev F.unbwt_Inverter_step : Nat := 515
abbrev F.feed_Unpacker_Wants : Nat := 516
abbrev F.feed_Unpacker_End : Nat := 517
abbrev F.unbwt_Inverter_begins : Nat := 518
abbrev F.tester_Tester_Done : Nat := 519
abbrev F.tester_Tester_End : Nat := 520
abbrev F.tester_Tester_Err : Nat := 521
abbrev F.tester_Tester_Feed : Nat := 522
abbrev F.tester_Tester_Held : Nat := 523
abbrev F.tester_Tester_Step : Nat := 524
abbrev F.tester_Tester_Steps : Nat := 525
abbrev F.tester_Tester_Stopped : Nat := 526
abbrev F.tester_Tester_Take : Nat := 527
abbrev F.tester_Tester_Waiting : Nat := 528
abbrev F.tester_Tester_tell : Nat := 529
abbrev F.tester_counted_forget : Nat := 530
abbrev F.stream_Writer_Held : Nat := 531
abbrev F.bits_Writer_Held : Nat := 532
abbrev F.bwt_Turner_Steps : Nat := 533
abbrev F.internal_abi_Kind_String : Nat := 534
abbrev F.code_Reader_Count : Nat := 535
abbrev F.zeros_Reader_Done : Nat := 536
abbrev F.mtf_List_Len : Nat := 537
abbrev F.canon_Code_Size : Nat := 538
abbrev F.sorter_Sorter_Steps : Nat := 539
abbrev F.unbwt_Inverter_Steps : Nat := 540
abbrev F.unbwt_Inverter_Waiting : Nat := 541
abbrev F.job_Job_Steps : Nat := 542
abbrev F.var_s_door_tables_bounds_is_laid_by_its_own_initialiser_plain_data_look_11 : Nat := 543
abbrev F.var_s_door_gosem_cut_vars_holds_initialisers_alone_see_the_manifest_s_row_cutvarsword_look_11_test_files_too : Nat := 544
abbrev F.var_s_door_the_look_of_gosem_cut_vars_went_over_the_folder_that_the_caller_named_as_the_repository_s_root_look_11 : Nat := 545
abbrev F.var_s_door_unicode_utf8_acceptRanges_is_laid_by_its_own_initialiser_plain_data_look_11 : Nat := 546
abbrev F.var_s_door_unicode_utf8_first_is_laid_by_its_text_alone_pinned_1 : Nat := 547
abbrev F.gosem_cut_vars : Nat := 548

/-- baler/balerlaw40.ServerNews -/
def Vcf.balerlaw40_ServerNews (P : Program) (c_p0 : Value) (w : World) (R : Value → World → Prop) : Prop   :=
 New c_p0 24 w fun c_1 w1 =>
 LdA 7 c_1 w1 fun x_2 =>
 Cl P F.balerlaw40_large #[x_2, (.slice none 0 0)] w1 fun x_3 w2 =>
 Vif x_3 (
 Cl P F.balerlaw40_test #[] w2 fun x_4 w3 =>
 R x_4 w3) (
 LdA 7 c_1 w2 fun x_5 =>
 Cl P F.server_New #[x_5] w2 fun x_6 w4 =>
 Ex x_6 0 fun x_7 =>
 Ex x_6 1 fun x_8 =>
 LdA 7 c_1 w4 fun x_9 =>
 Cl P F.balerref32_Config #[x_9] w4 fun x_10 w5 =>
 Bp .neq x_10 (.int .i64 0) fun x_11 =>
 Vif x_11 (
 Bp .eql x_8 x_10 fun x_12 =>
 Vif x_12 (
 Bn P 74 false x_7 (.pointer none) fun x_13 =>
 Vif x_13 (
 Cl P F.balerlaw40_test #[] w5 fun x_14 w6 =>
 R x_14 w6) (
 R (.bool false) w5)) (
 R (.bool false) w5)) (
 Fo 0 c_1 fun x_15 =>
 Ld x_15 w5 fun x_16 =>
 Lnl x_16 fun x_17 =>
 VLoop 1 [(.int .i64 0)] w5 fun _ next19 x_18 w7 =>
 Bp .lss x_18 x_17 fun x_20 =>
 Vif x_20 (
 Ias 5 x_16 x_18 fun x_21 =>
 LdA 5 x_21 w7 fun x_22 =>
 New (zeroP P 33) 33 w7 fun x_23 w8 =>
 StA 5 x_23 x_22 w8 fun w9 =>
 VJoin 1 (fun _ x_24 w10 =>
 Vif x_24 (
 R (.bool false) w10) (
 Bp .add x_18 (.int .i64 1) fun x_25 =>
 KE [x_7, x_8, x_16, x_17] [x_7, x_8, x_16, x_17] <| next19 x_25 w10))
 (fun J26 =>
 Dr w9 fun w11 =>
 Cl P F.server_Server_Used #[x_7, x_18] w11 fun x_27 w12 =>
 Bp .neq x_27 (.int .i64 0) fun x_28 =>
 Vif x_28 (
 KE [x_7, x_8, x_16, x_17, x_18] [x_7, x_8, x_16, x_17, x_18] <| J26 (.bool true) w12) (
 Cl P F.server_Server_Held #[x_7, x_18] w12 fun x_29 w13 =>
 Bp .neq x_29 (.int .i64 0) fun x_30 =>
 Vif x_30 (
 KE [x_7, x_8, x_16, x_17, x_18] [x_7, x_8, x_16, x_17, x_18] <| J26 (.bool true) w13) (
 Cl P F.server_Server_Left #[x_7, x_18] w13 fun x_31 w14 =>
 Fo 3 x_23 fun x_32 =>
 Ld x_32 w14 fun x_33 =>
 Rk (fun w K => Ld x_32 w fun x_34 => K x_34) x_33 w13 <|
 Bp .neq x_31 x_33 fun x_36 =>
 Vif x_36 (
 KE [x_7, x_8, x_16, x_17, x_18] [x_7, x_8, x_16, x_17, x_18] <| J26 (.bool true) w14) (
 Cl P F.server_Server_Jobs #[x_7, x_18] w14 fun x_37 w15 =>
 Bp .neq x_37 (.int .i64 0) fun x_38 =>
 Vif x_38 (
 KE [x_7, x_8, x_16, x_17, x_18] [x_7, x_8, x_16, x_17, x_18] <| J26 (.bool true) w15) (
 Cl P F.server_Server_Charged #[x_7, x_18] w15 fun x_39 w16 =>
 Bp .neq x_39 (.int .i64 0) fun x_40 =>
 KE [x_7, x_8, x_16, x_17, x_18] [x_7, x_8, x_16, x_17, x_18] <| J26 x_40 w16)))))) (
 Bp .eql x_8 (.int .i64 0) fun x_41 =>
 Vif x_41 (
 Cl P F.server_Server_At #[x_7] w7 fun x_42 w17 =>
 Bp .eql x_42 (.int .i64 0) fun x_43 =>
 Vif x_43 (
 Cl P F.server_Server_Idle #[x_7] w17 fun x_44 w18 =>
 Vif x_44 (
 Cl P F.server_Server_Sent #[x_7, (.int .i64 0)] w18 fun x_45 w19 =>
 Bp .eql x_45 (.string ⟨#[]⟩) fun x_46 =>
 Vif x_46 (
 Cl P F.server_Server_Waits #[x_7, (.int .i64 0)] w19 fun x_47 w20 =>
 Up .not x_47 fun x_48 =>
 Vif x_48 (
 Cl P F.server_Server_Over #[x_7, (.int .i64 0)] w20 fun x_49 w21 =>
 Up .not x_49 fun x_50 =>
 Vif x_50 (
 Cl P F.balerlaw40_test #[] w21 fun x_51 w22 =>
 R x_51 w22) (
 R (.bool false) w21)) (
 R (.bool false) w20)) (
 R (.bool false) w19)) (
 R (.bool false) w18)) (
 R (.bool false) w17)) (
 R (.bool false) w7))))
theorem Tie.balerlaw40_ServerNews {c_p0 : Value} {w : World} {R : Value → World → Prop} (h : Vcf.balerlaw40_ServerNews Tryz.prog c_p0 w R) : Cl Tryz.prog F.balerlaw40_ServerNews #[c_p0] w R :=
  cl_of_vc (n := 98) (rs := [(.tmp 2)]) (h := (.s .z (.s (.s .z (.i (.s .z .z) .z)) (.s .z (.s (.s .z (.s .z (.i (.s .z .z) .z))) (.s (.s .z (.b (.l [33] [3, 4, 31, 32] (.s .z (.s (.i .z .z) (.s (.b (.s .z (.j [67] [3, 4, 31, 32, 33] (.r (.staged [0, 0, 3, 7, 15, 31, 31, 127, 255, 511, 1023, 2047, 2047, 8191, 2047, 18431, 65535, 131071, 262143, 524287, 524287, 2097151, 4194303, 8388607, 16777215, 33554431, 33554431, 134217727, 268435455, 536870911])) (.i (.s .z .z) .z)))) .z)))))) (.s .z .z))))))) (args := [c_p0]) (by kernel_rfl) Tryz.func3 rfl (by kernel_rfl) rfl rfl rfl (Eq.mp (by kernel_rfl) h)

/-- baler/balerlaw42.ScriptChecks -/
def Vcf.balerlaw42_ScriptChecks (P : Program) (s_p0 : Value) (w : World) (R : Value → World → Prop) : Prop   :=
 New s_p0 42 w fun s_1 w1 =>
 LdA 9 s_1 w1 fun x_2 =>
 Cl P F.balerref42_Large #[x_2, (.int .i64 70000)] w1 fun x_3 w2 =>
 Vif x_3 (
 Cl P F.balerlaw42_hello #[] w2 fun x_4 w3 =>
 R x_4 w3) (
 Dr w2 fun w4 =>
 LdA 9 s_1 w4 fun x_5 =>
 Cl P F.script_Check #[x_5] w4 fun x_7 w5 =>
 LdA 9 s_1 w5 fun x_8 =>
 Rk (fun w K => LdA 9 s_1 w fun x_9 => K x_9) x_8 w4 <|
 Cl P F.balerref42_Check #[x_8] w5 fun x_11 w6 =>
 Bp .eql x_7 x_11 fun x_12 =>
 Vif x_12 (
 Cl P F.balerlaw42_hello #[] w6 fun x_13 w7 =>
 R x_13 w7) (
 R (.bool false) w6))
theorem Tie.balerlaw42_ScriptChecks {s_p0 : Value} {w : World} {R : Value → World → Prop} (h : Vcf.balerlaw42_ScriptChecks Tryz.prog s_p0 w R) : Cl Tryz.prog F.balerlaw42_ScriptChecks #[s_p0] w R :=
  cl_of_vc (n := 14) (rs := [(.tmp 2)]) (h := (.s .z (.s (.s .z (.i (.s .z .z) .z)) (.s (.r (.staged [0, 1, 0, 7, 15, 31, 63, 127, 255])) .z)))) (args := [s_p0]) (by kernel_rfl) Tryz.func4 rfl (by kernel_rfl) rfl rfl rfl (Eq.mp (by kernel_rfl) h)

/-- baler/balerlaw40.large -/
def Vcf.balerlaw40_large (P : Program) (c_p0 l_p1 : Value) (w : World) (R : Value → World → Prop) : Prop   :=
 New c_p0 24 w fun c_1 w1 =>
 VJoin 1 (fun _ x_2 w2 =>
 Vif x_2 (
 R (.bool true) w2) (
 Fo 0 c_1 fun x_3 =>
 Ld x_3 w2 fun x_4 =>
 Lnl x_4 fun x_5 =>
 VLoop 1 [(.int .i64 0)] w2 fun _ next7 x_6 w3 =>
 Bp .lss x_6 x_5 fun x_8 =>
 Vif x_8 (
 Ias 5 x_4 x_6 fun x_9 =>
 LdA 5 x_9 w3 fun x_10 =>
 New (zeroP P 33) 33 w3 fun t_11 w4 =>
 StA 5 t_11 x_10 w4 fun w5 =>
 VJoin 1 (fun _ x_12 w6 =>
 Vif x_12 (
 R (.bool true) w6) (
 Bp .add x_6 (.int .i64 1) fun x_13 =>
 KE [l_p1, x_4, x_5] [l_p1, x_4, x_5] <| next7 x_13 w6))
 (fun J14 =>
 Fo 0 t_11 fun x_15 =>
 Ld x_15 w5 fun x_16 =>
 Lns x_16 fun x_17 =>
 Bp .gtr x_17 (.int .i64 150) fun x_18 =>
 Vif x_18 (
 KE [l_p1, x_4, x_5, x_6] [l_p1, x_4, x_5, x_6] <| J14 (.bool true) w5) (
 Fo 1 t_11 fun x_19 =>
 Ld x_19 w5 fun x_20 =>
 Lns x_20 fun x_21 =>
 Bp .gtr x_21 (.int .i64 150) fun x_22 =>
 KE [l_p1, x_4, x_5, x_6] [l_p1, x_4, x_5, x_6] <| J14 x_22 w5))) (
 Lnl l_p1 fun x_23 =>
 VLoop 1 [(.int .i64 0)] w3 fun _ next25 x_24 w7 =>
 Bp .lss x_24 x_23 fun x_26 =>
 Vif x_26 (
 Ias 3 l_p1 x_24 fun x_27 =>
 LdA 3 x_27 w7 fun x_28 =>
 New (zeroP P 49) 49 w7 fun f_29 w8 =>
 StA 3 f_29 x_28 w8 fun w9 =>
 VJoin 1 (fun _ x_30 w10 =>
 Vif x_30 (
 R (.bool true) w10) (
 Bp .add x_24 (.int .i64 1) fun x_31 =>
 KE [l_p1, x_23] [l_p1, x_23] <| next25 x_31 w10))
 (fun J32 =>
 LdA 3 f_29 w9 fun x_33 =>
 Cl P F.balerref33_Wrong #[x_33] w9 fun x_34 w11 =>
 Bp .neq x_34 (.int .i64 0) fun x_35 =>
 Vif x_35 (
 KE [l_p1, x_23, x_24] [l_p1, x_23, x_24] <| J32 (.bool true) w11) (
 Fo 2 f_29 fun x_36 =>
 Ld x_36 w11 fun x_37 =>
 Lns x_37 fun x_38 =>
 Bp .gtr x_38 (.int .i64 200) fun x_39 =>
 KE [l_p1, x_23, x_24] [l_p1, x_23, x_24] <| J32 x_39 w11))) (
 R (.bool false) w7))))
 (fun J40 =>
 Fo 0 c_1 fun x_41 =>
 Ld x_41 w1 fun x_42 =>
 Lnl x_42 fun x_43 =>
 Bp .gtr x_43 (.int .i64 20) fun x_44 =>
 Vif x_44 (
 KE [l_p1, c_1] [l_p1, c_1] <| J40 (.bool true) w1) (
 Lnl l_p1 fun x_45 =>
 Bp .gtr x_45 (.int .i64 40) fun x_46 =>
 Vif x_46 (
 KE [l_p1, c_1] [l_p1, c_1] <| J40 (.bool true) w1) (
 Fo 1 c_1 fun x_47 =>
 Ld x_47 w1 fun x_48 =>
 Bp .gtr x_48 (.int .i64 200) fun x_49 =>
 Vif x_49 (
 Fo 1 c_1 fun x_50 =>
 Ld x_50 w1 fun x_51 =>
 Bp .leq x_51 (.int .i64 100000) fun x_52 =>
 KE [l_p1, c_1] [l_p1, c_1] <| J40 x_52 w1) (
 KE [l_p1, c_1] [l_p1, c_1] <| J40 (.bool false) w1))))
theorem Tie.balerlaw40_large {c_p0 l_p1 : Value} {w : World} {R : Value → World → Prop} (h : Vcf.balerlaw40_large Tryz.prog c_p0 l_p1 w R) : Cl Tryz.prog F.balerlaw40_large #[c_p0, l_p1] w R :=
  cl_of_vc (n := 62) (rs := [(.tmp 4)]) (h := (.s .z (.s (.j [27] [1, 2] .z (.i (.s .z .z) .z)) (.s (.s .z (.b (.l [31] [1, 29, 30] (.s .z (.s (.i .z .z) (.s (.b (.s .z (.j [44] [1, 29, 30, 31] .z (.i (.s .z .z) .z)))) .z)))))) (.s (.s .z (.b (.l [48] [46, 47] (.s .z (.s (.i .z .z) (.s (.b (.s .z (.j [60] [46, 47, 48] .z (.i (.s .z .z) .z)))) .z)))))) (.s .z .z)))))) (args := [c_p0, l_p1]) (by kernel_rfl) Tryz.func5 rfl (by kernel_rfl) rfl rfl rfl (Eq.mp (by kernel_rfl) h)

/-- baler/server.New -/
def Vcf.server_New (P : Program) (c_p0 : Value) (w : World) (R : Value → World → Prop) : Prop   :=
 New c_p0 24 w fun c_1 w1 =>
 LdA 7 c_1 w1 fun x_2 =>
 Cl P F.tenants_Config #[x_2] w1 fun x_3 w2 =>
 Bp .neq x_3 (.int .i64 0) fun x_4 =>
 Vif x_4 (
 R (.tuple #[(.pointer none), x_3]) w2) (
 Fo 5 c_1 fun x_5 =>
 Ld x_5 w2 fun x_6 =>
 Cl P F.jobs_New #[x_6] w2 fun x_7 w3 =>
 Ex x_7 0 fun x_8 =>
 Ex x_7 1 fun x_9 =>
 Fo 0 c_1 fun x_10 =>
 Ld x_10 w3 fun x_11 =>
 Cl P F.server_each #[x_11, (.func (.func 33) #[] #[])] w3 fun x_12 w4 =>
 Cl P F.ledger_New #[x_12] w4 fun x_13 w5 =>
 Ex x_13 0 fun x_14 =>
 Ex x_13 1 fun x_15 =>
 Dr w5 fun w6 =>
 Fo 4 c_1 fun x_16 =>
 Ld x_16 w6 fun x_17 =>
 Fo 0 c_1 fun x_19 =>
 Ld x_19 w6 fun x_20 =>
 Cl P F.server_each #[x_20, (.func (.func 35) #[] #[])] w6 fun x_22 w7 =>
 Rk (fun w K => Ld x_16 w fun x_18 => K x_18) x_17 w7 <|
 Cl P F.window_New #[x_17, x_22] w7 fun x_23 w8 =>
 Ex x_23 0 fun x_24 =>
 Ex x_23 1 fun x_25 =>
 Fo 0 c_1 fun x_26 =>
 Ld x_26 w8 fun x_27 =>
 Cl P F.server_each #[x_27, (.func (.func 37) #[] #[])] w8 fun x_28 w9 =>
 Cl P F.drr_New #[x_28] w9 fun x_29 w10 =>
 Ex x_29 0 fun x_30 =>
 Ex x_29 1 fun x_31 =>
 Bs P 22 0 #[] w10 fun x_32 w11 =>
 Fo 0 c_1 fun x_33 =>
 Ld x_33 w11 fun x_34 =>
 Ap P #[22, 22] 22 #[x_32, x_34] w11 fun x_35 w12 =>
 Fo 0 c_1 fun x_36 =>
 St x_36 x_35 w12 fun w13 =>
 LdA 7 c_1 w13 fun x_37 =>
 Mm P 71 none w13 fun x_38 w14 =>
 Mm P 72 none w14 fun x_39 w15 =>
 Bd P 74 #[(0, x_37), (1, x_38), (2, x_39), (3, x_8), (4, x_14), (5, x_24), (6, x_30)] w15 fun x_40 =>
 New x_40 74 w15 fun x_41 w16 =>
 R (.tuple #[x_41, (.int .i64 0)]) w16)
theorem Tie.server_New {c_p0 : Value} {w : World} {R : Value → World → Prop} (h : Vcf.server_New Tryz.prog c_p0 w R) : Cl Tryz.prog F.server_New #[c_p0] w R :=
  cl_of_vc (n := 61) (rs := [(.tmp 2), (.tmp 3)]) (h := (.s .z (.s (.s .z (.s .z (.i (.s .z .z) .z))) (.s .z (.s .z (.s (.r (.staged [0, 1, 0, 4, 12, 31, 63, 127, 127, 255, 1023])) (.s .z (.s .z (.s .z .z))))))))) (args := [c_p0]) (by kernel_rfl) Tryz.func7 rfl (by kernel_rfl) rfl rfl rfl (Eq.mp (by kernel_rfl) h)

/-- baler/balerref32.Config -/
def Vcf.balerref32_Config (P : Program) (c_p0 : Value) (w : World) (R : Value → World → Prop) : Prop   :=
 New c_p0 24 w fun c_1 w1 =>
 Fo 0 c_1 fun x_2 =>
 Ld x_2 w1 fun x_3 =>
 Cl P F.balerref32_Check #[x_3] w1 fun x_4 w2 =>
 New (zeroP P 76) 76 w2 fun w_5 w3 =>
 StA 2 w_5 x_4 w3 fun w4 =>
 Fo 1 w_5 fun x_6 =>
 Ld x_6 w4 fun x_7 =>
 Bp .neq x_7 (.int .i64 0) fun x_8 =>
 Vif x_8 (
 Fo 1 w_5 fun x_9 =>
 Ld x_9 w4 fun x_10 =>
 R x_10 w4) (
 Fo 1 c_1 fun x_11 =>
 Ld x_11 w4 fun x_12 =>
 Bp .lss x_12 (.int .i64 24) fun x_13 =>
 Vif x_13 (
 R (.int .i64 1) w4) (
 Fo 1 c_1 fun x_14 =>
 Ld x_14 w4 fun x_15 =>
 Bp .gtr x_15 (.int .i64 100000) fun x_16 =>
 Vif x_16 (
 R (.int .i64 1) w4) (
 Fo 2 c_1 fun x_17 =>
 Ld x_17 w4 fun x_18 =>
 Bp .lss x_18 (.int .i64 64) fun x_19 =>
 Vif x_19 (
 R (.int .i64 1) w4) (
 Fo 2 c_1 fun x_20 =>
 Ld x_20 w4 fun x_21 =>
 Bp .gtr x_21 (.int .i64 1048576) fun x_22 =>
 Vif x_22 (
 R (.int .i64 1) w4) (
 Fo 3 c_1 fun x_23 =>
 Ld x_23 w4 fun x_24 =>
 Cl P F.balerref32_most #[x_24, (.int .i64 1)] w4 fun x_25 w5 =>
 Up .not x_25 fun x_26 =>
 Vif x_26 (
 R (.int .i64 1) w5) (
 Fo 4 c_1 fun x_27 =>
 Ld x_27 w5 fun x_28 =>
 Bp .lss x_28 (.int .i64 1) fun x_29 =>
 Vif x_29 (
 R (.int .i64 1) w5) (
 Fo 4 c_1 fun x_30 =>
 Ld x_30 w5 fun x_31 =>
 Bp .gtr x_31 (.int .i64 1048576) fun x_32 =>
 Vif x_32 (
 R (.int .i64 1) w5) (
 Fo 5 c_1 fun x_33 =>
 Ld x_33 w5 fun x_34 =>
 Bp .lss x_34 (.int .i64 1) fun x_35 =>
 Vif x_35 (
 R (.int .i64 1) w5) (
 Fo 5 c_1 fun x_36 =>
 Ld x_36 w5 fun x_37 =>
 Bp .gtr x_37 (.int .i64 64) fun x_38 =>
 Vif x_38 (
 R (.int .i64 1) w5) (
 Fo 6 c_1 fun x_39 =>
 Ld x_39 w5 fun x_40 =>
 Bp .lss x_40 (.int .i64 1) fun x_41 =>
 Vif x_41 (
 R (.int .i64 1) w5) (
 Fo 6 c_1 fun x_42 =>
 Ld x_42 w5 fun x_43 =>
 Bp .gtr x_43 (.int .i64 4096) fun x_44 =>
 Vif x_44 (
 R (.int .i64 1) w5) (
 R (.int .i64 0) w5))))))))))))
theorem Tie.balerref32_Config {c_p0 : Value} {w : World} {R : Value → World → Prop} (h : Vcf.balerref32_Config Tryz.prog c_p0 w R) : Cl Tryz.prog F.balerref32_Config #[c_p0] w R :=
  cl_of_vc (n := 66) (rs := [(.tmp 2)]) (h := (.s .z (.s .z (.s (.s .z (.i (.s .z .z) .z)) (.s (.s .z (.i (.s .z .z) .z)) (.s .z .z)))))) (args := [c_p0]) (by kernel_rfl) Tryz.func8 rfl (by kernel_rfl) rfl rfl rfl (Eq.mp (by kernel_rfl) h)

/-- (baler/server.Server).Used -/
def Vcf.server_Server_Used (P : Program) (s_p0 tenant_p1 : Value) (w : World) (R : Value → World → Prop) : Prop   :=
 Bn P 74 false s_p0 (.pointer none) fun x_1 =>
 Vif x_1 (
 R (.int .i64 0) w) (
 Nc s_p0 <|
 Fo 10 s_p0 fun x_2 =>
 Ld x_2 w fun x_3 =>
 Cl P F.ledger_Ledger_Used #[x_3, tenant_p1] w fun x_4 w1 =>
 R x_4 w1)
theorem Tie.server_Server_Used {s_p0 tenant_p1 : Value} {w : World} {R : Value → World → Prop} (h : Vcf.server_Server_Used Tryz.prog s_p0 tenant_p1 w R) : Cl Tryz.prog F.server_Server_Used #[s_p0, tenant_p1] w R :=
  cl_of_vc (n := 13) (rs := [(.tmp 4)]) (h := (.s .z (.s (.s .z (.i (.s .z .z) .z)) (.s .z .z)))) (args := [s_p0, tenant_p1]) (by kernel_rfl) Tryz.func9 rfl (by kernel_rfl) rfl rfl rfl (Eq.mp (by kernel_rfl) h)

/-- (baler/server.Server).Held -/
def Vcf.server_Server_Held (P : Program) (s_p0 tenant_p1 : Value) (w : World) (R : Value → World → Prop) : Prop   :=
 Bn P 74 false s_p0 (.pointer none) fun x_1 =>
 Vif x_1 (
 R (.int .i64 0) w) (
 Nc s_p0 <|
 Fo 9 s_p0 fun x_2 =>
 Ld x_2 w fun x_3 =>
 Cl P F.jobs_Table_By #[x_3, tenant_p1] w fun x_4 w1 =>
 Lnl x_4 fun x_5 =>
 VLoop 2 [(.int .i64 0), (.int .i64 0)] w1 fun _ next8 n_6 x_7 w2 =>
 Bp .lss x_7 x_5 fun x_9 =>
 Vif x_9 (
 Ias 1 x_4 x_7 fun x_10 =>
 Ld x_10 w2 fun x_11 =>
 Nc s_p0 <|
 Fo 8 s_p0 fun x_12 =>
 Ld x_12 w2 fun x_13 =>
 Lk P 72 x_13 x_11 false w2 fun x_14 =>
 Nc x_14 <|
 Fo 0 x_14 fun x_15 =>
 Ld x_15 w2 fun x_16 =>
 Cl P F.job_Job_Held #[x_16] w2 fun x_17 w3 =>
 Bp .add n_6 x_17 fun x_18 =>
 Bp .add x_7 (.int .i64 1) fun x_19 =>
 KE [s_p0, x_4, x_5] [s_p0, x_4, x_5] <| next8 x_18 x_19 w3) (
 R n_6 w2))
theorem Tie.server_Server_Held {s_p0 tenant_p1 : Value} {w : World} {R : Value → World → Prop} (h : Vcf.server_Server_Held Tryz.prog s_p0 tenant_p1 w R) : Cl Tryz.prog F.server_Server_Held #[s_p0, tenant_p1] w R :=
  cl_of_vc (n := 35) (rs := [(.tmp 4)]) (h := (.s .z (.s (.s .z (.i (.s .z .z) .z)) (.s .z (.s (.s .z (.b (.l [5, 17] [0, 15, 16] (.s .z (.s (.i .z .z) (.s (.b (.s .z .z)) .z)))))) (.s .z .z)))))) (args := [s_p0, tenant_p1]) (by kernel_rfl) Tryz.func10 rfl (by kernel_rfl) rfl rfl rfl (Eq.mp (by kernel_rfl) h)

/-- (baler/server.Server).Left -/
def Vcf.server_Server_Left (P : Program) (s_p0 tenant_p1 : Value) (w : World) (R : Value → World → Prop) : Prop   :=
 Bn P 74 false s_p0 (.pointer none) fun x_1 =>
 Vif x_1 (
 R (.int .i64 0) w) (
 Nc s_p0 <|
 Fo 11 s_p0 fun x_2 =>
 Ld x_2 w fun x_3 =>
 Cl P F.window_Meter_Left #[x_3, tenant_p1] w fun x_4 w1 =>
 R x_4 w1)
theorem Tie.server_Server_Left {s_p0 tenant_p1 : Value} {w : World} {R : Value → World → Prop} (h : Vcf.server_Server_Left Tryz.prog s_p0 tenant_p1 w R) : Cl Tryz.prog F.server_Server_Left #[s_p0, tenant_p1] w R :=
  cl_of_vc (n := 13) (rs := [(.tmp 4)]) (h := (.s .z (.s (.s .z (.i (.s .z .z) .z)) (.s .z .z)))) (args := [s_p0, tenant_p1]) (by kernel_rfl) Tryz.func11 rfl (by kernel_rfl) rfl rfl rfl (Eq.mp (by kernel_rfl) h)

/-- (baler/server.Server).Jobs -/
def Vcf.server_Server_Jobs (P : Program) (s_p0 tenant_p1 : Value) (w : World) (R : Value → World → Prop) : Prop   :=
 Bn P 74 false s_p0 (.pointer none) fun x_1 =>
 Vif x_1 (
 R (.int .i64 0) w) (
 Nc s_p0 <|
 Fo 9 s_p0 fun x_2 =>
 Ld x_2 w fun x_3 =>
 Cl P F.jobs_Table_By #[x_3, tenant_p1] w fun x_4 w1 =>
 Lnl x_4 fun x_5 =>
 R x_5 w1)
theorem Tie.server_Server_Jobs {s_p0 tenant_p1 : Value} {w : World} {R : Value → World → Prop} (h : Vcf.server_Server_Jobs Tryz.prog s_p0 tenant_p1 w R) : Cl Tryz.prog F.server_Server_Jobs #[s_p0, tenant_p1] w R :=
  cl_of_vc (n := 14) (rs := [(.tmp 4)]) (h := (.s .z (.s (.s .z (.i (.s .z .z) .z)) (.s .z .z)))) (args := [s_p0, tenant_p1]) (by kernel_rfl) Tryz.func12 rfl (by kernel_rfl) rfl rfl rfl (Eq.mp (by kernel_rfl) h)

/-- (baler/server.Server).Charged -/
def Vcf.server_Server_Charged (P : Program) (s_p0 tenant_p1 : Value) (w : World) (R : Value → World → Prop) : Prop   :=
 Bn P 74 false s_p0 (.pointer none) fun x_1 =>
 Vif x_1 (
 R (.int .i64 0) w) (
 Nc s_p0 <|
 Fo 11 s_p0 fun x_2 =>
 Ld x_2 w fun x_3 =>
 Cl P F.window_Meter_Total #[x_3, tenant_p1] w fun x_4 w1 =>
 R x_4 w1)
theorem Tie.server_Server_Charged {s_p0 tenant_p1 : Value} {w : World} {R : Value → World → Prop} (h : Vcf.server_Server_Charged Tryz.prog s_p0 tenant_p1 w R) : Cl Tryz.prog F.server_Server_Charged #[s_p0, tenant_p1] w R :=
  cl_of_vc (n := 13) (rs := [(.tmp 4)]) (h := (.s .z (.s (.s .z (.i (.s .z .z) .z)) (.s .z .z)))) (args := [s_p0, tenant_p1]) (by kernel_rfl) Tryz.func13 rfl (by kernel_rfl) rfl rfl rfl (Eq.mp (by kernel_rfl) h)

/-- (baler/server.Server).At -/
def Vcf.server_Server_At (P : Program) (s_p0 : Value) (w : World) (R : Value → World → Prop) : Prop   :=
 Bn P 74 false s_p0 (.pointer none) fun x_1 =>
 Vif x_1 (
 R (.int .i64 0) w) (
 Nc s_p0 <|
 Fo 11 s_p0 fun x_2 =>
 Ld x_2 w fun x_3 =>
 Cl P F.window_Meter_At #[x_3] w fun x_4 w1 =>
 R x_4 w1)
theorem Tie.server_Server_At {s_p0 : Value} {w : World} {R : Value → World → Prop} (h : Vcf.server_Server_At Tryz.prog s_p0 w R) : Cl Tryz.prog F.server_Server_At #[s_p0] w R :=
  cl_of_vc (n := 10) (rs := [(.tmp 2)]) (h := (.s .z (.s (.s .z (.i (.s .z .z) .z)) (.s .z .z)))) (args := [s_p0]) (by kernel_rfl) Tryz.func14 rfl (by kernel_rfl) rfl rfl rfl (Eq.mp (by kernel_rfl) h)

/-- (baler/server.Server).Idle -/
def Vcf.server_Server_Idle (P : Program) (s_p0 : Value) (w : World) (R : Value → World → Prop) : Prop   :=
 Bn P 74 false s_p0 (.pointer none) fun x_1 =>
 Vif x_1 (
 R (.bool true) w) (
 Nc s_p0 <|
 Fo 12 s_p0 fun x_2 =>
 Ld x_2 w fun x_3 =>
 Cl P F.drr_Scheduler_Ring #[x_3] w fun x_4 w1 =>
 Lnl x_4 fun x_5 =>
 Bp .eql x_5 (.int .i64 0) fun x_6 =>
 R x_6 w1)
theorem Tie.server_Server_Idle {s_p0 : Value} {w : World} {R : Value → World → Prop} (h : Vcf.server_Server_Idle Tryz.prog s_p0 w R) : Cl Tryz.prog F.server_Server_Idle #[s_p0] w R :=
  cl_of_vc (n := 14) (rs := [(.tmp 2)]) (h := (.s .z (.s .z .z))) (args := [s_p0]) (by kernel_rfl) Tryz.func15 rfl (by kernel_rfl) rfl rfl rfl (Eq.mp (by kernel_rfl) h)

/-- (baler/server.Server).Sent -/
def Vcf.server_Server_Sent (P : Program) (s_p0 conn_p1 : Value) (w : World) (R : Value → World → Prop) : Prop   :=
 Cl P F.server_Server_known #[s_p0, conn_p1] w fun x_1 w1 =>
 Bn P 96 false x_1 (.pointer none) fun x_2 =>
 Vif x_2 (
 R (.string ⟨#[]⟩) w1) (
 Nc x_1 <|
 Fo 3 x_1 fun x_3 =>
 Cl P F.strings_Builder_String #[x_3] w1 fun x_4 w2 =>
 R x_4 w2)
theorem Tie.server_Server_Sent {s_p0 conn_p1 : Value} {w : World} {R : Value → World → Prop} (h : Vcf.server_Server_Sent Tryz.prog s_p0 conn_p1 w R) : Cl Tryz.prog F.server_Server_Sent #[s_p0, conn_p1] w R :=
  cl_of_vc (n := 15) (rs := [(.tmp 4)]) (h := (.s .z (.s .z (.s (.s .z (.i (.s .z .z) .z)) (.s .z .z))))) (args := [s_p0, conn_p1]) (by kernel_rfl) Tryz.func16 rfl (by kernel_rfl) rfl rfl rfl (Eq.mp (by kernel_rfl) h)

/-- (baler/server.Server).Waits -/
def Vcf.server_Server_Waits (P : Program) (s_p0 conn_p1 : Value) (w : World) (R : Value → World → Prop) : Prop   :=
 Cl P F.server_Server_known #[s_p0, conn_p1] w fun x_1 w1 =>
 Bn P 96 true x_1 (.pointer none) fun x_2 =>
 Vif x_2 (
 Nc x_1 <|
 Fo 5 x_1 fun x_3 =>
 Ld x_3 w1 fun x_4 =>
 Bp .gtr x_4 (.int .i64 0) fun x_5 =>
 R x_5 w1) (
 R (.bool false) w1)
theorem Tie.server_Server_Waits {s_p0 conn_p1 : Value} {w : World} {R : Value → World → Prop} (h : Vcf.server_Server_Waits Tryz.prog s_p0 conn_p1 w R) : Cl Tryz.prog F.server_Server_Waits #[s_p0, conn_p1] w R :=
  cl_of_vc (n := 18) (rs := [(.tmp 4)]) (h := (.s .z (.s .z (.s .z .z)))) (args := [s_p0, conn_p1]) (by kernel_rfl) Tryz.func17 rfl (by kernel_rfl) rfl rfl rfl (Eq.mp (by kernel_rfl) h)

/-- (baler/server.Server).Over -/
def Vcf.server_Server_Over (P : Program) (s_p0 conn_p1 : Value) (w : World) (R : Value → World → Prop) : Prop   :=
 Cl P F.server_Server_known #[s_p0, conn_p1] w fun x_1 w1 =>
 Bn P 96 true x_1 (.pointer none) fun x_2 =>
 Vif x_2 (
 Nc x_1 <|
 Fo 6 x_1 fun x_3 =>
 Ld x_3 w1 fun x_4 =>
 R x_4 w1) (
 R (.bool false) w1)
theorem Tie.server_Server_Over {s_p0 conn_p1 : Value} {w : World} {R : Value → World → Prop} (h : Vcf.server_Server_Over Tryz.prog s_p0 conn_p1 w R) : Cl Tryz.prog F.server_Server_Over #[s_p0, conn_p1] w R :=
  cl_of_vc (n := 17) (rs := [(.tmp 4)]) (h := (.s .z (.s .z (.s .z .z)))) (args := [s_p0, conn_p1]) (by kernel_rfl) Tryz.func18 rfl (by kernel_rfl) rfl rfl rfl (Eq.mp (by kernel_rfl) h)

/-- baler/balerref42.Large -/
def Vcf.balerref42_Large (P : Program) (s_p0 most_p1 : Value) (w : World) (R : Value → World → Prop) : Prop   :=
 New s_p0 42 w fun s_1 w1 =>
 VJoin 1 (fun _ x_2 w2 =>
 Vif x_2 (
 R (.bool true) w2) (
 Fo 0 s_1 fun x_3 =>
 Fo 0 x_3 fun x_4 =>
 Ld x_4 w2 fun x_5 =>
 Lnl x_5 fun x_6 =>
 VLoop 1 [(.int .i64 0)] w2 fun _ next8 x_7 w3 =>
 Bp .lss x_7 x_6 fun x_9 =>
 Vif x_9 (
 Ias 5 x_5 x_7 fun x_10 =>
 LdA 5 x_10 w3 fun x_11 =>
 New (zeroP P 33) 33 w3 fun t_12 w4 =>
 StA 5 t_12 x_11 w4 fun w5 =>
 VJoin 1 (fun _ x_13 w6 =>
 Vif x_13 (
 R (.bool true) w6) (
 Bp .add x_7 (.int .i64 1) fun x_14 =>
 KE [most_p1, s_1, x_5, x_6] [most_p1, s_1, x_5, x_6] <| next8 x_14 w6))
 (fun J15 =>
 Fo 0 t_12 fun x_16 =>
 Ld x_16 w5 fun x_17 =>
 Lns x_17 fun x_18 =>
 Bp .gtr x_18 (.int .i64 150) fun x_19 =>
 Vif x_19 (
 KE [most_p1, s_1, x_5, x_6, x_7] [most_p1, s_1, x_5, x_6, x_7] <| J15 (.bool true) w5) (
 Fo 1 t_12 fun x_20 =>
 Ld x_20 w5 fun x_21 =>
 Lns x_21 fun x_22 =>
 Bp .gtr x_22 (.int .i64 150) fun x_23 =>
 KE [most_p1, s_1, x_5, x_6, x_7] [most_p1, s_1, x_5, x_6, x_7] <| J15 x_23 w5))) (
 Fo 7 s_1 fun x_24 =>
 Ld x_24 w3 fun x_25 =>
 Lnl x_25 fun x_26 =>
 VLoop 1 [(.int .i64 0)] w3 fun _ next28 x_27 w7 =>
 Bp .lss x_27 x_26 fun x_29 =>
 Vif x_29 (
 Ias 1 x_25 x_27 fun x_30 =>
 Ld x_30 w7 fun x_31 =>
 Lns x_31 fun x_32 =>
 Bp .gtr x_32 most_p1 fun x_33 =>
 Vif x_33 (
 R (.bool true) w7) (
 Bp .add x_27 (.int .i64 1) fun x_34 =>
 KE [most_p1, s_1, x_25, x_26] [most_p1, s_1, x_25, x_26] <| next28 x_34 w7)) (
 Fo 8 s_1 fun x_35 =>
 Ld x_35 w7 fun x_36 =>
 Lnl x_36 fun x_37 =>
 VLoop 2 [(.int .i64 0), (.int .i64 0)] w7 fun _ next40 n_38 x_39 w8 =>
 Bp .lss x_39 x_37 fun x_41 =>
 Vif x_41 (
 Ias 3 x_36 x_39 fun x_42 =>
 LdA 3 x_42 w8 fun x_43 =>
 New (zeroP P 99) 99 w8 fun e_44 w9 =>
 StA 3 e_44 x_43 w9 fun w10 =>
 VJoin 1 (fun _ x_45 w11 =>
 Vif x_45 (
 R (.bool true) w11) (
 VJoin 1 (fun _ x_46 w12 =>
 Vif x_46 (
 Fo 2 e_44 fun x_47 =>
 Ld x_47 w12 fun x_48 =>
 Bp .add n_38 x_48 fun x_49 =>
 Bp .add x_39 (.int .i64 1) fun x_50 =>
 KE [x_36, x_37] [x_36, x_37] <| next40 x_49 x_50 w12) (
 Bp .add x_39 (.int .i64 1) fun x_51 =>
 KE [x_36, x_37] [x_36, x_37] <| next40 n_38 x_51 w12))
 (fun J52 =>
 Fo 0 e_44 fun x_53 =>
 Ld x_53 w11 fun x_54 =>
 Bp .eql x_54 (.int .i64 2) fun x_55 =>
 Vif x_55 (
 Fo 2 e_44 fun x_56 =>
 Ld x_56 w11 fun x_57 =>
 Bp .gtr x_57 (.int .i64 0) fun x_58 =>
 Vif x_58 (
 Fo 2 e_44 fun x_59 =>
 Ld x_59 w11 fun x_60 =>
 Bp .leq x_60 (.int .i64 300) fun x_61 =>
 KE [n_38, e_44, x_36, x_37, x_39] [n_38, e_44, x_36, x_37, x_39] <| J52 x_61 w11) (
 KE [n_38, e_44, x_36, x_37, x_39] [n_38, e_44, x_36, x_37, x_39] <| J52 (.bool false) w11)) (
 KE [n_38, e_44, x_36, x_37, x_39] [n_38, e_44, x_36, x_37, x_39] <| J52 (.bool false) w11))))
 (fun J62 =>
 Fo 0 e_44 fun x_63 =>
 Ld x_63 w10 fun x_64 =>
 Bp .eql x_64 (.int .i64 2) fun x_65 =>
 Vif x_65 (
 Fo 2 e_44 fun x_66 =>
 Ld x_66 w10 fun x_67 =>
 Bp .gtr x_67 (.int .i64 300) fun x_68 =>
 Vif x_68 (
 Fo 2 e_44 fun x_69 =>
 Ld x_69 w10 fun x_70 =>
 Bp .leq x_70 (.int .i64 65536) fun x_71 =>
 KE [n_38, e_44, x_36, x_37, x_39] [n_38, e_44, x_36, x_37, x_39] <| J62 x_71 w10) (
 KE [n_38, e_44, x_36, x_37, x_39] [n_38, e_44, x_36, x_37, x_39] <| J62 (.bool false) w10)) (
 KE [n_38, e_44, x_36, x_37, x_39] [n_38, e_44, x_36, x_37, x_39] <| J62 (.bool false) w10))) (
 Bp .gtr n_38 (.int .i64 1000) fun x_72 =>
 R x_72 w8)))))
 (fun J73 =>
 Fo 0 s_1 fun x_74 =>
 Fo 0 x_74 fun x_75 =>
 Ld x_75 w1 fun x_76 =>
 Lnl x_76 fun x_77 =>
 Bp .gtr x_77 (.int .i64 20) fun x_78 =>
 Vif x_78 (
 KE [most_p1, s_1] [most_p1, s_1] <| J73 (.bool true) w1) (
 Fo 7 s_1 fun x_79 =>
 Ld x_79 w1 fun x_80 =>
 Lnl x_80 fun x_81 =>
 Bp .gtr x_81 (.int .i64 6) fun x_82 =>
 Vif x_82 (
 KE [most_p1, s_1] [most_p1, s_1] <| J73 (.bool true) w1) (
 Fo 8 s_1 fun x_83 =>
 Ld x_83 w1 fun x_84 =>
 Lnl x_84 fun x_85 =>
 Bp .gtr x_85 (.int .i64 60) fun x_86 =>
 Vif x_86 (
 KE [most_p1, s_1] [most_p1, s_1] <| J73 (.bool true) w1) (
 Fo 0 s_1 fun x_87 =>
 Fo 1 x_87 fun x_88 =>
 Ld x_88 w1 fun x_89 =>
 Bp .gtr x_89 (.int .i64 200) fun x_90 =>
 Vif x_90 (
 Fo 0 s_1 fun x_91 =>
 Fo 1 x_91 fun x_92 =>
 Ld x_92 w1 fun x_93 =>
 Bp .leq x_93 (.int .i64 100000) fun x_94 =>
 KE [most_p1, s_1] [most_p1, s_1] <| J73 x_94 w1) (
 KE [most_p1, s_1] [most_p1, s_1] <| J73 (.bool false) w1)))))
theorem Tie.balerref42_Large {s_p0 most_p1 : Value} {w : World} {R : Value → World → Prop} (h : Vcf.balerref42_Large Tryz.prog s_p0 most_p1 w R) : Cl Tryz.prog F.balerref42_Large #[s_p0, most_p1] w R :=
  cl_of_vc (n := 112) (rs := [(.tmp 4)]) (h := (.s .z (.s (.j [40] [1, 2] .z (.i (.s .z .z) .z)) (.s (.s .z (.b (.l [45] [1, 2, 43, 44] (.s .z (.s (.i .z .z) (.s (.b (.s .z (.j [58] [1, 2, 43, 44, 45] .z (.i (.s .z .z) .z)))) .z)))))) (.s (.s .z (.b (.l [63] [1, 2, 61, 62] (.s .z (.s (.i .z .z) (.s (.b (.s .z (.s .z (.i (.s .z .z) .z)))) .z)))))) (.s .z (.s (.s .z (.b (.l [9, 75] [73, 74] (.s .z (.s (.i .z .z) (.s (.b (.s .z (.s (.j [91] [9, 11, 73, 74, 75] .z (.i (.s .z .z) .z)) (.j [104] [9, 11, 73, 74, 75] .z (.i .z .z))))) .z)))))) (.s .z .z)))))))) (args := [s_p0, most_p1]) (by kernel_rfl) Tryz.func19 rfl (by kernel_rfl) rfl rfl rfl (Eq.mp (by kernel_rfl) h)

/-- baler/script.Check -/
def Vcf.script_Check (P : Program) (s_p0 : Value) (w : World) (R : Value → World → Prop) : Prop   :=
 New s_p0 42 w fun s_1 w1 =>
 Fo 0 s_1 fun x_2 =>
 LdA 7 x_2 w1 fun x_3 =>
 Cl P F.tenants_Config #[x_3] w1 fun x_4 w2 =>
 Bp .neq x_4 (.int .i64 0) fun x_5 =>
 Vif x_5 (
 R x_4 w2) (
 Fo 7 s_1 fun x_6 =>
 Ld x_6 w2 fun x_7 =>
 Cl P F.slices_ContainsFunc_string_string #[x_7, (.func (.func 56) #[] #[])] w2 fun x_8 w3 =>
 VJoin 1 (fun _ x_9 w4 =>
 Vif x_9 (
 R (.int .i64 2) w4) (
 Fo 8 s_1 fun x_10 =>
 Ld x_10 w4 fun x_11 =>
 Lnl x_11 fun x_12 =>
 VLoop 2 [(.int .i64 0), (.int .i64 0)] w4 fun _ next15 ticks_13 x_14 w5 =>
 Bp .lss x_14 x_12 fun x_16 =>
 Vif x_16 (
 Ias 3 x_11 x_14 fun x_17 =>
 LdA 3 x_17 w5 fun x_18 =>
 New (zeroP P 99) 99 w5 fun e_19 w6 =>
 StA 3 e_19 x_18 w6 fun w7 =>
 LdA 3 e_19 w7 fun x_20 =>
 Fo 7 s_1 fun x_21 =>
 Ld x_21 w7 fun x_22 =>
 Lnl x_22 fun x_23 =>
 Cl P F.script_event #[x_20, x_23] w7 fun x_24 w8 =>
 Up .not x_24 fun x_25 =>
 Vif x_25 (
 R (.int .i64 1) w8) (
 VJoin 1 (fun _ ticks_26 w9 =>
 Bp .gtr ticks_26 (.int .i64 65536) fun x_27 =>
 Vif x_27 (
 R (.int .i64 2) w9) (
 Bp .add x_14 (.int .i64 1) fun x_28 =>
 KE [s_1, x_11, x_12] [s_1, x_11, x_12] <| next15 ticks_26 x_28 w9))
 (fun J29 =>
 Fo 0 e_19 fun x_30 =>
 Ld x_30 w8 fun x_31 =>
 Bp .eql x_31 (.int .i64 2) fun x_32 =>
 Vif x_32 (
 Fo 2 e_19 fun x_33 =>
 Ld x_33 w8 fun x_34 =>
 Bp .add ticks_13 x_34 fun x_35 =>
 KE [s_1, x_11, x_12, x_14] [s_1, x_11, x_12, x_14] <| J29 x_35 w8) (
 KE [s_1, x_11, x_12, x_14] [s_1, x_11, x_12, x_14] <| J29 ticks_13 w8)))) (
 R (.int .i64 0) w5)))
 (fun J36 =>
 Fo 7 s_1 fun x_37 =>
 Ld x_37 w3 fun x_38 =>
 Lnl x_38 fun x_39 =>
 Bp .gtr x_39 (.int .i64 64) fun x_40 =>
 Vif x_40 (
 KE [s_1] [s_1] <| J36 (.bool true) w3) (
 Vif x_8 (
 KE [s_1] [s_1] <| J36 (.bool true) w3) (
 Fo 8 s_1 fun x_41 =>
 Ld x_41 w3 fun x_42 =>
 Lnl x_42 fun x_43 =>
 Bp .gtr x_43 (.int .i64 65536) fun x_44 =>
 KE [s_1] [s_1] <| J36 x_44 w3))))
theorem Tie.script_Check {s_p0 : Value} {w : World} {R : Value → World → Prop} (h : Vcf.script_Check Tryz.prog s_p0 w R) : Cl Tryz.prog F.script_Check #[s_p0] w R :=
  cl_of_vc (n := 53) (rs := [(.tmp 2)]) (h := (.s .z (.s (.s .z (.s .z (.i (.s .z .z) .z))) (.s .z (.s (.j [29] [1] .z (.i (.s .z .z) .z)) (.s .z (.s (.s .z (.b (.l [5, 33] [1, 31, 32] (.s .z (.s (.i .z .z) (.s (.b (.s .z (.s (.s .z (.i (.s .z .z) .z)) (.j [5] [1, 31, 32, 33] (.s .z (.i .z .z)) (.s .z (.i (.s .z .z) .z)))))) .z)))))) (.s .z .z)))))))) (args := [s_p0]) (by kernel_rfl) Tryz.func21 rfl (by kernel_rfl) rfl rfl rfl (Eq.mp (by kernel_rfl) h)

/-- baler/balerref42.Check -/
def Vcf.balerref42_Check (P : Program) (s_p0 : Value) (w : World) (R : Value → World → Prop) : Prop   :=
 New s_p0 42 w fun s_1 w1 =>
 Fo 0 s_1 fun x_2 =>
 LdA 7 x_2 w1 fun x_3 =>
 Cl P F.balerref32_Config #[x_3] w1 fun x_4 w2 =>
 Bp .neq x_4 (.int .i64 0) fun x_5 =>
 Vif x_5 (
 R x_4 w2) (
 VJoin 1 (fun _ x_6 w3 =>
 Vif x_6 (
 R (.int .i64 2) w3) (
 Fo 7 s_1 fun x_7 =>
 Ld x_7 w3 fun x_8 =>
 Lnl x_8 fun x_9 =>
 VLoop 1 [(.int .i64 0)] w3 fun _ next11 x_10 w4 =>
 Bp .lss x_10 x_9 fun x_12 =>
 Vif x_12 (
 Ias 1 x_8 x_10 fun x_13 =>
 Ld x_13 w4 fun x_14 =>
 Lns x_14 fun x_15 =>
 Bp .gtr x_15 (.int .i64 65536) fun x_16 =>
 Vif x_16 (
 R (.int .i64 2) w4) (
 Bp .add x_10 (.int .i64 1) fun x_17 =>
 KE [s_1, x_8, x_9] [s_1, x_8, x_9] <| next11 x_17 w4)) (
 Fo 8 s_1 fun x_18 =>
 Ld x_18 w4 fun x_19 =>
 Lnl x_19 fun x_20 =>
 VLoop 2 [(.int .i64 0), (.int .i64 0)] w4 fun _ next23 ticks_21 x_22 w5 =>
 Bp .lss x_22 x_20 fun x_24 =>
 Vif x_24 (
 Ias 3 x_19 x_22 fun x_25 =>
 LdA 3 x_25 w5 fun x_26 =>
 New (zeroP P 99) 99 w5 fun e_27 w6 =>
 StA 3 e_27 x_26 w6 fun w7 =>
 LdA 3 e_27 w7 fun x_28 =>
 Fo 7 s_1 fun x_29 =>
 Ld x_29 w7 fun x_30 =>
 Lnl x_30 fun x_31 =>
 Cl P F.balerref42_event #[x_28, x_31] w7 fun x_32 w8 =>
 Up .not x_32 fun x_33 =>
 Vif x_33 (
 R (.int .i64 1) w8) (
 VJoin 1 (fun _ ticks_34 w9 =>
 Bp .gtr ticks_34 (.int .i64 65536) fun x_35 =>
 Vif x_35 (
 R (.int .i64 2) w9) (
 Bp .add x_22 (.int .i64 1) fun x_36 =>
 KE [s_1, x_19, x_20] [s_1, x_19, x_20] <| next23 ticks_34 x_36 w9))
 (fun J37 =>
 Fo 0 e_27 fun x_38 =>
 Ld x_38 w8 fun x_39 =>
 Bp .eql x_39 (.int .i64 2) fun x_40 =>
 Vif x_40 (
 Fo 2 e_27 fun x_41 =>
 Ld x_41 w8 fun x_42 =>
 Bp .add ticks_21 x_42 fun x_43 =>
 KE [s_1, x_19, x_20, x_22] [s_1, x_19, x_20, x_22] <| J37 x_43 w8) (
 KE [s_1, x_19, x_20, x_22] [s_1, x_19, x_20, x_22] <| J37 ticks_21 w8)))) (
 R (.int .i64 0) w5))))
 (fun J44 =>
 Fo 7 s_1 fun x_45 =>
 Ld x_45 w2 fun x_46 =>
 Lnl x_46 fun x_47 =>
 Bp .gtr x_47 (.int .i64 64) fun x_48 =>
 Vif x_48 (
 KE [s_1] [s_1] <| J44 (.bool true) w2) (
 Fo 8 s_1 fun x_49 =>
 Ld x_49 w2 fun x_50 =>
 Lnl x_50 fun x_51 =>
 Bp .gtr x_51 (.int .i64 65536) fun x_52 =>
 KE [s_1] [s_1] <| J44 x_52 w2)))
theorem Tie.balerref42_Check {s_p0 : Value} {w : World} {R : Value → World → Prop} (h : Vcf.balerref42_Check Tryz.prog s_p0 w R) : Cl Tryz.prog F.balerref42_Check #[s_p0] w R :=
  cl_of_vc (n := 59) (rs := [(.tmp 2)]) (h := (.s .z (.s .z (.s (.s .z (.i (.s .z .z) .z)) (.s (.j [24] [1] .z (.i (.s .z .z) .z)) (.s (.s .z (.b (.l [28] [1, 26, 27] (.s .z (.s (.i .z .z) (.s (.b (.s .z (.s .z (.i (.s .z .z) .z)))) .z)))))) (.s .z (.s (.s .z (.b (.l [6, 39] [1, 37, 38] (.s .z (.s (.i .z .z) (.s (.b (.s .z (.s (.s .z (.i (.s .z .z) .z)) (.j [6] [1, 37, 38, 39] (.s .z (.i .z .z)) (.s .z (.i (.s .z .z) .z)))))) .z)))))) (.s .z .z))))))))) (args := [s_p0]) (by kernel_rfl) Tryz.func22 rfl (by kernel_rfl) rfl rfl rfl (Eq.mp (by kernel_rfl) h)

/-- baler/tenants.Config -/
def Vcf.tenants_Config (P : Program) (c_p0 : Value) (w : World) (R : Value → World → Prop) : Prop   :=
 New c_p0 24 w fun c_1 w1 =>
 Fo 0 c_1 fun x_2 =>
 Ld x_2 w1 fun x_3 =>
 Cl P F.tenants_Check #[x_3] w1 fun x_4 w2 =>
 Ex x_4 0 fun x_5 =>
 Ex x_4 1 fun x_6 =>
 Bp .neq x_6 (.int .i64 0) fun x_7 =>
 Vif x_7 (
 R x_6 w2) (
 Fo 1 c_1 fun x_8 =>
 Ld x_8 w2 fun x_9 =>
 Cl P F.tenants_between #[x_9, (.int .i64 24), (.int .i64 100000)] w2 fun x_10 w3 =>
 Vif x_10 (
 Fo 2 c_1 fun x_11 =>
 Ld x_11 w3 fun x_12 =>
 Cl P F.tenants_between #[x_12, (.int .i64 64), (.int .i64 1048576)] w3 fun x_13 w4 =>
 Vif x_13 (
 Fo 3 c_1 fun x_14 =>
 Ld x_14 w4 fun x_15 =>
 Cl P F.tenants_between #[x_15, (.int .i64 1), (.int .i64 1099511627776)] w4 fun x_16 w5 =>
 Vif x_16 (
 Fo 4 c_1 fun x_17 =>
 Ld x_17 w5 fun x_18 =>
 Cl P F.tenants_between #[x_18, (.int .i64 1), (.int .i64 1048576)] w5 fun x_19 w6 =>
 Vif x_19 (
 Fo 5 c_1 fun x_20 =>
 Ld x_20 w6 fun x_21 =>
 Cl P F.tenants_between #[x_21, (.int .i64 1), (.int .i64 64)] w6 fun x_22 w7 =>
 Vif x_22 (
 Fo 6 c_1 fun x_23 =>
 Ld x_23 w7 fun x_24 =>
 Cl P F.tenants_between #[x_24, (.int .i64 1), (.int .i64 4096)] w7 fun x_25 w8 =>
 Vif x_25 (
 R (.int .i64 0) w8) (
 R (.int .i64 1) w8)) (
 R (.int .i64 1) w7)) (
 R (.int .i64 1) w6)) (
 R (.int .i64 1) w5)) (
 R (.int .i64 1) w4)) (
 R (.int .i64 1) w3))
theorem Tie.tenants_Config {c_p0 : Value} {w : World} {R : Value → World → Prop} (h : Vcf.tenants_Config Tryz.prog c_p0 w R) : Cl Tryz.prog F.tenants_Config #[c_p0] w R :=
  cl_of_vc (n := 42) (rs := [(.tmp 2)]) (h := (.s .z (.s (.s .z (.s .z (.i (.s .z .z) .z))) (.s (.s .z (.i (.s .z .z) .z)) (.s .z .z))))) (args := [c_p0]) (by kernel_rfl) Tryz.func29 rfl (by kernel_rfl) rfl rfl rfl (Eq.mp (by kernel_rfl) h)

/-- baler/jobs.New -/
def Vcf.jobs_New (P : Program) (limit_p0 : Value) (w : World) (R : Value → World → Prop) : Prop   :=
 VJoin 1 (fun _ x_1 w1 =>
 Vif x_1 (
 R (.tuple #[(.pointer none), (.int .i64 1)]) w1) (
 Bd P 131 #[(0, limit_p0)] w1 fun x_2 =>
 New x_2 131 w1 fun x_3 w2 =>
 R (.tuple #[x_3, (.int .i64 0)]) w2))
 (fun J4 =>
 Bp .lss limit_p0 (.int .i64 1) fun x_5 =>
 Vif x_5 (
 KE [limit_p0] [limit_p0] <| J4 (.bool true) w) (
 Bp .gtr limit_p0 (.int .i64 64) fun x_6 =>
 KE [limit_p0] [limit_p0] <| J4 x_6 w))
theorem Tie.jobs_New {limit_p0 : Value} {w : World} {R : Value → World → Prop} (h : Vcf.jobs_New Tryz.prog limit_p0 w R) : Cl Tryz.prog F.jobs_New #[limit_p0] w R :=
  cl_of_vc (n := 13) (rs := [(.tmp 2), (.tmp 3)]) (h := (.s .z (.s (.j [9] [0] .z (.i (.s .z .z) .z)) (.s .z .z)))) (args := [limit_p0]) (by kernel_rfl) Tryz.func30 rfl (by kernel_rfl) rfl rfl rfl (Eq.mp (by kernel_rfl) h)

/-- baler/ledger.New -/
def Vcf.ledger_New (P : Program) (limits_p0 : Value) (w : World) (R : Value → World → Prop) : Prop   :=
 VJoin 1 (fun _ x_1 w1 =>
 Vif x_1 (
 R (.tuple #[(.pointer none), (.int .i64 1)]) w1) (
 Bd P 135 #[] w1 fun x_2 =>
 New x_2 135 w1 fun x_3 w2 =>
 Lnl limits_p0 fun x_4 =>
 VLoop 1 [(.int .i64 0)] w2 fun _ next6 x_5 w3 =>
 Bp .lss x_5 x_4 fun x_7 =>
 Vif x_7 (
 Ias 1 limits_p0 x_5 fun x_8 =>
 Ld x_8 w3 fun x_9 =>
 Nc x_3 <|
 Fo 0 x_3 fun x_10 =>
 Ld x_10 w3 fun x_11 =>
 Bd P 137 #[(0, x_9)] w3 fun x_12 =>
 Bs P 133 1 #[(0, x_12)] w3 fun x_13 w4 =>
 Ap P #[133, 133] 133 #[x_11, x_13] w4 fun x_14 w5 =>
 Nc x_3 <|
 Fo 0 x_3 fun x_15 =>
 St x_15 x_14 w5 fun w6 =>
 Bp .add x_5 (.int .i64 1) fun x_16 =>
 KE [x_3, limits_p0, x_4] [x_3, limits_p0, x_4] <| next6 x_16 w6) (
 R (.tuple #[x_3, (.int .i64 0)]) w3)))
 (fun J17 =>
 Lnl limits_p0 fun x_18 =>
 Bp .eql x_18 (.int .i64 0) fun x_19 =>
 Vif x_19 (
 KE [limits_p0] [limits_p0] <| J17 (.bool true) w) (
 Lnl limits_p0 fun x_20 =>
 Bp .gtr x_20 (.int .i64 16) fun x_21 =>
 Vif x_21 (
 KE [limits_p0] [limits_p0] <| J17 (.bool true) w) (
 Cl P F.slices_ContainsFunc_int_int #[limits_p0, (.func (.func 76) #[] #[])] w fun x_22 w7 =>
 KE [limits_p0] [limits_p0] <| J17 x_22 w7)))
theorem Tie.ledger_New {limits_p0 : Value} {w : World} {R : Value → World → Prop} (h : Vcf.ledger_New Tryz.prog limits_p0 w R) : Cl Tryz.prog F.ledger_New #[limits_p0] w R :=
  cl_of_vc (n := 40) (rs := [(.tmp 2), (.tmp 3)]) (h := (.s .z (.s (.j [18] [0] .z (.i (.s .z .z) .z)) (.s .z (.s (.s .z (.b (.l [23] [4, 21, 22] (.s .z (.s (.i .z .z) (.s (.b (.s .z .z)) .z)))))) (.s .z .z)))))) (args := [limits_p0]) (by kernel_rfl) Tryz.func31 rfl (by kernel_rfl) rfl rfl rfl (Eq.mp (by kernel_rfl) h)

/-- baler/server.each -/
def Vcf.server_each (P : Program) (l_p0 ask_p1 : Value) (w : World) (R : Value → World → Prop) : Prop   :=
 Lnl l_p0 fun x_1 =>
 VLoop 2 [(.slice none 0 0), (.int .i64 0)] w fun _ next4 out_2 x_3 w1 =>
 Bp .lss x_3 x_1 fun x_5 =>
 Vif x_5 (
 Ias 5 l_p0 x_3 fun x_6 =>
 LdA 5 x_6 w1 fun x_7 =>
 New (zeroP P 33) 33 w1 fun t_8 w2 =>
 StA 5 t_8 x_7 w2 fun w3 =>
 LdA 5 t_8 w3 fun x_9 =>
 Inv P (do let d ← Deferred.ofValue ask_p1 #[x_9]; invoke d.target d.args) w3 fun x_10 w4 =>
 Bs P 62 1 #[(0, x_10)] w4 fun x_11 w5 =>
 Ap P #[62, 62] 62 #[out_2, x_11] w5 fun x_12 w6 =>
 Bp .add x_3 (.int .i64 1) fun x_13 =>
 KE [ask_p1, l_p0, x_1] [ask_p1, l_p0, x_1] <| next4 x_12 x_13 w6) (
 R out_2 w1)
theorem Tie.server_each {l_p0 ask_p1 : Value} {w : World} {R : Value → World → Prop} (h : Vcf.server_each Tryz.prog l_p0 ask_p1 w R) : Cl Tryz.prog F.server_each #[l_p0, ask_p1] w R :=
  cl_of_vc (n := 22) (rs := [(.tmp 4)]) (h := (.s .z (.s .z (.s (.s .z (.b (.l [5, 10] [1, 8, 9] (.s .z (.s (.i .z .z) (.s (.b (.s .z .z)) .z)))))) (.s .z .z))))) (args := [l_p0, ask_p1]) (by kernel_rfl) Tryz.func32 rfl (by kernel_rfl) rfl rfl rfl (Eq.mp (by kernel_rfl) h)

/-- baler/server.New$1 -/
def Vcf.server_New_1 (P : Program) (t_p0 : Value) (w : World) (R : Value → World → Prop) : Prop   :=
 New t_p0 33 w fun t_1 w1 =>
 Fo 2 t_1 fun x_2 =>
 Ld x_2 w1 fun x_3 =>
 R x_3 w1
theorem Tie.server_New_1 {t_p0 : Value} {w : World} {R : Value → World → Prop} (h : Vcf.server_New_1 Tryz.prog t_p0 w R) : Cl Tryz.prog F.server_New_1 #[t_p0] w R :=
  cl_of_vc (n := 5) (rs := [(.tmp 2)]) (h := (.s .z (.s .z .z))) (args := [t_p0]) (by kernel_rfl) Tryz.func33 rfl (by kernel_rfl) rfl rfl rfl (Eq.mp (by kernel_rfl) h)

/-- baler/window.New -/
def Vcf.window_New (P : Program) (span_p0 quotas_p1 : Value) (w : World) (R : Value → World → Prop) : Prop   :=
 Lnl quotas_p1 fun x_1 =>
 Cl P F.slices_ContainsFunc_int_int #[quotas_p1, (.func (.func 78) #[] #[])] w fun x_2 w1 =>
 VJoin 1 (fun _ x_3 w2 =>
 Vif x_3 (
 R (.tuple #[(.pointer none), (.int .i64 1)]) w2) (
 Dr w2 fun w3 =>
 (Cl P F.slices_Clone_int_int #[quotas_p1] w3 fun x_4 w4 =>
 (Ms P 62 x_1 x_1 w4 fun x_5 w5 =>
 Ms P 62 x_1 x_1 w5 fun x_6 w6 =>
 Bd P 140 #[(0, span_p0), (2, x_4), (3, x_5), (4, x_6)] w6 fun x_7 =>
 New x_7 140 w6 fun x_9 w7 =>
 R (.tuple #[x_9, (.int .i64 0)]) w7) ∧
 (Ms P 62 x_1 x_1 w4 fun x_10 w8 =>
 Ms P 62 x_1 x_1 w8 fun x_11 w9 =>
 Bd P 140 #[(0, span_p0), (2, x_4), (3, x_11), (4, x_10)] w9 fun x_12 =>
 New x_12 140 w9 fun x_14 w10 =>
 R (.tuple #[x_14, (.int .i64 0)]) w10)) ∧
 ((Ms P 62 x_1 x_1 w3 fun x_15 w11 =>
 (Cl P F.slices_Clone_int_int #[quotas_p1] w11 fun x_16 w12 =>
 Ms P 62 x_1 x_1 w12 fun x_17 w13 =>
 Bd P 140 #[(0, span_p0), (2, x_16), (3, x_15), (4, x_17)] w13 fun x_18 =>
 New x_18 140 w13 fun x_20 w14 =>
 R (.tuple #[x_20, (.int .i64 0)]) w14) ∧
 (Ms P 62 x_1 x_1 w11 fun x_21 w15 =>
 Cl P F.slices_Clone_int_int #[quotas_p1] w15 fun x_22 w16 =>
 Bd P 140 #[(0, span_p0), (2, x_22), (3, x_15), (4, x_21)] w16 fun x_23 =>
 New x_23 140 w16 fun x_25 w17 =>
 R (.tuple #[x_25, (.int .i64 0)]) w17)) ∧
 (Ms P 62 x_1 x_1 w3 fun x_26 w18 =>
 (Cl P F.slices_Clone_int_int #[quotas_p1] w18 fun x_27 w19 =>
 Ms P 62 x_1 x_1 w19 fun x_28 w20 =>
 Bd P 140 #[(0, span_p0), (2, x_27), (3, x_28), (4, x_26)] w20 fun x_29 =>
 New x_29 140 w20 fun x_31 w21 =>
 R (.tuple #[x_31, (.int .i64 0)]) w21) ∧
 (Ms P 62 x_1 x_1 w18 fun x_32 w22 =>
 Cl P F.slices_Clone_int_int #[quotas_p1] w22 fun x_33 w23 =>
 Bd P 140 #[(0, span_p0), (2, x_33), (3, x_32), (4, x_26)] w23 fun x_34 =>
 New x_34 140 w23 fun x_36 w24 =>
 R (.tuple #[x_36, (.int .i64 0)]) w24)))))
 (fun J37 =>
 Bp .lss span_p0 (.int .i64 1) fun x_38 =>
 Vif x_38 (
 KE [span_p0, quotas_p1, x_1] [span_p0, quotas_p1, x_1] <| J37 (.bool true) w1) (
 Bp .gtr span_p0 (.int .i64 1048576) fun x_39 =>
 Vif x_39 (
 KE [span_p0, quotas_p1, x_1] [span_p0, quotas_p1, x_1] <| J37 (.bool true) w1) (
 Bp .eql x_1 (.int .i64 0) fun x_40 =>
 Vif x_40 (
 KE [span_p0, quotas_p1, x_1] [span_p0, quotas_p1, x_1] <| J37 (.bool true) w1) (
 Bp .gtr x_1 (.int .i64 16) fun x_41 =>
 Vif x_41 (
 KE [span_p0, quotas_p1, x_1] [span_p0, quotas_p1, x_1] <| J37 (.bool true) w1) (
 KE [span_p0, quotas_p1, x_1] [span_p0, quotas_p1, x_1] <| J37 x_2 w1)))))
theorem Tie.window_New {span_p0 quotas_p1 : Value} {w : World} {R : Value → World → Prop} (h : Vcf.window_New Tryz.prog span_p0 quotas_p1 w R) : Cl Tryz.prog F.window_New #[span_p0, quotas_p1] w R :=
  cl_of_vc (n := 38) (rs := [(.tmp 4), (.tmp 5)]) (h := (.s .z (.s .z (.s .z (.s (.j [28] [0, 1, 6] .z (.i (.s .z .z) .z)) (.s (.r (.tree [0, 0, 2, 0, 8, 0, 32, 127, 255, 511, 1023] (.op 0 (.op 1 (.op 3 (.op 5 (.fk (.op 2 (.fk (.op 4 (.op 6 (.op 7 (.op 8 (.op 9 (.op 10 .dn)))))) (.op 6 (.op 4 (.op 7 (.op 8 (.op 9 (.op 10 .dn)))))))) (.fk (.op 4 (.fk (.op 2 (.op 6 (.op 7 (.op 8 (.op 9 (.op 10 .dn)))))) (.op 6 (.op 2 (.op 7 (.op 8 (.op 9 (.op 10 .dn)))))))) (.op 6 (.fk (.op 2 (.op 4 (.op 7 (.op 8 (.op 9 (.op 10 .dn)))))) (.op 4 (.op 2 (.op 7 (.op 8 (.op 9 (.op 10 .dn)))))))))))))))) .z)))))) (args := [span_p0, quotas_p1]) (by kernel_rfl) Tryz.func34 rfl (by kernel_rfl) rfl rfl rfl (Eq.mp (by kernel_rfl) h)

/-- baler/server.New$2 -/
def Vcf.server_New_2 (P : Program) (t_p0 : Value) (w : World) (R : Value → World → Prop) : Prop   :=
 New t_p0 33 w fun t_1 w1 =>
 Fo 3 t_1 fun x_2 =>
 Ld x_2 w1 fun x_3 =>
 R x_3 w1
theorem Tie.server_New_2 {t_p0 : Value} {w : World} {R : Value → World → Prop} (h : Vcf.server_New_2 Tryz.prog t_p0 w R) : Cl Tryz.prog F.server_New_2 #[t_p0] w R :=
  cl_of_vc (n := 5) (rs := [(.tmp 2)]) (h := (.s .z (.s .z .z))) (args := [t_p0]) (by kernel_rfl) Tryz.func35 rfl (by kernel_rfl) rfl rfl rfl (Eq.mp (by kernel_rfl) h)

/-- baler/drr.New -/
def Vcf.drr_New (P : Program) (quanta_p0 : Value) (w : World) (R : Value → World → Prop) : Prop   :=
 Cl P F.slices_ContainsFunc_int_int #[quanta_p0, (.func (.func 81) #[] #[])] w fun x_1 w1 =>
 VJoin 1 (fun _ x_2 w2 =>
 Vif x_2 (
 R (.tuple #[(.pointer none), (.int .i64 1)]) w2) (
 Cl P F.drr_many #[] w2 fun x_3 w3 =>
 Bd P 145 #[(1, x_3)] w3 fun x_4 =>
 New x_4 145 w3 fun x_5 w4 =>
 Lnl quanta_p0 fun x_6 =>
 VLoop 1 [(.int .i64 0)] w4 fun _ next8 x_7 w5 =>
 Bp .lss x_7 x_6 fun x_9 =>
 Vif x_9 (
 Ias 1 quanta_p0 x_7 fun x_10 =>
 Ld x_10 w5 fun x_11 =>
 Dr w5 fun w6 =>
 Nc x_5 <|
 Fo 0 x_5 fun x_12 =>
 Ld x_12 w6 fun x_13 =>
 Cl P F.drr_many #[] w6 fun x_15 w7 =>
 Rk (fun w K => Ld x_12 w fun x_14 => K x_14) x_13 w7 <|
 Bd P 148 #[(0, x_15), (1, x_11)] w7 fun x_16 =>
 New x_16 148 w7 fun x_18 w8 =>
 Rk (fun w K => Ld x_12 w fun x_14 => K x_14) x_13 w8 <|
 Bs P 143 1 #[(0, x_18)] w8 fun x_19 w9 =>
 Rk (fun w K => Ld x_12 w fun x_14 => K x_14) x_13 w9 <|
 Ap P #[143, 143] 143 #[x_13, x_19] w9 fun x_20 w10 =>
 Nc x_5 <|
 Fo 0 x_5 fun x_21 =>
 St x_21 x_20 w10 fun w11 =>
 Bp .add x_7 (.int .i64 1) fun x_22 =>
 KE [x_5, quanta_p0, x_6] [x_5, quanta_p0, x_6] <| next8 x_22 w11) (
 R (.tuple #[x_5, (.int .i64 0)]) w5)))
 (fun J23 =>
 Lnl quanta_p0 fun x_24 =>
 Bp .eql x_24 (.int .i64 0) fun x_25 =>
 Vif x_25 (
 KE [quanta_p0] [quanta_p0] <| J23 (.bool true) w1) (
 Lnl quanta_p0 fun x_26 =>
 Bp .gtr x_26 (.int .i64 16) fun x_27 =>
 Vif x_27 (
 KE [quanta_p0] [quanta_p0] <| J23 (.bool true) w1) (
 KE [quanta_p0] [quanta_p0] <| J23 x_1 w1)))
theorem Tie.drr_New {quanta_p0 : Value} {w : World} {R : Value → World → Prop} (h : Vcf.drr_New Tryz.prog quanta_p0 w R) : Cl Tryz.prog F.drr_New #[quanta_p0] w R :=
  cl_of_vc (n := 45) (rs := [(.tmp 2), (.tmp 3)]) (h := (.s .z (.s .z (.s (.j [20] [0] .z (.i (.s .z .z) .z)) (.s .z (.s (.s .z (.b (.l [26] [5, 24, 25] (.s .z (.s (.i .z .z) (.s (.b (.s .z (.r (.staged [0, 0, 2, 6, 14, 0, 0, 96, 224, 480, 1022, 2047, 4095, 8191])))) .z)))))) (.s .z .z))))))) (args := [quanta_p0]) (by kernel_rfl) Tryz.func36 rfl (by kernel_rfl) rfl rfl rfl (Eq.mp (by kernel_rfl) h)

/-- baler/server.New$3 -/
def Vcf.server_New_3 (P : Program) (t_p0 : Value) (w : World) (R : Value → World → Prop) : Prop   :=
 New t_p0 33 w fun t_1 w1 =>
 Fo 4 t_1 fun x_2 =>
 Ld x_2 w1 fun x_3 =>
 R x_3 w1
theorem Tie.server_New_3 {t_p0 : Value} {w : World} {R : Value → World → Prop} (h : Vcf.server_New_3 Tryz.prog t_p0 w R) : Cl Tryz.prog F.server_New_3 #[t_p0] w R :=
  cl_of_vc (n := 5) (rs := [(.tmp 2)]) (h := (.s .z (.s .z .z))) (args := [t_p0]) (by kernel_rfl) Tryz.func37 rfl (by kernel_rfl) rfl rfl rfl (Eq.mp (by kernel_rfl) h)

/-- baler/balerref32.Check -/
def Vcf.balerref32_Check (P : Program) (l_p0 : Value) (w : World) (R : Value → World → Prop) : Prop   :=
 New (zeroP P 76) 76 w fun x_1 w1 =>
 Lnl l_p0 fun x_2 =>
 Bp .eql x_2 (.int .i64 0) fun x_3 =>
 Vif x_3 (
 Bd P 76 #[(0, (.int .i64 (-1))), (1, (.int .i64 6))] w1 fun x_4 =>
 StA 2 x_1 x_4 w1 fun w2 =>
 LdA 2 x_1 w2 fun x_5 =>
 R x_5 w2) (
 Lnl l_p0 fun x_6 =>
 Bp .gtr x_6 (.int .i64 16) fun x_7 =>
 Vif x_7 (
 Bd P 76 #[(0, (.int .i64 16)), (1, (.int .i64 2))] w1 fun x_8 =>
 StA 2 x_1 x_8 w1 fun w3 =>
 LdA 2 x_1 w3 fun x_9 =>
 R x_9 w3) (
 Lnl l_p0 fun x_10 =>
 VLoop 1 [(.int .i64 0)] w1 fun _ next12 x_11 w4 =>
 Bp .lss x_11 x_10 fun x_13 =>
 Vif x_13 (
 Ias 5 l_p0 x_11 fun x_14 =>
 LdA 5 x_14 w4 fun x_15 =>
 New (zeroP P 33) 33 w4 fun t_16 w5 =>
 StA 5 t_16 x_15 w5 fun w6 =>
 LdA 5 t_16 w6 fun x_17 =>
 Cl P F.balerref32_May #[x_17] w6 fun x_18 w7 =>
 Up .not x_18 fun x_19 =>
 Vif x_19 (
 Bd P 76 #[(0, x_11), (1, (.int .i64 1))] w7 fun x_20 =>
 StA 2 x_1 x_20 w7 fun w8 =>
 LdA 2 x_1 w8 fun x_21 =>
 R x_21 w8) (
 Ssl 5 l_p0 none (some x_11) fun x_22 =>
 Lnl x_22 fun x_23 =>
 VLoop 1 [(.int .i64 0)] w7 fun _ next25 x_24 w9 =>
 Bp .lss x_24 x_23 fun x_26 =>
 Vif x_26 (
 Ias 5 x_22 x_24 fun x_27 =>
 LdA 5 x_27 w9 fun x_28 =>
 New (zeroP P 33) 33 w9 fun x_29 w10 =>
 StA 5 x_29 x_28 w10 fun w11 =>
 VJoin 1 (fun _ x_30 w12 =>
 Vif x_30 (
 Bd P 76 #[(0, x_11), (1, (.int .i64 8))] w12 fun x_31 =>
 StA 2 x_1 x_31 w12 fun w13 =>
 LdA 2 x_1 w13 fun x_32 =>
 R x_32 w13) (
 Bp .add x_24 (.int .i64 1) fun x_33 =>
 KE [l_p0, x_1, x_11, t_16, l_p0, x_10, x_11, x_22, x_23] [l_p0, x_1, x_11, t_16, l_p0, x_10, x_11, x_22, x_23] <| next25 x_33 w12))
 (fun J34 =>
 Fo 0 x_29 fun x_35 =>
 Ld x_35 w11 fun x_36 =>
 Fo 0 t_16 fun x_37 =>
 Ld x_37 w11 fun x_38 =>
 Bp .eql x_36 x_38 fun x_39 =>
 Vif x_39 (
 KE [l_p0, x_1, x_11, t_16, l_p0, x_10, x_11, x_22, x_23, x_24] [l_p0, x_1, x_11, t_16, l_p0, x_10, x_11, x_22, x_23, x_24] <| J34 (.bool true) w11) (
 Fo 1 x_29 fun x_40 =>
 Ld x_40 w11 fun x_41 =>
 Fo 1 t_16 fun x_42 =>
 Ld x_42 w11 fun x_43 =>
 Bp .eql x_41 x_43 fun x_44 =>
 KE [l_p0, x_1, x_11, t_16, l_p0, x_10, x_11, x_22, x_23, x_24] [l_p0, x_1, x_11, t_16, l_p0, x_10, x_11, x_22, x_23, x_24] <| J34 x_44 w11))) (
 Bp .add x_11 (.int .i64 1) fun x_45 =>
 KE [l_p0, x_1, l_p0, x_10] [l_p0, x_1, l_p0, x_10] <| next12 x_45 w9))) (
 Bd P 76 #[(0, (.int .i64 (-1))), (1, (.int .i64 0))] w4 fun x_46 =>
 StA 2 x_1 x_46 w4 fun w14 =>
 LdA 2 x_1 w14 fun x_47 =>
 R x_47 w14)))
theorem Tie.balerref32_Check {l_p0 : Value} {w : World} {R : Value → World → Prop} (h : Vcf.balerref32_Check Tryz.prog l_p0 w R) : Cl Tryz.prog F.balerref32_Check #[l_p0] w R :=
  cl_of_vc (n := 52) (rs := [(.cell 2 76)]) (h := (.s .z (.s (.s .z (.i (.s .z .z) .z)) (.s (.s .z (.i (.s .z .z) .z)) (.s (.s .z (.b (.l [17] [0, 2, 15, 16] (.s .z (.s (.i .z .z) (.s (.b (.s .z (.s (.s .z (.i (.s .z .z) .z)) (.s .z (.b (.l [31] [0, 2, 3, 4, 15, 16, 17, 29, 30] (.s .z (.s (.i .z .z) (.s (.b (.s .z (.j [46] [0, 2, 3, 4, 15, 16, 17, 29, 30, 31] .z (.i (.s .z .z) .z)))) .z))))))))) .z)))))) (.s .z .z)))))) (args := [l_p0]) (by kernel_rfl) Tryz.func38 rfl (by kernel_rfl) rfl rfl rfl (Eq.mp (by kernel_rfl) h)

/-- baler/balerref32.most -/
def Vcf.balerref32_most (P : Program) (n_p0 least_p1 : Value) (w : World) (R : Value → World → Prop) : Prop   :=
 Bp .geq n_p0 least_p1 fun x_1 =>
 Vif x_1 (
 Bp .leq n_p0 (.int .i64 1099511627776) fun x_2 =>
 R x_2 w) (
 R (.bool false) w)
theorem Tie.balerref32_most {n_p0 least_p1 : Value} {w : World} {R : Value → World → Prop} (h : Vcf.balerref32_most Tryz.prog n_p0 least_p1 w R) : Cl Tryz.prog F.balerref32_most #[n_p0, least_p1] w R :=
  cl_of_vc (n := 12) (rs := [(.tmp 4)]) (h := (.s .z (.s .z .z))) (args := [n_p0, least_p1]) (by kernel_rfl) Tryz.func39 rfl (by kernel_rfl) rfl rfl rfl (Eq.mp (by kernel_rfl) h)

/-- (baler/ledger.Ledger).Used -/
def Vcf.ledger_Ledger_Used (P : Program) (l_p0 tenant_p1 : Value) (w : World) (R : Value → World → Prop) : Prop   :=
 Cl P F.ledger_Ledger_read #[l_p0, tenant_p1, (.func (.func 85) #[] #[])] w fun x_1 w1 =>
 R x_1 w1
theorem Tie.ledger_Ledger_Used {l_p0 tenant_p1 : Value} {w : World} {R : Value → World → Prop} (h : Vcf.ledger_Ledger_Used Tryz.prog l_p0 tenant_p1 w R) : Cl Tryz.prog F.ledger_Ledger_Used #[l_p0, tenant_p1] w R :=
  cl_of_vc (n := 8) (rs := [(.tmp 4)]) (h := (.s .z (.s .z .z))) (args := [l_p0, tenant_p1]) (by kernel_rfl) Tryz.func40 rfl (by kernel_rfl) rfl rfl rfl (Eq.mp (by kernel_rfl) h)

/-- (baler/jobs.Table).By -/
def Vcf.jobs_Table_By (P : Program) (t_p0 tenant_p1 : Value) (w : World) (R : Value → World → Prop) : Prop   :=
 New tenant_p1 3 w fun tenant_1 w1 =>
 Mf P (.func 87) #[] #[tenant_1] w1 fun x_2 =>
 Cl P F.jobs_Table_handles #[t_p0, x_2] w1 fun x_3 w2 =>
 R x_3 w2
theorem Tie.jobs_Table_By {t_p0 tenant_p1 : Value} {w : World} {R : Value → World → Prop} (h : Vcf.jobs_Table_By Tryz.prog t_p0 tenant_p1 w R) : Cl Tryz.prog F.jobs_Table_By #[t_p0, tenant_p1] w R :=
  cl_of_vc (n := 8) (rs := [(.tmp 4)]) (h := (.s .z (.s .z .z))) (args := [t_p0, tenant_p1]) (by kernel_rfl) Tryz.func41 rfl (by kernel_rfl) rfl rfl rfl (Eq.mp (by kernel_rfl) h)

/-- (baler/window.Meter).Left -/
def Vcf.window_Meter_Left (P : Program) (m_p0 tenant_p1 : Value) (w : World) (R : Value → World → Prop) : Prop   :=
 Cl P F.window_Meter_is #[m_p0, tenant_p1] w fun x_1 w1 =>
 Up .not x_1 fun x_2 =>
 Vif x_2 (
 R (.int .i64 0) w1) (
 Dr w1 fun w2 =>
 Nc m_p0 <|
 Fo 2 m_p0 fun x_3 =>
 Ld x_3 w2 fun x_4 =>
 Ias 1 x_4 tenant_p1 fun x_6 =>
 Ld x_6 w2 fun x_7 =>
 Nc m_p0 <|
 Fo 3 m_p0 fun x_9 =>
 Ld x_9 w2 fun x_10 =>
 Ias 1 x_10 tenant_p1 fun x_12 =>
 Ld x_12 w2 fun x_13 =>
 Bp .sub x_7 x_13 fun x_15 =>
 R x_15 w2)
theorem Tie.window_Meter_Left {m_p0 tenant_p1 : Value} {w : World} {R : Value → World → Prop} (h : Vcf.window_Meter_Left Tryz.prog m_p0 tenant_p1 w R) : Cl Tryz.prog F.window_Meter_Left #[m_p0, tenant_p1] w R :=
  cl_of_vc (n := 24) (rs := [(.tmp 4)]) (h := (.s .z (.s (.s .z (.i (.s .z .z) .z)) (.s (.r (.staged [0, 1, 3, 7, 0, 31, 63, 0, 128, 384, 896, 0, 3968, 8064, 16383, 32767])) .z)))) (args := [m_p0, tenant_p1]) (by kernel_rfl) Tryz.func43 rfl (by kernel_rfl) rfl rfl rfl (Eq.mp (by kernel_rfl) h)

/-- (baler/window.Meter).Total -/
def Vcf.window_Meter_Total (P : Program) (m_p0 tenant_p1 : Value) (w : World) (R : Value → World → Prop) : Prop   :=
 Cl P F.window_Meter_is #[m_p0, tenant_p1] w fun x_1 w1 =>
 Up .not x_1 fun x_2 =>
 Vif x_2 (
 R (.int .i64 0) w1) (
 Nc m_p0 <|
 Fo 4 m_p0 fun x_3 =>
 Ld x_3 w1 fun x_4 =>
 Ias 1 x_4 tenant_p1 fun x_5 =>
 Ld x_5 w1 fun x_6 =>
 R x_6 w1)
theorem Tie.window_Meter_Total {m_p0 tenant_p1 : Value} {w : World} {R : Value → World → Prop} (h : Vcf.window_Meter_Total Tryz.prog m_p0 tenant_p1 w R) : Cl Tryz.prog F.window_Meter_Total #[m_p0, tenant_p1] w R :=
  cl_of_vc (n := 16) (rs := [(.tmp 4)]) (h := (.s .z (.s (.s .z (.i (.s .z .z) .z)) (.s .z .z)))) (args := [m_p0, tenant_p1]) (by kernel_rfl) Tryz.func44 rfl (by kernel_rfl) rfl rfl rfl (Eq.mp (by kernel_rfl) h)

/-- (baler/window.Meter).At -/
def Vcf.window_Meter_At (P : Program) (m_p0 : Value) (w : World) (R : Value → World → Prop) : Prop   :=
 Bn P 140 false m_p0 (.pointer none) fun x_1 =>
 Vif x_1 (
 R (.int .i64 0) w) (
 Nc m_p0 <|
 Fo 1 m_p0 fun x_2 =>
 Ld x_2 w fun x_3 =>
 R x_3 w)
theorem Tie.window_Meter_At {m_p0 : Value} {w : World} {R : Value → World → Prop} (h : Vcf.window_Meter_At Tryz.prog m_p0 w R) : Cl Tryz.prog F.window_Meter_At #[m_p0] w R :=
  cl_of_vc (n := 9) (rs := [(.tmp 2)]) (h := (.s .z (.s (.s .z (.i (.s .z .z) .z)) (.s .z .z)))) (args := [m_p0]) (by kernel_rfl) Tryz.func45 rfl (by kernel_rfl) rfl rfl rfl (Eq.mp (by kernel_rfl) h)

/-- (baler/drr.Scheduler).Ring -/
def Vcf.drr_Scheduler_Ring (P : Program) (s_p0 : Value) (w : World) (R : Value → World → Prop) : Prop   :=
 Bn P 145 false s_p0 (.pointer none) fun x_1 =>
 Vif x_1 (
 R (.slice none 0 0) w) (
 Nc s_p0 <|
 Fo 1 s_p0 fun x_2 =>
 Ld x_2 w fun x_3 =>
 Cl P F.queue_Queue_All #[x_3] w fun x_4 w1 =>
 R x_4 w1)
theorem Tie.drr_Scheduler_Ring {s_p0 : Value} {w : World} {R : Value → World → Prop} (h : Vcf.drr_Scheduler_Ring Tryz.prog s_p0 w R) : Cl Tryz.prog F.drr_Scheduler_Ring #[s_p0] w R :=
  cl_of_vc (n := 10) (rs := [(.tmp 2)]) (h := (.s .z (.s (.s .z (.i (.s .z .z) .z)) (.s .z .z)))) (args := [s_p0]) (by kernel_rfl) Tryz.func46 rfl (by kernel_rfl) rfl rfl rfl (Eq.mp (by kernel_rfl) h)

/-- (baler/server.Server).known -/
def Vcf.server_Server_known (P : Program) (s_p0 n_p1 : Value) (w : World) (R : Value → World → Prop) : Prop   :=
 Bn P 74 false s_p0 (.pointer none) fun x_1 =>
 Vif x_1 (
 R (.pointer none) w) (
 Nc s_p0 <|
 Fo 7 s_p0 fun x_2 =>
 Ld x_2 w fun x_3 =>
 Lk P 71 x_3 n_p1 false w fun x_4 =>
 R x_4 w)
theorem Tie.server_Server_known {s_p0 n_p1 : Value} {w : World} {R : Value → World → Prop} (h : Vcf.server_Server_known Tryz.prog s_p0 n_p1 w R) : Cl Tryz.prog F.server_Server_known #[s_p0, n_p1] w R :=
  cl_of_vc (n := 13) (rs := [(.tmp 4)]) (h := (.s .z (.s (.s .z (.i (.s .z .z) .z)) (.s .z .z)))) (args := [s_p0, n_p1]) (by kernel_rfl) Tryz.func47 rfl (by kernel_rfl) rfl rfl rfl (Eq.mp (by kernel_rfl) h)

/-- slices.ContainsFunc[[]string,string] -/
def Vcf.slices_ContainsFunc_string_string (P : Program) (s_p0 f_p1 : Value) (w : World) (R : Value → World → Prop) : Prop   :=
 Cl P F.slices_IndexFunc_string_string #[s_p0, f_p1] w fun x_1 w1 =>
 Bp .geq x_1 (.int .i64 0) fun x_2 =>
 R x_2 w1
theorem Tie.slices_ContainsFunc_string_string {s_p0 f_p1 : Value} {w : World} {R : Value → World → Prop} (h : Vcf.slices_ContainsFunc_string_string Tryz.prog s_p0 f_p1 w R) : Cl Tryz.prog F.slices_ContainsFunc_string_string #[s_p0, f_p1] w R :=
  cl_of_vc (n := 9) (rs := [(.tmp 4)]) (h := (.s .z (.s .z .z))) (args := [s_p0, f_p1]) (by kernel_rfl) Tryz.func55 rfl (by kernel_rfl) rfl rfl rfl (Eq.mp (by kernel_rfl) h)

/-- baler/script.Check$1 -/
def Vcf.script_Check_1 (P : Program) (x_p0 : Value) (w : World) (R : Value → World → Prop) : Prop   :=
 Lns x_p0 fun x_1 =>
 Bp .gtr x_1 (.int .i64 65536) fun x_2 =>
 R x_2 w
theorem Tie.script_Check_1 {x_p0 : Value} {w : World} {R : Value → World → Prop} (h : Vcf.script_Check_1 Tryz.prog x_p0 w R) : Cl Tryz.prog F.script_Check_1 #[x_p0] w R :=
  cl_of_vc (n := 6) (rs := [(.tmp 2)]) (h := (.s .z (.s .z .z))) (args := [x_p0]) (by kernel_rfl) Tryz.func56 rfl (by kernel_rfl) rfl rfl rfl (Eq.mp (by kernel_rfl) h)

/-- baler/script.event -/
def Vcf.script_event (P : Program) (e_p0 streams_p1 : Value) (w : World) (R : Value → World → Prop) : Prop   :=
 New e_p0 99 w fun e_1 w1 =>
 VJoin 1 (fun _ there_2 w2 =>
 Fo 0 e_1 fun x_3 =>
 Ld x_3 w2 fun x_4 =>
 Bp .eql x_4 (.int .i64 1) fun x_5 =>
 Vif x_5 (
 Vif there_2 (
 Fo 2 e_1 fun x_6 =>
 Ld x_6 w2 fun x_7 =>
 Bp .geq x_7 (.int .i64 0) fun x_8 =>
 Vif x_8 (
 Fo 2 e_1 fun x_9 =>
 Ld x_9 w2 fun x_10 =>
 Bp .leq x_10 (.int .i64 65536) fun x_11 =>
 R x_11 w2) (
 R (.bool false) w2)) (
 R (.bool false) w2)) (
 Bp .eql x_4 (.int .i64 2) fun x_12 =>
 Vif x_12 (
 Fo 1 e_1 fun x_13 =>
 Ld x_13 w2 fun x_14 =>
 Bp .eql x_14 (.int .i64 0) fun x_15 =>
 Vif x_15 (
 Fo 2 e_1 fun x_16 =>
 Ld x_16 w2 fun x_17 =>
 Bp .geq x_17 (.int .i64 1) fun x_18 =>
 Vif x_18 (
 Fo 2 e_1 fun x_19 =>
 Ld x_19 w2 fun x_20 =>
 Bp .leq x_20 (.int .i64 65536) fun x_21 =>
 R x_21 w2) (
 R (.bool false) w2)) (
 R (.bool false) w2)) (
 Bp .eql x_4 (.int .i64 3) fun x_22 =>
 Vif x_22 (
 Vif there_2 (
 Fo 2 e_1 fun x_23 =>
 Ld x_23 w2 fun x_24 =>
 Bp .eql x_24 (.int .i64 0) fun x_25 =>
 R x_25 w2) (
 R (.bool false) w2)) (
 R (.bool false) w2))))
 (fun J26 =>
 Fo 1 e_1 fun x_27 =>
 Ld x_27 w1 fun x_28 =>
 Bp .geq x_28 (.int .i64 0) fun x_29 =>
 Vif x_29 (
 Fo 1 e_1 fun x_30 =>
 Ld x_30 w1 fun x_31 =>
 Bp .lss x_31 streams_p1 fun x_32 =>
 KE [e_1] [e_1] <| J26 x_32 w1) (
 KE [e_1] [e_1] <| J26 (.bool false) w1))
theorem Tie.script_event {e_p0 streams_p1 : Value} {w : World} {R : Value → World → Prop} (h : Vcf.script_event Tryz.prog e_p0 streams_p1 w R) : Cl Tryz.prog F.script_event #[e_p0, streams_p1] w R :=
  cl_of_vc (n := 53) (rs := [(.tmp 4)]) (h := (.s .z (.j [5] [2] .z (.s (.s .z (.b (.s .z (.i (.s .z .z) (.s .z (.i (.s .z .z) (.s .z (.i (.s .z .z) .z)))))))) (.s .z .z))))) (args := [e_p0, streams_p1]) (by kernel_rfl) Tryz.func57 rfl (by kernel_rfl) rfl rfl rfl (Eq.mp (by kernel_rfl) h)

/-- baler/balerref42.event -/
def Vcf.balerref42_event (P : Program) (e_p0 streams_p1 : Value) (w : World) (R : Value → World → Prop) : Prop   :=
 New e_p0 99 w fun e_1 w1 =>
 VJoin 1 (fun _ there_2 w2 =>
 Fo 0 e_1 fun x_3 =>
 Ld x_3 w2 fun x_4 =>
 Bp .eql x_4 (.int .i64 1) fun x_5 =>
 Vif x_5 (
 Vif there_2 (
 Fo 2 e_1 fun x_6 =>
 Ld x_6 w2 fun x_7 =>
 Bp .geq x_7 (.int .i64 0) fun x_8 =>
 Vif x_8 (
 Fo 2 e_1 fun x_9 =>
 Ld x_9 w2 fun x_10 =>
 Bp .leq x_10 (.int .i64 65536) fun x_11 =>
 R x_11 w2) (
 R (.bool false) w2)) (
 R (.bool false) w2)) (
 Fo 0 e_1 fun x_12 =>
 Ld x_12 w2 fun x_13 =>
 Bp .eql x_13 (.int .i64 2) fun x_14 =>
 Vif x_14 (
 Fo 1 e_1 fun x_15 =>
 Ld x_15 w2 fun x_16 =>
 Bp .eql x_16 (.int .i64 0) fun x_17 =>
 Vif x_17 (
 Fo 2 e_1 fun x_18 =>
 Ld x_18 w2 fun x_19 =>
 Bp .geq x_19 (.int .i64 1) fun x_20 =>
 Vif x_20 (
 Fo 2 e_1 fun x_21 =>
 Ld x_21 w2 fun x_22 =>
 Bp .leq x_22 (.int .i64 65536) fun x_23 =>
 R x_23 w2) (
 R (.bool false) w2)) (
 R (.bool false) w2)) (
 Fo 0 e_1 fun x_24 =>
 Ld x_24 w2 fun x_25 =>
 Bp .eql x_25 (.int .i64 3) fun x_26 =>
 Vif x_26 (
 Vif there_2 (
 Fo 2 e_1 fun x_27 =>
 Ld x_27 w2 fun x_28 =>
 Bp .eql x_28 (.int .i64 0) fun x_29 =>
 R x_29 w2) (
 R (.bool false) w2)) (
 R (.bool false) w2))))
 (fun J30 =>
 Fo 1 e_1 fun x_31 =>
 Ld x_31 w1 fun x_32 =>
 Bp .geq x_32 (.int .i64 0) fun x_33 =>
 Vif x_33 (
 Fo 1 e_1 fun x_34 =>
 Ld x_34 w1 fun x_35 =>
 Bp .lss x_35 streams_p1 fun x_36 =>
 KE [e_1] [e_1] <| J30 x_36 w1) (
 KE [e_1] [e_1] <| J30 (.bool false) w1))
theorem Tie.balerref42_event {e_p0 streams_p1 : Value} {w : World} {R : Value → World → Prop} (h : Vcf.balerref42_event Tryz.prog e_p0 streams_p1 w R) : Cl Tryz.prog F.balerref42_event #[e_p0, streams_p1] w R :=
  cl_of_vc (n := 56) (rs := [(.tmp 4)]) (h := (.s .z (.j [5] [2] .z (.s (.s .z (.i (.s .z .z) .z)) (.s (.s .z (.i (.s .z .z) .z)) (.s .z .z)))))) (args := [e_p0, streams_p1]) (by kernel_rfl) Tryz.func58 rfl (by kernel_rfl) rfl rfl rfl (Eq.mp (by kernel_rfl) h)

/-- baler/tenants.Check -/
def Vcf.tenants_Check (P : Program) (l_p0 : Value) (w : World) (R : Value → World → Prop) : Prop   :=
 Lnl l_p0 fun x_1 =>
 Bp .eql x_1 (.int .i64 0) fun x_2 =>
 Vif x_2 (
 R (.tuple #[(.int .i64 (-1)), (.int .i64 6)]) w) (
 Lnl l_p0 fun x_3 =>
 Bp .gtr x_3 (.int .i64 16) fun x_4 =>
 Vif x_4 (
 R (.tuple #[(.int .i64 16), (.int .i64 2)]) w) (
 Lnl l_p0 fun x_5 =>
 VLoop 1 [(.int .i64 0)] w fun _ next7 x_6 w1 =>
 Bp .lss x_6 x_5 fun x_8 =>
 Vif x_8 (
 Ias 5 l_p0 x_6 fun x_9 =>
 LdA 5 x_9 w1 fun x_10 =>
 New (zeroP P 33) 33 w1 fun t_11 w2 =>
 StA 5 t_11 x_10 w2 fun w3 =>
 LdA 5 t_11 w3 fun x_12 =>
 Cl P F.tenants_May #[x_12] w3 fun x_13 w4 =>
 Up .not x_13 fun x_14 =>
 Vif x_14 (
 R (.tuple #[x_6, (.int .i64 1)]) w4) (
 Dr w4 fun w5 =>
 Ssl 5 l_p0 none (some x_6) fun x_15 =>
 LdA 5 t_11 w5 fun x_17 =>
 Cl P F.tenants_again #[x_15, x_17] w5 fun x_19 w6 =>
 Vif x_19 (
 R (.tuple #[x_6, (.int .i64 8)]) w6) (
 Bp .add x_6 (.int .i64 1) fun x_20 =>
 KE [l_p0, l_p0, x_5] [l_p0, l_p0, x_5] <| next7 x_20 w6))) (
 R (.tuple #[(.int .i64 (-1)), (.int .i64 0)]) w1)))
theorem Tie.tenants_Check {l_p0 : Value} {w : World} {R : Value → World → Prop} (h : Vcf.tenants_Check Tryz.prog l_p0 w R) : Cl Tryz.prog F.tenants_Check #[l_p0] w R :=
  cl_of_vc (n := 34) (rs := [(.tmp 2), (.tmp 3)]) (h := (.s .z (.s (.b (.s .z (.i (.s .z .z) (.s .z (.i (.s .z .z) .z))))) (.s (.s .z (.b (.l [16] [0, 14, 15] (.s .z (.s (.i .z .z) (.s (.b (.s .z (.b (.s .z (.i (.s .z .z) (.s (.r (.staged [0, 0, 3, 0, 15, 31])) (.i (.s .z .z) .z))))))) .z)))))) (.s .z .z))))) (args := [l_p0]) (by kernel_rfl) Tryz.func73 rfl (by kernel_rfl) rfl rfl rfl (Eq.mp (by kernel_rfl) h)

/-- baler/tenants.between -/
def Vcf.tenants_between (P : Program) (n_p0 low_p1 high_p2 : Value) (w : World) (R : Value → World → Prop) : Prop   :=
 Bp .geq n_p0 low_p1 fun x_1 =>
 Vif x_1 (
 Bp .leq n_p0 high_p2 fun x_2 =>
 R x_2 w) (
 R (.bool false) w)
theorem Tie.tenants_between {n_p0 low_p1 high_p2 : Value} {w : World} {R : Value → World → Prop} (h : Vcf.tenants_between Tryz.prog n_p0 low_p1 high_p2 w R) : Cl Tryz.prog F.tenants_between #[n_p0, low_p1, high_p2] w R :=
  cl_of_vc (n := 15) (rs := [(.tmp 6)]) (h := (.s .z (.s .z .z))) (args := [n_p0, low_p1, high_p2]) (by kernel_rfl) Tryz.func74 rfl (by kernel_rfl) rfl rfl rfl (Eq.mp (by kernel_rfl) h)

/-- slices.ContainsFunc[[]int,int] -/
def Vcf.slices_ContainsFunc_int_int (P : Program) (s_p0 f_p1 : Value) (w : World) (R : Value → World → Prop) : Prop   :=
 Cl P F.slices_IndexFunc_int_int #[s_p0, f_p1] w fun x_1 w1 =>
 Bp .geq x_1 (.int .i64 0) fun x_2 =>
 R x_2 w1
theorem Tie.slices_ContainsFunc_int_int {s_p0 f_p1 : Value} {w : World} {R : Value → World → Prop} (h : Vcf.slices_ContainsFunc_int_int Tryz.prog s_p0 f_p1 w R) : Cl Tryz.prog F.slices_ContainsFunc_int_int #[s_p0, f_p1] w R :=
  cl_of_vc (n := 9) (rs := [(.tmp 4)]) (h := (.s .z (.s .z .z))) (args := [s_p0, f_p1]) (by kernel_rfl) Tryz.func75 rfl (by kernel_rfl) rfl rfl rfl (Eq.mp (by kernel_rfl) h)

/-- baler/ledger.New$1 -/
def Vcf.ledger_New_1 (P : Program) (n_p0 : Value) (w : World) (R : Value → World → Prop) : Prop   :=
 Cl P F.ledger_may #[n_p0] w fun x_1 w1 =>
 Up .not x_1 fun x_2 =>
 R x_2 w1
theorem Tie.ledger_New_1 {n_p0 : Value} {w : World} {R : Value → World → Prop} (h : Vcf.ledger_New_1 Tryz.prog n_p0 w R) : Cl Tryz.prog F.ledger_New_1 #[n_p0] w R :=
  cl_of_vc (n := 6) (rs := [(.tmp 2)]) (h := (.s .z (.s .z .z))) (args := [n_p0]) (by kernel_rfl) Tryz.func76 rfl (by kernel_rfl) rfl rfl rfl (Eq.mp (by kernel_rfl) h)

/-- baler/ledger.may -/
def Vcf.ledger_may (P : Program) (n_p0 : Value) (w : World) (R : Value → World → Prop) : Prop   :=
 Bp .geq n_p0 (.int .i64 0) fun x_1 =>
 Vif x_1 (
 Bp .leq n_p0 (.int .i64 1099511627776) fun x_2 =>
 R x_2 w) (
 R (.bool false) w)
theorem Tie.ledger_may {n_p0 : Value} {w : World} {R : Value → World → Prop} (h : Vcf.ledger_may Tryz.prog n_p0 w R) : Cl Tryz.prog F.ledger_may #[n_p0] w R :=
  cl_of_vc (n := 9) (rs := [(.tmp 2)]) (h := (.s .z (.s .z .z))) (args := [n_p0]) (by kernel_rfl) Tryz.func77 rfl (by kernel_rfl) rfl rfl rfl (Eq.mp (by kernel_rfl) h)

/-- baler/window.New$1 -/
def Vcf.window_New_1 (P : Program) (q_p0 : Value) (w : World) (R : Value → World → Prop) : Prop   :=
 Cl P F.window_may #[q_p0] w fun x_1 w1 =>
 Up .not x_1 fun x_2 =>
 R x_2 w1
theorem Tie.window_New_1 {q_p0 : Value} {w : World} {R : Value → World → Prop} (h : Vcf.window_New_1 Tryz.prog q_p0 w R) : Cl Tryz.prog F.window_New_1 #[q_p0] w R :=
  cl_of_vc (n := 6) (rs := [(.tmp 2)]) (h := (.s .z (.s .z .z))) (args := [q_p0]) (by kernel_rfl) Tryz.func78 rfl (by kernel_rfl) rfl rfl rfl (Eq.mp (by kernel_rfl) h)

/-- baler/window.may -/
def Vcf.window_may (P : Program) (n_p0 : Value) (w : World) (R : Value → World → Prop) : Prop   :=
 Bp .geq n_p0 (.int .i64 0) fun x_1 =>
 Vif x_1 (
 Bp .leq n_p0 (.int .i64 1099511627776) fun x_2 =>
 R x_2 w) (
 R (.bool false) w)
theorem Tie.window_may {n_p0 : Value} {w : World} {R : Value → World → Prop} (h : Vcf.window_may Tryz.prog n_p0 w R) : Cl Tryz.prog F.window_may #[n_p0] w R :=
  cl_of_vc (n := 9) (rs := [(.tmp 2)]) (h := (.s .z (.s .z .z))) (args := [n_p0]) (by kernel_rfl) Tryz.func79 rfl (by kernel_rfl) rfl rfl rfl (Eq.mp (by kernel_rfl) h)

/-- slices.Clone[[]int,int] -/
def Vcf.slices_Clone_int_int (P : Program) (s_p0 : Value) (w : World) (R : Value → World → Prop) : Prop   :=
 Be P .eql 62 (.tmp 3) (.const (.slice none 0 0)) s_p0 (.slice none 0 0) w fun x_1 =>
 Vif x_1 (
 R (.slice none 0 0) w) (
 Bs P 62 0 #[] w fun x_2 w1 =>
 Ap P #[62, 62] 62 #[x_2, s_p0] w1 fun x_3 w2 =>
 R x_3 w2)
theorem Tie.slices_Clone_int_int {s_p0 : Value} {w : World} {R : Value → World → Prop} (h : Vcf.slices_Clone_int_int Tryz.prog s_p0 w R) : Cl Tryz.prog F.slices_Clone_int_int #[s_p0] w R :=
  cl_of_vc (n := 8) (rs := [(.tmp 2)]) (h := (.s .z (.s (.s .z (.i (.s .z .z) .z)) (.s .z .z)))) (args := [s_p0]) (by kernel_rfl) Tryz.func80 rfl (by kernel_rfl) rfl rfl rfl (Eq.mp (by kernel_rfl) h)

/-- baler/drr.New$1 -/
def Vcf.drr_New_1 (P : Program) (n_p0 : Value) (w : World) (R : Value → World → Prop) : Prop   :=
 Bp .lss n_p0 (.int .i64 1) fun x_1 =>
 Vif x_1 (
 R (.bool true) w) (
 Bp .gtr n_p0 (.int .i64 1099511627776) fun x_2 =>
 R x_2 w)
theorem Tie.drr_New_1 {n_p0 : Value} {w : World} {R : Value → World → Prop} (h : Vcf.drr_New_1 Tryz.prog n_p0 w R) : Cl Tryz.prog F.drr_New_1 #[n_p0] w R :=
  cl_of_vc (n := 9) (rs := [(.tmp 2)]) (h := (.s .z (.s .z .z))) (args := [n_p0]) (by kernel_rfl) Tryz.func81 rfl (by kernel_rfl) rfl rfl rfl (Eq.mp (by kernel_rfl) h)

/-- baler/drr.many -/
def Vcf.drr_many (P : Program) (w : World) (R : Value → World → Prop) : Prop   :=
 Cl P F.queue_New #[(.int .i64 1099511627776)] w fun x_1 w1 =>
 Ex x_1 0 fun x_2 =>
 Ex x_1 1 fun x_3 =>
 R x_2 w1
theorem Tie.drr_many {w : World} {R : Value → World → Prop} (h : Vcf.drr_many Tryz.prog w R) : Cl Tryz.prog F.drr_many #[] w R :=
  cl_of_vc (n := 8) (rs := [(.tmp 0)]) (h := (.s .z (.s .z (.s .z .z)))) (args := []) (by kernel_rfl) Tryz.func82 rfl (by kernel_rfl) rfl rfl rfl (Eq.mp (by kernel_rfl) h)

/-- baler/balerref32.May -/
def Vcf.balerref32_May (P : Program) (t_p0 : Value) (w : World) (R : Value → World → Prop) : Prop   :=
 New t_p0 33 w fun t_1 w1 =>
 Fo 0 t_1 fun x_2 =>
 Ld x_2 w1 fun x_3 =>
 Cl P F.balerref31_Word #[x_3] w1 fun x_4 w2 =>
 Vif x_4 (
 Fo 1 t_1 fun x_5 =>
 Ld x_5 w2 fun x_6 =>
 Cl P F.balerref31_Word #[x_6] w2 fun x_7 w3 =>
 Vif x_7 (
 Fo 2 t_1 fun x_8 =>
 Ld x_8 w3 fun x_9 =>
 Cl P F.balerref32_most #[x_9, (.int .i64 0)] w3 fun x_10 w4 =>
 Vif x_10 (
 Fo 3 t_1 fun x_11 =>
 Ld x_11 w4 fun x_12 =>
 Cl P F.balerref32_most #[x_12, (.int .i64 1)] w4 fun x_13 w5 =>
 Vif x_13 (
 Fo 4 t_1 fun x_14 =>
 Ld x_14 w5 fun x_15 =>
 Cl P F.balerref32_most #[x_15, (.int .i64 1)] w5 fun x_16 w6 =>
 R x_16 w6) (
 R (.bool false) w5)) (
 R (.bool false) w4)) (
 R (.bool false) w3)) (
 R (.bool false) w2)
theorem Tie.balerref32_May {t_p0 : Value} {w : World} {R : Value → World → Prop} (h : Vcf.balerref32_May Tryz.prog t_p0 w R) : Cl Tryz.prog F.balerref32_May #[t_p0] w R :=
  cl_of_vc (n := 26) (rs := [(.tmp 2)]) (h := (.s .z (.s .z .z))) (args := [t_p0]) (by kernel_rfl) Tryz.func83 rfl (by kernel_rfl) rfl rfl rfl (Eq.mp (by kernel_rfl) h)

/-- (baler/ledger.Ledger).read -/
def Vcf.ledger_Ledger_read (P : Program) (l_p0 tenant_p1 ask_p2 : Value) (w : World) (R : Value → World → Prop) : Prop   :=
 Cl P F.ledger_Ledger_of #[l_p0, tenant_p1] w fun x_1 w1 =>
 Bn P 137 false x_1 (.pointer none) fun x_2 =>
 Vif x_2 (
 R (.int .i64 0) w1) (
 Nc x_1 <|
 LdA 3 x_1 w1 fun x_3 =>
 Inv P (do let d ← Deferred.ofValue ask_p2 #[x_3]; invoke d.target d.args) w1 fun x_4 w2 =>
 R x_4 w2)
theorem Tie.ledger_Ledger_read {l_p0 tenant_p1 ask_p2 : Value} {w : World} {R : Value → World → Prop} (h : Vcf.ledger_Ledger_read Tryz.prog l_p0 tenant_p1 ask_p2 w R) : Cl Tryz.prog F.ledger_Ledger_read #[l_p0, tenant_p1, ask_p2] w R :=
  cl_of_vc (n := 18) (rs := [(.tmp 6)]) (h := (.s .z (.s .z (.s (.s .z (.i (.s .z .z) .z)) (.s .z .z))))) (args := [l_p0, tenant_p1, ask_p2]) (by kernel_rfl) Tryz.func84 rfl (by kernel_rfl) rfl rfl rfl (Eq.mp (by kernel_rfl) h)

/-- (baler/ledger.Ledger).Used$1 -/
def Vcf.ledger_Ledger_Used_1 (P : Program) (a_p0 : Value) (w : World) (R : Value → World → Prop) : Prop   :=
 New a_p0 137 w fun a_1 w1 =>
 Fo 1 a_1 fun x_2 =>
 Ld x_2 w1 fun x_3 =>
 R x_3 w1
theorem Tie.ledger_Ledger_Used_1 {a_p0 : Value} {w : World} {R : Value → World → Prop} (h : Vcf.ledger_Ledger_Used_1 Tryz.prog a_p0 w R) : Cl Tryz.prog F.ledger_Ledger_Used_1 #[a_p0] w R :=
  cl_of_vc (n := 5) (rs := [(.tmp 2)]) (h := (.s .z (.s .z .z))) (args := [a_p0]) (by kernel_rfl) Tryz.func85 rfl (by kernel_rfl) rfl rfl rfl (Eq.mp (by kernel_rfl) h)

/-- (baler/jobs.Table).handles -/
def Vcf.jobs_Table_handles (P : Program) (t_p0 counts_p1 : Value) (w : World) (R : Value → World → Prop) : Prop   :=
 Cl P F.jobs_Table_all #[t_p0] w fun x_1 w1 =>
 Lnl x_1 fun x_2 =>
 VLoop 2 [(.slice none 0 0), (.int .i64 0)] w1 fun _ next5 out_3 x_4 w2 =>
 Bp .lss x_4 x_2 fun x_6 =>
 Vif x_6 (
 Ias 5 x_1 x_4 fun x_7 =>
 LdA 5 x_7 w2 fun x_8 =>
 New (zeroP P 154) 154 w2 fun x_9 w3 =>
 StA 5 x_9 x_8 w3 fun w4 =>
 LdA 5 x_9 w4 fun x_10 =>
 Inv P (do let d ← Deferred.ofValue counts_p1 #[x_10]; invoke d.target d.args) w4 fun x_11 w5 =>
 Vif x_11 (
 Fo 4 x_9 fun x_12 =>
 Ld x_12 w5 fun x_13 =>
 Bs P 62 1 #[(0, x_13)] w5 fun x_14 w6 =>
 Ap P #[62, 62] 62 #[out_3, x_14] w6 fun x_15 w7 =>
 Bp .add x_4 (.int .i64 1) fun x_16 =>
 KE [counts_p1, x_1, x_2] [counts_p1, x_1, x_2] <| next5 x_15 x_16 w7) (
 Bp .add x_4 (.int .i64 1) fun x_17 =>
 KE [counts_p1, x_1, x_2] [counts_p1, x_1, x_2] <| next5 out_3 x_17 w5)) (
 R out_3 w2)
theorem Tie.jobs_Table_handles {t_p0 counts_p1 : Value} {w : World} {R : Value → World → Prop} (h : Vcf.jobs_Table_handles Tryz.prog t_p0 counts_p1 w R) : Cl Tryz.prog F.jobs_Table_handles #[t_p0, counts_p1] w R :=
  cl_of_vc (n := 25) (rs := [(.tmp 4)]) (h := (.s .z (.s .z (.s (.s .z (.b (.l [5, 11] [1, 9, 10] (.s .z (.s (.i .z .z) (.s (.b (.s .z (.s .z (.i .z .z)))) .z)))))) (.s .z .z))))) (args := [t_p0, counts_p1]) (by kernel_rfl) Tryz.func86 rfl (by kernel_rfl) rfl rfl rfl (Eq.mp (by kernel_rfl) h)

/-- (baler/jobs.Table).By$1 -/
def Vcf.jobs_Table_By_1 (P : Program) (x_p0 p_p1 : Value) (w : World) (R : Value → World → Prop) : Prop   :=
 New x_p0 154 w fun x_1 w1 =>
 Fo 0 x_1 fun x_2 =>
 Fo 2 x_2 fun x_3 =>
 Ld x_3 w1 fun x_4 =>
 Ld p_p1 w1 fun x_5 =>
 Bp .eql x_4 x_5 fun x_6 =>
 R x_6 w1
theorem Tie.jobs_Table_By_1 {x_p0 p_p1 : Value} {w : World} {R : Value → World → Prop} (h : Vcf.jobs_Table_By_1 Tryz.prog x_p0 p_p1 w R) : Cl Tryz.prog F.jobs_Table_By_1 #[x_p0, p_p1] w R :=
  cl_of_vc (n := 9) (rs := [(.tmp 3)]) (h := (.s .z (.s .z .z))) (args := [x_p0, p_p1]) (by kernel_rfl) Tryz.func87 rfl (by kernel_rfl) rfl rfl rfl (Eq.mp (by kernel_rfl) h)

/-- (baler/window.Meter).is -/
def Vcf.window_Meter_is (P : Program) (m_p0 tenant_p1 : Value) (w : World) (R : Value → World → Prop) : Prop   :=
 Bn P 140 true m_p0 (.pointer none) fun x_1 =>
 Vif x_1 (
 Bp .geq tenant_p1 (.int .i64 0) fun x_2 =>
 Vif x_2 (
 Nc m_p0 <|
 Fo 2 m_p0 fun x_3 =>
 Ld x_3 w fun x_4 =>
 Lnl x_4 fun x_5 =>
 Bp .lss tenant_p1 x_5 fun x_6 =>
 R x_6 w) (
 R (.bool false) w)) (
 R (.bool false) w)
theorem Tie.window_Meter_is {m_p0 tenant_p1 : Value} {w : World} {R : Value → World → Prop} (h : Vcf.window_Meter_is Tryz.prog m_p0 tenant_p1 w R) : Cl Tryz.prog F.window_Meter_is #[m_p0, tenant_p1] w R :=
  cl_of_vc (n := 20) (rs := [(.tmp 4)]) (h := (.s .z (.s .z .z))) (args := [m_p0, tenant_p1]) (by kernel_rfl) Tryz.func89 rfl (by kernel_rfl) rfl rfl rfl (Eq.mp (by kernel_rfl) h)

/-- (baler/queue.Queue).All -/
def Vcf.queue_Queue_All (P : Program) (q_p0 : Value) (w : World) (R : Value → World → Prop) : Prop   :=
 Bn P 207 false q_p0 (.pointer none) fun x_1 =>
 Vif x_1 (
 R (.slice none 0 0) w) (
 Nc q_p0 <|
 Fo 1 q_p0 fun x_2 =>
 Ld x_2 w fun x_3 =>
 Cl P F.slices_Clone_int_int #[x_3] w fun x_4 w1 =>
 R x_4 w1)
theorem Tie.queue_Queue_All {q_p0 : Value} {w : World} {R : Value → World → Prop} (h : Vcf.queue_Queue_All Tryz.prog q_p0 w R) : Cl Tryz.prog F.queue_Queue_All #[q_p0] w R :=
  cl_of_vc (n := 10) (rs := [(.tmp 2)]) (h := (.s .z (.s (.s .z (.i (.s .z .z) .z)) (.s .z .z)))) (args := [q_p0]) (by kernel_rfl) Tryz.func90 rfl (by kernel_rfl) rfl rfl rfl (Eq.mp (by kernel_rfl) h)

/-- slices.IndexFunc[[]string,string] -/
def Vcf.slices_IndexFunc_string_string (P : Program) (s_p0 f_p1 : Value) (w : World) (R : Value → World → Prop) : Prop   :=
 Lnl s_p0 fun x_1 =>
 VLoop 1 [(.int .i64 0)] w fun _ next3 x_2 w1 =>
 Bp .lss x_2 x_1 fun x_4 =>
 Vif x_4 (
 Ias 1 s_p0 x_2 fun x_5 =>
 Ld x_5 w1 fun x_6 =>
 Inv P (do let d ← Deferred.ofValue f_p1 #[x_6]; invoke d.target d.args) w1 fun x_7 w2 =>
 Vif x_7 (
 R x_2 w2) (
 Bp .add x_2 (.int .i64 1) fun x_8 =>
 KE [s_p0, f_p1, x_1] [s_p0, f_p1, x_1] <| next3 x_8 w2)) (
 R (.int .i64 (-1)) w1)
theorem Tie.slices_IndexFunc_string_string {s_p0 f_p1 : Value} {w : World} {R : Value → World → Prop} (h : Vcf.slices_IndexFunc_string_string Tryz.prog s_p0 f_p1 w R) : Cl Tryz.prog F.slices_IndexFunc_string_string #[s_p0, f_p1] w R :=
  cl_of_vc (n := 19) (rs := [(.tmp 4)]) (h := (.s .z (.s (.s .z (.b (.l [8] [0, 1, 7] (.s .z (.s (.i .z .z) (.s (.b (.s .z (.s .z (.i (.s .z .z) .z)))) .z)))))) (.s .z .z)))) (args := [s_p0, f_p1]) (by kernel_rfl) Tryz.func100 rfl (by kernel_rfl) rfl rfl rfl (Eq.mp (by kernel_rfl) h)

/-- baler/tenants.May -/
def Vcf.tenants_May (P : Program) (t_p0 : Value) (w : World) (R : Value → World → Prop) : Prop   :=
 New t_p0 33 w fun t_1 w1 =>
 Fo 0 t_1 fun x_2 =>
 Ld x_2 w1 fun x_3 =>
 Cl P F.token_Is #[x_3] w1 fun x_4 w2 =>
 Vif x_4 (
 Fo 1 t_1 fun x_5 =>
 Ld x_5 w2 fun x_6 =>
 Cl P F.token_Is #[x_6] w2 fun x_7 w3 =>
 Vif x_7 (
 Fo 2 t_1 fun x_8 =>
 Ld x_8 w3 fun x_9 =>
 Cl P F.tenants_between #[x_9, (.int .i64 0), (.int .i64 1099511627776)] w3 fun x_10 w4 =>
 Vif x_10 (
 Fo 3 t_1 fun x_11 =>
 Ld x_11 w4 fun x_12 =>
 Cl P F.tenants_between #[x_12, (.int .i64 1), (.int .i64 1099511627776)] w4 fun x_13 w5 =>
 Vif x_13 (
 Fo 4 t_1 fun x_14 =>
 Ld x_14 w5 fun x_15 =>
 Cl P F.tenants_between #[x_15, (.int .i64 1), (.int .i64 1099511627776)] w5 fun x_16 w6 =>
 R x_16 w6) (
 R (.bool false) w5)) (
 R (.bool false) w4)) (
 R (.bool false) w3)) (
 R (.bool false) w2)
theorem Tie.tenants_May {t_p0 : Value} {w : World} {R : Value → World → Prop} (h : Vcf.tenants_May Tryz.prog t_p0 w R) : Cl Tryz.prog F.tenants_May #[t_p0] w R :=
  cl_of_vc (n := 26) (rs := [(.tmp 2)]) (h := (.s .z (.s .z .z))) (args := [t_p0]) (by kernel_rfl) Tryz.func125 rfl (by kernel_rfl) rfl rfl rfl (Eq.mp (by kernel_rfl) h)

/-- baler/tenants.again -/
def Vcf.tenants_again (P : Program) (l_p0 t_p1 : Value) (w : World) (R : Value → World → Prop) : Prop   :=
 New t_p1 33 w fun t_1 w1 =>
 Lnl l_p0 fun x_2 =>
 VLoop 1 [(.int .i64 0)] w1 fun _ next4 x_3 w2 =>
 Bp .lss x_3 x_2 fun x_5 =>
 Vif x_5 (
 Ias 5 l_p0 x_3 fun x_6 =>
 LdA 5 x_6 w2 fun x_7 =>
 New (zeroP P 33) 33 w2 fun x_8 w3 =>
 StA 5 x_8 x_7 w3 fun w4 =>
 VJoin 1 (fun _ x_9 w5 =>
 Vif x_9 (
 R (.bool true) w5) (
 Bp .add x_3 (.int .i64 1) fun x_10 =>
 KE [t_1, l_p0, x_2] [t_1, l_p0, x_2] <| next4 x_10 w5))
 (fun J11 =>
 Fo 0 x_8 fun x_12 =>
 Ld x_12 w4 fun x_13 =>
 Fo 0 t_1 fun x_14 =>
 Ld x_14 w4 fun x_15 =>
 Bp .eql x_13 x_15 fun x_16 =>
 Vif x_16 (
 KE [t_1, l_p0, x_2, x_3] [t_1, l_p0, x_2, x_3] <| J11 (.bool true) w4) (
 Fo 1 x_8 fun x_17 =>
 Ld x_17 w4 fun x_18 =>
 Fo 1 t_1 fun x_19 =>
 Ld x_19 w4 fun x_20 =>
 Bp .eql x_18 x_20 fun x_21 =>
 KE [t_1, l_p0, x_2, x_3] [t_1, l_p0, x_2, x_3] <| J11 x_21 w4))) (
 R (.bool false) w2)
theorem Tie.tenants_again {l_p0 t_p1 : Value} {w : World} {R : Value → World → Prop} (h : Vcf.tenants_again Tryz.prog l_p0 t_p1 w R) : Cl Tryz.prog F.tenants_again #[l_p0, t_p1] w R :=
  cl_of_vc (n := 26) (rs := [(.tmp 4)]) (h := (.s .z (.s (.s .z (.b (.l [9] [3, 7, 8] (.s .z (.s (.i .z .z) (.s (.b (.s .z (.j [24] [3, 7, 8, 9] .z (.i (.s .z .z) .z)))) .z)))))) (.s .z .z)))) (args := [l_p0, t_p1]) (by kernel_rfl) Tryz.func126 rfl (by kernel_rfl) rfl rfl rfl (Eq.mp (by kernel_rfl) h)

/-- slices.IndexFunc[[]int,int] -/
def Vcf.slices_IndexFunc_int_int (P : Program) (s_p0 f_p1 : Value) (w : World) (R : Value → World → Prop) : Prop   :=
 Lnl s_p0 fun x_1 =>
 VLoop 1 [(.int .i64 0)] w fun _ next3 x_2 w1 =>
 Bp .lss x_2 x_1 fun x_4 =>
 Vif x_4 (
 Ias 1 s_p0 x_2 fun x_5 =>
 Ld x_5 w1 fun x_6 =>
 Inv P (do let d ← Deferred.ofValue f_p1 #[x_6]; invoke d.target d.args) w1 fun x_7 w2 =>
 Vif x_7 (
 R x_2 w2) (
 Bp .add x_2 (.int .i64 1) fun x_8 =>
 KE [s_p0, f_p1, x_1] [s_p0, f_p1, x_1] <| next3 x_8 w2)) (
 R (.int .i64 (-1)) w1)
theorem Tie.slices_IndexFunc_int_int {s_p0 f_p1 : Value} {w : World} {R : Value → World → Prop} (h : Vcf.slices_IndexFunc_int_int Tryz.prog s_p0 f_p1 w R) : Cl Tryz.prog F.slices_IndexFunc_int_int #[s_p0, f_p1] w R :=
  cl_of_vc (n := 19) (rs := [(.tmp 4)]) (h := (.s .z (.s (.s .z (.b (.l [8] [0, 1, 7] (.s .z (.s (.i .z .z) (.s (.b (.s .z (.s .z (.i (.s .z .z) .z)))) .z)))))) (.s .z .z)))) (args := [s_p0, f_p1]) (by kernel_rfl) Tryz.func127 rfl (by kernel_rfl) rfl rfl rfl (Eq.mp (by kernel_rfl) h)

/-- baler/queue.New -/
def Vcf.queue_New (P : Program) (limit_p0 : Value) (w : World) (R : Value → World → Prop) : Prop   :=
 VJoin 1 (fun _ x_1 w1 =>
 Vif x_1 (
 R (.tuple #[(.pointer none), (.int .i64 1)]) w1) (
 Bd P 207 #[(0, limit_p0)] w1 fun x_2 =>
 New x_2 207 w1 fun x_3 w2 =>
 R (.tuple #[x_3, (.int .i64 0)]) w2))
 (fun J4 =>
 Bp .lss limit_p0 (.int .i64 1) fun x_5 =>
 Vif x_5 (
 KE [limit_p0] [limit_p0] <| J4 (.bool true) w) (
 Bp .gtr limit_p0 (.int .i64 1099511627776) fun x_6 =>
 KE [limit_p0] [limit_p0] <| J4 x_6 w))
theorem Tie.queue_New {limit_p0 : Value} {w : World} {R : Value → World → Prop} (h : Vcf.queue_New Tryz.prog limit_p0 w R) : Cl Tryz.prog F.queue_New #[limit_p0] w R :=
  cl_of_vc (n := 13) (rs := [(.tmp 2), (.tmp 3)]) (h := (.s .z (.s (.j [9] [0] .z (.i (.s .z .z) .z)) (.s .z .z)))) (args := [limit_p0]) (by kernel_rfl) Tryz.func128 rfl (by kernel_rfl) rfl rfl rfl (Eq.mp (by kernel_rfl) h)

/-- baler/balerref31.Word -/
def Vcf.balerref31_Word (P : Program) (s_p0 : Value) (w : World) (R : Value → World → Prop) : Prop   :=
 Cl P F.balerref31_Runes #[s_p0] w fun x_1 w1 =>
 Lnl x_1 fun x_2 =>
 VLoop 1 [(.int .i64 0)] w1 fun _ next4 x_3 w2 =>
 Bp .lss x_3 x_2 fun x_5 =>
 Vif x_5 (
 Ias 2 x_1 x_3 fun x_6 =>
 LdA 2 x_6 w2 fun x_7 =>
 New (zeroP P 244) 244 w2 fun r_8 w3 =>
 StA 2 r_8 x_7 w3 fun w4 =>
 Fo 0 r_8 fun x_9 =>
 Ld x_9 w4 fun x_10 =>
 Cl P F.balerref31_May #[x_10] w4 fun x_11 w5 =>
 Up .not x_11 fun x_12 =>
 Vif x_12 (
 R (.bool false) w5) (
 Bp .add x_3 (.int .i64 1) fun x_13 =>
 KE [x_1, x_1, x_2] [x_1, x_1, x_2] <| next4 x_13 w5)) (
 Lnl x_1 fun x_14 =>
 Bp .gtr x_14 (.int .i64 0) fun x_15 =>
 Vif x_15 (
 Lnl x_1 fun x_16 =>
 Bp .leq x_16 (.int .i64 32) fun x_17 =>
 R x_17 w2) (
 R (.bool false) w2))
theorem Tie.balerref31_Word {s_p0 : Value} {w : World} {R : Value → World → Prop} (h : Vcf.balerref31_Word Tryz.prog s_p0 w R) : Cl Tryz.prog F.balerref31_Word #[s_p0] w R :=
  cl_of_vc (n := 27) (rs := [(.tmp 2)]) (h := (.s .z (.s .z (.s (.s .z (.b (.l [10] [3, 8, 9] (.s .z (.s (.i .z .z) (.s (.b (.s .z (.s .z (.i (.s .z .z) .z)))) .z)))))) (.s .z .z))))) (args := [s_p0]) (by kernel_rfl) Tryz.func129 rfl (by kernel_rfl) rfl rfl rfl (Eq.mp (by kernel_rfl) h)

/-- (baler/ledger.Ledger).of -/
def Vcf.ledger_Ledger_of (P : Program) (l_p0 tenant_p1 : Value) (w : World) (R : Value → World → Prop) : Prop   :=
 VJoin 1 (fun _ x_1 w1 =>
 Vif x_1 (
 R (.pointer none) w1) (
 Nc l_p0 <|
 Fo 0 l_p0 fun x_2 =>
 Ld x_2 w1 fun x_3 =>
 Ias 3 x_3 tenant_p1 fun x_4 =>
 R x_4 w1))
 (fun J5 =>
 Bn P 135 false l_p0 (.pointer none) fun x_6 =>
 Vif x_6 (
 KE [l_p0, tenant_p1] [l_p0, tenant_p1] <| J5 (.bool true) w) (
 Bp .lss tenant_p1 (.int .i64 0) fun x_7 =>
 Vif x_7 (
 KE [l_p0, tenant_p1] [l_p0, tenant_p1] <| J5 (.bool true) w) (
 Nc l_p0 <|
 Fo 0 l_p0 fun x_8 =>
 Ld x_8 w fun x_9 =>
 Lnl x_9 fun x_10 =>
 Bp .geq tenant_p1 x_10 fun x_11 =>
 KE [l_p0, tenant_p1] [l_p0, tenant_p1] <| J5 x_11 w)))
theorem Tie.ledger_Ledger_of {l_p0 tenant_p1 : Value} {w : World} {R : Value → World → Prop} (h : Vcf.ledger_Ledger_of Tryz.prog l_p0 tenant_p1 w R) : Cl Tryz.prog F.ledger_Ledger_of #[l_p0, tenant_p1] w R :=
  cl_of_vc (n := 26) (rs := [(.tmp 4)]) (h := (.s .z (.s (.j [19] [0, 1] .z (.i (.s .z .z) .z)) (.s .z .z)))) (args := [l_p0, tenant_p1]) (by kernel_rfl) Tryz.func130 rfl (by kernel_rfl) rfl rfl rfl (Eq.mp (by kernel_rfl) h)

/-- (baler/jobs.Table).all -/
def Vcf.jobs_Table_all (P : Program) (t_p0 : Value) (w : World) (R : Value → World → Prop) : Prop   :=
 Bn P 131 false t_p0 (.pointer none) fun x_1 =>
 Vif x_1 (
 R (.slice none 0 0) w) (
 Nc t_p0 <|
 Fo 2 t_p0 fun x_2 =>
 Ld x_2 w fun x_3 =>
 R x_3 w)
theorem Tie.jobs_Table_all {t_p0 : Value} {w : World} {R : Value → World → Prop} (h : Vcf.jobs_Table_all Tryz.prog t_p0 w R) : Cl Tryz.prog F.jobs_Table_all #[t_p0] w R :=
  cl_of_vc (n := 9) (rs := [(.tmp 2)]) (h := (.s .z (.s (.s .z (.i (.s .z .z) .z)) (.s .z .z)))) (args := [t_p0]) (by kernel_rfl) Tryz.func131 rfl (by kernel_rfl) rfl rfl rfl (Eq.mp (by kernel_rfl) h)

/-- baler/token.Is -/
def Vcf.token_Is (P : Program) (s_p0 : Value) (w : World) (R : Value → World → Prop) : Prop   :=
 Cl P F.token_First #[s_p0] w fun x_1 w1 =>
 Ex x_1 0 fun x_2 =>
 Ex x_1 1 fun x_3 =>
 Bp .lss x_3 (.int .i64 0) fun x_4 =>
 Vif x_4 (
 Bp .neq s_p0 (.string ⟨#[]⟩) fun x_5 =>
 Vif x_5 (
 Cl P F.token_Len #[s_p0] w1 fun x_6 w2 =>
 Bp .leq x_6 (.int .i64 32) fun x_7 =>
 R x_7 w2) (
 R (.bool false) w1)) (
 R (.bool false) w1)
theorem Tie.token_Is {s_p0 : Value} {w : World} {R : Value → World → Prop} (h : Vcf.token_Is Tryz.prog s_p0 w R) : Cl Tryz.prog F.token_Is #[s_p0] w R :=
  cl_of_vc (n := 21) (rs := [(.tmp 2)]) (h := (.s .z (.s .z (.s .z .z)))) (args := [s_p0]) (by kernel_rfl) Tryz.func169 rfl (by kernel_rfl) rfl rfl rfl (Eq.mp (by kernel_rfl) h)

/-- baler/balerref31.Runes -/
def Vcf.balerref31_Runes (P : Program) (s_p0 : Value) (w : World) (R : Value → World → Prop) : Prop   :=
 VLoop 2 [s_p0, (.slice none 0 0)] w fun _ next3 s_1 out_2 w1 =>
 Lns s_1 fun x_4 =>
 Bp .gtr x_4 (.int .i64 0) fun x_5 =>
 Vif x_5 (
 Cl P F.balerref31_First #[s_1] w1 fun x_6 w2 =>
 New (zeroP P 244) 244 w2 fun r_7 w3 =>
 StA 2 r_7 x_6 w3 fun w4 =>
 LdA 2 r_7 w4 fun x_8 =>
 Bs P 241 1 #[(0, x_8)] w4 fun x_9 w5 =>
 Ap P #[241, 241] 241 #[out_2, x_9] w5 fun x_10 w6 =>
 Fo 1 r_7 fun x_11 =>
 Ld x_11 w6 fun x_12 =>
 Sst s_1 (some x_12) none fun x_13 =>
 KE [] [] <| next3 x_13 x_10 w6) (
 R out_2 w1)
theorem Tie.balerref31_Runes {s_p0 : Value} {w : World} {R : Value → World → Prop} (h : Vcf.balerref31_Runes Tryz.prog s_p0 w R) : Cl Tryz.prog F.balerref31_Runes #[s_p0] w R :=
  cl_of_vc (n := 19) (rs := [(.tmp 2)]) (h := (.s .z (.s .z (.s (.b (.l [0, 3] [] (.s (.s .z (.i .z .z)) (.b (.s .z (.s .z .z)))))) (.s .z .z))))) (args := [s_p0]) (by kernel_rfl) Tryz.func170 rfl (by kernel_rfl) rfl rfl rfl (Eq.mp (by kernel_rfl) h)

/-- baler/balerref31.May -/
def Vcf.balerref31_May (P : Program) (n_p0 : Value) (w : World) (R : Value → World → Prop) : Prop   :=
 Bp .gtr n_p0 (.int .i64 32) fun x_1 =>
 Vif x_1 (
 Bp .lss n_p0 (.int .i64 127) fun x_2 =>
 Vif x_2 (
 Bp .neq n_p0 (.int .i64 58) fun x_3 =>
 Vif x_3 (
 Bp .neq n_p0 (.int .i64 35) fun x_4 =>
 R x_4 w) (
 R (.bool false) w)) (
 Bp .gtr n_p0 (.int .i64 160) fun x_5 =>
 Vif x_5 (
 Bp .neq n_p0 (.int .i64 58) fun x_6 =>
 Vif x_6 (
 Bp .neq n_p0 (.int .i64 35) fun x_7 =>
 R x_7 w) (
 R (.bool false) w)) (
 R (.bool false) w))) (
 R (.bool false) w)
theorem Tie.balerref31_May {n_p0 : Value} {w : World} {R : Value → World → Prop} (h : Vcf.balerref31_May Tryz.prog n_p0 w R) : Cl Tryz.prog F.balerref31_May #[n_p0] w R :=
  cl_of_vc (n := 21) (rs := [(.tmp 2)]) (h := (.s .z (.s .z .z))) (args := [n_p0]) (by kernel_rfl) Tryz.func171 rfl (by kernel_rfl) rfl rfl rfl (Eq.mp (by kernel_rfl) h)

/-- baler/token.First -/
def Vcf.token_First (P : Program) (s_p0 : Value) (w : World) (R : Value → World → Prop) : Prop   :=
 Rg P 9 s_p0 w fun x_1 w1 =>
 VLoop 0 [] w1 fun _ next2 w2 =>
 Nx P x_1 true 0 w2 fun x_3 w3 =>
 Ex x_3 0 fun x_4 =>
 Vif x_4 (
 Ex x_3 1 fun x_5 =>
 Ex x_3 2 fun x_6 =>
 Cl P F.token_told #[s_p0, x_5, x_6] w3 fun x_7 w4 =>
 Cl P F.token_may #[x_7] w4 fun x_8 w5 =>
 Up .not x_8 fun x_9 =>
 Vif x_9 (
 R (.tuple #[x_7, x_5]) w5) (
 KE [s_p0, x_1] [s_p0, x_1] <| next2 w5)) (
 R (.tuple #[(.int .i64 0), (.int .i64 (-1))]) w3)
theorem Tie.token_First {s_p0 : Value} {w : World} {R : Value → World → Prop} (h : Vcf.token_First Tryz.prog s_p0 w R) : Cl Tryz.prog F.token_First #[s_p0] w R :=
  cl_of_vc (n := 22) (rs := [(.tmp 2), (.tmp 3)]) (h := (.s .z (.s (.s .z (.b (.l [] [0, 8] (.s .z (.s (.i .z .z) (.b (.s .z (.s .z (.s .z (.i (.s .z .z) .z)))))))))) (.s .z .z)))) (args := [s_p0]) (by kernel_rfl) Tryz.func212 rfl (by kernel_rfl) rfl rfl rfl (Eq.mp (by kernel_rfl) h)

/-- baler/token.Len -/
def Vcf.token_Len (P : Program) (s_p0 : Value) (w : World) (R : Value → World → Prop) : Prop   :=
 Rg P 9 s_p0 w fun x_1 w1 =>
 VLoop 1 [(.int .i64 0)] w1 fun _ next3 n_2 w2 =>
 Nx P x_1 true 0 w2 fun x_4 w3 =>
 Ex x_4 0 fun x_5 =>
 Vif x_5 (
 Bp .add n_2 (.int .i64 1) fun x_6 =>
 KE [x_1] [x_1] <| next3 x_6 w3) (
 R n_2 w3)
theorem Tie.token_Len {s_p0 : Value} {w : World} {R : Value → World → Prop} (h : Vcf.token_Len Tryz.prog s_p0 w R) : Cl Tryz.prog F.token_Len #[s_p0] w R :=
  cl_of_vc (n := 11) (rs := [(.tmp 2)]) (h := (.s .z (.s .z (.s (.s .z (.b (.l [3] [5] (.s .z (.s (.i .z .z) (.b .z)))))) (.s .z .z))))) (args := [s_p0]) (by kernel_rfl) Tryz.func213 rfl (by kernel_rfl) rfl rfl rfl (Eq.mp (by kernel_rfl) h)

/-- baler/balerref31.First -/
def Vcf.balerref31_First (P : Program) (s_p0 : Value) (w : World) (R : Value → World → Prop) : Prop   :=
 New (zeroP P 244) 244 w fun x_1 w1 =>
 Ixs s_p0 (.int .i64 0) fun x_2 =>
 Bp .lss x_2 (.int .u8 128) fun x_3 =>
 Vif x_3 (
 Ci .i64 x_2 fun x_4 =>
 Bd P 244 #[(0, x_4), (1, (.int .i64 1))] w1 fun x_5 =>
 StA 2 x_1 x_5 w1 fun w2 =>
 LdA 2 x_1 w2 fun x_6 =>
 R x_6 w2) (
 Bd P 244 #[] w1 fun x_7 =>
 New (zeroP P 244) 244 w1 fun out_8 w3 =>
 StA 2 out_8 x_7 w3 fun w4 =>
 VJoin 0 (fun _ w5 =>
 VJoin 0 (fun _ w6 =>
 VJoin 0 (fun _ w7 =>
 Fo 1 out_8 fun x_9 =>
 Ld x_9 w7 fun x_10 =>
 Bp .eql x_10 (.int .i64 0) fun x_11 =>
 Vif x_11 (
 Bd P 244 #[(0, (.int .i64 (-1))), (1, (.int .i64 1))] w7 fun x_12 =>
 StA 2 x_1 x_12 w7 fun w8 =>
 LdA 2 x_1 w8 fun x_13 =>
 R x_13 w8) (
 LdA 2 out_8 w7 fun x_14 =>
 StA 2 x_1 x_14 w7 fun w9 =>
 LdA 2 x_1 w9 fun x_15 =>
 R x_15 w9))
 (fun J16 =>
 VJoin 1 (fun _ x_17 w10 =>
 Vif x_17 (
 Cl P F.balerref31_wide #[s_p0, (.int .i64 4)] w10 fun x_18 w11 =>
 StA 2 out_8 x_18 w11 fun w12 =>
 KE [x_1, out_8] [x_1, out_8] <| J16 w12) (
 KE [x_1, out_8] [x_1, out_8] <| J16 w10))
 (fun J19 =>
 Bp .geq x_2 (.int .u8 240) fun x_20 =>
 Vif x_20 (
 Bp .lss x_2 (.int .u8 248) fun x_21 =>
 KE [s_p0, x_1, out_8] [s_p0, x_1, out_8] <| J19 x_21 w6) (
 KE [s_p0, x_1, out_8] [s_p0, x_1, out_8] <| J19 (.bool false) w6))))
 (fun J22 =>
 VJoin 1 (fun _ x_23 w13 =>
 Vif x_23 (
 Cl P F.balerref31_wide #[s_p0, (.int .i64 3)] w13 fun x_24 w14 =>
 StA 2 out_8 x_24 w14 fun w15 =>
 KE [s_p0, x_1, x_2, out_8] [s_p0, x_1, x_2, out_8] <| J22 w15) (
 KE [s_p0, x_1, x_2, out_8] [s_p0, x_1, x_2, out_8] <| J22 w13))
 (fun J25 =>
 Bp .geq x_2 (.int .u8 224) fun x_26 =>
 Vif x_26 (
 Bp .lss x_2 (.int .u8 240) fun x_27 =>
 KE [s_p0, x_1, x_2, out_8] [s_p0, x_1, x_2, out_8] <| J25 x_27 w5) (
 KE [s_p0, x_1, x_2, out_8] [s_p0, x_1, x_2, out_8] <| J25 (.bool false) w5))))
 (fun J28 =>
 VJoin 1 (fun _ x_29 w16 =>
 Vif x_29 (
 Cl P F.balerref31_wide #[s_p0, (.int .i64 2)] w16 fun x_30 w17 =>
 StA 2 out_8 x_30 w17 fun w18 =>
 KE [s_p0, x_1, x_2, out_8] [s_p0, x_1, x_2, out_8] <| J28 w18) (
 KE [s_p0, x_1, x_2, out_8] [s_p0, x_1, x_2, out_8] <| J28 w16))
 (fun J31 =>
 Bp .geq x_2 (.int .u8 192) fun x_32 =>
 Vif x_32 (
 Bp .lss x_2 (.int .u8 224) fun x_33 =>
 KE [s_p0, x_1, x_2, out_8] [s_p0, x_1, x_2, out_8] <| J31 x_33 w4) (
 KE [s_p0, x_1, x_2, out_8] [s_p0, x_1, x_2, out_8] <| J31 (.bool false) w4))))
theorem Tie.balerref31_First {s_p0 : Value} {w : World} {R : Value → World → Prop} (h : Vcf.balerref31_First Tryz.prog s_p0 w R) : Cl Tryz.prog F.balerref31_First #[s_p0] w R :=
  cl_of_vc (n := 42) (rs := [(.cell 2 244)]) (h := (.s .z (.s .z (.s (.s .z (.i (.s .z .z) .z)) (.s .z (.j [] [0, 2, 3, 4] (.j [18] [0, 2, 3, 4] .z (.i .z .z)) (.j [] [0, 2, 3, 4] (.j [26] [0, 2, 3, 4] .z (.i .z .z)) (.j [] [2, 4] (.j [34] [0, 2, 4] .z (.i .z .z)) (.s (.s .z (.i (.s .z .z) .z)) (.s .z .z)))))))))) (args := [s_p0]) (by kernel_rfl) Tryz.func214 rfl (by kernel_rfl) rfl rfl rfl (Eq.mp (by kernel_rfl) h)

/-- baler/token.Same -/
def Vcf.token_Same (P : Program) (a_p0 b_p1 : Value) (w : World) (R : Value → World → Prop) : Prop   :=
 Lns a_p0 fun x_1 =>
 Lns b_p1 fun x_2 =>
 Bmin P #[3, 3] 3 #[x_1, x_2] w fun x_3 =>
 VLoop 2 [(.int .u8 0), (.int .i64 0)] w fun _ next6 unlike_4 x_5 w1 =>
 Bp .lss x_5 x_3 fun x_7 =>
 Vif x_7 (
 Dr w1 fun w2 =>
 Ixs a_p0 x_5 fun x_8 =>
 Ixs b_p1 x_5 fun x_9 =>
 Bp .xor x_8 x_9 fun x_10 =>
 Bp .or unlike_4 x_10 fun x_11 =>
 Bp .add x_5 (.int .i64 1) fun x_12 =>
 KE [a_p0, b_p1, x_3] [a_p0, b_p1, x_3] <| next6 x_11 x_12 w2) (
 Bp .eql unlike_4 (.int .u8 0) fun x_13 =>
 Vif x_13 (
 Lns a_p0 fun x_14 =>
 Lns b_p1 fun x_15 =>
 Bp .eql x_14 x_15 fun x_16 =>
 R x_16 w1) (
 R (.bool false) w1))
theorem Tie.token_Same {a_p0 b_p1 : Value} {w : World} {R : Value → World → Prop} (h : Vcf.token_Same Tryz.prog a_p0 b_p1 w R) : Cl Tryz.prog F.token_Same #[a_p0, b_p1] w R :=
  cl_of_vc (n := 34) (rs := [(.tmp 4)]) (h := (.s .z (.s .z (.s (.s .z (.b (.l [5, 12] [0, 1, 11] (.s .z (.s (.i .z .z) (.s (.b (.s .z (.r (.staged [0, 0, 0, 6, 0, 0, 48, 126, 255, 511])))) .z)))))) (.s .z .z))))) (args := [a_p0, b_p1]) (by kernel_rfl) Tryz.func223 rfl (by kernel_rfl) rfl rfl rfl (Eq.mp (by kernel_rfl) h)

/-- baler/token.told -/
def Vcf.token_told (P : Program) (s_p0 at_p1 c_p2 : Value) (w : World) (R : Value → World → Prop) : Prop   :=
 Bp .eql c_p2 (.int .i32 65533) fun x_1 =>
 Vif x_1 (
 Sst s_p0 (some at_p1) none fun x_2 =>
 Cl P F.unicode_utf8_DecodeRuneInString #[x_2] w fun x_3 w1 =>
 Ex x_3 0 fun x_4 =>
 Ex x_3 1 fun x_5 =>
 Bp .eql x_5 (.int .i64 1) fun x_6 =>
 Vif x_6 (
 R (.int .i64 (-1)) w1) (
 Ci .i64 c_p2 fun x_7 =>
 R x_7 w1)) (
 Ci .i64 c_p2 fun x_8 =>
 R x_8 w)
theorem Tie.token_told {s_p0 at_p1 c_p2 : Value} {w : World} {R : Value → World → Prop} (h : Vcf.token_told Tryz.prog s_p0 at_p1 c_p2 w R) : Cl Tryz.prog F.token_told #[s_p0, at_p1, c_p2] w R :=
  cl_of_vc (n := 22) (rs := [(.tmp 6)]) (h := (.s .z (.s (.s .z (.i (.s .z (.s .z (.i (.s .z .z) .z))) .z)) (.s .z .z)))) (args := [s_p0, at_p1, c_p2]) (by kernel_rfl) Tryz.func233 rfl (by kernel_rfl) rfl rfl rfl (Eq.mp (by kernel_rfl) h)

/-- baler/token.may -/
def Vcf.token_may (P : Program) (n_p0 : Value) (w : World) (R : Value → World → Prop) : Prop   :=
 Bp .gtr n_p0 (.int .i64 32) fun x_1 =>
 Vif x_1 (
 Bp .lss n_p0 (.int .i64 127) fun x_2 =>
 Vif x_2 (
 Bp .neq n_p0 (.int .i64 58) fun x_3 =>
 Vif x_3 (
 Bp .neq n_p0 (.int .i64 35) fun x_4 =>
 R x_4 w) (
 R (.bool false) w)) (
 Bp .gtr n_p0 (.int .i64 160) fun x_5 =>
 Vif x_5 (
 Bp .neq n_p0 (.int .i64 58) fun x_6 =>
 Vif x_6 (
 Bp .neq n_p0 (.int .i64 35) fun x_7 =>
 R x_7 w) (
 R (.bool false) w)) (
 R (.bool false) w))) (
 R (.bool false) w)
theorem Tie.token_may {n_p0 : Value} {w : World} {R : Value → World → Prop} (h : Vcf.token_may Tryz.prog n_p0 w R) : Cl Tryz.prog F.token_may #[n_p0] w R :=
  cl_of_vc (n := 21) (rs := [(.tmp 2)]) (h := (.s .z (.s .z .z))) (args := [n_p0]) (by kernel_rfl) Tryz.func234 rfl (by kernel_rfl) rfl rfl rfl (Eq.mp (by kernel_rfl) h)

/-- baler/balerref31.wide -/
def Vcf.balerref31_wide (P : Program) (s_p0 bytes_p1 : Value) (w : World) (R : Value → World → Prop) : Prop   :=
 New (zeroP P 244) 244 w fun x_1 w1 =>
 Ixs s_p0 (.int .i64 0) fun x_2 =>
 Ci .i64 x_2 fun x_3 =>
 VJoin 1 (fun _ n_4 w2 =>
 VJoin 2 (fun _ n_5 least_6 w3 =>
 VJoin 2 (fun _ n_7 least_8 w4 =>
 VLoop 2 [n_7, (.int .i64 1)] w4 fun _ next11 n_9 i_10 w5 =>
 Bp .lss i_10 bytes_p1 fun x_12 =>
 Vif x_12 (
 Cl P F.balerref31_more #[s_p0, i_10] w5 fun x_13 w6 =>
 Up .not x_13 fun x_14 =>
 Vif x_14 (
 Bd P 244 #[] w6 fun x_15 =>
 StA 2 x_1 x_15 w6 fun w7 =>
 LdA 2 x_1 w7 fun x_16 =>
 R x_16 w7) (
 Bp .mul (.int .i64 64) n_9 fun x_17 =>
 Ixs s_p0 i_10 fun x_18 =>
 Ci .i64 x_18 fun x_19 =>
 Bp .add x_17 x_19 fun x_20 =>
 Bp .sub x_20 (.int .i64 128) fun x_21 =>
 Bp .add i_10 (.int .i64 1) fun x_22 =>
 KE [s_p0, bytes_p1, x_1, least_8] [s_p0, bytes_p1, x_1, least_8] <| next11 x_21 x_22 w6)) (
 VJoin 1 (fun _ x_23 w8 =>
 Vif x_23 (
 Bd P 244 #[] w8 fun x_24 =>
 StA 2 x_1 x_24 w8 fun w9 =>
 LdA 2 x_1 w9 fun x_25 =>
 R x_25 w9) (
 Bd P 244 #[(0, n_9), (1, bytes_p1)] w8 fun x_26 =>
 StA 2 x_1 x_26 w8 fun w10 =>
 LdA 2 x_1 w10 fun x_27 =>
 R x_27 w10))
 (fun J28 =>
 Bp .lss n_9 least_8 fun x_29 =>
 Vif x_29 (
 KE [bytes_p1, x_1, n_9] [bytes_p1, x_1, n_9] <| J28 (.bool true) w5) (
 Bp .gtr n_9 (.int .i64 1114111) fun x_30 =>
 Vif x_30 (
 KE [bytes_p1, x_1, n_9] [bytes_p1, x_1, n_9] <| J28 (.bool true) w5) (
 Bp .geq n_9 (.int .i64 55296) fun x_31 =>
 Vif x_31 (
 Bp .leq n_9 (.int .i64 57343) fun x_32 =>
 KE [bytes_p1, x_1, n_9] [bytes_p1, x_1, n_9] <| J28 x_32 w5) (
 KE [bytes_p1, x_1, n_9] [bytes_p1, x_1, n_9] <| J28 (.bool false) w5))))))
 (fun J33 =>
 Bp .eql bytes_p1 (.int .i64 4) fun x_34 =>
 Vif x_34 (
 Bp .sub n_5 (.int .i64 240) fun x_35 =>
 KE [s_p0, bytes_p1, x_1] [s_p0, bytes_p1, x_1] <| J33 x_35 (.int .i64 65536) w3) (
 KE [s_p0, bytes_p1, x_1] [s_p0, bytes_p1, x_1] <| J33 n_5 least_6 w3)))
 (fun J36 =>
 Bp .eql bytes_p1 (.int .i64 3) fun x_37 =>
 Vif x_37 (
 Bp .sub n_4 (.int .i64 224) fun x_38 =>
 KE [s_p0, bytes_p1, x_1] [s_p0, bytes_p1, x_1] <| J36 x_38 (.int .i64 2048) w2) (
 KE [s_p0, bytes_p1, x_1] [s_p0, bytes_p1, x_1] <| J36 n_4 (.int .i64 128) w2)))
 (fun J39 =>
 Bp .eql bytes_p1 (.int .i64 2) fun x_40 =>
 Vif x_40 (
 Bp .sub x_3 (.int .i64 192) fun x_41 =>
 KE [s_p0, bytes_p1, x_1, (.int .i64 128)] [s_p0, bytes_p1, x_1, (.int .i64 128)] <| J39 x_41 w1) (
 KE [s_p0, bytes_p1, x_1, (.int .i64 128)] [s_p0, bytes_p1, x_1, (.int .i64 128)] <| J39 x_3 w1))
theorem Tie.balerref31_wide {s_p0 bytes_p1 : Value} {w : World} {R : Value → World → Prop} (h : Vcf.balerref31_wide Tryz.prog s_p0 bytes_p1 w R) : Cl Tryz.prog F.balerref31_wide #[s_p0, bytes_p1] w R :=
  cl_of_vc (n := 60) (rs := [(.cell 4 244)]) (h := (.s .z (.s .z (.s .z (.j [5] [0, 1, 4, 6] (.s .z (.i .z .z)) (.j [5, 6] [0, 1, 4] (.s .z (.i (.s .z .z) .z)) (.j [5, 6] [0, 1, 4] (.s .z (.i (.s .z .z) .z)) (.s (.s .z (.b (.l [5, 7] [0, 1, 4, 6] (.s (.s .z (.i .z .z)) (.s (.b (.s (.s .z (.i (.s .z .z) .z)) .z)) .z))))) (.s (.j [55] [1, 4, 5] .z (.i (.s .z .z) .z)) (.s .z .z)))))))))) (args := [s_p0, bytes_p1]) (by kernel_rfl) Tryz.func235 rfl (by kernel_rfl) rfl rfl rfl (Eq.mp (by kernel_rfl) h)

/-- baler/balerref31.more -/
def Vcf.balerref31_more (P : Program) (s_p0 i_p1 : Value) (w : World) (R : Value → World → Prop) : Prop   :=
 Lns s_p0 fun x_1 =>
 Bp .lss i_p1 x_1 fun x_2 =>
 Vif x_2 (
 Ixs s_p0 i_p1 fun x_3 =>
 Bp .geq x_3 (.int .u8 128) fun x_4 =>
 Vif x_4 (
 Ixs s_p0 i_p1 fun x_5 =>
 Bp .lss x_5 (.int .u8 192) fun x_6 =>
 R x_6 w) (
 R (.bool false) w)) (
 R (.bool false) w)
theorem Tie.balerref31_more {s_p0 i_p1 : Value} {w : World} {R : Value → World → Prop} (h : Vcf.balerref31_more Tryz.prog s_p0 i_p1 w R) : Cl Tryz.prog F.balerref31_more #[s_p0, i_p1] w R :=
  cl_of_vc (n := 21) (rs := [(.tmp 4)]) (h := (.s .z (.s .z .z))) (args := [s_p0, i_p1]) (by kernel_rfl) Tryz.func249 rfl (by kernel_rfl) rfl rfl rfl (Eq.mp (by kernel_rfl) h)

end Go.Proofs.YtkjelcjffbcenaaGreatDoor
