/- Formulas of the program's functions, printed by a program of the prover's own (dec.py); each is tied to its code by the kernel. -/
import Derived.Test.YtbhbdleffackaaaGreatDoorRf
import Derived.Test.YtbhbdleffackaaaGreatDoorChecked
set_option linter.unusedVariables false
set_option maxRecDepth 1000000
namespace Go.Proofs.YtbhbdleffackaaaGreatDoor
open Go Go.Vc

abbrev F.main_main : Nat := 0
abbrev F.gosem_cut : Nat := 1
abbrev F.gosem_cut_init : Nat := 2
abbrev F.balerlaw46_ProjectAgrees : Nat := 3
abbrev F.balerlaw46_bob : Nat := 4
abbrev F.project_Agree : Nat := 5
abbrev F.balerref46_Agree : Nat := 6
abbrev F.balerlaw46_ref : Nat := 7
abbrev F.project_Conns : Nat := 8
abbrev F.balerlaw46_little : Nat := 9
abbrev F.project_Without : Nat := 10
abbrev F.project_Apart : Nat := 11
abbrev F.project_See : Nat := 12
abbrev F.balerplain_Ints : Nat := 13
abbrev F.project_View_first : Nat := 14
abbrev F.slices_Equal_proto_Answer_proto_Answer : Nat := 15
abbrev F.balerref46_has : Nat := 16
abbrev F.balerref46_Find : Nat := 17
abbrev F.script_Check : Nat := 18
abbrev F.project_conns : Nat := 19
abbrev F.balerref33_Encode : Nat := 20
abbrev F.slices_Clone_string_string : Nat := 21
abbrev F.slices_Clone_api_Tenant_api_Tenant : Nat := 22
abbrev F.slices_Contains_int_int : Nat := 23
abbrev F.script_Play : Nat := 24
abbrev F.proto_Answers : Nat := 25
abbrev F.project_see : Nat := 26
abbrev F.slices_IndexFunc_project_End_project_End : Nat := 27
abbrev F.project_View_first_1 : Nat := 28
abbrev F.tenants_Config : Nat := 29
abbrev F.slices_ContainsFunc_string_string : Nat := 30
abbrev F.script_Check_1 : Nat := 31
abbrev F.script_event : Nat := 32
abbrev F.oracle_Tenant : Nat := 33
abbrev F.balerref33_Four : Nat := 34
abbrev F.slices_Index_int_int : Nat := 35
abbrev F.server_New : Nat := 36
abbrev F.script_player_play : Nat := 37
abbrev F.server_Server_At : Nat := 38
abbrev F.server_Server_Sent : Nat := 39
abbrev F.frame_All : Nat := 40
abbrev F.proto_Hear : Nat := 41
abbrev F.slices_SortStableFunc_project_End_project_End : Nat := 42
abbrev F.project_see_1 : Nat := 43
abbrev F.cmp_Compare_int : Nat := 44
abbrev F.tenants_Check : Nat := 45
abbrev F.tenants_between : Nat := 46
abbrev F.slices_IndexFunc_string_string : Nat := 47
abbrev F.oracle_acts : Nat := 48
abbrev F.jobs_New : Nat := 49
abbrev F.ledger_New : Nat := 50
abbrev F.server_each : Nat := 51
abbrev F.server_New_1 : Nat := 52
abbrev F.window_New : Nat := 53
abbrev F.server_New_2 : Nat := 54
abbrev F.drr_New : Nat := 55
abbrev F.server_New_3 : Nat := 56
abbrev F.server_Server_Deliver : Nat := 57
abbrev F.server_Server_Tick : Nat := 58
abbrev F.server_Server_Close : Nat := 59
abbrev F.window_Meter_At : Nat := 60
abbrev F.server_Server_known : Nat := 61
abbrev F.strings_Builder_String : Nat := 62
abbrev F.frame_Decode : Nat := 63
abbrev F.proto_whole : Nat := 64
abbrev F.slices_stableCmpFunc_project_End : Nat := 65
abbrev F.cmp_isNaN_int : Nat := 66
abbrev F.tenants_May : Nat := 67
abbrev F.tenants_again : Nat := 68
abbrev F.oracle_acts_1 : Nat := 69
abbrev F.conn_New : Nat := 70
abbrev F.parser_New : Nat := 71
abbrev F.parser_Parser_Feed : Nat := 72
abbrev F.parser_Parser_Next : Nat := 73
abbrev F.conn_Conn_Step : Nat := 74
abbrev F.slices_ContainsFunc_int_int : Nat := 75
abbrev F.ledger_New_1 : Nat := 76
abbrev F.ledger_may : Nat := 77
abbrev F.window_New_1 : Nat := 78
abbrev F.window_may : Nat := 79
abbrev F.slices_Clone_int_int : Nat := 80
abbrev F.drr_New_1 : Nat := 81
abbrev F.drr_many : Nat := 82
abbrev F.server_numbered : Nat := 83
abbrev F.server_Server_line : Nat := 84
abbrev F.server_Server_run : Nat := 85
abbrev F.drr_Scheduler_Next : Nat := 86
abbrev F.window_Meter_All : Nat := 87
abbrev F.jobs_Table_Get : Nat := 88
abbrev F.job_Job_Step : Nat := 89
abbrev F.window_Meter_Charge : Nat := 90
abbrev F.drr_Scheduler_Spent : Nat := 91
abbrev F.job_Job_Stopped : Nat := 92
abbrev F.server_Server_after : Nat := 93
abbrev F.window_Meter_Tick : Nat := 94
abbrev F.server_Server_end : Nat := 95
abbrev F.frame_may : Nat := 96
abbrev F.frame_number : Nat := 97
abbrev F.slices_insertionSortCmpFunc_project_End : Nat := 98
abbrev F.slices_symMergeCmpFunc_project_End : Nat := 99
abbrev F.token_Is : Nat := 100
abbrev F.parser_Parser_fail : Nat := 101
abbrev F.parser_Parser_tooLong : Nat := 102
abbrev F.conn_Conn_login : Nat := 103
abbrev F.proto_Read : Nat := 104
abbrev F.conn_refuse : Nat := 105
abbrev F.conn_Conn_act : Nat := 106
abbrev F.slices_IndexFunc_int_int : Nat := 107
abbrev F.queue_New : Nat := 108
abbrev F.server_line_refuse : Nat := 109
abbrev F.server_Server_do : Nat := 110
abbrev F.queue_Queue_Len : Nat := 111
abbrev F.queue_Queue_Front : Nat := 112
abbrev F.queue_Queue_Rotate : Nat := 113
abbrev F.window_Meter_Left : Nat := 114
abbrev F.jobs_Table_place : Nat := 115
abbrev F.jobs_Table_Get_1 : Nat := 116
abbrev F.window_Meter_is : Nat := 117
abbrev F.drr_Scheduler_first : Nat := 118
abbrev F.drr_Scheduler_of : Nat := 119
abbrev F.drr_Scheduler_out : Nat := 120
abbrev F.upload_Flow_Move : Nat := 121
abbrev F.upload_Flow_Rest : Nat := 122
abbrev F.results_Stream_Next : Nat := 123
abbrev F.server_line_send : Nat := 124
abbrev F.job_Job_Finished : Nat := 125
abbrev F.job_Job_Err : Nat := 126
abbrev F.server_Server_drop : Nat := 127
abbrev F.drr_Scheduler_Add : Nat := 128
abbrev F.window_Meter_Begins : Nat := 129
abbrev F.jobs_Table_Of : Nat := 130
abbrev F.frame_Client : Nat := 131
abbrev F.frame_Server : Nat := 132
abbrev F.slices_rotateCmpFunc_project_End : Nat := 133
abbrev F.token_First : Nat := 134
abbrev F.token_Len : Nat := 135
abbrev F.frame_Number : Nat := 136
abbrev F.tenants_Find : Nat := 137
abbrev F.proto_kind : Nat := 138
abbrev F.conn_Conn_open : Nat := 139
abbrev F.conn_Conn_over : Nat := 140
abbrev F.conn_Conn_use : Nat := 141
abbrev F.server_Server_status : Nat := 142
abbrev F.conn_Conn_Tenant : Nat := 143
abbrev F.server_Server_open : Nat := 144
abbrev F.server_Server_use : Nat := 145
abbrev F.queue_Queue_Pop : Nat := 146
abbrev F.slices_IndexFunc_jobs_live_jobs_live : Nat := 147
abbrev F.jobs_Table_all : Nat := 148
abbrev F.queue_Queue_Remove : Nat := 149
abbrev F.job_Job_Done : Nat := 150
abbrev F.job_Job_Feed : Nat := 151
abbrev F.job_Job_End : Nat := 152
abbrev F.results_Stream_next : Nat := 153
abbrev F.job_Job_Take : Nat := 154
abbrev F.proto_Write : Nat := 155
abbrev F.frame_Encode : Nat := 156
abbrev F.strings_Builder_WriteString : Nat := 157
abbrev F.job_Job_Waiting : Nat := 158
abbrev F.jobs_Table_Drop : Nat := 159
abbrev F.drr_Scheduler_Remove : Nat := 160
abbrev F.ledger_Ledger_Release : Nat := 161
abbrev F.drr_Scheduler_whose : Nat := 162
abbrev F.queue_Queue_Push : Nat := 163
abbrev F.jobs_Table_handles : Nat := 164
abbrev F.jobs_Table_Of_1 : Nat := 165
abbrev F.slices_swapRangeCmpFunc_project_End : Nat := 166
abbrev F.token_told : Nat := 167
abbrev F.token_may : Nat := 168
abbrev F.token_Same : Nat := 169
abbrev F.server_join : Nat := 170
abbrev F.jobs_Table_By : Nat := 171
abbrev F.ledger_Ledger_Used : Nat := 172
abbrev F.ledger_Ledger_Limit : Nat := 173
abbrev F.job_Need : Nat := 174
abbrev F.server_Server_admitted : Nat := 175
abbrev F.job_New : Nat := 176
abbrev F.upload_New : Nat := 177
abbrev F.results_New : Nat := 178
abbrev F.jobs_Table_Add : Nat := 179
abbrev F.jobs_Table_Find : Nat := 180
abbrev F.upload_Flow_Put : Nat := 181
abbrev F.upload_Flow_End : Nat := 182
abbrev F.results_Stream_Grant : Nat := 183
abbrev F.queue_without_int : Nat := 184
abbrev F.results_least : Nat := 185
abbrev F.job_Job_failed : Nat := 186
abbrev F.frame_put : Nat := 187
abbrev F.strings_Builder_copyCheck : Nat := 188
abbrev F.slices_DeleteFunc_jobs_live_jobs_live : Nat := 189
abbrev F.slices_Clone_jobs_live_jobs_live : Nat := 190
abbrev F.jobs_Table_Drop_1 : Nat := 191
abbrev F.ledger_Ledger_of : Nat := 192
abbrev F.slices_IndexFunc_drr_tenant_drr_tenant : Nat := 193
abbrev F.drr_Scheduler_whose_1 : Nat := 194
abbrev F.queue_Queue_Has : Nat := 195
abbrev F.unicode_utf8_DecodeRuneInString : Nat := 196
abbrev F.tester_Digits : Nat := 197
abbrev F.strings_Join : Nat := 198
abbrev F.jobs_Table_By_1 : Nat := 199
abbrev F.ledger_Ledger_read : Nat := 200
abbrev F.ledger_Ledger_Used_1 : Nat := 201
abbrev F.ledger_Ledger_Limit_1 : Nat := 202
abbrev F.press_Need : Nat := 203
abbrev F.unpress_Need : Nat := 204
abbrev F.tester_Need : Nat := 205
abbrev F.jobs_Table_Len : Nat := 206
abbrev F.ledger_Ledger_Reserve : Nat := 207
abbrev F.job_machineOf : Nat := 208
abbrev F.jobs_Table_Find_1 : Nat := 209
abbrev F.internal_abi_NoEscape : Nat := 210
abbrev F.unicode_utf8_decodeRuneInStringSlow : Nat := 211
abbrev F.strings_Builder_Grow : Nat := 212
abbrev F.split_Room : Nat := 213
abbrev F.press_windowed : Nat := 214
abbrev F.stream_Most : Nat := 215
abbrev F.unstream_New : Nat := 216
abbrev F.unpress_may : Nat := 217
abbrev F.press_New : Nat := 218
abbrev F.unpress_New : Nat := 219
abbrev F.tester_New : Nat := 220
abbrev F.strings_Builder_grow : Nat := 221
abbrev F.split_New : Nat := 222
abbrev F.stream_New : Nat := 223
abbrev F.stream_Writer_Take : Nat := 224
abbrev F.bits_NewReader : Nat := 225
abbrev F.internal_bytealg_MakeNoZero : Nat := 226
abbrev F.crc_New : Nat := 227
abbrev F.feed_NewPacker : Nat := 228
abbrev F.bits_NewWriter : Nat := 229
abbrev F.bits_Writer_Put : Nat := 230
abbrev F.bits_Writer_Take : Nat := 231
abbrev F.crc_Table : Nat := 232
abbrev F.bits_fits : Nat := 233
abbrev F.bits_Writer_bit : Nat := 234
abbrev F.runtime_boundsError_Error : Nat := 235
abbrev F.runtime_boundsError_RuntimeError : Nat := 236
abbrev F.runtime_errorString_Error : Nat := 237
abbrev F.runtime_errorString_RuntimeError : Nat := 238
abbrev F.runtime_plainError_Error : Nat := 239
abbrev F.runtime_plainError_RuntimeError : Nat := 240
abbrev F.runtime_errorAddressString_Error : Nat := 241
abbrev F.runtime_errorAddressString_RuntimeError : Nat := 242
abbrev F.runtime_TypeAssertionError_Error : Nat := 243
abbrev F.runtime_TypeAssertionError_RuntimeError : Nat := 244
abbrev F.runtime_PanicNilError_Error : Nat := 245
abbrev F.runtime_PanicNilError_RuntimeError : Nat := 246
abbrev F.internal_abi_Type_Align : Nat := 247
abbrev F.internal_runtime_maps_unhashableTypeError_Error : Nat := 248
abbrev F.internal_runtime_maps_unhashableTypeError_RuntimeError : Nat := 249
abbrev F.api_Errno_Error : Nat := 250
abbrev F.ledger_Ledger_Tenants : Nat := 251
abbrev F.parser_Parser_Held : Nat := 252
abbrev F.conn_Conn_Opened : Nat := 253
abbrev F.strings_Builder_Reset : Nat := 254
abbrev F.job_Job_Count : Nat := 255
abbrev F.upload_Flow_Ended : Nat := 256
abbrev F.results_Stream_Credit : Nat := 257
abbrev F.unstream_Reader_Held : Nat := 258
abbrev F.unstream_Reader_Step : Nat := 259
abbrev F.unstream_Reader_step : Nat := 260
abbrev F.unstream_Reader_letter : Nat := 261
abbrev F.unstream_Reader_magic : Nat := 262
abbrev F.unstream_Reader_body : Nat := 263
abbrev F.unstream_Reader_sum : Nat := 264
abbrev F.bits_Reader_Get : Nat := 265
abbrev F.bits_Reader_Left : Nat := 266
abbrev F.block_NewReader : Nat := 267
abbrev F.block_Reader_Step : Nat := 268
abbrev F.block_Reader_Done : Nat := 269
abbrev F.block_Reader_Got : Nat := 270
abbrev F.crc_Combine : Nat := 271
abbrev F.bits_Reader_Align : Nat := 272
abbrev F.bits_Reader_bit : Nat := 273
abbrev F.bits_Reader_end : Nat := 274
abbrev F.block_Reader_step : Nat := 275
abbrev F.block_Reader_begin : Nat := 276
abbrev F.block_Reader_symbols : Nat := 277
abbrev F.block_row_waits : Nat := 278
abbrev F.block_row_next : Nat := 279
abbrev F.block_Reader_symbol : Nat := 280
abbrev F.block_Reader_end : Nat := 281
abbrev F.used_Read : Nat := 282
abbrev F.block_rowOf : Nat := 283
abbrev F.mtf_List_At : Nat := 284
abbrev F.code_Reader_Step : Nat := 285
abbrev F.block_row_told : Nat := 286
abbrev F.code_Reader_Done : Nat := 287
abbrev F.bits_Reader_At : Nat := 288
abbrev F.used_read : Nat := 289
abbrev F.bits_Reader_Seek : Nat := 290
abbrev F.code_NewReader : Nat := 291
abbrev F.zeros_NewReader : Nat := 292
abbrev F.mtf_New : Nat := 293
abbrev F.mtf_List_touch : Nat := 294
abbrev F.code_Reader_symbol : Nat := 295
abbrev F.picks_Reader_Done : Nat := 296
abbrev F.code_Reader_pick : Nat := 297
abbrev F.picks_Reader_Tables : Nat := 298
abbrev F.code_Reader_table : Nat := 299
abbrev F.zeros_Reader_Put : Nat := 300
abbrev F.used_marks : Nat := 301
abbrev F.used_listed : Nat := 302
abbrev F.delta_NewReader : Nat := 303
abbrev F.picks_NewReader : Nat := 304
abbrev F.zeros_may : Nat := 305
abbrev F.used_Is : Nat := 306
abbrev F.canon_Code_Get : Nat := 307
abbrev F.picks_Reader_Step : Nat := 308
abbrev F.picks_Reader_Picks : Nat := 309
abbrev F.delta_Reader_Step : Nat := 310
abbrev F.delta_Reader_Done : Nat := 311
abbrev F.canon_New : Nat := 312
abbrev F.delta_Reader_Lens : Nat := 313
abbrev F.zeros_Reader_more : Nat := 314
abbrev F.zeros_Reader_Count : Nat := 315
abbrev F.delta_sized : Nat := 316
abbrev F.picks_fresh : Nat := 317
abbrev F.canon_Code_get : Nat := 318
abbrev F.picks_Reader_pick : Nat := 319
abbrev F.picks_Reader_head : Nat := 320
abbrev F.delta_Reader_step : Nat := 321
abbrev F.canon_whole : Nat := 322
abbrev F.picks_order_touch : Nat := 323
abbrev F.picks_Reader_fail : Nat := 324
abbrev F.picks_tabled : Nat := 325
abbrev F.delta_Reader_turned : Nat := 326
abbrev F.lens_Share : Nat := 327
abbrev F.delta_length : Nat := 328
abbrev F.lens_between : Nat := 329
abbrev F.lens_between_1 : Nat := 330
abbrev F.press_Press_Done : Nat := 331
abbrev F.press_Press_End : Nat := 332
abbrev F.press_Press_Feed : Nat := 333
abbrev F.press_Press_Held : Nat := 334
abbrev F.press_Press_Step : Nat := 335
abbrev F.press_Press_Steps : Nat := 336
abbrev F.press_Press_Stopped : Nat := 337
abbrev F.press_Press_Take : Nat := 338
abbrev F.press_Press_Waiting : Nat := 339
abbrev F.press_Press_flush : Nat := 340
abbrev F.press_Press_work : Nat := 341
abbrev F.press_Press_writes : Nat := 342
abbrev F.press_Press_whole : Nat := 343
abbrev F.split_Splitter_End : Nat := 344
abbrev F.bwt_New : Nat := 345
abbrev F.bwt_Turner_Done : Nat := 346
abbrev F.bwt_Turner_Step : Nat := 347
abbrev F.press_Press_pay : Nat := 348
abbrev F.press_Press_take : Nat := 349
abbrev F.stream_Writer_End : Nat := 350
abbrev F.feed_Packer_Row : Nat := 351
abbrev F.feed_Packer_End : Nat := 352
abbrev F.split_Splitter_piece : Nat := 353
abbrev F.split_begun_close : Nat := 354
abbrev F.sorter_New : Nat := 355
abbrev F.sorter_Sorter_Step : Nat := 356
abbrev F.sorter_Sorter_Done : Nat := 357
abbrev F.sorter_Sorter_Order : Nat := 358
abbrev F.bwt_Turner_take : Nat := 359
abbrev F.bwt_Turner_Result : Nat := 360
abbrev F.stream_Writer_Turned : Nat := 361
abbrev F.split_Splitter_Put : Nat := 362
abbrev F.stream_Writer_magic : Nat := 363
abbrev F.bits_Writer_Pad : Nat := 364
abbrev F.feed_Packer_close : Nat := 365
abbrev F.split_begun_take : Nat := 366
abbrev F.crc_Sum_Value : Nat := 367
abbrev F.crc_Sum_Reset : Nat := 368
abbrev F.sorter_Sorter_step : Nat := 369
abbrev F.bwt_ahead : Nat := 370
abbrev F.block_Turned : Nat := 371
abbrev F.feed_Packer_Put : Nat := 372
abbrev F.rle_Piece : Nat := 373
abbrev F.crc_Sum_Put : Nat := 374
abbrev F.sorter_Sorter_join : Nat := 375
abbrev F.sorter_Sorter_lay : Nat := 376
abbrev F.sorter_Sorter_put : Nat := 377
abbrev F.sorter_Sorter_begin : Nat := 378
abbrev F.sorter_Sorter_rank : Nat := 379
abbrev F.used_Symbols : Nat := 380
abbrev F.mtf_Encode : Nat := 381
abbrev F.zeros_Encode : Nat := 382
abbrev F.code_Bits : Nat := 383
abbrev F.used_Write : Nat := 384
abbrev F.code_Write : Nat := 385
abbrev F.rle_text : Nat := 386
abbrev F.crc_step : Nat := 387
abbrev F.sorter_Sorter_above : Nat := 388
abbrev F.sorter_Sorter_pass : Nat := 389
abbrev F.mtf_List_Find : Nat := 390
abbrev F.zeros_row : Nat := 391
abbrev F.code_chosen : Nat := 392
abbrev F.picks_Bits : Nat := 393
abbrev F.delta_Bits : Nat := 394
abbrev F.tables_Cost : Nat := 395
abbrev F.used_rows : Nat := 396
abbrev F.picks_Write : Nat := 397
abbrev F.delta_Write : Nat := 398
abbrev F.canon_Code_Put : Nat := 399
abbrev F.strings_Repeat : Nat := 400
abbrev F.sorter_Sorter_key : Nat := 401
abbrev F.bytes_IndexByte : Nat := 402
abbrev F.tables_Of : Nat := 403
abbrev F.picks_may : Nat := 404
abbrev F.picks_places : Nat := 405
abbrev F.delta_may : Nat := 406
abbrev F.delta_steps : Nat := 407
abbrev F.delta_Bits_1 : Nat := 408
abbrev F.freq_Groups : Nat := 409
abbrev F.freq_Group : Nat := 410
abbrev F.freq_Cost : Nat := 411
abbrev F.delta_Write_1 : Nat := 412
abbrev F.canon_Code_Of : Nat := 413
abbrev F.math_bits_Mul : Nat := 414
abbrev F.strings_HasPrefix : Nat := 415
abbrev F.strings_Builder_Len : Nat := 416
abbrev F.internal_bytealg_IndexByte : Nat := 417
abbrev F.freq_Counts : Nat := 418
abbrev F.tables_groupsOf : Nat := 419
abbrev F.tables_first : Nat := 420
abbrev F.tables_round : Nat := 421
abbrev F.picks_may_1 : Nat := 422
abbrev F.picks_order_find : Nat := 423
abbrev F.delta_may_1 : Nat := 424
abbrev F.freq_part_int : Nat := 425
abbrev F.freq_all : Nat := 426
abbrev F.freq_together : Nat := 427
abbrev F.math_bits_Mul32 : Nat := 428
abbrev F.math_bits_Mul64 : Nat := 429
abbrev F.internal_stringslite_HasPrefix : Nat := 430
abbrev F.tables_Number : Nat := 431
abbrev F.tables_pick : Nat := 432
abbrev F.freq_Add : Nat := 433
abbrev F.lens_Of : Nat := 434
abbrev F.freq_all_1 : Nat := 435
abbrev F.freq_may : Nat := 436
abbrev F.lens_depths : Nat := 437
abbrev F.lens_Longest : Nat := 438
abbrev F.lens_Halved : Nat := 439
abbrev F.lens_treesOf : Nat := 440
abbrev F.lens_trees_least : Nat := 441
abbrev F.lens_trees_join : Nat := 442
abbrev F.slices_SortStableFunc_int_int : Nat := 443
abbrev F.lens_treesOf_1 : Nat := 444
abbrev F.slices_stableCmpFunc_int : Nat := 445
abbrev F.slices_insertionSortCmpFunc_int : Nat := 446
abbrev F.slices_symMergeCmpFunc_int : Nat := 447
abbrev F.slices_rotateCmpFunc_int : Nat := 448
abbrev F.slices_swapRangeCmpFunc_int : Nat := 449
abbrev F.unpress_Expander_Done : Nat := 450
abbrev F.unpress_Expander_End : Nat := 451
abbrev F.unpress_Expander_Err : Nat := 452
abbrev F.unpress_Expander_Feed : Nat := 453
abbrev F.unpress_Expander_Held : Nat := 454
abbrev F.unpress_Expander_Step : Nat := 455
abbrev F.unpress_Expander_Steps : Nat := 456
abbrev F.unpress_Expander_Stopped : Nat := 457
abbrev F.unpress_Expander_Take : Nat := 458
abbrev F.unpress_Expander_Waiting : Nat := 459
abbrev F.unpress_Expander_open : Nat := 460
abbrev F.bits_Reader_Held : Nat := 461
abbrev F.bits_Reader_More : Nat := 462
abbrev F.unpress_Expander_read : Nat := 463
abbrev F.unpress_opening_step : Nat := 464
abbrev F.unpress_Expander_fail : Nat := 465
abbrev F.unbwt_Inverter_Done : Nat := 466
abbrev F.unstream_Reader_MayEnd : Nat := 467
abbrev F.bits_Reader_Drop : Nat := 468
abbrev F.unpress_openingOf : Nat := 469
abbrev F.unstream_Reader_Got : Nat := 470
abbrev F.unbwt_Inverter_Step : Nat := 471
abbrev F.unbwt_Inverter_Take : Nat := 472
abbrev F.feed_Unpacker_Put : Nat := 473
abbrev F.crc_Sum_Text : Nat := 474
abbrev F.unpress_opening_end : Nat := 475
abbrev F.unbwt_New : Nat := 476
abbrev F.feed_NewUnpacker : Nat := 477
abbrev F.unbwt_Inverter_step : Nat := 478
abbrev F.feed_Unpacker_Wants : Nat := 479
abbrev F.feed_Unpacker_End : Nat := 480
abbrev F.unbwt_Inverter_begins : Nat := 481
abbrev F.tester_Tester_Done : Nat := 482
abbrev F.tester_Tester_End : Nat := 483
abbrev F.tester_Tester_Err : Nat := 484
abbrev F.tester_Tester_Feed : Nat := 485
abbrev F.tester_Tester_Held : Nat := 486
abbrev F.tester_Tester_Step : Nat := 487
abbrev F.tester_Tester_Steps : Nat := 488
abbrev F.tester_Tester_Stopped : Nat := 489
abbrev F.tester_Tester_Take : Nat := 490
abbrev F.tester_Tester_Waiting : Nat := 491
abbrev F.tester_Tester_tell : Nat := 492
abbrev F.tester_counted_forget : Nat := 493
abbrev F.block_Reader_Held : Nat := 494
abbrev F.split_Splitter_Held : Nat := 495
abbrev F.stream_Writer_Held : Nat := 496
abbrev F.bwt_Turner_Held : Nat := 497
abbrev F.bwt_Turner_Steps : Nat := 498
abbrev F.bits_Writer_Held : Nat := 499
abbrev F.internal_abi_Kind_String : Nat := 500
abbrev F.code_Reader_Count : Nat := 501
abbrev F.code_Reader_Held : Nat := 502
abbrev F.zeros_Reader_Done : Nat := 503
abbrev F.mtf_List_Len : Nat := 504
abbrev F.canon_Code_Size : Nat := 505
abbrev F.sorter_Sorter_Held : Nat := 506
abbrev F.sorter_Sorter_Steps : Nat := 507
abbrev F.unbwt_Inverter_Held : Nat := 508
abbrev F.unbwt_Inverter_Steps : Nat := 509
abbrev F.unbwt_Inverter_Waiting : Nat := 510
abbrev F.job_Job_Held : Nat := 511
abbrev F.job_Job_Steps : Nat := 512
abbrev F.var_s_door_tables_bounds_is_laid_by_its_own_initialiser_plain_data_look_11 : Nat := 513
abbrev F.var_s_door_gosem_cut_vars_holds_initialisers_alone_see_the_manifest_s_row_cutvarsword_look_11_test_files_too : Nat := 514
abbrev F.var_s_door_the_look_of_gosem_cut_vars_went_over_the_folder_that_the_caller_named_as_the_repository_s_root_look_11 : Nat := 515
abbrev F.var_s_door_unicode_utf8_acceptRanges_is_laid_by_its_own_initialiser_plain_data_look_11 : Nat := 516
abbrev F.var_s_door_unicode_utf8_first_is_laid_by_its_text_alone_pinned_1 : Nat := 517
abbrev F.gosem_cut_vars : Nat := 518

/-- baler/balerlaw46.ProjectAgrees -/
def Vcf.balerlaw46_ProjectAgrees (P : Program) (a_p0 b_p1 more_p2 : Value) (w : World) (R : Value → World → Prop) : Prop   :=
 New a_p0 25 w fun a_1 w1 =>
 New b_p1 25 w1 fun b_2 w2 =>
 New more_p2 28 w2 fun more_3 w3 =>
 VJoin 1 (fun _ x_4 w4 =>
 Vif x_4 (
 Cl P F.balerlaw46_bob #[] w4 fun x_5 w5 =>
 R x_5 w5) (
 Fo 0 a_1 fun x_6 =>
 Ld x_6 w4 fun x_7 =>
 Bd P 25 #[(0, x_7)] w4 fun x_8 =>
 New (zeroP P 25) 25 w4 fun c_9 w6 =>
 StA 2 c_9 x_8 w6 fun w7 =>
 Fo 1 c_9 fun x_10 =>
 Ld x_10 w7 fun x_11 =>
 Fo 1 a_1 fun x_12 =>
 Ld x_12 w7 fun x_13 =>
 Ap P #[23, 23] 23 #[x_11, x_13] w7 fun x_14 w8 =>
 Fo 1 c_9 fun x_15 =>
 St x_15 x_14 w8 fun w9 =>
 Fo 1 c_9 fun x_16 =>
 Ld x_16 w9 fun x_17 =>
 LdA 4 more_3 w9 fun x_18 =>
 Bs P 23 1 #[(0, x_18)] w9 fun x_19 w10 =>
 Ap P #[23, 23] 23 #[x_17, x_19] w10 fun x_20 w11 =>
 Fo 1 c_9 fun x_21 =>
 St x_21 x_20 w11 fun w12 =>
 Dr w12 fun w13 =>
 LdA 2 a_1 w13 fun x_22 =>
 LdA 2 b_2 w13 fun x_24 =>
 Cl P F.project_Agree #[x_22, x_24] w13 fun x_26 w14 =>
 LdA 2 a_1 w14 fun x_27 =>
 Rk (fun w K => LdA 2 a_1 w fun x_28 => K x_28) x_27 w13 <|
 Cl P F.balerlaw46_ref #[x_27] w14 fun x_30 w15 =>
 LdA 2 b_2 w15 fun x_31 =>
 Rk (fun w K => LdA 2 b_2 w fun x_32 => K x_32) x_31 w14 <|
 Rk (fun w K => LdA 2 b_2 w fun x_33 => K x_33) x_31 w13 <|
 Cl P F.balerlaw46_ref #[x_31] w15 fun x_35 w16 =>
 Cl P F.balerref46_Agree #[x_30, x_35] w16 fun x_36 w17 =>
 Bb false x_26 x_36 fun x_37 =>
 Vif x_37 (
 LdA 2 a_1 w17 fun x_38 =>
 LdA 2 a_1 w17 fun x_40 =>
 Cl P F.project_Agree #[x_38, x_40] w17 fun x_42 w18 =>
 Vif x_42 (
 LdA 2 a_1 w18 fun x_43 =>
 LdA 2 c_9 w18 fun x_45 =>
 Cl P F.project_Agree #[x_43, x_45] w18 fun x_47 w19 =>
 Vif x_47 (
 LdA 2 c_9 w19 fun x_48 =>
 LdA 2 a_1 w19 fun x_50 =>
 Cl P F.project_Agree #[x_48, x_50] w19 fun x_52 w20 =>
 Vif x_52 (
 Cl P F.balerlaw46_bob #[] w20 fun x_53 w21 =>
 R x_53 w21) (
 R (.bool false) w20)) (
 R (.bool false) w19)) (
 R (.bool false) w18)) (
 R (.bool false) w17)))
 (fun J54 =>
 Fo 0 a_1 fun x_55 =>
 Ld x_55 w3 fun x_56 =>
 Lnl x_56 fun x_57 =>
 Bp .gtr x_57 (.int .i64 20) fun x_58 =>
 Vif x_58 (
 KE [a_1, b_2, more_3] [a_1, b_2, more_3] <| J54 (.bool true) w3) (
 Fo 0 b_2 fun x_59 =>
 Ld x_59 w3 fun x_60 =>
 Lnl x_60 fun x_61 =>
 Bp .gtr x_61 (.int .i64 20) fun x_62 =>
 Vif x_62 (
 KE [a_1, b_2, more_3] [a_1, b_2, more_3] <| J54 (.bool true) w3) (
 Fo 1 a_1 fun x_63 =>
 Ld x_63 w3 fun x_64 =>
 Lnl x_64 fun x_65 =>
 Bp .gtr x_65 (.int .i64 20) fun x_66 =>
 Vif x_66 (
 KE [a_1, b_2, more_3] [a_1, b_2, more_3] <| J54 (.bool true) w3) (
 Fo 1 b_2 fun x_67 =>
 Ld x_67 w3 fun x_68 =>
 Lnl x_68 fun x_69 =>
 Bp .gtr x_69 (.int .i64 20) fun x_70 =>
 KE [a_1, b_2, more_3] [a_1, b_2, more_3] <| J54 x_70 w3))))
theorem Tie.balerlaw46_ProjectAgrees {a_p0 b_p1 more_p2 : Value} {w : World} {R : Value → World → Prop} (h : Vcf.balerlaw46_ProjectAgrees Tryz.prog a_p0 b_p1 more_p2 w R) : Cl Tryz.prog F.balerlaw46_ProjectAgrees #[a_p0, b_p1, more_p2] w R :=
  cl_of_vc (n := 73) (rs := [(.tmp 6)]) (h := (.s .z (.s (.j [29] [3, 4, 5] .z (.i (.s .z .z) .z)) (.s .z (.s .z (.s .z (.s (.r (.staged [0, 0, 3, 0, 15, 0, 63, 127, 255, 511, 1023, 1023, 4095, 8191, 16383, 32767, 32767, 131071, 262143, 524287, 1048575, 1048575, 4194303, 8388607, 16777215, 33554431, 67108863, 134217727])) .z))))))) (args := [a_p0, b_p1, more_p2]) (by kernel_rfl) Tryz.func3 rfl (by kernel_rfl) rfl rfl rfl (Eq.mp (by kernel_rfl) h)

/-- baler/project.Agree -/
def Vcf.project_Agree (P : Program) (a_p0 b_p1 : Value) (w : World) (R : Value → World → Prop) : Prop   :=
 New a_p0 25 w fun a_1 w1 =>
 New b_p1 25 w1 fun b_2 w2 =>
 Fo 0 a_1 fun x_3 =>
 Ld x_3 w2 fun x_4 =>
 Lnl x_4 fun x_5 =>
 VLoop 1 [(.int .i64 0)] w2 fun _ next7 x_6 w3 =>
 Bp .lss x_6 x_5 fun x_8 =>
 Vif x_8 (
 Ias 4 x_4 x_6 fun x_9 =>
 LdA 4 x_9 w3 fun x_10 =>
 New (zeroP P 56) 56 w3 fun x_11 w4 =>
 StA 4 x_11 x_10 w4 fun w5 =>
 LdA 2 a_1 w5 fun x_12 =>
 Fo 0 x_11 fun x_13 =>
 Ld x_13 w5 fun x_14 =>
 Cl P F.project_View_first #[x_12, x_14] w5 fun x_15 w6 =>
 Ex x_15 0 fun x_16 =>
 Ex x_15 1 fun x_17 =>
 New (zeroP P 56) 56 w6 fun p_18 w7 =>
 StA 4 p_18 x_16 w7 fun w8 =>
 LdA 2 b_2 w8 fun x_19 =>
 Fo 0 x_11 fun x_20 =>
 Ld x_20 w8 fun x_21 =>
 Cl P F.project_View_first #[x_19, x_21] w8 fun x_22 w9 =>
 Ex x_22 0 fun x_23 =>
 Ex x_22 1 fun x_24 =>
 New (zeroP P 56) 56 w9 fun q_25 w10 =>
 StA 4 q_25 x_23 w10 fun w11 =>
 VJoin 1 (fun _ x_26 w12 =>
 Vif x_26 (
 R (.bool false) w12) (
 Bp .add x_6 (.int .i64 1) fun x_27 =>
 KE [a_1, b_2, x_4, x_5] [a_1, b_2, x_4, x_5] <| next7 x_27 w12))
 (fun J28 =>
 Vif x_24 (
 LdA 4 p_18 w11 fun x_29 =>
 LdA 4 q_25 w11 fun x_30 =>
 Be P .neq 56 (.tmp 35) (.tmp 36) x_29 x_30 w11 fun x_31 =>
 KE [a_1, b_2, x_4, x_5, x_6] [a_1, b_2, x_4, x_5, x_6] <| J28 x_31 w11) (
 KE [a_1, b_2, x_4, x_5, x_6] [a_1, b_2, x_4, x_5, x_6] <| J28 (.bool false) w11))) (
 Fo 1 a_1 fun x_32 =>
 Ld x_32 w3 fun x_33 =>
 Lnl x_33 fun x_34 =>
 Fo 1 b_2 fun x_35 =>
 Ld x_35 w3 fun x_36 =>
 Lnl x_36 fun x_37 =>
 Bmin P #[3, 3] 3 #[x_34, x_37] w3 fun x_38 =>
 Dr w3 fun w13 =>
 Fo 1 a_1 fun x_39 =>
 Ld x_39 w13 fun x_40 =>
 Ssl 4 x_40 none (some x_38) fun x_42 =>
 Fo 1 b_2 fun x_44 =>
 Ld x_44 w13 fun x_45 =>
 Ssl 4 x_45 none (some x_38) fun x_47 =>
 Cl P F.slices_Equal_proto_Answer_proto_Answer #[x_42, x_47] w13 fun x_49 w14 =>
 R x_49 w14)
theorem Tie.project_Agree {a_p0 b_p1 : Value} {w : World} {R : Value → World → Prop} (h : Vcf.project_Agree Tryz.prog a_p0 b_p1 w R) : Cl Tryz.prog F.project_Agree #[a_p0, b_p1] w R :=
  cl_of_vc (n := 56) (rs := [(.tmp 4)]) (h := (.s .z (.s (.s .z (.b (.l [15] [2, 3, 13, 14] (.s .z (.s (.i .z .z) (.s (.b (.s .z (.s .z (.s .z (.j [38] [2, 3, 13, 14, 15] .z (.i (.s .z .z) .z)))))) .z)))))) (.s .z (.s (.r (.staged [0, 1, 0, 7, 0, 16, 0, 112, 255, 511])) .z))))) (args := [a_p0, b_p1]) (by kernel_rfl) Tryz.func5 rfl (by kernel_rfl) rfl rfl rfl (Eq.mp (by kernel_rfl) h)

/-- baler/balerref46.Agree -/
def Vcf.balerref46_Agree (P : Program) (a_p0 b_p1 : Value) (w : World) (R : Value → World → Prop) : Prop   :=
 New a_p0 35 w fun a_1 w1 =>
 New b_p1 35 w1 fun b_2 w2 =>
 Fo 0 a_1 fun x_3 =>
 Ld x_3 w2 fun x_4 =>
 Lnl x_4 fun x_5 =>
 VLoop 1 [(.int .i64 0)] w2 fun _ next7 x_6 w3 =>
 Bp .lss x_6 x_5 fun x_8 =>
 Vif x_8 (
 Ias 4 x_4 x_6 fun x_9 =>
 LdA 4 x_9 w3 fun x_10 =>
 New (zeroP P 61) 61 w3 fun x_11 w4 =>
 StA 4 x_11 x_10 w4 fun w5 =>
 VJoin 1 (fun _ x_12 w6 =>
 Vif x_12 (
 R (.bool false) w6) (
 Bp .add x_6 (.int .i64 1) fun x_13 =>
 KE [a_1, b_2, x_4, x_5] [a_1, b_2, x_4, x_5] <| next7 x_13 w6))
 (fun J14 =>
 Dr w5 fun w7 =>
 Fo 0 b_2 fun x_15 =>
 Ld x_15 w7 fun x_16 =>
 Fo 0 x_11 fun x_18 =>
 Ld x_18 w7 fun x_19 =>
 Cl P F.balerref46_has #[x_16, x_19] w7 fun x_21 w8 =>
 Vif x_21 (
 Fo 0 b_2 fun x_22 =>
 Ld x_22 w8 fun x_23 =>
 Fo 0 x_11 fun x_25 =>
 Ld x_25 w8 fun x_26 =>
 Cl P F.balerref46_Find #[x_23, x_26] w8 fun x_28 w9 =>
 Fo 0 a_1 fun x_29 =>
 Ld x_29 w9 fun x_30 =>
 Rk (fun w K => Ld x_29 w fun x_31 => K x_31) x_30 w8 <|
 Fo 0 x_11 fun x_33 =>
 Ld x_33 w9 fun x_34 =>
 Rk (fun w K => Ld x_33 w fun x_35 => K x_35) x_34 w8 <|
 Cl P F.balerref46_Find #[x_30, x_34] w9 fun x_37 w10 =>
 Be P .neq 61 (.tmp 26) (.tmp 31) x_28 x_37 w10 fun x_38 =>
 KE [a_1, b_2, x_4, x_5, x_6] [a_1, b_2, x_4, x_5, x_6] <| J14 x_38 w10) (
 KE [a_1, b_2, x_4, x_5, x_6] [a_1, b_2, x_4, x_5, x_6] <| J14 (.bool false) w8))) (
 Fo 1 a_1 fun x_40 =>
 Ld x_40 w3 fun x_41 =>
 Lnl x_41 fun x_42 =>
 VLoop 1 [(.int .i64 0)] w3 fun _ next44 x_43 w11 =>
 Bp .lss x_43 x_42 fun x_45 =>
 Vif x_45 (
 Ias 4 x_41 x_43 fun x_46 =>
 LdA 4 x_46 w11 fun x_47 =>
 New (zeroP P 64) 64 w11 fun x_48 w12 =>
 StA 4 x_48 x_47 w12 fun w13 =>
 VJoin 1 (fun _ x_49 w14 =>
 Vif x_49 (
 R (.bool false) w14) (
 Bp .add x_43 (.int .i64 1) fun x_50 =>
 KE [b_2, x_41, x_42] [b_2, x_41, x_42] <| next44 x_50 w14))
 (fun J51 =>
 Dr w13 fun w15 =>
 Fo 1 b_2 fun x_52 =>
 Ld x_52 w15 fun x_53 =>
 Lnl x_53 fun x_55 =>
 Bp .lss x_43 x_55 fun x_57 =>
 Vif x_57 (
 LdA 4 x_48 w15 fun x_58 =>
 Fo 1 b_2 fun x_60 =>
 Ld x_60 w15 fun x_61 =>
 Ias 4 x_61 x_43 fun x_63 =>
 LdA 4 x_63 w15 fun x_64 =>
 Be P .neq 64 (.tmp 49) (.tmp 54) x_58 x_64 w15 fun x_66 =>
 KE [b_2, x_41, x_42, x_43] [b_2, x_41, x_42, x_43] <| J51 x_66 w15) (
 KE [b_2, x_41, x_42, x_43] [b_2, x_41, x_42, x_43] <| J51 (.bool false) w15))) (
 R (.bool true) w11))
theorem Tie.balerref46_Agree {a_p0 b_p1 : Value} {w : World} {R : Value → World → Prop} (h : Vcf.balerref46_Agree Tryz.prog a_p0 b_p1 w R) : Cl Tryz.prog F.balerref46_Agree #[a_p0, b_p1] w R :=
  cl_of_vc (n := 58) (rs := [(.tmp 4)]) (h := (.s .z (.s (.s .z (.b (.l [12] [2, 3, 10, 11] (.s .z (.s (.i .z .z) (.s (.b (.s .z (.j [33] [2, 3, 10, 11, 12] (.r (.staged [0, 1, 0, 4, 15, 31, 63, 127, 63, 319, 1023, 63, 2111, 63, 8255, 32767, 65535, 131071])) (.i (.s .z .z) .z)))) .z)))))) (.s (.s .z (.b (.l [38] [3, 36, 37] (.s .z (.s (.i .z .z) (.s (.b (.s .z (.j [56] [3, 36, 37, 38] (.r (.staged [0, 0, 2, 6, 15, 31, 63, 63, 191, 63, 959, 1983, 4095, 8191])) (.i (.s .z .z) .z)))) .z)))))) (.s .z .z))))) (args := [a_p0, b_p1]) (by kernel_rfl) Tryz.func6 rfl (by kernel_rfl) rfl rfl rfl (Eq.mp (by kernel_rfl) h)

/-- baler/balerlaw46.ref -/
def Vcf.balerlaw46_ref (P : Program) (v_p0 : Value) (w : World) (R : Value → World → Prop) : Prop   :=
 New v_p0 25 w fun v_1 w1 =>
 New (zeroP P 35) 35 w1 fun x_2 w2 =>
 Bd P 35 #[] w2 fun x_3 =>
 New (zeroP P 35) 35 w2 fun out_4 w3 =>
 StA 2 out_4 x_3 w3 fun w4 =>
 Fo 0 v_1 fun x_5 =>
 Ld x_5 w4 fun x_6 =>
 Lnl x_6 fun x_7 =>
 VLoop 1 [(.int .i64 0)] w4 fun _ next9 x_8 w5 =>
 Bp .lss x_8 x_7 fun x_10 =>
 Vif x_10 (
 Ias 4 x_6 x_8 fun x_11 =>
 LdA 4 x_11 w5 fun x_12 =>
 New (zeroP P 56) 56 w5 fun x_13 w6 =>
 StA 4 x_13 x_12 w6 fun w7 =>
 Fo 0 out_4 fun x_14 =>
 Ld x_14 w7 fun x_15 =>
 Fo 0 x_13 fun x_16 =>
 Ld x_16 w7 fun x_17 =>
 Fo 1 x_13 fun x_18 =>
 Ld x_18 w7 fun x_19 =>
 Fo 2 x_13 fun x_20 =>
 Ld x_20 w7 fun x_21 =>
 Fo 3 x_13 fun x_22 =>
 Ld x_22 w7 fun x_23 =>
 Bd P 61 #[(0, x_17), (1, x_19), (2, x_21), (3, x_23)] w7 fun x_24 =>
 Bs P 32 1 #[(0, x_24)] w7 fun x_25 w8 =>
 Ap P #[32, 32] 32 #[x_15, x_25] w8 fun x_26 w9 =>
 Fo 0 out_4 fun x_27 =>
 St x_27 x_26 w9 fun w10 =>
 Bp .add x_8 (.int .i64 1) fun x_28 =>
 KE [v_1, x_2, out_4, x_6, x_7] [v_1, x_2, out_4, x_6, x_7] <| next9 x_28 w10) (
 Fo 1 v_1 fun x_29 =>
 Ld x_29 w5 fun x_30 =>
 Lnl x_30 fun x_31 =>
 VLoop 1 [(.int .i64 0)] w5 fun _ next33 x_32 w11 =>
 Bp .lss x_32 x_31 fun x_34 =>
 Vif x_34 (
 Ias 4 x_30 x_32 fun x_35 =>
 LdA 4 x_35 w11 fun x_36 =>
 New (zeroP P 28) 28 w11 fun a_37 w12 =>
 StA 4 a_37 x_36 w12 fun w13 =>
 Fo 1 out_4 fun x_38 =>
 Ld x_38 w13 fun x_39 =>
 Fo 0 a_37 fun x_40 =>
 Ld x_40 w13 fun x_41 =>
 Fo 1 a_37 fun x_42 =>
 Ld x_42 w13 fun x_43 =>
 Fo 2 a_37 fun x_44 =>
 Ld x_44 w13 fun x_45 =>
 Fo 3 a_37 fun x_46 =>
 Ld x_46 w13 fun x_47 =>
 Bd P 64 #[(0, x_41), (1, x_43), (2, x_45), (3, x_47)] w13 fun x_48 =>
 Bs P 33 1 #[(0, x_48)] w13 fun x_49 w14 =>
 Ap P #[33, 33] 33 #[x_39, x_49] w14 fun x_50 w15 =>
 Fo 1 out_4 fun x_51 =>
 St x_51 x_50 w15 fun w16 =>
 Bp .add x_32 (.int .i64 1) fun x_52 =>
 KE [x_2, out_4, x_30, x_31] [x_2, out_4, x_30, x_31] <| next33 x_52 w16) (
 LdA 2 out_4 w11 fun x_53 =>
 StA 2 x_2 x_53 w11 fun w17 =>
 LdA 2 x_2 w17 fun x_54 =>
 R x_54 w17))
theorem Tie.balerlaw46_ref {v_p0 : Value} {w : World} {R : Value → World → Prop} (h : Vcf.balerlaw46_ref Tryz.prog v_p0 w R) : Cl Tryz.prog F.balerlaw46_ref #[v_p0] w R :=
  cl_of_vc (n := 54) (rs := [(.cell 2 35)]) (h := (.s .z (.s .z (.s (.s .z (.b (.l [12] [1, 2, 3, 10, 11] (.s .z (.s (.i .z .z) (.s (.b (.s .z .z)) .z)))))) (.s (.s .z (.b (.l [34] [2, 3, 32, 33] (.s .z (.s (.i .z .z) (.s (.b (.s .z .z)) .z)))))) (.s .z .z)))))) (args := [v_p0]) (by kernel_rfl) Tryz.func7 rfl (by kernel_rfl) rfl rfl rfl (Eq.mp (by kernel_rfl) h)

/-- (baler/project.View).first -/
def Vcf.project_View_first (P : Program) (v_p0 id_p1 : Value) (w : World) (R : Value → World → Prop) : Prop   :=
 New v_p0 25 w fun v_1 w1 =>
 New id_p1 3 w1 fun id_2 w2 =>
 New (zeroP P 56) 56 w2 fun x_3 w3 =>
 Fo 0 v_1 fun x_4 =>
 Ld x_4 w3 fun x_5 =>
 Mf P (.func 28) #[] #[id_2] w3 fun x_6 =>
 Cl P F.slices_IndexFunc_project_End_project_End #[x_5, x_6] w3 fun x_7 w4 =>
 Bp .lss x_7 (.int .i64 0) fun x_8 =>
 Vif x_8 (
 Bd P 56 #[] w4 fun x_9 =>
 StA 4 x_3 x_9 w4 fun w5 =>
 LdA 4 x_3 w5 fun x_10 =>
 R (.tuple #[x_10, (.bool false)]) w5) (
 Fo 0 v_1 fun x_11 =>
 Ld x_11 w4 fun x_12 =>
 Ias 4 x_12 x_7 fun x_13 =>
 LdA 4 x_13 w4 fun x_14 =>
 StA 4 x_3 x_14 w4 fun w6 =>
 LdA 4 x_3 w6 fun x_15 =>
 R (.tuple #[x_15, (.bool true)]) w6)
theorem Tie.project_View_first {v_p0 id_p1 : Value} {w : World} {R : Value → World → Prop} (h : Vcf.project_View_first Tryz.prog v_p0 id_p1 w R) : Cl Tryz.prog F.project_View_first #[v_p0, id_p1] w R :=
  cl_of_vc (n := 19) (rs := [(.cell 4 56), (.tmp 5)]) (h := (.s .z (.s .z (.s (.s .z (.i (.s .z .z) .z)) (.s .z .z))))) (args := [v_p0, id_p1]) (by kernel_rfl) Tryz.func14 rfl (by kernel_rfl) rfl rfl rfl (Eq.mp (by kernel_rfl) h)

/-- slices.Equal[[]baler/proto.Answer,baler/proto.Answer] -/
def Vcf.slices_Equal_proto_Answer_proto_Answer (P : Program) (s1_p0 s2_p1 : Value) (w : World) (R : Value → World → Prop) : Prop   :=
 Lnl s1_p0 fun x_1 =>
 Lnl s2_p1 fun x_2 =>
 Bp .neq x_1 x_2 fun x_3 =>
 Vif x_3 (
 R (.bool false) w) (
 Lnl s1_p0 fun x_4 =>
 VLoop 1 [(.int .i64 0)] w fun _ next6 x_5 w1 =>
 Bp .lss x_5 x_4 fun x_7 =>
 Vif x_7 (
 Dr w1 fun w2 =>
 Ias 4 s1_p0 x_5 fun x_8 =>
 LdA 4 x_8 w2 fun x_9 =>
 Ias 4 s2_p1 x_5 fun x_11 =>
 LdA 4 x_11 w2 fun x_12 =>
 Be P .neq 28 (.tmp 19) (.tmp 23) x_9 x_12 w2 fun x_14 =>
 Vif x_14 (
 R (.bool false) w2) (
 Bp .add x_5 (.int .i64 1) fun x_16 =>
 KE [s1_p0, s2_p1, x_4] [s1_p0, s2_p1, x_4] <| next6 x_16 w2)) (
 R (.bool true) w1))
theorem Tie.slices_Equal_proto_Answer_proto_Answer {s1_p0 s2_p1 : Value} {w : World} {R : Value → World → Prop} (h : Vcf.slices_Equal_proto_Answer_proto_Answer Tryz.prog s1_p0 s2_p1 w R) : Cl Tryz.prog F.slices_Equal_proto_Answer_proto_Answer #[s1_p0, s2_p1] w R :=
  cl_of_vc (n := 26) (rs := [(.tmp 4)]) (h := (.s .z (.s (.s .z (.i (.s .z .z) .z)) (.s (.s .z (.b (.l [13] [0, 1, 12] (.s .z (.s (.i .z .z) (.s (.b (.s .z (.s (.r (.staged [0, 0, 3, 7, 0, 0, 48, 112, 255])) (.i (.s .z .z) .z)))) .z)))))) (.s .z .z))))) (args := [s1_p0, s2_p1]) (by kernel_rfl) Tryz.func15 rfl (by kernel_rfl) rfl rfl rfl (Eq.mp (by kernel_rfl) h)

/-- baler/balerref46.has -/
def Vcf.balerref46_has (P : Program) (l_p0 id_p1 : Value) (w : World) (R : Value → World → Prop) : Prop   :=
 Lnl l_p0 fun x_1 =>
 VLoop 1 [(.int .i64 0)] w fun _ next3 x_2 w1 =>
 Bp .lss x_2 x_1 fun x_4 =>
 Vif x_4 (
 Ias 4 l_p0 x_2 fun x_5 =>
 LdA 4 x_5 w1 fun x_6 =>
 New (zeroP P 61) 61 w1 fun x_7 w2 =>
 StA 4 x_7 x_6 w2 fun w3 =>
 Fo 0 x_7 fun x_8 =>
 Ld x_8 w3 fun x_9 =>
 Bp .eql x_9 id_p1 fun x_10 =>
 Vif x_10 (
 R (.bool true) w3) (
 Bp .add x_2 (.int .i64 1) fun x_11 =>
 KE [id_p1, l_p0, x_1] [id_p1, l_p0, x_1] <| next3 x_11 w3)) (
 R (.bool false) w1)
theorem Tie.balerref46_has {l_p0 id_p1 : Value} {w : World} {R : Value → World → Prop} (h : Vcf.balerref46_has Tryz.prog l_p0 id_p1 w R) : Cl Tryz.prog F.balerref46_has #[l_p0, id_p1] w R :=
  cl_of_vc (n := 18) (rs := [(.tmp 4)]) (h := (.s .z (.s (.s .z (.b (.l [9] [1, 7, 8] (.s .z (.s (.i .z .z) (.s (.b (.s .z (.s .z (.i (.s .z .z) .z)))) .z)))))) (.s .z .z)))) (args := [l_p0, id_p1]) (by kernel_rfl) Tryz.func16 rfl (by kernel_rfl) rfl rfl rfl (Eq.mp (by kernel_rfl) h)

/-- baler/balerref46.Find -/
def Vcf.balerref46_Find (P : Program) (l_p0 id_p1 : Value) (w : World) (R : Value → World → Prop) : Prop   :=
 New (zeroP P 61) 61 w fun x_1 w1 =>
 Lnl l_p0 fun x_2 =>
 VLoop 1 [(.int .i64 0)] w1 fun _ next4 x_3 w2 =>
 Bp .lss x_3 x_2 fun x_5 =>
 Vif x_5 (
 Ias 4 l_p0 x_3 fun x_6 =>
 LdA 4 x_6 w2 fun x_7 =>
 New (zeroP P 61) 61 w2 fun x_8 w3 =>
 StA 4 x_8 x_7 w3 fun w4 =>
 Fo 0 x_8 fun x_9 =>
 Ld x_9 w4 fun x_10 =>
 Bp .eql x_10 id_p1 fun x_11 =>
 Vif x_11 (
 LdA 4 x_8 w4 fun x_12 =>
 StA 4 x_1 x_12 w4 fun w5 =>
 LdA 4 x_1 w5 fun x_13 =>
 R x_13 w5) (
 Bp .add x_3 (.int .i64 1) fun x_14 =>
 KE [id_p1, x_1, l_p0, x_2] [id_p1, x_1, l_p0, x_2] <| next4 x_14 w4)) (
 Bd P 61 #[(0, (.int .i64 (-1)))] w2 fun x_15 =>
 StA 4 x_1 x_15 w2 fun w6 =>
 LdA 4 x_1 w6 fun x_16 =>
 R x_16 w6)
theorem Tie.balerref46_Find {l_p0 id_p1 : Value} {w : World} {R : Value → World → Prop} (h : Vcf.balerref46_Find Tryz.prog l_p0 id_p1 w R) : Cl Tryz.prog F.balerref46_Find #[l_p0, id_p1] w R :=
  cl_of_vc (n := 20) (rs := [(.cell 4 61)]) (h := (.s .z (.s (.s .z (.b (.l [9] [1, 4, 7, 8] (.s .z (.s (.i .z .z) (.s (.b (.s .z (.s .z (.i (.s .z .z) .z)))) .z)))))) (.s .z .z)))) (args := [l_p0, id_p1]) (by kernel_rfl) Tryz.func17 rfl (by kernel_rfl) rfl rfl rfl (Eq.mp (by kernel_rfl) h)

/-- slices.Clone[[]baler/api.Tenant,baler/api.Tenant] -/
def Vcf.slices_Clone_api_Tenant_api_Tenant (P : Program) (s_p0 : Value) (w : World) (R : Value → World → Prop) : Prop   :=
 Be P .eql 41 (.tmp 3) (.const (.slice none 0 0)) s_p0 (.slice none 0 0) w fun x_1 =>
 Vif x_1 (
 R (.slice none 0 0) w) (
 Bs P 41 0 #[] w fun x_2 w1 =>
 Ap P #[41, 41] 41 #[x_2, s_p0] w1 fun x_3 w2 =>
 R x_3 w2)
theorem Tie.slices_Clone_api_Tenant_api_Tenant {s_p0 : Value} {w : World} {R : Value → World → Prop} (h : Vcf.slices_Clone_api_Tenant_api_Tenant Tryz.prog s_p0 w R) : Cl Tryz.prog F.slices_Clone_api_Tenant_api_Tenant #[s_p0] w R :=
  cl_of_vc (n := 8) (rs := [(.tmp 2)]) (h := (.s .z (.s (.s .z (.i (.s .z .z) .z)) (.s .z .z)))) (args := [s_p0]) (by kernel_rfl) Tryz.func22 rfl (by kernel_rfl) rfl rfl rfl (Eq.mp (by kernel_rfl) h)

/-- slices.IndexFunc[[]baler/project.End,baler/project.End] -/
def Vcf.slices_IndexFunc_project_End_project_End (P : Program) (s_p0 f_p1 : Value) (w : World) (R : Value → World → Prop) : Prop   :=
 Lnl s_p0 fun x_1 =>
 VLoop 1 [(.int .i64 0)] w fun _ next3 x_2 w1 =>
 Bp .lss x_2 x_1 fun x_4 =>
 Vif x_4 (
 Ias 4 s_p0 x_2 fun x_5 =>
 LdA 4 x_5 w1 fun x_6 =>
 Inv P (do let d ← Deferred.ofValue f_p1 #[x_6]; invoke d.target d.args) w1 fun x_7 w2 =>
 Vif x_7 (
 R x_2 w2) (
 Bp .add x_2 (.int .i64 1) fun x_8 =>
 KE [s_p0, f_p1, x_1] [s_p0, f_p1, x_1] <| next3 x_8 w2)) (
 R (.int .i64 (-1)) w1)
theorem Tie.slices_IndexFunc_project_End_project_End {s_p0 f_p1 : Value} {w : World} {R : Value → World → Prop} (h : Vcf.slices_IndexFunc_project_End_project_End Tryz.prog s_p0 f_p1 w R) : Cl Tryz.prog F.slices_IndexFunc_project_End_project_End #[s_p0, f_p1] w R :=
  cl_of_vc (n := 19) (rs := [(.tmp 4)]) (h := (.s .z (.s (.s .z (.b (.l [8] [0, 1, 7] (.s .z (.s (.i .z .z) (.s (.b (.s .z (.s .z (.i (.s .z .z) .z)))) .z)))))) (.s .z .z)))) (args := [s_p0, f_p1]) (by kernel_rfl) Tryz.func27 rfl (by kernel_rfl) rfl rfl rfl (Eq.mp (by kernel_rfl) h)

/-- (baler/project.View).first$1 -/
def Vcf.project_View_first_1 (P : Program) (x_p0 p_p1 : Value) (w : World) (R : Value → World → Prop) : Prop   :=
 New x_p0 56 w fun x_1 w1 =>
 Fo 0 x_1 fun x_2 =>
 Ld x_2 w1 fun x_3 =>
 Ld p_p1 w1 fun x_4 =>
 Bp .eql x_3 x_4 fun x_5 =>
 R x_5 w1
theorem Tie.project_View_first_1 {x_p0 p_p1 : Value} {w : World} {R : Value → World → Prop} (h : Vcf.project_View_first_1 Tryz.prog x_p0 p_p1 w R) : Cl Tryz.prog F.project_View_first_1 #[x_p0, p_p1] w R :=
  cl_of_vc (n := 8) (rs := [(.tmp 3)]) (h := (.s .z (.s .z .z))) (args := [x_p0, p_p1]) (by kernel_rfl) Tryz.func28 rfl (by kernel_rfl) rfl rfl rfl (Eq.mp (by kernel_rfl) h)

/-- baler/tenants.Config -/
def Vcf.tenants_Config (P : Program) (c_p0 : Value) (w : World) (R : Value → World → Prop) : Prop   :=
 New c_p0 43 w fun c_1 w1 =>
 Fo 0 c_1 fun x_2 =>
 Ld x_2 w1 fun x_3 =>
 Cl P F.tenants_Check #[x_3] w1 fun x_4 w2 =>
 Ex x_4 0 fun x_5 =>
 Ex x_4 1 fun x_6 =>
 Bp .neq x_6 (.int .i64 0) fun x_7 =>
 Vif x_7 (
 R x_6 w2) (
 Fo 1 c_1 fun x_8 =>
 Ld x_8 w2 fun x_9 =>
 Cl P F.tenants_between #[x_9, (.int .i64 24), (.int .i64 100000)] w2 fun x_10 w3 =>
 Vif x_10 (
 Fo 2 c_1 fun x_11 =>
 Ld x_11 w3 fun x_12 =>
 Cl P F.tenants_between #[x_12, (.int .i64 64), (.int .i64 1048576)] w3 fun x_13 w4 =>
 Vif x_13 (
 Fo 3 c_1 fun x_14 =>
 Ld x_14 w4 fun x_15 =>
 Cl P F.tenants_between #[x_15, (.int .i64 1), (.int .i64 1099511627776)] w4 fun x_16 w5 =>
 Vif x_16 (
 Fo 4 c_1 fun x_17 =>
 Ld x_17 w5 fun x_18 =>
 Cl P F.tenants_between #[x_18, (.int .i64 1), (.int .i64 1048576)] w5 fun x_19 w6 =>
 Vif x_19 (
 Fo 5 c_1 fun x_20 =>
 Ld x_20 w6 fun x_21 =>
 Cl P F.tenants_between #[x_21, (.int .i64 1), (.int .i64 64)] w6 fun x_22 w7 =>
 Vif x_22 (
 Fo 6 c_1 fun x_23 =>
 Ld x_23 w7 fun x_24 =>
 Cl P F.tenants_between #[x_24, (.int .i64 1), (.int .i64 4096)] w7 fun x_25 w8 =>
 Vif x_25 (
 R (.int .i64 0) w8) (
 R (.int .i64 1) w8)) (
 R (.int .i64 1) w7)) (
 R (.int .i64 1) w6)) (
 R (.int .i64 1) w5)) (
 R (.int .i64 1) w4)) (
 R (.int .i64 1) w3))
theorem Tie.tenants_Config {c_p0 : Value} {w : World} {R : Value → World → Prop} (h : Vcf.tenants_Config Tryz.prog c_p0 w R) : Cl Tryz.prog F.tenants_Config #[c_p0] w R :=
  cl_of_vc (n := 42) (rs := [(.tmp 2)]) (h := (.s .z (.s (.s .z (.s .z (.i (.s .z .z) .z))) (.s (.s .z (.i (.s .z .z) .z)) (.s .z .z))))) (args := [c_p0]) (by kernel_rfl) Tryz.func29 rfl (by kernel_rfl) rfl rfl rfl (Eq.mp (by kernel_rfl) h)

/-- baler/oracle.Tenant -/
def Vcf.oracle_Tenant (P : Program) (c_p0 stream_p1 : Value) (w : World) (R : Value → World → Prop) : Prop   :=
 New c_p0 43 w fun c_1 w1 =>
 New (zeroP P 3) 3 w1 fun x_2 w2 =>
 New (zeroP P 26) 26 w2 fun x_3 w3 =>
 LdA 7 c_1 w3 fun x_4 =>
 Cl P F.tenants_Config #[x_4] w3 fun x_5 w4 =>
 Bp .neq x_5 (.int .i64 0) fun x_6 =>
 Vif x_6 (
 St x_2 (.int .i64 0) w4 fun w5 =>
 St x_3 x_5 w5 fun w6 =>
 Ld x_2 w6 fun x_7 =>
 Ld x_3 w6 fun x_8 =>
 R (.tuple #[x_7, x_8]) w6) (
 LdA 7 c_1 w4 fun x_9 =>
 Cl P F.oracle_acts #[x_9, stream_p1] w4 fun x_10 w7 =>
 RgF P x_10 w7 (fun l11 x_11 W11 bg11 ed11 =>
 New (zeroP P 122) 122 W11 fun a_12 w8 =>
 StA 8 a_12 x_11 w8 fun w9 =>
 bg11 w9 fun w10 =>
 Fo 0 a_12 fun x_13 =>
 Ld x_13 w10 fun x_14 =>
 Bp .eql x_14 (.int .i64 2) fun x_15 =>
 Vif x_15 (
 Fo 2 a_12 fun x_16 =>
 Ld x_16 w10 fun x_17 =>
 St x_2 x_17 w10 fun w11 =>
 St x_3 (.int .i64 0) w11 fun w12 =>
 ed11 .ret w12) (
 ed11 .normal w10))
 (fun D11 w13 =>
 St x_2 (.int .i64 (-1)) w13 fun w19 =>
 St x_3 (.int .i64 0) w19 fun w20 =>
 TkM w20 (fun w21 =>
 Ld x_2 w21 fun x_20 =>
 Ld x_3 w21 fun x_21 =>
 R (.tuple #[x_20, x_21]) w21) [D11])
 (fun D11 w14 =>
 TkM w14 (fun w22 =>
 Ld x_2 w22 fun x_22 =>
 Ld x_3 w22 fun x_23 =>
 R (.tuple #[x_22, x_23]) w22) [D11])
 fun id11 D11 w15 =>
 match Nat.beq id11 0 with
 | true => (St x_2 (.int .i64 (-1)) w15 fun w16 =>
 St x_3 (.int .i64 0) w16 fun w17 =>
 TkM w17 (fun w18 =>
 Ld x_2 w18 fun x_18 =>
 Ld x_3 w18 fun x_19 =>
 R (.tuple #[x_18, x_19]) w18) [D11])
 | false => (False))
theorem Tie.oracle_Tenant {c_p0 stream_p1 : Value} {w : World} {R : Value → World → Prop} (h : Vcf.oracle_Tenant Tryz.prog c_p0 stream_p1 w R) : Cl Tryz.prog F.oracle_Tenant #[c_p0, stream_p1] w R :=
  cl_of_vcR (n := 22) (rs := [(.cell 4 3), (.cell 5 26)]) (h := (.s .z (.s (.s .z (.s .z (.i (.s .z .z) .z))) (.s (.s .z (.b (.s .z (.b (.s .z (.i (.s .z .z) .z)))))) (.s .z .z))))) (args := [c_p0, stream_p1]) (by kernel_rfl) Tryz.func33 rfl (by kernel_rfl) rfl rfl rfl (Eq.mp (by kernel_rfl) h)

/-- baler/tenants.Check -/
def Vcf.tenants_Check (P : Program) (l_p0 : Value) (w : World) (R : Value → World → Prop) : Prop   :=
 Lnl l_p0 fun x_1 =>
 Bp .eql x_1 (.int .i64 0) fun x_2 =>
 Vif x_2 (
 R (.tuple #[(.int .i64 (-1)), (.int .i64 6)]) w) (
 Lnl l_p0 fun x_3 =>
 Bp .gtr x_3 (.int .i64 16) fun x_4 =>
 Vif x_4 (
 R (.tuple #[(.int .i64 16), (.int .i64 2)]) w) (
 Lnl l_p0 fun x_5 =>
 VLoop 1 [(.int .i64 0)] w fun _ next7 x_6 w1 =>
 Bp .lss x_6 x_5 fun x_8 =>
 Vif x_8 (
 Ias 5 l_p0 x_6 fun x_9 =>
 LdA 5 x_9 w1 fun x_10 =>
 New (zeroP P 68) 68 w1 fun t_11 w2 =>
 StA 5 t_11 x_10 w2 fun w3 =>
 LdA 5 t_11 w3 fun x_12 =>
 Cl P F.tenants_May #[x_12] w3 fun x_13 w4 =>
 Up .not x_13 fun x_14 =>
 Vif x_14 (
 R (.tuple #[x_6, (.int .i64 1)]) w4) (
 Dr w4 fun w5 =>
 Ssl 5 l_p0 none (some x_6) fun x_15 =>
 LdA 5 t_11 w5 fun x_17 =>
 Cl P F.tenants_again #[x_15, x_17] w5 fun x_19 w6 =>
 Vif x_19 (
 R (.tuple #[x_6, (.int .i64 8)]) w6) (
 Bp .add x_6 (.int .i64 1) fun x_20 =>
 KE [l_p0, l_p0, x_5] [l_p0, l_p0, x_5] <| next7 x_20 w6))) (
 R (.tuple #[(.int .i64 (-1)), (.int .i64 0)]) w1)))
theorem Tie.tenants_Check {l_p0 : Value} {w : World} {R : Value → World → Prop} (h : Vcf.tenants_Check Tryz.prog l_p0 w R) : Cl Tryz.prog F.tenants_Check #[l_p0] w R :=
  cl_of_vc (n := 34) (rs := [(.tmp 2), (.tmp 3)]) (h := (.s .z (.s (.b (.s .z (.i (.s .z .z) (.s .z (.i (.s .z .z) .z))))) (.s (.s .z (.b (.l [16] [0, 14, 15] (.s .z (.s (.i .z .z) (.s (.b (.s .z (.b (.s .z (.i (.s .z .z) (.s (.r (.staged [0, 0, 3, 0, 15, 31])) (.i (.s .z .z) .z))))))) .z)))))) (.s .z .z))))) (args := [l_p0]) (by kernel_rfl) Tryz.func45 rfl (by kernel_rfl) rfl rfl rfl (Eq.mp (by kernel_rfl) h)

/-- baler/tenants.between -/
def Vcf.tenants_between (P : Program) (n_p0 low_p1 high_p2 : Value) (w : World) (R : Value → World → Prop) : Prop   :=
 Bp .geq n_p0 low_p1 fun x_1 =>
 Vif x_1 (
 Bp .leq n_p0 high_p2 fun x_2 =>
 R x_2 w) (
 R (.bool false) w)
theorem Tie.tenants_between {n_p0 low_p1 high_p2 : Value} {w : World} {R : Value → World → Prop} (h : Vcf.tenants_between Tryz.prog n_p0 low_p1 high_p2 w R) : Cl Tryz.prog F.tenants_between #[n_p0, low_p1, high_p2] w R :=
  cl_of_vc (n := 15) (rs := [(.tmp 6)]) (h := (.s .z (.s .z .z))) (args := [n_p0, low_p1, high_p2]) (by kernel_rfl) Tryz.func46 rfl (by kernel_rfl) rfl rfl rfl (Eq.mp (by kernel_rfl) h)

/-- baler/oracle.acts -/
def Vcf.oracle_acts (P : Program) (c_p0 stream_p1 : Value) (w : World) (R : Value → World → Prop) : Prop   :=
 New c_p0 43 w fun c_1 w1 =>
 New stream_p1 9 w1 fun stream_2 w2 =>
 Mf P (.func 69) #[] #[c_1, stream_2] w2 fun x_3 =>
 R x_3 w2
theorem Tie.oracle_acts {c_p0 stream_p1 : Value} {w : World} {R : Value → World → Prop} (h : Vcf.oracle_acts Tryz.prog c_p0 stream_p1 w R) : Cl Tryz.prog F.oracle_acts #[c_p0, stream_p1] w R :=
  cl_of_vc (n := 6) (rs := [(.tmp 4)]) (h := (.s .z (.s .z .z))) (args := [c_p0, stream_p1]) (by kernel_rfl) Tryz.func48 rfl (by kernel_rfl) rfl rfl rfl (Eq.mp (by kernel_rfl) h)

/-- baler/frame.Decode -/
def Vcf.frame_Decode (P : Program) (s_p0 : Value) (w : World) (R : Value → World → Prop) : Prop   :=
 New (zeroP P 71) 71 w fun x_1 w1 =>
 Bp .eql s_p0 (.string ⟨#[]⟩) fun x_2 =>
 Vif x_2 (
 Bd P 71 #[] w1 fun x_3 =>
 StA 3 x_1 x_3 w1 fun w2 =>
 LdA 3 x_1 w2 fun x_4 =>
 R (.tuple #[x_4, (.int .i64 0), (.int .i64 3)]) w2) (
 Ixs s_p0 (.int .i64 0) fun x_5 =>
 Ci .i64 x_5 fun x_6 =>
 Bd P 71 #[(0, x_6)] w1 fun x_7 =>
 New (zeroP P 71) 71 w1 fun f_8 w3 =>
 StA 3 f_8 x_7 w3 fun w4 =>
 LdA 3 f_8 w4 fun x_9 =>
 Cl P F.frame_may #[x_9] w4 fun x_10 w5 =>
 Up .not x_10 fun x_11 =>
 Vif x_11 (
 Bd P 71 #[] w5 fun x_12 =>
 StA 3 x_1 x_12 w5 fun w6 =>
 LdA 3 x_1 w6 fun x_13 =>
 R (.tuple #[x_13, (.int .i64 0), (.int .i64 35)]) w6) (
 Lns s_p0 fun x_14 =>
 Bp .lss x_14 (.int .i64 9) fun x_15 =>
 Vif x_15 (
 Bd P 71 #[] w5 fun x_16 =>
 StA 3 x_1 x_16 w5 fun w7 =>
 LdA 3 x_1 w7 fun x_17 =>
 R (.tuple #[x_17, (.int .i64 0), (.int .i64 3)]) w7) (
 Sst s_p0 (some (.int .i64 1)) none fun x_18 =>
 Cl P F.frame_number #[x_18] w5 fun x_19 w8 =>
 Fo 1 f_8 fun x_20 =>
 St x_20 x_19 w8 fun w9 =>
 Sst s_p0 (some (.int .i64 5)) none fun x_21 =>
 Cl P F.frame_number #[x_21] w9 fun x_22 w10 =>
 Bp .gtr x_22 (.int .i64 65536) fun x_23 =>
 Vif x_23 (
 Bd P 71 #[] w10 fun x_24 =>
 StA 3 x_1 x_24 w10 fun w11 =>
 LdA 3 x_1 w11 fun x_25 =>
 R (.tuple #[x_25, (.int .i64 0), (.int .i64 2)]) w11) (
 Lns s_p0 fun x_26 =>
 Bp .sub x_26 (.int .i64 9) fun x_27 =>
 Bp .lss x_27 x_22 fun x_28 =>
 Vif x_28 (
 Bd P 71 #[] w10 fun x_29 =>
 StA 3 x_1 x_29 w10 fun w12 =>
 LdA 3 x_1 w12 fun x_30 =>
 R (.tuple #[x_30, (.int .i64 0), (.int .i64 3)]) w12) (
 Bp .add (.int .i64 9) x_22 fun x_31 =>
 Sst s_p0 (some (.int .i64 9)) (some x_31) fun x_32 =>
 Fo 2 f_8 fun x_33 =>
 St x_33 x_32 w10 fun w13 =>
 LdA 3 f_8 w13 fun x_34 =>
 Bp .add (.int .i64 9) x_22 fun x_35 =>
 StA 3 x_1 x_34 w13 fun w14 =>
 LdA 3 x_1 w14 fun x_36 =>
 R (.tuple #[x_36, x_35, (.int .i64 0)]) w14)))))
theorem Tie.frame_Decode {s_p0 : Value} {w : World} {R : Value → World → Prop} (h : Vcf.frame_Decode Tryz.prog s_p0 w R) : Cl Tryz.prog F.frame_Decode #[s_p0] w R :=
  cl_of_vc (n := 48) (rs := [(.cell 2 71), (.tmp 3), (.tmp 4)]) (h := (.s .z (.s (.s .z (.i (.s .z .z) .z)) (.s .z (.s (.s .z (.i (.s .z .z) .z)) (.s (.s .z (.i (.s .z .z) .z)) (.s .z (.s .z (.s (.b (.s .z (.i (.s .z .z) (.s .z (.i (.s .z .z) .z))))) (.s .z (.s .z .z))))))))))) (args := [s_p0]) (by kernel_rfl) Tryz.func63 rfl (by kernel_rfl) rfl rfl rfl (Eq.mp (by kernel_rfl) h)

/-- baler/proto.whole -/
def Vcf.proto_whole (P : Program) (f_p0 : Value) (w : World) (R : Value → World → Prop) : Prop   :=
 New f_p0 71 w fun f_1 w1 =>
 Fo 1 f_1 fun x_2 =>
 Ld x_2 w1 fun x_3 =>
 Bp .geq x_3 (.int .i64 0) fun x_4 =>
 Vif x_4 (
 Fo 1 f_1 fun x_5 =>
 Ld x_5 w1 fun x_6 =>
 Bp .leq x_6 (.int .i64 4294967295) fun x_7 =>
 Vif x_7 (
 Fo 2 f_1 fun x_8 =>
 Ld x_8 w1 fun x_9 =>
 Lns x_9 fun x_10 =>
 Bp .leq x_10 (.int .i64 65536) fun x_11 =>
 R x_11 w1) (
 R (.bool false) w1)) (
 R (.bool false) w1)
theorem Tie.proto_whole {f_p0 : Value} {w : World} {R : Value → World → Prop} (h : Vcf.proto_whole Tryz.prog f_p0 w R) : Cl Tryz.prog F.proto_whole #[f_p0] w R :=
  cl_of_vc (n := 17) (rs := [(.tmp 2)]) (h := (.s .z (.s .z .z))) (args := [f_p0]) (by kernel_rfl) Tryz.func64 rfl (by kernel_rfl) rfl rfl rfl (Eq.mp (by kernel_rfl) h)

/-- baler/tenants.May -/
def Vcf.tenants_May (P : Program) (t_p0 : Value) (w : World) (R : Value → World → Prop) : Prop   :=
 New t_p0 68 w fun t_1 w1 =>
 Fo 0 t_1 fun x_2 =>
 Ld x_2 w1 fun x_3 =>
 Cl P F.token_Is #[x_3] w1 fun x_4 w2 =>
 Vif x_4 (
 Fo 1 t_1 fun x_5 =>
 Ld x_5 w2 fun x_6 =>
 Cl P F.token_Is #[x_6] w2 fun x_7 w3 =>
 Vif x_7 (
 Fo 2 t_1 fun x_8 =>
 Ld x_8 w3 fun x_9 =>
 Cl P F.tenants_between #[x_9, (.int .i64 0), (.int .i64 1099511627776)] w3 fun x_10 w4 =>
 Vif x_10 (
 Fo 3 t_1 fun x_11 =>
 Ld x_11 w4 fun x_12 =>
 Cl P F.tenants_between #[x_12, (.int .i64 1), (.int .i64 1099511627776)] w4 fun x_13 w5 =>
 Vif x_13 (
 Fo 4 t_1 fun x_14 =>
 Ld x_14 w5 fun x_15 =>
 Cl P F.tenants_between #[x_15, (.int .i64 1), (.int .i64 1099511627776)] w5 fun x_16 w6 =>
 R x_16 w6) (
 R (.bool false) w5)) (
 R (.bool false) w4)) (
 R (.bool false) w3)) (
 R (.bool false) w2)
theorem Tie.tenants_May {t_p0 : Value} {w : World} {R : Value → World → Prop} (h : Vcf.tenants_May Tryz.prog t_p0 w R) : Cl Tryz.prog F.tenants_May #[t_p0] w R :=
  cl_of_vc (n := 26) (rs := [(.tmp 2)]) (h := (.s .z (.s .z .z))) (args := [t_p0]) (by kernel_rfl) Tryz.func67 rfl (by kernel_rfl) rfl rfl rfl (Eq.mp (by kernel_rfl) h)

/-- baler/tenants.again -/
def Vcf.tenants_again (P : Program) (l_p0 t_p1 : Value) (w : World) (R : Value → World → Prop) : Prop   :=
 New t_p1 68 w fun t_1 w1 =>
 Lnl l_p0 fun x_2 =>
 VLoop 1 [(.int .i64 0)] w1 fun _ next4 x_3 w2 =>
 Bp .lss x_3 x_2 fun x_5 =>
 Vif x_5 (
 Ias 5 l_p0 x_3 fun x_6 =>
 LdA 5 x_6 w2 fun x_7 =>
 New (zeroP P 68) 68 w2 fun x_8 w3 =>
 StA 5 x_8 x_7 w3 fun w4 =>
 VJoin 1 (fun _ x_9 w5 =>
 Vif x_9 (
 R (.bool true) w5) (
 Bp .add x_3 (.int .i64 1) fun x_10 =>
 KE [t_1, l_p0, x_2] [t_1, l_p0, x_2] <| next4 x_10 w5))
 (fun J11 =>
 Fo 0 x_8 fun x_12 =>
 Ld x_12 w4 fun x_13 =>
 Fo 0 t_1 fun x_14 =>
 Ld x_14 w4 fun x_15 =>
 Bp .eql x_13 x_15 fun x_16 =>
 Vif x_16 (
 KE [t_1, l_p0, x_2, x_3] [t_1, l_p0, x_2, x_3] <| J11 (.bool true) w4) (
 Fo 1 x_8 fun x_17 =>
 Ld x_17 w4 fun x_18 =>
 Fo 1 t_1 fun x_19 =>
 Ld x_19 w4 fun x_20 =>
 Bp .eql x_18 x_20 fun x_21 =>
 KE [t_1, l_p0, x_2, x_3] [t_1, l_p0, x_2, x_3] <| J11 x_21 w4))) (
 R (.bool false) w2)
theorem Tie.tenants_again {l_p0 t_p1 : Value} {w : World} {R : Value → World → Prop} (h : Vcf.tenants_again Tryz.prog l_p0 t_p1 w R) : Cl Tryz.prog F.tenants_again #[l_p0, t_p1] w R :=
  cl_of_vc (n := 26) (rs := [(.tmp 4)]) (h := (.s .z (.s (.s .z (.b (.l [9] [3, 7, 8] (.s .z (.s (.i .z .z) (.s (.b (.s .z (.j [24] [3, 7, 8, 9] .z (.i (.s .z .z) .z)))) .z)))))) (.s .z .z)))) (args := [l_p0, t_p1]) (by kernel_rfl) Tryz.func68 rfl (by kernel_rfl) rfl rfl rfl (Eq.mp (by kernel_rfl) h)

/-- baler/oracle.acts$1 -/
def Vcf.oracle_acts_1 (P : Program) (yield_p0 p_p1 p_p2 : Value) (w : World) (R : Value → World → Prop) : Prop   :=
 Fo 0 p_p1 fun x_1 =>
 Ld x_1 w fun x_2 =>
 Cl P F.conn_New #[x_2] w fun x_3 w1 =>
 Ex x_3 0 fun x_4 =>
 Ex x_3 1 fun x_5 =>
 Cl P F.parser_New #[(.int .i64 65545)] w1 fun x_6 w2 =>
 Ex x_6 0 fun x_7 =>
 Ex x_6 1 fun x_8 =>
 VLoop 1 [(.int .i64 0)] w2 fun _ next10 at_9 w3 =>
 Ld p_p2 w3 fun x_11 =>
 Sst x_11 (some at_9) none fun x_12 =>
 Cl P F.parser_Parser_Feed #[x_7, x_12] w3 fun x_13 w4 =>
 Bp .add at_9 x_13 fun x_14 =>
 Cl P F.parser_Parser_Next #[x_7] w4 fun x_15 w5 =>
 Ex x_15 0 fun x_16 =>
 Ex x_15 1 fun x_17 =>
 Ex x_15 2 fun x_18 =>
 New (zeroP P 71) 71 w5 fun f_19 w6 =>
 StA 3 f_19 x_16 w6 fun w7 =>
 Bp .neq x_18 (.int .i64 0) fun x_20 =>
 Vif x_20 (
 Bd P 122 #[(0, (.int .i64 1)), (7, x_18)] w7 fun x_21 =>
 InvR P (do let d ← Deferred.ofValue yield_p0 #[x_21]; invoke d.target d.args) w7 fun x_22 w8 =>
 R (.tuple #[]) w8) (
 Up .not x_17 fun x_23 =>
 Vif x_23 (
 R (.tuple #[]) w7) (
 LdA 3 f_19 w7 fun x_24 =>
 Cl P F.conn_Conn_Step #[x_4, x_24] w7 fun x_25 w9 =>
 Ex x_25 0 fun x_26 =>
 Ex x_25 1 fun x_27 =>
 New (zeroP P 122) 122 w9 fun a_28 w10 =>
 StA 8 a_28 x_26 w10 fun w11 =>
 LdA 8 a_28 w11 fun x_29 =>
 InvR P (do let d ← Deferred.ofValue yield_p0 #[x_29]; invoke d.target d.args) w11 fun x_30 w12 =>
 Up .not x_30 fun x_31 =>
 Vif x_31 (
 R (.tuple #[]) w12) (
 ([] : List Nat) = [] ∧ KE [yield_p0, p_p2, x_4, x_7] [yield_p0, p_p2, x_4, x_7] (next10 x_14 w12))))
theorem Tie.oracle_acts_1 {yield_p0 p_p1 p_p2 : Value} {w : World} {R : Value → World → Prop} (h : Vcf.oracle_acts_1 Tryz.prog yield_p0 p_p1 p_p2 w R) : Cl Tryz.prog F.oracle_acts_1 #[yield_p0, p_p1, p_p2] w R :=
  cl_of_vcR (n := 55) (rs := []) (h := (.s .z (.s .z (.s .z (.b (.l [8] [0, 2, 4, 6] (.b (.s .z (.s .z (.s (.s .z (.i (.s .z .z) .z)) (.s (.s .z (.i .z .z)) (.s .z (.s .z (.i .z .z)))))))))))))) (args := [yield_p0, p_p1, p_p2]) (by kernel_rfl) Tryz.func69 rfl (by kernel_rfl) rfl rfl rfl (Eq.mp (by kernel_rfl) h)

/-- baler/conn.New -/
def Vcf.conn_New (P : Program) (l_p0 : Value) (w : World) (R : Value → World → Prop) : Prop   :=
 Cl P F.tenants_Check #[l_p0] w fun x_1 w1 =>
 Ex x_1 0 fun x_2 =>
 Ex x_1 1 fun x_3 =>
 Bp .neq x_3 (.int .i64 0) fun x_4 =>
 Vif x_4 (
 R (.tuple #[(.pointer none), x_3]) w1) (
 Cl P F.slices_Clone_api_Tenant_api_Tenant #[l_p0] w1 fun x_5 w2 =>
 Mm P 214 none w2 fun x_6 w3 =>
 Bd P 216 #[(0, x_5), (1, (.int .i64 (-1))), (2, x_6)] w3 fun x_7 =>
 New x_7 216 w3 fun x_8 w4 =>
 R (.tuple #[x_8, (.int .i64 0)]) w4)
theorem Tie.conn_New {l_p0 : Value} {w : World} {R : Value → World → Prop} (h : Vcf.conn_New Tryz.prog l_p0 w R) : Cl Tryz.prog F.conn_New #[l_p0] w R :=
  cl_of_vc (n := 19) (rs := [(.tmp 2), (.tmp 3)]) (h := (.s .z (.s (.s .z (.s .z (.i (.s .z .z) .z))) (.s .z .z)))) (args := [l_p0]) (by kernel_rfl) Tryz.func70 rfl (by kernel_rfl) rfl rfl rfl (Eq.mp (by kernel_rfl) h)

/-- baler/parser.New -/
def Vcf.parser_New (P : Program) (room_p0 : Value) (w : World) (R : Value → World → Prop) : Prop   :=
 VJoin 1 (fun _ x_1 w1 =>
 Vif x_1 (
 R (.tuple #[(.pointer none), (.int .i64 1)]) w1) (
 Bd P 218 #[(0, room_p0)] w1 fun x_2 =>
 New x_2 218 w1 fun x_3 w2 =>
 R (.tuple #[x_3, (.int .i64 0)]) w2))
 (fun J4 =>
 Bp .lss room_p0 (.int .i64 9) fun x_5 =>
 Vif x_5 (
 KE [room_p0] [room_p0] <| J4 (.bool true) w) (
 Bp .gtr room_p0 (.int .i64 65545) fun x_6 =>
 KE [room_p0] [room_p0] <| J4 x_6 w))
theorem Tie.parser_New {room_p0 : Value} {w : World} {R : Value → World → Prop} (h : Vcf.parser_New Tryz.prog room_p0 w R) : Cl Tryz.prog F.parser_New #[room_p0] w R :=
  cl_of_vc (n := 13) (rs := [(.tmp 2), (.tmp 3)]) (h := (.s .z (.s (.j [9] [0] .z (.i (.s .z .z) .z)) (.s .z .z)))) (args := [room_p0]) (by kernel_rfl) Tryz.func71 rfl (by kernel_rfl) rfl rfl rfl (Eq.mp (by kernel_rfl) h)

/-- (baler/parser.Parser).Feed -/
def Vcf.parser_Parser_Feed (P : Program) (p_p0 s_p1 : Value) (w : World) (R : Value → World → Prop) : Prop   :=
 VJoin 1 (fun _ x_1 w1 =>
 Vif x_1 (
 R (.int .i64 0) w1) (
 Dr w1 fun w2 =>
 Lns s_p1 fun x_2 =>
 Nc p_p0 <|
 Fo 0 p_p0 fun x_4 =>
 Ld x_4 w2 fun x_5 =>
 Nc p_p0 <|
 Fo 1 p_p0 fun x_7 =>
 Ld x_7 w2 fun x_8 =>
 Lns x_8 fun x_10 =>
 Bp .sub x_5 x_10 fun x_12 =>
 Bmin P #[3, 3] 3 #[x_2, x_12] w2 fun x_13 =>
 Dr w2 fun w3 =>
 Nc p_p0 <|
 Fo 1 p_p0 fun x_15 =>
 Ld x_15 w3 fun x_16 =>
 Sst s_p1 none (some x_13) fun x_18 =>
 Bp .add x_16 x_18 fun x_20 =>
 Nc p_p0 <|
 Fo 1 p_p0 fun x_21 =>
 St x_21 x_20 w3 fun w4 =>
 R x_13 w4))
 (fun J22 =>
 Bn P 218 false p_p0 (.pointer none) fun x_23 =>
 Vif x_23 (
 KE [p_p0, s_p1] [p_p0, s_p1] <| J22 (.bool true) w) (
 Nc p_p0 <|
 Fo 2 p_p0 fun x_24 =>
 Ld x_24 w fun x_25 =>
 Bp .neq x_25 (.int .i64 0) fun x_26 =>
 KE [p_p0, s_p1] [p_p0, s_p1] <| J22 x_26 w))
theorem Tie.parser_Parser_Feed {p_p0 s_p1 : Value} {w : World} {R : Value → World → Prop} (h : Vcf.parser_Parser_Feed Tryz.prog p_p0 s_p1 w R) : Cl Tryz.prog F.parser_Parser_Feed #[p_p0, s_p1] w R :=
  cl_of_vc (n := 39) (rs := [(.tmp 4)]) (h := (.s .z (.s (.j [14] [0, 1] .z (.i (.s .z .z) .z)) (.s (.r (.staged [0, 1, 0, 4, 12, 28, 0, 64, 192, 448, 960, 2044, 4095, 8191])) (.s (.r (.staged [0, 1, 3, 7, 0, 0, 48, 127, 255, 511, 1023])) (.s .z .z)))))) (args := [p_p0, s_p1]) (by kernel_rfl) Tryz.func72 rfl (by kernel_rfl) rfl rfl rfl (Eq.mp (by kernel_rfl) h)

/-- (baler/parser.Parser).Next -/
def Vcf.parser_Parser_Next (P : Program) (p_p0 : Value) (w : World) (R : Value → World → Prop) : Prop   :=
 New (zeroP P 71) 71 w fun x_1 w1 =>
 Bn P 218 false p_p0 (.pointer none) fun x_2 =>
 Vif x_2 (
 Bd P 71 #[] w1 fun x_3 =>
 StA 3 x_1 x_3 w1 fun w2 =>
 LdA 3 x_1 w2 fun x_4 =>
 R (.tuple #[x_4, (.bool false), (.int .i64 7)]) w2) (
 Nc p_p0 <|
 Fo 2 p_p0 fun x_5 =>
 Ld x_5 w1 fun x_6 =>
 Bp .neq x_6 (.int .i64 0) fun x_7 =>
 Vif x_7 (
 Dr w1 fun w3 =>
 Bd P 71 #[] w3 fun x_8 =>
 Nc p_p0 <|
 Fo 2 p_p0 fun x_10 =>
 Ld x_10 w3 fun x_11 =>
 StA 3 x_1 x_8 w3 fun w4 =>
 Rk (fun w K => Ld x_10 w fun x_12 => K x_12) x_11 w4 <|
 LdA 3 x_1 w4 fun x_13 =>
 R (.tuple #[x_13, (.bool false), x_11]) w4) (
 Nc p_p0 <|
 Fo 1 p_p0 fun x_14 =>
 Ld x_14 w1 fun x_15 =>
 Cl P F.frame_Decode #[x_15] w1 fun x_16 w5 =>
 Ex x_16 0 fun x_17 =>
 Ex x_16 1 fun x_18 =>
 Ex x_16 2 fun x_19 =>
 New (zeroP P 71) 71 w5 fun f_20 w6 =>
 StA 3 f_20 x_17 w6 fun w7 =>
 VJoin 1 (fun _ x_21 w8 =>
 Vif x_21 (
 Cl P F.parser_Parser_fail #[p_p0, x_19] w8 fun x_22 w9 =>
 Ex x_22 0 fun x_23 =>
 Ex x_22 1 fun x_24 =>
 Ex x_22 2 fun x_25 =>
 StA 3 x_1 x_23 w9 fun w10 =>
 LdA 3 x_1 w10 fun x_26 =>
 R (.tuple #[x_26, x_24, x_25]) w10) (
 Cl P F.parser_Parser_tooLong #[p_p0] w8 fun x_27 w11 =>
 Vif x_27 (
 Cl P F.parser_Parser_fail #[p_p0, (.int .i64 2)] w11 fun x_28 w12 =>
 Ex x_28 0 fun x_29 =>
 Ex x_28 1 fun x_30 =>
 Ex x_28 2 fun x_31 =>
 StA 3 x_1 x_29 w12 fun w13 =>
 LdA 3 x_1 w13 fun x_32 =>
 R (.tuple #[x_32, x_30, x_31]) w13) (
 Bp .eql x_19 (.int .i64 3) fun x_33 =>
 Vif x_33 (
 Bd P 71 #[] w11 fun x_34 =>
 StA 3 x_1 x_34 w11 fun w14 =>
 LdA 3 x_1 w14 fun x_35 =>
 R (.tuple #[x_35, (.bool false), (.int .i64 0)]) w14) (
 Nc p_p0 <|
 Fo 1 p_p0 fun x_36 =>
 Ld x_36 w11 fun x_37 =>
 Sst x_37 (some x_18) none fun x_38 =>
 Nc p_p0 <|
 Fo 1 p_p0 fun x_39 =>
 St x_39 x_38 w11 fun w15 =>
 LdA 3 f_20 w15 fun x_40 =>
 StA 3 x_1 x_40 w15 fun w16 =>
 LdA 3 x_1 w16 fun x_41 =>
 R (.tuple #[x_41, (.bool true), (.int .i64 0)]) w16))))
 (fun J42 =>
 Bp .eql x_19 (.int .i64 35) fun x_43 =>
 Vif x_43 (
 KE [p_p0, x_1, f_20, x_18, x_19] [p_p0, x_1, f_20, x_18, x_19] <| J42 (.bool true) w7) (
 Bp .eql x_19 (.int .i64 2) fun x_44 =>
 KE [p_p0, x_1, f_20, x_18, x_19] [p_p0, x_1, f_20, x_18, x_19] <| J42 x_44 w7))))
theorem Tie.parser_Parser_Next {p_p0 : Value} {w : World} {R : Value → World → Prop} (h : Vcf.parser_Parser_Next Tryz.prog p_p0 w R) : Cl Tryz.prog F.parser_Parser_Next #[p_p0] w R :=
  cl_of_vc (n := 67) (rs := [(.cell 2 71), (.tmp 3), (.tmp 4)]) (h := (.s .z (.s (.b (.s .z (.i (.s .z .z) (.s .z (.i (.s (.r (.staged [0, 0, 2, 6, 14, 1, 33, 127])) .z) .z))))) (.s .z (.s (.b (.j [32] [0, 2, 5, 6, 7] .z (.i (.s .z .z) (.s .z (.i (.s .z .z) (.s .z (.i (.s .z .z) .z))))))) (.s .z (.s .z .z))))))) (args := [p_p0]) (by kernel_rfl) Tryz.func73 rfl (by kernel_rfl) rfl rfl rfl (Eq.mp (by kernel_rfl) h)

/-- (baler/conn.Conn).Step -/
def Vcf.conn_Conn_Step (P : Program) (c_p0 f_p1 : Value) (w : World) (R : Value → World → Prop) : Prop   :=
 New f_p1 71 w fun f_1 w1 =>
 New (zeroP P 122) 122 w1 fun x_2 w2 =>
 Bn P 216 false c_p0 (.pointer none) fun x_3 =>
 Vif x_3 (
 Bd P 122 #[] w2 fun x_4 =>
 StA 8 x_2 x_4 w2 fun w3 =>
 LdA 8 x_2 w3 fun x_5 =>
 R (.tuple #[x_5, (.int .i64 7)]) w3) (
 Nc c_p0 <|
 Fo 1 c_p0 fun x_6 =>
 Ld x_6 w2 fun x_7 =>
 Bp .eql x_7 (.int .i64 (-1)) fun x_8 =>
 Vif x_8 (
 LdA 3 f_1 w2 fun x_9 =>
 Cl P F.conn_Conn_login #[c_p0, x_9] w2 fun x_10 w4 =>
 StA 8 x_2 x_10 w4 fun w5 =>
 LdA 8 x_2 w5 fun x_11 =>
 R (.tuple #[x_11, (.int .i64 0)]) w5) (
 LdA 3 f_1 w2 fun x_12 =>
 Cl P F.proto_Read #[x_12] w2 fun x_13 w6 =>
 Ex x_13 0 fun x_14 =>
 Ex x_13 1 fun x_15 =>
 New (zeroP P 222) 222 w6 fun r_16 w7 =>
 StA 7 r_16 x_14 w7 fun w8 =>
 Bp .neq x_15 (.int .i64 0) fun x_17 =>
 Vif x_17 (
 Fo 1 f_1 fun x_18 =>
 Ld x_18 w8 fun x_19 =>
 Cl P F.conn_refuse #[x_19, x_15] w8 fun x_20 w9 =>
 StA 8 x_2 x_20 w9 fun w10 =>
 LdA 8 x_2 w10 fun x_21 =>
 R (.tuple #[x_21, (.int .i64 0)]) w10) (
 LdA 7 r_16 w8 fun x_22 =>
 Cl P F.conn_Conn_act #[c_p0, x_22] w8 fun x_23 w11 =>
 StA 8 x_2 x_23 w11 fun w12 =>
 LdA 8 x_2 w12 fun x_24 =>
 R (.tuple #[x_24, (.int .i64 0)]) w12)))
theorem Tie.conn_Conn_Step {c_p0 f_p1 : Value} {w : World} {R : Value → World → Prop} (h : Vcf.conn_Conn_Step Tryz.prog c_p0 f_p1 w R) : Cl Tryz.prog F.conn_Conn_Step #[c_p0, f_p1] w R :=
  cl_of_vc (n := 35) (rs := [(.cell 4 122), (.tmp 5)]) (h := (.s .z (.s (.b (.s .z (.i (.s .z .z) (.s .z (.i (.s .z .z) .z))))) (.s .z (.s (.s .z (.i (.s .z .z) .z)) (.s .z .z)))))) (args := [c_p0, f_p1]) (by kernel_rfl) Tryz.func74 rfl (by kernel_rfl) rfl rfl rfl (Eq.mp (by kernel_rfl) h)

/-- baler/frame.may -/
def Vcf.frame_may (P : Program) (f_p0 : Value) (w : World) (R : Value → World → Prop) : Prop   :=
 New f_p0 71 w fun f_1 w1 =>
 LdA 3 f_1 w1 fun x_2 =>
 Cl P F.frame_Client #[x_2] w1 fun x_3 w2 =>
 Vif x_3 (
 R (.bool true) w2) (
 LdA 3 f_1 w2 fun x_4 =>
 Cl P F.frame_Server #[x_4] w2 fun x_5 w3 =>
 R x_5 w3)
theorem Tie.frame_may {f_p0 : Value} {w : World} {R : Value → World → Prop} (h : Vcf.frame_may Tryz.prog f_p0 w R) : Cl Tryz.prog F.frame_may #[f_p0] w R :=
  cl_of_vc (n := 9) (rs := [(.tmp 2)]) (h := (.s .z (.s .z .z))) (args := [f_p0]) (by kernel_rfl) Tryz.func96 rfl (by kernel_rfl) rfl rfl rfl (Eq.mp (by kernel_rfl) h)

/-- baler/frame.number -/
def Vcf.frame_number (P : Program) (s_p0 : Value) (w : World) (R : Value → World → Prop) : Prop   :=
 VLoop 2 [(.int .i64 0), (.int .i64 0)] w fun _ next3 n_1 x_2 w1 =>
 Bp .lss x_2 (.int .i64 4) fun x_4 =>
 Vif x_4 (
 Bp .shl n_1 (.int .u64 8) fun x_5 =>
 Ixs s_p0 x_2 fun x_6 =>
 Ci .i64 x_6 fun x_7 =>
 Bp .or x_5 x_7 fun x_8 =>
 Bp .add x_2 (.int .i64 1) fun x_9 =>
 KE [s_p0] [s_p0] <| next3 x_8 x_9 w1) (
 R n_1 w1)
theorem Tie.frame_number {s_p0 : Value} {w : World} {R : Value → World → Prop} (h : Vcf.frame_number Tryz.prog s_p0 w R) : Cl Tryz.prog F.frame_number #[s_p0] w R :=
  cl_of_vc (n := 17) (rs := [(.tmp 2)]) (h := (.s .z (.s .z (.s (.s .z (.b (.l [3, 5] [0] (.s .z (.s (.i .z .z) (.s (.b (.s .z .z)) .z)))))) (.s .z .z))))) (args := [s_p0]) (by kernel_rfl) Tryz.func97 rfl (by kernel_rfl) rfl rfl rfl (Eq.mp (by kernel_rfl) h)

/-- baler/token.Is -/
def Vcf.token_Is (P : Program) (s_p0 : Value) (w : World) (R : Value → World → Prop) : Prop   :=
 Cl P F.token_First #[s_p0] w fun x_1 w1 =>
 Ex x_1 0 fun x_2 =>
 Ex x_1 1 fun x_3 =>
 Bp .lss x_3 (.int .i64 0) fun x_4 =>
 Vif x_4 (
 Bp .neq s_p0 (.string ⟨#[]⟩) fun x_5 =>
 Vif x_5 (
 Cl P F.token_Len #[s_p0] w1 fun x_6 w2 =>
 Bp .leq x_6 (.int .i64 32) fun x_7 =>
 R x_7 w2) (
 R (.bool false) w1)) (
 R (.bool false) w1)
theorem Tie.token_Is {s_p0 : Value} {w : World} {R : Value → World → Prop} (h : Vcf.token_Is Tryz.prog s_p0 w R) : Cl Tryz.prog F.token_Is #[s_p0] w R :=
  cl_of_vc (n := 21) (rs := [(.tmp 2)]) (h := (.s .z (.s .z (.s .z .z)))) (args := [s_p0]) (by kernel_rfl) Tryz.func100 rfl (by kernel_rfl) rfl rfl rfl (Eq.mp (by kernel_rfl) h)

/-- (baler/parser.Parser).fail -/
def Vcf.parser_Parser_fail (P : Program) (p_p0 e_p1 : Value) (w : World) (R : Value → World → Prop) : Prop   :=
 New (zeroP P 71) 71 w fun x_1 w1 =>
 Nc p_p0 <|
 Fo 2 p_p0 fun x_2 =>
 St x_2 e_p1 w1 fun w2 =>
 Nc p_p0 <|
 Fo 1 p_p0 fun x_3 =>
 St x_3 (.string ⟨#[]⟩) w2 fun w3 =>
 Bd P 71 #[] w3 fun x_4 =>
 StA 3 x_1 x_4 w3 fun w4 =>
 LdA 3 x_1 w4 fun x_5 =>
 R (.tuple #[x_5, (.bool false), e_p1]) w4
theorem Tie.parser_Parser_fail {p_p0 e_p1 : Value} {w : World} {R : Value → World → Prop} (h : Vcf.parser_Parser_fail Tryz.prog p_p0 e_p1 w R) : Cl Tryz.prog F.parser_Parser_fail #[p_p0, e_p1] w R :=
  cl_of_vc (n := 16) (rs := [(.cell 4 71), (.tmp 5), (.tmp 6)]) (h := (.s .z (.s .z (.s .z (.s .z .z))))) (args := [p_p0, e_p1]) (by kernel_rfl) Tryz.func101 rfl (by kernel_rfl) rfl rfl rfl (Eq.mp (by kernel_rfl) h)

/-- (baler/parser.Parser).tooLong -/
def Vcf.parser_Parser_tooLong (P : Program) (p_p0 : Value) (w : World) (R : Value → World → Prop) : Prop   :=
 Nc p_p0 <|
 Fo 1 p_p0 fun x_1 =>
 Ld x_1 w fun x_2 =>
 Lns x_2 fun x_3 =>
 Bp .lss x_3 (.int .i64 9) fun x_4 =>
 Vif x_4 (
 R (.bool false) w) (
 Nc p_p0 <|
 Fo 1 p_p0 fun x_5 =>
 Ld x_5 w fun x_6 =>
 Sst x_6 (some (.int .i64 5)) (some (.int .i64 9)) fun x_7 =>
 Cl P F.frame_Number #[x_7] w fun x_8 w1 =>
 Ex x_8 0 fun x_9 =>
 Ex x_8 1 fun x_10 =>
 Bp .add (.int .i64 9) x_9 fun x_11 =>
 Nc p_p0 <|
 Fo 0 p_p0 fun x_12 =>
 Ld x_12 w1 fun x_13 =>
 Bp .gtr x_11 x_13 fun x_14 =>
 R x_14 w1)
theorem Tie.parser_Parser_tooLong {p_p0 : Value} {w : World} {R : Value → World → Prop} (h : Vcf.parser_Parser_tooLong Tryz.prog p_p0 w R) : Cl Tryz.prog F.parser_Parser_tooLong #[p_p0] w R :=
  cl_of_vc (n := 27) (rs := [(.tmp 2)]) (h := (.s .z (.s (.s .z (.i (.s .z .z) .z)) (.s .z (.s .z .z))))) (args := [p_p0]) (by kernel_rfl) Tryz.func102 rfl (by kernel_rfl) rfl rfl rfl (Eq.mp (by kernel_rfl) h)

/-- (baler/conn.Conn).login -/
def Vcf.conn_Conn_login (P : Program) (c_p0 f_p1 : Value) (w : World) (R : Value → World → Prop) : Prop   :=
 New f_p1 71 w fun f_1 w1 =>
 New (zeroP P 122) 122 w1 fun x_2 w2 =>
 LdA 3 f_1 w2 fun x_3 =>
 Cl P F.proto_Read #[x_3] w2 fun x_4 w3 =>
 Ex x_4 0 fun x_5 =>
 Ex x_4 1 fun x_6 =>
 New (zeroP P 222) 222 w3 fun r_7 w4 =>
 StA 7 r_7 x_5 w4 fun w5 =>
 VJoin 1 (fun _ x_8 w6 =>
 Vif x_8 (
 Fo 1 f_1 fun x_9 =>
 Ld x_9 w6 fun x_10 =>
 Cl P F.conn_refuse #[x_10, (.int .i64 30)] w6 fun x_11 w7 =>
 StA 8 x_2 x_11 w7 fun w8 =>
 LdA 8 x_2 w8 fun x_12 =>
 R x_12 w8) (
 Dr w6 fun w9 =>
 Nc c_p0 <|
 Fo 0 c_p0 fun x_13 =>
 Ld x_13 w9 fun x_14 =>
 Fo 2 r_7 fun x_16 =>
 Ld x_16 w9 fun x_17 =>
 Cl P F.tenants_Find #[x_14, x_17] w9 fun x_19 w10 =>
 Ex x_19 0 fun x_20 =>
 Ex x_19 1 fun x_21 =>
 Bp .neq x_21 (.int .i64 0) fun x_22 =>
 Vif x_22 (
 Fo 1 f_1 fun x_23 =>
 Ld x_23 w10 fun x_24 =>
 Cl P F.conn_refuse #[x_24, x_21] w10 fun x_25 w11 =>
 StA 8 x_2 x_25 w11 fun w12 =>
 LdA 8 x_2 w12 fun x_26 =>
 R x_26 w12) (
 Nc c_p0 <|
 Fo 1 c_p0 fun x_27 =>
 St x_27 x_20 w10 fun w13 =>
 Bd P 122 #[(0, (.int .i64 2)), (2, x_20)] w13 fun x_28 =>
 StA 8 x_2 x_28 w13 fun w14 =>
 LdA 8 x_2 w14 fun x_29 =>
 R x_29 w14)))
 (fun J30 =>
 Bp .neq x_6 (.int .i64 0) fun x_31 =>
 Vif x_31 (
 KE [c_p0, f_1, x_2, r_7] [c_p0, f_1, x_2, r_7] <| J30 (.bool true) w5) (
 Fo 0 r_7 fun x_32 =>
 Ld x_32 w5 fun x_33 =>
 Bp .neq x_33 (.int .i64 1) fun x_34 =>
 KE [c_p0, f_1, x_2, r_7] [c_p0, f_1, x_2, r_7] <| J30 x_34 w5))
theorem Tie.conn_Conn_login {c_p0 f_p1 : Value} {w : World} {R : Value → World → Prop} (h : Vcf.conn_Conn_login Tryz.prog c_p0 f_p1 w R) : Cl Tryz.prog F.conn_Conn_login #[c_p0, f_p1] w R :=
  cl_of_vc (n := 45) (rs := [(.cell 4 122)]) (h := (.s .z (.s .z (.s (.j [19] [0, 3, 4, 5] .z (.i (.s .z .z) .z)) (.s (.r (.staged [0, 1, 3, 7, 0, 16, 63, 127, 255, 255, 511, 2047])) (.s (.s .z (.i (.s .z .z) .z)) (.s .z (.s .z .z)))))))) (args := [c_p0, f_p1]) (by kernel_rfl) Tryz.func103 rfl (by kernel_rfl) rfl rfl rfl (Eq.mp (by kernel_rfl) h)

/-- baler/proto.Read -/
def Vcf.proto_Read (P : Program) (f_p0 : Value) (w : World) (R : Value → World → Prop) : Prop   :=
 New f_p0 71 w fun f_1 w1 =>
 New (zeroP P 222) 222 w1 fun x_2 w2 =>
 Fo 0 f_1 fun x_3 =>
 Ld x_3 w2 fun x_4 =>
 Fo 1 f_1 fun x_5 =>
 Ld x_5 w2 fun x_6 =>
 Bd P 222 #[(0, x_4), (1, x_6)] w2 fun x_7 =>
 New (zeroP P 222) 222 w2 fun r_8 w3 =>
 StA 7 r_8 x_7 w3 fun w4 =>
 LdA 3 f_1 w4 fun x_9 =>
 Cl P F.proto_whole #[x_9] w4 fun x_10 w5 =>
 VJoin 1 (fun _ ok_11 w6 =>
 Up .not ok_11 fun x_12 =>
 Vif x_12 (
 Bd P 222 #[] w6 fun x_13 =>
 StA 7 x_2 x_13 w6 fun w7 =>
 LdA 7 x_2 w7 fun x_14 =>
 R (.tuple #[x_14, (.int .i64 35)]) w7) (
 LdA 7 r_8 w6 fun x_15 =>
 StA 7 x_2 x_15 w6 fun w8 =>
 LdA 7 x_2 w8 fun x_16 =>
 R (.tuple #[x_16, (.int .i64 0)]) w8))
 (fun J17 =>
 Fo 0 f_1 fun x_18 =>
 Ld x_18 w5 fun x_19 =>
 Bp .eql x_19 (.int .i64 1) fun x_20 =>
 Vif x_20 (
 Fo 2 f_1 fun x_21 =>
 Ld x_21 w5 fun x_22 =>
 Fo 2 r_8 fun x_23 =>
 St x_23 x_22 w5 fun w9 =>
 Vif x_10 (
 Fo 1 f_1 fun x_24 =>
 Ld x_24 w9 fun x_25 =>
 Bp .eql x_25 (.int .i64 0) fun x_26 =>
 Vif x_26 (
 Fo 2 f_1 fun x_27 =>
 Ld x_27 w9 fun x_28 =>
 Cl P F.token_Is #[x_28] w9 fun x_29 w10 =>
 KE [x_2, r_8] [x_2, r_8] <| J17 x_29 w10) (
 KE [x_2, r_8] [x_2, r_8] <| J17 (.bool false) w9)) (
 KE [x_2, r_8] [x_2, r_8] <| J17 (.bool false) w9)) (
 Bp .eql x_19 (.int .i64 2) fun x_30 =>
 Vif x_30 (
 Fo 2 f_1 fun x_31 =>
 Ld x_31 w5 fun x_32 =>
 Cl P F.proto_kind #[x_32] w5 fun x_33 w11 =>
 Ex x_33 0 fun x_34 =>
 Ex x_33 1 fun x_35 =>
 Fo 4 r_8 fun x_36 =>
 St x_36 x_34 w11 fun w12 =>
 Fo 5 r_8 fun x_37 =>
 St x_37 x_35 w12 fun w13 =>
 Vif x_10 (
 Bp .neq x_34 (.int .i64 0) fun x_38 =>
 KE [x_2, r_8] [x_2, r_8] <| J17 x_38 w13) (
 KE [x_2, r_8] [x_2, r_8] <| J17 (.bool false) w13)) (
 Bp .eql x_19 (.int .i64 3) fun x_39 =>
 Vif x_39 (
 Fo 2 f_1 fun x_40 =>
 Ld x_40 w5 fun x_41 =>
 Fo 3 r_8 fun x_42 =>
 St x_42 x_41 w5 fun w14 =>
 KE [x_2, r_8] [x_2, r_8] <| J17 x_10 w14) (
 VJoin 1 (fun _ x_43 w15 =>
 Vif x_43 (
 Vif x_10 (
 Fo 2 f_1 fun x_44 =>
 Ld x_44 w15 fun x_45 =>
 Bp .eql x_45 (.string ⟨#[]⟩) fun x_46 =>
 KE [x_2, r_8] [x_2, r_8] <| J17 x_46 w15) (
 KE [x_2, r_8] [x_2, r_8] <| J17 (.bool false) w15)) (
 Bp .eql x_19 (.int .i64 6) fun x_47 =>
 Vif x_47 (
 Fo 2 f_1 fun x_48 =>
 Ld x_48 w15 fun x_49 =>
 Cl P F.frame_Number #[x_49] w15 fun x_50 w16 =>
 Ex x_50 0 fun x_51 =>
 Ex x_50 1 fun x_52 =>
 Fo 6 r_8 fun x_53 =>
 St x_53 x_51 w16 fun w17 =>
 Vif x_10 (
 Bp .eql x_52 (.int .i64 0) fun x_54 =>
 KE [x_2, r_8] [x_2, r_8] <| J17 x_54 w17) (
 KE [x_2, r_8] [x_2, r_8] <| J17 (.bool false) w17)) (
 Bp .eql x_19 (.int .i64 7) fun x_55 =>
 Vif x_55 (
 Vif x_10 (
 Fo 1 f_1 fun x_56 =>
 Ld x_56 w15 fun x_57 =>
 Bp .eql x_57 (.int .i64 0) fun x_58 =>
 Vif x_58 (
 Fo 2 f_1 fun x_59 =>
 Ld x_59 w15 fun x_60 =>
 Bp .eql x_60 (.string ⟨#[]⟩) fun x_61 =>
 KE [x_2, r_8] [x_2, r_8] <| J17 x_61 w15) (
 KE [x_2, r_8] [x_2, r_8] <| J17 (.bool false) w15)) (
 KE [x_2, r_8] [x_2, r_8] <| J17 (.bool false) w15)) (
 KE [x_2, r_8] [x_2, r_8] <| J17 (.bool false) w15))))
 (fun J62 =>
 Bp .eql x_19 (.int .i64 4) fun x_63 =>
 Vif x_63 (
 KE [f_1, x_2, r_8, x_10, x_19] [f_1, x_2, r_8, x_10, x_19] <| J62 x_63 w5) (
 Bp .eql x_19 (.int .i64 5) fun x_64 =>
 KE [f_1, x_2, r_8, x_10, x_19] [f_1, x_2, r_8, x_10, x_19] <| J62 x_64 w5))))))
theorem Tie.proto_Read {f_p0 : Value} {w : World} {R : Value → World → Prop} (h : Vcf.proto_Read Tryz.prog f_p0 w R) : Cl Tryz.prog F.proto_Read #[f_p0] w R :=
  cl_of_vc (n := 98) (rs := [(.cell 2 222), (.tmp 3)]) (h := (.s .z (.s .z (.s .z (.j [5] [2, 4] (.s .z (.b (.s .z (.i (.s .z .z) (.s .z (.i (.s .z (.s .z (.s .z .z))) (.s .z (.i .z (.j [57] [1, 2, 4, 5, 18] (.s .z (.i .z .z)) (.i .z (.s .z (.i (.s .z (.s .z .z)) (.s .z (.i .z .z)))))))))))))) (.s (.s .z (.i (.s .z .z) .z)) (.s .z .z))))))) (args := [f_p0]) (by kernel_rfl) Tryz.func104 rfl (by kernel_rfl) rfl rfl rfl (Eq.mp (by kernel_rfl) h)

/-- baler/conn.refuse -/
def Vcf.conn_refuse (P : Program) (job_p0 e_p1 : Value) (w : World) (R : Value → World → Prop) : Prop   :=
 New (zeroP P 122) 122 w fun x_1 w1 =>
 Bd P 122 #[(0, (.int .i64 1)), (1, job_p0), (7, e_p1)] w1 fun x_2 =>
 StA 8 x_1 x_2 w1 fun w2 =>
 LdA 8 x_1 w2 fun x_3 =>
 R x_3 w2
theorem Tie.conn_refuse {job_p0 e_p1 : Value} {w : World} {R : Value → World → Prop} (h : Vcf.conn_refuse Tryz.prog job_p0 e_p1 w R) : Cl Tryz.prog F.conn_refuse #[job_p0, e_p1] w R :=
  cl_of_vc (n := 8) (rs := [(.cell 4 122)]) (h := (.s .z (.s .z .z))) (args := [job_p0, e_p1]) (by kernel_rfl) Tryz.func105 rfl (by kernel_rfl) rfl rfl rfl (Eq.mp (by kernel_rfl) h)

/-- baler/frame.Client -/
def Vcf.frame_Client (P : Program) (f_p0 : Value) (w : World) (R : Value → World → Prop) : Prop   :=
 New f_p0 71 w fun f_1 w1 =>
 Fo 0 f_1 fun x_2 =>
 Ld x_2 w1 fun x_3 =>
 Bp .geq x_3 (.int .i64 1) fun x_4 =>
 Vif x_4 (
 Fo 0 f_1 fun x_5 =>
 Ld x_5 w1 fun x_6 =>
 Bp .leq x_6 (.int .i64 7) fun x_7 =>
 R x_7 w1) (
 R (.bool false) w1)
theorem Tie.frame_Client {f_p0 : Value} {w : World} {R : Value → World → Prop} (h : Vcf.frame_Client Tryz.prog f_p0 w R) : Cl Tryz.prog F.frame_Client #[f_p0] w R :=
  cl_of_vc (n := 11) (rs := [(.tmp 2)]) (h := (.s .z (.s .z .z))) (args := [f_p0]) (by kernel_rfl) Tryz.func131 rfl (by kernel_rfl) rfl rfl rfl (Eq.mp (by kernel_rfl) h)

/-- baler/frame.Server -/
def Vcf.frame_Server (P : Program) (f_p0 : Value) (w : World) (R : Value → World → Prop) : Prop   :=
 New f_p0 71 w fun f_1 w1 =>
 Fo 0 f_1 fun x_2 =>
 Ld x_2 w1 fun x_3 =>
 Bp .geq x_3 (.int .i64 65) fun x_4 =>
 Vif x_4 (
 Fo 0 f_1 fun x_5 =>
 Ld x_5 w1 fun x_6 =>
 Bp .leq x_6 (.int .i64 70) fun x_7 =>
 R x_7 w1) (
 R (.bool false) w1)
theorem Tie.frame_Server {f_p0 : Value} {w : World} {R : Value → World → Prop} (h : Vcf.frame_Server Tryz.prog f_p0 w R) : Cl Tryz.prog F.frame_Server #[f_p0] w R :=
  cl_of_vc (n := 11) (rs := [(.tmp 2)]) (h := (.s .z (.s .z .z))) (args := [f_p0]) (by kernel_rfl) Tryz.func132 rfl (by kernel_rfl) rfl rfl rfl (Eq.mp (by kernel_rfl) h)

/-- baler/token.First -/
def Vcf.token_First (P : Program) (s_p0 : Value) (w : World) (R : Value → World → Prop) : Prop   :=
 Rg P 9 s_p0 w fun x_1 w1 =>
 VLoop 0 [] w1 fun _ next2 w2 =>
 Nx P x_1 true 0 w2 fun x_3 w3 =>
 Ex x_3 0 fun x_4 =>
 Vif x_4 (
 Ex x_3 1 fun x_5 =>
 Ex x_3 2 fun x_6 =>
 Cl P F.token_told #[s_p0, x_5, x_6] w3 fun x_7 w4 =>
 Cl P F.token_may #[x_7] w4 fun x_8 w5 =>
 Up .not x_8 fun x_9 =>
 Vif x_9 (
 R (.tuple #[x_7, x_5]) w5) (
 KE [s_p0, x_1] [s_p0, x_1] <| next2 w5)) (
 R (.tuple #[(.int .i64 0), (.int .i64 (-1))]) w3)
theorem Tie.token_First {s_p0 : Value} {w : World} {R : Value → World → Prop} (h : Vcf.token_First Tryz.prog s_p0 w R) : Cl Tryz.prog F.token_First #[s_p0] w R :=
  cl_of_vc (n := 22) (rs := [(.tmp 2), (.tmp 3)]) (h := (.s .z (.s (.s .z (.b (.l [] [0, 8] (.s .z (.s (.i .z .z) (.b (.s .z (.s .z (.s .z (.i (.s .z .z) .z)))))))))) (.s .z .z)))) (args := [s_p0]) (by kernel_rfl) Tryz.func134 rfl (by kernel_rfl) rfl rfl rfl (Eq.mp (by kernel_rfl) h)

/-- baler/token.Len -/
def Vcf.token_Len (P : Program) (s_p0 : Value) (w : World) (R : Value → World → Prop) : Prop   :=
 Rg P 9 s_p0 w fun x_1 w1 =>
 VLoop 1 [(.int .i64 0)] w1 fun _ next3 n_2 w2 =>
 Nx P x_1 true 0 w2 fun x_4 w3 =>
 Ex x_4 0 fun x_5 =>
 Vif x_5 (
 Bp .add n_2 (.int .i64 1) fun x_6 =>
 KE [x_1] [x_1] <| next3 x_6 w3) (
 R n_2 w3)
theorem Tie.token_Len {s_p0 : Value} {w : World} {R : Value → World → Prop} (h : Vcf.token_Len Tryz.prog s_p0 w R) : Cl Tryz.prog F.token_Len #[s_p0] w R :=
  cl_of_vc (n := 11) (rs := [(.tmp 2)]) (h := (.s .z (.s .z (.s (.s .z (.b (.l [3] [5] (.s .z (.s (.i .z .z) (.b .z)))))) (.s .z .z))))) (args := [s_p0]) (by kernel_rfl) Tryz.func135 rfl (by kernel_rfl) rfl rfl rfl (Eq.mp (by kernel_rfl) h)

/-- baler/frame.Number -/
def Vcf.frame_Number (P : Program) (s_p0 : Value) (w : World) (R : Value → World → Prop) : Prop   :=
 Lns s_p0 fun x_1 =>
 Bp .neq x_1 (.int .i64 4) fun x_2 =>
 Vif x_2 (
 R (.tuple #[(.int .i64 0), (.int .i64 1)]) w) (
 Cl P F.frame_number #[s_p0] w fun x_3 w1 =>
 R (.tuple #[x_3, (.int .i64 0)]) w1)
theorem Tie.frame_Number {s_p0 : Value} {w : World} {R : Value → World → Prop} (h : Vcf.frame_Number Tryz.prog s_p0 w R) : Cl Tryz.prog F.frame_Number #[s_p0] w R :=
  cl_of_vc (n := 9) (rs := [(.tmp 2), (.tmp 3)]) (h := (.s .z (.s (.s .z (.i (.s .z .z) .z)) (.s .z .z)))) (args := [s_p0]) (by kernel_rfl) Tryz.func136 rfl (by kernel_rfl) rfl rfl rfl (Eq.mp (by kernel_rfl) h)

/-- baler/tenants.Find -/
def Vcf.tenants_Find (P : Program) (l_p0 key_p1 : Value) (w : World) (R : Value → World → Prop) : Prop   :=
 Lnl l_p0 fun x_1 =>
 VLoop 2 [(.int .i64 (-1)), (.int .i64 0)] w fun _ next4 at_2 x_3 w1 =>
 Bp .lss x_3 x_1 fun x_5 =>
 Vif x_5 (
 Ias 5 l_p0 x_3 fun x_6 =>
 LdA 5 x_6 w1 fun x_7 =>
 New (zeroP P 68) 68 w1 fun t_8 w2 =>
 StA 5 t_8 x_7 w2 fun w3 =>
 VJoin 1 (fun _ x_9 w4 =>
 Vif x_9 (
 Bp .add x_3 (.int .i64 1) fun x_10 =>
 KE [key_p1, l_p0, x_1] [key_p1, l_p0, x_1] <| next4 x_3 x_10 w4) (
 Bp .add x_3 (.int .i64 1) fun x_11 =>
 KE [key_p1, l_p0, x_1] [key_p1, l_p0, x_1] <| next4 at_2 x_11 w4))
 (fun J12 =>
 Fo 1 t_8 fun x_13 =>
 Ld x_13 w3 fun x_14 =>
 Cl P F.token_Same #[x_14, key_p1] w3 fun x_15 w5 =>
 Vif x_15 (
 Bp .eql at_2 (.int .i64 (-1)) fun x_16 =>
 KE [key_p1, at_2, x_3, l_p0, x_1, x_3] [key_p1, at_2, x_3, l_p0, x_1, x_3] <| J12 x_16 w5) (
 KE [key_p1, at_2, x_3, l_p0, x_1, x_3] [key_p1, at_2, x_3, l_p0, x_1, x_3] <| J12 (.bool false) w5))) (
 Bp .eql at_2 (.int .i64 (-1)) fun x_17 =>
 Vif x_17 (
 R (.tuple #[(.int .i64 0), (.int .i64 30)]) w1) (
 R (.tuple #[at_2, (.int .i64 0)]) w1))
theorem Tie.tenants_Find {l_p0 key_p1 : Value} {w : World} {R : Value → World → Prop} (h : Vcf.tenants_Find Tryz.prog l_p0 key_p1 w R) : Cl Tryz.prog F.tenants_Find #[l_p0, key_p1] w R :=
  cl_of_vc (n := 29) (rs := [(.tmp 4), (.tmp 5)]) (h := (.s .z (.s .z (.s (.s .z (.b (.l [6, 11] [1, 9, 10] (.s .z (.s (.i .z .z) (.s (.b (.s .z (.j [23] [1, 6, 7, 9, 10, 11] .z (.i .z .z)))) .z)))))) (.s (.s .z (.i (.s .z .z) .z)) (.s .z .z)))))) (args := [l_p0, key_p1]) (by kernel_rfl) Tryz.func137 rfl (by kernel_rfl) rfl rfl rfl (Eq.mp (by kernel_rfl) h)

/-- baler/proto.kind -/
def Vcf.proto_kind (P : Program) (s_p0 : Value) (w : World) (R : Value → World → Prop) : Prop   :=
 Bp .eql s_p0 (.string ⟨#[120]⟩) fun x_1 =>
 Vif x_1 (
 R (.tuple #[(.int .i64 2), (.int .i64 0)]) w) (
 Bp .eql s_p0 (.string ⟨#[116]⟩) fun x_2 =>
 Vif x_2 (
 R (.tuple #[(.int .i64 3), (.int .i64 0)]) w) (
 VJoin 1 (fun _ x_3 w1 =>
 Vif x_3 (
 Dr w1 fun w2 =>
 Ixs s_p0 (.int .i64 1) fun x_4 =>
 Bp .sub x_4 (.int .u8 48) fun x_5 =>
 Ci .i64 x_5 fun x_6 =>
 R (.tuple #[(.int .i64 1), x_6]) w2) (
 R (.tuple #[(.int .i64 0), (.int .i64 0)]) w1))
 (fun J7 =>
 Lns s_p0 fun x_8 =>
 Bp .eql x_8 (.int .i64 2) fun x_9 =>
 Vif x_9 (
 Ixs s_p0 (.int .i64 0) fun x_10 =>
 Bp .eql x_10 (.int .u8 99) fun x_11 =>
 Vif x_11 (
 Ixs s_p0 (.int .i64 1) fun x_12 =>
 Bp .geq x_12 (.int .u8 49) fun x_13 =>
 Vif x_13 (
 Ixs s_p0 (.int .i64 1) fun x_14 =>
 Bp .leq x_14 (.int .u8 57) fun x_15 =>
 KE [s_p0] [s_p0] <| J7 x_15 w) (
 KE [s_p0] [s_p0] <| J7 (.bool false) w)) (
 KE [s_p0] [s_p0] <| J7 (.bool false) w)) (
 KE [s_p0] [s_p0] <| J7 (.bool false) w))))
theorem Tie.proto_kind {s_p0 : Value} {w : World} {R : Value → World → Prop} (h : Vcf.proto_kind Tryz.prog s_p0 w R) : Cl Tryz.prog F.proto_kind #[s_p0] w R :=
  cl_of_vc (n := 33) (rs := [(.tmp 2), (.tmp 3)]) (h := (.s .z (.s (.b (.s .z (.i (.s .z .z) (.s .z (.i (.s .z .z) (.j [10] [0] .z (.i (.s (.r (.staged [0, 1, 3, 7, 0, 31])) .z) .z))))))) (.s .z .z)))) (args := [s_p0]) (by kernel_rfl) Tryz.func138 rfl (by kernel_rfl) rfl rfl rfl (Eq.mp (by kernel_rfl) h)

/-- baler/token.told -/
def Vcf.token_told (P : Program) (s_p0 at_p1 c_p2 : Value) (w : World) (R : Value → World → Prop) : Prop   :=
 Bp .eql c_p2 (.int .i32 65533) fun x_1 =>
 Vif x_1 (
 Sst s_p0 (some at_p1) none fun x_2 =>
 Cl P F.unicode_utf8_DecodeRuneInString #[x_2] w fun x_3 w1 =>
 Ex x_3 0 fun x_4 =>
 Ex x_3 1 fun x_5 =>
 Bp .eql x_5 (.int .i64 1) fun x_6 =>
 Vif x_6 (
 R (.int .i64 (-1)) w1) (
 Ci .i64 c_p2 fun x_7 =>
 R x_7 w1)) (
 Ci .i64 c_p2 fun x_8 =>
 R x_8 w)
theorem Tie.token_told {s_p0 at_p1 c_p2 : Value} {w : World} {R : Value → World → Prop} (h : Vcf.token_told Tryz.prog s_p0 at_p1 c_p2 w R) : Cl Tryz.prog F.token_told #[s_p0, at_p1, c_p2] w R :=
  cl_of_vc (n := 22) (rs := [(.tmp 6)]) (h := (.s .z (.s (.s .z (.i (.s .z (.s .z (.i (.s .z .z) .z))) .z)) (.s .z .z)))) (args := [s_p0, at_p1, c_p2]) (by kernel_rfl) Tryz.func167 rfl (by kernel_rfl) rfl rfl rfl (Eq.mp (by kernel_rfl) h)

/-- baler/token.may -/
def Vcf.token_may (P : Program) (n_p0 : Value) (w : World) (R : Value → World → Prop) : Prop   :=
 Bp .gtr n_p0 (.int .i64 32) fun x_1 =>
 Vif x_1 (
 Bp .lss n_p0 (.int .i64 127) fun x_2 =>
 Vif x_2 (
 Bp .neq n_p0 (.int .i64 58) fun x_3 =>
 Vif x_3 (
 Bp .neq n_p0 (.int .i64 35) fun x_4 =>
 R x_4 w) (
 R (.bool false) w)) (
 Bp .gtr n_p0 (.int .i64 160) fun x_5 =>
 Vif x_5 (
 Bp .neq n_p0 (.int .i64 58) fun x_6 =>
 Vif x_6 (
 Bp .neq n_p0 (.int .i64 35) fun x_7 =>
 R x_7 w) (
 R (.bool false) w)) (
 R (.bool false) w))) (
 R (.bool false) w)
theorem Tie.token_may {n_p0 : Value} {w : World} {R : Value → World → Prop} (h : Vcf.token_may Tryz.prog n_p0 w R) : Cl Tryz.prog F.token_may #[n_p0] w R :=
  cl_of_vc (n := 21) (rs := [(.tmp 2)]) (h := (.s .z (.s .z .z))) (args := [n_p0]) (by kernel_rfl) Tryz.func168 rfl (by kernel_rfl) rfl rfl rfl (Eq.mp (by kernel_rfl) h)

/-- baler/token.Same -/
def Vcf.token_Same (P : Program) (a_p0 b_p1 : Value) (w : World) (R : Value → World → Prop) : Prop   :=
 Lns a_p0 fun x_1 =>
 Lns b_p1 fun x_2 =>
 Bmin P #[3, 3] 3 #[x_1, x_2] w fun x_3 =>
 VLoop 2 [(.int .u8 0), (.int .i64 0)] w fun _ next6 unlike_4 x_5 w1 =>
 Bp .lss x_5 x_3 fun x_7 =>
 Vif x_7 (
 Dr w1 fun w2 =>
 Ixs a_p0 x_5 fun x_8 =>
 Ixs b_p1 x_5 fun x_9 =>
 Bp .xor x_8 x_9 fun x_10 =>
 Bp .or unlike_4 x_10 fun x_11 =>
 Bp .add x_5 (.int .i64 1) fun x_12 =>
 KE [a_p0, b_p1, x_3] [a_p0, b_p1, x_3] <| next6 x_11 x_12 w2) (
 Bp .eql unlike_4 (.int .u8 0) fun x_13 =>
 Vif x_13 (
 Lns a_p0 fun x_14 =>
 Lns b_p1 fun x_15 =>
 Bp .eql x_14 x_15 fun x_16 =>
 R x_16 w1) (
 R (.bool false) w1))
theorem Tie.token_Same {a_p0 b_p1 : Value} {w : World} {R : Value → World → Prop} (h : Vcf.token_Same Tryz.prog a_p0 b_p1 w R) : Cl Tryz.prog F.token_Same #[a_p0, b_p1] w R :=
  cl_of_vc (n := 34) (rs := [(.tmp 4)]) (h := (.s .z (.s .z (.s (.s .z (.b (.l [5, 12] [0, 1, 11] (.s .z (.s (.i .z .z) (.s (.b (.s .z (.r (.staged [0, 0, 0, 6, 0, 0, 48, 126, 255, 511])))) .z)))))) (.s .z .z))))) (args := [a_p0, b_p1]) (by kernel_rfl) Tryz.func169 rfl (by kernel_rfl) rfl rfl rfl (Eq.mp (by kernel_rfl) h)

end Go.Proofs.YtbhbdleffackaaaGreatDoor
