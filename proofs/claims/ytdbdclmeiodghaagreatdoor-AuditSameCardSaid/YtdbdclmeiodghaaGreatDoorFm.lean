/- Formulas of the program's functions, printed by a program of the prover's own (dec.py); each is tied to its code by the kernel. -/
import Derived.Test.YtdbdclmeiodghaaGreatDoorVc
import Derived.Test.YtdbdclmeiodghaaGreatDoorChecked
set_option linter.unusedVariables false
set_option maxRecDepth 1000000
namespace Go.Proofs.YtdbdclmeiodghaaGreatDoor
open Go Go.Vc

abbrev F.main_main : Nat := 0
abbrev F.gosem_cut : Nat := 1
abbrev F.gosem_cut_init : Nat := 2
abbrev F.balerlaw40_ServerNil : Nat := 3
abbrev F.balerlaw44_AuditSame : Nat := 4
abbrev F.balerlaw48_DeskNil : Nat := 5
abbrev F.server_Server_Deliver : Nat := 6
abbrev F.server_Server_Tick : Nat := 7
abbrev F.server_Server_Close : Nat := 8
abbrev F.server_Server_Sent : Nat := 9
abbrev F.server_Server_Waits : Nat := 10
abbrev F.server_Server_Over : Nat := 11
abbrev F.server_Server_Used : Nat := 12
abbrev F.server_Server_Held : Nat := 13
abbrev F.server_Server_Left : Nat := 14
abbrev F.server_Server_Jobs : Nat := 15
abbrev F.server_Server_Charged : Nat := 16
abbrev F.server_Server_At : Nat := 17
abbrev F.server_Server_Idle : Nat := 18
abbrev F.balerlaw40_test : Nat := 19
abbrev F.balerlaw44_looks : Nat := 20
abbrev F.balerplain_Ints : Nat := 21
abbrev F.audit_Same : Nat := 22
abbrev F.audit_Report_Clean : Nat := 23
abbrev F.desk_Desk_Do : Nat := 24
abbrev F.desk_Desk_Started : Nat := 25
abbrev F.balerlaw48_same : Nat := 26
abbrev F.desk_Desk_Config : Nat := 27
abbrev F.balerlaw48_ann : Nat := 28
abbrev F.server_numbered : Nat := 29
abbrev F.server_Server_line : Nat := 30
abbrev F.parser_Parser_Feed : Nat := 31
abbrev F.server_Server_run : Nat := 32
abbrev F.drr_Scheduler_Next : Nat := 33
abbrev F.window_Meter_All : Nat := 34
abbrev F.jobs_Table_Get : Nat := 35
abbrev F.job_Job_Step : Nat := 36
abbrev F.window_Meter_Charge : Nat := 37
abbrev F.drr_Scheduler_Spent : Nat := 38
abbrev F.job_Job_Stopped : Nat := 39
abbrev F.server_Server_after : Nat := 40
abbrev F.window_Meter_Tick : Nat := 41
abbrev F.server_Server_end : Nat := 42
abbrev F.server_Server_known : Nat := 43
abbrev F.strings_Builder_String : Nat := 44
abbrev F.ledger_Ledger_Used : Nat := 45
abbrev F.jobs_Table_By : Nat := 46
abbrev F.job_Job_Held : Nat := 47
abbrev F.window_Meter_Left : Nat := 48
abbrev F.window_Meter_Total : Nat := 49
abbrev F.window_Meter_At : Nat := 50
abbrev F.drr_Scheduler_Ring : Nat := 51
abbrev F.server_New : Nat := 52
abbrev F.balerlaw40_little : Nat := 53
abbrev F.balerlaw40_request : Nat := 54
abbrev F.balerlaw40_bytes : Nat := 55
abbrev F.audit_Run : Nat := 56
abbrev F.balerlaw44_little : Nat := 57
abbrev F.audit_Same_1 : Nat := 58
abbrev F.slices_Equal_int_int : Nat := 59
abbrev F.strings_Split : Nat := 60
abbrev F.desk_Desk_prepare : Nat := 61
abbrev F.desk_Desk_run : Nat := 62
abbrev F.desk_Desk_talk : Nat := 63
abbrev F.balerref32_Same : Nat := 64
abbrev F.slices_Clone_api_Tenant_api_Tenant : Nat := 65
abbrev F.balerplain_Texts : Nat := 66
abbrev F.desk_Play : Nat := 67
abbrev F.parser_New : Nat := 68
abbrev F.conn_New : Nat := 69
abbrev F.parser_Parser_Next : Nat := 70
abbrev F.server_line_refuse : Nat := 71
abbrev F.conn_Conn_Step : Nat := 72
abbrev F.server_Server_do : Nat := 73
abbrev F.queue_Queue_Len : Nat := 74
abbrev F.queue_Queue_Front : Nat := 75
abbrev F.queue_Queue_Rotate : Nat := 76
abbrev F.jobs_Table_place : Nat := 77
abbrev F.jobs_Table_Get_1 : Nat := 78
abbrev F.window_Meter_is : Nat := 79
abbrev F.window_may : Nat := 80
abbrev F.drr_Scheduler_first : Nat := 81
abbrev F.drr_Scheduler_of : Nat := 82
abbrev F.drr_Scheduler_out : Nat := 83
abbrev F.upload_Flow_Move : Nat := 84
abbrev F.upload_Flow_Rest : Nat := 85
abbrev F.results_Stream_Next : Nat := 86
abbrev F.server_line_send : Nat := 87
abbrev F.job_Job_Finished : Nat := 88
abbrev F.job_Job_Err : Nat := 89
abbrev F.server_Server_drop : Nat := 90
abbrev F.drr_Scheduler_Add : Nat := 91
abbrev F.window_Meter_Begins : Nat := 92
abbrev F.jobs_Table_Of : Nat := 93
abbrev F.ledger_Ledger_read : Nat := 94
abbrev F.ledger_Ledger_Used_1 : Nat := 95
abbrev F.jobs_Table_handles : Nat := 96
abbrev F.jobs_Table_By_1 : Nat := 97
abbrev F.job_Job_failed : Nat := 98
abbrev F.queue_Queue_All : Nat := 99
abbrev F.tenants_Config : Nat := 100
abbrev F.jobs_New : Nat := 101
abbrev F.ledger_New : Nat := 102
abbrev F.server_each : Nat := 103
abbrev F.server_New_1 : Nat := 104
abbrev F.window_New : Nat := 105
abbrev F.server_New_2 : Nat := 106
abbrev F.drr_New : Nat := 107
abbrev F.server_New_3 : Nat := 108
abbrev F.balerref33_Encode : Nat := 109
abbrev F.script_Check : Nat := 110
abbrev F.audit_watch_play : Nat := 111
abbrev F.strings_genSplit : Nat := 112
abbrev F.desk_Desk_when : Nat := 113
abbrev F.desk_Desk_start : Nat := 114
abbrev F.tenants_Parse : Nat := 115
abbrev F.desk_Desk_prepare_1 : Nat := 116
abbrev F.desk_Desk_tenant : Nat := 117
abbrev F.desk_Desk_set : Nat := 118
abbrev F.desk_number : Nat := 119
abbrev F.desk_Desk_all : Nat := 120
abbrev F.desk_Desk_run_1 : Nat := 121
abbrev F.desk_Desk_tick : Nat := 122
abbrev F.desk_Desk_run_2 : Nat := 123
abbrev F.desk_Desk_close : Nat := 124
abbrev F.desk_bytes : Nat := 125
abbrev F.desk_asked : Nat := 126
abbrev F.desk_Desk_talk_1 : Nat := 127
abbrev F.desk_Desk_say : Nat := 128
abbrev F.desk_New : Nat := 129
abbrev F.tenants_Check : Nat := 130
abbrev F.frame_Decode : Nat := 131
abbrev F.parser_Parser_fail : Nat := 132
abbrev F.parser_Parser_tooLong : Nat := 133
abbrev F.conn_Conn_login : Nat := 134
abbrev F.proto_Read : Nat := 135
abbrev F.conn_refuse : Nat := 136
abbrev F.conn_Conn_act : Nat := 137
abbrev F.server_Server_status : Nat := 138
abbrev F.conn_Conn_Tenant : Nat := 139
abbrev F.server_Server_open : Nat := 140
abbrev F.server_Server_use : Nat := 141
abbrev F.queue_Queue_Pop : Nat := 142
abbrev F.slices_IndexFunc_jobs_live_jobs_live : Nat := 143
abbrev F.jobs_Table_all : Nat := 144
abbrev F.queue_Queue_Remove : Nat := 145
abbrev F.job_Job_Done : Nat := 146
abbrev F.job_Job_Feed : Nat := 147
abbrev F.job_Job_End : Nat := 148
abbrev F.results_Stream_next : Nat := 149
abbrev F.job_Job_Take : Nat := 150
abbrev F.proto_Write : Nat := 151
abbrev F.frame_Encode : Nat := 152
abbrev F.strings_Builder_WriteString : Nat := 153
abbrev F.job_Job_Waiting : Nat := 154
abbrev F.jobs_Table_Drop : Nat := 155
abbrev F.drr_Scheduler_Remove : Nat := 156
abbrev F.ledger_Ledger_Release : Nat := 157
abbrev F.drr_Scheduler_whose : Nat := 158
abbrev F.queue_Queue_Push : Nat := 159
abbrev F.jobs_Table_Of_1 : Nat := 160
abbrev F.ledger_Ledger_of : Nat := 161
abbrev F.slices_Clone_int_int : Nat := 162
abbrev F.tenants_between : Nat := 163
abbrev F.slices_ContainsFunc_int_int : Nat := 164
abbrev F.ledger_New_1 : Nat := 165
abbrev F.ledger_may : Nat := 166
abbrev F.window_New_1 : Nat := 167
abbrev F.drr_New_1 : Nat := 168
abbrev F.drr_many : Nat := 169
abbrev F.balerref33_Four : Nat := 170
abbrev F.slices_ContainsFunc_string_string : Nat := 171
abbrev F.script_Check_1 : Nat := 172
abbrev F.script_event : Nat := 173
abbrev F.audit_watch_tick : Nat := 174
abbrev F.audit_watch_look : Nat := 175
abbrev F.strings_explode : Nat := 176
abbrev F.strings_Count : Nat := 177
abbrev F.strings_Index : Nat := 178
abbrev F.tenants_tenant : Nat := 179
abbrev F.tenants_again : Nat := 180
abbrev F.desk_Desk_field : Nat := 181
abbrev F.desk_Desk_set_1 : Nat := 182
abbrev F.desk_Desk_all_1 : Nat := 183
abbrev F.tester_Digits : Nat := 184
abbrev F.strings_Join : Nat := 185
abbrev F.strings_IndexByte : Nat := 186
abbrev F.desk_request : Nat := 187
abbrev F.proto_Ask : Nat := 188
abbrev F.proto_Answers : Nat := 189
abbrev F.desk_line : Nat := 190
abbrev F.tenants_May : Nat := 191
abbrev F.frame_may : Nat := 192
abbrev F.frame_number : Nat := 193
abbrev F.frame_Number : Nat := 194
abbrev F.tenants_Find : Nat := 195
abbrev F.proto_whole : Nat := 196
abbrev F.token_Is : Nat := 197
abbrev F.proto_kind : Nat := 198
abbrev F.conn_Conn_open : Nat := 199
abbrev F.conn_Conn_over : Nat := 200
abbrev F.conn_Conn_use : Nat := 201
abbrev F.server_join : Nat := 202
abbrev F.ledger_Ledger_Limit : Nat := 203
abbrev F.job_Need : Nat := 204
abbrev F.server_Server_admitted : Nat := 205
abbrev F.job_New : Nat := 206
abbrev F.upload_New : Nat := 207
abbrev F.results_New : Nat := 208
abbrev F.jobs_Table_Add : Nat := 209
abbrev F.jobs_Table_Find : Nat := 210
abbrev F.upload_Flow_Put : Nat := 211
abbrev F.upload_Flow_End : Nat := 212
abbrev F.results_Stream_Grant : Nat := 213
abbrev F.queue_without_int : Nat := 214
abbrev F.slices_Index_int_int : Nat := 215
abbrev F.results_least : Nat := 216
abbrev F.proto_Hear : Nat := 217
abbrev F.frame_put : Nat := 218
abbrev F.strings_Builder_copyCheck : Nat := 219
abbrev F.slices_DeleteFunc_jobs_live_jobs_live : Nat := 220
abbrev F.slices_Clone_jobs_live_jobs_live : Nat := 221
abbrev F.jobs_Table_Drop_1 : Nat := 222
abbrev F.slices_IndexFunc_drr_tenant_drr_tenant : Nat := 223
abbrev F.drr_Scheduler_whose_1 : Nat := 224
abbrev F.queue_Queue_Has : Nat := 225
abbrev F.slices_IndexFunc_int_int : Nat := 226
abbrev F.queue_New : Nat := 227
abbrev F.slices_IndexFunc_string_string : Nat := 228
abbrev F.audit_watch_tenant : Nat := 229
abbrev F.audit_count : Nat := 230
abbrev F.strings_HasPrefix : Nat := 231
abbrev F.unicode_utf8_RuneCountInString : Nat := 232
abbrev F.unicode_utf8_DecodeRuneInString : Nat := 233
abbrev F.internal_bytealg_CountString : Nat := 234
abbrev F.internal_stringslite_Index : Nat := 235
abbrev F.tenants_number : Nat := 236
abbrev F.tenants_line : Nat := 237
abbrev F.strings_Builder_Grow : Nat := 238
abbrev F.internal_stringslite_IndexByte : Nat := 239
abbrev F.desk_typeOf : Nat := 240
abbrev F.desk_words : Nat := 241
abbrev F.desk_kind : Nat := 242
abbrev F.proto_data : Nat := 243
abbrev F.frame_All : Nat := 244
abbrev F.desk_hexed : Nat := 245
abbrev F.frame_Client : Nat := 246
abbrev F.frame_Server : Nat := 247
abbrev F.token_Same : Nat := 248
abbrev F.token_First : Nat := 249
abbrev F.token_Len : Nat := 250
abbrev F.ledger_Ledger_Limit_1 : Nat := 251
abbrev F.press_Need : Nat := 252
abbrev F.unpress_Need : Nat := 253
abbrev F.tester_Need : Nat := 254
abbrev F.jobs_Table_Len : Nat := 255
abbrev F.ledger_Ledger_Reserve : Nat := 256
abbrev F.job_machineOf : Nat := 257
abbrev F.jobs_Table_Find_1 : Nat := 258
abbrev F.internal_abi_NoEscape : Nat := 259
abbrev F.slices_Contains_int_int : Nat := 260
abbrev F.internal_stringslite_HasPrefix : Nat := 261
abbrev F.unicode_utf8_decodeRuneInStringSlow : Nat := 262
abbrev F.internal_bytealg_IndexString : Nat := 263
abbrev F.internal_bytealg_Cutover : Nat := 264
abbrev F.internal_bytealg_IndexRabinKarp_string : Nat := 265
abbrev F.strings_Builder_grow : Nat := 266
abbrev F.internal_bytealg_IndexByteString : Nat := 267
abbrev F.slices_Index_string_string : Nat := 268
abbrev F.frame_Four : Nat := 269
abbrev F.token_told : Nat := 270
abbrev F.token_may : Nat := 271
abbrev F.split_Room : Nat := 272
abbrev F.press_windowed : Nat := 273
abbrev F.stream_Most : Nat := 274
abbrev F.unstream_New : Nat := 275
abbrev F.unpress_may : Nat := 276
abbrev F.press_New : Nat := 277
abbrev F.unpress_New : Nat := 278
abbrev F.tester_New : Nat := 279
abbrev F.internal_bytealg_hashStr_string : Nat := 280
abbrev F.internal_bytealg_MakeNoZero : Nat := 281
abbrev F.split_New : Nat := 282
abbrev F.stream_New : Nat := 283
abbrev F.stream_Writer_Take : Nat := 284
abbrev F.bits_NewReader : Nat := 285
abbrev F.crc_New : Nat := 286
abbrev F.feed_NewPacker : Nat := 287
abbrev F.bits_NewWriter : Nat := 288
abbrev F.bits_Writer_Put : Nat := 289
abbrev F.bits_Writer_Take : Nat := 290
abbrev F.crc_Table : Nat := 291
abbrev F.bits_fits : Nat := 292
abbrev F.bits_Writer_bit : Nat := 293
abbrev F.runtime_boundsError_Error : Nat := 294
abbrev F.runtime_boundsError_RuntimeError : Nat := 295
abbrev F.runtime_errorString_Error : Nat := 296
abbrev F.runtime_errorString_RuntimeError : Nat := 297
abbrev F.runtime_plainError_Error : Nat := 298
abbrev F.runtime_plainError_RuntimeError : Nat := 299
abbrev F.runtime_errorAddressString_Error : Nat := 300
abbrev F.runtime_errorAddressString_RuntimeError : Nat := 301
abbrev F.runtime_TypeAssertionError_Error : Nat := 302
abbrev F.runtime_TypeAssertionError_RuntimeError : Nat := 303
abbrev F.runtime_PanicNilError_Error : Nat := 304
abbrev F.runtime_PanicNilError_RuntimeError : Nat := 305
abbrev F.internal_abi_Type_Align : Nat := 306
abbrev F.internal_runtime_maps_unhashableTypeError_Error : Nat := 307
abbrev F.internal_runtime_maps_unhashableTypeError_RuntimeError : Nat := 308
abbrev F.api_Errno_Error : Nat := 309
abbrev F.parser_Parser_Held : Nat := 310
abbrev F.conn_Conn_Opened : Nat := 311
abbrev F.strings_Builder_Reset : Nat := 312
abbrev F.ledger_Ledger_Tenants : Nat := 313
abbrev F.job_Job_Count : Nat := 314
abbrev F.upload_Flow_Ended : Nat := 315
abbrev F.results_Stream_Credit : Nat := 316
abbrev F.unstream_Reader_Held : Nat := 317
abbrev F.unstream_Reader_Step : Nat := 318
abbrev F.block_Reader_Held : Nat := 319
abbrev F.unstream_Reader_step : Nat := 320
abbrev F.code_Reader_Held : Nat := 321
abbrev F.unstream_Reader_letter : Nat := 322
abbrev F.unstream_Reader_magic : Nat := 323
abbrev F.unstream_Reader_body : Nat := 324
abbrev F.unstream_Reader_sum : Nat := 325
abbrev F.picks_Reader_Picks : Nat := 326
abbrev F.bits_Reader_Get : Nat := 327
abbrev F.bits_Reader_Left : Nat := 328
abbrev F.block_NewReader : Nat := 329
abbrev F.block_Reader_Step : Nat := 330
abbrev F.block_Reader_Done : Nat := 331
abbrev F.block_Reader_Got : Nat := 332
abbrev F.crc_Combine : Nat := 333
abbrev F.bits_Reader_Align : Nat := 334
abbrev F.bits_Reader_bit : Nat := 335
abbrev F.bits_Reader_end : Nat := 336
abbrev F.block_Reader_step : Nat := 337
abbrev F.block_Reader_begin : Nat := 338
abbrev F.block_Reader_symbols : Nat := 339
abbrev F.block_row_waits : Nat := 340
abbrev F.block_row_next : Nat := 341
abbrev F.block_Reader_symbol : Nat := 342
abbrev F.block_Reader_end : Nat := 343
abbrev F.used_Read : Nat := 344
abbrev F.block_rowOf : Nat := 345
abbrev F.mtf_List_At : Nat := 346
abbrev F.code_Reader_Step : Nat := 347
abbrev F.block_row_told : Nat := 348
abbrev F.code_Reader_Done : Nat := 349
abbrev F.bits_Reader_At : Nat := 350
abbrev F.used_read : Nat := 351
abbrev F.bits_Reader_Seek : Nat := 352
abbrev F.code_NewReader : Nat := 353
abbrev F.zeros_NewReader : Nat := 354
abbrev F.mtf_New : Nat := 355
abbrev F.mtf_List_touch : Nat := 356
abbrev F.code_Reader_symbol : Nat := 357
abbrev F.picks_Reader_Done : Nat := 358
abbrev F.code_Reader_pick : Nat := 359
abbrev F.picks_Reader_Tables : Nat := 360
abbrev F.code_Reader_table : Nat := 361
abbrev F.zeros_Reader_Put : Nat := 362
abbrev F.used_marks : Nat := 363
abbrev F.used_listed : Nat := 364
abbrev F.delta_NewReader : Nat := 365
abbrev F.picks_NewReader : Nat := 366
abbrev F.zeros_may : Nat := 367
abbrev F.used_Is : Nat := 368
abbrev F.canon_Code_Get : Nat := 369
abbrev F.picks_Reader_Step : Nat := 370
abbrev F.delta_Reader_Step : Nat := 371
abbrev F.delta_Reader_Done : Nat := 372
abbrev F.canon_New : Nat := 373
abbrev F.delta_Reader_Lens : Nat := 374
abbrev F.zeros_Reader_more : Nat := 375
abbrev F.zeros_Reader_Count : Nat := 376
abbrev F.delta_sized : Nat := 377
abbrev F.picks_fresh : Nat := 378
abbrev F.canon_Code_get : Nat := 379
abbrev F.picks_Reader_pick : Nat := 380
abbrev F.picks_Reader_head : Nat := 381
abbrev F.delta_Reader_step : Nat := 382
abbrev F.canon_whole : Nat := 383
abbrev F.picks_order_touch : Nat := 384
abbrev F.picks_Reader_fail : Nat := 385
abbrev F.picks_tabled : Nat := 386
abbrev F.delta_Reader_turned : Nat := 387
abbrev F.lens_Share : Nat := 388
abbrev F.delta_length : Nat := 389
abbrev F.lens_between : Nat := 390
abbrev F.lens_between_1 : Nat := 391
abbrev F.press_Press_Done : Nat := 392
abbrev F.press_Press_End : Nat := 393
abbrev F.press_Press_Feed : Nat := 394
abbrev F.press_Press_Held : Nat := 395
abbrev F.press_Press_Step : Nat := 396
abbrev F.press_Press_Steps : Nat := 397
abbrev F.press_Press_Stopped : Nat := 398
abbrev F.press_Press_Take : Nat := 399
abbrev F.press_Press_Waiting : Nat := 400
abbrev F.press_Press_flush : Nat := 401
abbrev F.split_Splitter_Held : Nat := 402
abbrev F.bwt_Turner_Held : Nat := 403
abbrev F.press_Press_work : Nat := 404
abbrev F.press_Press_writes : Nat := 405
abbrev F.press_Press_whole : Nat := 406
abbrev F.split_Splitter_End : Nat := 407
abbrev F.feed_Packer_Row : Nat := 408
abbrev F.sorter_Sorter_Held : Nat := 409
abbrev F.bwt_New : Nat := 410
abbrev F.bwt_Turner_Done : Nat := 411
abbrev F.bwt_Turner_Step : Nat := 412
abbrev F.press_Press_pay : Nat := 413
abbrev F.press_Press_take : Nat := 414
abbrev F.stream_Writer_End : Nat := 415
abbrev F.feed_Packer_End : Nat := 416
abbrev F.split_Splitter_piece : Nat := 417
abbrev F.split_begun_close : Nat := 418
abbrev F.sorter_New : Nat := 419
abbrev F.sorter_Sorter_Step : Nat := 420
abbrev F.sorter_Sorter_Done : Nat := 421
abbrev F.sorter_Sorter_Order : Nat := 422
abbrev F.bwt_Turner_take : Nat := 423
abbrev F.bwt_Turner_Result : Nat := 424
abbrev F.stream_Writer_Turned : Nat := 425
abbrev F.split_Splitter_Put : Nat := 426
abbrev F.stream_Writer_magic : Nat := 427
abbrev F.bits_Writer_Pad : Nat := 428
abbrev F.feed_Packer_close : Nat := 429
abbrev F.split_begun_take : Nat := 430
abbrev F.crc_Sum_Value : Nat := 431
abbrev F.crc_Sum_Reset : Nat := 432
abbrev F.sorter_Sorter_step : Nat := 433
abbrev F.bwt_ahead : Nat := 434
abbrev F.block_Turned : Nat := 435
abbrev F.feed_Packer_Put : Nat := 436
abbrev F.rle_Piece : Nat := 437
abbrev F.crc_Sum_Put : Nat := 438
abbrev F.sorter_Sorter_join : Nat := 439
abbrev F.sorter_Sorter_lay : Nat := 440
abbrev F.sorter_Sorter_put : Nat := 441
abbrev F.sorter_Sorter_begin : Nat := 442
abbrev F.sorter_Sorter_rank : Nat := 443
abbrev F.used_Symbols : Nat := 444
abbrev F.mtf_Encode : Nat := 445
abbrev F.zeros_Encode : Nat := 446
abbrev F.code_Bits : Nat := 447
abbrev F.used_Write : Nat := 448
abbrev F.code_Write : Nat := 449
abbrev F.rle_text : Nat := 450
abbrev F.crc_step : Nat := 451
abbrev F.sorter_Sorter_above : Nat := 452
abbrev F.sorter_Sorter_pass : Nat := 453
abbrev F.mtf_List_Find : Nat := 454
abbrev F.zeros_row : Nat := 455
abbrev F.code_chosen : Nat := 456
abbrev F.picks_Bits : Nat := 457
abbrev F.delta_Bits : Nat := 458
abbrev F.tables_Cost : Nat := 459
abbrev F.used_rows : Nat := 460
abbrev F.picks_Write : Nat := 461
abbrev F.delta_Write : Nat := 462
abbrev F.canon_Code_Put : Nat := 463
abbrev F.strings_Repeat : Nat := 464
abbrev F.sorter_Sorter_key : Nat := 465
abbrev F.bytes_IndexByte : Nat := 466
abbrev F.tables_Of : Nat := 467
abbrev F.picks_may : Nat := 468
abbrev F.picks_places : Nat := 469
abbrev F.delta_may : Nat := 470
abbrev F.delta_steps : Nat := 471
abbrev F.delta_Bits_1 : Nat := 472
abbrev F.freq_Groups : Nat := 473
abbrev F.freq_Group : Nat := 474
abbrev F.freq_Cost : Nat := 475
abbrev F.delta_Write_1 : Nat := 476
abbrev F.canon_Code_Of : Nat := 477
abbrev F.math_bits_Mul : Nat := 478
abbrev F.strings_Builder_Len : Nat := 479
abbrev F.internal_bytealg_IndexByte : Nat := 480
abbrev F.freq_Counts : Nat := 481
abbrev F.tables_groupsOf : Nat := 482
abbrev F.tables_first : Nat := 483
abbrev F.tables_round : Nat := 484
abbrev F.picks_may_1 : Nat := 485
abbrev F.picks_order_find : Nat := 486
abbrev F.delta_may_1 : Nat := 487
abbrev F.freq_part_int : Nat := 488
abbrev F.freq_all : Nat := 489
abbrev F.freq_together : Nat := 490
abbrev F.math_bits_Mul32 : Nat := 491
abbrev F.math_bits_Mul64 : Nat := 492
abbrev F.tables_Number : Nat := 493
abbrev F.tables_pick : Nat := 494
abbrev F.freq_Add : Nat := 495
abbrev F.lens_Of : Nat := 496
abbrev F.freq_all_1 : Nat := 497
abbrev F.freq_may : Nat := 498
abbrev F.lens_depths : Nat := 499
abbrev F.lens_Longest : Nat := 500
abbrev F.lens_Halved : Nat := 501
abbrev F.lens_treesOf : Nat := 502
abbrev F.lens_trees_least : Nat := 503
abbrev F.lens_trees_join : Nat := 504
abbrev F.slices_SortStableFunc_int_int : Nat := 505
abbrev F.lens_treesOf_1 : Nat := 506
abbrev F.cmp_Compare_int : Nat := 507
abbrev F.slices_stableCmpFunc_int : Nat := 508
abbrev F.cmp_isNaN_int : Nat := 509
abbrev F.slices_insertionSortCmpFunc_int : Nat := 510
abbrev F.slices_symMergeCmpFunc_int : Nat := 511
abbrev F.slices_rotateCmpFunc_int : Nat := 512
abbrev F.slices_swapRangeCmpFunc_int : Nat := 513
abbrev F.unpress_Expander_Done : Nat := 514
abbrev F.unpress_Expander_End : Nat := 515
abbrev F.unpress_Expander_Err : Nat := 516
abbrev F.unpress_Expander_Feed : Nat := 517
abbrev F.unpress_Expander_Held : Nat := 518
abbrev F.unpress_Expander_Step : Nat := 519
abbrev F.unpress_Expander_Steps : Nat := 520
abbrev F.unpress_Expander_Stopped : Nat := 521
abbrev F.unpress_Expander_Take : Nat := 522
abbrev F.unpress_Expander_Waiting : Nat := 523
abbrev F.unpress_Expander_open : Nat := 524
abbrev F.bits_Reader_Held : Nat := 525
abbrev F.bits_Reader_More : Nat := 526
abbrev F.unbwt_Inverter_Held : Nat := 527
abbrev F.unpress_Expander_read : Nat := 528
abbrev F.unpress_opening_step : Nat := 529
abbrev F.unpress_Expander_fail : Nat := 530
abbrev F.unbwt_Inverter_Done : Nat := 531
abbrev F.unstream_Reader_MayEnd : Nat := 532
abbrev F.bits_Reader_Drop : Nat := 533
abbrev F.unpress_openingOf : Nat := 534
abbrev F.unstream_Reader_Got : Nat := 535
abbrev F.unbwt_Inverter_Step : Nat := 536
abbrev F.unbwt_Inverter_Take : Nat := 537
abbrev F.feed_Unpacker_Put : Nat := 538
abbrev F.crc_Sum_Text : Nat := 539
abbrev F.unpress_opening_end : Nat := 540
abbrev F.unbwt_New : Nat := 541
abbrev F.feed_NewUnpacker : Nat := 542
abbrev F.unbwt_Inverter_step : Nat := 543
abbrev F.feed_Unpacker_Wants : Nat := 544
abbrev F.feed_Unpacker_End : Nat := 545
abbrev F.unbwt_Inverter_begins : Nat := 546
abbrev F.tester_Tester_Done : Nat := 547
abbrev F.tester_Tester_End : Nat := 548
abbrev F.tester_Tester_Err : Nat := 549
abbrev F.tester_Tester_Feed : Nat := 550
abbrev F.tester_Tester_Held : Nat := 551
abbrev F.tester_Tester_Step : Nat := 552
abbrev F.tester_Tester_Steps : Nat := 553
abbrev F.tester_Tester_Stopped : Nat := 554
abbrev F.tester_Tester_Take : Nat := 555
abbrev F.tester_Tester_Waiting : Nat := 556
abbrev F.tester_Tester_tell : Nat := 557
abbrev F.tester_counted_forget : Nat := 558
abbrev F.stream_Writer_Held : Nat := 559
abbrev F.bits_Writer_Held : Nat := 560
abbrev F.bwt_Turner_Steps : Nat := 561
abbrev F.internal_abi_Kind_String : Nat := 562
abbrev F.code_Reader_Count : Nat := 563
abbrev F.zeros_Reader_Done : Nat := 564
abbrev F.mtf_List_Len : Nat := 565
abbrev F.canon_Code_Size : Nat := 566
abbrev F.sorter_Sorter_Steps : Nat := 567
abbrev F.unbwt_Inverter_Steps : Nat := 568
abbrev F.unbwt_Inverter_Waiting : Nat := 569
abbrev F.job_Job_Steps : Nat := 570
abbrev F.var_s_door_tables_bounds_is_laid_by_its_own_initialiser_plain_data_look_11 : Nat := 571
abbrev F.var_s_door_gosem_cut_vars_holds_initialisers_alone_see_the_manifest_s_row_cutvarsword_look_11_test_files_too : Nat := 572
abbrev F.var_s_door_the_look_of_gosem_cut_vars_went_over_the_folder_that_the_caller_named_as_the_repository_s_root_look_11 : Nat := 573
abbrev F.var_s_door_unicode_utf8_acceptRanges_is_laid_by_its_own_initialiser_plain_data_look_11 : Nat := 574
abbrev F.var_s_door_unicode_utf8_first_is_laid_by_its_text_alone_pinned_1 : Nat := 575
abbrev F.gosem_cut_vars : Nat := 576

/-- baler/balerlaw40.ServerNil -/
def Vcf.balerlaw40_ServerNil (P : Program) (n_p0 text_p1 : Value) (w : World) (R : Value → World → Prop) : Prop   :=
 Cl P F.server_Server_Deliver #[(.pointer none), n_p0, text_p1] w fun x_1 w1 =>
 Bp .eql x_1 (.int .i64 0) fun x_2 =>
 Vif x_2 (
 Cl P F.server_Server_Tick #[(.pointer none)] w1 fun x_3 w2 =>
 Bp .eql x_3 (.int .i64 0) fun x_4 =>
 Vif x_4 (
 Cl P F.server_Server_Close #[(.pointer none), n_p0] w2 fun x_5 w3 =>
 Bp .eql x_5 (.int .i64 7) fun x_6 =>
 Vif x_6 (
 Cl P F.server_Server_Sent #[(.pointer none), n_p0] w3 fun x_7 w4 =>
 Bp .eql x_7 (.string ⟨#[]⟩) fun x_8 =>
 Vif x_8 (
 Cl P F.server_Server_Waits #[(.pointer none), n_p0] w4 fun x_9 w5 =>
 Up .not x_9 fun x_10 =>
 Vif x_10 (
 Cl P F.server_Server_Over #[(.pointer none), n_p0] w5 fun x_11 w6 =>
 Up .not x_11 fun x_12 =>
 Vif x_12 (
 Cl P F.server_Server_Used #[(.pointer none), n_p0] w6 fun x_13 w7 =>
 Bp .eql x_13 (.int .i64 0) fun x_14 =>
 Vif x_14 (
 Cl P F.server_Server_Held #[(.pointer none), n_p0] w7 fun x_15 w8 =>
 Bp .eql x_15 (.int .i64 0) fun x_16 =>
 Vif x_16 (
 Cl P F.server_Server_Left #[(.pointer none), n_p0] w8 fun x_17 w9 =>
 Bp .eql x_17 (.int .i64 0) fun x_18 =>
 Vif x_18 (
 Cl P F.server_Server_Jobs #[(.pointer none), n_p0] w9 fun x_19 w10 =>
 Bp .eql x_19 (.int .i64 0) fun x_20 =>
 Vif x_20 (
 Cl P F.server_Server_Charged #[(.pointer none), n_p0] w10 fun x_21 w11 =>
 Bp .eql x_21 (.int .i64 0) fun x_22 =>
 Vif x_22 (
 Cl P F.server_Server_At #[(.pointer none)] w11 fun x_23 w12 =>
 Bp .eql x_23 (.int .i64 0) fun x_24 =>
 Vif x_24 (
 Cl P F.server_Server_Idle #[(.pointer none)] w12 fun x_25 w13 =>
 Vif x_25 (
 Cl P F.balerlaw40_test #[] w13 fun x_26 w14 =>
 R x_26 w14) (
 R (.bool false) w13)) (
 R (.bool false) w12)) (
 R (.bool false) w11)) (
 R (.bool false) w10)) (
 R (.bool false) w9)) (
 R (.bool false) w8)) (
 R (.bool false) w7)) (
 R (.bool false) w6)) (
 R (.bool false) w5)) (
 R (.bool false) w4)) (
 R (.bool false) w3)) (
 R (.bool false) w2)) (
 R (.bool false) w1)
theorem Tie.balerlaw40_ServerNil {n_p0 text_p1 : Value} {w : World} {R : Value → World → Prop} (h : Vcf.balerlaw40_ServerNil Tryz.prog n_p0 text_p1 w R) : Cl Tryz.prog F.balerlaw40_ServerNil #[n_p0, text_p1] w R :=
  cl_of_vc (n := 82) (rs := [(.tmp 4)]) (h := (.s .z (.s .z (.s .z .z)))) (args := [n_p0, text_p1]) (by kernel_rfl) Tryz.func3 rfl (by kernel_rfl) rfl rfl rfl (Eq.mp (by kernel_rfl) h)

/-- baler/balerlaw44.AuditSame -/
def Vcf.balerlaw44_AuditSame (P : Program) (a_p0 b_p1 : Value) (w : World) (R : Value → World → Prop) : Prop   :=
 New a_p0 34 w fun a_1 w1 =>
 New b_p1 34 w1 fun b_2 w2 =>
 VJoin 1 (fun _ x_3 w3 =>
 Vif x_3 (
 Cl P F.balerlaw44_looks #[] w3 fun x_4 w4 =>
 R x_4 w4) (
 Fo 0 a_1 fun x_5 =>
 Ld x_5 w3 fun x_6 =>
 Fo 1 a_1 fun x_7 =>
 Ld x_7 w3 fun x_8 =>
 Fo 2 a_1 fun x_9 =>
 Ld x_9 w3 fun x_10 =>
 Fo 3 a_1 fun x_11 =>
 Ld x_11 w3 fun x_12 =>
 Fo 4 a_1 fun x_13 =>
 Ld x_13 w3 fun x_14 =>
 Fo 5 a_1 fun x_15 =>
 Ld x_15 w3 fun x_16 =>
 Bs P 32 6 #[(0, x_6), (1, x_8), (2, x_10), (3, x_12), (4, x_14), (5, x_16)] w3 fun x_17 w5 =>
 Lnl x_17 fun x_18 =>
 VLoop 2 [(.bool true), (.int .i64 0)] w5 fun _ next21 clean_19 x_20 w6 =>
 Bp .lss x_20 x_18 fun x_22 =>
 Vif x_22 (
 Ias 1 x_17 x_20 fun x_23 =>
 Ld x_23 w6 fun x_24 =>
 VJoin 1 (fun _ x_25 w7 =>
 Vif x_25 (
 Cl P F.balerlaw44_looks #[] w7 fun x_26 w8 =>
 R x_26 w8) (
 Vif clean_19 (
 Bp .eql x_24 (.int .i64 0) fun x_27 =>
 Bp .add x_20 (.int .i64 1) fun x_28 =>
 KE [a_1, b_2, x_17, x_17, x_18] [a_1, b_2, x_17, x_17, x_18] <| next21 x_27 x_28 w7) (
 Bp .add x_20 (.int .i64 1) fun x_29 =>
 KE [a_1, b_2, x_17, x_17, x_18] [a_1, b_2, x_17, x_17, x_18] <| next21 (.bool false) x_29 w7)))
 (fun J30 =>
 Bp .lss x_24 (.int .i64 0) fun x_31 =>
 Vif x_31 (
 KE [a_1, b_2, x_17, clean_19, x_24, x_17, x_18, x_20] [a_1, b_2, x_17, clean_19, x_24, x_17, x_18, x_20] <| J30 (.bool true) w6) (
 Bp .gtr x_24 (.int .i64 1099511627776) fun x_32 =>
 KE [a_1, b_2, x_17, clean_19, x_24, x_17, x_18, x_20] [a_1, b_2, x_17, clean_19, x_24, x_17, x_18, x_20] <| J30 x_32 w6))) (
 Fo 0 b_2 fun x_33 =>
 Ld x_33 w6 fun x_34 =>
 Fo 1 b_2 fun x_35 =>
 Ld x_35 w6 fun x_36 =>
 Fo 2 b_2 fun x_37 =>
 Ld x_37 w6 fun x_38 =>
 Fo 3 b_2 fun x_39 =>
 Ld x_39 w6 fun x_40 =>
 Fo 4 b_2 fun x_41 =>
 Ld x_41 w6 fun x_42 =>
 Fo 5 b_2 fun x_43 =>
 Ld x_43 w6 fun x_44 =>
 Bs P 32 6 #[(0, x_34), (1, x_36), (2, x_38), (3, x_40), (4, x_42), (5, x_44)] w6 fun x_45 w9 =>
 VJoin 1 (fun _ same_46 w10 =>
 LdA 8 a_1 w10 fun x_47 =>
 LdA 8 b_2 w10 fun x_48 =>
 Cl P F.audit_Same #[x_47, x_48] w10 fun x_49 w11 =>
 Bb false x_49 same_46 fun x_50 =>
 Vif x_50 (
 LdA 8 a_1 w11 fun x_51 =>
 LdA 8 a_1 w11 fun x_52 =>
 Cl P F.audit_Same #[x_51, x_52] w11 fun x_53 w12 =>
 Vif x_53 (
 LdA 8 a_1 w12 fun x_54 =>
 Cl P F.audit_Report_Clean #[x_54] w12 fun x_55 w13 =>
 Bb false x_55 clean_19 fun x_56 =>
 Vif x_56 (
 Cl P F.balerlaw44_looks #[] w13 fun x_57 w14 =>
 R x_57 w14) (
 R (.bool false) w13)) (
 R (.bool false) w12)) (
 R (.bool false) w11))
 (fun J58 =>
 Cl P F.balerplain_Ints #[x_17, x_45] w9 fun x_59 w15 =>
 Vif x_59 (
 Fo 6 a_1 fun x_60 =>
 Ld x_60 w15 fun x_61 =>
 Fo 6 b_2 fun x_62 =>
 Ld x_62 w15 fun x_63 =>
 Bp .eql x_61 x_63 fun x_64 =>
 Vif x_64 (
 Fo 7 a_1 fun x_65 =>
 Ld x_65 w15 fun x_66 =>
 Fo 7 b_2 fun x_67 =>
 Ld x_67 w15 fun x_68 =>
 Cl P F.balerplain_Ints #[x_66, x_68] w15 fun x_69 w16 =>
 KE [a_1, b_2, clean_19] [a_1, b_2, clean_19] <| J58 x_69 w16) (
 KE [a_1, b_2, clean_19] [a_1, b_2, clean_19] <| J58 (.bool false) w15)) (
 KE [a_1, b_2, clean_19] [a_1, b_2, clean_19] <| J58 (.bool false) w15)))))
 (fun J70 =>
 Fo 7 a_1 fun x_71 =>
 Ld x_71 w2 fun x_72 =>
 Lnl x_72 fun x_73 =>
 Bp .gtr x_73 (.int .i64 30) fun x_74 =>
 Vif x_74 (
 KE [a_1, b_2] [a_1, b_2] <| J70 (.bool true) w2) (
 Fo 7 b_2 fun x_75 =>
 Ld x_75 w2 fun x_76 =>
 Lnl x_76 fun x_77 =>
 Bp .gtr x_77 (.int .i64 30) fun x_78 =>
 KE [a_1, b_2] [a_1, b_2] <| J70 x_78 w2))
theorem Tie.balerlaw44_AuditSame {a_p0 b_p1 : Value} {w : World} {R : Value → World → Prop} (h : Vcf.balerlaw44_AuditSame Tryz.prog a_p0 b_p1 w R) : Cl Tryz.prog F.balerlaw44_AuditSame #[a_p0, b_p1] w R :=
  cl_of_vc (n := 103) (rs := [(.tmp 4)]) (h := (.s .z (.s (.j [20] [2, 3] .z (.i (.s .z .z) .z)) (.s .z (.s .z (.s (.s .z (.b (.l [6, 37] [2, 3, 5, 35, 36] (.s .z (.s (.i .z .z) (.s (.b (.s .z (.s (.j [46] [2, 3, 5, 6, 8, 35, 36, 37] .z (.i (.s .z .z) .z)) .z))) .z)))))) (.s .z (.j [10] [2, 3, 6] .z (.s .z .z))))))))) (args := [a_p0, b_p1]) (by kernel_rfl) Tryz.func4 rfl (by kernel_rfl) rfl rfl rfl (Eq.mp (by kernel_rfl) h)

/-- baler/balerlaw48.DeskNil -/
def Vcf.balerlaw48_DeskNil (P : Program) (s_p0 : Value) (w : World) (R : Value → World → Prop) : Prop   :=
 Cl P F.desk_Desk_Do #[(.pointer none), s_p0] w fun x_1 w1 =>
 Bp .eql x_1 (.string ⟨#[63]⟩) fun x_2 =>
 Vif x_2 (
 Cl P F.desk_Desk_Started #[(.pointer none)] w1 fun x_3 w2 =>
 Up .not x_3 fun x_4 =>
 Vif x_4 (
 Cl P F.desk_Desk_Config #[(.pointer none)] w2 fun x_5 w3 =>
 Bd P 42 #[] w3 fun x_6 =>
 Cl P F.balerlaw48_same #[x_5, x_6] w3 fun x_7 w4 =>
 Vif x_7 (
 Cl P F.balerlaw48_ann #[] w4 fun x_8 w5 =>
 R x_8 w5) (
 R (.bool false) w4)) (
 R (.bool false) w2)) (
 R (.bool false) w1)
theorem Tie.balerlaw48_DeskNil {s_p0 : Value} {w : World} {R : Value → World → Prop} (h : Vcf.balerlaw48_DeskNil Tryz.prog s_p0 w R) : Cl Tryz.prog F.balerlaw48_DeskNil #[s_p0] w R :=
  cl_of_vc (n := 22) (rs := [(.tmp 2)]) (h := (.s .z (.s .z (.s .z .z)))) (args := [s_p0]) (by kernel_rfl) Tryz.func5 rfl (by kernel_rfl) rfl rfl rfl (Eq.mp (by kernel_rfl) h)

/-- (baler/server.Server).Deliver -/
def Vcf.server_Server_Deliver (P : Program) (s_p0 conn_p1 bytes_p2 : Value) (w : World) (R : Value → World → Prop) : Prop   :=
 VJoin 1 (fun _ x_1 w1 =>
 Vif x_1 (
 R (.int .i64 0) w1) (
 Cl P F.server_Server_line #[s_p0, conn_p1] w1 fun x_2 w2 =>
 VLoop 1 [(.int .i64 0)] w2 fun _ next4 taken_3 w3 =>
 Nc x_2 <|
 Fo 6 x_2 fun x_5 =>
 Ld x_5 w3 fun x_6 =>
 Up .not x_6 fun x_7 =>
 Vif x_7 (
 Dr w3 fun w4 =>
 Nc x_2 <|
 Fo 1 x_2 fun x_8 =>
 Ld x_8 w4 fun x_9 =>
 Sst bytes_p2 (some taken_3) none fun x_11 =>
 Cl P F.parser_Parser_Feed #[x_9, x_11] w4 fun x_13 w5 =>
 Bp .add taken_3 x_13 fun x_14 =>
 Cl P F.server_Server_run #[s_p0, x_2] w5 fun x_15 w6 =>
 Up .not x_15 fun x_16 =>
 Vif x_16 (
 Bp .eql x_13 (.int .i64 0) fun x_17 =>
 Vif x_17 (
 R x_14 w6) (
 KE [s_p0, bytes_p2, x_2] [s_p0, bytes_p2, x_2] <| next4 x_14 w6)) (
 KE [s_p0, bytes_p2, x_2] [s_p0, bytes_p2, x_2] <| next4 x_14 w6)) (
 R taken_3 w3)))
 (fun J18 =>
 Bn P 67 false s_p0 (.pointer none) fun x_19 =>
 Vif x_19 (
 KE [s_p0, conn_p1, bytes_p2] [s_p0, conn_p1, bytes_p2] <| J18 (.bool true) w) (
 Cl P F.server_numbered #[conn_p1] w fun x_20 w7 =>
 Up .not x_20 fun x_21 =>
 KE [s_p0, conn_p1, bytes_p2] [s_p0, conn_p1, bytes_p2] <| J18 x_21 w7))
theorem Tie.server_Server_Deliver {s_p0 conn_p1 bytes_p2 : Value} {w : World} {R : Value → World → Prop} (h : Vcf.server_Server_Deliver Tryz.prog s_p0 conn_p1 bytes_p2 w R) : Cl Tryz.prog F.server_Server_Deliver #[s_p0, conn_p1, bytes_p2] w R :=
  cl_of_vc (n := 45) (rs := [(.tmp 6)]) (h := (.s .z (.s (.j [16] [0, 1, 2] .z (.i (.s .z .z) .z)) (.s .z (.s .z (.s (.b (.l [8] [0, 2, 7] (.s (.s .z (.i .z .z)) (.b (.s (.r (.staged [0, 1, 3, 7, 0, 0, 48, 127, 255])) (.s .z (.s .z (.i .z .z)))))))) (.s .z .z))))))) (args := [s_p0, conn_p1, bytes_p2]) (by kernel_rfl) Tryz.func6 rfl (by kernel_rfl) rfl rfl rfl (Eq.mp (by kernel_rfl) h)

/-- (baler/server.Server).Close -/
def Vcf.server_Server_Close (P : Program) (s_p0 conn_p1 : Value) (w : World) (R : Value → World → Prop) : Prop   :=
 Bn P 67 false s_p0 (.pointer none) fun x_1 =>
 Vif x_1 (
 R (.int .i64 7) w) (
 Cl P F.server_numbered #[conn_p1] w fun x_2 w1 =>
 Up .not x_2 fun x_3 =>
 Vif x_3 (
 R (.int .i64 1) w1) (
 Cl P F.server_Server_line #[s_p0, conn_p1] w1 fun x_4 w2 =>
 Nc x_4 <|
 Fo 6 x_4 fun x_5 =>
 Ld x_5 w2 fun x_6 =>
 Vif x_6 (
 R (.int .i64 32) w2) (
 Cl P F.server_Server_end #[s_p0, x_4] w2 fun x_7 w3 =>
 R (.int .i64 0) w3)))
theorem Tie.server_Server_Close {s_p0 conn_p1 : Value} {w : World} {R : Value → World → Prop} (h : Vcf.server_Server_Close Tryz.prog s_p0 conn_p1 w R) : Cl Tryz.prog F.server_Server_Close #[s_p0, conn_p1] w R :=
  cl_of_vc (n := 23) (rs := [(.tmp 4)]) (h := (.s .z (.s (.b (.s .z (.i (.s .z .z) (.s .z (.i (.s .z .z) .z))))) (.s .z (.s (.s .z (.i (.s .z .z) .z)) (.s .z (.s .z .z))))))) (args := [s_p0, conn_p1]) (by kernel_rfl) Tryz.func8 rfl (by kernel_rfl) rfl rfl rfl (Eq.mp (by kernel_rfl) h)

/-- (baler/server.Server).Sent -/
def Vcf.server_Server_Sent (P : Program) (s_p0 conn_p1 : Value) (w : World) (R : Value → World → Prop) : Prop   :=
 Cl P F.server_Server_known #[s_p0, conn_p1] w fun x_1 w1 =>
 Bn P 54 false x_1 (.pointer none) fun x_2 =>
 Vif x_2 (
 R (.string ⟨#[]⟩) w1) (
 Nc x_1 <|
 Fo 3 x_1 fun x_3 =>
 Cl P F.strings_Builder_String #[x_3] w1 fun x_4 w2 =>
 R x_4 w2)
theorem Tie.server_Server_Sent {s_p0 conn_p1 : Value} {w : World} {R : Value → World → Prop} (h : Vcf.server_Server_Sent Tryz.prog s_p0 conn_p1 w R) : Cl Tryz.prog F.server_Server_Sent #[s_p0, conn_p1] w R :=
  cl_of_vc (n := 15) (rs := [(.tmp 4)]) (h := (.s .z (.s .z (.s (.s .z (.i (.s .z .z) .z)) (.s .z .z))))) (args := [s_p0, conn_p1]) (by kernel_rfl) Tryz.func9 rfl (by kernel_rfl) rfl rfl rfl (Eq.mp (by kernel_rfl) h)

/-- (baler/server.Server).Waits -/
def Vcf.server_Server_Waits (P : Program) (s_p0 conn_p1 : Value) (w : World) (R : Value → World → Prop) : Prop   :=
 Cl P F.server_Server_known #[s_p0, conn_p1] w fun x_1 w1 =>
 Bn P 54 true x_1 (.pointer none) fun x_2 =>
 Vif x_2 (
 Nc x_1 <|
 Fo 5 x_1 fun x_3 =>
 Ld x_3 w1 fun x_4 =>
 Bp .gtr x_4 (.int .i64 0) fun x_5 =>
 R x_5 w1) (
 R (.bool false) w1)
theorem Tie.server_Server_Waits {s_p0 conn_p1 : Value} {w : World} {R : Value → World → Prop} (h : Vcf.server_Server_Waits Tryz.prog s_p0 conn_p1 w R) : Cl Tryz.prog F.server_Server_Waits #[s_p0, conn_p1] w R :=
  cl_of_vc (n := 18) (rs := [(.tmp 4)]) (h := (.s .z (.s .z (.s .z .z)))) (args := [s_p0, conn_p1]) (by kernel_rfl) Tryz.func10 rfl (by kernel_rfl) rfl rfl rfl (Eq.mp (by kernel_rfl) h)

/-- (baler/server.Server).Over -/
def Vcf.server_Server_Over (P : Program) (s_p0 conn_p1 : Value) (w : World) (R : Value → World → Prop) : Prop   :=
 Cl P F.server_Server_known #[s_p0, conn_p1] w fun x_1 w1 =>
 Bn P 54 true x_1 (.pointer none) fun x_2 =>
 Vif x_2 (
 Nc x_1 <|
 Fo 6 x_1 fun x_3 =>
 Ld x_3 w1 fun x_4 =>
 R x_4 w1) (
 R (.bool false) w1)
theorem Tie.server_Server_Over {s_p0 conn_p1 : Value} {w : World} {R : Value → World → Prop} (h : Vcf.server_Server_Over Tryz.prog s_p0 conn_p1 w R) : Cl Tryz.prog F.server_Server_Over #[s_p0, conn_p1] w R :=
  cl_of_vc (n := 17) (rs := [(.tmp 4)]) (h := (.s .z (.s .z (.s .z .z)))) (args := [s_p0, conn_p1]) (by kernel_rfl) Tryz.func11 rfl (by kernel_rfl) rfl rfl rfl (Eq.mp (by kernel_rfl) h)

/-- (baler/server.Server).Used -/
def Vcf.server_Server_Used (P : Program) (s_p0 tenant_p1 : Value) (w : World) (R : Value → World → Prop) : Prop   :=
 Bn P 67 false s_p0 (.pointer none) fun x_1 =>
 Vif x_1 (
 R (.int .i64 0) w) (
 Nc s_p0 <|
 Fo 10 s_p0 fun x_2 =>
 Ld x_2 w fun x_3 =>
 Cl P F.ledger_Ledger_Used #[x_3, tenant_p1] w fun x_4 w1 =>
 R x_4 w1)
theorem Tie.server_Server_Used {s_p0 tenant_p1 : Value} {w : World} {R : Value → World → Prop} (h : Vcf.server_Server_Used Tryz.prog s_p0 tenant_p1 w R) : Cl Tryz.prog F.server_Server_Used #[s_p0, tenant_p1] w R :=
  cl_of_vc (n := 13) (rs := [(.tmp 4)]) (h := (.s .z (.s (.s .z (.i (.s .z .z) .z)) (.s .z .z)))) (args := [s_p0, tenant_p1]) (by kernel_rfl) Tryz.func12 rfl (by kernel_rfl) rfl rfl rfl (Eq.mp (by kernel_rfl) h)

/-- (baler/server.Server).Held -/
def Vcf.server_Server_Held (P : Program) (s_p0 tenant_p1 : Value) (w : World) (R : Value → World → Prop) : Prop   :=
 Bn P 67 false s_p0 (.pointer none) fun x_1 =>
 Vif x_1 (
 R (.int .i64 0) w) (
 Nc s_p0 <|
 Fo 9 s_p0 fun x_2 =>
 Ld x_2 w fun x_3 =>
 Cl P F.jobs_Table_By #[x_3, tenant_p1] w fun x_4 w1 =>
 Lnl x_4 fun x_5 =>
 VLoop 2 [(.int .i64 0), (.int .i64 0)] w1 fun _ next8 n_6 x_7 w2 =>
 Bp .lss x_7 x_5 fun x_9 =>
 Vif x_9 (
 Ias 1 x_4 x_7 fun x_10 =>
 Ld x_10 w2 fun x_11 =>
 Nc s_p0 <|
 Fo 8 s_p0 fun x_12 =>
 Ld x_12 w2 fun x_13 =>
 Lk P 61 x_13 x_11 false w2 fun x_14 =>
 Nc x_14 <|
 Fo 0 x_14 fun x_15 =>
 Ld x_15 w2 fun x_16 =>
 Cl P F.job_Job_Held #[x_16] w2 fun x_17 w3 =>
 Bp .add n_6 x_17 fun x_18 =>
 Bp .add x_7 (.int .i64 1) fun x_19 =>
 KE [s_p0, x_4, x_5] [s_p0, x_4, x_5] <| next8 x_18 x_19 w3) (
 R n_6 w2))
theorem Tie.server_Server_Held {s_p0 tenant_p1 : Value} {w : World} {R : Value → World → Prop} (h : Vcf.server_Server_Held Tryz.prog s_p0 tenant_p1 w R) : Cl Tryz.prog F.server_Server_Held #[s_p0, tenant_p1] w R :=
  cl_of_vc (n := 35) (rs := [(.tmp 4)]) (h := (.s .z (.s (.s .z (.i (.s .z .z) .z)) (.s .z (.s (.s .z (.b (.l [5, 17] [0, 15, 16] (.s .z (.s (.i .z .z) (.s (.b (.s .z .z)) .z)))))) (.s .z .z)))))) (args := [s_p0, tenant_p1]) (by kernel_rfl) Tryz.func13 rfl (by kernel_rfl) rfl rfl rfl (Eq.mp (by kernel_rfl) h)

/-- (baler/server.Server).Left -/
def Vcf.server_Server_Left (P : Program) (s_p0 tenant_p1 : Value) (w : World) (R : Value → World → Prop) : Prop   :=
 Bn P 67 false s_p0 (.pointer none) fun x_1 =>
 Vif x_1 (
 R (.int .i64 0) w) (
 Nc s_p0 <|
 Fo 11 s_p0 fun x_2 =>
 Ld x_2 w fun x_3 =>
 Cl P F.window_Meter_Left #[x_3, tenant_p1] w fun x_4 w1 =>
 R x_4 w1)
theorem Tie.server_Server_Left {s_p0 tenant_p1 : Value} {w : World} {R : Value → World → Prop} (h : Vcf.server_Server_Left Tryz.prog s_p0 tenant_p1 w R) : Cl Tryz.prog F.server_Server_Left #[s_p0, tenant_p1] w R :=
  cl_of_vc (n := 13) (rs := [(.tmp 4)]) (h := (.s .z (.s (.s .z (.i (.s .z .z) .z)) (.s .z .z)))) (args := [s_p0, tenant_p1]) (by kernel_rfl) Tryz.func14 rfl (by kernel_rfl) rfl rfl rfl (Eq.mp (by kernel_rfl) h)

/-- (baler/server.Server).Jobs -/
def Vcf.server_Server_Jobs (P : Program) (s_p0 tenant_p1 : Value) (w : World) (R : Value → World → Prop) : Prop   :=
 Bn P 67 false s_p0 (.pointer none) fun x_1 =>
 Vif x_1 (
 R (.int .i64 0) w) (
 Nc s_p0 <|
 Fo 9 s_p0 fun x_2 =>
 Ld x_2 w fun x_3 =>
 Cl P F.jobs_Table_By #[x_3, tenant_p1] w fun x_4 w1 =>
 Lnl x_4 fun x_5 =>
 R x_5 w1)
theorem Tie.server_Server_Jobs {s_p0 tenant_p1 : Value} {w : World} {R : Value → World → Prop} (h : Vcf.server_Server_Jobs Tryz.prog s_p0 tenant_p1 w R) : Cl Tryz.prog F.server_Server_Jobs #[s_p0, tenant_p1] w R :=
  cl_of_vc (n := 14) (rs := [(.tmp 4)]) (h := (.s .z (.s (.s .z (.i (.s .z .z) .z)) (.s .z .z)))) (args := [s_p0, tenant_p1]) (by kernel_rfl) Tryz.func15 rfl (by kernel_rfl) rfl rfl rfl (Eq.mp (by kernel_rfl) h)

/-- (baler/server.Server).Charged -/
def Vcf.server_Server_Charged (P : Program) (s_p0 tenant_p1 : Value) (w : World) (R : Value → World → Prop) : Prop   :=
 Bn P 67 false s_p0 (.pointer none) fun x_1 =>
 Vif x_1 (
 R (.int .i64 0) w) (
 Nc s_p0 <|
 Fo 11 s_p0 fun x_2 =>
 Ld x_2 w fun x_3 =>
 Cl P F.window_Meter_Total #[x_3, tenant_p1] w fun x_4 w1 =>
 R x_4 w1)
theorem Tie.server_Server_Charged {s_p0 tenant_p1 : Value} {w : World} {R : Value → World → Prop} (h : Vcf.server_Server_Charged Tryz.prog s_p0 tenant_p1 w R) : Cl Tryz.prog F.server_Server_Charged #[s_p0, tenant_p1] w R :=
  cl_of_vc (n := 13) (rs := [(.tmp 4)]) (h := (.s .z (.s (.s .z (.i (.s .z .z) .z)) (.s .z .z)))) (args := [s_p0, tenant_p1]) (by kernel_rfl) Tryz.func16 rfl (by kernel_rfl) rfl rfl rfl (Eq.mp (by kernel_rfl) h)

/-- (baler/server.Server).At -/
def Vcf.server_Server_At (P : Program) (s_p0 : Value) (w : World) (R : Value → World → Prop) : Prop   :=
 Bn P 67 false s_p0 (.pointer none) fun x_1 =>
 Vif x_1 (
 R (.int .i64 0) w) (
 Nc s_p0 <|
 Fo 11 s_p0 fun x_2 =>
 Ld x_2 w fun x_3 =>
 Cl P F.window_Meter_At #[x_3] w fun x_4 w1 =>
 R x_4 w1)
theorem Tie.server_Server_At {s_p0 : Value} {w : World} {R : Value → World → Prop} (h : Vcf.server_Server_At Tryz.prog s_p0 w R) : Cl Tryz.prog F.server_Server_At #[s_p0] w R :=
  cl_of_vc (n := 10) (rs := [(.tmp 2)]) (h := (.s .z (.s (.s .z (.i (.s .z .z) .z)) (.s .z .z)))) (args := [s_p0]) (by kernel_rfl) Tryz.func17 rfl (by kernel_rfl) rfl rfl rfl (Eq.mp (by kernel_rfl) h)

/-- (baler/server.Server).Idle -/
def Vcf.server_Server_Idle (P : Program) (s_p0 : Value) (w : World) (R : Value → World → Prop) : Prop   :=
 Bn P 67 false s_p0 (.pointer none) fun x_1 =>
 Vif x_1 (
 R (.bool true) w) (
 Nc s_p0 <|
 Fo 12 s_p0 fun x_2 =>
 Ld x_2 w fun x_3 =>
 Cl P F.drr_Scheduler_Ring #[x_3] w fun x_4 w1 =>
 Lnl x_4 fun x_5 =>
 Bp .eql x_5 (.int .i64 0) fun x_6 =>
 R x_6 w1)
theorem Tie.server_Server_Idle {s_p0 : Value} {w : World} {R : Value → World → Prop} (h : Vcf.server_Server_Idle Tryz.prog s_p0 w R) : Cl Tryz.prog F.server_Server_Idle #[s_p0] w R :=
  cl_of_vc (n := 14) (rs := [(.tmp 2)]) (h := (.s .z (.s .z .z))) (args := [s_p0]) (by kernel_rfl) Tryz.func18 rfl (by kernel_rfl) rfl rfl rfl (Eq.mp (by kernel_rfl) h)

/-- baler/balerplain.Ints -/
def Vcf.balerplain_Ints (P : Program) (a_p0 b_p1 : Value) (w : World) (R : Value → World → Prop) : Prop   :=
 Lnl a_p0 fun x_1 =>
 Lnl b_p1 fun x_2 =>
 Bp .neq x_1 x_2 fun x_3 =>
 Vif x_3 (
 R (.bool false) w) (
 Lnl a_p0 fun x_4 =>
 VLoop 1 [(.int .i64 0)] w fun _ next6 x_5 w1 =>
 Bp .lss x_5 x_4 fun x_7 =>
 Vif x_7 (
 Dr w1 fun w2 =>
 Ias 1 a_p0 x_5 fun x_8 =>
 Ld x_8 w2 fun x_9 =>
 Ias 1 b_p1 x_5 fun x_11 =>
 Ld x_11 w2 fun x_12 =>
 Bp .neq x_9 x_12 fun x_14 =>
 Vif x_14 (
 R (.bool false) w2) (
 Bp .add x_5 (.int .i64 1) fun x_15 =>
 KE [a_p0, b_p1, x_4] [a_p0, b_p1, x_4] <| next6 x_15 w2)) (
 R (.bool true) w1))
theorem Tie.balerplain_Ints {a_p0 b_p1 : Value} {w : World} {R : Value → World → Prop} (h : Vcf.balerplain_Ints Tryz.prog a_p0 b_p1 w R) : Cl Tryz.prog F.balerplain_Ints #[a_p0, b_p1] w R :=
  cl_of_vc (n := 26) (rs := [(.tmp 4)]) (h := (.s .z (.s (.s .z (.i (.s .z .z) .z)) (.s (.s .z (.b (.l [13] [0, 1, 12] (.s .z (.s (.i .z .z) (.s (.b (.s .z (.s (.r (.staged [0, 0, 3, 7, 0, 0, 48, 112, 255])) (.i (.s .z .z) .z)))) .z)))))) (.s .z .z))))) (args := [a_p0, b_p1]) (by kernel_rfl) Tryz.func21 rfl (by kernel_rfl) rfl rfl rfl (Eq.mp (by kernel_rfl) h)

/-- baler/audit.Same -/
def Vcf.audit_Same (P : Program) (a_p0 b_p1 : Value) (w : World) (R : Value → World → Prop) : Prop   :=
 New a_p0 34 w fun a_1 w1 =>
 New b_p1 34 w1 fun b_2 w2 =>
 Dr w2 fun w3 =>
 LdA 8 a_1 w3 fun x_3 =>
 Inv P (do let d ← Deferred.ofValue (.func (.func 58) #[] #[]) #[x_3]; invoke d.target d.args) w3 fun x_5 w4 =>
 LdA 8 b_2 w4 fun x_6 =>
 Rk (fun w K => LdA 8 b_2 w fun x_7 => K x_7) x_6 w3 <|
 Inv P (do let d ← Deferred.ofValue (.func (.func 58) #[] #[]) #[x_6]; invoke d.target d.args) w4 fun x_9 w5 =>
 Be P .eql 100 (.tmp 8) (.tmp 11) x_5 x_9 w5 fun x_10 =>
 Vif x_10 (
 Fo 7 a_1 fun x_12 =>
 Ld x_12 w5 fun x_13 =>
 Fo 7 b_2 fun x_15 =>
 Ld x_15 w5 fun x_16 =>
 Cl P F.slices_Equal_int_int #[x_13, x_16] w5 fun x_18 w6 =>
 R x_18 w6) (
 R (.bool false) w5)
theorem Tie.audit_Same {a_p0 b_p1 : Value} {w : World} {R : Value → World → Prop} (h : Vcf.audit_Same Tryz.prog a_p0 b_p1 w R) : Cl Tryz.prog F.audit_Same #[a_p0, b_p1] w R :=
  cl_of_vc (n := 20) (rs := [(.tmp 4)]) (h := (.s .z (.s .z (.s (.r (.staged [0, 0, 3, 0, 0, 31, 63, 127, 255, 511, 255, 1279, 4095, 8191, 16383])) .z)))) (args := [a_p0, b_p1]) (by kernel_rfl) Tryz.func22 rfl (by kernel_rfl) rfl rfl rfl (Eq.mp (by kernel_rfl) h)

/-- (baler/audit.Report).Clean -/
def Vcf.audit_Report_Clean (P : Program) (r_p0 : Value) (w : World) (R : Value → World → Prop) : Prop   :=
 New r_p0 34 w fun r_1 w1 =>
 Fo 0 r_1 fun x_2 =>
 Ld x_2 w1 fun x_3 =>
 Fo 1 r_1 fun x_4 =>
 Ld x_4 w1 fun x_5 =>
 Bp .add x_3 x_5 fun x_6 =>
 Fo 2 r_1 fun x_7 =>
 Ld x_7 w1 fun x_8 =>
 Bp .add x_6 x_8 fun x_9 =>
 Fo 3 r_1 fun x_10 =>
 Ld x_10 w1 fun x_11 =>
 Bp .add x_9 x_11 fun x_12 =>
 Fo 4 r_1 fun x_13 =>
 Ld x_13 w1 fun x_14 =>
 Bp .add x_12 x_14 fun x_15 =>
 Fo 5 r_1 fun x_16 =>
 Ld x_16 w1 fun x_17 =>
 Bp .add x_15 x_17 fun x_18 =>
 Bp .eql x_18 (.int .i64 0) fun x_19 =>
 R x_19 w1
theorem Tie.audit_Report_Clean {r_p0 : Value} {w : World} {R : Value → World → Prop} (h : Vcf.audit_Report_Clean Tryz.prog r_p0 w R) : Cl Tryz.prog F.audit_Report_Clean #[r_p0] w R :=
  cl_of_vc (n := 21) (rs := [(.tmp 2)]) (h := (.s .z (.s .z .z))) (args := [r_p0]) (by kernel_rfl) Tryz.func23 rfl (by kernel_rfl) rfl rfl rfl (Eq.mp (by kernel_rfl) h)

/-- (baler/desk.Desk).Do -/
def Vcf.desk_Desk_Do (P : Program) (d_p0 command_p1 : Value) (w : World) (R : Value → World → Prop) : Prop   :=
 Bn P 106 false d_p0 (.pointer none) fun x_1 =>
 Vif x_1 (
 R (.string ⟨#[63]⟩) w) (
 Cl P F.strings_Split #[command_p1, (.string ⟨#[32]⟩)] w fun x_2 w1 =>
 Ias 1 x_2 (.int .i64 0) fun x_3 =>
 Ld x_3 w1 fun x_4 =>
 VJoin 1 (fun _ x_5 w2 =>
 Vif x_5 (
 Cl P F.desk_Desk_prepare #[d_p0, x_2] w2 fun x_6 w3 =>
 R x_6 w3) (
 VJoin 1 (fun _ x_7 w4 =>
 Vif x_7 (
 Cl P F.desk_Desk_run #[d_p0, x_2] w4 fun x_8 w5 =>
 R x_8 w5) (
 Cl P F.desk_Desk_talk #[d_p0, x_2] w4 fun x_9 w6 =>
 R x_9 w6))
 (fun J10 =>
 Bp .eql x_4 (.string ⟨#[116, 105, 99, 107]⟩) fun x_11 =>
 Vif x_11 (
 KE [d_p0, x_2] [d_p0, x_2] <| J10 x_11 w2) (
 Bp .eql x_4 (.string ⟨#[99, 108, 111, 115, 101]⟩) fun x_12 =>
 Vif x_12 (
 KE [d_p0, x_2] [d_p0, x_2] <| J10 x_12 w2) (
 Bp .eql x_4 (.string ⟨#[116, 101, 110, 97, 110, 116, 115]⟩) fun x_13 =>
 KE [d_p0, x_2] [d_p0, x_2] <| J10 x_13 w2)))))
 (fun J14 =>
 Bp .eql x_4 (.string ⟨#[116, 101, 110, 97, 110, 116]⟩) fun x_15 =>
 Vif x_15 (
 KE [d_p0, x_2, x_4] [d_p0, x_2, x_4] <| J14 x_15 w1) (
 Bp .eql x_4 (.string ⟨#[115, 101, 116]⟩) fun x_16 =>
 Vif x_16 (
 KE [d_p0, x_2, x_4] [d_p0, x_2, x_4] <| J14 x_16 w1) (
 Bp .eql x_4 (.string ⟨#[115, 116, 97, 114, 116]⟩) fun x_17 =>
 KE [d_p0, x_2, x_4] [d_p0, x_2, x_4] <| J14 x_17 w1))))
theorem Tie.desk_Desk_Do {d_p0 command_p1 : Value} {w : World} {R : Value → World → Prop} (h : Vcf.desk_Desk_Do Tryz.prog d_p0 command_p1 w R) : Cl Tryz.prog F.desk_Desk_Do #[d_p0, command_p1] w R :=
  cl_of_vc (n := 30) (rs := [(.tmp 4)]) (h := (.s .z (.s (.s .z (.i (.s .z .z) .z)) (.s .z (.s (.s .z (.b (.j [13] [0, 5, 12] (.s .z (.i .z (.s .z (.i .z .z)))) (.i (.s .z .z) (.j [20] [0, 5] (.s .z (.i .z (.s .z (.i .z .z)))) (.i (.s .z .z) .z)))))) (.s .z .z)))))) (args := [d_p0, command_p1]) (by kernel_rfl) Tryz.func24 rfl (by kernel_rfl) rfl rfl rfl (Eq.mp (by kernel_rfl) h)

/-- (baler/desk.Desk).Started -/
def Vcf.desk_Desk_Started (P : Program) (d_p0 : Value) (w : World) (R : Value → World → Prop) : Prop   :=
 Bn P 106 true d_p0 (.pointer none) fun x_1 =>
 Vif x_1 (
 Nc d_p0 <|
 Fo 7 d_p0 fun x_2 =>
 Ld x_2 w fun x_3 =>
 Bn P 67 true x_3 (.pointer none) fun x_4 =>
 R x_4 w) (
 R (.bool false) w)
theorem Tie.desk_Desk_Started {d_p0 : Value} {w : World} {R : Value → World → Prop} (h : Vcf.desk_Desk_Started Tryz.prog d_p0 w R) : Cl Tryz.prog F.desk_Desk_Started #[d_p0] w R :=
  cl_of_vc (n := 12) (rs := [(.tmp 2)]) (h := (.s .z (.s .z .z))) (args := [d_p0]) (by kernel_rfl) Tryz.func25 rfl (by kernel_rfl) rfl rfl rfl (Eq.mp (by kernel_rfl) h)

/-- baler/balerlaw48.same -/
def Vcf.balerlaw48_same (P : Program) (a_p0 b_p1 : Value) (w : World) (R : Value → World → Prop) : Prop   :=
 New a_p0 42 w fun a_1 w1 =>
 New b_p1 42 w1 fun b_2 w2 =>
 Fo 0 a_1 fun x_3 =>
 Ld x_3 w2 fun x_4 =>
 Fo 0 b_2 fun x_5 =>
 Ld x_5 w2 fun x_6 =>
 Cl P F.balerref32_Same #[x_4, x_6] w2 fun x_7 w3 =>
 Vif x_7 (
 Fo 1 a_1 fun x_8 =>
 Ld x_8 w3 fun x_9 =>
 Fo 1 b_2 fun x_10 =>
 Ld x_10 w3 fun x_11 =>
 Bp .eql x_9 x_11 fun x_12 =>
 Vif x_12 (
 Fo 2 a_1 fun x_13 =>
 Ld x_13 w3 fun x_14 =>
 Fo 2 b_2 fun x_15 =>
 Ld x_15 w3 fun x_16 =>
 Bp .eql x_14 x_16 fun x_17 =>
 Vif x_17 (
 Fo 3 a_1 fun x_18 =>
 Ld x_18 w3 fun x_19 =>
 Fo 3 b_2 fun x_20 =>
 Ld x_20 w3 fun x_21 =>
 Bp .eql x_19 x_21 fun x_22 =>
 Vif x_22 (
 Fo 4 a_1 fun x_23 =>
 Ld x_23 w3 fun x_24 =>
 Fo 4 b_2 fun x_25 =>
 Ld x_25 w3 fun x_26 =>
 Bp .eql x_24 x_26 fun x_27 =>
 Vif x_27 (
 Fo 5 a_1 fun x_28 =>
 Ld x_28 w3 fun x_29 =>
 Fo 5 b_2 fun x_30 =>
 Ld x_30 w3 fun x_31 =>
 Bp .eql x_29 x_31 fun x_32 =>
 Vif x_32 (
 Fo 6 a_1 fun x_33 =>
 Ld x_33 w3 fun x_34 =>
 Fo 6 b_2 fun x_35 =>
 Ld x_35 w3 fun x_36 =>
 Bp .eql x_34 x_36 fun x_37 =>
 R x_37 w3) (
 R (.bool false) w3)) (
 R (.bool false) w3)) (
 R (.bool false) w3)) (
 R (.bool false) w3)) (
 R (.bool false) w3)) (
 R (.bool false) w3)
theorem Tie.balerlaw48_same {a_p0 b_p1 : Value} {w : World} {R : Value → World → Prop} (h : Vcf.balerlaw48_same Tryz.prog a_p0 b_p1 w R) : Cl Tryz.prog F.balerlaw48_same #[a_p0, b_p1] w R :=
  cl_of_vc (n := 52) (rs := [(.tmp 4)]) (h := (.s .z (.s .z .z))) (args := [a_p0, b_p1]) (by kernel_rfl) Tryz.func26 rfl (by kernel_rfl) rfl rfl rfl (Eq.mp (by kernel_rfl) h)

/-- (baler/desk.Desk).Config -/
def Vcf.desk_Desk_Config (P : Program) (d_p0 : Value) (w : World) (R : Value → World → Prop) : Prop   :=
 New (zeroP P 42) 42 w fun x_1 w1 =>
 Bn P 106 false d_p0 (.pointer none) fun x_2 =>
 Vif x_2 (
 Bd P 42 #[] w1 fun x_3 =>
 StA 7 x_1 x_3 w1 fun w2 =>
 LdA 7 x_1 w2 fun x_4 =>
 R x_4 w2) (
 Nc d_p0 <|
 Fo 0 d_p0 fun x_5 =>
 LdA 7 x_5 w1 fun x_6 =>
 New (zeroP P 42) 42 w1 fun c_7 w3 =>
 StA 7 c_7 x_6 w3 fun w4 =>
 Fo 0 c_7 fun x_8 =>
 Ld x_8 w4 fun x_9 =>
 Cl P F.slices_Clone_api_Tenant_api_Tenant #[x_9] w4 fun x_10 w5 =>
 Fo 0 c_7 fun x_11 =>
 St x_11 x_10 w5 fun w6 =>
 LdA 7 c_7 w6 fun x_12 =>
 StA 7 x_1 x_12 w6 fun w7 =>
 LdA 7 x_1 w7 fun x_13 =>
 R x_13 w7)
theorem Tie.desk_Desk_Config {d_p0 : Value} {w : World} {R : Value → World → Prop} (h : Vcf.desk_Desk_Config Tryz.prog d_p0 w R) : Cl Tryz.prog F.desk_Desk_Config #[d_p0] w R :=
  cl_of_vc (n := 16) (rs := [(.cell 2 42)]) (h := (.s .z (.s (.s .z (.i (.s .z .z) .z)) (.s .z (.s .z (.s .z .z)))))) (args := [d_p0]) (by kernel_rfl) Tryz.func27 rfl (by kernel_rfl) rfl rfl rfl (Eq.mp (by kernel_rfl) h)

/-- (baler/server.Server).known -/
def Vcf.server_Server_known (P : Program) (s_p0 n_p1 : Value) (w : World) (R : Value → World → Prop) : Prop   :=
 Bn P 67 false s_p0 (.pointer none) fun x_1 =>
 Vif x_1 (
 R (.pointer none) w) (
 Nc s_p0 <|
 Fo 7 s_p0 fun x_2 =>
 Ld x_2 w fun x_3 =>
 Lk P 60 x_3 n_p1 false w fun x_4 =>
 R x_4 w)
theorem Tie.server_Server_known {s_p0 n_p1 : Value} {w : World} {R : Value → World → Prop} (h : Vcf.server_Server_known Tryz.prog s_p0 n_p1 w R) : Cl Tryz.prog F.server_Server_known #[s_p0, n_p1] w R :=
  cl_of_vc (n := 13) (rs := [(.tmp 4)]) (h := (.s .z (.s (.s .z (.i (.s .z .z) .z)) (.s .z .z)))) (args := [s_p0, n_p1]) (by kernel_rfl) Tryz.func43 rfl (by kernel_rfl) rfl rfl rfl (Eq.mp (by kernel_rfl) h)

/-- baler/audit.Same$1 -/
def Vcf.audit_Same_1 (P : Program) (r_p0 : Value) (w : World) (R : Value → World → Prop) : Prop   :=
 New r_p0 34 w fun r_1 w1 =>
 New (zeroP P 100) 100 w1 fun x_2 w2 =>
 Fo 0 r_1 fun x_3 =>
 Ld x_3 w2 fun x_4 =>
 Fo 1 r_1 fun x_5 =>
 Ld x_5 w2 fun x_6 =>
 Fo 2 r_1 fun x_7 =>
 Ld x_7 w2 fun x_8 =>
 Fo 3 r_1 fun x_9 =>
 Ld x_9 w2 fun x_10 =>
 Fo 4 r_1 fun x_11 =>
 Ld x_11 w2 fun x_12 =>
 Fo 5 r_1 fun x_13 =>
 Ld x_13 w2 fun x_14 =>
 Fo 6 r_1 fun x_15 =>
 Ld x_15 w2 fun x_16 =>
 Bd P 100 #[(0, x_4), (1, x_6), (2, x_8), (3, x_10), (4, x_12), (5, x_14), (6, x_16)] w2 fun x_17 =>
 StA 7 x_2 x_17 w2 fun w3 =>
 LdA 7 x_2 w3 fun x_18 =>
 R x_18 w3
theorem Tie.audit_Same_1 {r_p0 : Value} {w : World} {R : Value → World → Prop} (h : Vcf.audit_Same_1 Tryz.prog r_p0 w R) : Cl Tryz.prog F.audit_Same_1 #[r_p0] w R :=
  cl_of_vc (n := 18) (rs := [(.cell 2 100)]) (h := (.s .z (.s .z .z))) (args := [r_p0]) (by kernel_rfl) Tryz.func58 rfl (by kernel_rfl) rfl rfl rfl (Eq.mp (by kernel_rfl) h)

/-- slices.Equal[[]int,int] -/
def Vcf.slices_Equal_int_int (P : Program) (s1_p0 s2_p1 : Value) (w : World) (R : Value → World → Prop) : Prop   :=
 Lnl s1_p0 fun x_1 =>
 Lnl s2_p1 fun x_2 =>
 Bp .neq x_1 x_2 fun x_3 =>
 Vif x_3 (
 R (.bool false) w) (
 Lnl s1_p0 fun x_4 =>
 VLoop 1 [(.int .i64 0)] w fun _ next6 x_5 w1 =>
 Bp .lss x_5 x_4 fun x_7 =>
 Vif x_7 (
 Dr w1 fun w2 =>
 Ias 1 s1_p0 x_5 fun x_8 =>
 Ld x_8 w2 fun x_9 =>
 Ias 1 s2_p1 x_5 fun x_11 =>
 Ld x_11 w2 fun x_12 =>
 Bp .neq x_9 x_12 fun x_14 =>
 Vif x_14 (
 R (.bool false) w2) (
 Bp .add x_5 (.int .i64 1) fun x_15 =>
 KE [s1_p0, s2_p1, x_4] [s1_p0, s2_p1, x_4] <| next6 x_15 w2)) (
 R (.bool true) w1))
theorem Tie.slices_Equal_int_int {s1_p0 s2_p1 : Value} {w : World} {R : Value → World → Prop} (h : Vcf.slices_Equal_int_int Tryz.prog s1_p0 s2_p1 w R) : Cl Tryz.prog F.slices_Equal_int_int #[s1_p0, s2_p1] w R :=
  cl_of_vc (n := 26) (rs := [(.tmp 4)]) (h := (.s .z (.s (.s .z (.i (.s .z .z) .z)) (.s (.s .z (.b (.l [13] [0, 1, 12] (.s .z (.s (.i .z .z) (.s (.b (.s .z (.s (.r (.staged [0, 0, 3, 7, 0, 0, 48, 112, 255])) (.i (.s .z .z) .z)))) .z)))))) (.s .z .z))))) (args := [s1_p0, s2_p1]) (by kernel_rfl) Tryz.func59 rfl (by kernel_rfl) rfl rfl rfl (Eq.mp (by kernel_rfl) h)

/-- baler/balerref32.Same -/
def Vcf.balerref32_Same (P : Program) (a_p0 b_p1 : Value) (w : World) (R : Value → World → Prop) : Prop   :=
 Lnl a_p0 fun x_1 =>
 Lnl b_p1 fun x_2 =>
 Bp .neq x_1 x_2 fun x_3 =>
 Vif x_3 (
 R (.bool false) w) (
 Lnl a_p0 fun x_4 =>
 VLoop 1 [(.int .i64 0)] w fun _ next6 x_5 w1 =>
 Bp .lss x_5 x_4 fun x_7 =>
 Vif x_7 (
 Ias 5 a_p0 x_5 fun x_8 =>
 LdA 5 x_8 w1 fun x_9 =>
 New (zeroP P 110) 110 w1 fun t_10 w2 =>
 StA 5 t_10 x_9 w2 fun w3 =>
 Dr w3 fun w4 =>
 LdA 5 t_10 w4 fun x_11 =>
 Ias 5 b_p1 x_5 fun x_13 =>
 LdA 5 x_13 w4 fun x_14 =>
 Be P .neq 110 (.tmp 19) (.tmp 23) x_11 x_14 w4 fun x_16 =>
 Vif x_16 (
 R (.bool false) w4) (
 Bp .add x_5 (.int .i64 1) fun x_18 =>
 KE [b_p1, a_p0, x_4] [b_p1, a_p0, x_4] <| next6 x_18 w4)) (
 R (.bool true) w1))
theorem Tie.balerref32_Same {a_p0 b_p1 : Value} {w : World} {R : Value → World → Prop} (h : Vcf.balerref32_Same Tryz.prog a_p0 b_p1 w R) : Cl Tryz.prog F.balerref32_Same #[a_p0, b_p1] w R :=
  cl_of_vc (n := 26) (rs := [(.tmp 4)]) (h := (.s .z (.s (.s .z (.i (.s .z .z) .z)) (.s (.s .z (.b (.l [14] [1, 12, 13] (.s .z (.s (.i .z .z) (.s (.b (.s .z (.s (.r (.staged [0, 0, 0, 6, 14, 31])) (.i (.s .z .z) .z)))) .z)))))) (.s .z .z))))) (args := [a_p0, b_p1]) (by kernel_rfl) Tryz.func64 rfl (by kernel_rfl) rfl rfl rfl (Eq.mp (by kernel_rfl) h)

/-- (baler/audit.watch).play -/
def Vcf.audit_watch_play (P : Program) (w_p0 e_p1 : Value) (w : World) (R : Value → World → Prop) : Prop   :=
 New e_p1 182 w fun e_1 w1 =>
 Fo 0 e_1 fun x_2 =>
 Ld x_2 w1 fun x_3 =>
 Bp .eql x_3 (.int .i64 1) fun x_4 =>
 Vif x_4 (
 Dr w1 fun w2 =>
 Nc w_p0 <|
 Fo 8 w_p0 fun x_5 =>
 Fo 7 x_5 fun x_6 =>
 Ld x_6 w2 fun x_7 =>
 Fo 1 e_1 fun x_9 =>
 Ld x_9 w2 fun x_10 =>
 Ias 1 x_7 x_10 fun x_12 =>
 Ld x_12 w2 fun x_13 =>
 Nc w_p0 <|
 Fo 18 w_p0 fun x_15 =>
 Ld x_15 w2 fun x_16 =>
 Fo 1 e_1 fun x_18 =>
 Ld x_18 w2 fun x_19 =>
 Ias 1 x_16 x_19 fun x_21 =>
 Ld x_21 w2 fun x_22 =>
 Sst x_13 (some x_22) none fun x_24 =>
 Dr w2 fun w3 =>
 Nc w_p0 <|
 Fo 18 w_p0 fun x_26 =>
 Ld x_26 w3 fun x_27 =>
 Fo 1 e_1 fun x_29 =>
 Ld x_29 w3 fun x_30 =>
 Ias 1 x_27 x_30 fun x_32 =>
 Ld x_32 w3 fun x_33 =>
 Nc w_p0 <|
 Fo 17 w_p0 fun x_35 =>
 Ld x_35 w3 fun x_36 =>
 Fo 1 e_1 fun x_38 =>
 Ld x_38 w3 fun x_39 =>
 Lns x_24 fun x_41 =>
 Fo 2 e_1 fun x_43 =>
 Ld x_43 w3 fun x_44 =>
 Bmin P #[3, 3] 3 #[x_41, x_44] w3 fun x_46 =>
 Sst x_24 none (some x_46) fun x_48 =>
 Cl P F.server_Server_Deliver #[x_36, x_39, x_48] w3 fun x_50 w4 =>
 Rk (fun w K => Ld x_32 w fun x_34 => K x_34) x_33 w4 <|
 Rk (fun w K => Ld x_29 w fun x_31 => K x_31) x_30 w4 <|
 Rk (fun w K => Ld x_26 w fun x_28 => K x_28) x_27 w4 <|
 Bp .add x_33 x_50 fun x_51 =>
 Ias 1 x_27 x_30 fun x_52 =>
 St x_52 x_51 w4 fun w5 =>
 Cl P F.audit_watch_look #[w_p0] w5 fun x_53 w6 =>
 R (.tuple #[]) w6) (
 Bp .eql x_3 (.int .i64 2) fun x_54 =>
 Vif x_54 (
 Fo 2 e_1 fun x_55 =>
 Ld x_55 w1 fun x_56 =>
 VLoop 1 [(.int .i64 0)] w1 fun _ next58 x_57 w7 =>
 Bp .lss x_57 x_56 fun x_59 =>
 Vif x_59 (
 Cl P F.audit_watch_tick #[w_p0] w7 fun x_60 w8 =>
 Bp .add x_57 (.int .i64 1) fun x_61 =>
 KE [w_p0, x_56] [w_p0, x_56] <| next58 x_61 w8) (
 R (.tuple #[]) w7)) (
 Dr w1 fun w9 =>
 Nc w_p0 <|
 Fo 17 w_p0 fun x_62 =>
 Ld x_62 w9 fun x_63 =>
 Fo 1 e_1 fun x_65 =>
 Ld x_65 w9 fun x_66 =>
 Cl P F.server_Server_Close #[x_63, x_66] w9 fun x_68 w10 =>
 Cl P F.audit_watch_look #[w_p0] w10 fun x_69 w11 =>
 R (.tuple #[]) w11))
theorem Tie.audit_watch_play {w_p0 e_p1 : Value} {w : World} {R : Value → World → Prop} (h : Vcf.audit_watch_play Tryz.prog w_p0 e_p1 w R) : Cl Tryz.prog F.audit_watch_play #[w_p0, e_p1] w R :=
  cl_of_vc (n := 69) (rs := []) (h := (.s .z (.s (.s .z (.b (.s .z (.i (.s (.r (.staged [0, 1, 3, 7, 15, 0, 32, 127, 255, 0, 512, 1536, 3584, 0, 8192, 32256, 65024, 131071, 262143])) (.r (.staged [0, 1, 3, 7, 0, 16, 63, 127, 0, 256, 768, 1792, 0, 4096, 0, 0, 32768, 0, 131072, 491520, 1032192, 2096896, 4194303, 8388607, 16777215]))) (.s .z (.i (.s (.s .z (.b (.l [62] [0, 61] (.s .z (.s (.i .z .z) (.s (.b .z) .z)))))) .z) (.r (.staged [0, 1, 3, 7, 0, 16, 63])))))))) .z))) (args := [w_p0, e_p1]) (by kernel_rfl) Tryz.func111 rfl (by kernel_rfl) rfl rfl rfl (Eq.mp (by kernel_rfl) h)

/-- (baler/audit.watch).tick -/
def Vcf.audit_watch_tick (P : Program) (w_p0 : Value) (w : World) (R : Value → World → Prop) : Prop   :=
 Nc w_p0 <|
 Fo 17 w_p0 fun x_1 =>
 Ld x_1 w fun x_2 =>
 Cl P F.server_Server_Tick #[x_2] w fun x_3 w1 =>
 Dr w1 fun w2 =>
 Nc w_p0 <|
 Fo 17 w_p0 fun x_4 =>
 Ld x_4 w2 fun x_5 =>
 Cl P F.server_Server_At #[x_5] w2 fun x_7 w3 =>
 Nc w_p0 <|
 Fo 8 w_p0 fun x_8 =>
 Fo 0 x_8 fun x_9 =>
 Fo 4 x_9 fun x_10 =>
 Ld x_10 w3 fun x_11 =>
 Rk (fun w K => Ld x_10 w fun x_12 => K x_12) x_11 w2 <|
 Bp .rem x_7 x_11 fun x_14 =>
 Bp .eql x_14 (.int .i64 0) fun x_15 =>
 Vif x_15 (
 Nc w_p0 <|
 Fo 20 w_p0 fun x_16 =>
 Ld x_16 w3 fun x_17 =>
 Lnl x_17 fun x_18 =>
 VLoop 1 [(.int .i64 0)] w3 fun _ next20 x_19 w4 =>
 Bp .lss x_19 x_18 fun x_21 =>
 Vif x_21 (
 Dr w4 fun w5 =>
 Nc w_p0 <|
 Fo 20 w_p0 fun x_22 =>
 Ld x_22 w5 fun x_23 =>
 Nc w_p0 <|
 Fo 17 w_p0 fun x_25 =>
 Ld x_25 w5 fun x_26 =>
 Cl P F.server_Server_Charged #[x_26, x_19] w5 fun x_28 w6 =>
 Rk (fun w K => Ld x_22 w fun x_24 => K x_24) x_23 w6 <|
 Ias 1 x_23 x_19 fun x_29 =>
 St x_29 x_28 w6 fun w7 =>
 Bp .add x_19 (.int .i64 1) fun x_30 =>
 KE [w_p0, x_18] [w_p0, x_18] <| next20 x_30 w7) (
 Cl P F.audit_watch_look #[w_p0] w4 fun x_31 w8 =>
 R (.tuple #[]) w8)) (
 Cl P F.audit_watch_look #[w_p0] w3 fun x_32 w9 =>
 R (.tuple #[]) w9)
theorem Tie.audit_watch_tick {w_p0 : Value} {w : World} {R : Value → World → Prop} (h : Vcf.audit_watch_tick Tryz.prog w_p0 w R) : Cl Tryz.prog F.audit_watch_tick #[w_p0] w R :=
  cl_of_vc (n := 44) (rs := []) (h := (.s .z (.s (.s (.r (.staged [0, 1, 3, 7, 15, 0, 32, 96, 224, 480, 992, 2047, 4095])) (.i (.s .z (.b (.l [26] [0, 25] (.s .z (.s (.i .z .z) (.s (.b (.s .z (.r (.staged [0, 1, 3, 7, 0, 0, 32, 96, 224, 0, 992, 2047, 4095])))) .z)))))) .z)) .z))) (args := [w_p0]) (by kernel_rfl) Tryz.func174 rfl (by kernel_rfl) rfl rfl rfl (Eq.mp (by kernel_rfl) h)

/-- (baler/audit.watch).look -/
def Vcf.audit_watch_look (P : Program) (w_p0 : Value) (w : World) (R : Value → World → Prop) : Prop   :=
 Nc w_p0 <|
 Fo 0 w_p0 fun x_1 =>
 Fo 6 x_1 fun x_2 =>
 Ld x_2 w fun x_3 =>
 Bp .add x_3 (.int .i64 1) fun x_4 =>
 Nc w_p0 <|
 Fo 0 w_p0 fun x_5 =>
 Fo 6 x_5 fun x_6 =>
 St x_6 x_4 w fun w1 =>
 Nc w_p0 <|
 Fo 8 w_p0 fun x_7 =>
 Fo 0 x_7 fun x_8 =>
 Fo 0 x_8 fun x_9 =>
 Ld x_9 w1 fun x_10 =>
 Lnl x_10 fun x_11 =>
 VLoop 2 [(.int .i64 0), (.int .i64 0)] w1 fun _ next14 jobs_12 x_13 w2 =>
 Bp .lss x_13 x_11 fun x_15 =>
 Vif x_15 (
 Ias 5 x_10 x_13 fun x_16 =>
 LdA 5 x_16 w2 fun x_17 =>
 New (zeroP P 110) 110 w2 fun t_18 w3 =>
 StA 5 t_18 x_17 w3 fun w4 =>
 LdA 5 t_18 w4 fun x_19 =>
 Cl P F.audit_watch_tenant #[w_p0, x_13, x_19] w4 fun x_20 w5 =>
 Nc w_p0 <|
 Fo 17 w_p0 fun x_21 =>
 Ld x_21 w5 fun x_22 =>
 Cl P F.server_Server_Jobs #[x_22, x_13] w5 fun x_23 w6 =>
 Bp .add jobs_12 x_23 fun x_24 =>
 Bp .add x_13 (.int .i64 1) fun x_25 =>
 KE [w_p0, x_10, x_11] [w_p0, x_10, x_11] <| next14 x_24 x_25 w6) (
 Dr w2 fun w7 =>
 Nc w_p0 <|
 Fo 0 w_p0 fun x_26 =>
 Fo 4 x_26 fun x_27 =>
 Nc w_p0 <|
 Fo 8 w_p0 fun x_28 =>
 Fo 0 x_28 fun x_29 =>
 Fo 5 x_29 fun x_30 =>
 Ld x_30 w7 fun x_31 =>
 Bp .gtr jobs_12 x_31 fun x_33 =>
 Cl P F.audit_count #[x_27, x_33] w7 fun x_34 w8 =>
 Nc w_p0 <|
 Fo 19 w_p0 fun x_35 =>
 Ld x_35 w8 fun x_36 =>
 Lnl x_36 fun x_37 =>
 VLoop 1 [(.int .i64 0)] w8 fun _ next39 x_38 w9 =>
 Bp .lss x_38 x_37 fun x_40 =>
 Vif x_40 (
 Ias 1 x_36 x_38 fun x_41 =>
 Ld x_41 w9 fun x_42 =>
 Nc w_p0 <|
 Fo 17 w_p0 fun x_43 =>
 Ld x_43 w9 fun x_44 =>
 Cl P F.server_Server_Sent #[x_44, x_38] w9 fun x_45 w10 =>
 Dr w10 fun w11 =>
 Nc w_p0 <|
 Fo 0 w_p0 fun x_46 =>
 Fo 5 x_46 fun x_47 =>
 Cl P F.strings_HasPrefix #[x_45, x_42] w11 fun x_48 w12 =>
 Up .not x_48 fun x_49 =>
 Cl P F.audit_count #[x_47, x_49] w12 fun x_50 w13 =>
 Nc w_p0 <|
 Fo 19 w_p0 fun x_51 =>
 Ld x_51 w13 fun x_52 =>
 Ias 1 x_52 x_38 fun x_53 =>
 St x_53 x_45 w13 fun w14 =>
 Bp .add x_38 (.int .i64 1) fun x_54 =>
 KE [w_p0, x_36, x_37] [w_p0, x_36, x_37] <| next39 x_54 w14) (
 R (.tuple #[]) w9))
theorem Tie.audit_watch_look {w_p0 : Value} {w : World} {R : Value → World → Prop} (h : Vcf.audit_watch_look Tryz.prog w_p0 w R) : Cl Tryz.prog F.audit_watch_look #[w_p0] w R :=
  cl_of_vc (n := 88) (rs := []) (h := (.s .z (.s .z (.s (.s .z (.b (.l [2, 24] [0, 22, 23] (.s .z (.s (.i .z .z) (.s (.b (.s .z (.s .z .z))) .z)))))) (.s (.r (.staged [0, 1, 3, 7, 0, 0, 32, 96, 224, 480, 992, 2032, 4095])) (.s .z (.b (.l [60] [0, 58, 59] (.s .z (.s (.i .z .z) (.s (.b (.s .z (.s .z (.s (.r (.staged [0, 1, 3, 7, 0, 0, 48, 112, 255])) .z)))) .z))))))))))) (args := [w_p0]) (by kernel_rfl) Tryz.func175 rfl (by kernel_rfl) rfl rfl rfl (Eq.mp (by kernel_rfl) h)

/-- (baler/audit.watch).tenant -/
def Vcf.audit_watch_tenant (P : Program) (w_p0 i_p1 t_p2 : Value) (w : World) (R : Value → World → Prop) : Prop   :=
 New t_p2 110 w fun t_1 w1 =>
 Dr w1 fun w2 =>
 Nc w_p0 <|
 Fo 17 w_p0 fun x_2 =>
 Ld x_2 w2 fun x_3 =>
 Cl P F.server_Server_Used #[x_3, i_p1] w2 fun x_5 w3 =>
 Nc w_p0 <|
 Fo 17 w_p0 fun x_6 =>
 Ld x_6 w3 fun x_7 =>
 Rk (fun w K => Ld x_6 w fun x_8 => K x_8) x_7 w2 <|
 Cl P F.server_Server_Left #[x_7, i_p1] w3 fun x_10 w4 =>
 Dr w4 fun w5 =>
 Nc w_p0 <|
 Fo 17 w_p0 fun x_11 =>
 Ld x_11 w5 fun x_12 =>
 Cl P F.server_Server_Charged #[x_12, i_p1] w5 fun x_14 w6 =>
 Nc w_p0 <|
 Fo 20 w_p0 fun x_15 =>
 Ld x_15 w6 fun x_16 =>
 Rk (fun w K => Ld x_15 w fun x_17 => K x_17) x_16 w5 <|
 Ias 1 x_16 i_p1 fun x_19 =>
 Ld x_19 w6 fun x_20 =>
 Rk (fun w K => Ld x_19 w fun x_21 => K x_21) x_20 w5 <|
 Bp .sub x_14 x_20 fun x_23 =>
 VJoin 0 (fun _ w7 =>
 Dr w7 fun w8 =>
 Nc w_p0 <|
 Fo 0 w_p0 fun x_24 =>
 Fo 1 x_24 fun x_25 =>
 Nc w_p0 <|
 Fo 17 w_p0 fun x_26 =>
 Ld x_26 w8 fun x_27 =>
 Cl P F.server_Server_Held #[x_27, i_p1] w8 fun x_29 w9 =>
 Bp .gtr x_29 x_5 fun x_30 =>
 Cl P F.audit_count #[x_25, x_30] w9 fun x_31 w10 =>
 VJoin 0 (fun _ w11 =>
 Dr w11 fun w12 =>
 Nc w_p0 <|
 Fo 0 w_p0 fun x_32 =>
 Fo 3 x_32 fun x_33 =>
 Bp .add x_10 x_23 fun x_34 =>
 Fo 3 t_1 fun x_35 =>
 Ld x_35 w12 fun x_36 =>
 Bp .neq x_34 x_36 fun x_38 =>
 Cl P F.audit_count #[x_33, x_38] w12 fun x_39 w13 =>
 Dr w13 fun w14 =>
 Nc w_p0 <|
 Fo 0 w_p0 fun x_40 =>
 Fo 7 x_40 fun x_41 =>
 Ld x_41 w14 fun x_42 =>
 Nc w_p0 <|
 Fo 0 w_p0 fun x_44 =>
 Fo 7 x_44 fun x_45 =>
 Ld x_45 w14 fun x_46 =>
 Ias 1 x_46 i_p1 fun x_48 =>
 Ld x_48 w14 fun x_49 =>
 Bmax P #[3, 3] 3 #[x_49, x_5] w14 fun x_51 =>
 Ias 1 x_42 i_p1 fun x_53 =>
 St x_53 x_51 w14 fun w15 =>
 R (.tuple #[]) w15)
 (fun J54 =>
 Dr w10 fun w16 =>
 Nc w_p0 <|
 Fo 0 w_p0 fun x_55 =>
 Fo 2 x_55 fun x_56 =>
 Bp .lss x_10 (.int .i64 0) fun x_57 =>
 Vif x_57 (
 Cl P F.audit_count #[x_56, (.bool true)] w16 fun x_58 w17 =>
 KE [w_p0, i_p1, t_1, x_5, x_10, x_23] [w_p0, i_p1, t_1, x_5, x_10, x_23] <| J54 w17) (
 Fo 3 t_1 fun x_59 =>
 Ld x_59 w16 fun x_60 =>
 Bp .gtr x_10 x_60 fun x_62 =>
 Cl P F.audit_count #[x_56, x_62] w16 fun x_63 w18 =>
 KE [w_p0, i_p1, t_1, x_5, x_10, x_23] [w_p0, i_p1, t_1, x_5, x_10, x_23] <| J54 w18)))
 (fun J64 =>
 Dr w6 fun w19 =>
 Nc w_p0 <|
 Fo 0 w_p0 fun x_65 =>
 Fo 0 x_65 fun x_66 =>
 Bp .lss x_5 (.int .i64 0) fun x_67 =>
 Vif x_67 (
 Cl P F.audit_count #[x_66, (.bool true)] w19 fun x_68 w20 =>
 KE [w_p0, i_p1, t_1, x_5, x_10, x_23] [w_p0, i_p1, t_1, x_5, x_10, x_23] <| J64 w20) (
 Fo 2 t_1 fun x_69 =>
 Ld x_69 w19 fun x_70 =>
 Bp .gtr x_5 x_70 fun x_72 =>
 Cl P F.audit_count #[x_66, x_72] w19 fun x_73 w21 =>
 KE [w_p0, i_p1, t_1, x_5, x_10, x_23] [w_p0, i_p1, t_1, x_5, x_10, x_23] <| J64 w21))
theorem Tie.audit_watch_tenant {w_p0 i_p1 t_p2 : Value} {w : World} {R : Value → World → Prop} (h : Vcf.audit_watch_tenant Tryz.prog w_p0 i_p1 t_p2 w R) : Cl Tryz.prog F.audit_watch_tenant #[w_p0, i_p1, t_p2] w R :=
  cl_of_vc (n := 102) (rs := []) (h := (.s .z (.s (.r (.staged [0, 1, 3, 7, 0, 31, 0, 64, 192, 448, 0, 2047, 4095, 8191])) (.s (.r (.staged [0, 1, 3, 7, 0, 31, 0, 64, 192, 448, 0, 1984, 4032, 8191, 16383])) (.j [] [0, 1, 5, 6, 7, 8] (.r (.staged [0, 1, 3, 7, 0, 16, 48, 112, 112, 368, 1008, 2032, 4095])) (.s (.r (.staged [0, 1, 3, 7, 0, 16, 48, 112, 0, 496, 0, 2032, 4095])) (.j [] [0, 1, 5, 6, 7, 8] (.r (.staged [0, 1, 3, 7, 0, 16, 48, 112, 112, 368, 1008, 2032, 4095])) (.s (.r (.staged [0, 1, 3, 7, 0, 0, 48, 0, 128, 496, 1023])) (.r (.staged [0, 1, 3, 7, 15, 0, 0, 64, 192, 448, 960, 0, 4032, 8128, 0, 32704, 65535, 131071])))))))))) (args := [w_p0, i_p1, t_p2]) (by kernel_rfl) Tryz.func229 rfl (by kernel_rfl) rfl rfl rfl (Eq.mp (by kernel_rfl) h)

/-- baler/audit.count -/
def Vcf.audit_count (P : Program) (n_p0 is_p1 : Value) (w : World) (R : Value → World → Prop) : Prop   :=
 Vif is_p1 (
 Nc n_p0 <|
 Ld n_p0 w fun x_1 =>
 Bp .add x_1 (.int .i64 1) fun x_2 =>
 Nc n_p0 <|
 St n_p0 x_2 w fun w1 =>
 R (.tuple #[]) w1) (
 R (.tuple #[]) w)
theorem Tie.audit_count {n_p0 is_p1 : Value} {w : World} {R : Value → World → Prop} (h : Vcf.audit_count Tryz.prog n_p0 is_p1 w R) : Cl Tryz.prog F.audit_count #[n_p0, is_p1] w R :=
  cl_of_vc (n := 10) (rs := []) (h := (.s .z (.i .z .z))) (args := [n_p0, is_p1]) (by kernel_rfl) Tryz.func230 rfl (by kernel_rfl) rfl rfl rfl (Eq.mp (by kernel_rfl) h)

end Go.Proofs.YtdbdclmeiodghaaGreatDoor
