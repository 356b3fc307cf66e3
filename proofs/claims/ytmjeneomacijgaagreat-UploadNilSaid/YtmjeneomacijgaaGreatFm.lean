/- Formulas of the program's functions, printed by a program of the prover's own (dec.py); each is tied to its code by the kernel. -/
import Derived.Test.YtmjeneomacijgaaGreatVc
import Derived.Test.YtmjeneomacijgaaGreatChecked
set_option linter.unusedVariables false
set_option maxRecDepth 1000000
namespace Go.Proofs.YtmjeneomacijgaaGreat
open Go Go.Vc

abbrev F.main_main : Nat := 0
abbrev F.gosem_cut : Nat := 1
abbrev F.gosem_cut_init : Nat := 2
abbrev F.balerlaw38_UploadLong : Nat := 3
abbrev F.balerlaw38_UploadNil : Nat := 4
abbrev F.balerlaw38_hundred : Nat := 5
abbrev F.job_New : Nat := 6
abbrev F.upload_New : Nat := 7
abbrev F.upload_Flow_Put : Nat := 8
abbrev F.upload_Flow_Rest : Nat := 9
abbrev F.upload_Flow_End : Nat := 10
abbrev F.upload_Flow_Move : Nat := 11
abbrev F.upload_Flow_Ended : Nat := 12
abbrev F.upload_Flow_Taken : Nat := 13
abbrev F.job_Job_Held : Nat := 14
abbrev F.job_machineOf : Nat := 15
abbrev F.job_Job_Done : Nat := 16
abbrev F.job_Job_Feed : Nat := 17
abbrev F.job_Job_End : Nat := 18
abbrev F.job_Job_failed : Nat := 19
abbrev F.press_New : Nat := 20
abbrev F.unpress_New : Nat := 21
abbrev F.tester_New : Nat := 22
abbrev F.job_Job_Err : Nat := 23
abbrev F.split_Room : Nat := 24
abbrev F.press_windowed : Nat := 25
abbrev F.split_New : Nat := 26
abbrev F.stream_New : Nat := 27
abbrev F.stream_Writer_Take : Nat := 28
abbrev F.unstream_New : Nat := 29
abbrev F.unpress_may : Nat := 30
abbrev F.bits_NewReader : Nat := 31
abbrev F.crc_New : Nat := 32
abbrev F.feed_NewPacker : Nat := 33
abbrev F.bits_NewWriter : Nat := 34
abbrev F.bits_Writer_Put : Nat := 35
abbrev F.bits_Writer_Take : Nat := 36
abbrev F.crc_Table : Nat := 37
abbrev F.bits_fits : Nat := 38
abbrev F.bits_Writer_bit : Nat := 39
abbrev F.runtime_boundsError_Error : Nat := 40
abbrev F.runtime_boundsError_RuntimeError : Nat := 41
abbrev F.runtime_errorString_Error : Nat := 42
abbrev F.runtime_errorString_RuntimeError : Nat := 43
abbrev F.runtime_plainError_Error : Nat := 44
abbrev F.runtime_plainError_RuntimeError : Nat := 45
abbrev F.runtime_errorAddressString_Error : Nat := 46
abbrev F.runtime_errorAddressString_RuntimeError : Nat := 47
abbrev F.runtime_TypeAssertionError_Error : Nat := 48
abbrev F.runtime_TypeAssertionError_RuntimeError : Nat := 49
abbrev F.runtime_PanicNilError_Error : Nat := 50
abbrev F.runtime_PanicNilError_RuntimeError : Nat := 51
abbrev F.internal_abi_Type_Align : Nat := 52
abbrev F.internal_runtime_maps_unhashableTypeError_Error : Nat := 53
abbrev F.internal_runtime_maps_unhashableTypeError_RuntimeError : Nat := 54
abbrev F.job_Job_Count : Nat := 55
abbrev F.api_Errno_Error : Nat := 56
abbrev F.press_Press_Done : Nat := 57
abbrev F.press_Press_End : Nat := 58
abbrev F.press_Press_Feed : Nat := 59
abbrev F.press_Press_Held : Nat := 60
abbrev F.press_Press_Step : Nat := 61
abbrev F.press_Press_Steps : Nat := 62
abbrev F.press_Press_Stopped : Nat := 63
abbrev F.press_Press_Take : Nat := 64
abbrev F.press_Press_Waiting : Nat := 65
abbrev F.press_Press_flush : Nat := 66
abbrev F.split_Splitter_Held : Nat := 67
abbrev F.bwt_Turner_Held : Nat := 68
abbrev F.split_Splitter_End : Nat := 69
abbrev F.feed_Packer_Row : Nat := 70
abbrev F.sorter_Sorter_Held : Nat := 71
abbrev F.feed_Packer_End : Nat := 72
abbrev F.split_Splitter_piece : Nat := 73
abbrev F.split_begun_close : Nat := 74
abbrev F.feed_Packer_close : Nat := 75
abbrev F.split_begun_take : Nat := 76
abbrev F.crc_Sum_Value : Nat := 77
abbrev F.crc_Sum_Reset : Nat := 78
abbrev F.rle_Piece : Nat := 79
abbrev F.crc_Sum_Put : Nat := 80
abbrev F.rle_text : Nat := 81
abbrev F.crc_step : Nat := 82
abbrev F.strings_Repeat : Nat := 83
abbrev F.math_bits_Mul : Nat := 84
abbrev F.strings_HasPrefix : Nat := 85
abbrev F.strings_Builder_Grow : Nat := 86
abbrev F.strings_Builder_WriteString : Nat := 87
abbrev F.strings_Builder_Len : Nat := 88
abbrev F.strings_Builder_String : Nat := 89
abbrev F.math_bits_Mul32 : Nat := 90
abbrev F.math_bits_Mul64 : Nat := 91
abbrev F.internal_stringslite_HasPrefix : Nat := 92
abbrev F.strings_Builder_copyCheck : Nat := 93
abbrev F.strings_Builder_grow : Nat := 94
abbrev F.internal_abi_NoEscape : Nat := 95
abbrev F.internal_bytealg_MakeNoZero : Nat := 96
abbrev F.unpress_Expander_Done : Nat := 97
abbrev F.unpress_Expander_End : Nat := 98
abbrev F.unpress_Expander_Err : Nat := 99
abbrev F.unpress_Expander_Feed : Nat := 100
abbrev F.unpress_Expander_Held : Nat := 101
abbrev F.unpress_Expander_Step : Nat := 102
abbrev F.unpress_Expander_Steps : Nat := 103
abbrev F.unpress_Expander_Stopped : Nat := 104
abbrev F.unpress_Expander_Take : Nat := 105
abbrev F.unpress_Expander_Waiting : Nat := 106
abbrev F.unpress_Expander_open : Nat := 107
abbrev F.bits_Reader_Held : Nat := 108
abbrev F.bits_Reader_More : Nat := 109
abbrev F.unstream_Reader_Held : Nat := 110
abbrev F.unbwt_Inverter_Held : Nat := 111
abbrev F.block_Reader_Held : Nat := 112
abbrev F.code_Reader_Held : Nat := 113
abbrev F.picks_Reader_Picks : Nat := 114
abbrev F.slices_Clone_int_int : Nat := 115
abbrev F.tester_Tester_Done : Nat := 116
abbrev F.tester_Tester_End : Nat := 117
abbrev F.tester_Tester_Err : Nat := 118
abbrev F.tester_Tester_Feed : Nat := 119
abbrev F.tester_Tester_Held : Nat := 120
abbrev F.tester_Tester_Step : Nat := 121
abbrev F.tester_Tester_Steps : Nat := 122
abbrev F.tester_Tester_Stopped : Nat := 123
abbrev F.tester_Tester_Take : Nat := 124
abbrev F.tester_Tester_Waiting : Nat := 125
abbrev F.tester_Tester_tell : Nat := 126
abbrev F.stream_Writer_End : Nat := 127
abbrev F.stream_Writer_Held : Nat := 128
abbrev F.stream_Writer_magic : Nat := 129
abbrev F.bits_Writer_Pad : Nat := 130
abbrev F.bits_Writer_Held : Nat := 131
abbrev F.bwt_Turner_Done : Nat := 132
abbrev F.bwt_Turner_Step : Nat := 133
abbrev F.bwt_Turner_Steps : Nat := 134
abbrev F.bwt_Turner_take : Nat := 135
abbrev F.bits_Reader_Align : Nat := 136
abbrev F.unpress_opening_end : Nat := 137
abbrev F.block_Reader_Done : Nat := 138
abbrev F.internal_abi_Kind_String : Nat := 139
abbrev F.sorter_Sorter_Done : Nat := 140
abbrev F.sorter_Sorter_Step : Nat := 141
abbrev F.sorter_Sorter_Steps : Nat := 142
abbrev F.sorter_Sorter_begin : Nat := 143
abbrev F.strings_Builder_Reset : Nat := 144
abbrev F.unbwt_Inverter_Done : Nat := 145
abbrev F.unbwt_Inverter_Step : Nat := 146
abbrev F.unbwt_Inverter_Steps : Nat := 147
abbrev F.unbwt_Inverter_Waiting : Nat := 148
abbrev F.unbwt_Inverter_begins : Nat := 149
abbrev F.feed_Unpacker_End : Nat := 150
abbrev F.feed_Unpacker_Wants : Nat := 151
abbrev F.block_row_next : Nat := 152
abbrev F.code_Reader_Count : Nat := 153
abbrev F.code_Reader_Done : Nat := 154
abbrev F.zeros_Reader_Count : Nat := 155
abbrev F.zeros_Reader_Done : Nat := 156
abbrev F.mtf_List_Len : Nat := 157
abbrev F.picks_Reader_Done : Nat := 158
abbrev F.delta_Reader_Done : Nat := 159
abbrev F.canon_Code_Size : Nat := 160
abbrev F.job_Job_Step : Nat := 161
abbrev F.job_Job_Steps : Nat := 162
abbrev F.job_Job_Stopped : Nat := 163
abbrev F.job_Job_Take : Nat := 164
abbrev F.job_Job_Waiting : Nat := 165

/-- baler/balerlaw38.UploadLong -/
def Vcf.balerlaw38_UploadLong (P : Program) (n_p0 : Value) (w : World) (R : Value → World → Prop) : Prop   :=
 Bp .rem n_p0 (.int .u32 66000) fun x_1 =>
 Ci .i64 x_1 fun x_2 =>
 VJoin 1 (fun _ x_3 w1 =>
 Vif x_3 (
 Cl P F.balerlaw38_hundred #[] w1 fun x_4 w2 =>
 R x_4 w2) (
 Cl P F.job_New #[(.int .i64 3), (.int .i64 0), (.int .i64 24), (.int .i64 64)] w1 fun x_5 w3 =>
 Ex x_5 0 fun x_6 =>
 Ex x_5 1 fun x_7 =>
 Cl P F.upload_New #[x_6] w3 fun x_8 w4 =>
 Ex x_8 0 fun x_9 =>
 Ex x_8 1 fun x_10 =>
 Ms P 33 x_2 x_2 w4 fun x_11 w5 =>
 Cw P 33 9 x_11 w5 fun x_12 w6 =>
 Cl P F.upload_Flow_Put #[x_9, x_12] w6 fun x_13 w7 =>
 Bp .gtr x_2 (.int .i64 65536) fun x_14 =>
 Vif x_14 (
 Bp .eql x_7 (.int .i64 0) fun x_15 =>
 Vif x_15 (
 Bp .eql x_10 (.int .i64 0) fun x_16 =>
 Vif x_16 (
 Bp .eql x_13 (.int .i64 2) fun x_17 =>
 Vif x_17 (
 Cl P F.upload_Flow_Rest #[x_9] w7 fun x_18 w8 =>
 Bp .eql x_18 (.int .i64 0) fun x_19 =>
 Vif x_19 (
 Cl P F.balerlaw38_hundred #[] w8 fun x_20 w9 =>
 R x_20 w9) (
 R (.bool false) w8)) (
 R (.bool false) w7)) (
 R (.bool false) w7)) (
 R (.bool false) w7)) (
 Bp .eql x_7 (.int .i64 0) fun x_21 =>
 Vif x_21 (
 Bp .eql x_10 (.int .i64 0) fun x_22 =>
 Vif x_22 (
 Bp .eql x_13 (.int .i64 0) fun x_23 =>
 Vif x_23 (
 Cl P F.upload_Flow_Rest #[x_9] w7 fun x_24 w10 =>
 Bp .sub x_2 (.int .i64 64) fun x_25 =>
 Bmax P #[3, 3] 3 #[(.int .i64 0), x_25] w10 fun x_26 =>
 Bp .eql x_24 x_26 fun x_27 =>
 Vif x_27 (
 Cl P F.balerlaw38_hundred #[] w10 fun x_28 w11 =>
 R x_28 w11) (
 R (.bool false) w10)) (
 R (.bool false) w7)) (
 R (.bool false) w7)) (
 R (.bool false) w7))))
 (fun J29 =>
 Bp .gtr x_2 (.int .i64 3000) fun x_30 =>
 Vif x_30 (
 Bp .lss x_2 (.int .i64 65530) fun x_31 =>
 KE [x_2] [x_2] <| J29 x_31 w) (
 KE [x_2] [x_2] <| J29 (.bool false) w))
theorem Tie.balerlaw38_UploadLong {n_p0 : Value} {w : World} {R : Value → World → Prop} (h : Vcf.balerlaw38_UploadLong Tryz.prog n_p0 w R) : Cl Tryz.prog F.balerlaw38_UploadLong #[n_p0] w R :=
  cl_of_vc (n := 74) (rs := [(.tmp 2)]) (h := (.s .z (.s .z (.s (.j [17] [3] .z (.i (.s .z .z) .z)) (.s .z (.s .z (.s .z (.s (.s .z (.i (.s .z .z) .z)) (.s .z .z))))))))) (args := [n_p0]) (by kernel_rfl) Tryz.func3 rfl (by kernel_rfl) rfl rfl rfl (Eq.mp (by kernel_rfl) h)

/-- baler/balerlaw38.UploadNil -/
def Vcf.balerlaw38_UploadNil (P : Program) (s_p0 : Value) (w : World) (R : Value → World → Prop) : Prop   :=
 Cl P F.upload_Flow_Put #[(.pointer none), s_p0] w fun x_1 w1 =>
 Bp .eql x_1 (.int .i64 7) fun x_2 =>
 Vif x_2 (
 Cl P F.upload_Flow_End #[(.pointer none)] w1 fun x_3 w2 =>
 Bp .eql x_3 (.int .i64 7) fun x_4 =>
 Vif x_4 (
 Cl P F.upload_Flow_Move #[(.pointer none)] w2 fun x_5 w3 =>
 Bp .eql x_5 (.int .i64 0) fun x_6 =>
 Vif x_6 (
 Cl P F.upload_Flow_Rest #[(.pointer none)] w3 fun x_7 w4 =>
 Bp .eql x_7 (.int .i64 0) fun x_8 =>
 Vif x_8 (
 Cl P F.upload_Flow_Ended #[(.pointer none)] w4 fun x_9 w5 =>
 Up .not x_9 fun x_10 =>
 Vif x_10 (
 Cl P F.upload_Flow_Taken #[(.pointer none)] w5 fun x_11 w6 =>
 Bp .eql x_11 (.int .i64 0) fun x_12 =>
 Vif x_12 (
 Cl P F.balerlaw38_hundred #[] w6 fun x_13 w7 =>
 R x_13 w7) (
 R (.bool false) w6)) (
 R (.bool false) w5)) (
 R (.bool false) w4)) (
 R (.bool false) w3)) (
 R (.bool false) w2)) (
 R (.bool false) w1)
theorem Tie.balerlaw38_UploadNil {s_p0 : Value} {w : World} {R : Value → World → Prop} (h : Vcf.balerlaw38_UploadNil Tryz.prog s_p0 w R) : Cl Tryz.prog F.balerlaw38_UploadNil #[s_p0] w R :=
  cl_of_vc (n := 36) (rs := [(.tmp 2)]) (h := (.s .z (.s .z (.s .z .z)))) (args := [s_p0]) (by kernel_rfl) Tryz.func4 rfl (by kernel_rfl) rfl rfl rfl (Eq.mp (by kernel_rfl) h)

/-- baler/balerlaw38.hundred -/
def Vcf.balerlaw38_hundred (P : Program) (w : World) (R : Value → World → Prop) : Prop   :=
 Cl P F.job_New #[(.int .i64 1), (.int .i64 1), (.int .i64 24), (.int .i64 64)] w fun x_1 w1 =>
 Ex x_1 0 fun x_2 =>
 Ex x_1 1 fun x_3 =>
 Cl P F.upload_New #[x_2] w1 fun x_4 w2 =>
 Ex x_4 0 fun x_5 =>
 Ex x_4 1 fun x_6 =>
 Ms P 33 (.int .i64 100) (.int .i64 100) w2 fun x_7 w3 =>
 Cw P 33 9 x_7 w3 fun x_8 w4 =>
 Cl P F.upload_Flow_Put #[x_5, x_8] w4 fun x_9 w5 =>
 Cl P F.upload_Flow_Put #[x_5, (.string ⟨#[97]⟩)] w5 fun x_10 w6 =>
 Bp .eql x_3 (.int .i64 0) fun x_11 =>
 Vif x_11 (
 Bp .eql x_6 (.int .i64 0) fun x_12 =>
 Vif x_12 (
 Bp .eql x_9 (.int .i64 0) fun x_13 =>
 Vif x_13 (
 Bp .eql x_10 (.int .i64 34) fun x_14 =>
 Vif x_14 (
 Cl P F.upload_Flow_Rest #[x_5] w6 fun x_15 w7 =>
 Bp .eql x_15 (.int .i64 36) fun x_16 =>
 Vif x_16 (
 Cl P F.upload_Flow_Taken #[x_5] w7 fun x_17 w8 =>
 Bp .eql x_17 (.int .i64 64) fun x_18 =>
 Vif x_18 (
 Cl P F.job_Job_Held #[x_2] w8 fun x_19 w9 =>
 Bp .eql x_19 (.int .i64 68) fun x_20 =>
 R x_20 w9) (
 R (.bool false) w8)) (
 R (.bool false) w7)) (
 R (.bool false) w6)) (
 R (.bool false) w6)) (
 R (.bool false) w6)) (
 R (.bool false) w6)
theorem Tie.balerlaw38_hundred {w : World} {R : Value → World → Prop} (h : Vcf.balerlaw38_hundred Tryz.prog w R) : Cl Tryz.prog F.balerlaw38_hundred #[] w R :=
  cl_of_vc (n := 51) (rs := [(.tmp 0)]) (h := (.s .z (.s .z (.s .z (.s .z (.s .z (.s .z .z))))))) (args := []) (by kernel_rfl) Tryz.func5 rfl (by kernel_rfl) rfl rfl rfl (Eq.mp (by kernel_rfl) h)

/-- baler/job.New -/
def Vcf.job_New (P : Program) (kind_p0 level_p1 unit_p2 window_p3 : Value) (w : World) (R : Value → World → Prop) : Prop   :=
 Cl P F.job_machineOf #[kind_p0, level_p1, unit_p2, window_p3] w fun x_1 w1 =>
 Ex x_1 0 fun x_2 =>
 Ex x_1 1 fun x_3 =>
 Bp .neq x_3 (.int .i64 0) fun x_4 =>
 Vif x_4 (
 R (.tuple #[(.pointer none), x_3]) w1) (
 Bd P 43 #[(0, kind_p0), (1, x_2)] w1 fun x_5 =>
 New x_5 43 w1 fun x_6 w2 =>
 R (.tuple #[x_6, (.int .i64 0)]) w2)
theorem Tie.job_New {kind_p0 level_p1 unit_p2 window_p3 : Value} {w : World} {R : Value → World → Prop} (h : Vcf.job_New Tryz.prog kind_p0 level_p1 unit_p2 window_p3 w R) : Cl Tryz.prog F.job_New #[kind_p0, level_p1, unit_p2, window_p3] w R :=
  cl_of_vc (n := 27) (rs := [(.tmp 8), (.tmp 9)]) (h := (.s .z (.s .z (.s (.s .z (.i (.s .z .z) .z)) (.s .z .z))))) (args := [kind_p0, level_p1, unit_p2, window_p3]) (by kernel_rfl) Tryz.func6 rfl (by kernel_rfl) rfl rfl rfl (Eq.mp (by kernel_rfl) h)

/-- baler/upload.New -/
def Vcf.upload_New (P : Program) (j_p0 : Value) (w : World) (R : Value → World → Prop) : Prop   :=
 Bn false j_p0 (.pointer none) fun x_1 =>
 Vif x_1 (
 R (.tuple #[(.pointer none), (.int .i64 7)]) w) (
 Bd P 45 #[(0, j_p0)] w fun x_2 =>
 New x_2 45 w fun x_3 w1 =>
 R (.tuple #[x_3, (.int .i64 0)]) w1)
theorem Tie.upload_New {j_p0 : Value} {w : World} {R : Value → World → Prop} (h : Vcf.upload_New Tryz.prog j_p0 w R) : Cl Tryz.prog F.upload_New #[j_p0] w R :=
  cl_of_vc (n := 9) (rs := [(.tmp 2), (.tmp 3)]) (h := (.s .z (.s (.s .z (.i (.s .z .z) .z)) (.s .z .z)))) (args := [j_p0]) (by kernel_rfl) Tryz.func7 rfl (by kernel_rfl) rfl rfl rfl (Eq.mp (by kernel_rfl) h)

/-- (baler/upload.Flow).Put -/
def Vcf.upload_Flow_Put (P : Program) (f_p0 s_p1 : Value) (w : World) (R : Value → World → Prop) : Prop   :=
 Bn false f_p0 (.pointer none) fun x_1 =>
 Vif x_1 (
 R (.int .i64 7) w) (
 Nc f_p0 <|
 Fo 2 f_p0 fun x_2 =>
 Ld x_2 w fun x_3 =>
 Vif x_3 (
 R (.int .i64 32) w) (
 Nc f_p0 <|
 Fo 1 f_p0 fun x_4 =>
 Ld x_4 w fun x_5 =>
 Bp .neq x_5 (.string ⟨#[]⟩) fun x_6 =>
 Vif x_6 (
 R (.int .i64 34) w) (
 Lns s_p1 fun x_7 =>
 Bp .gtr x_7 (.int .i64 65536) fun x_8 =>
 Vif x_8 (
 R (.int .i64 2) w) (
 Nc f_p0 <|
 Fo 1 f_p0 fun x_9 =>
 St x_9 s_p1 w fun w1 =>
 Cl P F.upload_Flow_Move #[f_p0] w1 fun x_10 w2 =>
 R (.int .i64 0) w2))))
theorem Tie.upload_Flow_Put {f_p0 s_p1 : Value} {w : World} {R : Value → World → Prop} (h : Vcf.upload_Flow_Put Tryz.prog f_p0 s_p1 w R) : Cl Tryz.prog F.upload_Flow_Put #[f_p0, s_p1] w R :=
  cl_of_vc (n := 29) (rs := [(.tmp 4)]) (h := (.s .z (.s (.b (.s .z (.i (.s .z .z) (.s .z (.i (.s .z .z) (.s .z (.i (.s .z .z) (.s .z (.i (.s .z .z) .z))))))))) (.s .z (.s .z (.s .z .z)))))) (args := [f_p0, s_p1]) (by kernel_rfl) Tryz.func8 rfl (by kernel_rfl) rfl rfl rfl (Eq.mp (by kernel_rfl) h)

/-- (baler/upload.Flow).Rest -/
def Vcf.upload_Flow_Rest (P : Program) (f_p0 : Value) (w : World) (R : Value → World → Prop) : Prop   :=
 Bn false f_p0 (.pointer none) fun x_1 =>
 Vif x_1 (
 R (.int .i64 0) w) (
 Nc f_p0 <|
 Fo 1 f_p0 fun x_2 =>
 Ld x_2 w fun x_3 =>
 Lns x_3 fun x_4 =>
 R x_4 w)
theorem Tie.upload_Flow_Rest {f_p0 : Value} {w : World} {R : Value → World → Prop} (h : Vcf.upload_Flow_Rest Tryz.prog f_p0 w R) : Cl Tryz.prog F.upload_Flow_Rest #[f_p0] w R :=
  cl_of_vc (n := 10) (rs := [(.tmp 2)]) (h := (.s .z (.s (.s .z (.i (.s .z .z) .z)) (.s .z .z)))) (args := [f_p0]) (by kernel_rfl) Tryz.func9 rfl (by kernel_rfl) rfl rfl rfl (Eq.mp (by kernel_rfl) h)

/-- (baler/upload.Flow).End -/
def Vcf.upload_Flow_End (P : Program) (f_p0 : Value) (w : World) (R : Value → World → Prop) : Prop   :=
 Bn false f_p0 (.pointer none) fun x_1 =>
 Vif x_1 (
 R (.int .i64 7) w) (
 Nc f_p0 <|
 Fo 2 f_p0 fun x_2 =>
 Ld x_2 w fun x_3 =>
 Vif x_3 (
 R (.int .i64 32) w) (
 Nc f_p0 <|
 Fo 2 f_p0 fun x_4 =>
 St x_4 (.bool true) w fun w1 =>
 Cl P F.upload_Flow_Move #[f_p0] w1 fun x_5 w2 =>
 R (.int .i64 0) w2))
theorem Tie.upload_Flow_End {f_p0 : Value} {w : World} {R : Value → World → Prop} (h : Vcf.upload_Flow_End Tryz.prog f_p0 w R) : Cl Tryz.prog F.upload_Flow_End #[f_p0] w R :=
  cl_of_vc (n := 16) (rs := [(.tmp 2)]) (h := (.s .z (.s (.b (.s .z (.i (.s .z .z) (.s .z (.i (.s .z .z) .z))))) (.s .z (.s .z (.s .z .z)))))) (args := [f_p0]) (by kernel_rfl) Tryz.func10 rfl (by kernel_rfl) rfl rfl rfl (Eq.mp (by kernel_rfl) h)

/-- (baler/upload.Flow).Move -/
def Vcf.upload_Flow_Move (P : Program) (f_p0 : Value) (w : World) (R : Value → World → Prop) : Prop   :=
 Bn false f_p0 (.pointer none) fun x_1 =>
 Vif x_1 (
 R (.int .i64 0) w) (
 Nc f_p0 <|
 Fo 1 f_p0 fun x_2 =>
 Ld x_2 w fun x_3 =>
 Lns x_3 fun x_4 =>
 Nc f_p0 <|
 Fo 0 f_p0 fun x_5 =>
 Ld x_5 w fun x_6 =>
 Cl P F.job_Job_Done #[x_6] w fun x_7 w1 =>
 Vif x_7 (
 Nc f_p0 <|
 Fo 1 f_p0 fun x_8 =>
 St x_8 (.string ⟨#[]⟩) w1 fun w2 =>
 R x_4 w2) (
 Dr w1 fun w3 =>
 Nc f_p0 <|
 Fo 0 f_p0 fun x_9 =>
 Ld x_9 w3 fun x_10 =>
 Nc f_p0 <|
 Fo 1 f_p0 fun x_12 =>
 Ld x_12 w3 fun x_13 =>
 Cl P F.job_Job_Feed #[x_10, x_13] w3 fun x_15 w4 =>
 Nc f_p0 <|
 Fo 1 f_p0 fun x_16 =>
 Ld x_16 w4 fun x_17 =>
 Sst x_17 (some x_15) none fun x_18 =>
 Nc f_p0 <|
 Fo 1 f_p0 fun x_19 =>
 St x_19 x_18 w4 fun w5 =>
 Nc f_p0 <|
 Fo 3 f_p0 fun x_20 =>
 Ld x_20 w5 fun x_21 =>
 Bp .add x_21 x_15 fun x_22 =>
 Nc f_p0 <|
 Fo 3 f_p0 fun x_23 =>
 St x_23 x_22 w5 fun w6 =>
 VJoin 1 (fun _ x_24 w7 =>
 Vif x_24 (
 Nc f_p0 <|
 Fo 0 f_p0 fun x_25 =>
 Ld x_25 w7 fun x_26 =>
 Cl P F.job_Job_End #[x_26] w7 fun x_27 w8 =>
 R x_15 w8) (
 R x_15 w7))
 (fun J28 =>
 Nc f_p0 <|
 Fo 2 f_p0 fun x_29 =>
 Ld x_29 w6 fun x_30 =>
 Vif x_30 (
 Nc f_p0 <|
 Fo 1 f_p0 fun x_31 =>
 Ld x_31 w6 fun x_32 =>
 Bp .eql x_32 (.string ⟨#[]⟩) fun x_33 =>
 KE [f_p0, x_15] [f_p0, x_15] <| J28 x_33 w6) (
 KE [f_p0, x_15] [f_p0, x_15] <| J28 (.bool false) w6))))
theorem Tie.upload_Flow_Move {f_p0 : Value} {w : World} {R : Value → World → Prop} (h : Vcf.upload_Flow_Move Tryz.prog f_p0 w R) : Cl Tryz.prog F.upload_Flow_Move #[f_p0] w R :=
  cl_of_vc (n := 64) (rs := [(.tmp 2)]) (h := (.s .z (.s (.s .z (.i (.s .z .z) .z)) (.s .z (.s (.s .z (.i (.s .z (.s .z .z)) .z)) (.s (.r (.staged [0, 1, 3, 7, 0, 16, 48, 112, 255, 511])) (.s .z (.s .z (.s (.j [57] [0, 4] .z (.i .z .z)) (.s .z .z)))))))))) (args := [f_p0]) (by kernel_rfl) Tryz.func11 rfl (by kernel_rfl) rfl rfl rfl (Eq.mp (by kernel_rfl) h)

/-- (baler/upload.Flow).Ended -/
def Vcf.upload_Flow_Ended (P : Program) (f_p0 : Value) (w : World) (R : Value → World → Prop) : Prop   :=
 Bn true f_p0 (.pointer none) fun x_1 =>
 Vif x_1 (
 Nc f_p0 <|
 Fo 2 f_p0 fun x_2 =>
 Ld x_2 w fun x_3 =>
 R x_3 w) (
 R (.bool false) w)
theorem Tie.upload_Flow_Ended {f_p0 : Value} {w : World} {R : Value → World → Prop} (h : Vcf.upload_Flow_Ended Tryz.prog f_p0 w R) : Cl Tryz.prog F.upload_Flow_Ended #[f_p0] w R :=
  cl_of_vc (n := 11) (rs := [(.tmp 2)]) (h := (.s .z (.s .z .z))) (args := [f_p0]) (by kernel_rfl) Tryz.func12 rfl (by kernel_rfl) rfl rfl rfl (Eq.mp (by kernel_rfl) h)

/-- (baler/upload.Flow).Taken -/
def Vcf.upload_Flow_Taken (P : Program) (f_p0 : Value) (w : World) (R : Value → World → Prop) : Prop   :=
 Bn false f_p0 (.pointer none) fun x_1 =>
 Vif x_1 (
 R (.int .i64 0) w) (
 Nc f_p0 <|
 Fo 3 f_p0 fun x_2 =>
 Ld x_2 w fun x_3 =>
 R x_3 w)
theorem Tie.upload_Flow_Taken {f_p0 : Value} {w : World} {R : Value → World → Prop} (h : Vcf.upload_Flow_Taken Tryz.prog f_p0 w R) : Cl Tryz.prog F.upload_Flow_Taken #[f_p0] w R :=
  cl_of_vc (n := 9) (rs := [(.tmp 2)]) (h := (.s .z (.s (.s .z (.i (.s .z .z) .z)) (.s .z .z)))) (args := [f_p0]) (by kernel_rfl) Tryz.func13 rfl (by kernel_rfl) rfl rfl rfl (Eq.mp (by kernel_rfl) h)

/-- (baler/job.Job).Held -/
def Vcf.job_Job_Held (P : Program) (j_p0 : Value) (w : World) (R : Value → World → Prop) : Prop   :=
 VJoin 1 (fun _ x_1 w1 =>
 Vif x_1 (
 R (.int .i64 0) w1) (
 Nc j_p0 <|
 Fo 1 j_p0 fun x_2 =>
 Ld x_2 w1 fun x_3 =>
 Inv P (invoke (.fn (.method "Held") #[]) (#[x_3] ++ #[])) w1 fun x_4 w2 =>
 R x_4 w2))
 (fun J5 =>
 Bn false j_p0 (.pointer none) fun x_6 =>
 Vif x_6 (
 KE [j_p0] [j_p0] <| J5 (.bool true) w) (
 Cl P F.job_Job_failed #[j_p0] w fun x_7 w3 =>
 KE [j_p0] [j_p0] <| J5 x_7 w3))
theorem Tie.job_Job_Held {j_p0 : Value} {w : World} {R : Value → World → Prop} (h : Vcf.job_Job_Held Tryz.prog j_p0 w R) : Cl Tryz.prog F.job_Job_Held #[j_p0] w R :=
  cl_of_vc (n := 14) (rs := [(.tmp 2)]) (h := (.s .z (.s (.j [8] [0] .z (.i (.s .z .z) .z)) (.s .z .z)))) (args := [j_p0]) (by kernel_rfl) Tryz.func14 rfl (by kernel_rfl) rfl rfl rfl (Eq.mp (by kernel_rfl) h)

/-- baler/job.machineOf -/
def Vcf.job_machineOf (P : Program) (kind_p0 level_p1 unit_p2 window_p3 : Value) (w : World) (R : Value → World → Prop) : Prop   :=
 Bp .eql kind_p0 (.int .i64 1) fun x_1 =>
 Vif x_1 (
 Cl P F.press_New #[level_p1, unit_p2, window_p3] w fun x_2 w1 =>
 Ex x_2 0 fun x_3 =>
 Ex x_2 1 fun x_4 =>
 R (.tuple #[(.iface 47 x_3), x_4]) w1) (
 Bp .eql kind_p0 (.int .i64 2) fun x_5 =>
 Vif x_5 (
 Cl P F.unpress_New #[unit_p2, window_p3, (.int .i64 4096)] w fun x_6 w2 =>
 Ex x_6 0 fun x_7 =>
 Ex x_6 1 fun x_8 =>
 R (.tuple #[(.iface 50 x_7), x_8]) w2) (
 Bp .eql kind_p0 (.int .i64 3) fun x_9 =>
 Vif x_9 (
 Cl P F.tester_New #[unit_p2, window_p3] w fun x_10 w3 =>
 Ex x_10 0 fun x_11 =>
 Ex x_10 1 fun x_12 =>
 R (.tuple #[(.iface 53 x_11), x_12]) w3) (
 R (.tuple #[.nilIface, (.int .i64 1)]) w)))
theorem Tie.job_machineOf {kind_p0 level_p1 unit_p2 window_p3 : Value} {w : World} {R : Value → World → Prop} (h : Vcf.job_machineOf Tryz.prog kind_p0 level_p1 unit_p2 window_p3 w R) : Cl Tryz.prog F.job_machineOf #[kind_p0, level_p1, unit_p2, window_p3] w R :=
  cl_of_vc (n := 51) (rs := [(.tmp 8), (.tmp 9)]) (h := (.s .z (.s (.s .z (.b (.s .z (.i (.s .z (.s .z .z)) (.s .z (.i (.s .z (.s .z .z)) (.s .z (.i (.s .z (.s .z .z)) .z)))))))) (.s .z .z)))) (args := [kind_p0, level_p1, unit_p2, window_p3]) (by kernel_rfl) Tryz.func15 rfl (by kernel_rfl) rfl rfl rfl (Eq.mp (by kernel_rfl) h)

/-- (baler/job.Job).Done -/
def Vcf.job_Job_Done (P : Program) (j_p0 : Value) (w : World) (R : Value → World → Prop) : Prop   :=
 Bn true j_p0 (.pointer none) fun x_1 =>
 Vif x_1 (
 Nc j_p0 <|
 Fo 1 j_p0 fun x_2 =>
 Ld x_2 w fun x_3 =>
 Inv P (invoke (.fn (.method "Done") #[]) (#[x_3] ++ #[])) w fun x_4 w1 =>
 R x_4 w1) (
 R (.bool false) w)
theorem Tie.job_Job_Done {j_p0 : Value} {w : World} {R : Value → World → Prop} (h : Vcf.job_Job_Done Tryz.prog j_p0 w R) : Cl Tryz.prog F.job_Job_Done #[j_p0] w R :=
  cl_of_vc (n := 12) (rs := [(.tmp 2)]) (h := (.s .z (.s .z .z))) (args := [j_p0]) (by kernel_rfl) Tryz.func16 rfl (by kernel_rfl) rfl rfl rfl (Eq.mp (by kernel_rfl) h)

/-- (baler/job.Job).Feed -/
def Vcf.job_Job_Feed (P : Program) (j_p0 s_p1 : Value) (w : World) (R : Value → World → Prop) : Prop   :=
 VJoin 1 (fun _ x_1 w1 =>
 Vif x_1 (
 R (.int .i64 0) w1) (
 Nc j_p0 <|
 Fo 1 j_p0 fun x_2 =>
 Ld x_2 w1 fun x_3 =>
 Inv P (invoke (.fn (.method "Feed") #[]) (#[x_3] ++ #[s_p1])) w1 fun x_4 w2 =>
 R x_4 w2))
 (fun J5 =>
 Bn false j_p0 (.pointer none) fun x_6 =>
 Vif x_6 (
 KE [j_p0, s_p1] [j_p0, s_p1] <| J5 (.bool true) w) (
 Cl P F.job_Job_Done #[j_p0] w fun x_7 w3 =>
 KE [j_p0, s_p1] [j_p0, s_p1] <| J5 x_7 w3))
theorem Tie.job_Job_Feed {j_p0 s_p1 : Value} {w : World} {R : Value → World → Prop} (h : Vcf.job_Job_Feed Tryz.prog j_p0 s_p1 w R) : Cl Tryz.prog F.job_Job_Feed #[j_p0, s_p1] w R :=
  cl_of_vc (n := 17) (rs := [(.tmp 4)]) (h := (.s .z (.s (.j [10] [0, 1] .z (.i (.s .z .z) .z)) (.s .z .z)))) (args := [j_p0, s_p1]) (by kernel_rfl) Tryz.func17 rfl (by kernel_rfl) rfl rfl rfl (Eq.mp (by kernel_rfl) h)

/-- (baler/job.Job).End -/
def Vcf.job_Job_End (P : Program) (j_p0 : Value) (w : World) (R : Value → World → Prop) : Prop   :=
 Bn false j_p0 (.pointer none) fun x_1 =>
 Vif x_1 (
 R (.int .i64 7) w) (
 Nc j_p0 <|
 Fo 1 j_p0 fun x_2 =>
 Ld x_2 w fun x_3 =>
 Inv P (invoke (.fn (.method "End") #[]) (#[x_3] ++ #[])) w fun x_4 w1 =>
 R x_4 w1)
theorem Tie.job_Job_End {j_p0 : Value} {w : World} {R : Value → World → Prop} (h : Vcf.job_Job_End Tryz.prog j_p0 w R) : Cl Tryz.prog F.job_Job_End #[j_p0] w R :=
  cl_of_vc (n := 10) (rs := [(.tmp 2)]) (h := (.s .z (.s (.s .z (.i (.s .z .z) .z)) (.s .z .z)))) (args := [j_p0]) (by kernel_rfl) Tryz.func18 rfl (by kernel_rfl) rfl rfl rfl (Eq.mp (by kernel_rfl) h)

/-- (baler/job.Job).failed -/
def Vcf.job_Job_failed (P : Program) (j_p0 : Value) (w : World) (R : Value → World → Prop) : Prop   :=
 Cl P F.job_Job_Err #[j_p0] w fun x_1 w1 =>
 Bp .neq x_1 (.int .i64 0) fun x_2 =>
 R x_2 w1
theorem Tie.job_Job_failed {j_p0 : Value} {w : World} {R : Value → World → Prop} (h : Vcf.job_Job_failed Tryz.prog j_p0 w R) : Cl Tryz.prog F.job_Job_failed #[j_p0] w R :=
  cl_of_vc (n := 6) (rs := [(.tmp 2)]) (h := (.s .z (.s .z .z))) (args := [j_p0]) (by kernel_rfl) Tryz.func19 rfl (by kernel_rfl) rfl rfl rfl (Eq.mp (by kernel_rfl) h)

/-- baler/press.New -/
def Vcf.press_New (P : Program) (level_p0 unit_p1 window_p2 : Value) (w : World) (R : Value → World → Prop) : Prop   :=
 Cl P F.split_Room #[level_p0, unit_p1] w fun x_1 w1 =>
 Ex x_1 0 fun x_2 =>
 Ex x_1 1 fun x_3 =>
 VJoin 1 (fun _ x_4 w2 =>
 Vif x_4 (
 R (.tuple #[(.pointer none), (.int .i64 1)]) w2) (
 Cl P F.split_New #[x_2] w2 fun x_5 w3 =>
 Ex x_5 0 fun x_6 =>
 Ex x_5 1 fun x_7 =>
 Cl P F.stream_New #[level_p0] w3 fun x_8 w4 =>
 Ex x_8 0 fun x_9 =>
 Ex x_8 1 fun x_10 =>
 Cl P F.stream_Writer_Take #[x_9] w4 fun x_11 w5 =>
 Bd P 69 #[(0, window_p2), (3, x_6), (8, x_9), (9, x_11)] w5 fun x_12 =>
 New x_12 69 w5 fun x_13 w6 =>
 R (.tuple #[x_13, (.int .i64 0)]) w6))
 (fun J14 =>
 Bp .neq x_3 (.int .i64 0) fun x_15 =>
 Vif x_15 (
 KE [level_p0, window_p2, x_2] [level_p0, window_p2, x_2] <| J14 (.bool true) w1) (
 Cl P F.press_windowed #[window_p2] w1 fun x_16 w7 =>
 Up .not x_16 fun x_17 =>
 KE [level_p0, window_p2, x_2] [level_p0, window_p2, x_2] <| J14 x_17 w7))
theorem Tie.press_New {level_p0 unit_p1 window_p2 : Value} {w : World} {R : Value → World → Prop} (h : Vcf.press_New Tryz.prog level_p0 unit_p1 window_p2 w R) : Cl Tryz.prog F.press_New #[level_p0, unit_p1, window_p2] w R :=
  cl_of_vc (n := 44) (rs := [(.tmp 6), (.tmp 7)]) (h := (.s .z (.s .z (.s (.j [26] [0, 2, 8] .z (.i (.s .z .z) .z)) (.s .z (.s .z (.s .z .z))))))) (args := [level_p0, unit_p1, window_p2]) (by kernel_rfl) Tryz.func20 rfl (by kernel_rfl) rfl rfl rfl (Eq.mp (by kernel_rfl) h)

/-- baler/unpress.New -/
def Vcf.unpress_New (P : Program) (unit_p0 window_p1 limit_p2 : Value) (w : World) (R : Value → World → Prop) : Prop   :=
 Cl P F.unstream_New #[unit_p0] w fun x_1 w1 =>
 Ex x_1 0 fun x_2 =>
 Ex x_1 1 fun x_3 =>
 VJoin 1 (fun _ x_4 w2 =>
 Vif x_4 (
 R (.tuple #[(.pointer none), (.int .i64 1)]) w2) (
 Cl P F.bits_NewReader #[(.string ⟨#[]⟩)] w2 fun x_5 w3 =>
 Bd P 78 #[(0, window_p1), (1, limit_p2), (3, x_5), (4, x_2)] w3 fun x_6 =>
 New x_6 78 w3 fun x_7 w4 =>
 R (.tuple #[x_7, (.int .i64 0)]) w4))
 (fun J8 =>
 Bp .neq x_3 (.int .i64 0) fun x_9 =>
 Vif x_9 (
 KE [window_p1, limit_p2, x_2] [window_p1, limit_p2, x_2] <| J8 (.bool true) w1) (
 Cl P F.unpress_may #[window_p1, limit_p2] w1 fun x_10 w5 =>
 Up .not x_10 fun x_11 =>
 KE [window_p1, limit_p2, x_2] [window_p1, limit_p2, x_2] <| J8 x_11 w5))
theorem Tie.unpress_New {unit_p0 window_p1 limit_p2 : Value} {w : World} {R : Value → World → Prop} (h : Vcf.unpress_New Tryz.prog unit_p0 window_p1 limit_p2 w R) : Cl Tryz.prog F.unpress_New #[unit_p0, window_p1, limit_p2] w R :=
  cl_of_vc (n := 29) (rs := [(.tmp 6), (.tmp 7)]) (h := (.s .z (.s .z (.s (.j [22] [1, 2, 8] .z (.i (.s .z .z) .z)) (.s .z .z))))) (args := [unit_p0, window_p1, limit_p2]) (by kernel_rfl) Tryz.func21 rfl (by kernel_rfl) rfl rfl rfl (Eq.mp (by kernel_rfl) h)

/-- baler/tester.New -/
def Vcf.tester_New (P : Program) (unit_p0 window_p1 : Value) (w : World) (R : Value → World → Prop) : Prop   :=
 Cl P F.unpress_New #[unit_p0, window_p1, (.int .i64 4096)] w fun x_1 w1 =>
 Ex x_1 0 fun x_2 =>
 Ex x_1 1 fun x_3 =>
 Bp .neq x_3 (.int .i64 0) fun x_4 =>
 Vif x_4 (
 R (.tuple #[(.pointer none), x_3]) w1) (
 Bd P 80 #[(0, x_2)] w1 fun x_5 =>
 Bd P 82 #[(0, x_5)] w1 fun x_6 =>
 New x_6 82 w1 fun x_7 w2 =>
 R (.tuple #[x_7, (.int .i64 0)]) w2)
theorem Tie.tester_New {unit_p0 window_p1 : Value} {w : World} {R : Value → World → Prop} (h : Vcf.tester_New Tryz.prog unit_p0 window_p1 w R) : Cl Tryz.prog F.tester_New #[unit_p0, window_p1] w R :=
  cl_of_vc (n := 21) (rs := [(.tmp 4), (.tmp 5)]) (h := (.s .z (.s .z (.s (.s .z (.i (.s .z .z) .z)) (.s .z .z))))) (args := [unit_p0, window_p1]) (by kernel_rfl) Tryz.func22 rfl (by kernel_rfl) rfl rfl rfl (Eq.mp (by kernel_rfl) h)

/-- (baler/job.Job).Err -/
def Vcf.job_Job_Err (P : Program) (j_p0 : Value) (w : World) (R : Value → World → Prop) : Prop   :=
 Bn false j_p0 (.pointer none) fun x_1 =>
 Vif x_1 (
 R (.int .i64 0) w) (
 Nc j_p0 <|
 Fo 1 j_p0 fun x_2 =>
 Ld x_2 w fun x_3 =>
 Ta P x_3 39 84 true w fun x_4 =>
 Ex x_4 0 fun x_5 =>
 Ex x_4 1 fun x_6 =>
 Vif x_6 (
 Inv P (invoke (.fn (.method "Err") #[]) (#[x_5] ++ #[])) w fun x_7 w1 =>
 R x_7 w1) (
 R (.int .i64 0) w))
theorem Tie.job_Job_Err {j_p0 : Value} {w : World} {R : Value → World → Prop} (h : Vcf.job_Job_Err Tryz.prog j_p0 w R) : Cl Tryz.prog F.job_Job_Err #[j_p0] w R :=
  cl_of_vc (n := 18) (rs := [(.tmp 2)]) (h := (.s .z (.s (.s .z (.i (.s .z .z) .z)) (.s (.s .z (.s .z (.i (.s .z .z) .z))) (.s .z .z))))) (args := [j_p0]) (by kernel_rfl) Tryz.func23 rfl (by kernel_rfl) rfl rfl rfl (Eq.mp (by kernel_rfl) h)

/-- baler/split.Room -/
def Vcf.split_Room (P : Program) (level_p0 unit_p1 : Value) (w : World) (R : Value → World → Prop) : Prop   :=
 VJoin 1 (fun _ x_1 w1 =>
 Vif x_1 (
 R (.tuple #[(.int .i64 0), (.int .i64 1)]) w1) (
 Bp .mul level_p0 unit_p1 fun x_2 =>
 Bp .sub x_2 (.int .i64 19) fun x_3 =>
 R (.tuple #[x_3, (.int .i64 0)]) w1))
 (fun J4 =>
 Bp .lss level_p0 (.int .i64 1) fun x_5 =>
 Vif x_5 (
 KE [level_p0, unit_p1] [level_p0, unit_p1] <| J4 (.bool true) w) (
 Bp .gtr level_p0 (.int .i64 9) fun x_6 =>
 Vif x_6 (
 KE [level_p0, unit_p1] [level_p0, unit_p1] <| J4 (.bool true) w) (
 Bp .lss unit_p1 (.int .i64 24) fun x_7 =>
 Vif x_7 (
 KE [level_p0, unit_p1] [level_p0, unit_p1] <| J4 (.bool true) w) (
 Bp .gtr unit_p1 (.int .i64 100000) fun x_8 =>
 KE [level_p0, unit_p1] [level_p0, unit_p1] <| J4 x_8 w))))
theorem Tie.split_Room {level_p0 unit_p1 : Value} {w : World} {R : Value → World → Prop} (h : Vcf.split_Room Tryz.prog level_p0 unit_p1 w R) : Cl Tryz.prog F.split_Room #[level_p0, unit_p1] w R :=
  cl_of_vc (n := 24) (rs := [(.tmp 4), (.tmp 5)]) (h := (.s .z (.s (.j [19] [0, 1] .z (.i (.s .z .z) .z)) (.s .z .z)))) (args := [level_p0, unit_p1]) (by kernel_rfl) Tryz.func24 rfl (by kernel_rfl) rfl rfl rfl (Eq.mp (by kernel_rfl) h)

/-- baler/press.windowed -/
def Vcf.press_windowed (P : Program) (n_p0 : Value) (w : World) (R : Value → World → Prop) : Prop   :=
 Bp .geq n_p0 (.int .i64 64) fun x_1 =>
 Vif x_1 (
 Bp .leq n_p0 (.int .i64 1048576) fun x_2 =>
 R x_2 w) (
 R (.bool false) w)
theorem Tie.press_windowed {n_p0 : Value} {w : World} {R : Value → World → Prop} (h : Vcf.press_windowed Tryz.prog n_p0 w R) : Cl Tryz.prog F.press_windowed #[n_p0] w R :=
  cl_of_vc (n := 9) (rs := [(.tmp 2)]) (h := (.s .z (.s .z .z))) (args := [n_p0]) (by kernel_rfl) Tryz.func25 rfl (by kernel_rfl) rfl rfl rfl (Eq.mp (by kernel_rfl) h)

/-- baler/split.New -/
def Vcf.split_New (P : Program) (room_p0 : Value) (w : World) (R : Value → World → Prop) : Prop   :=
 VJoin 1 (fun _ x_1 w1 =>
 Vif x_1 (
 R (.tuple #[(.pointer none), (.int .i64 1)]) w1) (
 Cl P F.crc_New #[] w1 fun x_2 w2 =>
 Bd P 89 #[(1, x_2)] w2 fun x_3 =>
 Cl P F.feed_NewPacker #[] w2 fun x_4 w3 =>
 Bd P 93 #[(0, x_3), (1, room_p0), (2, x_4)] w3 fun x_5 =>
 New x_5 93 w3 fun x_6 w4 =>
 R (.tuple #[x_6, (.int .i64 0)]) w4))
 (fun J7 =>
 Bp .lss room_p0 (.int .i64 5) fun x_8 =>
 Vif x_8 (
 KE [room_p0] [room_p0] <| J7 (.bool true) w) (
 Bp .gtr room_p0 (.int .i64 900000) fun x_9 =>
 KE [room_p0] [room_p0] <| J7 x_9 w))
theorem Tie.split_New {room_p0 : Value} {w : World} {R : Value → World → Prop} (h : Vcf.split_New Tryz.prog room_p0 w R) : Cl Tryz.prog F.split_New #[room_p0] w R :=
  cl_of_vc (n := 16) (rs := [(.tmp 2), (.tmp 3)]) (h := (.s .z (.s (.j [9] [0] .z (.i (.s .z .z) .z)) (.s .z .z)))) (args := [room_p0]) (by kernel_rfl) Tryz.func26 rfl (by kernel_rfl) rfl rfl rfl (Eq.mp (by kernel_rfl) h)

/-- baler/stream.New -/
def Vcf.stream_New (P : Program) (level_p0 : Value) (w : World) (R : Value → World → Prop) : Prop   :=
 VJoin 1 (fun _ x_1 w1 =>
 Vif x_1 (
 R (.tuple #[(.pointer none), (.int .i64 1)]) w1) (
 Cl P F.bits_NewWriter #[] w1 fun x_2 w2 =>
 Bd P 97 #[(0, x_2)] w2 fun x_3 =>
 New x_3 97 w2 fun x_4 w3 =>
 VLoop 1 [(.int .i64 0)] w3 fun _ next6 x_5 w4 =>
 Bp .lss x_5 (.int .i64 3) fun x_7 =>
 Vif x_7 (
 Dr w4 fun w5 =>
 Nc x_4 <|
 Fo 0 x_4 fun x_8 =>
 Ld x_8 w5 fun x_9 =>
 Ixs (.string ⟨#[66, 90, 104]⟩) x_5 fun x_11 =>
 Ci .u32 x_11 fun x_12 =>
 Cl P F.bits_Writer_Put #[x_9, x_12, (.int .i64 8)] w5 fun x_13 w6 =>
 Bp .add x_5 (.int .i64 1) fun x_14 =>
 KE [level_p0, x_4] [level_p0, x_4] <| next6 x_14 w6) (
 Nc x_4 <|
 Fo 0 x_4 fun x_15 =>
 Ld x_15 w4 fun x_16 =>
 Bp .add (.int .i64 48) level_p0 fun x_17 =>
 Ci .u32 x_17 fun x_18 =>
 Cl P F.bits_Writer_Put #[x_16, x_18, (.int .i64 8)] w4 fun x_19 w7 =>
 R (.tuple #[x_4, (.int .i64 0)]) w7)))
 (fun J20 =>
 Bp .lss level_p0 (.int .i64 1) fun x_21 =>
 Vif x_21 (
 KE [level_p0] [level_p0] <| J20 (.bool true) w) (
 Bp .gtr level_p0 (.int .i64 9) fun x_22 =>
 KE [level_p0] [level_p0] <| J20 x_22 w))
theorem Tie.stream_New {level_p0 : Value} {w : World} {R : Value → World → Prop} (h : Vcf.stream_New Tryz.prog level_p0 w R) : Cl Tryz.prog F.stream_New #[level_p0] w R :=
  cl_of_vc (n := 36) (rs := [(.tmp 2), (.tmp 3)]) (h := (.s .z (.s (.j [11] [0] .z (.i (.s .z .z) .z)) (.s .z (.s (.s .z (.b (.l [15] [0, 4] (.s .z (.s (.i .z .z) (.s (.b (.s .z (.r (.staged [0, 1, 3, 7, 0, 16, 48, 127])))) .z)))))) (.s .z (.s .z .z))))))) (args := [level_p0]) (by kernel_rfl) Tryz.func27 rfl (by kernel_rfl) rfl rfl rfl (Eq.mp (by kernel_rfl) h)

/-- (baler/stream.Writer).Take -/
def Vcf.stream_Writer_Take (P : Program) (w_p0 : Value) (w : World) (R : Value → World → Prop) : Prop   :=
 Bn false w_p0 (.pointer none) fun x_1 =>
 Vif x_1 (
 R (.string ⟨#[]⟩) w) (
 Nc w_p0 <|
 Fo 0 w_p0 fun x_2 =>
 Ld x_2 w fun x_3 =>
 Cl P F.bits_Writer_Take #[x_3] w fun x_4 w1 =>
 R x_4 w1)
theorem Tie.stream_Writer_Take {w_p0 : Value} {w : World} {R : Value → World → Prop} (h : Vcf.stream_Writer_Take Tryz.prog w_p0 w R) : Cl Tryz.prog F.stream_Writer_Take #[w_p0] w R :=
  cl_of_vc (n := 10) (rs := [(.tmp 2)]) (h := (.s .z (.s (.s .z (.i (.s .z .z) .z)) (.s .z .z)))) (args := [w_p0]) (by kernel_rfl) Tryz.func28 rfl (by kernel_rfl) rfl rfl rfl (Eq.mp (by kernel_rfl) h)

/-- baler/unstream.New -/
def Vcf.unstream_New (P : Program) (unit_p0 : Value) (w : World) (R : Value → World → Prop) : Prop   :=
 Cl P F.split_Room #[(.int .i64 1), unit_p0] w fun x_1 w1 =>
 Ex x_1 0 fun x_2 =>
 Ex x_1 1 fun x_3 =>
 Bp .neq x_3 (.int .i64 0) fun x_4 =>
 Vif x_4 (
 R (.tuple #[(.pointer none), x_3]) w1) (
 Bd P 104 #[(0, unit_p0)] w1 fun x_5 =>
 New x_5 104 w1 fun x_6 w2 =>
 R (.tuple #[x_6, (.int .i64 0)]) w2)
theorem Tie.unstream_New {unit_p0 : Value} {w : World} {R : Value → World → Prop} (h : Vcf.unstream_New Tryz.prog unit_p0 w R) : Cl Tryz.prog F.unstream_New #[unit_p0] w R :=
  cl_of_vc (n := 17) (rs := [(.tmp 2), (.tmp 3)]) (h := (.s .z (.s (.s .z (.s .z (.i (.s .z .z) .z))) (.s .z .z)))) (args := [unit_p0]) (by kernel_rfl) Tryz.func29 rfl (by kernel_rfl) rfl rfl rfl (Eq.mp (by kernel_rfl) h)

/-- baler/unpress.may -/
def Vcf.unpress_may (P : Program) (window_p0 limit_p1 : Value) (w : World) (R : Value → World → Prop) : Prop   :=
 Bp .geq window_p0 (.int .i64 64) fun x_1 =>
 Vif x_1 (
 Bp .leq window_p0 (.int .i64 1048576) fun x_2 =>
 Vif x_2 (
 Bp .geq limit_p1 (.int .i64 1) fun x_3 =>
 Vif x_3 (
 Bp .leq limit_p1 (.int .i64 65536) fun x_4 =>
 R x_4 w) (
 R (.bool false) w)) (
 R (.bool false) w)) (
 R (.bool false) w)
theorem Tie.unpress_may {window_p0 limit_p1 : Value} {w : World} {R : Value → World → Prop} (h : Vcf.unpress_may Tryz.prog window_p0 limit_p1 w R) : Cl Tryz.prog F.unpress_may #[window_p0, limit_p1] w R :=
  cl_of_vc (n := 19) (rs := [(.tmp 4)]) (h := (.s .z (.s .z .z))) (args := [window_p0, limit_p1]) (by kernel_rfl) Tryz.func30 rfl (by kernel_rfl) rfl rfl rfl (Eq.mp (by kernel_rfl) h)

/-- baler/bits.NewReader -/
def Vcf.bits_NewReader (P : Program) (s_p0 : Value) (w : World) (R : Value → World → Prop) : Prop   :=
 Bd P 106 #[(0, s_p0)] w fun x_1 =>
 New x_1 106 w fun x_2 w1 =>
 R x_2 w1
theorem Tie.bits_NewReader {s_p0 : Value} {w : World} {R : Value → World → Prop} (h : Vcf.bits_NewReader Tryz.prog s_p0 w R) : Cl Tryz.prog F.bits_NewReader #[s_p0] w R :=
  cl_of_vc (n := 6) (rs := [(.tmp 2)]) (h := (.s .z (.s .z .z))) (args := [s_p0]) (by kernel_rfl) Tryz.func31 rfl (by kernel_rfl) rfl rfl rfl (Eq.mp (by kernel_rfl) h)

/-- baler/crc.New -/
def Vcf.crc_New (P : Program) (w : World) (R : Value → World → Prop) : Prop   :=
 Cl P F.crc_Table #[] w fun x_1 w1 =>
 Bd P 110 #[(0, x_1), (1, (.int .u32 4294967295))] w1 fun x_2 =>
 New x_2 110 w1 fun x_3 w2 =>
 R x_3 w2
theorem Tie.crc_New {w : World} {R : Value → World → Prop} (h : Vcf.crc_New Tryz.prog w R) : Cl Tryz.prog F.crc_New #[] w R :=
  cl_of_vc (n := 4) (rs := [(.tmp 0)]) (h := (.s .z (.s .z .z))) (args := []) (by kernel_rfl) Tryz.func32 rfl (by kernel_rfl) rfl rfl rfl (Eq.mp (by kernel_rfl) h)

/-- baler/feed.NewPacker -/
def Vcf.feed_NewPacker (P : Program) (w : World) (R : Value → World → Prop) : Prop   :=
 Bd P 114 #[] w fun x_1 =>
 New x_1 114 w fun x_2 w1 =>
 R x_2 w1
theorem Tie.feed_NewPacker {w : World} {R : Value → World → Prop} (h : Vcf.feed_NewPacker Tryz.prog w R) : Cl Tryz.prog F.feed_NewPacker #[] w R :=
  cl_of_vc (n := 3) (rs := [(.tmp 0)]) (h := (.s .z (.s .z .z))) (args := []) (by kernel_rfl) Tryz.func33 rfl (by kernel_rfl) rfl rfl rfl (Eq.mp (by kernel_rfl) h)

/-- baler/bits.NewWriter -/
def Vcf.bits_NewWriter (P : Program) (w : World) (R : Value → World → Prop) : Prop   :=
 Bd P 116 #[] w fun x_1 =>
 New x_1 116 w fun x_2 w1 =>
 R x_2 w1
theorem Tie.bits_NewWriter {w : World} {R : Value → World → Prop} (h : Vcf.bits_NewWriter Tryz.prog w R) : Cl Tryz.prog F.bits_NewWriter #[] w R :=
  cl_of_vc (n := 3) (rs := [(.tmp 0)]) (h := (.s .z (.s .z .z))) (args := []) (by kernel_rfl) Tryz.func34 rfl (by kernel_rfl) rfl rfl rfl (Eq.mp (by kernel_rfl) h)

/-- (baler/bits.Writer).Put -/
def Vcf.bits_Writer_Put (P : Program) (w_p0 v_p1 n_p2 : Value) (w : World) (R : Value → World → Prop) : Prop   :=
 Bn false w_p0 (.pointer none) fun x_1 =>
 Vif x_1 (
 R (.int .i64 7) w) (
 Cl P F.bits_fits #[v_p1, n_p2] w fun x_2 w1 =>
 Up .not x_2 fun x_3 =>
 Vif x_3 (
 R (.int .i64 1) w1) (
 VLoop 1 [(.int .i64 0)] w1 fun _ next5 x_4 w2 =>
 Bp .lss x_4 n_p2 fun x_6 =>
 Vif x_6 (
 Bp .sub n_p2 (.int .i64 1) fun x_7 =>
 Bp .sub x_7 x_4 fun x_8 =>
 Bp .shr v_p1 x_8 fun x_9 =>
 Bp .and x_9 (.int .u32 1) fun x_10 =>
 Ci .u8 x_10 fun x_11 =>
 Cl P F.bits_Writer_bit #[w_p0, x_11] w2 fun x_12 w3 =>
 Bp .add x_4 (.int .i64 1) fun x_13 =>
 KE [w_p0, v_p1, n_p2, n_p2] [w_p0, v_p1, n_p2, n_p2] <| next5 x_13 w3) (
 R (.int .i64 0) w2)))
theorem Tie.bits_Writer_Put {w_p0 v_p1 n_p2 : Value} {w : World} {R : Value → World → Prop} (h : Vcf.bits_Writer_Put Tryz.prog w_p0 v_p1 n_p2 w R) : Cl Tryz.prog F.bits_Writer_Put #[w_p0, v_p1, n_p2] w R :=
  cl_of_vc (n := 31) (rs := [(.tmp 6)]) (h := (.s .z (.s (.b (.s .z (.i (.s .z .z) (.s .z (.i (.s .z .z) .z))))) (.s (.s .z (.b (.l [17] [0, 1, 2, 16] (.s .z (.s (.i .z .z) (.s (.b (.s .z .z)) .z)))))) (.s .z .z))))) (args := [w_p0, v_p1, n_p2]) (by kernel_rfl) Tryz.func35 rfl (by kernel_rfl) rfl rfl rfl (Eq.mp (by kernel_rfl) h)

/-- (baler/bits.Writer).Take -/
def Vcf.bits_Writer_Take (P : Program) (w_p0 : Value) (w : World) (R : Value → World → Prop) : Prop   :=
 Bn false w_p0 (.pointer none) fun x_1 =>
 Vif x_1 (
 R (.string ⟨#[]⟩) w) (
 Nc w_p0 <|
 Fo 0 w_p0 fun x_2 =>
 Ld x_2 w fun x_3 =>
 Cw P 33 9 x_3 w fun x_4 w1 =>
 Nc w_p0 <|
 Fo 0 w_p0 fun x_5 =>
 St x_5 (.slice none 0 0) w1 fun w2 =>
 R x_4 w2)
theorem Tie.bits_Writer_Take {w_p0 : Value} {w : World} {R : Value → World → Prop} (h : Vcf.bits_Writer_Take Tryz.prog w_p0 w R) : Cl Tryz.prog F.bits_Writer_Take #[w_p0] w R :=
  cl_of_vc (n := 15) (rs := [(.tmp 2)]) (h := (.s .z (.s (.s .z (.i (.s .z .z) .z)) (.s .z (.s .z (.s .z .z)))))) (args := [w_p0]) (by kernel_rfl) Tryz.func36 rfl (by kernel_rfl) rfl rfl rfl (Eq.mp (by kernel_rfl) h)

/-- baler/crc.Table -/
def Vcf.crc_Table (P : Program) (w : World) (R : Value → World → Prop) : Prop   :=
 New (zeroP P 107) 107 w fun x_1 w1 =>
 New (zeroP P 107) 107 w1 fun out_2 w2 =>
 VLoop 1 [(.int .i64 0)] w2 fun _ next4 x_3 w3 =>
 Bp .lss x_3 (.int .i64 256) fun x_5 =>
 Vif x_5 (
 Ci .u32 x_3 fun x_6 =>
 Bp .shl x_6 (.int .u64 24) fun x_7 =>
 VLoop 2 [x_7, (.int .i64 0)] w3 fun _ next10 sum_8 x_9 w4 =>
 Bp .lss x_9 (.int .i64 8) fun x_11 =>
 Vif x_11 (
 Bp .shr sum_8 (.int .u64 31) fun x_12 =>
 Bp .shl sum_8 (.int .u64 1) fun x_13 =>
 Bp .mul x_12 (.int .u32 79764919) fun x_14 =>
 Bp .xor x_13 x_14 fun x_15 =>
 Bp .add x_9 (.int .i64 1) fun x_16 =>
 KE [x_1, out_2, x_3, x_3] [x_1, out_2, x_3, x_3] <| next10 x_15 x_16 w4) (
 Iaa 256 1 out_2 x_3 fun x_17 =>
 St x_17 sum_8 w4 fun w5 =>
 Bp .add x_3 (.int .i64 1) fun x_18 =>
 KE [x_1, out_2] [x_1, out_2] <| next4 x_18 w5)) (
 LdA 256 out_2 w3 fun x_19 =>
 StA 256 x_1 x_19 w3 fun w6 =>
 LdA 256 x_1 w6 fun x_20 =>
 R x_20 w6)
theorem Tie.crc_Table {w : World} {R : Value → World → Prop} (h : Vcf.crc_Table Tryz.prog w R) : Cl Tryz.prog F.crc_Table #[] w R :=
  cl_of_vc (n := 26) (rs := [(.cell 0 107)]) (h := (.s .z (.s .z (.s (.s .z (.b (.l [5] [0, 1] (.s .z (.s (.i .z .z) (.s (.b (.s .z (.s .z (.s (.s .z (.b (.l [3, 11] [0, 1, 2, 5] (.s .z (.s (.i .z .z) (.s (.b (.s .z .z)) .z)))))) .z)))) .z)))))) (.s .z .z))))) (args := []) (by kernel_rfl) Tryz.func37 rfl (by kernel_rfl) rfl rfl rfl (Eq.mp (by kernel_rfl) h)

/-- baler/bits.fits -/
def Vcf.bits_fits (P : Program) (v_p0 n_p1 : Value) (w : World) (R : Value → World → Prop) : Prop   :=
 Bp .geq n_p1 (.int .i64 0) fun x_1 =>
 Vif x_1 (
 Bp .leq n_p1 (.int .i64 32) fun x_2 =>
 Vif x_2 (
 Ci .u64 v_p0 fun x_3 =>
 Bp .shr x_3 n_p1 fun x_4 =>
 Bp .eql x_4 (.int .u64 0) fun x_5 =>
 R x_5 w) (
 R (.bool false) w)) (
 R (.bool false) w)
theorem Tie.bits_fits {v_p0 n_p1 : Value} {w : World} {R : Value → World → Prop} (h : Vcf.bits_fits Tryz.prog v_p0 n_p1 w R) : Cl Tryz.prog F.bits_fits #[v_p0, n_p1] w R :=
  cl_of_vc (n := 18) (rs := [(.tmp 4)]) (h := (.s .z (.s .z .z))) (args := [v_p0, n_p1]) (by kernel_rfl) Tryz.func38 rfl (by kernel_rfl) rfl rfl rfl (Eq.mp (by kernel_rfl) h)

/-- (baler/bits.Writer).bit -/
def Vcf.bits_Writer_bit (P : Program) (w_p0 b_p1 : Value) (w : World) (R : Value → World → Prop) : Prop   :=
 Nc w_p0 <|
 Fo 2 w_p0 fun x_1 =>
 Ld x_1 w fun x_2 =>
 Bp .rem x_2 (.int .i64 8) fun x_3 =>
 Dr w fun w1 =>
 Nc w_p0 <|
 Fo 1 w_p0 fun x_4 =>
 Ld x_4 w1 fun x_5 =>
 Bp .sub (.int .i64 7) x_3 fun x_7 =>
 Bp .shl b_p1 x_7 fun x_8 =>
 Bp .or x_5 x_8 fun x_9 =>
 Nc w_p0 <|
 Fo 1 w_p0 fun x_10 =>
 St x_10 x_9 w1 fun w2 =>
 Nc w_p0 <|
 Fo 2 w_p0 fun x_11 =>
 Ld x_11 w2 fun x_12 =>
 Bp .add x_12 (.int .i64 1) fun x_13 =>
 Nc w_p0 <|
 Fo 2 w_p0 fun x_14 =>
 St x_14 x_13 w2 fun w3 =>
 Bp .eql x_3 (.int .i64 7) fun x_15 =>
 Vif x_15 (
 Dr w3 fun w4 =>
 Nc w_p0 <|
 Fo 0 w_p0 fun x_16 =>
 Ld x_16 w4 fun x_17 =>
 Nc w_p0 <|
 Fo 1 w_p0 fun x_19 =>
 Ld x_19 w4 fun x_20 =>
 Bs P 33 1 #[(0, x_20)] w4 fun x_22 w5 =>
 Rk (fun w K => Ld x_16 w fun x_18 => K x_18) x_17 w5 <|
 Ap P #[33, 33] 33 #[x_17, x_22] w5 fun x_23 w6 =>
 Nc w_p0 <|
 Fo 0 w_p0 fun x_24 =>
 St x_24 x_23 w6 fun w7 =>
 Nc w_p0 <|
 Fo 1 w_p0 fun x_25 =>
 St x_25 (.int .u8 0) w7 fun w8 =>
 R (.tuple #[]) w8) (
 R (.tuple #[]) w3)
theorem Tie.bits_Writer_bit {w_p0 b_p1 : Value} {w : World} {R : Value → World → Prop} (h : Vcf.bits_Writer_bit Tryz.prog w_p0 b_p1 w R) : Cl Tryz.prog F.bits_Writer_bit #[w_p0, b_p1] w R :=
  cl_of_vc (n := 46) (rs := []) (h := (.s .z (.s (.r (.staged [0, 1, 3, 7, 0, 0, 32, 112, 255, 511, 1023, 2047])) (.s .z (.s .z (.i (.s (.r (.staged [0, 0, 2, 6, 14, 0, 32, 96, 224, 480, 1022, 2047, 4095, 8191])) .z) .z)))))) (args := [w_p0, b_p1]) (by kernel_rfl) Tryz.func39 rfl (by kernel_rfl) rfl rfl rfl (Eq.mp (by kernel_rfl) h)

/-- (baler/press.Press).Done -/
def Vcf.press_Press_Done (P : Program) (p_p0 : Value) (w : World) (R : Value → World → Prop) : Prop   :=
 Bn true p_p0 (.pointer none) fun x_1 =>
 Vif x_1 (
 Nc p_p0 <|
 Fo 10 p_p0 fun x_2 =>
 Ld x_2 w fun x_3 =>
 R x_3 w) (
 R (.bool false) w)
theorem Tie.press_Press_Done {p_p0 : Value} {w : World} {R : Value → World → Prop} (h : Vcf.press_Press_Done Tryz.prog p_p0 w R) : Cl Tryz.prog F.press_Press_Done #[p_p0] w R :=
  cl_of_vc (n := 11) (rs := [(.tmp 2)]) (h := (.s .z (.s .z .z))) (args := [p_p0]) (by kernel_rfl) Tryz.func57 rfl (by kernel_rfl) rfl rfl rfl (Eq.mp (by kernel_rfl) h)

/-- (baler/press.Press).End -/
def Vcf.press_Press_End (P : Program) (p_p0 : Value) (w : World) (R : Value → World → Prop) : Prop   :=
 VJoin 1 (fun _ x_1 w1 =>
 Vif x_1 (
 R (.int .i64 7) w1) (
 Nc p_p0 <|
 Fo 2 p_p0 fun x_2 =>
 St x_2 (.bool true) w1 fun w2 =>
 Cl P F.press_Press_flush #[p_p0] w2 fun x_3 w3 =>
 R (.int .i64 0) w3))
 (fun J4 =>
 Bn false p_p0 (.pointer none) fun x_5 =>
 Vif x_5 (
 KE [p_p0] [p_p0] <| J4 (.bool true) w) (
 Nc p_p0 <|
 Fo 2 p_p0 fun x_6 =>
 Ld x_6 w fun x_7 =>
 KE [p_p0] [p_p0] <| J4 x_7 w))
theorem Tie.press_Press_End {p_p0 : Value} {w : World} {R : Value → World → Prop} (h : Vcf.press_Press_End Tryz.prog p_p0 w R) : Cl Tryz.prog F.press_Press_End #[p_p0] w R :=
  cl_of_vc (n := 16) (rs := [(.tmp 2)]) (h := (.s .z (.s (.j [10] [0] .z (.i (.s .z .z) .z)) (.s .z (.s .z (.s .z .z)))))) (args := [p_p0]) (by kernel_rfl) Tryz.func58 rfl (by kernel_rfl) rfl rfl rfl (Eq.mp (by kernel_rfl) h)

/-- (baler/press.Press).Feed -/
def Vcf.press_Press_Feed (P : Program) (p_p0 s_p1 : Value) (w : World) (R : Value → World → Prop) : Prop   :=
 VJoin 1 (fun _ x_1 w1 =>
 Vif x_1 (
 R (.int .i64 0) w1) (
 Dr w1 fun w2 =>
 Lns s_p1 fun x_2 =>
 Nc p_p0 <|
 Fo 0 p_p0 fun x_4 =>
 Ld x_4 w2 fun x_5 =>
 Nc p_p0 <|
 Fo 1 p_p0 fun x_7 =>
 Ld x_7 w2 fun x_8 =>
 Lns x_8 fun x_10 =>
 Bp .sub x_5 x_10 fun x_12 =>
 Bmin P #[3, 3] 3 #[x_2, x_12] w2 fun x_13 =>
 Dr w2 fun w3 =>
 Nc p_p0 <|
 Fo 1 p_p0 fun x_15 =>
 Ld x_15 w3 fun x_16 =>
 Sst s_p1 none (some x_13) fun x_18 =>
 Bp .add x_16 x_18 fun x_20 =>
 Nc p_p0 <|
 Fo 1 p_p0 fun x_21 =>
 St x_21 x_20 w3 fun w4 =>
 R x_13 w4))
 (fun J22 =>
 Bn false p_p0 (.pointer none) fun x_23 =>
 Vif x_23 (
 KE [p_p0, s_p1] [p_p0, s_p1] <| J22 (.bool true) w) (
 Nc p_p0 <|
 Fo 2 p_p0 fun x_24 =>
 Ld x_24 w fun x_25 =>
 KE [p_p0, s_p1] [p_p0, s_p1] <| J22 x_25 w))
theorem Tie.press_Press_Feed {p_p0 s_p1 : Value} {w : World} {R : Value → World → Prop} (h : Vcf.press_Press_Feed Tryz.prog p_p0 s_p1 w R) : Cl Tryz.prog F.press_Press_Feed #[p_p0, s_p1] w R :=
  cl_of_vc (n := 38) (rs := [(.tmp 4)]) (h := (.s .z (.s (.j [13] [0, 1] .z (.i (.s .z .z) .z)) (.s (.r (.staged [0, 1, 0, 4, 12, 28, 0, 64, 192, 448, 960, 2044, 4095, 8191])) (.s (.r (.staged [0, 1, 3, 7, 0, 0, 48, 127, 255, 511, 1023])) (.s .z .z)))))) (args := [p_p0, s_p1]) (by kernel_rfl) Tryz.func59 rfl (by kernel_rfl) rfl rfl rfl (Eq.mp (by kernel_rfl) h)

/-- (baler/press.Press).Held -/
def Vcf.press_Press_Held (P : Program) (p_p0 : Value) (w : World) (R : Value → World → Prop) : Prop   :=
 Bn false p_p0 (.pointer none) fun x_1 =>
 Vif x_1 (
 R (.int .i64 0) w) (
 Dr w fun w1 =>
 Nc p_p0 <|
 Fo 1 p_p0 fun x_2 =>
 Ld x_2 w1 fun x_3 =>
 Lns x_3 fun x_5 =>
 Nc p_p0 <|
 Fo 3 p_p0 fun x_7 =>
 Ld x_7 w1 fun x_8 =>
 Cl P F.split_Splitter_Held #[x_8] w1 fun x_10 w2 =>
 Rk (fun w K => Lns x_3 fun x_6 => K x_6) x_5 w2 <|
 Rk (fun w K => Ld x_2 w fun x_4 => K x_4) x_3 w2 <|
 Bp .add x_5 x_10 fun x_11 =>
 Nc p_p0 <|
 Fo 6 p_p0 fun x_12 =>
 Ld x_12 w2 fun x_13 =>
 Rk (fun w K => Ld x_12 w fun x_14 => K x_14) x_13 w1 <|
 Cl P F.bwt_Turner_Held #[x_13] w2 fun x_16 w3 =>
 Rk (fun w K => Lns x_3 fun x_6 => K x_6) x_5 w3 <|
 Rk (fun w K => Ld x_2 w fun x_4 => K x_4) x_3 w3 <|
 Bp .add x_11 x_16 fun x_17 =>
 Nc p_p0 <|
 Fo 9 p_p0 fun x_18 =>
 Ld x_18 w3 fun x_19 =>
 Rk (fun w K => Ld x_18 w fun x_20 => K x_20) x_19 w2 <|
 Rk (fun w K => Ld x_18 w fun x_21 => K x_21) x_19 w1 <|
 Lns x_19 fun x_23 =>
 Rk (fun w K => Lns x_19 fun x_24 => K x_24) x_23 w2 <|
 Rk (fun w K => Lns x_19 fun x_25 => K x_25) x_23 w1 <|
 Bp .add x_17 x_23 fun x_27 =>
 Nc p_p0 <|
 Fo 5 p_p0 fun x_28 =>
 Ld x_28 w3 fun x_29 =>
 Lnl x_29 fun x_30 =>
 VLoop 2 [x_27, (.int .i64 0)] w3 fun _ next33 n_31 x_32 w4 =>
 Bp .lss x_32 x_30 fun x_34 =>
 Vif x_34 (
 Ias 3 x_29 x_32 fun x_35 =>
 LdA 3 x_35 w4 fun x_36 =>
 New (zeroP P 137) 137 w4 fun b_37 w5 =>
 StA 3 b_37 x_36 w5 fun w6 =>
 Fo 0 b_37 fun x_38 =>
 Ld x_38 w6 fun x_39 =>
 Lns x_39 fun x_40 =>
 Bp .add n_31 x_40 fun x_41 =>
 Bp .add x_32 (.int .i64 1) fun x_42 =>
 KE [x_29, x_30] [x_29, x_30] <| next33 x_41 x_42 w6) (
 R n_31 w4))
theorem Tie.press_Press_Held {p_p0 : Value} {w : World} {R : Value → World → Prop} (h : Vcf.press_Press_Held Tryz.prog p_p0 w R) : Cl Tryz.prog F.press_Press_Held #[p_p0] w R :=
  cl_of_vc (n := 47) (rs := [(.tmp 2)]) (h := (.s .z (.s (.s .z (.i (.s .z .z) .z)) (.s (.r (.staged [0, 1, 3, 7, 15, 0, 32, 96, 224, 480, 1023, 0, 2048, 6144, 14336, 31712, 65535, 0, 131072, 393216, 917504, 1966080, 4194303, 8388607])) (.s (.s .z (.b (.l [3, 36] [34, 35] (.s .z (.s (.i .z .z) (.s (.b (.s .z .z)) .z)))))) (.s .z .z)))))) (args := [p_p0]) (by kernel_rfl) Tryz.func60 rfl (by kernel_rfl) rfl rfl rfl (Eq.mp (by kernel_rfl) h)

/-- (baler/press.Press).flush -/
def Vcf.press_Press_flush (P : Program) (p_p0 : Value) (w : World) (R : Value → World → Prop) : Prop   :=
 VJoin 1 (fun _ x_1 w1 =>
 Vif x_1 (
 Dr w1 fun w2 =>
 Nc p_p0 <|
 Fo 5 p_p0 fun x_2 =>
 Ld x_2 w2 fun x_3 =>
 Nc p_p0 <|
 Fo 3 p_p0 fun x_5 =>
 Ld x_5 w2 fun x_6 =>
 Cl P F.split_Splitter_End #[x_6] w2 fun x_8 w3 =>
 Rk (fun w K => Ld x_2 w fun x_4 => K x_4) x_3 w3 <|
 Ap P #[66, 66] 66 #[x_3, x_8] w3 fun x_9 w4 =>
 Nc p_p0 <|
 Fo 5 p_p0 fun x_10 =>
 St x_10 x_9 w4 fun w5 =>
 Nc p_p0 <|
 Fo 4 p_p0 fun x_11 =>
 St x_11 (.bool true) w5 fun w6 =>
 R (.tuple #[]) w6) (
 R (.tuple #[]) w1))
 (fun J12 =>
 Nc p_p0 <|
 Fo 2 p_p0 fun x_13 =>
 Ld x_13 w fun x_14 =>
 Vif x_14 (
 Nc p_p0 <|
 Fo 1 p_p0 fun x_15 =>
 Ld x_15 w fun x_16 =>
 Bp .eql x_16 (.string ⟨#[]⟩) fun x_17 =>
 Vif x_17 (
 Nc p_p0 <|
 Fo 4 p_p0 fun x_18 =>
 Ld x_18 w fun x_19 =>
 Up .not x_19 fun x_20 =>
 KE [p_p0] [p_p0] <| J12 x_20 w) (
 KE [p_p0] [p_p0] <| J12 (.bool false) w)) (
 KE [p_p0] [p_p0] <| J12 (.bool false) w))
theorem Tie.press_Press_flush {p_p0 : Value} {w : World} {R : Value → World → Prop} (h : Vcf.press_Press_flush Tryz.prog p_p0 w R) : Cl Tryz.prog F.press_Press_flush #[p_p0] w R :=
  cl_of_vc (n := 36) (rs := []) (h := (.j [19] [0] .z (.i (.s (.r (.staged [0, 0, 2, 6, 14, 0, 32, 96, 224, 480, 1022, 2047, 4095, 8191])) .z) .z))) (args := [p_p0]) (by kernel_rfl) Tryz.func66 rfl (by kernel_rfl) rfl rfl rfl (Eq.mp (by kernel_rfl) h)

/-- (baler/split.Splitter).Held -/
def Vcf.split_Splitter_Held (P : Program) (p_p0 : Value) (w : World) (R : Value → World → Prop) : Prop   :=
 Bn false p_p0 (.pointer none) fun x_1 =>
 Vif x_1 (
 R (.int .i64 0) w) (
 Dr w fun w1 =>
 Nc p_p0 <|
 Fo 0 p_p0 fun x_2 =>
 Fo 0 x_2 fun x_3 =>
 Ld x_3 w1 fun x_4 =>
 Lnl x_4 fun x_6 =>
 Nc p_p0 <|
 Fo 4 p_p0 fun x_8 =>
 Ld x_8 w1 fun x_9 =>
 Cl P F.feed_Packer_Row #[x_9] w1 fun x_11 w2 =>
 Rk (fun w K => Lnl x_4 fun x_7 => K x_7) x_6 w2 <|
 Rk (fun w K => Ld x_3 w fun x_5 => K x_5) x_4 w2 <|
 Vc.Fd 1 x_11 fun x_12 =>
 Bmin P #[3, 3] 3 #[x_12, (.int .i64 1)] w2 fun x_13 =>
 Bp .add x_6 x_13 fun x_15 =>
 R x_15 w2)
theorem Tie.split_Splitter_Held {p_p0 : Value} {w : World} {R : Value → World → Prop} (h : Vcf.split_Splitter_Held Tryz.prog p_p0 w R) : Cl Tryz.prog F.split_Splitter_Held #[p_p0] w R :=
  cl_of_vc (n := 19) (rs := [(.tmp 2)]) (h := (.s .z (.s (.s .z (.i (.s .z .z) .z)) (.s (.r (.staged [0, 1, 3, 7, 15, 31, 0, 64, 192, 448, 960, 1984, 4032, 8191, 16383])) .z)))) (args := [p_p0]) (by kernel_rfl) Tryz.func67 rfl (by kernel_rfl) rfl rfl rfl (Eq.mp (by kernel_rfl) h)

/-- (baler/bwt.Turner).Held -/
def Vcf.bwt_Turner_Held (P : Program) (t_p0 : Value) (w : World) (R : Value → World → Prop) : Prop   :=
 Bn false t_p0 (.pointer none) fun x_1 =>
 Vif x_1 (
 R (.int .i64 0) w) (
 Dr w fun w1 =>
 Nc t_p0 <|
 Fo 1 t_p0 fun x_2 =>
 Ld x_2 w1 fun x_3 =>
 Cl P F.sorter_Sorter_Held #[x_3] w1 fun x_5 w2 =>
 Nc t_p0 <|
 Fo 3 t_p0 fun x_6 =>
 Ld x_6 w2 fun x_7 =>
 Rk (fun w K => Ld x_6 w fun x_8 => K x_8) x_7 w1 <|
 Lnl x_7 fun x_10 =>
 Rk (fun w K => Lnl x_7 fun x_11 => K x_11) x_10 w1 <|
 Bp .add x_5 x_10 fun x_13 =>
 R x_13 w2)
theorem Tie.bwt_Turner_Held {t_p0 : Value} {w : World} {R : Value → World → Prop} (h : Vcf.bwt_Turner_Held Tryz.prog t_p0 w R) : Cl Tryz.prog F.bwt_Turner_Held #[t_p0] w R :=
  cl_of_vc (n := 16) (rs := [(.tmp 2)]) (h := (.s .z (.s (.s .z (.i (.s .z .z) .z)) (.s (.r (.staged [0, 1, 3, 7, 15, 0, 32, 96, 224, 480, 1023, 2047])) .z)))) (args := [t_p0]) (by kernel_rfl) Tryz.func68 rfl (by kernel_rfl) rfl rfl rfl (Eq.mp (by kernel_rfl) h)

/-- (baler/split.Splitter).End -/
def Vcf.split_Splitter_End (P : Program) (p_p0 : Value) (w : World) (R : Value → World → Prop) : Prop   :=
 Bn false p_p0 (.pointer none) fun x_1 =>
 Vif x_1 (
 R (.slice none 0 0) w) (
 Nc p_p0 <|
 Fo 4 p_p0 fun x_2 =>
 Ld x_2 w fun x_3 =>
 Cl P F.feed_Packer_Row #[x_3] w fun x_4 w1 =>
 New (zeroP P 112) 112 w1 fun row_5 w2 =>
 StA 2 row_5 x_4 w2 fun w3 =>
 VJoin 1 (fun _ out_6 w4 =>
 Nc p_p0 <|
 Fo 0 p_p0 fun x_7 =>
 Cl P F.split_begun_close #[x_7] w4 fun x_8 w5 =>
 Ex x_8 0 fun x_9 =>
 Ex x_8 1 fun x_10 =>
 New (zeroP P 137) 137 w5 fun b_11 w6 =>
 StA 3 b_11 x_9 w6 fun w7 =>
 Vif x_10 (
 LdA 3 b_11 w7 fun x_12 =>
 Bs P 66 1 #[(0, x_12)] w7 fun x_13 w8 =>
 Ap P #[66, 66] 66 #[out_6, x_13] w8 fun x_14 w9 =>
 R x_14 w9) (
 R out_6 w7))
 (fun J15 =>
 Nc p_p0 <|
 Fo 4 p_p0 fun x_16 =>
 Ld x_16 w3 fun x_17 =>
 Cl P F.feed_Packer_End #[x_17] w3 fun x_18 w10 =>
 Bp .neq x_18 (.string ⟨#[]⟩) fun x_19 =>
 Vif x_19 (
 LdA 2 row_5 w10 fun x_20 =>
 Lns x_18 fun x_21 =>
 Cl P F.split_Splitter_piece #[p_p0, x_20, x_21] w10 fun x_22 w11 =>
 Ex x_22 0 fun x_23 =>
 Ex x_22 1 fun x_24 =>
 New (zeroP P 137) 137 w11 fun b_25 w12 =>
 StA 3 b_25 x_23 w12 fun w13 =>
 Vif x_24 (
 LdA 3 b_25 w13 fun x_26 =>
 Bs P 66 1 #[(0, x_26)] w13 fun x_27 w14 =>
 Ap P #[66, 66] 66 #[(.slice none 0 0), x_27] w14 fun x_28 w15 =>
 KE [p_p0] [p_p0] <| J15 x_28 w15) (
 KE [p_p0] [p_p0] <| J15 (.slice none 0 0) w13)) (
 KE [p_p0] [p_p0] <| J15 (.slice none 0 0) w10)))
theorem Tie.split_Splitter_End {p_p0 : Value} {w : World} {R : Value → World → Prop} (h : Vcf.split_Splitter_End Tryz.prog p_p0 w R) : Cl Tryz.prog F.split_Splitter_End #[p_p0] w R :=
  cl_of_vc (n := 50) (rs := [(.tmp 2)]) (h := (.s .z (.s (.s .z (.i (.s .z .z) .z)) (.s .z (.s .z (.j [3] [0] (.s .z (.s .z (.i (.s .z (.s .z (.i .z .z))) .z))) (.s (.s .z (.s .z (.i .z .z))) (.s .z .z)))))))) (args := [p_p0]) (by kernel_rfl) Tryz.func69 rfl (by kernel_rfl) rfl rfl rfl (Eq.mp (by kernel_rfl) h)

/-- (baler/feed.Packer).Row -/
def Vcf.feed_Packer_Row (P : Program) (p_p0 : Value) (w : World) (R : Value → World → Prop) : Prop   :=
 New (zeroP P 112) 112 w fun x_1 w1 =>
 Bn false p_p0 (.pointer none) fun x_2 =>
 Vif x_2 (
 Bd P 112 #[] w1 fun x_3 =>
 StA 2 x_1 x_3 w1 fun w2 =>
 LdA 2 x_1 w2 fun x_4 =>
 R x_4 w2) (
 Nc p_p0 <|
 Fo 0 p_p0 fun x_5 =>
 LdA 2 x_5 w1 fun x_6 =>
 StA 2 x_1 x_6 w1 fun w3 =>
 LdA 2 x_1 w3 fun x_7 =>
 R x_7 w3)
theorem Tie.feed_Packer_Row {p_p0 : Value} {w : World} {R : Value → World → Prop} (h : Vcf.feed_Packer_Row Tryz.prog p_p0 w R) : Cl Tryz.prog F.feed_Packer_Row #[p_p0] w R :=
  cl_of_vc (n := 10) (rs := [(.cell 2 112)]) (h := (.s .z (.s (.s .z (.i (.s .z .z) .z)) (.s .z .z)))) (args := [p_p0]) (by kernel_rfl) Tryz.func70 rfl (by kernel_rfl) rfl rfl rfl (Eq.mp (by kernel_rfl) h)

/-- (baler/sorter.Sorter).Held -/
def Vcf.sorter_Sorter_Held (P : Program) (x_p0 : Value) (w : World) (R : Value → World → Prop) : Prop   :=
 Bn false x_p0 (.pointer none) fun x_1 =>
 Vif x_1 (
 R (.int .i64 0) w) (
 Nc x_p0 <|
 Fo 0 x_p0 fun x_2 =>
 Ld x_2 w fun x_3 =>
 Lns x_3 fun x_4 =>
 Bp .mul (.int .i64 3) x_4 fun x_5 =>
 R x_5 w)
theorem Tie.sorter_Sorter_Held {x_p0 : Value} {w : World} {R : Value → World → Prop} (h : Vcf.sorter_Sorter_Held Tryz.prog x_p0 w R) : Cl Tryz.prog F.sorter_Sorter_Held #[x_p0] w R :=
  cl_of_vc (n := 11) (rs := [(.tmp 2)]) (h := (.s .z (.s (.s .z (.i (.s .z .z) .z)) (.s .z .z)))) (args := [x_p0]) (by kernel_rfl) Tryz.func71 rfl (by kernel_rfl) rfl rfl rfl (Eq.mp (by kernel_rfl) h)

/-- (baler/feed.Packer).End -/
def Vcf.feed_Packer_End (P : Program) (p_p0 : Value) (w : World) (R : Value → World → Prop) : Prop   :=
 Bn false p_p0 (.pointer none) fun x_1 =>
 Vif x_1 (
 R (.string ⟨#[]⟩) w) (
 Cl P F.feed_Packer_close #[p_p0] w fun x_2 w1 =>
 R x_2 w1)
theorem Tie.feed_Packer_End {p_p0 : Value} {w : World} {R : Value → World → Prop} (h : Vcf.feed_Packer_End Tryz.prog p_p0 w R) : Cl Tryz.prog F.feed_Packer_End #[p_p0] w R :=
  cl_of_vc (n := 7) (rs := [(.tmp 2)]) (h := (.s .z (.s (.s .z (.i (.s .z .z) .z)) (.s .z .z)))) (args := [p_p0]) (by kernel_rfl) Tryz.func72 rfl (by kernel_rfl) rfl rfl rfl (Eq.mp (by kernel_rfl) h)

/-- (baler/split.Splitter).piece -/
def Vcf.split_Splitter_piece (P : Program) (p_p0 x_p1 n_p2 : Value) (w : World) (R : Value → World → Prop) : Prop   :=
 New x_p1 112 w fun x_1 w1 =>
 New (zeroP P 137) 137 w1 fun x_2 w2 =>
 New (zeroP P 137) 137 w2 fun out_3 w3 =>
 VJoin 1 (fun _ whole_4 w4 =>
 Dr w4 fun w5 =>
 Nc p_p0 <|
 Fo 0 p_p0 fun x_5 =>
 LdA 2 x_1 w5 fun x_6 =>
 Cl P F.split_begun_take #[x_5, x_6] w5 fun x_8 w6 =>
 LdA 3 out_3 w6 fun x_9 =>
 StA 3 x_2 x_9 w6 fun w7 =>
 LdA 3 x_2 w7 fun x_10 =>
 R (.tuple #[x_10, whole_4]) w7)
 (fun J11 =>
 Dr w3 fun w8 =>
 Nc p_p0 <|
 Fo 0 p_p0 fun x_12 =>
 Fo 0 x_12 fun x_13 =>
 Ld x_13 w8 fun x_14 =>
 Lnl x_14 fun x_16 =>
 Bp .add x_16 n_p2 fun x_18 =>
 Nc p_p0 <|
 Fo 3 p_p0 fun x_19 =>
 Ld x_19 w8 fun x_20 =>
 Bp .gtr x_18 x_20 fun x_22 =>
 Vif x_22 (
 Nc p_p0 <|
 Fo 0 p_p0 fun x_23 =>
 Cl P F.split_begun_close #[x_23] w8 fun x_24 w9 =>
 Ex x_24 0 fun x_25 =>
 Ex x_24 1 fun x_26 =>
 StA 3 out_3 x_25 w9 fun w10 =>
 KE [p_p0, x_1, x_2, out_3] [p_p0, x_1, x_2, out_3] <| J11 x_26 w10) (
 KE [p_p0, x_1, x_2, out_3] [p_p0, x_1, x_2, out_3] <| J11 (.bool false) w8))
theorem Tie.split_Splitter_piece {p_p0 x_p1 n_p2 : Value} {w : World} {R : Value → World → Prop} (h : Vcf.split_Splitter_piece Tryz.prog p_p0 x_p1 n_p2 w R) : Cl Tryz.prog F.split_Splitter_piece #[p_p0, x_p1, n_p2] w R :=
  cl_of_vc (n := 37) (rs := [(.cell 6 137), (.tmp 7)]) (h := (.s .z (.s .z (.s .z (.j [9] [0, 4, 6, 8] (.s (.r (.staged [0, 1, 3, 7, 15, 31, 0, 127, 0, 256, 768, 1792, 4095])) (.i .z .z)) (.s (.r (.staged [0, 1, 3, 0, 15])) (.s .z .z))))))) (args := [p_p0, x_p1, n_p2]) (by kernel_rfl) Tryz.func73 rfl (by kernel_rfl) rfl rfl rfl (Eq.mp (by kernel_rfl) h)

/-- (baler/feed.Packer).close -/
def Vcf.feed_Packer_close (P : Program) (p_p0 : Value) (w : World) (R : Value → World → Prop) : Prop   :=
 Nc p_p0 <|
 Fo 0 p_p0 fun x_1 =>
 LdA 2 x_1 w fun x_2 =>
 Cl P F.rle_Piece #[x_2] w fun x_3 w1 =>
 Ex x_3 0 fun x_4 =>
 Ex x_3 1 fun x_5 =>
 Bd P 112 #[] w1 fun x_6 =>
 Nc p_p0 <|
 Fo 0 p_p0 fun x_7 =>
 StA 2 x_7 x_6 w1 fun w2 =>
 R x_4 w2
theorem Tie.feed_Packer_close {p_p0 : Value} {w : World} {R : Value → World → Prop} (h : Vcf.feed_Packer_close Tryz.prog p_p0 w R) : Cl Tryz.prog F.feed_Packer_close #[p_p0] w R :=
  cl_of_vc (n := 18) (rs := [(.tmp 2)]) (h := (.s .z (.s .z (.s .z (.s .z .z))))) (args := [p_p0]) (by kernel_rfl) Tryz.func75 rfl (by kernel_rfl) rfl rfl rfl (Eq.mp (by kernel_rfl) h)

/-- (baler/split.begun).take -/
def Vcf.split_begun_take (P : Program) (b_p0 p_p1 : Value) (w : World) (R : Value → World → Prop) : Prop   :=
 New p_p1 112 w fun p_1 w1 =>
 LdA 2 p_1 w1 fun x_2 =>
 Cl P F.rle_Piece #[x_2] w1 fun x_3 w2 =>
 Ex x_3 0 fun x_4 =>
 Ex x_3 1 fun x_5 =>
 Nc b_p0 <|
 Fo 0 b_p0 fun x_6 =>
 Ld x_6 w2 fun x_7 =>
 Ap P #[33, 9] 33 #[x_7, x_4] w2 fun x_8 w3 =>
 Nc b_p0 <|
 Fo 0 b_p0 fun x_9 =>
 St x_9 x_8 w3 fun w4 =>
 Dr w4 fun w5 =>
 Nc b_p0 <|
 Fo 2 b_p0 fun x_10 =>
 Ld x_10 w5 fun x_11 =>
 Fo 1 p_1 fun x_13 =>
 Ld x_13 w5 fun x_14 =>
 Bp .add x_11 x_14 fun x_16 =>
 Nc b_p0 <|
 Fo 2 b_p0 fun x_17 =>
 St x_17 x_16 w5 fun w6 =>
 Fo 1 p_1 fun x_18 =>
 Ld x_18 w6 fun x_19 =>
 VLoop 1 [(.int .i64 0)] w6 fun _ next21 x_20 w7 =>
 Bp .lss x_20 x_19 fun x_22 =>
 Vif x_22 (
 Dr w7 fun w8 =>
 Nc b_p0 <|
 Fo 1 b_p0 fun x_23 =>
 Ld x_23 w8 fun x_24 =>
 Fo 0 p_1 fun x_26 =>
 Ld x_26 w8 fun x_27 =>
 Cl P F.crc_Sum_Put #[x_24, x_27] w8 fun x_29 w9 =>
 Bp .add x_20 (.int .i64 1) fun x_30 =>
 KE [b_p0, p_1, x_19] [b_p0, p_1, x_19] <| next21 x_30 w9) (
 R (.tuple #[]) w7)
theorem Tie.split_begun_take {b_p0 p_p1 : Value} {w : World} {R : Value → World → Prop} (h : Vcf.split_begun_take Tryz.prog b_p0 p_p1 w R) : Cl Tryz.prog F.split_begun_take #[b_p0, p_p1] w R :=
  cl_of_vc (n := 41) (rs := []) (h := (.s .z (.s .z (.s .z (.s (.r (.staged [0, 1, 3, 7, 0, 16, 63, 127, 255, 511])) (.s .z (.b (.l [31] [0, 3, 30] (.s .z (.s (.i .z .z) (.s (.b (.r (.staged [0, 1, 3, 7, 0, 16, 63]))) .z))))))))))) (args := [b_p0, p_p1]) (by kernel_rfl) Tryz.func76 rfl (by kernel_rfl) rfl rfl rfl (Eq.mp (by kernel_rfl) h)

/-- (baler/crc.Sum).Value -/
def Vcf.crc_Sum_Value (P : Program) (s_p0 : Value) (w : World) (R : Value → World → Prop) : Prop   :=
 Bn false s_p0 (.pointer none) fun x_1 =>
 Vif x_1 (
 R (.int .u32 0) w) (
 Nc s_p0 <|
 Fo 256 s_p0 fun x_2 =>
 Ld x_2 w fun x_3 =>
 Up .xor x_3 fun x_4 =>
 R x_4 w)
theorem Tie.crc_Sum_Value {s_p0 : Value} {w : World} {R : Value → World → Prop} (h : Vcf.crc_Sum_Value Tryz.prog s_p0 w R) : Cl Tryz.prog F.crc_Sum_Value #[s_p0] w R :=
  cl_of_vc (n := 10) (rs := [(.tmp 2)]) (h := (.s .z (.s (.s .z (.i (.s .z .z) .z)) (.s .z .z)))) (args := [s_p0]) (by kernel_rfl) Tryz.func77 rfl (by kernel_rfl) rfl rfl rfl (Eq.mp (by kernel_rfl) h)

/-- (baler/crc.Sum).Reset -/
def Vcf.crc_Sum_Reset (P : Program) (s_p0 : Value) (w : World) (R : Value → World → Prop) : Prop   :=
 Bn true s_p0 (.pointer none) fun x_1 =>
 Vif x_1 (
 Nc s_p0 <|
 Fo 256 s_p0 fun x_2 =>
 St x_2 (.int .u32 4294967295) w fun w1 =>
 R (.tuple #[]) w1) (
 R (.tuple #[]) w)
theorem Tie.crc_Sum_Reset {s_p0 : Value} {w : World} {R : Value → World → Prop} (h : Vcf.crc_Sum_Reset Tryz.prog s_p0 w R) : Cl Tryz.prog F.crc_Sum_Reset #[s_p0] w R :=
  cl_of_vc (n := 7) (rs := []) (h := (.s .z (.i .z .z))) (args := [s_p0]) (by kernel_rfl) Tryz.func78 rfl (by kernel_rfl) rfl rfl rfl (Eq.mp (by kernel_rfl) h)

/-- baler/rle.Piece -/
def Vcf.rle_Piece (P : Program) (p_p0 : Value) (w : World) (R : Value → World → Prop) : Prop   :=
 New p_p0 112 w fun p_1 w1 =>
 VJoin 1 (fun _ x_2 w2 =>
 Vif x_2 (
 R (.tuple #[(.string ⟨#[]⟩), (.int .i64 1)]) w2) (
 LdA 2 p_1 w2 fun x_3 =>
 Cl P F.rle_text #[x_3] w2 fun x_4 w3 =>
 R (.tuple #[x_4, (.int .i64 0)]) w3))
 (fun J5 =>
 Fo 1 p_1 fun x_6 =>
 Ld x_6 w1 fun x_7 =>
 Bp .lss x_7 (.int .i64 1) fun x_8 =>
 Vif x_8 (
 KE [p_1] [p_1] <| J5 (.bool true) w1) (
 Fo 1 p_1 fun x_9 =>
 Ld x_9 w1 fun x_10 =>
 Bp .gtr x_10 (.int .i64 255) fun x_11 =>
 KE [p_1] [p_1] <| J5 x_11 w1))
theorem Tie.rle_Piece {p_p0 : Value} {w : World} {R : Value → World → Prop} (h : Vcf.rle_Piece Tryz.prog p_p0 w R) : Cl Tryz.prog F.rle_Piece #[p_p0] w R :=
  cl_of_vc (n := 14) (rs := [(.tmp 2), (.tmp 3)]) (h := (.s .z (.s (.j [11] [1] .z (.i (.s .z .z) .z)) (.s .z .z)))) (args := [p_p0]) (by kernel_rfl) Tryz.func79 rfl (by kernel_rfl) rfl rfl rfl (Eq.mp (by kernel_rfl) h)

/-- (baler/crc.Sum).Put -/
def Vcf.crc_Sum_Put (P : Program) (s_p0 b_p1 : Value) (w : World) (R : Value → World → Prop) : Prop   :=
 Bn true s_p0 (.pointer none) fun x_1 =>
 Vif x_1 (
 Dr w fun w1 =>
 Nc s_p0 <|
 Fo 0 s_p0 fun x_2 =>
 Nc s_p0 <|
 Fo 256 s_p0 fun x_3 =>
 Ld x_3 w1 fun x_4 =>
 Cl P F.crc_step #[x_2, x_4, b_p1] w1 fun x_6 w2 =>
 Nc s_p0 <|
 Fo 256 s_p0 fun x_7 =>
 St x_7 x_6 w2 fun w3 =>
 R (.tuple #[]) w3) (
 R (.tuple #[]) w)
theorem Tie.crc_Sum_Put {s_p0 b_p1 : Value} {w : World} {R : Value → World → Prop} (h : Vcf.crc_Sum_Put Tryz.prog s_p0 b_p1 w R) : Cl Tryz.prog F.crc_Sum_Put #[s_p0, b_p1] w R :=
  cl_of_vc (n := 18) (rs := []) (h := (.s .z (.i (.r (.staged [0, 0, 2, 6, 0, 16, 48, 112, 0, 510, 1023, 2047, 4095])) .z))) (args := [s_p0, b_p1]) (by kernel_rfl) Tryz.func80 rfl (by kernel_rfl) rfl rfl rfl (Eq.mp (by kernel_rfl) h)

/-- baler/crc.step -/
def Vcf.crc_step (P : Program) (t_p0 sum_p1 b_p2 : Value) (w : World) (R : Value → World → Prop) : Prop   :=
 Bp .shl sum_p1 (.int .u64 8) fun x_1 =>
 Bp .shr sum_p1 (.int .u64 24) fun x_2 =>
 Ci .u8 x_2 fun x_3 =>
 Bp .xor x_3 b_p2 fun x_4 =>
 Nc t_p0 <|
 Iaa 256 1 t_p0 x_4 fun x_5 =>
 Ld x_5 w fun x_6 =>
 Bp .xor x_1 x_6 fun x_7 =>
 R x_7 w
theorem Tie.crc_step {t_p0 sum_p1 b_p2 : Value} {w : World} {R : Value → World → Prop} (h : Vcf.crc_step Tryz.prog t_p0 sum_p1 b_p2 w R) : Cl Tryz.prog F.crc_step #[t_p0, sum_p1, b_p2] w R :=
  cl_of_vc (n := 19) (rs := [(.tmp 6)]) (h := (.s .z (.s .z .z))) (args := [t_p0, sum_p1, b_p2]) (by kernel_rfl) Tryz.func82 rfl (by kernel_rfl) rfl rfl rfl (Eq.mp (by kernel_rfl) h)

/-- (baler/unpress.Expander).Done -/
def Vcf.unpress_Expander_Done (P : Program) (x_p0 : Value) (w : World) (R : Value → World → Prop) : Prop   :=
 Bn true x_p0 (.pointer none) fun x_1 =>
 Vif x_1 (
 Nc x_p0 <|
 Fo 8 x_p0 fun x_2 =>
 Ld x_2 w fun x_3 =>
 R x_3 w) (
 R (.bool false) w)
theorem Tie.unpress_Expander_Done {x_p0 : Value} {w : World} {R : Value → World → Prop} (h : Vcf.unpress_Expander_Done Tryz.prog x_p0 w R) : Cl Tryz.prog F.unpress_Expander_Done #[x_p0] w R :=
  cl_of_vc (n := 11) (rs := [(.tmp 2)]) (h := (.s .z (.s .z .z))) (args := [x_p0]) (by kernel_rfl) Tryz.func97 rfl (by kernel_rfl) rfl rfl rfl (Eq.mp (by kernel_rfl) h)

/-- (baler/unpress.Expander).End -/
def Vcf.unpress_Expander_End (P : Program) (x_p0 : Value) (w : World) (R : Value → World → Prop) : Prop   :=
 VJoin 1 (fun _ x_1 w1 =>
 Vif x_1 (
 R (.int .i64 7) w1) (
 Nc x_p0 <|
 Fo 2 x_p0 fun x_2 =>
 St x_2 (.bool true) w1 fun w2 =>
 Nc x_p0 <|
 Fo 6 x_p0 fun x_3 =>
 St x_3 (.bool false) w2 fun w3 =>
 R (.int .i64 0) w3))
 (fun J4 =>
 Bn false x_p0 (.pointer none) fun x_5 =>
 Vif x_5 (
 KE [x_p0] [x_p0] <| J4 (.bool true) w) (
 Nc x_p0 <|
 Fo 2 x_p0 fun x_6 =>
 Ld x_6 w fun x_7 =>
 KE [x_p0] [x_p0] <| J4 x_7 w))
theorem Tie.unpress_Expander_End {x_p0 : Value} {w : World} {R : Value → World → Prop} (h : Vcf.unpress_Expander_End Tryz.prog x_p0 w R) : Cl Tryz.prog F.unpress_Expander_End #[x_p0] w R :=
  cl_of_vc (n := 17) (rs := [(.tmp 2)]) (h := (.s .z (.s (.j [10] [0] .z (.i (.s .z .z) .z)) (.s .z (.s .z (.s .z .z)))))) (args := [x_p0]) (by kernel_rfl) Tryz.func98 rfl (by kernel_rfl) rfl rfl rfl (Eq.mp (by kernel_rfl) h)

/-- (baler/unpress.Expander).Err -/
def Vcf.unpress_Expander_Err (P : Program) (x_p0 : Value) (w : World) (R : Value → World → Prop) : Prop   :=
 Bn false x_p0 (.pointer none) fun x_1 =>
 Vif x_1 (
 R (.int .i64 0) w) (
 Nc x_p0 <|
 Fo 9 x_p0 fun x_2 =>
 Ld x_2 w fun x_3 =>
 R x_3 w)
theorem Tie.unpress_Expander_Err {x_p0 : Value} {w : World} {R : Value → World → Prop} (h : Vcf.unpress_Expander_Err Tryz.prog x_p0 w R) : Cl Tryz.prog F.unpress_Expander_Err #[x_p0] w R :=
  cl_of_vc (n := 9) (rs := [(.tmp 2)]) (h := (.s .z (.s (.s .z (.i (.s .z .z) .z)) (.s .z .z)))) (args := [x_p0]) (by kernel_rfl) Tryz.func99 rfl (by kernel_rfl) rfl rfl rfl (Eq.mp (by kernel_rfl) h)

/-- (baler/unpress.Expander).Feed -/
def Vcf.unpress_Expander_Feed (P : Program) (x_p0 s_p1 : Value) (w : World) (R : Value → World → Prop) : Prop   :=
 VJoin 1 (fun _ x_1 w1 =>
 Vif x_1 (
 R (.int .i64 0) w1) (
 Dr w1 fun w2 =>
 Lns s_p1 fun x_2 =>
 Nc x_p0 <|
 Fo 0 x_p0 fun x_4 =>
 Ld x_4 w2 fun x_5 =>
 Nc x_p0 <|
 Fo 3 x_p0 fun x_7 =>
 Ld x_7 w2 fun x_8 =>
 Cl P F.bits_Reader_Held #[x_8] w2 fun x_10 w3 =>
 Rk (fun w K => Ld x_4 w fun x_6 => K x_6) x_5 w3 <|
 Rk (fun w K => Lns s_p1 fun x_3 => K x_3) x_2 w3 <|
 Bp .sub x_5 x_10 fun x_11 =>
 Bmin P #[3, 3] 3 #[x_2, x_11] w3 fun x_12 =>
 Dr w3 fun w4 =>
 Nc x_p0 <|
 Fo 3 x_p0 fun x_14 =>
 Ld x_14 w4 fun x_15 =>
 Sst s_p1 none (some x_12) fun x_17 =>
 Cl P F.bits_Reader_More #[x_15, x_17] w4 fun x_19 w5 =>
 Bp .gtr x_12 (.int .i64 0) fun x_20 =>
 Vif x_20 (
 Nc x_p0 <|
 Fo 6 x_p0 fun x_21 =>
 St x_21 (.bool false) w5 fun w6 =>
 R x_12 w6) (
 R x_12 w5)))
 (fun J22 =>
 Bn false x_p0 (.pointer none) fun x_23 =>
 Vif x_23 (
 KE [x_p0, s_p1] [x_p0, s_p1] <| J22 (.bool true) w) (
 Nc x_p0 <|
 Fo 2 x_p0 fun x_24 =>
 Ld x_24 w fun x_25 =>
 Vif x_25 (
 KE [x_p0, s_p1] [x_p0, s_p1] <| J22 (.bool true) w) (
 Nc x_p0 <|
 Fo 8 x_p0 fun x_26 =>
 Ld x_26 w fun x_27 =>
 KE [x_p0, s_p1] [x_p0, s_p1] <| J22 x_27 w)))
theorem Tie.unpress_Expander_Feed {x_p0 s_p1 : Value} {w : World} {R : Value → World → Prop} (h : Vcf.unpress_Expander_Feed Tryz.prog x_p0 s_p1 w R) : Cl Tryz.prog F.unpress_Expander_Feed #[x_p0, s_p1] w R :=
  cl_of_vc (n := 47) (rs := [(.tmp 4)]) (h := (.s .z (.s (.j [19] [0, 1] .z (.i (.s .z .z) .z)) (.s (.r (.staged [0, 1, 0, 4, 12, 28, 0, 64, 192, 448, 960, 2044, 4095, 8191])) (.s (.r (.staged [0, 1, 3, 7, 0, 0, 48, 127])) (.s (.s .z (.i .z .z)) (.s .z .z))))))) (args := [x_p0, s_p1]) (by kernel_rfl) Tryz.func100 rfl (by kernel_rfl) rfl rfl rfl (Eq.mp (by kernel_rfl) h)

/-- (baler/unpress.Expander).Held -/
def Vcf.unpress_Expander_Held (P : Program) (x_p0 : Value) (w : World) (R : Value → World → Prop) : Prop   :=
 Bn false x_p0 (.pointer none) fun x_1 =>
 Vif x_1 (
 R (.int .i64 0) w) (
 Dr w fun w1 =>
 Nc x_p0 <|
 Fo 3 x_p0 fun x_2 =>
 Ld x_2 w1 fun x_3 =>
 Cl P F.bits_Reader_Held #[x_3] w1 fun x_5 w2 =>
 Nc x_p0 <|
 Fo 4 x_p0 fun x_6 =>
 Ld x_6 w2 fun x_7 =>
 Rk (fun w K => Ld x_6 w fun x_8 => K x_8) x_7 w1 <|
 Cl P F.unstream_Reader_Held #[x_7] w2 fun x_10 w3 =>
 Bp .add x_5 x_10 fun x_11 =>
 Nc x_p0 <|
 Fo 7 x_p0 fun x_12 =>
 Ld x_12 w3 fun x_13 =>
 Rk (fun w K => Ld x_12 w fun x_14 => K x_14) x_13 w2 <|
 Rk (fun w K => Ld x_12 w fun x_15 => K x_15) x_13 w1 <|
 Lnl x_13 fun x_17 =>
 Rk (fun w K => Lnl x_13 fun x_18 => K x_18) x_17 w2 <|
 Rk (fun w K => Lnl x_13 fun x_19 => K x_19) x_17 w1 <|
 Bp .add x_11 x_17 fun x_21 =>
 Nc x_p0 <|
 Fo 5 x_p0 fun x_22 =>
 Ld x_22 w3 fun x_23 =>
 Bn true x_23 (.pointer none) fun x_24 =>
 Vif x_24 (
 Nc x_p0 <|
 Fo 5 x_p0 fun x_25 =>
 Ld x_25 w3 fun x_26 =>
 Nc x_26 <|
 Fo 3 x_26 fun x_27 =>
 Ld x_27 w3 fun x_28 =>
 Cl P F.unbwt_Inverter_Held #[x_28] w3 fun x_29 w4 =>
 Bp .add x_21 x_29 fun x_30 =>
 R x_30 w4) (
 R x_21 w3))
theorem Tie.unpress_Expander_Held {x_p0 : Value} {w : World} {R : Value → World → Prop} (h : Vcf.unpress_Expander_Held Tryz.prog x_p0 w R) : Cl Tryz.prog F.unpress_Expander_Held #[x_p0] w R :=
  cl_of_vc (n := 39) (rs := [(.tmp 2)]) (h := (.s .z (.s (.s .z (.i (.s .z .z) .z)) (.s (.r (.staged [0, 1, 3, 7, 15, 0, 32, 96, 224, 511, 1023, 0, 2048, 6144, 14336, 30720, 65535, 131071])) (.s (.s .z (.i .z .z)) (.s .z .z)))))) (args := [x_p0]) (by kernel_rfl) Tryz.func101 rfl (by kernel_rfl) rfl rfl rfl (Eq.mp (by kernel_rfl) h)

/-- (baler/bits.Reader).Held -/
def Vcf.bits_Reader_Held (P : Program) (r_p0 : Value) (w : World) (R : Value → World → Prop) : Prop   :=
 Bn false r_p0 (.pointer none) fun x_1 =>
 Vif x_1 (
 R (.int .i64 0) w) (
 Nc r_p0 <|
 Fo 0 r_p0 fun x_2 =>
 Ld x_2 w fun x_3 =>
 Lns x_3 fun x_4 =>
 R x_4 w)
theorem Tie.bits_Reader_Held {r_p0 : Value} {w : World} {R : Value → World → Prop} (h : Vcf.bits_Reader_Held Tryz.prog r_p0 w R) : Cl Tryz.prog F.bits_Reader_Held #[r_p0] w R :=
  cl_of_vc (n := 10) (rs := [(.tmp 2)]) (h := (.s .z (.s (.s .z (.i (.s .z .z) .z)) (.s .z .z)))) (args := [r_p0]) (by kernel_rfl) Tryz.func108 rfl (by kernel_rfl) rfl rfl rfl (Eq.mp (by kernel_rfl) h)

/-- (baler/bits.Reader).More -/
def Vcf.bits_Reader_More (P : Program) (r_p0 s_p1 : Value) (w : World) (R : Value → World → Prop) : Prop   :=
 Bn false r_p0 (.pointer none) fun x_1 =>
 Vif x_1 (
 R (.int .i64 7) w) (
 Nc r_p0 <|
 Fo 0 r_p0 fun x_2 =>
 Ld x_2 w fun x_3 =>
 Bp .add x_3 s_p1 fun x_4 =>
 Nc r_p0 <|
 Fo 0 r_p0 fun x_5 =>
 St x_5 x_4 w fun w1 =>
 R (.int .i64 0) w1)
theorem Tie.bits_Reader_More {r_p0 s_p1 : Value} {w : World} {R : Value → World → Prop} (h : Vcf.bits_Reader_More Tryz.prog r_p0 s_p1 w R) : Cl Tryz.prog F.bits_Reader_More #[r_p0, s_p1] w R :=
  cl_of_vc (n := 15) (rs := [(.tmp 4)]) (h := (.s .z (.s (.s .z (.i (.s .z .z) .z)) (.s .z (.s .z .z))))) (args := [r_p0, s_p1]) (by kernel_rfl) Tryz.func109 rfl (by kernel_rfl) rfl rfl rfl (Eq.mp (by kernel_rfl) h)

/-- (baler/unstream.Reader).Held -/
def Vcf.unstream_Reader_Held (P : Program) (u_p0 : Value) (w : World) (R : Value → World → Prop) : Prop   :=
 Bn false u_p0 (.pointer none) fun x_1 =>
 Vif x_1 (
 R (.int .i64 0) w) (
 Nc u_p0 <|
 Fo 4 u_p0 fun x_2 =>
 Ld x_2 w fun x_3 =>
 Cl P F.block_Reader_Held #[x_3] w fun x_4 w1 =>
 R x_4 w1)
theorem Tie.unstream_Reader_Held {u_p0 : Value} {w : World} {R : Value → World → Prop} (h : Vcf.unstream_Reader_Held Tryz.prog u_p0 w R) : Cl Tryz.prog F.unstream_Reader_Held #[u_p0] w R :=
  cl_of_vc (n := 10) (rs := [(.tmp 2)]) (h := (.s .z (.s (.s .z (.i (.s .z .z) .z)) (.s .z .z)))) (args := [u_p0]) (by kernel_rfl) Tryz.func110 rfl (by kernel_rfl) rfl rfl rfl (Eq.mp (by kernel_rfl) h)

/-- (baler/unbwt.Inverter).Held -/
def Vcf.unbwt_Inverter_Held (P : Program) (v_p0 : Value) (w : World) (R : Value → World → Prop) : Prop   :=
 Bn false v_p0 (.pointer none) fun x_1 =>
 Vif x_1 (
 R (.int .i64 0) w) (
 Dr w fun w1 =>
 Nc v_p0 <|
 Fo 0 v_p0 fun x_2 =>
 Ld x_2 w1 fun x_3 =>
 Lns x_3 fun x_5 =>
 Bp .mul (.int .i64 2) x_5 fun x_7 =>
 Nc v_p0 <|
 Fo 259 v_p0 fun x_8 =>
 Ld x_8 w1 fun x_9 =>
 Lnl x_9 fun x_11 =>
 Bp .add x_7 x_11 fun x_13 =>
 R x_13 w1)
theorem Tie.unbwt_Inverter_Held {v_p0 : Value} {w : World} {R : Value → World → Prop} (h : Vcf.unbwt_Inverter_Held Tryz.prog v_p0 w R) : Cl Tryz.prog F.unbwt_Inverter_Held #[v_p0] w R :=
  cl_of_vc (n := 17) (rs := [(.tmp 2)]) (h := (.s .z (.s (.s .z (.i (.s .z .z) .z)) (.s (.r (.staged [0, 1, 3, 7, 15, 31, 0, 64, 192, 448, 960, 2047, 4095])) .z)))) (args := [v_p0]) (by kernel_rfl) Tryz.func111 rfl (by kernel_rfl) rfl rfl rfl (Eq.mp (by kernel_rfl) h)

/-- (baler/block.Reader).Held -/
def Vcf.block_Reader_Held (P : Program) (b_p0 : Value) (w : World) (R : Value → World → Prop) : Prop   :=
 Bn false b_p0 (.pointer none) fun x_1 =>
 Vif x_1 (
 R (.int .i64 0) w) (
 Nc b_p0 <|
 Fo 0 b_p0 fun x_2 =>
 Ld x_2 w fun x_3 =>
 Bn false x_3 (.pointer none) fun x_4 =>
 Vif x_4 (
 Nc b_p0 <|
 Fo 5 b_p0 fun x_5 =>
 Ld x_5 w fun x_6 =>
 Lnl x_6 fun x_7 =>
 R x_7 w) (
 Dr w fun w1 =>
 Nc b_p0 <|
 Fo 0 b_p0 fun x_8 =>
 Ld x_8 w1 fun x_9 =>
 Nc x_9 <|
 Fo 0 x_9 fun x_11 =>
 Ld x_11 w1 fun x_12 =>
 Cl P F.code_Reader_Held #[x_12] w1 fun x_14 w2 =>
 Nc b_p0 <|
 Fo 5 b_p0 fun x_15 =>
 Ld x_15 w2 fun x_16 =>
 Rk (fun w K => Ld x_15 w fun x_17 => K x_17) x_16 w1 <|
 Lnl x_16 fun x_19 =>
 Rk (fun w K => Lnl x_16 fun x_20 => K x_20) x_19 w1 <|
 Bp .add x_14 x_19 fun x_22 =>
 R x_22 w2))
theorem Tie.block_Reader_Held {b_p0 : Value} {w : World} {R : Value → World → Prop} (h : Vcf.block_Reader_Held Tryz.prog b_p0 w R) : Cl Tryz.prog F.block_Reader_Held #[b_p0] w R :=
  cl_of_vc (n := 31) (rs := [(.tmp 2)]) (h := (.s .z (.s (.b (.s .z (.i (.s .z .z) (.s .z (.i (.s .z .z) .z))))) (.s (.r (.staged [0, 1, 3, 7, 15, 31, 63, 127, 0, 256, 768, 1792, 3840, 8191, 16383])) .z)))) (args := [b_p0]) (by kernel_rfl) Tryz.func112 rfl (by kernel_rfl) rfl rfl rfl (Eq.mp (by kernel_rfl) h)

/-- (baler/code.Reader).Held -/
def Vcf.code_Reader_Held (P : Program) (c_p0 : Value) (w : World) (R : Value → World → Prop) : Prop   :=
 Bn false c_p0 (.pointer none) fun x_1 =>
 Vif x_1 (
 R (.int .i64 0) w) (
 Dr w fun w1 =>
 Nc c_p0 <|
 Fo 1 c_p0 fun x_2 =>
 Ld x_2 w1 fun x_3 =>
 Cl P F.picks_Reader_Picks #[x_3] w1 fun x_5 w2 =>
 Lnl x_5 fun x_6 =>
 Nc c_p0 <|
 Fo 0 c_p0 fun x_8 =>
 Ld x_8 w2 fun x_9 =>
 Rk (fun w K => Ld x_8 w fun x_10 => K x_10) x_9 w1 <|
 Nc c_p0 <|
 Fo 4 c_p0 fun x_12 =>
 Ld x_12 w2 fun x_13 =>
 Rk (fun w K => Ld x_12 w fun x_14 => K x_14) x_13 w1 <|
 Lnl x_13 fun x_16 =>
 Rk (fun w K => Lnl x_13 fun x_17 => K x_17) x_16 w1 <|
 Bp .mul x_9 x_16 fun x_19 =>
 Bp .add x_6 x_19 fun x_20 =>
 R x_20 w2)
theorem Tie.code_Reader_Held {c_p0 : Value} {w : World} {R : Value → World → Prop} (h : Vcf.code_Reader_Held Tryz.prog c_p0 w R) : Cl Tryz.prog F.code_Reader_Held #[c_p0] w R :=
  cl_of_vc (n := 22) (rs := [(.tmp 2)]) (h := (.s .z (.s (.s .z (.i (.s .z .z) .z)) (.s (.r (.staged [0, 1, 3, 7, 15, 31, 0, 64, 192, 448, 0, 1024, 3072, 7168, 15360, 32704, 65535, 131071])) .z)))) (args := [c_p0]) (by kernel_rfl) Tryz.func113 rfl (by kernel_rfl) rfl rfl rfl (Eq.mp (by kernel_rfl) h)

/-- (baler/picks.Reader).Picks -/
def Vcf.picks_Reader_Picks (P : Program) (p_p0 : Value) (w : World) (R : Value → World → Prop) : Prop   :=
 Bn false p_p0 (.pointer none) fun x_1 =>
 Vif x_1 (
 R (.slice none 0 0) w) (
 Nc p_p0 <|
 Fo 8 p_p0 fun x_2 =>
 Ld x_2 w fun x_3 =>
 Cl P F.slices_Clone_int_int #[x_3] w fun x_4 w1 =>
 R x_4 w1)
theorem Tie.picks_Reader_Picks {p_p0 : Value} {w : World} {R : Value → World → Prop} (h : Vcf.picks_Reader_Picks Tryz.prog p_p0 w R) : Cl Tryz.prog F.picks_Reader_Picks #[p_p0] w R :=
  cl_of_vc (n := 10) (rs := [(.tmp 2)]) (h := (.s .z (.s (.s .z (.i (.s .z .z) .z)) (.s .z .z)))) (args := [p_p0]) (by kernel_rfl) Tryz.func114 rfl (by kernel_rfl) rfl rfl rfl (Eq.mp (by kernel_rfl) h)

/-- (baler/tester.Tester).Done -/
def Vcf.tester_Tester_Done (P : Program) (t_p0 : Value) (w : World) (R : Value → World → Prop) : Prop   :=
 Bn true t_p0 (.pointer none) fun x_1 =>
 Vif x_1 (
 Nc t_p0 <|
 Fo 0 t_p0 fun x_2 =>
 Fo 0 x_2 fun x_3 =>
 Ld x_3 w fun x_4 =>
 Cl P F.unpress_Expander_Done #[x_4] w fun x_5 w1 =>
 R x_5 w1) (
 R (.bool false) w)
theorem Tie.tester_Tester_Done {t_p0 : Value} {w : World} {R : Value → World → Prop} (h : Vcf.tester_Tester_Done Tryz.prog t_p0 w R) : Cl Tryz.prog F.tester_Tester_Done #[t_p0] w R :=
  cl_of_vc (n := 13) (rs := [(.tmp 2)]) (h := (.s .z (.s .z .z))) (args := [t_p0]) (by kernel_rfl) Tryz.func116 rfl (by kernel_rfl) rfl rfl rfl (Eq.mp (by kernel_rfl) h)

/-- (baler/tester.Tester).End -/
def Vcf.tester_Tester_End (P : Program) (t_p0 : Value) (w : World) (R : Value → World → Prop) : Prop   :=
 Bn false t_p0 (.pointer none) fun x_1 =>
 Vif x_1 (
 R (.int .i64 7) w) (
 Nc t_p0 <|
 Fo 0 t_p0 fun x_2 =>
 Fo 0 x_2 fun x_3 =>
 Ld x_3 w fun x_4 =>
 Cl P F.unpress_Expander_End #[x_4] w fun x_5 w1 =>
 R x_5 w1)
theorem Tie.tester_Tester_End {t_p0 : Value} {w : World} {R : Value → World → Prop} (h : Vcf.tester_Tester_End Tryz.prog t_p0 w R) : Cl Tryz.prog F.tester_Tester_End #[t_p0] w R :=
  cl_of_vc (n := 11) (rs := [(.tmp 2)]) (h := (.s .z (.s (.s .z (.i (.s .z .z) .z)) (.s .z .z)))) (args := [t_p0]) (by kernel_rfl) Tryz.func117 rfl (by kernel_rfl) rfl rfl rfl (Eq.mp (by kernel_rfl) h)

/-- (baler/tester.Tester).Err -/
def Vcf.tester_Tester_Err (P : Program) (t_p0 : Value) (w : World) (R : Value → World → Prop) : Prop   :=
 Bn false t_p0 (.pointer none) fun x_1 =>
 Vif x_1 (
 R (.int .i64 0) w) (
 Nc t_p0 <|
 Fo 0 t_p0 fun x_2 =>
 Fo 0 x_2 fun x_3 =>
 Ld x_3 w fun x_4 =>
 Cl P F.unpress_Expander_Err #[x_4] w fun x_5 w1 =>
 R x_5 w1)
theorem Tie.tester_Tester_Err {t_p0 : Value} {w : World} {R : Value → World → Prop} (h : Vcf.tester_Tester_Err Tryz.prog t_p0 w R) : Cl Tryz.prog F.tester_Tester_Err #[t_p0] w R :=
  cl_of_vc (n := 11) (rs := [(.tmp 2)]) (h := (.s .z (.s (.s .z (.i (.s .z .z) .z)) (.s .z .z)))) (args := [t_p0]) (by kernel_rfl) Tryz.func118 rfl (by kernel_rfl) rfl rfl rfl (Eq.mp (by kernel_rfl) h)

/-- (baler/tester.Tester).Feed -/
def Vcf.tester_Tester_Feed (P : Program) (t_p0 s_p1 : Value) (w : World) (R : Value → World → Prop) : Prop   :=
 Bn false t_p0 (.pointer none) fun x_1 =>
 Vif x_1 (
 R (.int .i64 0) w) (
 Nc t_p0 <|
 Fo 0 t_p0 fun x_2 =>
 Fo 0 x_2 fun x_3 =>
 Ld x_3 w fun x_4 =>
 Cl P F.unpress_Expander_Feed #[x_4, s_p1] w fun x_5 w1 =>
 R x_5 w1)
theorem Tie.tester_Tester_Feed {t_p0 s_p1 : Value} {w : World} {R : Value → World → Prop} (h : Vcf.tester_Tester_Feed Tryz.prog t_p0 s_p1 w R) : Cl Tryz.prog F.tester_Tester_Feed #[t_p0, s_p1] w R :=
  cl_of_vc (n := 14) (rs := [(.tmp 4)]) (h := (.s .z (.s (.s .z (.i (.s .z .z) .z)) (.s .z .z)))) (args := [t_p0, s_p1]) (by kernel_rfl) Tryz.func119 rfl (by kernel_rfl) rfl rfl rfl (Eq.mp (by kernel_rfl) h)

/-- (baler/tester.Tester).Held -/
def Vcf.tester_Tester_Held (P : Program) (t_p0 : Value) (w : World) (R : Value → World → Prop) : Prop   :=
 Bn false t_p0 (.pointer none) fun x_1 =>
 Vif x_1 (
 R (.int .i64 0) w) (
 Dr w fun w1 =>
 Nc t_p0 <|
 Fo 0 t_p0 fun x_2 =>
 Fo 0 x_2 fun x_3 =>
 Ld x_3 w1 fun x_4 =>
 Cl P F.unpress_Expander_Held #[x_4] w1 fun x_6 w2 =>
 Nc t_p0 <|
 Fo 2 t_p0 fun x_7 =>
 Ld x_7 w2 fun x_8 =>
 Rk (fun w K => Ld x_7 w fun x_9 => K x_9) x_8 w1 <|
 Lns x_8 fun x_11 =>
 Rk (fun w K => Lns x_8 fun x_12 => K x_12) x_11 w1 <|
 Bp .add x_6 x_11 fun x_14 =>
 R x_14 w2)
theorem Tie.tester_Tester_Held {t_p0 : Value} {w : World} {R : Value → World → Prop} (h : Vcf.tester_Tester_Held Tryz.prog t_p0 w R) : Cl Tryz.prog F.tester_Tester_Held #[t_p0] w R :=
  cl_of_vc (n := 17) (rs := [(.tmp 2)]) (h := (.s .z (.s (.s .z (.i (.s .z .z) .z)) (.s (.r (.staged [0, 1, 3, 7, 15, 31, 0, 64, 192, 448, 960, 2047, 4095])) .z)))) (args := [t_p0]) (by kernel_rfl) Tryz.func120 rfl (by kernel_rfl) rfl rfl rfl (Eq.mp (by kernel_rfl) h)

/-- (baler/stream.Writer).End -/
def Vcf.stream_Writer_End (P : Program) (w_p0 : Value) (w : World) (R : Value → World → Prop) : Prop   :=
 VJoin 1 (fun _ x_1 w1 =>
 Vif x_1 (
 R (.int .i64 7) w1) (
 Cl P F.stream_Writer_magic #[w_p0, (.int .u64 25779555029136)] w1 fun x_2 w2 =>
 Dr w2 fun w3 =>
 Nc w_p0 <|
 Fo 0 w_p0 fun x_3 =>
 Ld x_3 w3 fun x_4 =>
 Nc w_p0 <|
 Fo 1 w_p0 fun x_6 =>
 Ld x_6 w3 fun x_7 =>
 Cl P F.bits_Writer_Put #[x_4, x_7, (.int .i64 32)] w3 fun x_9 w4 =>
 Nc w_p0 <|
 Fo 0 w_p0 fun x_10 =>
 Ld x_10 w4 fun x_11 =>
 Cl P F.bits_Writer_Pad #[x_11] w4 fun x_12 w5 =>
 Nc w_p0 <|
 Fo 2 w_p0 fun x_13 =>
 St x_13 (.bool true) w5 fun w6 =>
 R (.int .i64 0) w6))
 (fun J14 =>
 Bn false w_p0 (.pointer none) fun x_15 =>
 Vif x_15 (
 KE [w_p0] [w_p0] <| J14 (.bool true) w) (
 Nc w_p0 <|
 Fo 2 w_p0 fun x_16 =>
 Ld x_16 w fun x_17 =>
 KE [w_p0] [w_p0] <| J14 x_17 w))
theorem Tie.stream_Writer_End {w_p0 : Value} {w : World} {R : Value → World → Prop} (h : Vcf.stream_Writer_End Tryz.prog w_p0 w R) : Cl Tryz.prog F.stream_Writer_End #[w_p0] w R :=
  cl_of_vc (n := 30) (rs := [(.tmp 2)]) (h := (.s .z (.s (.j [10] [0] .z (.i (.s .z .z) .z)) (.s .z (.s (.r (.staged [0, 1, 3, 7, 0, 16, 48, 112, 255])) (.s .z (.s .z (.s .z .z)))))))) (args := [w_p0]) (by kernel_rfl) Tryz.func127 rfl (by kernel_rfl) rfl rfl rfl (Eq.mp (by kernel_rfl) h)

/-- (baler/stream.Writer).Held -/
def Vcf.stream_Writer_Held (P : Program) (w_p0 : Value) (w : World) (R : Value → World → Prop) : Prop   :=
 Bn false w_p0 (.pointer none) fun x_1 =>
 Vif x_1 (
 R (.int .i64 0) w) (
 Nc w_p0 <|
 Fo 0 w_p0 fun x_2 =>
 Ld x_2 w fun x_3 =>
 Cl P F.bits_Writer_Held #[x_3] w fun x_4 w1 =>
 R x_4 w1)
theorem Tie.stream_Writer_Held {w_p0 : Value} {w : World} {R : Value → World → Prop} (h : Vcf.stream_Writer_Held Tryz.prog w_p0 w R) : Cl Tryz.prog F.stream_Writer_Held #[w_p0] w R :=
  cl_of_vc (n := 10) (rs := [(.tmp 2)]) (h := (.s .z (.s (.s .z (.i (.s .z .z) .z)) (.s .z .z)))) (args := [w_p0]) (by kernel_rfl) Tryz.func128 rfl (by kernel_rfl) rfl rfl rfl (Eq.mp (by kernel_rfl) h)

/-- (baler/stream.Writer).magic -/
def Vcf.stream_Writer_magic (P : Program) (w_p0 m_p1 : Value) (w : World) (R : Value → World → Prop) : Prop   :=
 Nc w_p0 <|
 Fo 0 w_p0 fun x_1 =>
 Ld x_1 w fun x_2 =>
 Bp .shr m_p1 (.int .u64 24) fun x_3 =>
 Ci .u32 x_3 fun x_4 =>
 Cl P F.bits_Writer_Put #[x_2, x_4, (.int .i64 24)] w fun x_5 w1 =>
 Nc w_p0 <|
 Fo 0 w_p0 fun x_6 =>
 Ld x_6 w1 fun x_7 =>
 Bp .and m_p1 (.int .u64 16777215) fun x_8 =>
 Ci .u32 x_8 fun x_9 =>
 Cl P F.bits_Writer_Put #[x_7, x_9, (.int .i64 24)] w1 fun x_10 w2 =>
 R (.tuple #[]) w2
theorem Tie.stream_Writer_magic {w_p0 m_p1 : Value} {w : World} {R : Value → World → Prop} (h : Vcf.stream_Writer_magic Tryz.prog w_p0 m_p1 w R) : Cl Tryz.prog F.stream_Writer_magic #[w_p0, m_p1] w R :=
  cl_of_vc (n := 20) (rs := []) (h := (.s .z .z)) (args := [w_p0, m_p1]) (by kernel_rfl) Tryz.func129 rfl (by kernel_rfl) rfl rfl rfl (Eq.mp (by kernel_rfl) h)

/-- (baler/bits.Writer).Pad -/
def Vcf.bits_Writer_Pad (P : Program) (w_p0 : Value) (w : World) (R : Value → World → Prop) : Prop   :=
 VLoop 0 [] w fun _ next1 w1 =>
 Bn true w_p0 (.pointer none) fun x_2 =>
 Vif x_2 (
 Nc w_p0 <|
 Fo 2 w_p0 fun x_3 =>
 Ld x_3 w1 fun x_4 =>
 Bp .rem x_4 (.int .i64 8) fun x_5 =>
 Bp .neq x_5 (.int .i64 0) fun x_6 =>
 Vif x_6 (
 Cl P F.bits_Writer_bit #[w_p0, (.int .u8 0)] w1 fun x_7 w2 =>
 KE [w_p0] [w_p0] <| next1 w2) (
 R (.tuple #[]) w1)) (
 R (.tuple #[]) w1)
theorem Tie.bits_Writer_Pad {w_p0 : Value} {w : World} {R : Value → World → Prop} (h : Vcf.bits_Writer_Pad Tryz.prog w_p0 w R) : Cl Tryz.prog F.bits_Writer_Pad #[w_p0] w R :=
  cl_of_vc (n := 14) (rs := []) (h := (.b (.l [] [0] (.s (.s .z (.i .z .z)) (.b .z))))) (args := [w_p0]) (by kernel_rfl) Tryz.func130 rfl (by kernel_rfl) rfl rfl rfl (Eq.mp (by kernel_rfl) h)

/-- (baler/bits.Writer).Held -/
def Vcf.bits_Writer_Held (P : Program) (w_p0 : Value) (w : World) (R : Value → World → Prop) : Prop   :=
 Bn false w_p0 (.pointer none) fun x_1 =>
 Vif x_1 (
 R (.int .i64 0) w) (
 Nc w_p0 <|
 Fo 0 w_p0 fun x_2 =>
 Ld x_2 w fun x_3 =>
 Lnl x_3 fun x_4 =>
 R x_4 w)
theorem Tie.bits_Writer_Held {w_p0 : Value} {w : World} {R : Value → World → Prop} (h : Vcf.bits_Writer_Held Tryz.prog w_p0 w R) : Cl Tryz.prog F.bits_Writer_Held #[w_p0] w R :=
  cl_of_vc (n := 10) (rs := [(.tmp 2)]) (h := (.s .z (.s (.s .z (.i (.s .z .z) .z)) (.s .z .z)))) (args := [w_p0]) (by kernel_rfl) Tryz.func131 rfl (by kernel_rfl) rfl rfl rfl (Eq.mp (by kernel_rfl) h)

/-- (baler/bwt.Turner).Done -/
def Vcf.bwt_Turner_Done (P : Program) (t_p0 : Value) (w : World) (R : Value → World → Prop) : Prop   :=
 Dr w fun w1 =>
 Bn true t_p0 (.pointer none) fun x_1 =>
 Vif x_1 (
 Nc t_p0 <|
 Fo 3 t_p0 fun x_2 =>
 Ld x_2 w1 fun x_3 =>
 Lnl x_3 fun x_5 =>
 Nc t_p0 <|
 Fo 0 t_p0 fun x_7 =>
 Ld x_7 w1 fun x_8 =>
 Lns x_8 fun x_10 =>
 Bp .eql x_5 x_10 fun x_12 =>
 R x_12 w1) (
 R (.bool false) w1)
theorem Tie.bwt_Turner_Done {t_p0 : Value} {w : World} {R : Value → World → Prop} (h : Vcf.bwt_Turner_Done Tryz.prog t_p0 w R) : Cl Tryz.prog F.bwt_Turner_Done #[t_p0] w R :=
  cl_of_vc (n := 18) (rs := [(.tmp 2)]) (h := (.s .z (.s (.r (.staged [0, 1, 3, 7, 15, 31, 63, 127, 7, 263, 775, 1799, 3847, 8191, 16383, 32767])) .z))) (args := [t_p0]) (by kernel_rfl) Tryz.func132 rfl (by kernel_rfl) rfl rfl rfl (Eq.mp (by kernel_rfl) h)

/-- (baler/block.Reader).Done -/
def Vcf.block_Reader_Done (P : Program) (b_p0 : Value) (w : World) (R : Value → World → Prop) : Prop   :=
 Bn true b_p0 (.pointer none) fun x_1 =>
 Vif x_1 (
 Nc b_p0 <|
 Fo 6 b_p0 fun x_2 =>
 Ld x_2 w fun x_3 =>
 R x_3 w) (
 R (.bool false) w)
theorem Tie.block_Reader_Done {b_p0 : Value} {w : World} {R : Value → World → Prop} (h : Vcf.block_Reader_Done Tryz.prog b_p0 w R) : Cl Tryz.prog F.block_Reader_Done #[b_p0] w R :=
  cl_of_vc (n := 11) (rs := [(.tmp 2)]) (h := (.s .z (.s .z .z))) (args := [b_p0]) (by kernel_rfl) Tryz.func138 rfl (by kernel_rfl) rfl rfl rfl (Eq.mp (by kernel_rfl) h)

/-- (baler/sorter.Sorter).Done -/
def Vcf.sorter_Sorter_Done (P : Program) (x_p0 : Value) (w : World) (R : Value → World → Prop) : Prop   :=
 Bn true x_p0 (.pointer none) fun x_1 =>
 Vif x_1 (
 Nc x_p0 <|
 Fo 15 x_p0 fun x_2 =>
 Ld x_2 w fun x_3 =>
 R x_3 w) (
 R (.bool false) w)
theorem Tie.sorter_Sorter_Done {x_p0 : Value} {w : World} {R : Value → World → Prop} (h : Vcf.sorter_Sorter_Done Tryz.prog x_p0 w R) : Cl Tryz.prog F.sorter_Sorter_Done #[x_p0] w R :=
  cl_of_vc (n := 11) (rs := [(.tmp 2)]) (h := (.s .z (.s .z .z))) (args := [x_p0]) (by kernel_rfl) Tryz.func140 rfl (by kernel_rfl) rfl rfl rfl (Eq.mp (by kernel_rfl) h)

/-- (baler/unbwt.Inverter).Done -/
def Vcf.unbwt_Inverter_Done (P : Program) (v_p0 : Value) (w : World) (R : Value → World → Prop) : Prop   :=
 Dr w fun w1 =>
 Bn true v_p0 (.pointer none) fun x_1 =>
 Vif x_1 (
 Nc v_p0 <|
 Fo 260 v_p0 fun x_2 =>
 Ld x_2 w1 fun x_3 =>
 Nc v_p0 <|
 Fo 0 v_p0 fun x_5 =>
 Ld x_5 w1 fun x_6 =>
 Lns x_6 fun x_8 =>
 Bp .mul (.int .i64 3) x_8 fun x_10 =>
 Bp .eql x_3 x_10 fun x_11 =>
 R x_11 w1) (
 R (.bool false) w1)
theorem Tie.unbwt_Inverter_Done {v_p0 : Value} {w : World} {R : Value → World → Prop} (h : Vcf.unbwt_Inverter_Done Tryz.prog v_p0 w R) : Cl Tryz.prog F.unbwt_Inverter_Done #[v_p0] w R :=
  cl_of_vc (n := 18) (rs := [(.tmp 2)]) (h := (.s .z (.s (.r (.staged [0, 1, 3, 7, 15, 31, 63, 7, 135, 391, 903, 1927, 3975, 8191, 16383, 32767])) .z))) (args := [v_p0]) (by kernel_rfl) Tryz.func145 rfl (by kernel_rfl) rfl rfl rfl (Eq.mp (by kernel_rfl) h)

/-- (baler/feed.Unpacker).End -/
def Vcf.feed_Unpacker_End (P : Program) (u_p0 : Value) (w : World) (R : Value → World → Prop) : Prop   :=
 Bn false u_p0 (.pointer none) fun x_1 =>
 Vif x_1 (
 R (.int .i64 7) w) (
 Cl P F.feed_Unpacker_Wants #[u_p0] w fun x_2 w1 =>
 Vif x_2 (
 R (.int .i64 24) w1) (
 Bd P 112 #[] w1 fun x_3 =>
 Nc u_p0 <|
 Fo 0 u_p0 fun x_4 =>
 StA 2 x_4 x_3 w1 fun w2 =>
 R (.int .i64 0) w2))
theorem Tie.feed_Unpacker_End {u_p0 : Value} {w : World} {R : Value → World → Prop} (h : Vcf.feed_Unpacker_End Tryz.prog u_p0 w R) : Cl Tryz.prog F.feed_Unpacker_End #[u_p0] w R :=
  cl_of_vc (n := 13) (rs := [(.tmp 2)]) (h := (.s .z (.s (.b (.s .z (.i (.s .z .z) (.s .z (.i (.s .z .z) .z))))) (.s .z (.s .z .z))))) (args := [u_p0]) (by kernel_rfl) Tryz.func150 rfl (by kernel_rfl) rfl rfl rfl (Eq.mp (by kernel_rfl) h)

/-- (baler/feed.Unpacker).Wants -/
def Vcf.feed_Unpacker_Wants (P : Program) (u_p0 : Value) (w : World) (R : Value → World → Prop) : Prop   :=
 Bn true u_p0 (.pointer none) fun x_1 =>
 Vif x_1 (
 Nc u_p0 <|
 Fo 0 u_p0 fun x_2 =>
 Fo 1 x_2 fun x_3 =>
 Ld x_3 w fun x_4 =>
 Bp .eql x_4 (.int .i64 4) fun x_5 =>
 R x_5 w) (
 R (.bool false) w)
theorem Tie.feed_Unpacker_Wants {u_p0 : Value} {w : World} {R : Value → World → Prop} (h : Vcf.feed_Unpacker_Wants Tryz.prog u_p0 w R) : Cl Tryz.prog F.feed_Unpacker_Wants #[u_p0] w R :=
  cl_of_vc (n := 13) (rs := [(.tmp 2)]) (h := (.s .z (.s .z .z))) (args := [u_p0]) (by kernel_rfl) Tryz.func151 rfl (by kernel_rfl) rfl rfl rfl (Eq.mp (by kernel_rfl) h)

/-- (baler/code.Reader).Done -/
def Vcf.code_Reader_Done (P : Program) (c_p0 : Value) (w : World) (R : Value → World → Prop) : Prop   :=
 Bn true c_p0 (.pointer none) fun x_1 =>
 Vif x_1 (
 Nc c_p0 <|
 Fo 6 c_p0 fun x_2 =>
 Ld x_2 w fun x_3 =>
 R x_3 w) (
 R (.bool false) w)
theorem Tie.code_Reader_Done {c_p0 : Value} {w : World} {R : Value → World → Prop} (h : Vcf.code_Reader_Done Tryz.prog c_p0 w R) : Cl Tryz.prog F.code_Reader_Done #[c_p0] w R :=
  cl_of_vc (n := 11) (rs := [(.tmp 2)]) (h := (.s .z (.s .z .z))) (args := [c_p0]) (by kernel_rfl) Tryz.func154 rfl (by kernel_rfl) rfl rfl rfl (Eq.mp (by kernel_rfl) h)

/-- (baler/zeros.Reader).Done -/
def Vcf.zeros_Reader_Done (P : Program) (r_p0 : Value) (w : World) (R : Value → World → Prop) : Prop   :=
 Bn true r_p0 (.pointer none) fun x_1 =>
 Vif x_1 (
 Nc r_p0 <|
 Fo 5 r_p0 fun x_2 =>
 Ld x_2 w fun x_3 =>
 R x_3 w) (
 R (.bool false) w)
theorem Tie.zeros_Reader_Done {r_p0 : Value} {w : World} {R : Value → World → Prop} (h : Vcf.zeros_Reader_Done Tryz.prog r_p0 w R) : Cl Tryz.prog F.zeros_Reader_Done #[r_p0] w R :=
  cl_of_vc (n := 11) (rs := [(.tmp 2)]) (h := (.s .z (.s .z .z))) (args := [r_p0]) (by kernel_rfl) Tryz.func156 rfl (by kernel_rfl) rfl rfl rfl (Eq.mp (by kernel_rfl) h)

/-- (baler/picks.Reader).Done -/
def Vcf.picks_Reader_Done (P : Program) (p_p0 : Value) (w : World) (R : Value → World → Prop) : Prop   :=
 Dr w fun w1 =>
 Bn true p_p0 (.pointer none) fun x_1 =>
 Vif x_1 (
 Nc p_p0 <|
 Fo 1 p_p0 fun x_2 =>
 Ld x_2 w1 fun x_3 =>
 Bp .gtr x_3 (.int .i64 0) fun x_5 =>
 Vif x_5 (
 Nc p_p0 <|
 Fo 8 p_p0 fun x_6 =>
 Ld x_6 w1 fun x_7 =>
 Lnl x_7 fun x_9 =>
 Nc p_p0 <|
 Fo 1 p_p0 fun x_11 =>
 Ld x_11 w1 fun x_12 =>
 Bp .eql x_9 x_12 fun x_14 =>
 R x_14 w1) (
 R (.bool false) w1)) (
 R (.bool false) w1)
theorem Tie.picks_Reader_Done {p_p0 : Value} {w : World} {R : Value → World → Prop} (h : Vcf.picks_Reader_Done Tryz.prog p_p0 w R) : Cl Tryz.prog F.picks_Reader_Done #[p_p0] w R :=
  cl_of_vc (n := 24) (rs := [(.tmp 2)]) (h := (.s .z (.s (.r (.staged [0, 1, 3, 7, 15, 31, 63, 127, 255, 511, 1023, 2047, 4095, 8191, 16383, 1023, 33791, 99327, 230399, 524287, 1048575, 2097151])) .z))) (args := [p_p0]) (by kernel_rfl) Tryz.func158 rfl (by kernel_rfl) rfl rfl rfl (Eq.mp (by kernel_rfl) h)

/-- (baler/delta.Reader).Done -/
def Vcf.delta_Reader_Done (P : Program) (d_p0 : Value) (w : World) (R : Value → World → Prop) : Prop   :=
 Dr w fun w1 =>
 Bn true d_p0 (.pointer none) fun x_1 =>
 Vif x_1 (
 Nc d_p0 <|
 Fo 2 d_p0 fun x_2 =>
 Ld x_2 w1 fun x_3 =>
 Lnl x_3 fun x_5 =>
 Nc d_p0 <|
 Fo 0 d_p0 fun x_7 =>
 Ld x_7 w1 fun x_8 =>
 Bp .eql x_5 x_8 fun x_10 =>
 R x_10 w1) (
 R (.bool false) w1)
theorem Tie.delta_Reader_Done {d_p0 : Value} {w : World} {R : Value → World → Prop} (h : Vcf.delta_Reader_Done Tryz.prog d_p0 w R) : Cl Tryz.prog F.delta_Reader_Done #[d_p0] w R :=
  cl_of_vc (n := 17) (rs := [(.tmp 2)]) (h := (.s .z (.s (.r (.staged [0, 1, 3, 7, 15, 31, 63, 127, 7, 263, 775, 1799, 4095, 8191, 16383])) .z))) (args := [d_p0]) (by kernel_rfl) Tryz.func159 rfl (by kernel_rfl) rfl rfl rfl (Eq.mp (by kernel_rfl) h)

end Go.Proofs.YtmjeneomacijgaaGreat
