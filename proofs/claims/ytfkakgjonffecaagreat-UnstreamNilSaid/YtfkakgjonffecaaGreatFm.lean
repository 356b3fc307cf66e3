/- Formulas of the program's functions, printed by a program of the prover's own (dec.py); each is tied to its code by the kernel. -/
import Derived.Test.YtfkakgjonffecaaGreatVc
import Derived.Test.YtfkakgjonffecaaGreatChecked
set_option linter.unusedVariables false
set_option maxRecDepth 1000000
namespace Go.Proofs.YtfkakgjonffecaaGreat
open Go Go.Vc

abbrev F.main_main : Nat := 0
abbrev F.gosem_cut : Nat := 1
abbrev F.gosem_cut_init : Nat := 2
abbrev F.balerlaw22_UnstreamNil : Nat := 3
abbrev F.balerlaw22_none : Nat := 4
abbrev F.unstream_New : Nat := 5
abbrev F.unstream_Reader_Step : Nat := 6
abbrev F.bits_NewReader : Nat := 7
abbrev F.unstream_Reader_Got : Nat := 8
abbrev F.unstream_Reader_MayEnd : Nat := 9
abbrev F.unstream_Reader_Held : Nat := 10
abbrev F.unstream_Decode : Nat := 11
abbrev F.balerref21_With : Nat := 12
abbrev F.split_Room : Nat := 13
abbrev F.unstream_Reader_step : Nat := 14
abbrev F.block_Reader_Held : Nat := 15
abbrev F.unstream_With : Nat := 16
abbrev F.balerref21_Head : Nat := 17
abbrev F.balerref19_Of : Nat := 18
abbrev F.balerref20_Write : Nat := 19
abbrev F.balerref19_Block_Sum : Nat := 20
abbrev F.balerref01_Pack : Nat := 21
abbrev F.balerref21_Tail : Nat := 22
abbrev F.unstream_Reader_letter : Nat := 23
abbrev F.unstream_Reader_magic : Nat := 24
abbrev F.unstream_Reader_body : Nat := 25
abbrev F.unstream_Reader_sum : Nat := 26
abbrev F.code_Reader_Held : Nat := 27
abbrev F.bits_Reader_Left : Nat := 28
abbrev F.strings_Builder_String : Nat := 29
abbrev F.block_Open : Nat := 30
abbrev F.strings_Builder_WriteString : Nat := 31
abbrev F.balerref01_Bits : Nat := 32
abbrev F.balerref03_Pieces : Nat := 33
abbrev F.balerref03_Piece : Nat := 34
abbrev F.balerref17_Of : Nat := 35
abbrev F.balerref20_Bits : Nat := 36
abbrev F.balerref02_Of : Nat := 37
abbrev F.balerref01_Bytes : Nat := 38
abbrev F.balerref01_Padded : Nat := 39
abbrev F.balerref01_Field : Nat := 40
abbrev F.balerref02_Stream : Nat := 41
abbrev F.bits_Reader_Get : Nat := 42
abbrev F.block_NewReader : Nat := 43
abbrev F.block_Reader_Step : Nat := 44
abbrev F.block_Reader_Done : Nat := 45
abbrev F.block_Reader_Got : Nat := 46
abbrev F.crc_Combine : Nat := 47
abbrev F.bits_Reader_Align : Nat := 48
abbrev F.picks_Reader_Picks : Nat := 49
abbrev F.bits_Reader_end : Nat := 50
abbrev F.unbwt_Of : Nat := 51
abbrev F.rle_Decode : Nat := 52
abbrev F.crc_Of : Nat := 53
abbrev F.strings_Builder_copyCheck : Nat := 54
abbrev F.balerref03_row : Nat := 55
abbrev F.balerref17_From : Nat := 56
abbrev F.balerref15_Sorted : Nat := 57
abbrev F.balerref05_Symbols : Nat := 58
abbrev F.balerref06_Encode : Nat := 59
abbrev F.balerref07_Encode : Nat := 60
abbrev F.balerref05_Bits : Nat := 61
abbrev F.balerref14_Bits : Nat := 62
abbrev F.balerref02_Step : Nat := 63
abbrev F.balerref01_Number : Nat := 64
abbrev F.balerref02_Combine : Nat := 65
abbrev F.bits_Reader_bit : Nat := 66
abbrev F.block_Reader_step : Nat := 67
abbrev F.slices_Clone_int_int : Nat := 68
abbrev F.unbwt_New : Nat := 69
abbrev F.unbwt_Inverter_Step : Nat := 70
abbrev F.unbwt_Inverter_Take : Nat := 71
abbrev F.rle_unpack : Nat := 72
abbrev F.rle_Decode_1 : Nat := 73
abbrev F.crc_New : Nat := 74
abbrev F.crc_Sum_Text : Nat := 75
abbrev F.crc_Sum_Value : Nat := 76
abbrev F.internal_abi_NoEscape : Nat := 77
abbrev F.balerref15_Rotation : Nat := 78
abbrev F.balerref15_Ahead : Nat := 79
abbrev F.balerref05_There : Nat := 80
abbrev F.balerref05_Is : Nat := 81
abbrev F.balerref06_Place : Nat := 82
abbrev F.balerref06_Touch : Nat := 83
abbrev F.balerref07_Row : Nat := 84
abbrev F.balerref12_Of : Nat := 85
abbrev F.balerref13_Bits : Nat := 86
abbrev F.balerref11_Bits : Nat := 87
abbrev F.balerref10_Codes : Nat := 88
abbrev F.balerref02_Bits : Nat := 89
abbrev F.block_Reader_begin : Nat := 90
abbrev F.block_Reader_symbols : Nat := 91
abbrev F.block_row_waits : Nat := 92
abbrev F.block_row_next : Nat := 93
abbrev F.block_Reader_symbol : Nat := 94
abbrev F.block_Reader_end : Nat := 95
abbrev F.unbwt_Inverter_Done : Nat := 96
abbrev F.unbwt_Inverter_step : Nat := 97
abbrev F.crc_Table : Nat := 98
abbrev F.crc_Sum_Put : Nat := 99
abbrev F.balerref12_First : Nat := 100
abbrev F.balerref08_Counts : Nat := 101
abbrev F.balerref08_Groups : Nat := 102
abbrev F.balerref12_pick : Nat := 103
abbrev F.balerref09_Of : Nat := 104
abbrev F.balerref10_next : Nat := 105
abbrev F.used_Read : Nat := 106
abbrev F.block_rowOf : Nat := 107
abbrev F.mtf_List_At : Nat := 108
abbrev F.code_Reader_Step : Nat := 109
abbrev F.block_row_told : Nat := 110
abbrev F.code_Reader_Done : Nat := 111
abbrev F.unbwt_Inverter_begins : Nat := 112
abbrev F.crc_step : Nat := 113
abbrev F.balerref12_Number : Nat := 114
abbrev F.balerref08_count : Nat := 115
abbrev F.balerref08_Cost : Nat := 116
abbrev F.balerref09_Depths : Nat := 117
abbrev F.balerref09_May : Nat := 118
abbrev F.balerref09_Halved : Nat := 119
abbrev F.bits_Reader_At : Nat := 120
abbrev F.used_read : Nat := 121
abbrev F.bits_Reader_Seek : Nat := 122
abbrev F.code_NewReader : Nat := 123
abbrev F.zeros_NewReader : Nat := 124
abbrev F.mtf_New : Nat := 125
abbrev F.mtf_List_touch : Nat := 126
abbrev F.code_Reader_symbol : Nat := 127
abbrev F.picks_Reader_Done : Nat := 128
abbrev F.code_Reader_pick : Nat := 129
abbrev F.picks_Reader_Tables : Nat := 130
abbrev F.code_Reader_table : Nat := 131
abbrev F.zeros_Reader_Put : Nat := 132
abbrev F.balerref08_most : Nat := 133
abbrev F.balerref09_least : Nat := 134
abbrev F.balerref09_without : Nat := 135
abbrev F.used_marks : Nat := 136
abbrev F.used_listed : Nat := 137
abbrev F.delta_NewReader : Nat := 138
abbrev F.picks_NewReader : Nat := 139
abbrev F.zeros_may : Nat := 140
abbrev F.used_Is : Nat := 141
abbrev F.canon_Code_Get : Nat := 142
abbrev F.picks_Reader_Step : Nat := 143
abbrev F.delta_Reader_Step : Nat := 144
abbrev F.delta_Reader_Done : Nat := 145
abbrev F.canon_New : Nat := 146
abbrev F.delta_Reader_Lens : Nat := 147
abbrev F.zeros_Reader_more : Nat := 148
abbrev F.zeros_Reader_Count : Nat := 149
abbrev F.balerref09_less : Nat := 150
abbrev F.delta_sized : Nat := 151
abbrev F.picks_fresh : Nat := 152
abbrev F.canon_Code_get : Nat := 153
abbrev F.picks_Reader_pick : Nat := 154
abbrev F.picks_Reader_head : Nat := 155
abbrev F.delta_Reader_step : Nat := 156
abbrev F.canon_whole : Nat := 157
abbrev F.picks_order_touch : Nat := 158
abbrev F.picks_Reader_fail : Nat := 159
abbrev F.picks_tabled : Nat := 160
abbrev F.delta_Reader_turned : Nat := 161
abbrev F.lens_Share : Nat := 162
abbrev F.slices_Contains_int_int : Nat := 163
abbrev F.delta_length : Nat := 164
abbrev F.lens_between : Nat := 165
abbrev F.slices_Index_int_int : Nat := 166
abbrev F.slices_ContainsFunc_int_int : Nat := 167
abbrev F.lens_between_1 : Nat := 168
abbrev F.slices_IndexFunc_int_int : Nat := 169
abbrev F.runtime_boundsError_Error : Nat := 170
abbrev F.runtime_boundsError_RuntimeError : Nat := 171
abbrev F.runtime_errorString_Error : Nat := 172
abbrev F.runtime_errorString_RuntimeError : Nat := 173
abbrev F.runtime_plainError_Error : Nat := 174
abbrev F.runtime_plainError_RuntimeError : Nat := 175
abbrev F.runtime_errorAddressString_Error : Nat := 176
abbrev F.runtime_errorAddressString_RuntimeError : Nat := 177
abbrev F.runtime_TypeAssertionError_Error : Nat := 178
abbrev F.runtime_TypeAssertionError_RuntimeError : Nat := 179
abbrev F.runtime_PanicNilError_Error : Nat := 180
abbrev F.runtime_PanicNilError_RuntimeError : Nat := 181
abbrev F.internal_abi_Type_Align : Nat := 182
abbrev F.internal_runtime_maps_unhashableTypeError_Error : Nat := 183
abbrev F.internal_runtime_maps_unhashableTypeError_RuntimeError : Nat := 184
abbrev F.api_Errno_Error : Nat := 185
abbrev F.code_Reader_Count : Nat := 186
abbrev F.mtf_List_Len : Nat := 187
abbrev F.strings_Builder_Reset : Nat := 188
abbrev F.crc_Sum_Reset : Nat := 189
abbrev F.canon_Code_Size : Nat := 190
abbrev F.picks_order_find : Nat := 191
abbrev F.internal_abi_Kind_String : Nat := 192

/-- baler/balerlaw22.UnstreamNil -/
def Vcf.balerlaw22_UnstreamNil (P : Program) (s_p0 : Value) (w : World) (R : Value → World → Prop) : Prop   :=
 Lns s_p0 fun x_1 =>
 Bp .gtr x_1 (.int .i64 60) fun x_2 =>
 Vif x_2 (
 Cl P F.balerlaw22_none #[] w fun x_3 w1 =>
 R x_3 w1) (
 Cl P F.unstream_New #[(.int .i64 24)] w fun x_4 w2 =>
 Ex x_4 0 fun x_5 =>
 Ex x_4 1 fun x_6 =>
 Cl P F.bits_NewReader #[s_p0] w2 fun x_7 w3 =>
 Cl P F.unstream_Reader_Step #[(.pointer none), x_7] w3 fun x_8 w4 =>
 Ex x_8 0 fun x_9 =>
 Ex x_8 1 fun x_10 =>
 Cl P F.unstream_Reader_Step #[x_5, (.pointer none)] w4 fun x_11 w5 =>
 Ex x_11 0 fun x_12 =>
 Ex x_11 1 fun x_13 =>
 Bp .eql x_6 (.int .i64 0) fun x_14 =>
 Vif x_14 (
 Bp .eql x_10 (.int .i64 7) fun x_15 =>
 Vif x_15 (
 Bp .eql x_13 (.int .i64 7) fun x_16 =>
 Vif x_16 (
 Bp .eql x_9 (.int .i64 0) fun x_17 =>
 Vif x_17 (
 Bp .eql x_12 (.int .i64 0) fun x_18 =>
 Vif x_18 (
 Cl P F.unstream_Reader_Got #[(.pointer none)] w5 fun x_19 w6 =>
 Bd P 34 #[] w6 fun x_20 =>
 Be P .eql 34 (.tmp 50) (.tmp 51) x_19 x_20 w6 fun x_21 =>
 Vif x_21 (
 Cl P F.unstream_Reader_MayEnd #[(.pointer none)] w6 fun x_22 w7 =>
 Up .not x_22 fun x_23 =>
 Vif x_23 (
 Cl P F.unstream_Reader_Held #[(.pointer none)] w7 fun x_24 w8 =>
 Bp .eql x_24 (.int .i64 0) fun x_25 =>
 Vif x_25 (
 Cl P F.unstream_Reader_Held #[x_5] w8 fun x_26 w9 =>
 Bp .eql x_26 (.int .i64 0) fun x_27 =>
 Vif x_27 (
 Cl P F.balerlaw22_none #[] w9 fun x_28 w10 =>
 R x_28 w10) (
 R (.bool false) w9)) (
 R (.bool false) w8)) (
 R (.bool false) w7)) (
 R (.bool false) w6)) (
 R (.bool false) w5)) (
 R (.bool false) w5)) (
 R (.bool false) w5)) (
 R (.bool false) w5)) (
 R (.bool false) w5))
theorem Tie.balerlaw22_UnstreamNil {s_p0 : Value} {w : World} {R : Value → World → Prop} (h : Vcf.balerlaw22_UnstreamNil Tryz.prog s_p0 w R) : Cl Tryz.prog F.balerlaw22_UnstreamNil #[s_p0] w R :=
  cl_of_vc (n := 72) (rs := [(.tmp 2)]) (h := (.s .z (.s (.s .z (.i (.s .z .z) .z)) (.s .z (.s .z (.s .z (.s .z (.s .z .z)))))))) (args := [s_p0]) (by kernel_rfl) Tryz.func3 rfl (by kernel_rfl) rfl rfl rfl (Eq.mp (by kernel_rfl) h)

/-- baler/balerlaw22.none -/
def Vcf.balerlaw22_none (P : Program) (w : World) (R : Value → World → Prop) : Prop   :=
 Cl P F.unstream_Decode #[(.string ⟨#[]⟩)] w fun x_1 w1 =>
 Ex x_1 0 fun x_2 =>
 Ex x_1 1 fun x_3 =>
 Cl P F.unstream_Decode #[(.string ⟨#[66, 90, 120]⟩)] w1 fun x_4 w2 =>
 Ex x_4 0 fun x_5 =>
 Ex x_4 1 fun x_6 =>
 Cl P F.unstream_Decode #[(.string ⟨#[66, 90, 104, 57, 23, 114, 69, 56, 80, 144, 0, 0, 0, 0]⟩)] w2 fun x_7 w3 =>
 Ex x_7 0 fun x_8 =>
 Ex x_7 1 fun x_9 =>
 Cl P F.balerref21_With #[(.int .i64 1), (.int .i64 100000), (.string ⟨#[97, 98]⟩)] w3 fun x_10 w4 =>
 Cl P F.unstream_Decode #[x_10] w4 fun x_11 w5 =>
 Ex x_11 0 fun x_12 =>
 Ex x_11 1 fun x_13 =>
 Bp .eql x_3 (.int .i64 24) fun x_14 =>
 Vif x_14 (
 Bp .eql x_6 (.int .i64 20) fun x_15 =>
 Vif x_15 (
 Bp .eql x_9 (.int .i64 0) fun x_16 =>
 Vif x_16 (
 Bp .eql x_8 (.string ⟨#[]⟩) fun x_17 =>
 Vif x_17 (
 Bp .eql x_13 (.int .i64 0) fun x_18 =>
 Vif x_18 (
 Bp .eql x_12 (.string ⟨#[97, 98]⟩) fun x_19 =>
 R x_19 w5) (
 R (.bool false) w5)) (
 R (.bool false) w5)) (
 R (.bool false) w5)) (
 R (.bool false) w5)) (
 R (.bool false) w5)
theorem Tie.balerlaw22_none {w : World} {R : Value → World → Prop} (h : Vcf.balerlaw22_none Tryz.prog w R) : Cl Tryz.prog F.balerlaw22_none #[] w R :=
  cl_of_vc (n := 48) (rs := [(.tmp 0)]) (h := (.s .z (.s .z (.s .z (.s .z (.s .z (.s .z .z))))))) (args := []) (by kernel_rfl) Tryz.func4 rfl (by kernel_rfl) rfl rfl rfl (Eq.mp (by kernel_rfl) h)

/-- baler/unstream.New -/
def Vcf.unstream_New (P : Program) (unit_p0 : Value) (w : World) (R : Value → World → Prop) : Prop   :=
 Cl P F.split_Room #[(.int .i64 1), unit_p0] w fun x_1 w1 =>
 Ex x_1 0 fun x_2 =>
 Ex x_1 1 fun x_3 =>
 Bp .neq x_3 (.int .i64 0) fun x_4 =>
 Vif x_4 (
 R (.tuple #[(.pointer none), x_3]) w1) (
 Bd P 46 #[(0, unit_p0)] w1 fun x_5 =>
 New x_5 46 w1 fun x_6 w2 =>
 R (.tuple #[x_6, (.int .i64 0)]) w2)
theorem Tie.unstream_New {unit_p0 : Value} {w : World} {R : Value → World → Prop} (h : Vcf.unstream_New Tryz.prog unit_p0 w R) : Cl Tryz.prog F.unstream_New #[unit_p0] w R :=
  cl_of_vc (n := 17) (rs := [(.tmp 2), (.tmp 3)]) (h := (.s .z (.s (.s .z (.s .z (.i (.s .z .z) .z))) (.s .z .z)))) (args := [unit_p0]) (by kernel_rfl) Tryz.func5 rfl (by kernel_rfl) rfl rfl rfl (Eq.mp (by kernel_rfl) h)

/-- (baler/unstream.Reader).Step -/
def Vcf.unstream_Reader_Step (P : Program) (u_p0 r_p1 : Value) (w : World) (R : Value → World → Prop) : Prop   :=
 VJoin 1 (fun _ x_1 w1 =>
 Vif x_1 (
 R (.tuple #[(.int .i64 0), (.int .i64 7)]) w1) (
 Nc u_p0 <|
 Fo 10 u_p0 fun x_2 =>
 Ld x_2 w1 fun x_3 =>
 Bp .neq x_3 (.int .i64 0) fun x_4 =>
 Vif x_4 (
 Dr w1 fun w2 =>
 Nc u_p0 <|
 Fo 10 u_p0 fun x_5 =>
 Ld x_5 w2 fun x_6 =>
 R (.tuple #[(.int .i64 0), x_6]) w2) (
 Cl P F.unstream_Reader_step #[u_p0, r_p1] w1 fun x_8 w3 =>
 Ex x_8 0 fun x_9 =>
 Ex x_8 1 fun x_10 =>
 Bp .neq x_10 (.int .i64 3) fun x_11 =>
 Vif x_11 (
 Nc u_p0 <|
 Fo 10 u_p0 fun x_12 =>
 St x_12 x_10 w3 fun w4 =>
 R (.tuple #[x_9, x_10]) w4) (
 R (.tuple #[x_9, x_10]) w3))))
 (fun J13 =>
 Bn P 46 false u_p0 (.pointer none) fun x_14 =>
 Vif x_14 (
 KE [u_p0, r_p1] [u_p0, r_p1] <| J13 (.bool true) w) (
 Bn P 48 false r_p1 (.pointer none) fun x_15 =>
 KE [u_p0, r_p1] [u_p0, r_p1] <| J13 x_15 w))
theorem Tie.unstream_Reader_Step {u_p0 r_p1 : Value} {w : World} {R : Value → World → Prop} (h : Vcf.unstream_Reader_Step Tryz.prog u_p0 r_p1 w R) : Cl Tryz.prog F.unstream_Reader_Step #[u_p0, r_p1] w R :=
  cl_of_vc (n := 39) (rs := [(.tmp 4), (.tmp 5)]) (h := (.s .z (.s (.b (.j [8] [0, 1] .z (.i (.s .z .z) (.s .z (.i (.s (.r (.staged [0, 1, 3, 7, 0, 31])) .z) .z))))) (.s .z (.s (.s .z (.i .z .z)) (.s .z .z)))))) (args := [u_p0, r_p1]) (by kernel_rfl) Tryz.func6 rfl (by kernel_rfl) rfl rfl rfl (Eq.mp (by kernel_rfl) h)

/-- baler/bits.NewReader -/
def Vcf.bits_NewReader (P : Program) (s_p0 : Value) (w : World) (R : Value → World → Prop) : Prop   :=
 Bd P 48 #[(0, s_p0)] w fun x_1 =>
 New x_1 48 w fun x_2 w1 =>
 R x_2 w1
theorem Tie.bits_NewReader {s_p0 : Value} {w : World} {R : Value → World → Prop} (h : Vcf.bits_NewReader Tryz.prog s_p0 w R) : Cl Tryz.prog F.bits_NewReader #[s_p0] w R :=
  cl_of_vc (n := 6) (rs := [(.tmp 2)]) (h := (.s .z (.s .z .z))) (args := [s_p0]) (by kernel_rfl) Tryz.func7 rfl (by kernel_rfl) rfl rfl rfl (Eq.mp (by kernel_rfl) h)

/-- (baler/unstream.Reader).Got -/
def Vcf.unstream_Reader_Got (P : Program) (u_p0 : Value) (w : World) (R : Value → World → Prop) : Prop   :=
 New (zeroP P 34) 34 w fun x_1 w1 =>
 Bn P 46 false u_p0 (.pointer none) fun x_2 =>
 Vif x_2 (
 Bd P 34 #[] w1 fun x_3 =>
 StA 3 x_1 x_3 w1 fun w2 =>
 LdA 3 x_1 w2 fun x_4 =>
 R x_4 w2) (
 Nc u_p0 <|
 Fo 5 u_p0 fun x_5 =>
 LdA 3 x_5 w1 fun x_6 =>
 StA 3 x_1 x_6 w1 fun w3 =>
 LdA 3 x_1 w3 fun x_7 =>
 R x_7 w3)
theorem Tie.unstream_Reader_Got {u_p0 : Value} {w : World} {R : Value → World → Prop} (h : Vcf.unstream_Reader_Got Tryz.prog u_p0 w R) : Cl Tryz.prog F.unstream_Reader_Got #[u_p0] w R :=
  cl_of_vc (n := 10) (rs := [(.cell 2 34)]) (h := (.s .z (.s (.s .z (.i (.s .z .z) .z)) (.s .z .z)))) (args := [u_p0]) (by kernel_rfl) Tryz.func8 rfl (by kernel_rfl) rfl rfl rfl (Eq.mp (by kernel_rfl) h)

/-- (baler/unstream.Reader).MayEnd -/
def Vcf.unstream_Reader_MayEnd (P : Program) (u_p0 : Value) (w : World) (R : Value → World → Prop) : Prop   :=
 Bn P 46 true u_p0 (.pointer none) fun x_1 =>
 Vif x_1 (
 Nc u_p0 <|
 Fo 9 u_p0 fun x_2 =>
 Ld x_2 w fun x_3 =>
 Vif x_3 (
 Nc u_p0 <|
 Fo 1 u_p0 fun x_4 =>
 Ld x_4 w fun x_5 =>
 Bp .eql x_5 (.int .i64 0) fun x_6 =>
 Vif x_6 (
 Nc u_p0 <|
 Fo 2 u_p0 fun x_7 =>
 Ld x_7 w fun x_8 =>
 Bp .eql x_8 (.int .i64 0) fun x_9 =>
 Vif x_9 (
 Nc u_p0 <|
 Fo 10 u_p0 fun x_10 =>
 Ld x_10 w fun x_11 =>
 Bp .eql x_11 (.int .i64 0) fun x_12 =>
 R x_12 w) (
 R (.bool false) w)) (
 R (.bool false) w)) (
 R (.bool false) w)) (
 R (.bool false) w)
theorem Tie.unstream_Reader_MayEnd {u_p0 : Value} {w : World} {R : Value → World → Prop} (h : Vcf.unstream_Reader_MayEnd Tryz.prog u_p0 w R) : Cl Tryz.prog F.unstream_Reader_MayEnd #[u_p0] w R :=
  cl_of_vc (n := 32) (rs := [(.tmp 2)]) (h := (.s .z (.s .z .z))) (args := [u_p0]) (by kernel_rfl) Tryz.func9 rfl (by kernel_rfl) rfl rfl rfl (Eq.mp (by kernel_rfl) h)

/-- (baler/unstream.Reader).Held -/
def Vcf.unstream_Reader_Held (P : Program) (u_p0 : Value) (w : World) (R : Value → World → Prop) : Prop   :=
 Bn P 46 false u_p0 (.pointer none) fun x_1 =>
 Vif x_1 (
 R (.int .i64 0) w) (
 Nc u_p0 <|
 Fo 4 u_p0 fun x_2 =>
 Ld x_2 w fun x_3 =>
 Cl P F.block_Reader_Held #[x_3] w fun x_4 w1 =>
 R x_4 w1)
theorem Tie.unstream_Reader_Held {u_p0 : Value} {w : World} {R : Value → World → Prop} (h : Vcf.unstream_Reader_Held Tryz.prog u_p0 w R) : Cl Tryz.prog F.unstream_Reader_Held #[u_p0] w R :=
  cl_of_vc (n := 10) (rs := [(.tmp 2)]) (h := (.s .z (.s (.s .z (.i (.s .z .z) .z)) (.s .z .z)))) (args := [u_p0]) (by kernel_rfl) Tryz.func10 rfl (by kernel_rfl) rfl rfl rfl (Eq.mp (by kernel_rfl) h)

/-- baler/unstream.Decode -/
def Vcf.unstream_Decode (P : Program) (s_p0 : Value) (w : World) (R : Value → World → Prop) : Prop   :=
 Cl P F.unstream_With #[(.int .i64 100000), s_p0] w fun x_1 w1 =>
 Ex x_1 0 fun x_2 =>
 Ex x_1 1 fun x_3 =>
 R (.tuple #[x_2, x_3]) w1
theorem Tie.unstream_Decode {s_p0 : Value} {w : World} {R : Value → World → Prop} (h : Vcf.unstream_Decode Tryz.prog s_p0 w R) : Cl Tryz.prog F.unstream_Decode #[s_p0] w R :=
  cl_of_vc (n := 8) (rs := [(.tmp 2), (.tmp 3)]) (h := (.s .z (.s .z .z))) (args := [s_p0]) (by kernel_rfl) Tryz.func11 rfl (by kernel_rfl) rfl rfl rfl (Eq.mp (by kernel_rfl) h)

/-- baler/balerref21.With -/
def Vcf.balerref21_With (P : Program) (level_p0 unit_p1 s_p2 : Value) (w : World) (R : Value → World → Prop) : Prop   :=
 Cl P F.balerref21_Head #[level_p0] w fun x_1 w1 =>
 Bp .mul level_p0 unit_p1 fun x_2 =>
 Bp .sub x_2 (.int .i64 19) fun x_3 =>
 Cl P F.balerref19_Of #[s_p2, x_3] w1 fun x_4 w2 =>
 Lnl x_4 fun x_5 =>
 VLoop 3 [x_1, (.slice none 0 0), (.int .i64 0)] w2 fun _ next9 out_6 sums_7 x_8 w3 =>
 Bp .lss x_8 x_5 fun x_10 =>
 Vif x_10 (
 Ias 2 x_4 x_8 fun x_11 =>
 LdA 2 x_11 w3 fun x_12 =>
 New (zeroP P 55) 55 w3 fun b_13 w4 =>
 StA 2 b_13 x_12 w4 fun w5 =>
 Dr w5 fun w6 =>
 Bp .add out_6 (.string ⟨#[48, 48, 49, 49, 48, 48, 48, 49, 48, 49, 48, 48, 48, 48, 48, 49, 48, 49, 48, 49, 49, 48, 48, 49, 48, 48, 49, 48, 48, 49, 49, 48, 48, 49, 48, 49, 48, 48, 49, 49, 48, 49, 48, 49, 49, 48, 48, 49]⟩) fun x_14 =>
 Fo 0 b_13 fun x_15 =>
 Ld x_15 w6 fun x_16 =>
 LdA 2 b_13 w6 fun x_18 =>
 Cl P F.balerref19_Block_Sum #[x_18] w6 fun x_20 w7 =>
 Rk (fun w K => Ld x_15 w fun x_17 => K x_17) x_16 w7 <|
 Cl P F.balerref20_Write #[x_16, x_20] w7 fun x_21 w8 =>
 Bp .add x_14 x_21 fun x_22 =>
 LdA 2 b_13 w8 fun x_23 =>
 Cl P F.balerref19_Block_Sum #[x_23] w8 fun x_24 w9 =>
 Bs P 51 1 #[(0, x_24)] w9 fun x_25 w10 =>
 Ap P #[51, 51] 51 #[sums_7, x_25] w10 fun x_26 w11 =>
 Bp .add x_8 (.int .i64 1) fun x_27 =>
 KE [x_4, x_5] [x_4, x_5] <| next9 x_22 x_26 x_27 w11) (
 Cl P F.balerref21_Tail #[sums_7] w3 fun x_28 w12 =>
 Bp .add out_6 x_28 fun x_29 =>
 Cl P F.balerref01_Pack #[x_29] w12 fun x_30 w13 =>
 R x_30 w13)
theorem Tie.balerref21_With {level_p0 unit_p1 s_p2 : Value} {w : World} {R : Value → World → Prop} (h : Vcf.balerref21_With Tryz.prog level_p0 unit_p1 s_p2 w R) : Cl Tryz.prog F.balerref21_With #[level_p0, unit_p1, s_p2] w R :=
  cl_of_vc (n := 43) (rs := [(.tmp 6)]) (h := (.s .z (.s .z (.s .z (.s (.s .z (.b (.l [7, 8, 20] [18, 19] (.s .z (.s (.i .z .z) (.s (.b (.s .z (.s (.r (.staged [0, 1, 0, 4, 0, 16, 60, 127, 255])) .z))) .z)))))) (.s .z .z)))))) (args := [level_p0, unit_p1, s_p2]) (by kernel_rfl) Tryz.func12 rfl (by kernel_rfl) rfl rfl rfl (Eq.mp (by kernel_rfl) h)

/-- baler/split.Room -/
def Vcf.split_Room (P : Program) (level_p0 unit_p1 : Value) (w : World) (R : Value → World → Prop) : Prop   :=
 VJoin 1 (fun _ x_1 w1 =>
 Vif x_1 (
 R (.tuple #[(.int .i64 0), (.int .i64 1)]) w1) (
 Bp .mul level_p0 unit_p1 fun x_2 =>
 Bp .sub x_2 (.int .i64 19) fun x_3 =>
 R (.tuple #[x_3, (.int .i64 0)]) w1))
 (fun J4 =>
 Bp .lss level_p0 (.int .i64 1) fun x_5 =>
 Vif x_5 (
 KE [level_p0, unit_p1] [level_p0, unit_p1] <| J4 (.bool true) w) (
 Bp .gtr level_p0 (.int .i64 9) fun x_6 =>
 Vif x_6 (
 KE [level_p0, unit_p1] [level_p0, unit_p1] <| J4 (.bool true) w) (
 Bp .lss unit_p1 (.int .i64 24) fun x_7 =>
 Vif x_7 (
 KE [level_p0, unit_p1] [level_p0, unit_p1] <| J4 (.bool true) w) (
 Bp .gtr unit_p1 (.int .i64 100000) fun x_8 =>
 KE [level_p0, unit_p1] [level_p0, unit_p1] <| J4 x_8 w))))
theorem Tie.split_Room {level_p0 unit_p1 : Value} {w : World} {R : Value → World → Prop} (h : Vcf.split_Room Tryz.prog level_p0 unit_p1 w R) : Cl Tryz.prog F.split_Room #[level_p0, unit_p1] w R :=
  cl_of_vc (n := 24) (rs := [(.tmp 4), (.tmp 5)]) (h := (.s .z (.s (.j [19] [0, 1] .z (.i (.s .z .z) .z)) (.s .z .z)))) (args := [level_p0, unit_p1]) (by kernel_rfl) Tryz.func13 rfl (by kernel_rfl) rfl rfl rfl (Eq.mp (by kernel_rfl) h)

/-- (baler/block.Reader).Held -/
def Vcf.block_Reader_Held (P : Program) (b_p0 : Value) (w : World) (R : Value → World → Prop) : Prop   :=
 Bn P 64 false b_p0 (.pointer none) fun x_1 =>
 Vif x_1 (
 R (.int .i64 0) w) (
 Nc b_p0 <|
 Fo 0 b_p0 fun x_2 =>
 Ld x_2 w fun x_3 =>
 Bn P 69 false x_3 (.pointer none) fun x_4 =>
 Vif x_4 (
 Nc b_p0 <|
 Fo 5 b_p0 fun x_5 =>
 Ld x_5 w fun x_6 =>
 Lnl x_6 fun x_7 =>
 R x_7 w) (
 Dr w fun w1 =>
 Nc b_p0 <|
 Fo 0 b_p0 fun x_8 =>
 Ld x_8 w1 fun x_9 =>
 Nc x_9 <|
 Fo 0 x_9 fun x_11 =>
 Ld x_11 w1 fun x_12 =>
 Cl P F.code_Reader_Held #[x_12] w1 fun x_14 w2 =>
 Nc b_p0 <|
 Fo 5 b_p0 fun x_15 =>
 Ld x_15 w2 fun x_16 =>
 Rk (fun w K => Ld x_15 w fun x_17 => K x_17) x_16 w1 <|
 Lnl x_16 fun x_19 =>
 Rk (fun w K => Lnl x_16 fun x_20 => K x_20) x_19 w1 <|
 Bp .add x_14 x_19 fun x_22 =>
 R x_22 w2))
theorem Tie.block_Reader_Held {b_p0 : Value} {w : World} {R : Value → World → Prop} (h : Vcf.block_Reader_Held Tryz.prog b_p0 w R) : Cl Tryz.prog F.block_Reader_Held #[b_p0] w R :=
  cl_of_vc (n := 31) (rs := [(.tmp 2)]) (h := (.s .z (.s (.b (.s .z (.i (.s .z .z) (.s .z (.i (.s .z .z) .z))))) (.s (.r (.staged [0, 1, 3, 7, 15, 31, 63, 127, 0, 256, 768, 1792, 3840, 8191, 16383])) .z)))) (args := [b_p0]) (by kernel_rfl) Tryz.func15 rfl (by kernel_rfl) rfl rfl rfl (Eq.mp (by kernel_rfl) h)

/-- baler/unstream.With -/
def Vcf.unstream_With (P : Program) (unit_p0 s_p1 : Value) (w : World) (R : Value → World → Prop) : Prop   :=
 Cl P F.unstream_New #[unit_p0] w fun x_1 w1 =>
 Ex x_1 0 fun x_2 =>
 Ex x_1 1 fun x_3 =>
 Bp .neq x_3 (.int .i64 0) fun x_4 =>
 Vif x_4 (
 R (.tuple #[(.string ⟨#[]⟩), x_3]) w1) (
 Cl P F.bits_NewReader #[s_p1] w1 fun x_5 w2 =>
 New (zeroP P 72) 72 w2 fun out_6 w3 =>
 VLoop 0 [] w3 fun _ next7 w4 =>
 VJoin 1 (fun _ x_8 w5 =>
 Vif x_8 (
 Cl P F.strings_Builder_String #[out_6] w5 fun x_9 w6 =>
 R (.tuple #[x_9, (.int .i64 0)]) w6) (
 Cl P F.unstream_Reader_Step #[x_2, x_5] w5 fun x_10 w7 =>
 Ex x_10 0 fun x_11 =>
 Ex x_10 1 fun x_12 =>
 Bp .eql x_12 (.int .i64 3) fun x_13 =>
 Vif x_13 (
 R (.tuple #[(.string ⟨#[]⟩), (.int .i64 24)]) w7) (
 Bp .neq x_12 (.int .i64 0) fun x_14 =>
 Vif x_14 (
 R (.tuple #[(.string ⟨#[]⟩), x_12]) w7) (
 Bp .eql x_11 (.int .i64 1) fun x_15 =>
 Vif x_15 (
 Cl P F.unstream_Reader_Got #[x_2] w7 fun x_16 w8 =>
 Cl P F.block_Open #[x_16] w8 fun x_17 w9 =>
 Ex x_17 0 fun x_18 =>
 Ex x_17 1 fun x_19 =>
 Bp .neq x_19 (.int .i64 0) fun x_20 =>
 Vif x_20 (
 R (.tuple #[(.string ⟨#[]⟩), x_19]) w9) (
 Cl P F.strings_Builder_WriteString #[out_6, x_18] w9 fun x_21 w10 =>
 KE [x_2, x_5, out_6] [x_2, x_5, out_6] <| next7 w10)) (
 KE [x_2, x_5, out_6] [x_2, x_5, out_6] <| next7 w7)))))
 (fun J22 =>
 Cl P F.unstream_Reader_MayEnd #[x_2] w4 fun x_23 w11 =>
 Vif x_23 (
 Cl P F.bits_Reader_Left #[x_5] w11 fun x_24 w12 =>
 Bp .eql x_24 (.int .i64 0) fun x_25 =>
 KE [x_2, x_5, out_6] [x_2, x_5, out_6] <| J22 x_25 w12) (
 KE [x_2, x_5, out_6] [x_2, x_5, out_6] <| J22 (.bool false) w11)))
theorem Tie.unstream_With {unit_p0 s_p1 : Value} {w : World} {R : Value → World → Prop} (h : Vcf.unstream_With Tryz.prog unit_p0 s_p1 w R) : Cl Tryz.prog F.unstream_With #[unit_p0, s_p1] w R :=
  cl_of_vc (n := 59) (rs := [(.tmp 4), (.tmp 5)]) (h := (.s .z (.s .z (.s (.s .z (.i (.s .z .z) .z)) (.s .z (.s .z (.b (.l [] [6, 8, 9] (.b (.s (.j [30] [6, 8, 9] .z (.i (.s .z .z) .z)) (.s .z (.b (.s .z (.i (.s .z .z) (.s .z (.i (.s .z .z) (.s .z (.i (.s .z (.s (.s .z (.i (.s .z .z) .z)) .z)) .z)))))))))))))))))) (args := [unit_p0, s_p1]) (by kernel_rfl) Tryz.func16 rfl (by kernel_rfl) rfl rfl rfl (Eq.mp (by kernel_rfl) h)

/-- baler/crc.Table -/
def Vcf.crc_Table (P : Program) (w : World) (R : Value → World → Prop) : Prop   :=
 New (zeroP P 152) 152 w fun x_1 w1 =>
 New (zeroP P 152) 152 w1 fun out_2 w2 =>
 VLoop 1 [(.int .i64 0)] w2 fun _ next4 x_3 w3 =>
 Bp .lss x_3 (.int .i64 256) fun x_5 =>
 Vif x_5 (
 Ci .u32 x_3 fun x_6 =>
 Bp .shl x_6 (.int .u64 24) fun x_7 =>
 VLoop 2 [x_7, (.int .i64 0)] w3 fun _ next10 sum_8 x_9 w4 =>
 Bp .lss x_9 (.int .i64 8) fun x_11 =>
 Vif x_11 (
 Bp .shr sum_8 (.int .u64 31) fun x_12 =>
 Bp .shl sum_8 (.int .u64 1) fun x_13 =>
 Bp .mul x_12 (.int .u32 79764919) fun x_14 =>
 Bp .xor x_13 x_14 fun x_15 =>
 Bp .add x_9 (.int .i64 1) fun x_16 =>
 KE [x_1, out_2, x_3, x_3] [x_1, out_2, x_3, x_3] <| next10 x_15 x_16 w4) (
 Iaa 256 1 out_2 x_3 fun x_17 =>
 St x_17 sum_8 w4 fun w5 =>
 Bp .add x_3 (.int .i64 1) fun x_18 =>
 KE [x_1, out_2] [x_1, out_2] <| next4 x_18 w5)) (
 LdA 256 out_2 w3 fun x_19 =>
 StA 256 x_1 x_19 w3 fun w6 =>
 LdA 256 x_1 w6 fun x_20 =>
 R x_20 w6)
theorem Tie.crc_Table {w : World} {R : Value → World → Prop} (h : Vcf.crc_Table Tryz.prog w R) : Cl Tryz.prog F.crc_Table #[] w R :=
  cl_of_vc (n := 26) (rs := [(.cell 0 152)]) (h := (.s .z (.s .z (.s (.s .z (.b (.l [5] [0, 1] (.s .z (.s (.i .z .z) (.s (.b (.s .z (.s .z (.s (.s .z (.b (.l [3, 11] [0, 1, 2, 5] (.s .z (.s (.i .z .z) (.s (.b (.s .z .z)) .z)))))) .z)))) .z)))))) (.s .z .z))))) (args := []) (by kernel_rfl) Tryz.func98 rfl (by kernel_rfl) rfl rfl rfl (Eq.mp (by kernel_rfl) h)

end Go.Proofs.YtfkakgjonffecaaGreat
