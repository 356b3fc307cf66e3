/- Formulas of the program's functions, printed by a program of the prover's own (dec.py); each is tied to its code by the kernel. -/
import Derived.Test.YtlppejfnjhkbpaaGreatVc
import Derived.Test.YtlppejfnjhkbpaaGreatChecked
set_option linter.unusedVariables false
set_option maxRecDepth 1000000
namespace Go.Proofs.YtlppejfnjhkbpaaGreat
open Go Go.Vc
variable {w : World} {R : Value → World → Prop}

abbrev F.balerlaw22_UnstreamWith : Nat := 3
abbrev F.balerlaw22_UnstreamDecodes : Nat := 4
abbrev F.balerlaw22_none : Nat := 6
abbrev F.unstream_With : Nat := 7
abbrev F.balerref21_Unit : Nat := 8
abbrev F.balerref22_With : Nat := 9
abbrev F.unstream_Decode : Nat := 10
abbrev F.unstream_New : Nat := 11
abbrev F.bits_NewReader : Nat := 12
abbrev F.unstream_Reader_MayEnd : Nat := 13
abbrev F.unstream_Reader_Got : Nat := 14
abbrev F.bits_Reader_Left : Nat := 15
abbrev F.bits_Reader_At : Nat := 17
abbrev F.unstream_Reader_Step : Nat := 18
abbrev F.balerref20_Open : Nat := 21
abbrev F.balerref21_With : Nat := 22
abbrev F.strings_Builder_String : Nat := 23
abbrev F.block_Open : Nat := 24
abbrev F.strings_Builder_WriteString : Nat := 25
abbrev F.balerref01_Bits : Nat := 26
abbrev F.balerref22_begins : Nat := 27
abbrev F.balerref01_Number : Nat := 28
abbrev F.balerref22_one : Nat := 29
abbrev F.split_Room : Nat := 30
abbrev F.bits_Reader_end : Nat := 31
abbrev F.unstream_Reader_step : Nat := 33
abbrev F.balerref03_Decode : Nat := 34
abbrev F.balerref18_Of : Nat := 35
abbrev F.balerref02_Of : Nat := 36
abbrev F.balerref20_Write : Nat := 39
abbrev F.unbwt_Of : Nat := 43
abbrev F.rle_Decode : Nat := 44
abbrev F.crc_Of : Nat := 45
abbrev F.strings_Builder_copyCheck : Nat := 46
abbrev F.balerref01_Field : Nat := 47
abbrev F.balerref02_Stream : Nat := 48
abbrev F.balerref20_Of : Nat := 49
abbrev F.unstream_Reader_letter : Nat := 51
abbrev F.unstream_Reader_magic : Nat := 52
abbrev F.unstream_Reader_body : Nat := 53
abbrev F.unstream_Reader_sum : Nat := 54
abbrev F.balerref03_four : Nat := 55
abbrev F.balerref18_Links : Nat := 56
abbrev F.balerref02_Step : Nat := 57
abbrev F.unbwt_New : Nat := 64
abbrev F.unbwt_Inverter_Step : Nat := 65
abbrev F.unbwt_Inverter_Take : Nat := 66
abbrev F.rle_unpack : Nat := 67
abbrev F.rle_Decode_1 : Nat := 68
abbrev F.crc_New : Nat := 69
abbrev F.crc_Sum_Text : Nat := 70
abbrev F.crc_Sum_Value : Nat := 71
abbrev F.internal_abi_NoEscape : Nat := 72
abbrev F.balerref02_Combine : Nat := 73
abbrev F.balerref05_Read : Nat := 74
abbrev F.balerref14_Read : Nat := 75
abbrev F.balerref20_codes : Nat := 76
abbrev F.balerref14_Some : Nat := 77
abbrev F.balerref07_Decode : Nat := 78
abbrev F.balerref06_Decode : Nat := 79
abbrev F.picks_Reader_Picks : Nat := 80
abbrev F.bits_Reader_Get : Nat := 81
abbrev F.block_NewReader : Nat := 82
abbrev F.block_Reader_Step : Nat := 83
abbrev F.block_Reader_Done : Nat := 84
abbrev F.block_Reader_Got : Nat := 85
abbrev F.crc_Combine : Nat := 86
abbrev F.bits_Reader_Align : Nat := 87
abbrev F.balerref02_Bits : Nat := 88
abbrev F.balerref05_Symbols : Nat := 92
abbrev F.balerref05_Bits : Nat := 95
abbrev F.unbwt_Inverter_Done : Nat := 97
abbrev F.unbwt_Inverter_step : Nat := 98
abbrev F.crc_Table : Nat := 99
abbrev F.crc_Sum_Put : Nat := 100
abbrev F.balerref13_Read : Nat := 101
abbrev F.balerref14_readTables : Nat := 102
abbrev F.balerref10_Get : Nat := 103
abbrev F.balerref07_Reader_Put : Nat := 104
abbrev F.balerref05_Is : Nat := 105
abbrev F.balerref06_Touch : Nat := 106
abbrev F.slices_Clone_int_int : Nat := 107
abbrev F.bits_Reader_bit : Nat := 108
abbrev F.block_Reader_step : Nat := 109
abbrev F.balerref05_There : Nat := 112
abbrev F.balerref10_Codes : Nat := 118
abbrev F.unbwt_Inverter_begins : Nat := 119
abbrev F.crc_step : Nat := 120
abbrev F.balerref13_ones : Nat := 121
abbrev F.balerref11_Read : Nat := 122
abbrev F.balerref10_Whole : Nat := 123
abbrev F.balerref10_Begins : Nat := 124
abbrev F.balerref07_Reader_Count : Nat := 125
abbrev F.balerref07_Value : Nat := 126
abbrev F.block_Reader_begin : Nat := 127
abbrev F.block_Reader_symbols : Nat := 128
abbrev F.block_row_waits : Nat := 129
abbrev F.block_row_next : Nat := 130
abbrev F.block_Reader_symbol : Nat := 131
abbrev F.block_Reader_end : Nat := 132
abbrev F.balerref10_next : Nat := 138
abbrev F.balerref09_May : Nat := 139
abbrev F.balerref09_Share : Nat := 140
abbrev F.used_Read : Nat := 141
abbrev F.block_rowOf : Nat := 142
abbrev F.mtf_List_At : Nat := 143
abbrev F.code_Reader_Step : Nat := 144
abbrev F.block_row_told : Nat := 145
abbrev F.code_Reader_Done : Nat := 146
abbrev F.used_read : Nat := 152
abbrev F.bits_Reader_Seek : Nat := 153
abbrev F.code_NewReader : Nat := 154
abbrev F.zeros_NewReader : Nat := 155
abbrev F.mtf_New : Nat := 156
abbrev F.mtf_List_touch : Nat := 157
abbrev F.code_Reader_symbol : Nat := 158
abbrev F.picks_Reader_Done : Nat := 159
abbrev F.code_Reader_pick : Nat := 160
abbrev F.picks_Reader_Tables : Nat := 161
abbrev F.code_Reader_table : Nat := 162
abbrev F.zeros_Reader_Put : Nat := 163
abbrev F.used_marks : Nat := 167
abbrev F.used_listed : Nat := 168
abbrev F.delta_NewReader : Nat := 169
abbrev F.picks_NewReader : Nat := 170
abbrev F.zeros_may : Nat := 171
abbrev F.used_Is : Nat := 172
abbrev F.canon_Code_Get : Nat := 173
abbrev F.picks_Reader_Step : Nat := 174
abbrev F.delta_Reader_Step : Nat := 175
abbrev F.delta_Reader_Done : Nat := 176
abbrev F.canon_New : Nat := 177
abbrev F.delta_Reader_Lens : Nat := 178
abbrev F.zeros_Reader_more : Nat := 179
abbrev F.zeros_Reader_Count : Nat := 180
abbrev F.delta_sized : Nat := 182
abbrev F.picks_fresh : Nat := 183
abbrev F.canon_Code_get : Nat := 184
abbrev F.picks_Reader_pick : Nat := 185
abbrev F.picks_Reader_head : Nat := 186
abbrev F.delta_Reader_step : Nat := 187
abbrev F.canon_whole : Nat := 188
abbrev F.picks_order_touch : Nat := 189
abbrev F.picks_Reader_fail : Nat := 190
abbrev F.picks_tabled : Nat := 191
abbrev F.delta_Reader_turned : Nat := 192
abbrev F.lens_Share : Nat := 193
abbrev F.slices_Contains_int_int : Nat := 194
abbrev F.delta_length : Nat := 195
abbrev F.lens_between : Nat := 196
abbrev F.slices_Index_int_int : Nat := 197
abbrev F.slices_ContainsFunc_int_int : Nat := 198
abbrev F.lens_between_1 : Nat := 199
abbrev F.slices_IndexFunc_int_int : Nat := 200

def Vcf.balerlaw22_UnstreamWith (P : Program) (a0 a1 : Value) (w : World) (R : Value → World → Prop) : Prop :=
 VJoin 1 (fun _ x1 w1=>Vif x1 (Cl P F.balerlaw22_none #[] w1 fun x2 w2=>R x2 w2) (Cl P F.unstream_With #[a0, a1] w1 fun x3 w3=>Ex x3 0 fun x4=>Ex x3 1 fun x5=>Cl P F.balerref21_Unit #[a0] w3 fun x6 w4=>Up .not x6 fun x7=>Vif x7 (Bp .eql x5 (.int .i64 1) fun x8=>Vif x8 (Bp .eql x4 (.string ⟨#[]⟩) fun x9=>Vif x9 (Cl P F.balerlaw22_none #[] w4 fun x10 w5=>R x10 w5) (R (.bool false) w4)) (R (.bool false) w4)) (Cl P F.balerref22_With #[a0, a1] w4 fun x11 w6=>New (zeroP P 28) 28 w6 fun w_12 w7=>StA 2 w_12 x11 w7 fun w8=>Fo 1 w_12 fun x13=>Ld x13 w8 fun x14=>Bp .eql x5 x14 fun x15=>Vif x15 (Fo 0 w_12 fun x16=>Ld x16 w8 fun x17=>Bp .eql x4 x17 fun x18=>Vif x18 (Cl P F.balerlaw22_none #[] w8 fun x19 w9=>R x19 w9) (R (.bool false) w8)) (R (.bool false) w8)))) (fun J20=>Lns a1 fun x21=>Bp .gtr x21 (.int .i64 250) fun x22=>Vif x22 (KE [a0, a1] [a0, a1]<|J20 (.bool true) w) (Bp .gtr a0 (.int .i64 1000) fun x23=>Vif x23 (Bp .leq a0 (.int .i64 100000) fun x24=>KE [a0, a1] [a0, a1]<|J20 x24 w) (KE [a0, a1] [a0, a1]<|J20 (.bool false) w)))
theorem Tie.balerlaw22_UnstreamWith {a0 a1 : Value} (h : Vcf.balerlaw22_UnstreamWith Tryz.prog a0 a1 w R) : Cl Tryz.prog F.balerlaw22_UnstreamWith #[a0, a1] w R :=
  cl_of_vc (n := 54) (rs := [(.tmp 4)]) (h := (.s .z (.s (.j [18] [0, 1] .z (.i (.s .z .z) .z)) (.s .z (.s (.s .z (.i (.s .z .z) .z)) (.s .z (.s .z .z))))))) (args := [a0, a1]) (by kernel_rfl) Tryz.func3 rfl (by kernel_rfl) rfl rfl rfl (Eq.mp (by kernel_rfl) h)

def Vcf.balerlaw22_UnstreamDecodes (P : Program) (a0 : Value) (w : World) (R : Value → World → Prop) : Prop :=
 Lns a0 fun x1=>Bp .gtr x1 (.int .i64 120) fun x2=>Vif x2 (Cl P F.balerlaw22_none #[] w fun x3 w1=>R x3 w1) (Cl P F.unstream_Decode #[a0] w fun x4 w2=>Ex x4 0 fun x5=>Ex x4 1 fun x6=>Cl P F.balerref22_With #[(.int .i64 100000), a0] w2 fun x7 w3=>New (zeroP P 28) 28 w3 fun w_8 w4=>StA 2 w_8 x7 w4 fun w5=>Fo 1 w_8 fun x9=>Ld x9 w5 fun x10=>Bp .eql x6 x10 fun x11=>Vif x11 (Fo 0 w_8 fun x12=>Ld x12 w5 fun x13=>Bp .eql x5 x13 fun x14=>Vif x14 (Cl P F.balerlaw22_none #[] w5 fun x15 w6=>R x15 w6) (R (.bool false) w5)) (R (.bool false) w5))
theorem Tie.balerlaw22_UnstreamDecodes {a0 : Value} (h : Vcf.balerlaw22_UnstreamDecodes Tryz.prog a0 w R) : Cl Tryz.prog F.balerlaw22_UnstreamDecodes #[a0] w R :=
  cl_of_vc (n := 30) (rs := [(.tmp 2)]) (h := (.s .z (.s (.s .z (.i (.s .z .z) .z)) (.s .z (.s .z (.s .z .z)))))) (args := [a0]) (by kernel_rfl) Tryz.func4 rfl (by kernel_rfl) rfl rfl rfl (Eq.mp (by kernel_rfl) h)

def Vcf.unstream_With (P : Program) (a0 a1 : Value) (w : World) (R : Value → World → Prop) : Prop :=
 Cl P F.unstream_New #[a0] w fun x1 w1=>Ex x1 0 fun x2=>Ex x1 1 fun x3=>Bp .neq x3 (.int .i64 0) fun x4=>Vif x4 (R (.tuple #[(.string ⟨#[]⟩), x3]) w1) (Cl P F.bits_NewReader #[a1] w1 fun x5 w2=>New (zeroP P 55) 55 w2 fun out_6 w3=>VLoop 0 [] w3 fun _ next7 w4=>VJoin 1 (fun _ x8 w5=>Vif x8 (Cl P F.strings_Builder_String #[out_6] w5 fun x9 w6=>R (.tuple #[x9, (.int .i64 0)]) w6) (Cl P F.unstream_Reader_Step #[x2, x5] w5 fun x10 w7=>Ex x10 0 fun x11=>Ex x10 1 fun x12=>Bp .eql x12 (.int .i64 3) fun x13=>Vif x13 (R (.tuple #[(.string ⟨#[]⟩), (.int .i64 24)]) w7) (Bp .neq x12 (.int .i64 0) fun x14=>Vif x14 (R (.tuple #[(.string ⟨#[]⟩), x12]) w7) (Bp .eql x11 (.int .i64 1) fun x15=>Vif x15 (Cl P F.unstream_Reader_Got #[x2] w7 fun x16 w8=>Cl P F.block_Open #[x16] w8 fun x17 w9=>Ex x17 0 fun x18=>Ex x17 1 fun x19=>Bp .neq x19 (.int .i64 0) fun x20=>Vif x20 (R (.tuple #[(.string ⟨#[]⟩), x19]) w9) (Cl P F.strings_Builder_WriteString #[out_6, x18] w9 fun x21 w10=>KE [x2, x5, out_6] [x2, x5, out_6]<|next7 w10)) (KE [x2, x5, out_6] [x2, x5, out_6]<|next7 w7))))) (fun J22=>Cl P F.unstream_Reader_MayEnd #[x2] w4 fun x23 w11=>Vif x23 (Cl P F.bits_Reader_Left #[x5] w11 fun x24 w12=>Bp .eql x24 (.int .i64 0) fun x25=>KE [x2, x5, out_6] [x2, x5, out_6]<|J22 x25 w12) (KE [x2, x5, out_6] [x2, x5, out_6]<|J22 (.bool false) w11)))
theorem Tie.unstream_With {a0 a1 : Value} (h : Vcf.unstream_With Tryz.prog a0 a1 w R) : Cl Tryz.prog F.unstream_With #[a0, a1] w R :=
  cl_of_vc (n := 59) (rs := [(.tmp 4), (.tmp 5)]) (h := (.s .z (.s .z (.s (.s .z (.i (.s .z .z) .z)) (.s .z (.s .z (.b (.l [] [6, 8, 9] (.b (.s (.j [30] [6, 8, 9] .z (.i (.s .z .z) .z)) (.s .z (.b (.s .z (.i (.s .z .z) (.s .z (.i (.s .z .z) (.s .z (.i (.s .z (.s (.s .z (.i (.s .z .z) .z)) .z)) .z)))))))))))))))))) (args := [a0, a1]) (by kernel_rfl) Tryz.func7 rfl (by kernel_rfl) rfl rfl rfl (Eq.mp (by kernel_rfl) h)

def Vcf.balerref21_Unit (P : Program) (a0 : Value) (w : World) (R : Value → World → Prop) : Prop :=
 Bp .geq a0 (.int .i64 24) fun x1=>Vif x1 (Bp .leq a0 (.int .i64 100000) fun x2=>R x2 w) (R (.bool false) w)
theorem Tie.balerref21_Unit {a0 : Value} (h : Vcf.balerref21_Unit Tryz.prog a0 w R) : Cl Tryz.prog F.balerref21_Unit #[a0] w R :=
  cl_of_vc (n := 9) (rs := [(.tmp 2)]) (h := (.s .z (.s .z .z))) (args := [a0]) (by kernel_rfl) Tryz.func8 rfl (by kernel_rfl) rfl rfl rfl (Eq.mp (by kernel_rfl) h)

def Vcf.balerref22_With (P : Program) (a0 a1 : Value) (w : World) (R : Value → World → Prop) : Prop :=
 New (zeroP P 28) 28 w fun x1 w1=>Cl P F.balerref01_Bits #[a1] w1 fun x2 w2=>Lns a1 fun x3=>Bp .add x3 (.int .i64 1) fun x4=>VLoop 3 [(.string ⟨#[]⟩), (.int .i64 0), (.int .i64 0)] w2 fun _ next8 out_5 at_6 x7 w3=>Bp .lss x7 x4 fun x9=>Vif x9 (Sst x2 (some at_6) none fun x10=>Cl P F.balerref22_begins #[x10] w3 fun x11 w4=>Bp .neq x11 (.int .i64 0) fun x12=>Vif x12 (Bd P 28 #[(1, x11)] w4 fun x13=>StA 2 x1 x13 w4 fun w5=>LdA 2 x1 w5 fun x14=>R x14 w5) (Bp .add at_6 (.int .i64 24) fun x15=>Bp .add at_6 (.int .i64 32) fun x16=>Sst x2 (some x15) (some x16) fun x17=>Cl P F.balerref01_Number #[x17] w4 fun x18 w6=>Ci .i64 x18 fun x19=>Bp .sub x19 (.int .i64 48) fun x20=>Bp .add at_6 (.int .i64 32) fun x21=>Sst x2 (some x21) none fun x22=>Bp .mul x20 a0 fun x23=>Cl P F.balerref22_one #[x22, x23] w6 fun x24 w7=>New (zeroP P 66) 66 w7 fun x25 w8=>StA 3 x25 x24 w8 fun w9=>Fo 2 x25 fun x26=>Ld x26 w9 fun x27=>Bp .neq x27 (.int .i64 0) fun x28=>Vif x28 (Fo 2 x25 fun x29=>Ld x29 w9 fun x30=>Bd P 28 #[(1, x30)] w9 fun x31=>StA 2 x1 x31 w9 fun w10=>LdA 2 x1 w10 fun x32=>R x32 w10) (Fo 0 x25 fun x33=>Ld x33 w9 fun x34=>Bp .add out_5 x34 fun x35=>Bp .add at_6 (.int .i64 32) fun x36=>Fo 1 x25 fun x37=>Ld x37 w9 fun x38=>Bp .add x36 x38 fun x39=>Bp .add x39 (.int .i64 7) fun x40=>Bp .quo x40 (.int .i64 8) fun x41=>Bp .mul x41 (.int .i64 8) fun x42=>Lns x2 fun x43=>Bp .eql x42 x43 fun x44=>Vif x44 (Bd P 28 #[(0, x35)] w9 fun x45=>StA 2 x1 x45 w9 fun w11=>LdA 2 x1 w11 fun x46=>R x46 w11) (Bp .add x7 (.int .i64 1) fun x47=>KE [a0, x1, x2, x4] [a0, x1, x2, x4]<|next8 x35 x42 x47 w9)))) (Bd P 28 #[(1, (.int .i64 24))] w3 fun x48=>StA 2 x1 x48 w3 fun w12=>LdA 2 x1 w12 fun x49=>R x49 w12)
theorem Tie.balerref22_With {a0 a1 : Value} (h : Vcf.balerref22_With Tryz.prog a0 a1 w R) : Cl Tryz.prog F.balerref22_With #[a0, a1] w R :=
  cl_of_vc (n := 69) (rs := [(.cell 4 28)]) (h := (.s .z (.s .z (.s .z (.s .z (.s (.s .z (.b (.l [6, 7, 16] [0, 4, 5, 15] (.s .z (.s (.i .z .z) (.s (.b (.s (.s .z (.s .z (.i (.s .z .z) .z))) (.s .z (.s .z (.s (.s .z (.i (.s .z .z) .z)) (.s .z (.s .z (.s .z (.i (.s .z .z) .z))))))))) .z)))))) (.s .z .z))))))) (args := [a0, a1]) (by kernel_rfl) Tryz.func9 rfl (by kernel_rfl) rfl rfl rfl (Eq.mp (by kernel_rfl) h)

def Vcf.unstream_Decode (P : Program) (a0 : Value) (w : World) (R : Value → World → Prop) : Prop :=
 Cl P F.unstream_With #[(.int .i64 100000), a0] w fun x1 w1=>Ex x1 0 fun x2=>Ex x1 1 fun x3=>R (.tuple #[x2, x3]) w1
theorem Tie.unstream_Decode {a0 : Value} (h : Vcf.unstream_Decode Tryz.prog a0 w R) : Cl Tryz.prog F.unstream_Decode #[a0] w R :=
  cl_of_vc (n := 8) (rs := [(.tmp 2), (.tmp 3)]) (h := (.s .z (.s .z .z))) (args := [a0]) (by kernel_rfl) Tryz.func10 rfl (by kernel_rfl) rfl rfl rfl (Eq.mp (by kernel_rfl) h)

def Vcf.unstream_New (P : Program) (a0 : Value) (w : World) (R : Value → World → Prop) : Prop :=
 Cl P F.split_Room #[(.int .i64 1), a0] w fun x1 w1=>Ex x1 0 fun x2=>Ex x1 1 fun x3=>Bp .neq x3 (.int .i64 0) fun x4=>Vif x4 (R (.tuple #[(.pointer none), x3]) w1) (Bd P 73 #[(0, a0)] w1 fun x5=>New x5 73 w1 fun x6 w2=>R (.tuple #[x6, (.int .i64 0)]) w2)
theorem Tie.unstream_New {a0 : Value} (h : Vcf.unstream_New Tryz.prog a0 w R) : Cl Tryz.prog F.unstream_New #[a0] w R :=
  cl_of_vc (n := 17) (rs := [(.tmp 2), (.tmp 3)]) (h := (.s .z (.s (.s .z (.s .z (.i (.s .z .z) .z))) (.s .z .z)))) (args := [a0]) (by kernel_rfl) Tryz.func11 rfl (by kernel_rfl) rfl rfl rfl (Eq.mp (by kernel_rfl) h)

def Vcf.bits_NewReader (P : Program) (a0 : Value) (w : World) (R : Value → World → Prop) : Prop :=
 Bd P 75 #[(0, a0)] w fun x1=>New x1 75 w fun x2 w1=>R x2 w1
theorem Tie.bits_NewReader {a0 : Value} (h : Vcf.bits_NewReader Tryz.prog a0 w R) : Cl Tryz.prog F.bits_NewReader #[a0] w R :=
  cl_of_vc (n := 6) (rs := [(.tmp 2)]) (h := (.s .z (.s .z .z))) (args := [a0]) (by kernel_rfl) Tryz.func12 rfl (by kernel_rfl) rfl rfl rfl (Eq.mp (by kernel_rfl) h)

def Vcf.unstream_Reader_MayEnd (P : Program) (a0 : Value) (w : World) (R : Value → World → Prop) : Prop :=
 Bn P 73 true a0 (.pointer none) fun x1=>Vif x1 (Nc a0<|Fo 9 a0 fun x2=>Ld x2 w fun x3=>Vif x3 (Nc a0<|Fo 1 a0 fun x4=>Ld x4 w fun x5=>Bp .eql x5 (.int .i64 0) fun x6=>Vif x6 (Nc a0<|Fo 2 a0 fun x7=>Ld x7 w fun x8=>Bp .eql x8 (.int .i64 0) fun x9=>Vif x9 (Nc a0<|Fo 10 a0 fun x10=>Ld x10 w fun x11=>Bp .eql x11 (.int .i64 0) fun x12=>R x12 w) (R (.bool false) w)) (R (.bool false) w)) (R (.bool false) w)) (R (.bool false) w)
theorem Tie.unstream_Reader_MayEnd {a0 : Value} (h : Vcf.unstream_Reader_MayEnd Tryz.prog a0 w R) : Cl Tryz.prog F.unstream_Reader_MayEnd #[a0] w R :=
  cl_of_vc (n := 32) (rs := [(.tmp 2)]) (h := (.s .z (.s .z .z))) (args := [a0]) (by kernel_rfl) Tryz.func13 rfl (by kernel_rfl) rfl rfl rfl (Eq.mp (by kernel_rfl) h)

def Vcf.unstream_Reader_Got (P : Program) (a0 : Value) (w : World) (R : Value → World → Prop) : Prop :=
 New (zeroP P 40) 40 w fun x1 w1=>Bn P 73 false a0 (.pointer none) fun x2=>Vif x2 (Bd P 40 #[] w1 fun x3=>StA 3 x1 x3 w1 fun w2=>LdA 3 x1 w2 fun x4=>R x4 w2) (Nc a0<|Fo 5 a0 fun x5=>LdA 3 x5 w1 fun x6=>StA 3 x1 x6 w1 fun w3=>LdA 3 x1 w3 fun x7=>R x7 w3)
theorem Tie.unstream_Reader_Got {a0 : Value} (h : Vcf.unstream_Reader_Got Tryz.prog a0 w R) : Cl Tryz.prog F.unstream_Reader_Got #[a0] w R :=
  cl_of_vc (n := 10) (rs := [(.cell 2 40)]) (h := (.s .z (.s (.s .z (.i (.s .z .z) .z)) (.s .z .z)))) (args := [a0]) (by kernel_rfl) Tryz.func14 rfl (by kernel_rfl) rfl rfl rfl (Eq.mp (by kernel_rfl) h)

def Vcf.bits_Reader_Left (P : Program) (a0 : Value) (w : World) (R : Value → World → Prop) : Prop :=
 Bn P 75 false a0 (.pointer none) fun x1=>Vif x1 (R (.int .i64 0) w) (Dr w fun w1=>Cl P F.bits_Reader_end #[a0] w1 fun x2 w2=>Nc a0<|Fo 2 a0 fun x3=>Ld x3 w2 fun x4=>Rk (fun w K=>Ld x3 w fun x5=>K x5) x4 w1<|Bp .sub x2 x4 fun x7=>R x7 w2)
theorem Tie.bits_Reader_Left {a0 : Value} (h : Vcf.bits_Reader_Left Tryz.prog a0 w R) : Cl Tryz.prog F.bits_Reader_Left #[a0] w R :=
  cl_of_vc (n := 12) (rs := [(.tmp 2)]) (h := (.s .z (.s (.s .z (.i (.s .z .z) .z)) (.s (.r (.staged [0, 1, 0, 4, 12, 28, 63, 127])) .z)))) (args := [a0]) (by kernel_rfl) Tryz.func15 rfl (by kernel_rfl) rfl rfl rfl (Eq.mp (by kernel_rfl) h)

def Vcf.bits_Reader_At (P : Program) (a0 : Value) (w : World) (R : Value → World → Prop) : Prop :=
 Bn P 75 false a0 (.pointer none) fun x1=>Vif x1 (R (.int .i64 0) w) (Nc a0<|Fo 2 a0 fun x2=>Ld x2 w fun x3=>R x3 w)
theorem Tie.bits_Reader_At {a0 : Value} (h : Vcf.bits_Reader_At Tryz.prog a0 w R) : Cl Tryz.prog F.bits_Reader_At #[a0] w R :=
  cl_of_vc (n := 9) (rs := [(.tmp 2)]) (h := (.s .z (.s (.s .z (.i (.s .z .z) .z)) (.s .z .z)))) (args := [a0]) (by kernel_rfl) Tryz.func17 rfl (by kernel_rfl) rfl rfl rfl (Eq.mp (by kernel_rfl) h)

def Vcf.unstream_Reader_Step (P : Program) (a0 a1 : Value) (w : World) (R : Value → World → Prop) : Prop :=
 VJoin 1 (fun _ x1 w1=>Vif x1 (R (.tuple #[(.int .i64 0), (.int .i64 7)]) w1) (Nc a0<|Fo 10 a0 fun x2=>Ld x2 w1 fun x3=>Bp .neq x3 (.int .i64 0) fun x4=>Vif x4 (Dr w1 fun w2=>Nc a0<|Fo 10 a0 fun x5=>Ld x5 w2 fun x6=>R (.tuple #[(.int .i64 0), x6]) w2) (Cl P F.unstream_Reader_step #[a0, a1] w1 fun x8 w3=>Ex x8 0 fun x9=>Ex x8 1 fun x10=>Bp .neq x10 (.int .i64 3) fun x11=>Vif x11 (Nc a0<|Fo 10 a0 fun x12=>St x12 x10 w3 fun w4=>R (.tuple #[x9, x10]) w4) (R (.tuple #[x9, x10]) w3)))) (fun J13=>Bn P 73 false a0 (.pointer none) fun x14=>Vif x14 (KE [a0, a1] [a0, a1]<|J13 (.bool true) w) (Bn P 75 false a1 (.pointer none) fun x15=>KE [a0, a1] [a0, a1]<|J13 x15 w))
theorem Tie.unstream_Reader_Step {a0 a1 : Value} (h : Vcf.unstream_Reader_Step Tryz.prog a0 a1 w R) : Cl Tryz.prog F.unstream_Reader_Step #[a0, a1] w R :=
  cl_of_vc (n := 39) (rs := [(.tmp 4), (.tmp 5)]) (h := (.s .z (.s (.b (.j [8] [0, 1] .z (.i (.s .z .z) (.s .z (.i (.s (.r (.staged [0, 1, 3, 7, 0, 31])) .z) .z))))) (.s .z (.s (.s .z (.i .z .z)) (.s .z .z)))))) (args := [a0, a1]) (by kernel_rfl) Tryz.func18 rfl (by kernel_rfl) rfl rfl rfl (Eq.mp (by kernel_rfl) h)

def Vcf.balerref20_Open (P : Program) (a0 : Value) (w : World) (R : Value → World → Prop) : Prop :=
 New a0 49 w fun g_1 w1=>Fo 0 g_1 fun x2=>Ld x2 w1 fun x3=>Bp .eql x3 (.string ⟨#[]⟩) fun x4=>Vif x4 (R (.tuple #[(.string ⟨#[]⟩), (.int .i64 1)]) w1) (VJoin 1 (fun _ x5 w2=>Vif x5 (R (.tuple #[(.string ⟨#[]⟩), (.int .i64 23)]) w2) (Fo 0 g_1 fun x6=>Ld x6 w2 fun x7=>Fo 1 g_1 fun x8=>Ld x8 w2 fun x9=>Cl P F.balerref18_Of #[x7, x9] w2 fun x10 w3=>Cl P F.balerref03_Decode #[x10] w3 fun x11 w4=>Ex x11 0 fun x12=>Ex x11 1 fun x13=>Bp .neq x13 (.int .i64 0) fun x14=>Vif x14 (R (.tuple #[(.string ⟨#[]⟩), (.int .i64 25)]) w4) (Dr w4 fun w5=>Cl P F.balerref02_Of #[x12] w5 fun x15 w6=>Fo 2 g_1 fun x16=>Ld x16 w6 fun x17=>Rk (fun w K=>Ld x16 w fun x18=>K x18) x17 w5<|Bp .neq x15 x17 fun x20=>Vif x20 (R (.tuple #[(.string ⟨#[]⟩), (.int .i64 21)]) w6) (R (.tuple #[x12, (.int .i64 0)]) w6)))) (fun J21=>Fo 1 g_1 fun x22=>Ld x22 w1 fun x23=>Bp .lss x23 (.int .i64 0) fun x24=>Vif x24 (KE [g_1] [g_1]<|J21 (.bool true) w1) (Fo 1 g_1 fun x25=>Ld x25 w1 fun x26=>Fo 0 g_1 fun x27=>Ld x27 w1 fun x28=>Lns x28 fun x29=>Bp .geq x26 x29 fun x30=>KE [g_1] [g_1]<|J21 x30 w1)))
theorem Tie.balerref20_Open {a0 : Value} (h : Vcf.balerref20_Open Tryz.prog a0 w R) : Cl Tryz.prog F.balerref20_Open #[a0] w R :=
  cl_of_vc (n := 37) (rs := [(.tmp 2), (.tmp 3)]) (h := (.s .z (.s (.s .z (.i (.s .z .z) .z)) (.s (.j [19] [1] .z (.i (.s .z .z) .z)) (.s .z (.s (.s .z (.i (.s .z .z) .z)) (.s (.s (.r (.staged [0, 1, 0, 4, 15])) (.i (.s .z .z) .z)) (.s .z .z)))))))) (args := [a0]) (by kernel_rfl) Tryz.func21 rfl (by kernel_rfl) rfl rfl rfl (Eq.mp (by kernel_rfl) h)

def Vcf.strings_Builder_String (P : Program) (a0 : Value) (w : World) (R : Value → World → Prop) : Prop :=
 Dr w fun w1=>Nc a0<|Fo 1 a0 fun x1=>Ld x1 w1 fun x2=>Usd P #[53] 87 #[x2] w1 fun x4 w2=>Nc a0<|Fo 1 a0 fun x5=>Ld x5 w2 fun x6=>Rk (fun w K=>Ld x5 w fun x7=>K x7) x6 w1<|Lnl x6 fun x9=>Rk (fun w K=>Lnl x6 fun x10=>K x10) x9 w1<|Ust P #[87, 3] 9 #[x4, x9] w2 fun x12 w3=>R x12 w3
theorem Tie.strings_Builder_String {a0 : Value} (h : Vcf.strings_Builder_String Tryz.prog a0 w R) : Cl Tryz.prog F.strings_Builder_String #[a0] w R :=
  cl_of_vc (n := 14) (rs := [(.tmp 2)]) (h := (.s .z (.s (.r (.staged [0, 1, 3, 7, 15, 0, 32, 96, 224, 480, 1023, 2047])) .z))) (args := [a0]) (by kernel_rfl) Tryz.func23 rfl (by kernel_rfl) rfl rfl rfl (Eq.mp (by kernel_rfl) h)

def Vcf.block_Open (P : Program) (a0 : Value) (w : World) (R : Value → World → Prop) : Prop :=
 New a0 40 w fun g_1 w1=>Fo 0 g_1 fun x2=>Ld x2 w1 fun x3=>Fo 1 g_1 fun x4=>Ld x4 w1 fun x5=>Cl P F.unbwt_Of #[x3, x5] w1 fun x6 w2=>Ex x6 0 fun x7=>Ex x6 1 fun x8=>Bp .neq x8 (.int .i64 0) fun x9=>Vif x9 (R (.tuple #[(.string ⟨#[]⟩), x8]) w2) (Cl P F.rle_Decode #[x7] w2 fun x10 w3=>Ex x10 0 fun x11=>Ex x10 1 fun x12=>Bp .neq x12 (.int .i64 0) fun x13=>Vif x13 (R (.tuple #[(.string ⟨#[]⟩), (.int .i64 25)]) w3) (Dr w3 fun w4=>Cl P F.crc_Of #[x11] w4 fun x14 w5=>Fo 2 g_1 fun x15=>Ld x15 w5 fun x16=>Rk (fun w K=>Ld x15 w fun x17=>K x17) x16 w4<|Bp .neq x14 x16 fun x19=>Vif x19 (R (.tuple #[(.string ⟨#[]⟩), (.int .i64 21)]) w5) (R (.tuple #[x11, (.int .i64 0)]) w5)))
theorem Tie.block_Open {a0 : Value} (h : Vcf.block_Open Tryz.prog a0 w R) : Cl Tryz.prog F.block_Open #[a0] w R :=
  cl_of_vc (n := 33) (rs := [(.tmp 2), (.tmp 3)]) (h := (.s .z (.s .z (.s (.s .z (.i (.s .z .z) .z)) (.s .z (.s (.b (.s .z (.i (.s .z .z) (.s (.r (.staged [0, 1, 0, 4, 15, 31])) (.i (.s .z .z) .z))))) (.s .z .z))))))) (args := [a0]) (by kernel_rfl) Tryz.func24 rfl (by kernel_rfl) rfl rfl rfl (Eq.mp (by kernel_rfl) h)

def Vcf.strings_Builder_WriteString (P : Program) (a0 a1 : Value) (w : World) (R : Value → World → Prop) : Prop :=
 Cl P F.strings_Builder_copyCheck #[a0] w fun x1 w1=>Nc a0<|Fo 1 a0 fun x2=>Ld x2 w1 fun x3=>Ap P #[53, 9] 53 #[x3, a1] w1 fun x4 w2=>Nc a0<|Fo 1 a0 fun x5=>St x5 x4 w2 fun w3=>Lns a1 fun x6=>R (.tuple #[x6, .nilIface]) w3
theorem Tie.strings_Builder_WriteString {a0 a1 : Value} (h : Vcf.strings_Builder_WriteString Tryz.prog a0 a1 w R) : Cl Tryz.prog F.strings_Builder_WriteString #[a0, a1] w R :=
  cl_of_vc (n := 19) (rs := [(.tmp 4), (.tmp 5)]) (h := (.s .z (.s .z (.s .z (.s .z .z))))) (args := [a0, a1]) (by kernel_rfl) Tryz.func25 rfl (by kernel_rfl) rfl rfl rfl (Eq.mp (by kernel_rfl) h)

def Vcf.balerref01_Bits (P : Program) (a0 : Value) (w : World) (R : Value → World → Prop) : Prop :=
 VLoop 2 [(.string ⟨#[]⟩), (.int .i64 0)] w fun _ next3 out_1 i_2 w1=>Lns a0 fun x4=>Bp .lss i_2 x4 fun x5=>Vif x5 (Ixs a0 i_2 fun x6=>Ci .u32 x6 fun x7=>Cl P F.balerref01_Field #[x7, (.int .i64 8)] w1 fun x8 w2=>Bp .add out_1 x8 fun x9=>Bp .add i_2 (.int .i64 1) fun x10=>KE [a0] [a0]<|next3 x9 x10 w2) (R out_1 w1)
theorem Tie.balerref01_Bits {a0 : Value} (h : Vcf.balerref01_Bits Tryz.prog a0 w R) : Cl Tryz.prog F.balerref01_Bits #[a0] w R :=
  cl_of_vc (n := 19) (rs := [(.tmp 2)]) (h := (.s .z (.s .z (.s (.s .z (.b (.l [3, 4] [0] (.s (.s .z (.i .z .z)) (.s (.b .z) .z))))) (.s .z .z))))) (args := [a0]) (by kernel_rfl) Tryz.func26 rfl (by kernel_rfl) rfl rfl rfl (Eq.mp (by kernel_rfl) h)

def Vcf.balerref22_begins (P : Program) (a0 : Value) (w : World) (R : Value → World → Prop) : Prop :=
 Cl P F.balerref01_Bits #[(.string ⟨#[66, 90, 104]⟩)] w fun x1 w1=>VLoop 1 [(.int .i64 0)] w1 fun _ next3 x2 w2=>Bp .lss x2 (.int .i64 4) fun x4=>Vif x4 (Lns a0 fun x5=>Bp .mul (.int .i64 8) x2 fun x6=>Bp .add x6 (.int .i64 8) fun x7=>Bp .lss x5 x7 fun x8=>Vif x8 (R (.int .i64 24) w2) (Bp .mul (.int .i64 8) x2 fun x9=>Bp .mul (.int .i64 8) x2 fun x10=>Bp .add x10 (.int .i64 8) fun x11=>Sst a0 (some x9) (some x11) fun x12=>VJoin 1 (fun _ x13 w3=>Vif x13 (R (.int .i64 20) w3) (VJoin 1 (fun _ x14 w4=>Vif x14 (R (.int .i64 20) w4) (Bp .add x2 (.int .i64 1) fun x15=>KE [a0, x1] [a0, x1]<|next3 x15 w4)) (fun J16=>Bp .eql x2 (.int .i64 3) fun x17=>Vif x17 (Cl P F.balerref01_Number #[x12] w3 fun x18 w5=>Bp .lss x18 (.int .u32 49) fun x19=>Vif x19 (KE [a0, x1, x2] [a0, x1, x2]<|J16 (.bool true) w5) (Cl P F.balerref01_Number #[x12] w5 fun x20 w6=>Bp .gtr x20 (.int .u32 57) fun x21=>KE [a0, x1, x2] [a0, x1, x2]<|J16 x21 w6)) (KE [a0, x1, x2] [a0, x1, x2]<|J16 (.bool false) w3)))) (fun J22=>Bp .lss x2 (.int .i64 3) fun x23=>Vif x23 (Bp .mul (.int .i64 8) x2 fun x24=>Bp .mul (.int .i64 8) x2 fun x25=>Bp .add x25 (.int .i64 8) fun x26=>Sst x1 (some x24) (some x26) fun x27=>Bp .neq x12 x27 fun x28=>KE [a0, x1, x2, x12, x2] [a0, x1, x2, x12, x2]<|J22 x28 w2) (KE [a0, x1, x2, x12, x2] [a0, x1, x2, x12, x2]<|J22 (.bool false) w2)))) (R (.int .i64 0) w2)
theorem Tie.balerref22_begins {a0 : Value} (h : Vcf.balerref22_begins Tryz.prog a0 w R) : Cl Tryz.prog F.balerref22_begins #[a0] w R :=
  cl_of_vc (n := 49) (rs := [(.tmp 2)]) (h := (.s .z (.s .z (.s (.s .z (.b (.l [7] [0, 3] (.s .z (.s (.i .z .z) (.s (.b (.s .z (.s (.s .z (.i (.s .z .z) .z)) (.s .z (.s (.j [35] [0, 3, 4, 5, 7] .z (.i (.s .z .z) .z)) (.j [47] [0, 3, 7] .z (.i (.s .z .z) .z))))))) .z)))))) (.s .z .z))))) (args := [a0]) (by kernel_rfl) Tryz.func27 rfl (by kernel_rfl) rfl rfl rfl (Eq.mp (by kernel_rfl) h)

def Vcf.balerref01_Number (P : Program) (a0 : Value) (w : World) (R : Value → World → Prop) : Prop :=
 VLoop 2 [(.int .u32 0), (.int .i64 0)] w fun _ next3 v_1 i_2 w1=>Lns a0 fun x4=>Bp .lss i_2 x4 fun x5=>Vif x5 (Bp .mul (.int .u32 2) v_1 fun x6=>Ixs a0 i_2 fun x7=>Bp .sub x7 (.int .u8 48) fun x8=>Ci .u32 x8 fun x9=>Bp .add x6 x9 fun x10=>Bp .add i_2 (.int .i64 1) fun x11=>KE [a0] [a0]<|next3 x10 x11 w1) (R v_1 w1)
theorem Tie.balerref01_Number {a0 : Value} (h : Vcf.balerref01_Number Tryz.prog a0 w R) : Cl Tryz.prog F.balerref01_Number #[a0] w R :=
  cl_of_vc (n := 20) (rs := [(.tmp 2)]) (h := (.s .z (.s .z (.s (.s .z (.b (.l [3, 4] [0] (.s (.s .z (.i .z .z)) (.s (.b .z) .z))))) (.s .z .z))))) (args := [a0]) (by kernel_rfl) Tryz.func28 rfl (by kernel_rfl) rfl rfl rfl (Eq.mp (by kernel_rfl) h)

def Vcf.balerref22_one (P : Program) (a0 a1 : Value) (w : World) (R : Value → World → Prop) : Prop :=
 New (zeroP P 66) 66 w fun x1 w1=>Bd P 66 #[] w1 fun x2=>New (zeroP P 66) 66 w1 fun out_3 w2=>StA 3 out_3 x2 w2 fun w3=>Lns a0 fun x4=>Bp .add x4 (.int .i64 1) fun x5=>VLoop 2 [(.slice none 0 0), (.int .i64 0)] w3 fun _ next8 sums_6 x7 w4=>Bp .lss x7 x5 fun x9=>Vif x9 (Lns a0 fun x10=>Fo 1 out_3 fun x11=>Ld x11 w4 fun x12=>Bp .sub x10 x12 fun x13=>Bp .lss x13 (.int .i64 48) fun x14=>Vif x14 (Bd P 66 #[(2, (.int .i64 24))] w4 fun x15=>StA 3 x1 x15 w4 fun w5=>LdA 3 x1 w5 fun x16=>R x16 w5) (Fo 1 out_3 fun x17=>Ld x17 w4 fun x18=>Fo 1 out_3 fun x19=>Ld x19 w4 fun x20=>Bp .add x20 (.int .i64 48) fun x21=>Sst a0 (some x18) (some x21) fun x22=>Fo 1 out_3 fun x23=>Ld x23 w4 fun x24=>Bp .add x24 (.int .i64 48) fun x25=>Bp .eql x22 (.string ⟨#[48, 48, 48, 49, 48, 49, 49, 49, 48, 49, 49, 49, 48, 48, 49, 48, 48, 49, 48, 48, 48, 49, 48, 49, 48, 48, 49, 49, 49, 48, 48, 48, 48, 49, 48, 49, 48, 48, 48, 48, 49, 48, 48, 49, 48, 48, 48, 48]⟩) fun x26=>Vif x26 (Lns a0 fun x27=>Bp .sub x27 x25 fun x28=>Bp .lss x28 (.int .i64 32) fun x29=>Vif x29 (Bd P 66 #[(2, (.int .i64 24))] w4 fun x30=>StA 3 x1 x30 w4 fun w6=>LdA 3 x1 w6 fun x31=>R x31 w6) (Bp .add x25 (.int .i64 32) fun x32=>Sst a0 (some x25) (some x32) fun x33=>Cl P F.balerref01_Number #[x33] w4 fun x34 w7=>Cl P F.balerref02_Stream #[sums_6] w7 fun x35 w8=>Bp .neq x34 x35 fun x36=>Vif x36 (Bd P 66 #[(2, (.int .i64 21))] w8 fun x37=>StA 3 x1 x37 w8 fun w9=>LdA 3 x1 w9 fun x38=>R x38 w9) (Fo 0 out_3 fun x39=>Ld x39 w8 fun x40=>Bp .add x25 (.int .i64 32) fun x41=>Bd P 66 #[(0, x40), (1, x41)] w8 fun x42=>StA 3 x1 x42 w8 fun w10=>LdA 3 x1 w10 fun x43=>R x43 w10))) (Bp .neq x22 (.string ⟨#[48, 48, 49, 49, 48, 48, 48, 49, 48, 49, 48, 48, 48, 48, 48, 49, 48, 49, 48, 49, 49, 48, 48, 49, 48, 48, 49, 48, 48, 49, 49, 48, 48, 49, 48, 49, 48, 48, 49, 49, 48, 49, 48, 49, 49, 48, 48, 49]⟩) fun x44=>Vif x44 (Bd P 66 #[(2, (.int .i64 20))] w4 fun x45=>StA 3 x1 x45 w4 fun w11=>LdA 3 x1 w11 fun x46=>R x46 w11) (Sst a0 (some x25) none fun x47=>Cl P F.balerref20_Of #[x47, a1] w4 fun x48 w12=>New (zeroP P 92) 92 w12 fun b_49 w13=>StA 6 b_49 x48 w13 fun w14=>Fo 5 b_49 fun x50=>Ld x50 w14 fun x51=>Bp .eql x51 (.int .i64 3) fun x52=>Vif x52 (Bd P 66 #[(2, (.int .i64 24))] w14 fun x53=>StA 3 x1 x53 w14 fun w15=>LdA 3 x1 w15 fun x54=>R x54 w15) (Fo 5 b_49 fun x55=>Ld x55 w14 fun x56=>Bp .neq x56 (.int .i64 0) fun x57=>Vif x57 (Fo 5 b_49 fun x58=>Ld x58 w14 fun x59=>Bd P 66 #[(2, x59)] w14 fun x60=>StA 3 x1 x60 w14 fun w16=>LdA 3 x1 w16 fun x61=>R x61 w16) (Fo 0 b_49 fun x62=>LdA 3 x62 w14 fun x63=>Cl P F.balerref20_Open #[x63] w14 fun x64 w17=>Ex x64 0 fun x65=>Ex x64 1 fun x66=>Bp .neq x66 (.int .i64 0) fun x67=>Vif x67 (Bd P 66 #[(2, x66)] w17 fun x68=>StA 3 x1 x68 w17 fun w18=>LdA 3 x1 w18 fun x69=>R x69 w18) (Fo 0 b_49 fun x70=>Fo 2 x70 fun x71=>Ld x71 w17 fun x72=>Bs P 79 1 #[(0, x72)] w17 fun x73 w19=>Ap P #[79, 79] 79 #[sums_6, x73] w19 fun x74 w20=>Fo 0 out_3 fun x75=>Ld x75 w20 fun x76=>Bp .add x76 x65 fun x77=>Fo 3 b_49 fun x78=>Ld x78 w20 fun x79=>Bp .add x25 x79 fun x80=>Bd P 66 #[(0, x77), (1, x80)] w20 fun x81=>StA 3 out_3 x81 w20 fun w21=>Bp .add x7 (.int .i64 1) fun x82=>KE [a0, a1, x1, out_3, x5] [a0, a1, x1, out_3, x5]<|next8 x74 x82 w21))))))) (Bd P 66 #[(2, (.int .i64 24))] w4 fun x83=>StA 3 x1 x83 w4 fun w22=>LdA 3 x1 w22 fun x84=>R x84 w22)
theorem Tie.balerref22_one {a0 a1 : Value} (h : Vcf.balerref22_one Tryz.prog a0 a1 w R) : Cl Tryz.prog F.balerref22_one #[a0, a1] w R :=
  cl_of_vc (n := 103) (rs := [(.cell 4 66)]) (h := (.s .z (.s .z (.s .z (.s (.s .z (.b (.l [6, 16] [0, 1, 4, 5, 15] (.s .z (.s (.i .z .z) (.s (.b (.s (.s .z (.i (.s .z .z) .z)) (.s .z (.s .z (.s (.s .z (.i (.s (.s .z (.i (.s .z .z) .z)) (.s (.s .z (.i (.s .z .z) .z)) (.s .z .z))) .z)) (.s (.s .z (.i (.s .z .z) .z)) (.s .z (.s (.s .z (.i (.s .z .z) .z)) (.s (.s .z (.i (.s .z .z) .z)) (.s .z (.s (.s .z (.i (.s .z .z) .z)) (.s .z .z)))))))))))) .z)))))) (.s .z .z)))))) (args := [a0, a1]) (by kernel_rfl) Tryz.func29 rfl (by kernel_rfl) rfl rfl rfl (Eq.mp (by kernel_rfl) h)

def Vcf.split_Room (P : Program) (a0 a1 : Value) (w : World) (R : Value → World → Prop) : Prop :=
 VJoin 1 (fun _ x1 w1=>Vif x1 (R (.tuple #[(.int .i64 0), (.int .i64 1)]) w1) (Bp .mul a0 a1 fun x2=>Bp .sub x2 (.int .i64 19) fun x3=>R (.tuple #[x3, (.int .i64 0)]) w1)) (fun J4=>Bp .lss a0 (.int .i64 1) fun x5=>Vif x5 (KE [a0, a1] [a0, a1]<|J4 (.bool true) w) (Bp .gtr a0 (.int .i64 9) fun x6=>Vif x6 (KE [a0, a1] [a0, a1]<|J4 (.bool true) w) (Bp .lss a1 (.int .i64 24) fun x7=>Vif x7 (KE [a0, a1] [a0, a1]<|J4 (.bool true) w) (Bp .gtr a1 (.int .i64 100000) fun x8=>KE [a0, a1] [a0, a1]<|J4 x8 w))))
theorem Tie.split_Room {a0 a1 : Value} (h : Vcf.split_Room Tryz.prog a0 a1 w R) : Cl Tryz.prog F.split_Room #[a0, a1] w R :=
  cl_of_vc (n := 24) (rs := [(.tmp 4), (.tmp 5)]) (h := (.s .z (.s (.j [19] [0, 1] .z (.i (.s .z .z) .z)) (.s .z .z)))) (args := [a0, a1]) (by kernel_rfl) Tryz.func30 rfl (by kernel_rfl) rfl rfl rfl (Eq.mp (by kernel_rfl) h)

def Vcf.bits_Reader_end (P : Program) (a0 : Value) (w : World) (R : Value → World → Prop) : Prop :=
 Dr w fun w1=>Nc a0<|Fo 1 a0 fun x1=>Ld x1 w1 fun x2=>Nc a0<|Fo 0 a0 fun x4=>Ld x4 w1 fun x5=>Lns x5 fun x7=>Bp .add x2 x7 fun x9=>Bp .mul (.int .i64 8) x9 fun x10=>R x10 w1
theorem Tie.bits_Reader_end {a0 : Value} (h : Vcf.bits_Reader_end Tryz.prog a0 w R) : Cl Tryz.prog F.bits_Reader_end #[a0] w R :=
  cl_of_vc (n := 14) (rs := [(.tmp 2)]) (h := (.s .z (.s (.r (.staged [0, 1, 3, 7, 0, 16, 48, 112, 240, 511, 1023, 2047])) .z))) (args := [a0]) (by kernel_rfl) Tryz.func31 rfl (by kernel_rfl) rfl rfl rfl (Eq.mp (by kernel_rfl) h)

def Vcf.unstream_Reader_step (P : Program) (a0 a1 : Value) (w : World) (R : Value → World → Prop) : Prop :=
 Nc a0<|Fo 1 a0 fun x1=>Ld x1 w fun x2=>Bp .eql x2 (.int .i64 0) fun x3=>Vif x3 (Cl P F.unstream_Reader_letter #[a0, a1] w fun x4 w1=>R (.tuple #[(.int .i64 0), x4]) w1) (Bp .eql x2 (.int .i64 1) fun x5=>Vif x5 (Cl P F.unstream_Reader_magic #[a0, a1] w fun x6 w2=>R (.tuple #[(.int .i64 0), x6]) w2) (Bp .eql x2 (.int .i64 2) fun x7=>Vif x7 (Cl P F.unstream_Reader_body #[a0, a1] w fun x8 w3=>Ex x8 0 fun x9=>Ex x8 1 fun x10=>R (.tuple #[x9, x10]) w3) (Cl P F.unstream_Reader_sum #[a0, a1] w fun x11 w4=>Ex x11 0 fun x12=>Ex x11 1 fun x13=>R (.tuple #[x12, x13]) w4)))
theorem Tie.unstream_Reader_step {a0 a1 : Value} (h : Vcf.unstream_Reader_step Tryz.prog a0 a1 w R) : Cl Tryz.prog F.unstream_Reader_step #[a0, a1] w R :=
  cl_of_vc (n := 32) (rs := [(.tmp 4), (.tmp 5)]) (h := (.s .z (.s (.s .z (.b (.s .z (.i (.s .z .z) (.s .z (.i (.s .z .z) (.s .z (.i (.s .z .z) .z)))))))) (.s .z .z)))) (args := [a0, a1]) (by kernel_rfl) Tryz.func33 rfl (by kernel_rfl) rfl rfl rfl (Eq.mp (by kernel_rfl) h)

def Vcf.balerref03_Decode (P : Program) (a0 : Value) (w : World) (R : Value → World → Prop) : Prop :=
 VLoop 2 [a0, (.string ⟨#[]⟩)] w fun _ next3 s_1 out_2 w1=>Lns s_1 fun x4=>Bp .gtr x4 (.int .i64 0) fun x5=>Vif x5 (Cl P F.balerref03_four #[s_1] w1 fun x6 w2=>Up .not x6 fun x7=>Vif x7 (Sst s_1 none (some (.int .i64 1)) fun x8=>Bp .add out_2 x8 fun x9=>Sst s_1 (some (.int .i64 1)) none fun x10=>KE [] []<|next3 x10 x9 w2) (Lns s_1 fun x11=>Bp .eql x11 (.int .i64 4) fun x12=>Vif x12 (R (.tuple #[(.string ⟨#[]⟩), (.int .i64 24)]) w2) (Ixs s_1 (.int .i64 4) fun x13=>Bp .gtr x13 (.int .u8 251) fun x14=>Vif x14 (R (.tuple #[(.string ⟨#[]⟩), (.int .i64 25)]) w2) (Ixs s_1 (.int .i64 4) fun x15=>Ci .i64 x15 fun x16=>Bp .add (.int .i64 4) x16 fun x17=>VLoop 2 [out_2, (.int .i64 0)] w2 fun _ next20 out_18 x19 w3=>Bp .lss x19 x17 fun x21=>Vif x21 (Sst s_1 none (some (.int .i64 1)) fun x22=>Bp .add out_18 x22 fun x23=>Bp .add x19 (.int .i64 1) fun x24=>KE [s_1, x17] [s_1, x17]<|next20 x23 x24 w3) (Sst s_1 (some (.int .i64 5)) none fun x25=>KE [] []<|next3 x25 out_18 w3))))) (R (.tuple #[out_2, (.int .i64 0)]) w1)
theorem Tie.balerref03_Decode {a0 : Value} (h : Vcf.balerref03_Decode Tryz.prog a0 w R) : Cl Tryz.prog F.balerref03_Decode #[a0] w R :=
  cl_of_vc (n := 37) (rs := [(.tmp 2), (.tmp 3)]) (h := (.s .z (.s .z (.s (.b (.l [0, 4] [] (.s (.s .z (.i .z .z)) (.b (.s (.s .z (.i (.s .z (.s .z .z)) .z)) (.s (.s .z (.i (.s .z .z) .z)) (.s (.s .z (.i (.s .z .z) .z)) (.s (.s .z (.b (.l [4, 27] [0, 26] (.s .z (.s (.i .z .z) (.s (.b .z) .z)))))) .z)))))))) (.s .z .z))))) (args := [a0]) (by kernel_rfl) Tryz.func34 rfl (by kernel_rfl) rfl rfl rfl (Eq.mp (by kernel_rfl) h)

def Vcf.balerref18_Of (P : Program) (a0 a1 : Value) (w : World) (R : Value → World → Prop) : Prop :=
 Cl P F.balerref18_Links #[a0] w fun x1 w1=>Lns a0 fun x2=>VLoop 3 [(.string ⟨#[]⟩), a1, (.int .i64 0)] w1 fun _ next6 out_3 at_4 x5 w2=>Bp .lss x5 x2 fun x7=>Vif x7 (Ias 1 x1 at_4 fun x8=>Ld x8 w2 fun x9=>Bp .add x9 (.int .i64 1) fun x10=>Sst a0 (some x9) (some x10) fun x11=>Bp .add out_3 x11 fun x12=>Bp .add x5 (.int .i64 1) fun x13=>KE [a0, x1, x2] [a0, x1, x2]<|next6 x12 x9 x13 w2) (R out_3 w2)
theorem Tie.balerref18_Of {a0 a1 : Value} (h : Vcf.balerref18_Of Tryz.prog a0 a1 w R) : Cl Tryz.prog F.balerref18_Of #[a0, a1] w R :=
  cl_of_vc (n := 28) (rs := [(.tmp 4)]) (h := (.s .z (.s .z (.s .z (.s .z (.s (.s .z (.b (.l [6, 7, 13] [0, 5, 12] (.s .z (.s (.i .z .z) (.s (.b (.s .z .z)) .z)))))) (.s .z .z))))))) (args := [a0, a1]) (by kernel_rfl) Tryz.func35 rfl (by kernel_rfl) rfl rfl rfl (Eq.mp (by kernel_rfl) h)

def Vcf.balerref02_Of (P : Program) (a0 : Value) (w : World) (R : Value → World → Prop) : Prop :=
 VLoop 2 [(.int .u32 4294967295), (.int .i64 0)] w fun _ next3 x1 i_2 w1=>Lns a0 fun x4=>Bp .lss i_2 x4 fun x5=>Vif x5 (Ixs a0 i_2 fun x6=>Cl P F.balerref02_Step #[x1, x6] w1 fun x7 w2=>Bp .add i_2 (.int .i64 1) fun x8=>KE [a0] [a0]<|next3 x7 x8 w2) (Bp .sub (.int .u32 4294967295) x1 fun x9=>R x9 w1)
theorem Tie.balerref02_Of {a0 : Value} (h : Vcf.balerref02_Of Tryz.prog a0 w R) : Cl Tryz.prog F.balerref02_Of #[a0] w R :=
  cl_of_vc (n := 18) (rs := [(.tmp 2)]) (h := (.s .z (.s .z (.s (.s .z (.b (.l [3, 4] [0] (.s (.s .z (.i .z .z)) (.s (.b .z) .z))))) (.s .z .z))))) (args := [a0]) (by kernel_rfl) Tryz.func36 rfl (by kernel_rfl) rfl rfl rfl (Eq.mp (by kernel_rfl) h)

def Vcf.unbwt_Of (P : Program) (a0 a1 : Value) (w : World) (R : Value → World → Prop) : Prop :=
 Cl P F.unbwt_New #[a0, a1] w fun x1 w1=>Ex x1 0 fun x2=>Ex x1 1 fun x3=>Bp .neq x3 (.int .i64 0) fun x4=>Vif x4 (R (.tuple #[(.string ⟨#[]⟩), x3]) w1) (Lns a0 fun x5=>Bp .mul (.int .i64 3) x5 fun x6=>Cl P F.unbwt_Inverter_Step #[x2, x6] w1 fun x7 w2=>Cl P F.unbwt_Inverter_Take #[x2] w2 fun x8 w3=>R (.tuple #[x8, (.int .i64 0)]) w3)
theorem Tie.unbwt_Of {a0 a1 : Value} (h : Vcf.unbwt_Of Tryz.prog a0 a1 w R) : Cl Tryz.prog F.unbwt_Of #[a0, a1] w R :=
  cl_of_vc (n := 24) (rs := [(.tmp 4), (.tmp 5)]) (h := (.s .z (.s .z (.s (.s .z (.i (.s .z .z) .z)) (.s .z (.s .z .z)))))) (args := [a0, a1]) (by kernel_rfl) Tryz.func43 rfl (by kernel_rfl) rfl rfl rfl (Eq.mp (by kernel_rfl) h)

def Vcf.rle_Decode (P : Program) (a0 : Value) (w : World) (R : Value → World → Prop) : Prop :=
 New (zeroP P 53) 53 w fun out_1 w1=>Mf P (.func 68) #[] #[out_1] w1 fun x2=>Cl P F.rle_unpack #[a0, x2] w1 fun x3 w2=>Bp .neq x3 (.int .i64 0) fun x4=>Vif x4 (R (.tuple #[(.string ⟨#[]⟩), x3]) w2) (Ld out_1 w2 fun x5=>Cw P 53 9 x5 w2 fun x6 w3=>R (.tuple #[x6, (.int .i64 0)]) w3)
theorem Tie.rle_Decode {a0 : Value} (h : Vcf.rle_Decode Tryz.prog a0 w R) : Cl Tryz.prog F.rle_Decode #[a0] w R :=
  cl_of_vc (n := 14) (rs := [(.tmp 2), (.tmp 3)]) (h := (.s .z (.s .z (.s .z (.s (.s .z (.i (.s .z .z) .z)) (.s .z .z)))))) (args := [a0]) (by kernel_rfl) Tryz.func44 rfl (by kernel_rfl) rfl rfl rfl (Eq.mp (by kernel_rfl) h)

def Vcf.crc_Of (P : Program) (a0 : Value) (w : World) (R : Value → World → Prop) : Prop :=
 Cl P F.crc_New #[] w fun x1 w1=>Cl P F.crc_Sum_Text #[x1, a0] w1 fun x2 w2=>Cl P F.crc_Sum_Value #[x1] w2 fun x3 w3=>R x3 w3
theorem Tie.crc_Of {a0 : Value} (h : Vcf.crc_Of Tryz.prog a0 w R) : Cl Tryz.prog F.crc_Of #[a0] w R :=
  cl_of_vc (n := 10) (rs := [(.tmp 2)]) (h := (.s .z (.s .z (.s .z (.s .z .z))))) (args := [a0]) (by kernel_rfl) Tryz.func45 rfl (by kernel_rfl) rfl rfl rfl (Eq.mp (by kernel_rfl) h)

def Vcf.strings_Builder_copyCheck (P : Program) (a0 : Value) (w : World) (R : Value → World → Prop) : Prop :=
 Nc a0<|Fo 0 a0 fun x1=>Ld x1 w fun x2=>Bn P 55 false x2 (.pointer none) fun x3=>Vif x3 (Cw P 52 124 a0 w fun x4 w1=>Cx P F.internal_abi_NoEscape #[x4] w1 fun x5 w2=>Cw P 124 52 x5 w2 fun x6 w3=>Nc a0<|Fo 0 a0 fun x7=>St x7 x6 w3 fun w4=>R (.tuple #[]) w4) (Nc a0<|Fo 0 a0 fun x8=>Ld x8 w fun x9=>Bn P 55 true x9 a0 fun x10=>Vif x10 (False) (R (.tuple #[]) w))
theorem Tie.strings_Builder_copyCheck {a0 : Value} (h : Vcf.strings_Builder_copyCheck Tryz.prog a0 w R) : Cl Tryz.prog F.strings_Builder_copyCheck #[a0] w R :=
  cl_of_vc (n := 20) (rs := []) (h := (.s .z (.i .z (.s .z (.i .z .z))))) (args := [a0]) (by kernel_rfl) Tryz.func46 rfl (by kernel_rfl) rfl rfl rfl (Eq.mp (by kernel_rfl) h)

def Vcf.balerref01_Field (P : Program) (a0 a1 : Value) (w : World) (R : Value → World → Prop) : Prop :=
 VLoop 3 [a0, (.string ⟨#[]⟩), (.int .i64 0)] w fun _ next4 v_1 s_2 x3 w1=>Bp .lss x3 a1 fun x5=>Vif x5 (Bp .rem v_1 (.int .u32 2) fun x6=>Bp .rem v_1 (.int .u32 2) fun x7=>Bp .add x7 (.int .u32 1) fun x8=>Sst (.string ⟨#[48, 49]⟩) (some x6) (some x8) fun x9=>Bp .add x9 s_2 fun x10=>Bp .quo v_1 (.int .u32 2) fun x11=>Bp .add x3 (.int .i64 1) fun x12=>KE [a1] [a1]<|next4 x11 x10 x12 w1) (R s_2 w1)
theorem Tie.balerref01_Field {a0 a1 : Value} (h : Vcf.balerref01_Field Tryz.prog a0 a1 w R) : Cl Tryz.prog F.balerref01_Field #[a0, a1] w R :=
  cl_of_vc (n := 21) (rs := [(.tmp 4)]) (h := (.s .z (.s .z (.s (.s .z (.b (.l [0, 5, 7] [6] (.s .z (.s (.i .z .z) (.s (.b (.s .z .z)) .z)))))) (.s .z .z))))) (args := [a0, a1]) (by kernel_rfl) Tryz.func47 rfl (by kernel_rfl) rfl rfl rfl (Eq.mp (by kernel_rfl) h)

def Vcf.balerref02_Stream (P : Program) (a0 : Value) (w : World) (R : Value → World → Prop) : Prop :=
 Lnl a0 fun x1=>VLoop 2 [(.int .u32 0), (.int .i64 0)] w fun _ next4 x2 x3 w1=>Bp .lss x3 x1 fun x5=>Vif x5 (Ias 1 a0 x3 fun x6=>Ld x6 w1 fun x7=>Cl P F.balerref02_Combine #[x2, x7] w1 fun x8 w2=>Bp .add x3 (.int .i64 1) fun x9=>KE [a0, x1] [a0, x1]<|next4 x8 x9 w2) (R x2 w1)
theorem Tie.balerref02_Stream {a0 : Value} (h : Vcf.balerref02_Stream Tryz.prog a0 w R) : Cl Tryz.prog F.balerref02_Stream #[a0] w R :=
  cl_of_vc (n := 17) (rs := [(.tmp 2)]) (h := (.s .z (.s .z (.s (.s .z (.b (.l [3, 8] [6, 7] (.s .z (.s (.i .z .z) (.s (.b (.s .z .z)) .z)))))) (.s .z .z))))) (args := [a0]) (by kernel_rfl) Tryz.func48 rfl (by kernel_rfl) rfl rfl rfl (Eq.mp (by kernel_rfl) h)

def Vcf.balerref20_Of (P : Program) (a0 a1 : Value) (w : World) (R : Value → World → Prop) : Prop :=
 New (zeroP P 92) 92 w fun x1 w1=>Lns a0 fun x2=>Bp .lss x2 (.int .i64 57) fun x3=>Vif x3 (Bd P 92 #[(3, (.int .i64 3))] w1 fun x4=>StA 6 x1 x4 w1 fun w2=>LdA 6 x1 w2 fun x5=>R x5 w2) (Ixs a0 (.int .i64 32) fun x6=>Bp .eql x6 (.int .u8 49) fun x7=>Vif x7 (Bd P 92 #[(3, (.int .i64 25))] w1 fun x8=>StA 6 x1 x8 w1 fun w3=>LdA 6 x1 w3 fun x9=>R x9 w3) (Sst a0 (some (.int .i64 57)) none fun x10=>Cl P F.balerref05_Read #[x10] w1 fun x11 w4=>New (zeroP P 128) 128 w4 fun u_12 w5=>StA 3 u_12 x11 w5 fun w6=>Fo 2 u_12 fun x13=>Ld x13 w6 fun x14=>Bp .neq x14 (.int .i64 0) fun x15=>Vif x15 (Fo 2 u_12 fun x16=>Ld x16 w6 fun x17=>Bd P 92 #[(3, x17)] w6 fun x18=>StA 6 x1 x18 w6 fun w7=>LdA 6 x1 w7 fun x19=>R x19 w7) (Fo 0 u_12 fun x20=>Ld x20 w6 fun x21=>Lns x21 fun x22=>Fo 1 u_12 fun x23=>Ld x23 w6 fun x24=>Bp .add (.int .i64 57) x24 fun x25=>Sst a0 (some x25) none fun x26=>Bp .add x22 (.int .i64 2) fun x27=>Cl P F.balerref14_Read #[x26, x27, (.int .i64 8000)] w6 fun x28 w8=>New (zeroP P 131) 131 w8 fun row_29 w9=>StA 4 row_29 x28 w9 fun w10=>Sst a0 (some x25) none fun x30=>Bp .add x22 (.int .i64 2) fun x31=>Cl P F.balerref14_Some #[x30, x31] w10 fun x32 w11=>Cl P F.balerref20_codes #[x32, x22, a1] w11 fun x33 w12=>Bp .neq x33 (.int .i64 0) fun x34=>Vif x34 (Bd P 92 #[(3, (.int .i64 25))] w12 fun x35=>StA 6 x1 x35 w12 fun w13=>LdA 6 x1 w13 fun x36=>R x36 w13) (Fo 3 row_29 fun x37=>Ld x37 w12 fun x38=>Bp .neq x38 (.int .i64 0) fun x39=>Vif x39 (Fo 3 row_29 fun x40=>Ld x40 w12 fun x41=>Bd P 92 #[(3, x41)] w12 fun x42=>StA 6 x1 x42 w12 fun w14=>LdA 6 x1 w14 fun x43=>R x43 w14) (Fo 0 row_29 fun x44=>Ld x44 w12 fun x45=>Cl P F.balerref07_Decode #[x45, x22, a1] w12 fun x46 w15=>Ex x46 0 fun x47=>Ex x46 1 fun x48=>Fo 0 u_12 fun x49=>Ld x49 w15 fun x50=>Cl P F.balerref06_Decode #[x47, x50] w15 fun x51 w16=>Ex x51 0 fun x52=>Ex x51 1 fun x53=>Sst a0 (some (.int .i64 33)) (some (.int .i64 57)) fun x54=>Cl P F.balerref01_Number #[x54] w16 fun x55 w17=>Ci .i64 x55 fun x56=>Lns x52 fun x57=>Bp .geq x56 x57 fun x58=>Vif x58 (Bd P 92 #[(3, (.int .i64 23))] w17 fun x59=>StA 6 x1 x59 w17 fun w18=>LdA 6 x1 w18 fun x60=>R x60 w18) (Dr w17 fun w19=>Sst a0 none (some (.int .i64 32)) fun x61=>Cl P F.balerref01_Number #[x61] w19 fun x63 w20=>Bd P 49 #[(0, x52), (1, x56), (2, x63)] w20 fun x64=>Fo 1 row_29 fun x66=>Ld x66 w20 fun x67=>Rk (fun w K=>Ld x66 w fun x68=>K x68) x67 w19<|Bp .add x25 x67 fun x70=>Fo 2 row_29 fun x71=>Ld x71 w20 fun x72=>Rk (fun w K=>Ld x71 w fun x73=>K x73) x72 w19<|Lns x52 fun x75=>Rk (fun w K=>Lns x52 fun x76=>K x76) x75 w19<|Bp .add x72 x75 fun x78=>Bd P 92 #[(0, x64), (1, x70), (2, x78)] w20 fun x79=>StA 6 x1 x79 w20 fun w21=>LdA 6 x1 w21 fun x81=>R x81 w21))))))
theorem Tie.balerref20_Of {a0 a1 : Value} (h : Vcf.balerref20_Of Tryz.prog a0 a1 w R) : Cl Tryz.prog F.balerref20_Of #[a0, a1] w R :=
  cl_of_vc (n := 100) (rs := [(.cell 4 92)]) (h := (.s .z (.s (.s .z (.i (.s .z .z) .z)) (.s (.s .z (.i (.s .z .z) .z)) (.s .z (.s (.s .z (.i (.s .z .z) .z)) (.s .z (.s .z (.s .z (.s (.s .z (.i (.s .z .z) .z)) (.s (.s .z (.i (.s .z .z) .z)) (.s .z (.s .z (.s .z (.s (.s .z (.i (.s .z .z) .z)) (.s (.r (.staged [0, 0, 0, 4, 12, 31, 0, 0, 128, 448, 0, 1024, 0, 4096, 15360, 32767, 65535])) .z)))))))))))))))) (args := [a0, a1]) (by kernel_rfl) Tryz.func49 rfl (by kernel_rfl) rfl rfl rfl (Eq.mp (by kernel_rfl) h)

def Vcf.unstream_Reader_letter (P : Program) (a0 a1 : Value) (w : World) (R : Value → World → Prop) : Prop :=
 Cl P F.bits_Reader_Get #[a1, (.int .i64 8)] w fun x1 w1=>Ex x1 0 fun x2=>Ex x1 1 fun x3=>Bp .neq x3 (.int .i64 0) fun x4=>Vif x4 (R x3 w1) (Nc a0<|Fo 2 a0 fun x5=>Ld x5 w1 fun x6=>Bp .lss x6 (.int .i64 3) fun x7=>Vif x7 (Nc a0<|Fo 2 a0 fun x8=>Ld x8 w1 fun x9=>Ixs (.string ⟨#[66, 90, 104]⟩) x9 fun x10=>Ci .u32 x10 fun x11=>Bp .neq x2 x11 fun x12=>Vif x12 (R (.int .i64 20) w1) (Nc a0<|Fo 2 a0 fun x13=>Ld x13 w1 fun x14=>Bp .add x14 (.int .i64 1) fun x15=>Nc a0<|Fo 2 a0 fun x16=>St x16 x15 w1 fun w2=>R (.int .i64 0) w2)) (VJoin 1 (fun _ x17 w3=>Vif x17 (R (.int .i64 20) w3) (Bp .sub x2 (.int .u32 48) fun x18=>Ci .i64 x18 fun x19=>Nc a0<|Fo 3 a0 fun x20=>St x20 x19 w3 fun w4=>Nc a0<|Fo 2 a0 fun x21=>St x21 (.int .i64 0) w4 fun w5=>Nc a0<|Fo 8 a0 fun x22=>St x22 (.int .u32 0) w5 fun w6=>Nc a0<|Fo 1 a0 fun x23=>St x23 (.int .i64 1) w6 fun w7=>R (.int .i64 0) w7)) (fun J24=>Bp .lss x2 (.int .u32 49) fun x25=>Vif x25 (KE [a0, x2] [a0, x2]<|J24 (.bool true) w1) (Bp .gtr x2 (.int .u32 57) fun x26=>KE [a0, x2] [a0, x2]<|J24 x26 w1))))
theorem Tie.unstream_Reader_letter {a0 a1 : Value} (h : Vcf.unstream_Reader_letter Tryz.prog a0 a1 w R) : Cl Tryz.prog F.unstream_Reader_letter #[a0, a1] w R :=
  cl_of_vc (n := 59) (rs := [(.tmp 4)]) (h := (.s .z (.s .z (.s (.b (.s .z (.i (.s .z .z) (.s .z (.i (.s (.s .z (.i (.s .z .z) .z)) (.s .z (.s .z .z))) (.j [37] [0, 5] .z (.i (.s .z .z) .z))))))) (.s .z (.s .z (.s .z (.s .z (.s .z .z))))))))) (args := [a0, a1]) (by kernel_rfl) Tryz.func51 rfl (by kernel_rfl) rfl rfl rfl (Eq.mp (by kernel_rfl) h)

def Vcf.unstream_Reader_magic (P : Program) (a0 a1 : Value) (w : World) (R : Value → World → Prop) : Prop :=
 Cl P F.bits_Reader_Left #[a1] w fun x1 w1=>Bp .lss x1 (.int .i64 48) fun x2=>Vif x2 (R (.int .i64 3) w1) (Cl P F.bits_Reader_Get #[a1, (.int .i64 24)] w1 fun x3 w2=>Ex x3 0 fun x4=>Ex x3 1 fun x5=>Cl P F.bits_Reader_Get #[a1, (.int .i64 24)] w2 fun x6 w3=>Ex x6 0 fun x7=>Ex x6 1 fun x8=>Ci .u64 x4 fun x9=>Bp .shl x9 (.int .u64 24) fun x10=>Ci .u64 x7 fun x11=>Bp .or x10 x11 fun x12=>Bp .eql x12 (.int .u64 54156738319193) fun x13=>Vif x13 (Dr w3 fun w4=>Nc a0<|Fo 3 a0 fun x14=>Ld x14 w4 fun x15=>Nc a0<|Fo 0 a0 fun x17=>Ld x17 w4 fun x18=>Bp .mul x15 x18 fun x20=>Cl P F.block_NewReader #[x20] w4 fun x21 w5=>Ex x21 0 fun x22=>Ex x21 1 fun x23=>Nc a0<|Fo 4 a0 fun x24=>St x24 x22 w5 fun w6=>Nc a0<|Fo 1 a0 fun x25=>St x25 (.int .i64 2) w6 fun w7=>R x23 w7) (Bp .eql x12 (.int .u64 25779555029136) fun x26=>Vif x26 (Nc a0<|Fo 1 a0 fun x27=>St x27 (.int .i64 3) w3 fun w8=>R (.int .i64 0) w8) (R (.int .i64 20) w3)))
theorem Tie.unstream_Reader_magic {a0 a1 : Value} (h : Vcf.unstream_Reader_magic Tryz.prog a0 a1 w R) : Cl Tryz.prog F.unstream_Reader_magic #[a0, a1] w R :=
  cl_of_vc (n := 58) (rs := [(.tmp 4)]) (h := (.s .z (.s (.s .z (.i (.s .z .z) .z)) (.s .z (.s .z (.s (.s .z (.b (.s .z (.i (.s (.r (.staged [0, 1, 3, 7, 0, 16, 48, 112, 255, 511, 1023, 2047, 2047, 4095, 16383])) (.s .z (.s .z (.s .z .z)))) (.s .z (.i (.s .z (.s .z .z)) .z)))))) (.s .z .z))))))) (args := [a0, a1]) (by kernel_rfl) Tryz.func52 rfl (by kernel_rfl) rfl rfl rfl (Eq.mp (by kernel_rfl) h)

def Vcf.unstream_Reader_body (P : Program) (a0 a1 : Value) (w : World) (R : Value → World → Prop) : Prop :=
 Nc a0<|Fo 4 a0 fun x1=>Ld x1 w fun x2=>Cl P F.block_Reader_Step #[x2, a1] w fun x3 w1=>VJoin 1 (fun _ x4 w2=>Vif x4 (R (.tuple #[(.int .i64 0), x3]) w2) (Nc a0<|Fo 4 a0 fun x5=>Ld x5 w2 fun x6=>Cl P F.block_Reader_Got #[x6] w2 fun x7 w3=>Nc a0<|Fo 5 a0 fun x8=>StA 3 x8 x7 w3 fun w4=>Nc a0<|Fo 4 a0 fun x9=>St x9 (.pointer none) w4 fun w5=>Dr w5 fun w6=>Nc a0<|Fo 8 a0 fun x10=>Ld x10 w6 fun x11=>Nc a0<|Fo 5 a0 fun x13=>Fo 2 x13 fun x14=>Ld x14 w6 fun x15=>Cl P F.crc_Combine #[x11, x15] w6 fun x17 w7=>Nc a0<|Fo 8 a0 fun x18=>St x18 x17 w7 fun w8=>Nc a0<|Fo 1 a0 fun x19=>St x19 (.int .i64 1) w8 fun w9=>R (.tuple #[(.int .i64 1), (.int .i64 0)]) w9)) (fun J20=>Bp .neq x3 (.int .i64 0) fun x21=>Vif x21 (KE [a0, x3] [a0, x3]<|J20 (.bool true) w1) (Nc a0<|Fo 4 a0 fun x22=>Ld x22 w1 fun x23=>Cl P F.block_Reader_Done #[x23] w1 fun x24 w10=>Up .not x24 fun x25=>KE [a0, x3] [a0, x3]<|J20 x25 w10))
theorem Tie.unstream_Reader_body {a0 a1 : Value} (h : Vcf.unstream_Reader_body Tryz.prog a0 a1 w R) : Cl Tryz.prog F.unstream_Reader_body #[a0, a1] w R :=
  cl_of_vc (n := 51) (rs := [(.tmp 4), (.tmp 5)]) (h := (.s .z (.s .z (.s (.j [22] [0, 6] .z (.i (.s .z .z) .z)) (.s .z (.s .z (.s (.r (.staged [0, 0, 2, 6, 14, 0, 32, 96, 224, 480, 1022, 2047, 4095, 8191])) (.s .z (.s .z .z))))))))) (args := [a0, a1]) (by kernel_rfl) Tryz.func53 rfl (by kernel_rfl) rfl rfl rfl (Eq.mp (by kernel_rfl) h)

def Vcf.unstream_Reader_sum (P : Program) (a0 a1 : Value) (w : World) (R : Value → World → Prop) : Prop :=
 Cl P F.bits_Reader_Get #[a1, (.int .i64 32)] w fun x1 w1=>Ex x1 0 fun x2=>Ex x1 1 fun x3=>Bp .neq x3 (.int .i64 0) fun x4=>Vif x4 (R (.tuple #[(.int .i64 0), x3]) w1) (Nc a0<|Fo 8 a0 fun x5=>Ld x5 w1 fun x6=>Bp .neq x2 x6 fun x7=>Vif x7 (R (.tuple #[(.int .i64 0), (.int .i64 21)]) w1) (Cl P F.bits_Reader_Align #[a1] w1 fun x8 w2=>Nc a0<|Fo 1 a0 fun x9=>St x9 (.int .i64 0) w2 fun w3=>Nc a0<|Fo 9 a0 fun x10=>St x10 (.bool true) w3 fun w4=>R (.tuple #[(.int .i64 2), (.int .i64 0)]) w4))
theorem Tie.unstream_Reader_sum {a0 a1 : Value} (h : Vcf.unstream_Reader_sum Tryz.prog a0 a1 w R) : Cl Tryz.prog F.unstream_Reader_sum #[a0, a1] w R :=
  cl_of_vc (n := 32) (rs := [(.tmp 4), (.tmp 5)]) (h := (.s .z (.s .z (.s (.b (.s .z (.i (.s .z .z) (.s .z (.i (.s .z .z) .z))))) (.s .z (.s .z (.s .z (.s .z .z)))))))) (args := [a0, a1]) (by kernel_rfl) Tryz.func54 rfl (by kernel_rfl) rfl rfl rfl (Eq.mp (by kernel_rfl) h)

def Vcf.balerref03_four (P : Program) (a0 : Value) (w : World) (R : Value → World → Prop) : Prop :=
 Dr w fun w1=>Lns a0 fun x1=>Bp .geq x1 (.int .i64 4) fun x3=>Vif x3 (Ixs a0 (.int .i64 0) fun x4=>Ixs a0 (.int .i64 1) fun x5=>Bp .eql x4 x5 fun x6=>Vif x6 (Ixs a0 (.int .i64 1) fun x7=>Ixs a0 (.int .i64 2) fun x8=>Bp .eql x7 x8 fun x9=>Vif x9 (Ixs a0 (.int .i64 2) fun x10=>Ixs a0 (.int .i64 3) fun x11=>Bp .eql x10 x11 fun x12=>R x12 w1) (R (.bool false) w1)) (R (.bool false) w1)) (R (.bool false) w1)
theorem Tie.balerref03_four {a0 : Value} (h : Vcf.balerref03_four Tryz.prog a0 w R) : Cl Tryz.prog F.balerref03_four #[a0] w R :=
  cl_of_vc (n := 27) (rs := [(.tmp 2)]) (h := (.s .z (.s (.r (.staged [0, 1, 3, 7, 15, 31, 15, 79, 255, 511, 1023, 2047, 4095, 2047, 10239, 32767, 65535, 131071, 262143, 524287, 262143, 1310719, 4194303, 8388607, 16777215])) .z))) (args := [a0]) (by kernel_rfl) Tryz.func55 rfl (by kernel_rfl) rfl rfl rfl (Eq.mp (by kernel_rfl) h)

def Vcf.balerref18_Links (P : Program) (a0 : Value) (w : World) (R : Value → World → Prop) : Prop :=
 VLoop 2 [(.slice none 0 0), (.int .i64 0)] w fun _ next3 out_1 x2 w1=>Bp .lss x2 (.int .i64 256) fun x4=>Vif x4 (Lns a0 fun x5=>VLoop 2 [out_1, (.int .i64 0)] w1 fun _ next8 out_6 x7 w2=>Bp .lss x7 x5 fun x9=>Vif x9 (Ixs a0 x7 fun x10=>Ci .i64 x10 fun x11=>Bp .eql x11 x2 fun x12=>Vif x12 (Bs P 103 1 #[(0, x7)] w2 fun x13 w3=>Ap P #[103, 103] 103 #[out_6, x13] w3 fun x14 w4=>Bp .add x7 (.int .i64 1) fun x15=>KE [a0, x2, x2, x5] [a0, x2, x2, x5]<|next8 x14 x15 w4) (Bp .add x7 (.int .i64 1) fun x16=>KE [a0, x2, x2, x5] [a0, x2, x2, x5]<|next8 out_6 x16 w2)) (Bp .add x2 (.int .i64 1) fun x17=>KE [a0] [a0]<|next3 out_6 x17 w2)) (R out_1 w1)
theorem Tie.balerref18_Links {a0 : Value} (h : Vcf.balerref18_Links Tryz.prog a0 w R) : Cl Tryz.prog F.balerref18_Links #[a0] w R :=
  cl_of_vc (n := 27) (rs := [(.tmp 2)]) (h := (.s .z (.s .z (.s (.s .z (.b (.l [3, 6] [0] (.s .z (.s (.i .z .z) (.s (.b (.s .z (.s .z (.b (.l [3, 11] [0, 4, 6, 10] (.s .z (.s (.i .z .z) (.s (.b (.s .z (.s .z (.i .z .z)))) .z)))))))) .z)))))) (.s .z .z))))) (args := [a0]) (by kernel_rfl) Tryz.func56 rfl (by kernel_rfl) rfl rfl rfl (Eq.mp (by kernel_rfl) h)

def Vcf.balerref02_Step (P : Program) (a0 a1 : Value) (w : World) (R : Value → World → Prop) : Prop :=
 Ci .u32 a1 fun x1=>Bp .mul x1 (.int .u32 16777216) fun x2=>Bp .xor a0 x2 fun x3=>Cl P F.balerref02_Bits #[x3] w fun x4 w1=>R x4 w1
theorem Tie.balerref02_Step {a0 a1 : Value} (h : Vcf.balerref02_Step Tryz.prog a0 a1 w R) : Cl Tryz.prog F.balerref02_Step #[a0, a1] w R :=
  cl_of_vc (n := 11) (rs := [(.tmp 4)]) (h := (.s .z (.s .z .z))) (args := [a0, a1]) (by kernel_rfl) Tryz.func57 rfl (by kernel_rfl) rfl rfl rfl (Eq.mp (by kernel_rfl) h)

def Vcf.unbwt_New (P : Program) (a0 a1 : Value) (w : World) (R : Value → World → Prop) : Prop :=
 Bp .eql a0 (.string ⟨#[]⟩) fun x1=>Vif x1 (R (.tuple #[(.pointer none), (.int .i64 1)]) w) (Lns a0 fun x2=>Bp .gtr x2 (.int .i64 900000) fun x3=>Vif x3 (R (.tuple #[(.pointer none), (.int .i64 2)]) w) (VJoin 1 (fun _ x4 w1=>Vif x4 (R (.tuple #[(.pointer none), (.int .i64 23)]) w1) (Lns a0 fun x5=>Ms P 103 x5 x5 w1 fun x6 w2=>Bd P 157 #[(0, a0), (2, x6), (3, a1)] w2 fun x7=>New x7 157 w2 fun x8 w3=>R (.tuple #[x8, (.int .i64 0)]) w3)) (fun J9=>Bp .lss a1 (.int .i64 0) fun x10=>Vif x10 (KE [a0, a1] [a0, a1]<|J9 (.bool true) w) (Lns a0 fun x11=>Bp .geq a1 x11 fun x12=>KE [a0, a1] [a0, a1]<|J9 x12 w))))
theorem Tie.unbwt_New {a0 a1 : Value} (h : Vcf.unbwt_New Tryz.prog a0 a1 w R) : Cl Tryz.prog F.unbwt_New #[a0, a1] w R :=
  cl_of_vc (n := 29) (rs := [(.tmp 4), (.tmp 5)]) (h := (.s .z (.s (.b (.s .z (.i (.s .z .z) (.s .z (.i (.s .z .z) (.j [13] [0, 1] .z (.i (.s .z .z) .z))))))) (.s .z .z)))) (args := [a0, a1]) (by kernel_rfl) Tryz.func64 rfl (by kernel_rfl) rfl rfl rfl (Eq.mp (by kernel_rfl) h)

def Vcf.unbwt_Inverter_Step (P : Program) (a0 a1 : Value) (w : World) (R : Value → World → Prop) : Prop :=
 Bn P 157 false a0 (.pointer none) fun x1=>Vif x1 (R (.int .i64 0) w) (Nc a0<|Fo 260 a0 fun x2=>Ld x2 w fun x3=>VLoop 0 [] w fun _ next4 w1=>VJoin 1 (fun _ x5 w2=>Vif x5 (Cl P F.unbwt_Inverter_step #[a0] w2 fun x6 w3=>KE [a0, a1, x3] [a0, a1, x3]<|next4 w3) (Nc a0<|Fo 260 a0 fun x7=>Ld x7 w2 fun x8=>Bp .sub x8 x3 fun x9=>R x9 w2)) (fun J10=>Cl P F.unbwt_Inverter_Done #[a0] w1 fun x11 w4=>Up .not x11 fun x12=>Vif x12 (Nc a0<|Fo 260 a0 fun x13=>Ld x13 w4 fun x14=>Bp .sub x14 x3 fun x15=>Bp .lss x15 a1 fun x16=>KE [a0, a1, x3] [a0, a1, x3]<|J10 x16 w4) (KE [a0, a1, x3] [a0, a1, x3]<|J10 (.bool false) w4)))
theorem Tie.unbwt_Inverter_Step {a0 a1 : Value} (h : Vcf.unbwt_Inverter_Step Tryz.prog a0 a1 w R) : Cl Tryz.prog F.unbwt_Inverter_Step #[a0, a1] w R :=
  cl_of_vc (n := 33) (rs := [(.tmp 4)]) (h := (.s .z (.s (.s .z (.i (.s .z .z) .z)) (.s .z (.s (.b (.l [] [0, 1, 5] (.s (.j [24] [0, 1, 5] .z (.i .z .z)) (.b .z)))) (.s .z .z)))))) (args := [a0, a1]) (by kernel_rfl) Tryz.func65 rfl (by kernel_rfl) rfl rfl rfl (Eq.mp (by kernel_rfl) h)

def Vcf.unbwt_Inverter_Take (P : Program) (a0 : Value) (w : World) (R : Value → World → Prop) : Prop :=
 Bn P 157 false a0 (.pointer none) fun x1=>Vif x1 (R (.string ⟨#[]⟩) w) (Nc a0<|Fo 259 a0 fun x2=>Ld x2 w fun x3=>Cw P 53 9 x3 w fun x4 w1=>Nc a0<|Fo 259 a0 fun x5=>St x5 (.slice none 0 0) w1 fun w2=>R x4 w2)
theorem Tie.unbwt_Inverter_Take {a0 : Value} (h : Vcf.unbwt_Inverter_Take Tryz.prog a0 w R) : Cl Tryz.prog F.unbwt_Inverter_Take #[a0] w R :=
  cl_of_vc (n := 15) (rs := [(.tmp 2)]) (h := (.s .z (.s (.s .z (.i (.s .z .z) .z)) (.s .z (.s .z (.s .z .z)))))) (args := [a0]) (by kernel_rfl) Tryz.func66 rfl (by kernel_rfl) rfl rfl rfl (Eq.mp (by kernel_rfl) h)

def Vcf.rle_unpack (P : Program) (a0 a1 : Value) (w : World) (R : Value → World → Prop) : Prop :=
 Lns a0 fun x1=>VLoop 2 [(.int .i64 0), (.int .i64 0)] w fun _ next4 run_2 x3 w1=>Bp .lss x3 x1 fun x5=>Vif x5 (VJoin 1 (fun _ run_6 w2=>Ixs a0 x3 fun x7=>Inv P (do let d ← Deferred.ofValue a1 #[x7, (.int .i64 1)]; invoke d.target d.args) w2 fun x8 w3=>Bp .add x3 (.int .i64 1) fun x9=>KE [a0, a1, x1] [a0, a1, x1]<|next4 run_6 x9 w3) (fun J10=>Bp .eql run_2 (.int .i64 4) fun x11=>Vif x11 (Ixs a0 x3 fun x12=>Bp .gtr x12 (.int .u8 251) fun x13=>Vif x13 (R (.int .i64 25) w1) (Dr w1 fun w4=>Bp .sub x3 (.int .i64 1) fun x14=>Ixs a0 x14 fun x15=>Ixs a0 x3 fun x16=>Ci .i64 x16 fun x17=>Inv P (do let d ← Deferred.ofValue a1 #[x15, x17]; invoke d.target d.args) w4 fun x18 w5=>Bp .add x3 (.int .i64 1) fun x19=>KE [a0, a1, x1] [a0, a1, x1]<|next4 (.int .i64 0) x19 w5)) (VJoin 1 (fun _ x20 w6=>Vif x20 (Bp .add run_2 (.int .i64 1) fun x21=>KE [a0, a1, x3, x1, x3] [a0, a1, x3, x1, x3]<|J10 x21 w6) (KE [a0, a1, x3, x1, x3] [a0, a1, x3, x1, x3]<|J10 (.int .i64 1) w6)) (fun J22=>Dr w1 fun w7=>Bp .gtr run_2 (.int .i64 0) fun x23=>Vif x23 (Ixs a0 x3 fun x24=>Bp .sub x3 (.int .i64 1) fun x25=>Ixs a0 x25 fun x26=>Bp .eql x24 x26 fun x27=>KE [a0, a1, run_2, x3, x1, x3] [a0, a1, run_2, x3, x1, x3]<|J22 x27 w7) (KE [a0, a1, run_2, x3, x1, x3] [a0, a1, run_2, x3, x1, x3]<|J22 (.bool false) w7))))) (Bp .eql run_2 (.int .i64 4) fun x28=>Vif x28 (R (.int .i64 24) w1) (R (.int .i64 0) w1))
theorem Tie.rle_unpack {a0 a1 : Value} (h : Vcf.rle_unpack Tryz.prog a0 a1 w R) : Cl Tryz.prog F.rle_unpack #[a0, a1] w R :=
  cl_of_vc (n := 52) (rs := [(.tmp 4)]) (h := (.s .z (.s .z (.s (.s .z (.b (.l [5, 9] [0, 1, 8] (.s .z (.s (.i .z .z) (.s (.b (.s .z (.j [5] [0, 1, 6, 8, 9] (.b (.s .z (.i (.s (.s .z (.i (.s .z .z) .z)) (.s (.r (.staged [0, 0, 0, 4, 14, 0, 0, 96, 224, 511])) (.s .z .z))) (.j [29] [0, 1, 5, 6, 8, 9] (.r (.staged [0, 1, 3, 7, 7, 31, 7, 7, 135, 455, 1023, 2047, 4095])) (.i .z .z))))) .z))) .z)))))) (.s (.s .z (.i (.s .z .z) .z)) (.s .z .z)))))) (args := [a0, a1]) (by kernel_rfl) Tryz.func67 rfl (by kernel_rfl) rfl rfl rfl (Eq.mp (by kernel_rfl) h)

def Vcf.rle_Decode_1 (P : Program) (a0 a1 a2 : Value) (w : World) (R : Value → World → Prop) : Prop :=
 VLoop 1 [(.int .i64 0)] w fun _ next2 x1 w1=>Bp .lss x1 a1 fun x3=>Vif x3 (Ld a2 w1 fun x4=>Bs P 53 1 #[(0, a0)] w1 fun x5 w2=>Ap P #[53, 53] 53 #[x4, x5] w2 fun x6 w3=>St a2 x6 w3 fun w4=>Bp .add x1 (.int .i64 1) fun x7=>KE [a0, a2, a1] [a0, a2, a1]<|next2 x7 w4) (R (.tuple #[]) w1)
theorem Tie.rle_Decode_1 {a0 a1 a2 : Value} (h : Vcf.rle_Decode_1 Tryz.prog a0 a1 a2 w R) : Cl Tryz.prog F.rle_Decode_1 #[a0, a1, a2] w R :=
  cl_of_vc (n := 13) (rs := []) (h := (.s .z (.b (.l [6] [0, 2, 5] (.s .z (.s (.i .z .z) (.s (.b .z) .z))))))) (args := [a0, a1, a2]) (by kernel_rfl) Tryz.func68 rfl (by kernel_rfl) rfl rfl rfl (Eq.mp (by kernel_rfl) h)

def Vcf.crc_New (P : Program) (w : World) (R : Value → World → Prop) : Prop :=
 Cl P F.crc_Table #[] w fun x1 w1=>Bd P 161 #[(0, x1), (1, (.int .u32 4294967295))] w1 fun x2=>New x2 161 w1 fun x3 w2=>R x3 w2
theorem Tie.crc_New (h : Vcf.crc_New Tryz.prog w R) : Cl Tryz.prog F.crc_New #[] w R :=
  cl_of_vc (n := 4) (rs := [(.tmp 0)]) (h := (.s .z (.s .z .z))) (args := []) (by kernel_rfl) Tryz.func69 rfl (by kernel_rfl) rfl rfl rfl (Eq.mp (by kernel_rfl) h)

def Vcf.crc_Sum_Text (P : Program) (a0 a1 : Value) (w : World) (R : Value → World → Prop) : Prop :=
 Lns a1 fun x1=>VLoop 1 [(.int .i64 0)] w fun _ next3 x2 w1=>Bp .lss x2 x1 fun x4=>Vif x4 (Ixs a1 x2 fun x5=>Cl P F.crc_Sum_Put #[a0, x5] w1 fun x6 w2=>Bp .add x2 (.int .i64 1) fun x7=>KE [a0, a1, x1] [a0, a1, x1]<|next3 x7 w2) (R (.tuple #[]) w1)
theorem Tie.crc_Sum_Text {a0 a1 : Value} (h : Vcf.crc_Sum_Text Tryz.prog a0 a1 w R) : Cl Tryz.prog F.crc_Sum_Text #[a0, a1] w R :=
  cl_of_vc (n := 16) (rs := []) (h := (.s .z (.b (.l [7] [0, 1, 6] (.s .z (.s (.i .z .z) (.s (.b (.s .z .z)) .z))))))) (args := [a0, a1]) (by kernel_rfl) Tryz.func70 rfl (by kernel_rfl) rfl rfl rfl (Eq.mp (by kernel_rfl) h)

def Vcf.crc_Sum_Value (P : Program) (a0 : Value) (w : World) (R : Value → World → Prop) : Prop :=
 Bn P 161 false a0 (.pointer none) fun x1=>Vif x1 (R (.int .u32 0) w) (Nc a0<|Fo 256 a0 fun x2=>Ld x2 w fun x3=>Up .xor x3 fun x4=>R x4 w)
theorem Tie.crc_Sum_Value {a0 : Value} (h : Vcf.crc_Sum_Value Tryz.prog a0 w R) : Cl Tryz.prog F.crc_Sum_Value #[a0] w R :=
  cl_of_vc (n := 10) (rs := [(.tmp 2)]) (h := (.s .z (.s (.s .z (.i (.s .z .z) .z)) (.s .z .z)))) (args := [a0]) (by kernel_rfl) Tryz.func71 rfl (by kernel_rfl) rfl rfl rfl (Eq.mp (by kernel_rfl) h)

def Vcf.balerref02_Combine (P : Program) (a0 a1 : Value) (w : World) (R : Value → World → Prop) : Prop :=
 Bp .mul a0 (.int .u32 2) fun x1=>Bp .geq a0 (.int .u32 2147483648) fun x2=>Vif x2 (Bp .add x1 (.int .u32 1) fun x3=>Bp .xor x3 a1 fun x4=>R x4 w) (Bp .xor x1 a1 fun x5=>R x5 w)
theorem Tie.balerref02_Combine {a0 a1 : Value} (h : Vcf.balerref02_Combine Tryz.prog a0 a1 w R) : Cl Tryz.prog F.balerref02_Combine #[a0, a1] w R :=
  cl_of_vc (n := 15) (rs := [(.tmp 4)]) (h := (.s .z (.s .z (.s (.s .z (.i .z .z)) (.s .z .z))))) (args := [a0, a1]) (by kernel_rfl) Tryz.func73 rfl (by kernel_rfl) rfl rfl rfl (Eq.mp (by kernel_rfl) h)

def Vcf.balerref05_Read (P : Program) (a0 : Value) (w : World) (R : Value → World → Prop) : Prop :=
 New (zeroP P 128) 128 w fun x1 w1=>Lns a0 fun x2=>Bp .lss x2 (.int .i64 16) fun x3=>Vif x3 (Bd P 128 #[(2, (.int .i64 3))] w1 fun x4=>StA 3 x1 x4 w1 fun w2=>LdA 3 x1 w2 fun x5=>R x5 w2) (VLoop 3 [(.int .i64 16), (.string ⟨#[]⟩), (.int .i64 0)] w1 fun _ next9 n_6 out_7 x8 w3=>Bp .lss x8 (.int .i64 16) fun x10=>Vif x10 (Ixs a0 x8 fun x11=>Bp .neq x11 (.int .u8 49) fun x12=>Vif x12 (Bp .add x8 (.int .i64 1) fun x13=>KE [a0, x1] [a0, x1]<|next9 n_6 out_7 x13 w3) (Lns a0 fun x14=>Bp .add n_6 (.int .i64 16) fun x15=>Bp .lss x14 x15 fun x16=>Vif x16 (Bd P 128 #[(2, (.int .i64 3))] w3 fun x17=>StA 3 x1 x17 w3 fun w4=>LdA 3 x1 w4 fun x18=>R x18 w4) (VLoop 2 [out_7, (.int .i64 0)] w3 fun _ next21 out_19 x20 w5=>Bp .lss x20 (.int .i64 16) fun x22=>Vif x22 (Bp .add n_6 x20 fun x23=>Ixs a0 x23 fun x24=>Bp .eql x24 (.int .u8 49) fun x25=>Vif x25 (Bp .mul (.int .i64 16) x8 fun x26=>Bp .add x26 x20 fun x27=>Ci .u8 x27 fun x28=>Bs P 53 1 #[(0, x28)] w5 fun x29 w6=>Cw P 53 9 x29 w6 fun x30 w7=>Bp .add out_19 x30 fun x31=>Bp .add x20 (.int .i64 1) fun x32=>KE [a0, x1, n_6, x8, x8] [a0, x1, n_6, x8, x8]<|next21 x31 x32 w7) (Bp .add x20 (.int .i64 1) fun x33=>KE [a0, x1, n_6, x8, x8] [a0, x1, n_6, x8, x8]<|next21 out_19 x33 w5)) (Bp .add n_6 (.int .i64 16) fun x34=>Bp .add x8 (.int .i64 1) fun x35=>KE [a0, x1] [a0, x1]<|next9 x34 out_19 x35 w5)))) (Bp .eql out_7 (.string ⟨#[]⟩) fun x36=>Vif x36 (Bd P 128 #[(2, (.int .i64 25))] w3 fun x37=>StA 3 x1 x37 w3 fun w8=>LdA 3 x1 w8 fun x38=>R x38 w8) (Bd P 128 #[(0, out_7), (1, n_6)] w3 fun x39=>StA 3 x1 x39 w3 fun w9=>LdA 3 x1 w9 fun x40=>R x40 w9)))
theorem Tie.balerref05_Read {a0 : Value} (h : Vcf.balerref05_Read Tryz.prog a0 w R) : Cl Tryz.prog F.balerref05_Read #[a0] w R :=
  cl_of_vc (n := 52) (rs := [(.cell 2 128)]) (h := (.s .z (.s (.s .z (.i (.s .z .z) .z)) (.s .z (.s .z (.s (.s .z (.b (.l [3, 4, 11] [0, 2] (.s .z (.s (.i .z .z) (.s (.b (.s .z (.s (.s .z (.i .z .z)) (.s (.s .z (.i (.s .z .z) .z)) (.s (.s .z (.b (.l [4, 24] [0, 2, 3, 5, 11] (.s .z (.s (.i .z .z) (.s (.b (.s .z (.s .z (.i .z .z)))) .z)))))) .z))))) .z)))))) (.s (.s .z (.i (.s .z .z) .z)) (.s .z .z)))))))) (args := [a0]) (by kernel_rfl) Tryz.func74 rfl (by kernel_rfl) rfl rfl rfl (Eq.mp (by kernel_rfl) h)

def Vcf.balerref14_Read (P : Program) (a0 a1 a2 : Value) (w : World) (R : Value → World → Prop) : Prop :=
 New (zeroP P 131) 131 w fun x1 w1=>Cl P F.balerref13_Read #[a0] w1 fun x2 w2=>New (zeroP P 164) 164 w2 fun p_3 w3=>StA 5 p_3 x2 w3 fun w4=>Fo 4 p_3 fun x4=>Ld x4 w4 fun x5=>Bp .neq x5 (.int .i64 0) fun x6=>Vif x6 (Fo 4 p_3 fun x7=>Ld x7 w4 fun x8=>Bd P 131 #[(3, x8)] w4 fun x9=>StA 4 x1 x9 w4 fun w5=>LdA 4 x1 w5 fun x10=>R x10 w5) (VJoin 1 (fun _ t_11 w6=>Fo 2 t_11 fun x12=>Ld x12 w6 fun x13=>Bp .neq x13 (.int .i64 0) fun x14=>Vif x14 (Fo 2 t_11 fun x15=>Ld x15 w6 fun x16=>Bd P 131 #[(3, x16)] w6 fun x17=>StA 4 x1 x17 w6 fun w7=>LdA 4 x1 w7 fun x18=>R x18 w7) (Fo 2 p_3 fun x19=>Ld x19 w6 fun x20=>Fo 1 t_11 fun x21=>Ld x21 w6 fun x22=>Bp .add x20 x22 fun x23=>VLoop 2 [x23, (.slice none 0 0)] w6 fun _ next26 at_24 l_25 w8=>Lnl l_25 fun x27=>Bp .quo x27 (.int .i64 50) fun x28=>Fo 0 p_3 fun x29=>Ld x29 w8 fun x30=>Lnl x30 fun x31=>Bp .geq x28 x31 fun x32=>Vif x32 (Bd P 131 #[(3, (.int .i64 25))] w8 fun x33=>StA 4 x1 x33 w8 fun w9=>LdA 4 x1 w9 fun x34=>R x34 w9) (Dr w8 fun w10=>Fo 0 t_11 fun x35=>Ld x35 w10 fun x36=>Fo 0 p_3 fun x38=>Ld x38 w10 fun x39=>Lnl l_25 fun x41=>Bp .quo x41 (.int .i64 50) fun x43=>Ias 1 x39 x43 fun x44=>Ld x44 w10 fun x45=>Ias 1 x36 x45 fun x47=>Ld x47 w10 fun x48=>Sst a0 (some at_24) none fun x50=>Cl P F.balerref10_Get #[x48, x50] w10 fun x51 w11=>Bp .lss x51 (.int .i64 0) fun x52=>Vif x52 (Bd P 131 #[(3, (.int .i64 3))] w11 fun x53=>StA 4 x1 x53 w11 fun w12=>LdA 4 x1 w12 fun x54=>R x54 w12) (Lnl l_25 fun x55=>Bp .eql x55 a2 fun x56=>Vif x56 (Bd P 131 #[(3, (.int .i64 2))] w11 fun x57=>StA 4 x1 x57 w11 fun w13=>LdA 4 x1 w13 fun x58=>R x58 w13) (Ias 1 x48 x51 fun x59=>Ld x59 w11 fun x60=>Lns x60 fun x61=>Bp .add at_24 x61 fun x62=>Bs P 103 1 #[(0, x51)] w11 fun x63 w14=>Ap P #[103, 103] 103 #[l_25, x63] w14 fun x64 w15=>Bp .sub a1 (.int .i64 1) fun x65=>Bp .eql x51 x65 fun x66=>Vif x66 (Fo 0 p_3 fun x67=>Ld x67 w15 fun x68=>Lnl x68 fun x69=>Fo 1 p_3 fun x70=>Ld x70 w15 fun x71=>Bp .mul x71 a1 fun x72=>Bp .add x69 x72 fun x73=>Bd P 131 #[(0, x64), (1, x62), (2, x73)] w15 fun x74=>StA 4 x1 x74 w15 fun w16=>LdA 4 x1 w16 fun x75=>R x75 w16) (KE [a0, a1, a2, x1, p_3, t_11] [a0, a1, a2, x1, p_3, t_11]<|next26 x62 x64 w15)))))) (fun J76=>Dr w4 fun w17=>(Fo 2 p_3 fun x77=>Ld x77 w17 fun x78=>Sst a0 (some x78) none fun x80=>Fo 1 p_3 fun x82=>Ld x82 w17 fun x83=>Cl P F.balerref14_readTables #[x80, x83, a1] w17 fun x85 w18=>New (zeroP P 168) 168 w18 fun t_86 w19=>Rk (fun w K=>Ld x82 w fun x84=>K x84) x83 w19<|Rk (fun w K=>Sst a0 (some x78) none fun x81=>K x81) x80 w19<|Rk (fun w K=>Ld x77 w fun x79=>K x79) x78 w19<|StA 3 t_86 x85 w19 fun w20=>KE [a0, a1, a2, x1, p_3] [a0, a1, a2, x1, p_3]<|J76 t_86 w20) ∧ (Fo 2 p_3 fun x87=>Ld x87 w17 fun x88=>Sst a0 (some x88) none fun x90=>Fo 1 p_3 fun x92=>Ld x92 w17 fun x93=>New (zeroP P 168) 168 w17 fun t_95 w21=>Rk (fun w K=>Ld x92 w fun x94=>K x94) x93 w21<|Rk (fun w K=>Sst a0 (some x88) none fun x91=>K x91) x90 w21<|Rk (fun w K=>Ld x87 w fun x89=>K x89) x88 w21<|Cl P F.balerref14_readTables #[x90, x93, a1] w21 fun x96 w22=>StA 3 t_95 x96 w22 fun w23=>KE [a0, a1, a2, x1, p_3] [a0, a1, a2, x1, p_3]<|J76 t_95 w23)))
theorem Tie.balerref14_Read {a0 a1 a2 : Value} (h : Vcf.balerref14_Read Tryz.prog a0 a1 a2 w R) : Cl Tryz.prog F.balerref14_Read #[a0, a1, a2] w R :=
  cl_of_vc (n := 98) (rs := [(.cell 6 131)]) (h := (.s .z (.s .z (.s (.s .z (.i (.s .z .z) .z)) (.j [8] [0, 1, 2, 6, 7] (.r (.two [0, 0, 2, 7, 0, 16, 0, 127, 0, 511] 7 8 [0, 1, 2, 3, 4, 5, 6, 7, 8, 9] [0, 1, 2, 3, 4, 5, 6, 8, 7, 9])) (.s (.s .z (.i (.s .z .z) .z)) (.s .z (.s .z (.b (.l [9, 10] [0, 1, 2, 6, 7, 8] (.b (.s (.s .z (.i (.s .z .z) .z)) (.s (.r (.staged [0, 1, 0, 4, 0, 16, 48, 124, 252, 511, 1023, 2047])) (.s .z (.s (.s .z (.i (.s .z .z) .z)) (.s (.s .z (.i (.s .z .z) .z)) (.s .z (.s .z (.s .z (.i (.s .z .z) .z)))))))))))))))))))) (args := [a0, a1, a2]) (by kernel_rfl) Tryz.func75 rfl (by kernel_rfl) rfl rfl rfl (Eq.mp (by kernel_rfl) h)

def Vcf.balerref20_codes (P : Program) (a0 a1 a2 : Value) (w : World) (R : Value → World → Prop) : Prop :=
 Bd P 173 #[(0, a1), (1, a2)] w fun x1=>New (zeroP P 173) 173 w fun r_2 w1=>StA 5 r_2 x1 w1 fun w2=>Lnl a0 fun x3=>VLoop 1 [(.int .i64 0)] w2 fun _ next5 x4 w3=>Bp .lss x4 x3 fun x6=>Vif x6 (Ias 1 a0 x4 fun x7=>Ld x7 w3 fun x8=>LdA 5 r_2 w3 fun x9=>Cl P F.balerref07_Reader_Put #[x9, x8] w3 fun x10 w4=>New (zeroP P 175) 175 w4 fun s_11 w5=>StA 8 s_11 x10 w5 fun w6=>Fo 7 s_11 fun x12=>Ld x12 w6 fun x13=>Bp .neq x13 (.int .i64 0) fun x14=>Vif x14 (Fo 7 s_11 fun x15=>Ld x15 w6 fun x16=>R x16 w6) (Fo 0 s_11 fun x17=>LdA 5 x17 w6 fun x18=>StA 5 r_2 x18 w6 fun w7=>Bp .add x4 (.int .i64 1) fun x19=>KE [r_2, a0, x3] [r_2, a0, x3]<|next5 x19 w7)) (R (.int .i64 0) w3)
theorem Tie.balerref20_codes {a0 a1 a2 : Value} (h : Vcf.balerref20_codes Tryz.prog a0 a1 a2 w R) : Cl Tryz.prog F.balerref20_codes #[a0, a1, a2] w R :=
  cl_of_vc (n := 31) (rs := [(.tmp 6)]) (h := (.s .z (.s .z (.s (.s .z (.b (.l [16] [7, 14, 15] (.s .z (.s (.i .z .z) (.s (.b (.s .z (.s .z (.s (.s .z (.i (.s .z .z) .z)) .z)))) .z)))))) (.s .z .z))))) (args := [a0, a1, a2]) (by kernel_rfl) Tryz.func76 rfl (by kernel_rfl) rfl rfl rfl (Eq.mp (by kernel_rfl) h)

def Vcf.balerref14_Some (P : Program) (a0 a1 : Value) (w : World) (R : Value → World → Prop) : Prop :=
 Cl P F.balerref13_Read #[a0] w fun x1 w1=>New (zeroP P 164) 164 w1 fun p_2 w2=>StA 5 p_2 x1 w2 fun w3=>Fo 4 p_2 fun x3=>Ld x3 w3 fun x4=>Bp .neq x4 (.int .i64 0) fun x5=>Vif x5 (R (.slice none 0 0) w3) (VJoin 1 (fun _ t_6 w4=>Fo 2 t_6 fun x7=>Ld x7 w4 fun x8=>Bp .neq x8 (.int .i64 0) fun x9=>Vif x9 (R (.slice none 0 0) w4) (Fo 2 p_2 fun x10=>Ld x10 w4 fun x11=>Fo 1 t_6 fun x12=>Ld x12 w4 fun x13=>Bp .add x11 x13 fun x14=>VLoop 2 [x14, (.slice none 0 0)] w4 fun _ next17 at_15 l_16 w5=>Lnl l_16 fun x18=>Bp .quo x18 (.int .i64 50) fun x19=>Fo 0 p_2 fun x20=>Ld x20 w5 fun x21=>Lnl x21 fun x22=>Bp .lss x19 x22 fun x23=>Vif x23 (Dr w5 fun w6=>Fo 0 t_6 fun x24=>Ld x24 w6 fun x25=>Fo 0 p_2 fun x27=>Ld x27 w6 fun x28=>Lnl l_16 fun x30=>Bp .quo x30 (.int .i64 50) fun x32=>Ias 1 x28 x32 fun x33=>Ld x33 w6 fun x34=>Ias 1 x25 x34 fun x36=>Ld x36 w6 fun x37=>Sst a0 (some at_15) none fun x39=>Cl P F.balerref10_Get #[x37, x39] w6 fun x40 w7=>Bp .lss x40 (.int .i64 0) fun x41=>Vif x41 (R l_16 w7) (Ias 1 x37 x40 fun x42=>Ld x42 w7 fun x43=>Lns x43 fun x44=>Bp .add at_15 x44 fun x45=>Bs P 103 1 #[(0, x40)] w7 fun x46 w8=>Ap P #[103, 103] 103 #[l_16, x46] w8 fun x47 w9=>Bp .sub a1 (.int .i64 1) fun x48=>Bp .eql x40 x48 fun x49=>Vif x49 (R x47 w9) (KE [a0, a1, p_2, t_6] [a0, a1, p_2, t_6]<|next17 x45 x47 w9))) (R l_16 w5))) (fun J50=>Dr w3 fun w10=>(Fo 2 p_2 fun x51=>Ld x51 w10 fun x52=>Sst a0 (some x52) none fun x54=>Fo 1 p_2 fun x56=>Ld x56 w10 fun x57=>Cl P F.balerref14_readTables #[x54, x57, a1] w10 fun x59 w11=>New (zeroP P 168) 168 w11 fun t_60 w12=>Rk (fun w K=>Ld x56 w fun x58=>K x58) x57 w12<|Rk (fun w K=>Sst a0 (some x52) none fun x55=>K x55) x54 w12<|Rk (fun w K=>Ld x51 w fun x53=>K x53) x52 w12<|StA 3 t_60 x59 w12 fun w13=>KE [a0, a1, p_2] [a0, a1, p_2]<|J50 t_60 w13) ∧ (Fo 2 p_2 fun x61=>Ld x61 w10 fun x62=>Sst a0 (some x62) none fun x64=>Fo 1 p_2 fun x66=>Ld x66 w10 fun x67=>New (zeroP P 168) 168 w10 fun t_69 w14=>Rk (fun w K=>Ld x66 w fun x68=>K x68) x67 w14<|Rk (fun w K=>Sst a0 (some x62) none fun x65=>K x65) x64 w14<|Rk (fun w K=>Ld x61 w fun x63=>K x63) x62 w14<|Cl P F.balerref14_readTables #[x64, x67, a1] w14 fun x70 w15=>StA 3 t_69 x70 w15 fun w16=>KE [a0, a1, p_2] [a0, a1, p_2]<|J50 t_69 w16)))
theorem Tie.balerref14_Some {a0 a1 : Value} (h : Vcf.balerref14_Some Tryz.prog a0 a1 w R) : Cl Tryz.prog F.balerref14_Some #[a0, a1] w R :=
  cl_of_vc (n := 75) (rs := [(.tmp 4)]) (h := (.s .z (.s .z (.s (.s .z (.i (.s .z .z) .z)) (.j [6] [0, 1, 5] (.r (.two [0, 0, 2, 7, 0, 16, 0, 127, 0, 511] 7 8 [0, 1, 2, 3, 4, 5, 6, 7, 8, 9] [0, 1, 2, 3, 4, 5, 6, 8, 7, 9])) (.s (.s .z (.i (.s .z .z) .z)) (.s .z (.s .z (.s (.b (.l [7, 8] [0, 1, 5, 6] (.s (.s .z (.i .z .z)) (.b (.s (.r (.staged [0, 1, 0, 4, 0, 16, 48, 124, 252, 511, 1023, 2047])) (.s .z (.s (.s .z (.i (.s .z .z) .z)) (.s .z (.s .z (.s .z (.i (.s .z .z) .z))))))))))) (.s .z .z)))))))))) (args := [a0, a1]) (by kernel_rfl) Tryz.func77 rfl (by kernel_rfl) rfl rfl rfl (Eq.mp (by kernel_rfl) h)

def Vcf.balerref07_Decode (P : Program) (a0 a1 a2 : Value) (w : World) (R : Value → World → Prop) : Prop :=
 VJoin 1 (fun _ x1 w1=>Vif x1 (R (.tuple #[(.slice none 0 0), (.int .i64 1)]) w1) (Bd P 173 #[(0, a1), (1, a2)] w1 fun x2=>New (zeroP P 173) 173 w1 fun r_3 w2=>StA 5 r_3 x2 w2 fun w3=>Lnl a0 fun x4=>VLoop 2 [(.slice none 0 0), (.int .i64 0)] w3 fun _ next7 out_5 x6 w4=>Bp .lss x6 x4 fun x8=>Vif x8 (Ias 1 a0 x6 fun x9=>Ld x9 w4 fun x10=>LdA 5 r_3 w4 fun x11=>Cl P F.balerref07_Reader_Put #[x11, x10] w4 fun x12 w5=>New (zeroP P 175) 175 w5 fun s_13 w6=>StA 8 s_13 x12 w6 fun w7=>Fo 7 s_13 fun x14=>Ld x14 w7 fun x15=>Bp .eql x15 (.int .i64 7) fun x16=>Vif x16 (R (.tuple #[(.slice none 0 0), (.int .i64 25)]) w7) (Fo 7 s_13 fun x17=>Ld x17 w7 fun x18=>Bp .neq x18 (.int .i64 0) fun x19=>Vif x19 (Dr w7 fun w8=>Fo 7 s_13 fun x20=>Ld x20 w8 fun x21=>R (.tuple #[(.slice none 0 0), x21]) w8) (Fo 5 s_13 fun x23=>Ld x23 w7 fun x24=>VLoop 2 [out_5, (.int .i64 0)] w7 fun _ next27 out_25 x26 w9=>Bp .lss x26 x24 fun x28=>Vif x28 (Bs P 103 1 #[(0, (.int .i64 0))] w9 fun x29 w10=>Ap P #[103, 103] 103 #[out_25, x29] w10 fun x30 w11=>Bp .add x26 (.int .i64 1) fun x31=>KE [r_3, s_13, a0, x4, x6, x24] [r_3, s_13, a0, x4, x6, x24]<|next27 x30 x31 w11) (VJoin 1 (fun _ out_32 w12=>Fo 0 s_13 fun x33=>LdA 5 x33 w12 fun x34=>StA 5 r_3 x34 w12 fun w13=>Bp .add x6 (.int .i64 1) fun x35=>KE [r_3, a0, x4] [r_3, a0, x4]<|next7 out_32 x35 w13) (fun J36=>Fo 6 s_13 fun x37=>Ld x37 w9 fun x38=>Bp .geq x38 (.int .i64 0) fun x39=>Vif x39 (Fo 6 s_13 fun x40=>Ld x40 w9 fun x41=>Bs P 103 1 #[(0, x41)] w9 fun x42 w14=>Ap P #[103, 103] 103 #[out_25, x42] w14 fun x43 w15=>KE [r_3, s_13, a0, x4, x6] [r_3, s_13, a0, x4, x6]<|J36 x43 w15) (KE [r_3, s_13, a0, x4, x6] [r_3, s_13, a0, x4, x6]<|J36 out_25 w9)))))) (Fo 4 r_3 fun x44=>Ld x44 w4 fun x45=>Up .not x45 fun x46=>Vif x46 (R (.tuple #[(.slice none 0 0), (.int .i64 24)]) w4) (R (.tuple #[out_5, (.int .i64 0)]) w4)))) (fun J47=>Bp .lss a1 (.int .i64 1) fun x48=>Vif x48 (KE [a0, a1, a2] [a0, a1, a2]<|J47 (.bool true) w) (Bp .gtr a1 (.int .i64 256) fun x49=>Vif x49 (KE [a0, a1, a2] [a0, a1, a2]<|J47 (.bool true) w) (Bp .lss a2 (.int .i64 0) fun x50=>Vif x50 (KE [a0, a1, a2] [a0, a1, a2]<|J47 (.bool true) w) (Bp .gtr a2 (.int .i64 1099511627776) fun x51=>KE [a0, a1, a2] [a0, a1, a2]<|J47 x51 w))))
theorem Tie.balerref07_Decode {a0 a1 a2 : Value} (h : Vcf.balerref07_Decode Tryz.prog a0 a1 a2 w R) : Cl Tryz.prog F.balerref07_Decode #[a0, a1, a2] w R :=
  cl_of_vc (n := 70) (rs := [(.tmp 6), (.tmp 7)]) (h := (.s .z (.s (.j [26] [0, 1, 2] .z (.i (.s .z .z) .z)) (.s .z (.s .z (.s (.s .z (.b (.l [9, 32] [8, 30, 31] (.s .z (.s (.i .z .z) (.s (.b (.s .z (.s .z (.s (.s .z (.i (.s .z .z) .z)) (.s (.s .z (.i (.s (.r (.staged [0, 1, 0, 7])) .z) .z)) (.s (.s .z (.b (.l [9, 49] [8, 12, 30, 31, 32, 48] (.s .z (.s (.i .z .z) (.s (.b .z) .z)))))) (.j [9] [8, 12, 30, 31, 32] (.s .z (.i .z .z)) .z))))))) .z)))))) (.s (.s .z (.i (.s .z .z) .z)) (.s .z .z)))))))) (args := [a0, a1, a2]) (by kernel_rfl) Tryz.func78 rfl (by kernel_rfl) rfl rfl rfl (Eq.mp (by kernel_rfl) h)

def Vcf.balerref06_Decode (P : Program) (a0 a1 : Value) (w : World) (R : Value → World → Prop) : Prop :=
 Cl P F.balerref05_Is #[a1] w fun x1 w1=>Up .not x1 fun x2=>Vif x2 (R (.tuple #[(.string ⟨#[]⟩), (.int .i64 1)]) w1) (Lnl a0 fun x3=>VLoop 3 [(.string ⟨#[]⟩), a1, (.int .i64 0)] w1 fun _ next7 out_4 order_5 x6 w2=>Bp .lss x6 x3 fun x8=>Vif x8 (Ias 1 a0 x6 fun x9=>Ld x9 w2 fun x10=>VJoin 1 (fun _ x11 w3=>Vif x11 (R (.tuple #[(.string ⟨#[]⟩), (.int .i64 1)]) w3) (Bp .add x10 (.int .i64 1) fun x12=>Sst order_5 (some x10) (some x12) fun x13=>Bp .add out_4 x13 fun x14=>Cl P F.balerref06_Touch #[order_5, x10] w3 fun x15 w4=>Bp .add x6 (.int .i64 1) fun x16=>KE [a0, x3] [a0, x3]<|next7 x14 x15 x16 w4)) (fun J17=>Bp .lss x10 (.int .i64 0) fun x18=>Vif x18 (KE [out_4, order_5, x10, a0, x3, x6] [out_4, order_5, x10, a0, x3, x6]<|J17 (.bool true) w2) (Lns order_5 fun x19=>Bp .geq x10 x19 fun x20=>KE [out_4, order_5, x10, a0, x3, x6] [out_4, order_5, x10, a0, x3, x6]<|J17 x20 w2))) (R (.tuple #[out_4, (.int .i64 0)]) w2))
theorem Tie.balerref06_Decode {a0 a1 : Value} (h : Vcf.balerref06_Decode Tryz.prog a0 a1 w R) : Cl Tryz.prog F.balerref06_Decode #[a0, a1] w R :=
  cl_of_vc (n := 40) (rs := [(.tmp 4), (.tmp 5)]) (h := (.s .z (.s (.s .z (.i (.s .z .z) .z)) (.s .z (.s .z (.s (.s .z (.b (.l [6, 7, 16] [14, 15] (.s .z (.s (.i .z .z) (.s (.b (.s .z (.s (.j [27] [6, 7, 9, 14, 15, 16] .z (.i (.s .z .z) .z)) (.s .z .z)))) .z)))))) (.s .z .z))))))) (args := [a0, a1]) (by kernel_rfl) Tryz.func79 rfl (by kernel_rfl) rfl rfl rfl (Eq.mp (by kernel_rfl) h)

def Vcf.picks_Reader_Picks (P : Program) (a0 : Value) (w : World) (R : Value → World → Prop) : Prop :=
 Bn P 181 false a0 (.pointer none) fun x1=>Vif x1 (R (.slice none 0 0) w) (Nc a0<|Fo 8 a0 fun x2=>Ld x2 w fun x3=>Cl P F.slices_Clone_int_int #[x3] w fun x4 w1=>R x4 w1)
theorem Tie.picks_Reader_Picks {a0 : Value} (h : Vcf.picks_Reader_Picks Tryz.prog a0 w R) : Cl Tryz.prog F.picks_Reader_Picks #[a0] w R :=
  cl_of_vc (n := 10) (rs := [(.tmp 2)]) (h := (.s .z (.s (.s .z (.i (.s .z .z) .z)) (.s .z .z)))) (args := [a0]) (by kernel_rfl) Tryz.func80 rfl (by kernel_rfl) rfl rfl rfl (Eq.mp (by kernel_rfl) h)

def Vcf.bits_Reader_Get (P : Program) (a0 a1 : Value) (w : World) (R : Value → World → Prop) : Prop :=
 Bn P 75 false a0 (.pointer none) fun x1=>Vif x1 (R (.tuple #[(.int .u32 0), (.int .i64 7)]) w) (VJoin 1 (fun _ x2 w1=>Vif x2 (R (.tuple #[(.int .u32 0), (.int .i64 1)]) w1) (Cl P F.bits_Reader_Left #[a0] w1 fun x3 w2=>Bp .lss x3 a1 fun x4=>Vif x4 (R (.tuple #[(.int .u32 0), (.int .i64 3)]) w2) (VLoop 2 [(.int .u32 0), (.int .i64 0)] w2 fun _ next7 v_5 x6 w3=>Bp .lss x6 a1 fun x8=>Vif x8 (Bp .shl v_5 (.int .u64 1) fun x9=>Nc a0<|Fo 2 a0 fun x10=>Ld x10 w3 fun x11=>Cl P F.bits_Reader_bit #[a0, x11] w3 fun x12 w4=>Bp .or x9 x12 fun x13=>Nc a0<|Fo 2 a0 fun x14=>Ld x14 w4 fun x15=>Bp .add x15 (.int .i64 1) fun x16=>Nc a0<|Fo 2 a0 fun x17=>St x17 x16 w4 fun w5=>Bp .add x6 (.int .i64 1) fun x18=>KE [a0, a1] [a0, a1]<|next7 x13 x18 w5) (R (.tuple #[v_5, (.int .i64 0)]) w3)))) (fun J19=>Bp .lss a1 (.int .i64 0) fun x20=>Vif x20 (KE [a0, a1] [a0, a1]<|J19 (.bool true) w) (Bp .gtr a1 (.int .i64 32) fun x21=>KE [a0, a1] [a0, a1]<|J19 x21 w)))
theorem Tie.bits_Reader_Get {a0 a1 : Value} (h : Vcf.bits_Reader_Get Tryz.prog a0 a1 w R) : Cl Tryz.prog F.bits_Reader_Get #[a0, a1] w R :=
  cl_of_vc (n := 43) (rs := [(.tmp 4), (.tmp 5)]) (h := (.s .z (.s (.b (.s .z (.i (.s .z .z) (.j [10] [0, 1] .z (.i (.s .z .z) (.s .z (.i (.s .z .z) .z))))))) (.s .z (.s (.s .z (.b (.l [6, 23] [0, 22] (.s .z (.s (.i .z .z) (.s (.b (.s .z .z)) .z)))))) (.s .z .z)))))) (args := [a0, a1]) (by kernel_rfl) Tryz.func81 rfl (by kernel_rfl) rfl rfl rfl (Eq.mp (by kernel_rfl) h)

def Vcf.block_NewReader (P : Program) (a0 : Value) (w : World) (R : Value → World → Prop) : Prop :=
 VJoin 1 (fun _ x1 w1=>Vif x1 (R (.tuple #[(.pointer none), (.int .i64 1)]) w1) (Bd P 96 #[(1, a0)] w1 fun x2=>New x2 96 w1 fun x3 w2=>R (.tuple #[x3, (.int .i64 0)]) w2)) (fun J4=>Bp .lss a0 (.int .i64 5) fun x5=>Vif x5 (KE [a0] [a0]<|J4 (.bool true) w) (Bp .gtr a0 (.int .i64 900000) fun x6=>KE [a0] [a0]<|J4 x6 w))
theorem Tie.block_NewReader {a0 : Value} (h : Vcf.block_NewReader Tryz.prog a0 w R) : Cl Tryz.prog F.block_NewReader #[a0] w R :=
  cl_of_vc (n := 13) (rs := [(.tmp 2), (.tmp 3)]) (h := (.s .z (.s (.j [9] [0] .z (.i (.s .z .z) .z)) (.s .z .z)))) (args := [a0]) (by kernel_rfl) Tryz.func82 rfl (by kernel_rfl) rfl rfl rfl (Eq.mp (by kernel_rfl) h)

def Vcf.block_Reader_Step (P : Program) (a0 a1 : Value) (w : World) (R : Value → World → Prop) : Prop :=
 VJoin 1 (fun _ x1 w1=>Vif x1 (R (.int .i64 7) w1) (Nc a0<|Fo 7 a0 fun x2=>Ld x2 w1 fun x3=>Bp .neq x3 (.int .i64 0) fun x4=>Vif x4 (Nc a0<|Fo 7 a0 fun x5=>Ld x5 w1 fun x6=>R x6 w1) (Cl P F.block_Reader_step #[a0, a1] w1 fun x7 w2=>Bp .neq x7 (.int .i64 3) fun x8=>Vif x8 (Nc a0<|Fo 7 a0 fun x9=>St x9 x7 w2 fun w3=>R x7 w3) (R x7 w2)))) (fun J10=>Bn P 96 false a0 (.pointer none) fun x11=>Vif x11 (KE [a0, a1] [a0, a1]<|J10 (.bool true) w) (Bn P 75 false a1 (.pointer none) fun x12=>Vif x12 (KE [a0, a1] [a0, a1]<|J10 (.bool true) w) (Nc a0<|Fo 6 a0 fun x13=>Ld x13 w fun x14=>KE [a0, a1] [a0, a1]<|J10 x14 w)))
theorem Tie.block_Reader_Step {a0 a1 : Value} (h : Vcf.block_Reader_Step Tryz.prog a0 a1 w R) : Cl Tryz.prog F.block_Reader_Step #[a0, a1] w R :=
  cl_of_vc (n := 39) (rs := [(.tmp 4)]) (h := (.s .z (.s (.b (.j [6] [0, 1] .z (.i (.s .z .z) (.s .z (.i (.s .z .z) .z))))) (.s .z (.s (.s .z (.i .z .z)) (.s .z .z)))))) (args := [a0, a1]) (by kernel_rfl) Tryz.func83 rfl (by kernel_rfl) rfl rfl rfl (Eq.mp (by kernel_rfl) h)

def Vcf.block_Reader_Done (P : Program) (a0 : Value) (w : World) (R : Value → World → Prop) : Prop :=
 Bn P 96 true a0 (.pointer none) fun x1=>Vif x1 (Nc a0<|Fo 6 a0 fun x2=>Ld x2 w fun x3=>R x3 w) (R (.bool false) w)
theorem Tie.block_Reader_Done {a0 : Value} (h : Vcf.block_Reader_Done Tryz.prog a0 w R) : Cl Tryz.prog F.block_Reader_Done #[a0] w R :=
  cl_of_vc (n := 11) (rs := [(.tmp 2)]) (h := (.s .z (.s .z .z))) (args := [a0]) (by kernel_rfl) Tryz.func84 rfl (by kernel_rfl) rfl rfl rfl (Eq.mp (by kernel_rfl) h)

def Vcf.block_Reader_Got (P : Program) (a0 : Value) (w : World) (R : Value → World → Prop) : Prop :=
 New (zeroP P 40) 40 w fun x1 w1=>Cl P F.block_Reader_Done #[a0] w1 fun x2 w2=>Up .not x2 fun x3=>Vif x3 (Bd P 40 #[] w2 fun x4=>StA 3 x1 x4 w2 fun w3=>LdA 3 x1 w3 fun x5=>R x5 w3) (Dr w2 fun w4=>Nc a0<|Fo 5 a0 fun x6=>Ld x6 w4 fun x7=>Cv P 53 9 x7 w4 fun x9=>Nc a0<|Fo 4 a0 fun x11=>Ld x11 w4 fun x12=>Nc a0<|Fo 3 a0 fun x14=>Ld x14 w4 fun x15=>Bd P 40 #[(0, x9), (1, x12), (2, x15)] w4 fun x17=>StA 3 x1 x17 w4 fun w5=>LdA 3 x1 w5 fun x19=>R x19 w5)
theorem Tie.block_Reader_Got {a0 : Value} (h : Vcf.block_Reader_Got Tryz.prog a0 w R) : Cl Tryz.prog F.block_Reader_Got #[a0] w R :=
  cl_of_vc (n := 21) (rs := [(.cell 2 40)]) (h := (.s .z (.s (.s .z (.i (.s .z .z) .z)) (.s (.r (.staged [0, 1, 3, 7, 15, 0, 32, 96, 224, 0, 512, 1536, 3584, 8191, 16383])) .z)))) (args := [a0]) (by kernel_rfl) Tryz.func85 rfl (by kernel_rfl) rfl rfl rfl (Eq.mp (by kernel_rfl) h)

def Vcf.crc_Combine (P : Program) (a0 a1 : Value) (w : World) (R : Value → World → Prop) : Prop :=
 Bp .shl a0 (.int .u64 1) fun x1=>Bp .shr a0 (.int .u64 31) fun x2=>Bp .xor x1 x2 fun x3=>Bp .xor x3 a1 fun x4=>R x4 w
theorem Tie.crc_Combine {a0 a1 : Value} (h : Vcf.crc_Combine Tryz.prog a0 a1 w R) : Cl Tryz.prog F.crc_Combine #[a0, a1] w R :=
  cl_of_vc (n := 12) (rs := [(.tmp 4)]) (h := (.s .z (.s .z .z))) (args := [a0, a1]) (by kernel_rfl) Tryz.func86 rfl (by kernel_rfl) rfl rfl rfl (Eq.mp (by kernel_rfl) h)

def Vcf.bits_Reader_Align (P : Program) (a0 : Value) (w : World) (R : Value → World → Prop) : Prop :=
 VLoop 0 [] w fun _ next1 w1=>VJoin 1 (fun _ x2 w2=>Vif x2 (Nc a0<|Fo 2 a0 fun x3=>Ld x3 w2 fun x4=>Bp .add x4 (.int .i64 1) fun x5=>Nc a0<|Fo 2 a0 fun x6=>St x6 x5 w2 fun w3=>KE [a0] [a0]<|next1 w3) (R (.tuple #[]) w2)) (fun J7=>Bn P 75 true a0 (.pointer none) fun x8=>Vif x8 (Nc a0<|Fo 2 a0 fun x9=>Ld x9 w1 fun x10=>Bp .rem x10 (.int .i64 8) fun x11=>Bp .neq x11 (.int .i64 0) fun x12=>KE [a0] [a0]<|J7 x12 w1) (KE [a0] [a0]<|J7 (.bool false) w1))
theorem Tie.bits_Reader_Align {a0 : Value} (h : Vcf.bits_Reader_Align Tryz.prog a0 w R) : Cl Tryz.prog F.bits_Reader_Align #[a0] w R :=
  cl_of_vc (n := 19) (rs := []) (h := (.b (.l [] [0] (.s (.j [11] [0] .z (.i .z .z)) (.b .z))))) (args := [a0]) (by kernel_rfl) Tryz.func87 rfl (by kernel_rfl) rfl rfl rfl (Eq.mp (by kernel_rfl) h)

def Vcf.balerref02_Bits (P : Program) (a0 : Value) (w : World) (R : Value → World → Prop) : Prop :=
 VLoop 2 [a0, (.int .i64 0)] w fun _ next3 x1 x2 w1=>Bp .lss x2 (.int .i64 8) fun x4=>Vif x4 (Bp .geq x1 (.int .u32 2147483648) fun x5=>Vif x5 (Bp .sub x1 (.int .u32 2147483648) fun x6=>Bp .mul x6 (.int .u32 2) fun x7=>Bp .xor x7 (.int .u32 79764919) fun x8=>Bp .add x2 (.int .i64 1) fun x9=>KE [] []<|next3 x8 x9 w1) (Bp .mul x1 (.int .u32 2) fun x10=>Bp .add x2 (.int .i64 1) fun x11=>KE [] []<|next3 x10 x11 w1)) (R x1 w1)
theorem Tie.balerref02_Bits {a0 : Value} (h : Vcf.balerref02_Bits Tryz.prog a0 w R) : Cl Tryz.prog F.balerref02_Bits #[a0] w R :=
  cl_of_vc (n := 15) (rs := [(.tmp 2)]) (h := (.s .z (.s (.s .z (.b (.l [0, 3] [] (.s .z (.s (.i .z .z) (.s (.b (.s .z (.i .z .z))) .z)))))) (.s .z .z)))) (args := [a0]) (by kernel_rfl) Tryz.func88 rfl (by kernel_rfl) rfl rfl rfl (Eq.mp (by kernel_rfl) h)

def Vcf.balerref05_Symbols (P : Program) (a0 : Value) (w : World) (R : Value → World → Prop) : Prop :=
 VLoop 2 [(.string ⟨#[]⟩), (.int .i64 0)] w fun _ next3 out_1 x2 w1=>Bp .lss x2 (.int .i64 256) fun x4=>Vif x4 (Cl P F.balerref05_There #[a0, x2] w1 fun x5 w2=>Vif x5 (Ci .u8 x2 fun x6=>Bs P 53 1 #[(0, x6)] w2 fun x7 w3=>Cw P 53 9 x7 w3 fun x8 w4=>Bp .add out_1 x8 fun x9=>Bp .add x2 (.int .i64 1) fun x10=>KE [a0] [a0]<|next3 x9 x10 w4) (Bp .add x2 (.int .i64 1) fun x11=>KE [a0] [a0]<|next3 out_1 x11 w2)) (R out_1 w1)
theorem Tie.balerref05_Symbols {a0 : Value} (h : Vcf.balerref05_Symbols Tryz.prog a0 w R) : Cl Tryz.prog F.balerref05_Symbols #[a0] w R :=
  cl_of_vc (n := 19) (rs := [(.tmp 2)]) (h := (.s .z (.s .z (.s (.s .z (.b (.l [3, 5] [0] (.s .z (.s (.i .z .z) (.s (.b (.s .z (.s .z (.i .z .z)))) .z)))))) (.s .z .z))))) (args := [a0]) (by kernel_rfl) Tryz.func92 rfl (by kernel_rfl) rfl rfl rfl (Eq.mp (by kernel_rfl) h)

def Vcf.unbwt_Inverter_Done (P : Program) (a0 : Value) (w : World) (R : Value → World → Prop) : Prop :=
 Dr w fun w1=>Bn P 157 true a0 (.pointer none) fun x1=>Vif x1 (Nc a0<|Fo 260 a0 fun x2=>Ld x2 w1 fun x3=>Nc a0<|Fo 0 a0 fun x5=>Ld x5 w1 fun x6=>Lns x6 fun x8=>Bp .mul (.int .i64 3) x8 fun x10=>Bp .eql x3 x10 fun x11=>R x11 w1) (R (.bool false) w1)
theorem Tie.unbwt_Inverter_Done {a0 : Value} (h : Vcf.unbwt_Inverter_Done Tryz.prog a0 w R) : Cl Tryz.prog F.unbwt_Inverter_Done #[a0] w R :=
  cl_of_vc (n := 18) (rs := [(.tmp 2)]) (h := (.s .z (.s (.r (.staged [0, 1, 3, 7, 15, 31, 63, 7, 135, 391, 903, 1927, 3975, 8191, 16383, 32767])) .z))) (args := [a0]) (by kernel_rfl) Tryz.func97 rfl (by kernel_rfl) rfl rfl rfl (Eq.mp (by kernel_rfl) h)

def Vcf.unbwt_Inverter_step (P : Program) (a0 : Value) (w : World) (R : Value → World → Prop) : Prop :=
 Nc a0<|Fo 0 a0 fun x1=>Ld x1 w fun x2=>Lns x2 fun x3=>Nc a0<|Fo 260 a0 fun x4=>Ld x4 w fun x5=>Bp .rem x5 x3 fun x6=>VJoin 0 (fun _ w1=>Nc a0<|Fo 260 a0 fun x7=>Ld x7 w1 fun x8=>Bp .add x8 (.int .i64 1) fun x9=>Nc a0<|Fo 260 a0 fun x10=>St x10 x9 w1 fun w2=>R (.tuple #[]) w2) (fun J11=>Nc a0<|Fo 260 a0 fun x12=>Ld x12 w fun x13=>Bp .quo x13 x3 fun x14=>Bp .eql x14 (.int .i64 0) fun x15=>Vif x15 (Dr w fun w3=>Nc a0<|Fo 0 a0 fun x16=>Ld x16 w3 fun x17=>Ixs x17 x6 fun x19=>Nc a0<|Fo 1 a0 fun x20=>Iaa 256 1 x20 x19 fun x21=>Ld x21 w3 fun x22=>Bp .add x22 (.int .i64 1) fun x24=>Nc a0<|Fo 1 a0 fun x25=>Iaa 256 1 x25 x19 fun x26=>St x26 x24 w3 fun w4=>Bp .sub x3 (.int .i64 1) fun x27=>Bp .eql x6 x27 fun x28=>Vif x28 (Cl P F.unbwt_Inverter_begins #[a0] w4 fun x29 w5=>KE [a0] [a0]<|J11 w5) (KE [a0] [a0]<|J11 w4)) (Bp .eql x14 (.int .i64 1) fun x30=>Vif x30 (Nc a0<|Fo 0 a0 fun x31=>Ld x31 w fun x32=>Ixs x32 x6 fun x33=>Dr w fun w6=>Nc a0<|Fo 257 a0 fun x34=>Ld x34 w6 fun x35=>Nc a0<|Fo 1 a0 fun x37=>Iaa 256 1 x37 x33 fun x38=>Ld x38 w6 fun x39=>Ias 1 x35 x39 fun x41=>St x41 x6 w6 fun w7=>Dr w7 fun w8=>Nc a0<|Fo 1 a0 fun x42=>Iaa 256 1 x42 x33 fun x43=>Ld x43 w8 fun x44=>Bp .add x44 (.int .i64 1) fun x46=>Nc a0<|Fo 1 a0 fun x47=>Iaa 256 1 x47 x33 fun x48=>St x48 x46 w8 fun w9=>KE [a0] [a0]<|J11 w9) (Dr w fun w10=>Nc a0<|Fo 257 a0 fun x49=>Ld x49 w10 fun x50=>Nc a0<|Fo 258 a0 fun x52=>Ld x52 w10 fun x53=>Ias 1 x50 x53 fun x55=>Ld x55 w10 fun x56=>Nc a0<|Fo 258 a0 fun x58=>St x58 x56 w10 fun w11=>Dr w11 fun w12=>Nc a0<|Fo 259 a0 fun x59=>Ld x59 w12 fun x60=>Nc a0<|Fo 0 a0 fun x62=>Ld x62 w12 fun x63=>Nc a0<|Fo 258 a0 fun x65=>Ld x65 w12 fun x66=>Ixs x63 x66 fun x68=>Bs P 53 1 #[(0, x68)] w12 fun x69 w13=>Rk (fun w K=>Ld x59 w fun x61=>K x61) x60 w13<|Ap P #[53, 53] 53 #[x60, x69] w13 fun x70 w14=>Nc a0<|Fo 259 a0 fun x71=>St x71 x70 w14 fun w15=>KE [a0] [a0]<|J11 w15)))
theorem Tie.unbwt_Inverter_step {a0 : Value} (h : Vcf.unbwt_Inverter_step Tryz.prog a0 w R) : Cl Tryz.prog F.unbwt_Inverter_step #[a0] w R :=
  cl_of_vc (n := 113) (rs := []) (h := (.s .z (.s .z (.j [] [0] (.s .z (.b (.s .z (.i (.s (.r (.staged [0, 0, 2, 6, 14, 0, 62, 1, 129, 511, 1023, 2047, 1, 4097, 16383, 32767])) (.s .z (.i .z .z))) (.s .z (.i (.s .z (.s (.r (.staged [0, 1, 3, 7, 0, 0, 16, 80, 240, 496, 0, 2047, 4095])) (.r (.staged [0, 0, 1, 5, 15, 31, 63, 1, 129, 511, 1023])))) (.s (.r (.staged [0, 0, 2, 6, 14, 0, 32, 96, 224, 510, 1022, 2047, 4095, 8191])) (.r (.staged [0, 0, 2, 6, 14, 0, 32, 96, 224, 0, 512, 1536, 3584, 8160, 16352, 32766, 65535, 131071, 262143]))))))))) .z)))) (args := [a0]) (by kernel_rfl) Tryz.func98 rfl (by kernel_rfl) rfl rfl rfl (Eq.mp (by kernel_rfl) h)

def Vcf.crc_Table (P : Program) (w : World) (R : Value → World → Prop) : Prop :=
 New (zeroP P 158) 158 w fun x1 w1=>New (zeroP P 158) 158 w1 fun out_2 w2=>VLoop 1 [(.int .i64 0)] w2 fun _ next4 x3 w3=>Bp .lss x3 (.int .i64 256) fun x5=>Vif x5 (Ci .u32 x3 fun x6=>Bp .shl x6 (.int .u64 24) fun x7=>VLoop 2 [x7, (.int .i64 0)] w3 fun _ next10 sum_8 x9 w4=>Bp .lss x9 (.int .i64 8) fun x11=>Vif x11 (Bp .shr sum_8 (.int .u64 31) fun x12=>Bp .shl sum_8 (.int .u64 1) fun x13=>Bp .mul x12 (.int .u32 79764919) fun x14=>Bp .xor x13 x14 fun x15=>Bp .add x9 (.int .i64 1) fun x16=>KE [x1, out_2, x3, x3] [x1, out_2, x3, x3]<|next10 x15 x16 w4) (Iaa 256 1 out_2 x3 fun x17=>St x17 sum_8 w4 fun w5=>Bp .add x3 (.int .i64 1) fun x18=>KE [x1, out_2] [x1, out_2]<|next4 x18 w5)) (LdA 256 out_2 w3 fun x19=>StA 256 x1 x19 w3 fun w6=>LdA 256 x1 w6 fun x20=>R x20 w6)
theorem Tie.crc_Table (h : Vcf.crc_Table Tryz.prog w R) : Cl Tryz.prog F.crc_Table #[] w R :=
  cl_of_vc (n := 26) (rs := [(.cell 0 158)]) (h := (.s .z (.s .z (.s (.s .z (.b (.l [5] [0, 1] (.s .z (.s (.i .z .z) (.s (.b (.s .z (.s .z (.s (.s .z (.b (.l [3, 11] [0, 1, 2, 5] (.s .z (.s (.i .z .z) (.s (.b (.s .z .z)) .z)))))) .z)))) .z)))))) (.s .z .z))))) (args := []) (by kernel_rfl) Tryz.func99 rfl (by kernel_rfl) rfl rfl rfl (Eq.mp (by kernel_rfl) h)

def Vcf.crc_Sum_Put (P : Program) (a0 a1 : Value) (w : World) (R : Value → World → Prop) : Prop :=
 Bn P 161 true a0 (.pointer none) fun x1=>Vif x1 (Dr w fun w1=>Nc a0<|Fo 0 a0 fun x2=>Nc a0<|Fo 256 a0 fun x3=>Ld x3 w1 fun x4=>Cl P F.crc_step #[x2, x4, a1] w1 fun x6 w2=>Nc a0<|Fo 256 a0 fun x7=>St x7 x6 w2 fun w3=>R (.tuple #[]) w3) (R (.tuple #[]) w)
theorem Tie.crc_Sum_Put {a0 a1 : Value} (h : Vcf.crc_Sum_Put Tryz.prog a0 a1 w R) : Cl Tryz.prog F.crc_Sum_Put #[a0, a1] w R :=
  cl_of_vc (n := 18) (rs := []) (h := (.s .z (.i (.r (.staged [0, 0, 2, 6, 0, 16, 48, 112, 0, 510, 1023, 2047, 4095])) .z))) (args := [a0, a1]) (by kernel_rfl) Tryz.func100 rfl (by kernel_rfl) rfl rfl rfl (Eq.mp (by kernel_rfl) h)

def Vcf.balerref13_Read (P : Program) (a0 : Value) (w : World) (R : Value → World → Prop) : Prop :=
 New (zeroP P 164) 164 w fun x1 w1=>Lns a0 fun x2=>Bp .lss x2 (.int .i64 18) fun x3=>Vif x3 (Bd P 164 #[(4, (.int .i64 3))] w1 fun x4=>StA 5 x1 x4 w1 fun w2=>LdA 5 x1 w2 fun x5=>R x5 w2) (Sst a0 none (some (.int .i64 3)) fun x6=>Cl P F.balerref01_Number #[x6] w1 fun x7 w3=>Ci .i64 x7 fun x8=>Sst a0 (some (.int .i64 3)) (some (.int .i64 18)) fun x9=>Cl P F.balerref01_Number #[x9] w3 fun x10 w4=>Ci .i64 x10 fun x11=>VJoin 1 (fun _ x12 w5=>Vif x12 (Bd P 164 #[(3, (.int .i64 18)), (4, (.int .i64 25))] w5 fun x13=>StA 5 x1 x13 w5 fun w6=>LdA 5 x1 w6 fun x14=>R x14 w6) (VLoop 3 [(.string ⟨#[48, 49, 50, 51, 52, 53]⟩), (.slice none 0 0), (.int .i64 18)] w5 fun _ next18 order_15 l_16 at_17 w7=>Lnl l_16 fun x19=>Bp .lss x19 x11 fun x20=>Vif x20 (Sst a0 (some at_17) none fun x21=>Cl P F.balerref13_ones #[x21] w7 fun x22 w8=>Bp .geq x22 x8 fun x23=>Vif x23 (Bp .add at_17 x8 fun x24=>Bd P 164 #[(3, x24), (4, (.int .i64 25))] w8 fun x25=>StA 5 x1 x25 w8 fun w9=>LdA 5 x1 w9 fun x26=>R x26 w9) (Bp .add at_17 x22 fun x27=>Lns a0 fun x28=>Bp .eql x27 x28 fun x29=>Vif x29 (Bd P 164 #[(4, (.int .i64 3))] w8 fun x30=>StA 5 x1 x30 w8 fun w10=>LdA 5 x1 w10 fun x31=>R x31 w10) (Ixs order_15 x22 fun x32=>Ci .i64 x32 fun x33=>Bp .sub x33 (.int .i64 48) fun x34=>Bs P 103 1 #[(0, x34)] w8 fun x35 w11=>Ap P #[103, 103] 103 #[l_16, x35] w11 fun x36 w12=>Cl P F.balerref06_Touch #[order_15, x22] w12 fun x37 w13=>Bp .add at_17 x22 fun x38=>Bp .add x38 (.int .i64 1) fun x39=>KE [a0, x1, x8, x11] [a0, x1, x8, x11]<|next18 x37 x36 x39 w13))) (Bd P 164 #[(0, l_16), (1, x8), (2, at_17), (3, at_17)] w7 fun x40=>StA 5 x1 x40 w7 fun w14=>LdA 5 x1 w14 fun x41=>R x41 w14))) (fun J42=>Bp .lss x8 (.int .i64 2) fun x43=>Vif x43 (KE [a0, x1, x8, x11] [a0, x1, x8, x11]<|J42 (.bool true) w4) (Bp .gtr x8 (.int .i64 6) fun x44=>Vif x44 (KE [a0, x1, x8, x11] [a0, x1, x8, x11]<|J42 (.bool true) w4) (Bp .eql x11 (.int .i64 0) fun x45=>KE [a0, x1, x8, x11] [a0, x1, x8, x11]<|J42 x45 w4))))
theorem Tie.balerref13_Read {a0 : Value} (h : Vcf.balerref13_Read Tryz.prog a0 w R) : Cl Tryz.prog F.balerref13_Read #[a0] w R :=
  cl_of_vc (n := 74) (rs := [(.cell 2 164)]) (h := (.s .z (.s (.s .z (.i (.s .z .z) .z)) (.s .z (.s .z (.s (.j [30] [0, 2, 3, 4] .z (.i (.s .z .z) .z)) (.s .z (.s .z (.s .z (.s (.b (.l [5, 6, 7] [0, 2, 3, 4] (.s (.s .z (.i .z .z)) (.b (.s .z (.s (.s .z (.i (.s .z .z) .z)) (.s (.s .z (.i (.s .z .z) .z)) (.s .z (.s .z .z))))))))) (.s .z .z))))))))))) (args := [a0]) (by kernel_rfl) Tryz.func101 rfl (by kernel_rfl) rfl rfl rfl (Eq.mp (by kernel_rfl) h)

def Vcf.balerref14_readTables (P : Program) (a0 a1 a2 : Value) (w : World) (R : Value → World → Prop) : Prop :=
 New (zeroP P 168) 168 w fun x1 w1=>Bd P 168 #[] w1 fun x2=>New (zeroP P 168) 168 w1 fun out_3 w2=>StA 3 out_3 x2 w2 fun w3=>VLoop 1 [(.int .i64 0)] w3 fun _ next5 x4 w4=>Bp .lss x4 a1 fun x6=>Vif x6 (Fo 1 out_3 fun x7=>Ld x7 w4 fun x8=>Sst a0 (some x8) none fun x9=>Cl P F.balerref11_Read #[x9, a2] w4 fun x10 w5=>New (zeroP P 195) 195 w5 fun g_11 w6=>StA 3 g_11 x10 w6 fun w7=>Fo 2 g_11 fun x12=>Ld x12 w7 fun x13=>Bp .neq x13 (.int .i64 0) fun x14=>Vif x14 (Fo 0 out_3 fun x15=>Ld x15 w7 fun x16=>Fo 2 g_11 fun x17=>Ld x17 w7 fun x18=>Bd P 168 #[(0, x16), (2, x18)] w7 fun x19=>StA 3 x1 x19 w7 fun w8=>LdA 3 x1 w8 fun x20=>R x20 w8) (Fo 1 out_3 fun x21=>Ld x21 w7 fun x22=>Fo 1 g_11 fun x23=>Ld x23 w7 fun x24=>Bp .add x22 x24 fun x25=>Fo 1 out_3 fun x26=>St x26 x25 w7 fun w9=>Fo 0 g_11 fun x27=>Ld x27 w9 fun x28=>Cl P F.balerref10_Whole #[x28] w9 fun x29 w10=>Up .not x29 fun x30=>Vif x30 (Fo 0 out_3 fun x31=>Ld x31 w10 fun x32=>Bd P 168 #[(0, x32), (2, (.int .i64 22))] w10 fun x33=>StA 3 x1 x33 w10 fun w11=>LdA 3 x1 w11 fun x34=>R x34 w11) (Dr w10 fun w12=>Fo 0 out_3 fun x35=>Ld x35 w12 fun x36=>Fo 0 g_11 fun x38=>Ld x38 w12 fun x39=>Cl P F.balerref10_Codes #[x39] w12 fun x41 w13=>Rk (fun w K=>Ld x35 w fun x37=>K x37) x36 w13<|Bs P 166 1 #[(0, x41)] w13 fun x42 w14=>Rk (fun w K=>Ld x35 w fun x37=>K x37) x36 w14<|Ap P #[166, 166] 166 #[x36, x42] w14 fun x43 w15=>Fo 0 out_3 fun x44=>St x44 x43 w15 fun w16=>Bp .add x4 (.int .i64 1) fun x45=>KE [a0, a2, x1, out_3, a1] [a0, a2, x1, out_3, a1]<|next5 x45 w16))) (LdA 3 out_3 w4 fun x46=>StA 3 x1 x46 w4 fun w17=>LdA 3 x1 w17 fun x47=>R x47 w17)
theorem Tie.balerref14_readTables {a0 a1 a2 : Value} (h : Vcf.balerref14_readTables Tryz.prog a0 a1 a2 w R) : Cl Tryz.prog F.balerref14_readTables #[a0, a1, a2] w R :=
  cl_of_vc (n := 50) (rs := [(.cell 6 168)]) (h := (.s .z (.s .z (.s (.s .z (.b (.l [11] [0, 2, 6, 7, 10] (.s .z (.s (.i .z .z) (.s (.b (.s .z (.s (.s .z (.i (.s .z .z) .z)) (.s .z (.s (.s .z (.i (.s .z .z) .z)) (.r (.staged [0, 1, 0, 4, 12, 28, 63, 127, 255]))))))) .z)))))) (.s .z .z))))) (args := [a0, a1, a2]) (by kernel_rfl) Tryz.func102 rfl (by kernel_rfl) rfl rfl rfl (Eq.mp (by kernel_rfl) h)

def Vcf.balerref10_Get (P : Program) (a0 a1 : Value) (w : World) (R : Value → World → Prop) : Prop :=
 Lnl a0 fun x1=>VLoop 1 [(.int .i64 0)] w fun _ next3 x2 w1=>Bp .lss x2 x1 fun x4=>Vif x4 (Ias 1 a0 x2 fun x5=>Ld x5 w1 fun x6=>Cl P F.balerref10_Begins #[a1, x6] w1 fun x7 w2=>Vif x7 (R x2 w2) (Bp .add x2 (.int .i64 1) fun x8=>KE [a1, a0, x1] [a1, a0, x1]<|next3 x8 w2)) (R (.int .i64 (-1)) w1)
theorem Tie.balerref10_Get {a0 a1 : Value} (h : Vcf.balerref10_Get Tryz.prog a0 a1 w R) : Cl Tryz.prog F.balerref10_Get #[a0, a1] w R :=
  cl_of_vc (n := 19) (rs := [(.tmp 4)]) (h := (.s .z (.s (.s .z (.b (.l [9] [1, 7, 8] (.s .z (.s (.i .z .z) (.s (.b (.s .z (.s .z (.i (.s .z .z) .z)))) .z)))))) (.s .z .z)))) (args := [a0, a1]) (by kernel_rfl) Tryz.func103 rfl (by kernel_rfl) rfl rfl rfl (Eq.mp (by kernel_rfl) h)

def Vcf.balerref07_Reader_Put (P : Program) (a0 a1 : Value) (w : World) (R : Value → World → Prop) : Prop :=
 New a0 173 w fun r_1 w1=>New (zeroP P 175) 175 w1 fun x2 w2=>Fo 4 r_1 fun x3=>Ld x3 w2 fun x4=>Vif x4 (LdA 5 r_1 w2 fun x5=>Bd P 175 #[(0, x5), (3, (.int .i64 7))] w2 fun x6=>StA 8 x2 x6 w2 fun w3=>LdA 8 x2 w3 fun x7=>R x7 w3) (VJoin 1 (fun _ x8 w4=>Vif x8 (LdA 5 r_1 w4 fun x9=>Bd P 175 #[(0, x9), (3, (.int .i64 25))] w4 fun x10=>StA 8 x2 x10 w4 fun w5=>LdA 8 x2 w5 fun x11=>R x11 w5) (LdA 5 r_1 w4 fun x12=>New (zeroP P 173) 173 w4 fun next_13 w6=>StA 5 next_13 x12 w6 fun w7=>Bp .lss a1 (.int .i64 2) fun x14=>Vif x14 (Fo 3 r_1 fun x15=>Ld x15 w7 fun x16=>Ap P #[103, 103] 103 #[(.slice none 0 0), x16] w7 fun x17 w8=>Bs P 103 1 #[(0, a1)] w8 fun x18 w9=>Ap P #[103, 103] 103 #[x17, x18] w9 fun x19 w10=>Fo 3 next_13 fun x20=>St x20 x19 w10 fun w11=>Dr w11 fun w12=>LdA 5 next_13 w12 fun x21=>Cl P F.balerref07_Reader_Count #[x21] w12 fun x23 w13=>Fo 1 r_1 fun x24=>Ld x24 w13 fun x25=>Rk (fun w K=>Ld x24 w fun x26=>K x26) x25 w12<|Bp .gtr x23 x25 fun x28=>Vif x28 (LdA 5 r_1 w13 fun x29=>Bd P 175 #[(0, x29), (3, (.int .i64 2))] w13 fun x30=>StA 8 x2 x30 w13 fun w14=>LdA 8 x2 w14 fun x31=>R x31 w14) (LdA 5 next_13 w13 fun x32=>Bd P 175 #[(0, x32), (2, (.int .i64 (-1)))] w13 fun x33=>StA 8 x2 x33 w13 fun w15=>LdA 8 x2 w15 fun x34=>R x34 w15)) (Fo 3 r_1 fun x35=>Ld x35 w7 fun x36=>Cl P F.balerref07_Value #[x36] w7 fun x37 w16=>Fo 2 r_1 fun x38=>Ld x38 w16 fun x39=>Bp .add x39 x37 fun x40=>Fo 2 next_13 fun x41=>St x41 x40 w16 fun w17=>Fo 3 next_13 fun x42=>St x42 (.slice none 0 0) w17 fun w18=>Fo 0 r_1 fun x43=>Ld x43 w18 fun x44=>Bp .add x44 (.int .i64 1) fun x45=>Bp .eql a1 x45 fun x46=>Vif x46 (Fo 4 next_13 fun x47=>St x47 (.bool true) w18 fun w19=>LdA 5 next_13 w19 fun x48=>Bd P 175 #[(0, x48), (1, x37), (2, (.int .i64 (-1)))] w19 fun x49=>StA 8 x2 x49 w19 fun w20=>LdA 8 x2 w20 fun x50=>R x50 w20) (Fo 2 next_13 fun x51=>Ld x51 w18 fun x52=>Bp .add x52 (.int .i64 1) fun x53=>Fo 2 next_13 fun x54=>St x54 x53 w18 fun w21=>Fo 2 next_13 fun x55=>Ld x55 w21 fun x56=>Fo 1 r_1 fun x57=>Ld x57 w21 fun x58=>Bp .gtr x56 x58 fun x59=>Vif x59 (LdA 5 r_1 w21 fun x60=>Bd P 175 #[(0, x60), (3, (.int .i64 2))] w21 fun x61=>StA 8 x2 x61 w21 fun w22=>LdA 8 x2 w22 fun x62=>R x62 w22) (LdA 5 next_13 w21 fun x63=>Bp .sub a1 (.int .i64 1) fun x64=>Bd P 175 #[(0, x63), (1, x37), (2, x64)] w21 fun x65=>StA 8 x2 x65 w21 fun w23=>LdA 8 x2 w23 fun x66=>R x66 w23))))) (fun J67=>Bp .lss a1 (.int .i64 0) fun x68=>Vif x68 (KE [a1, r_1, x2] [a1, r_1, x2]<|J67 (.bool true) w2) (Fo 0 r_1 fun x69=>Ld x69 w2 fun x70=>Bp .add x70 (.int .i64 1) fun x71=>Bp .gtr a1 x71 fun x72=>KE [a1, r_1, x2] [a1, r_1, x2]<|J67 x72 w2)))
theorem Tie.balerref07_Reader_Put {a0 a1 : Value} (h : Vcf.balerref07_Reader_Put Tryz.prog a0 a1 w R) : Cl Tryz.prog F.balerref07_Reader_Put #[a0, a1] w R :=
  cl_of_vc (n := 79) (rs := [(.cell 4 175)]) (h := (.s .z (.s (.s .z (.i (.s .z .z) .z)) (.s (.j [20] [1, 2, 4] .z (.i (.s .z .z) .z)) (.s .z (.s (.s .z (.i (.s .z (.s .z (.s .z (.s .z (.s (.s (.r (.staged [0, 1, 0, 4, 15])) (.i (.s .z .z) .z)) (.s .z .z)))))) .z)) (.s .z (.s .z (.s .z (.s (.s .z (.i (.s .z (.s .z .z)) .z)) (.s .z (.s (.s .z (.i (.s .z .z) .z)) (.s .z .z))))))))))))) (args := [a0, a1]) (by kernel_rfl) Tryz.func104 rfl (by kernel_rfl) rfl rfl rfl (Eq.mp (by kernel_rfl) h)

def Vcf.balerref05_Is (P : Program) (a0 : Value) (w : World) (R : Value → World → Prop) : Prop :=
 Lns a0 fun x1=>Bp .gtr x1 (.int .i64 0) fun x2=>Vif x2 (Cl P F.balerref05_Symbols #[a0] w fun x3 w1=>Bp .eql x3 a0 fun x4=>R x4 w1) (R (.bool false) w)
theorem Tie.balerref05_Is {a0 : Value} (h : Vcf.balerref05_Is Tryz.prog a0 w R) : Cl Tryz.prog F.balerref05_Is #[a0] w R :=
  cl_of_vc (n := 12) (rs := [(.tmp 2)]) (h := (.s .z (.s .z .z))) (args := [a0]) (by kernel_rfl) Tryz.func105 rfl (by kernel_rfl) rfl rfl rfl (Eq.mp (by kernel_rfl) h)

def Vcf.balerref06_Touch (P : Program) (a0 a1 : Value) (w : World) (R : Value → World → Prop) : Prop :=
 Dr w fun w1=>Bp .add a1 (.int .i64 1) fun x1=>Sst a0 (some a1) (some x1) fun x2=>Sst a0 none (some a1) fun x4=>Bp .add x2 x4 fun x6=>Bp .add a1 (.int .i64 1) fun x7=>Sst a0 (some x7) none fun x8=>Bp .add x6 x8 fun x10=>R x10 w1
theorem Tie.balerref06_Touch {a0 a1 : Value} (h : Vcf.balerref06_Touch Tryz.prog a0 a1 w R) : Cl Tryz.prog F.balerref06_Touch #[a0, a1] w R :=
  cl_of_vc (n := 19) (rs := [(.tmp 4)]) (h := (.s .z (.s (.r (.staged [0, 0, 0, 4, 15, 0, 0, 96, 255, 0, 0, 1024, 3584, 8191, 16383])) .z))) (args := [a0, a1]) (by kernel_rfl) Tryz.func106 rfl (by kernel_rfl) rfl rfl rfl (Eq.mp (by kernel_rfl) h)

def Vcf.slices_Clone_int_int (P : Program) (a0 : Value) (w : World) (R : Value → World → Prop) : Prop :=
 Be P .eql 103 (.tmp 3) (.const (.slice none 0 0)) a0 (.slice none 0 0) w fun x1=>Vif x1 (R (.slice none 0 0) w) (Bs P 103 0 #[] w fun x2 w1=>Ap P #[103, 103] 103 #[x2, a0] w1 fun x3 w2=>R x3 w2)
theorem Tie.slices_Clone_int_int {a0 : Value} (h : Vcf.slices_Clone_int_int Tryz.prog a0 w R) : Cl Tryz.prog F.slices_Clone_int_int #[a0] w R :=
  cl_of_vc (n := 8) (rs := [(.tmp 2)]) (h := (.s .z (.s (.s .z (.i (.s .z .z) .z)) (.s .z .z)))) (args := [a0]) (by kernel_rfl) Tryz.func107 rfl (by kernel_rfl) rfl rfl rfl (Eq.mp (by kernel_rfl) h)

def Vcf.bits_Reader_bit (P : Program) (a0 a1 : Value) (w : World) (R : Value → World → Prop) : Prop :=
 Dr w fun w1=>Nc a0<|Fo 0 a0 fun x1=>Ld x1 w1 fun x2=>Bp .quo a1 (.int .i64 8) fun x4=>Nc a0<|Fo 1 a0 fun x5=>Ld x5 w1 fun x6=>Bp .sub x4 x6 fun x8=>Ixs x2 x8 fun x9=>Bp .rem a1 (.int .i64 8) fun x10=>Bp .sub (.int .i64 7) x10 fun x11=>Bp .shr x9 x11 fun x12=>Bp .and x12 (.int .u8 1) fun x13=>Ci .u32 x13 fun x14=>R x14 w1
theorem Tie.bits_Reader_bit {a0 a1 : Value} (h : Vcf.bits_Reader_bit Tryz.prog a0 a1 w R) : Cl Tryz.prog F.bits_Reader_bit #[a0, a1] w R :=
  cl_of_vc (n := 25) (rs := [(.tmp 4)]) (h := (.s .z (.s (.r (.staged [0, 1, 3, 7, 0, 16, 0, 64, 192, 448, 1008, 2047, 4095])) (.s .z .z)))) (args := [a0, a1]) (by kernel_rfl) Tryz.func108 rfl (by kernel_rfl) rfl rfl rfl (Eq.mp (by kernel_rfl) h)

def Vcf.block_Reader_step (P : Program) (a0 a1 : Value) (w : World) (R : Value → World → Prop) : Prop :=
 VJoin 1 (fun _ e_1 w1=>Bp .neq e_1 (.int .i64 0) fun x2=>Vif x2 (R e_1 w1) (Cl P F.block_Reader_end #[a0] w1 fun x3 w2=>R x3 w2)) (fun J4=>Nc a0<|Fo 2 a0 fun x5=>Ld x5 w fun x6=>Up .not x6 fun x7=>Vif x7 (Cl P F.block_Reader_begin #[a0, a1] w fun x8 w3=>KE [a0] [a0]<|J4 x8 w3) (Nc a0<|Fo 0 a0 fun x9=>Ld x9 w fun x10=>Bn P 101 false x10 (.pointer none) fun x11=>Vif x11 (Cl P F.block_Reader_symbols #[a0, a1] w fun x12 w4=>KE [a0] [a0]<|J4 x12 w4) (Nc a0<|Fo 0 a0 fun x13=>Ld x13 w fun x14=>Cl P F.block_row_waits #[x14] w fun x15 w5=>Vif x15 (Dr w5 fun w6=>Nc a0<|Fo 5 a0 fun x16=>Ld x16 w6 fun x17=>Nc a0<|Fo 0 a0 fun x19=>Ld x19 w6 fun x20=>Cl P F.block_row_next #[x20] w6 fun x22 w7=>Rk (fun w K=>Ld x16 w fun x18=>K x18) x17 w7<|Bs P 53 1 #[(0, x22)] w7 fun x23 w8=>Rk (fun w K=>Ld x16 w fun x18=>K x18) x17 w8<|Ap P #[53, 53] 53 #[x17, x23] w8 fun x24 w9=>Nc a0<|Fo 5 a0 fun x25=>St x25 x24 w9 fun w10=>KE [a0] [a0]<|J4 (.int .i64 0) w10) (Cl P F.block_Reader_symbol #[a0, a1] w5 fun x26 w11=>KE [a0] [a0]<|J4 x26 w11))))
theorem Tie.block_Reader_step {a0 a1 : Value} (h : Vcf.block_Reader_step Tryz.prog a0 a1 w R) : Cl Tryz.prog F.block_Reader_step #[a0, a1] w R :=
  cl_of_vc (n := 52) (rs := [(.tmp 4)]) (h := (.s .z (.s .z (.j [5] [0] (.b (.s .z (.i .z (.s .z (.i .z (.s .z (.i (.r (.staged [0, 0, 2, 6, 14, 0, 32, 96, 224, 480, 992, 2046, 4095, 8191, 16383])) .z))))))) (.s (.s .z (.i (.s .z .z) .z)) (.s .z .z)))))) (args := [a0, a1]) (by kernel_rfl) Tryz.func109 rfl (by kernel_rfl) rfl rfl rfl (Eq.mp (by kernel_rfl) h)

def Vcf.balerref05_There (P : Program) (a0 a1 : Value) (w : World) (R : Value → World → Prop) : Prop :=
 VLoop 1 [(.int .i64 0)] w fun _ next2 i_1 w1=>Lns a0 fun x3=>Bp .lss i_1 x3 fun x4=>Vif x4 (Ixs a0 i_1 fun x5=>Ci .i64 x5 fun x6=>Bp .eql x6 a1 fun x7=>Vif x7 (R (.bool true) w1) (Bp .add i_1 (.int .i64 1) fun x8=>KE [a0, a1] [a0, a1]<|next2 x8 w1)) (R (.bool false) w1)
theorem Tie.balerref05_There {a0 a1 : Value} (h : Vcf.balerref05_There Tryz.prog a0 a1 w R) : Cl Tryz.prog F.balerref05_There #[a0, a1] w R :=
  cl_of_vc (n := 18) (rs := [(.tmp 4)]) (h := (.s .z (.s (.s .z (.b (.l [5] [0, 1] (.s (.s .z (.i .z .z)) (.s (.b (.s .z (.i (.s .z .z) .z))) .z))))) (.s .z .z)))) (args := [a0, a1]) (by kernel_rfl) Tryz.func112 rfl (by kernel_rfl) rfl rfl rfl (Eq.mp (by kernel_rfl) h)

def Vcf.balerref10_Codes (P : Program) (a0 : Value) (w : World) (R : Value → World → Prop) : Prop :=
 Lnl a0 fun x1=>Ms P 170 x1 x1 w fun x2 w1=>VLoop 2 [(.string ⟨#[]⟩), (.int .i64 1)] w1 fun _ next5 code_3 n_4 w2=>Bp .leq n_4 (.int .i64 20) fun x6=>Vif x6 (Lnl a0 fun x7=>VLoop 2 [code_3, (.int .i64 0)] w2 fun _ next10 code_8 x9 w3=>Bp .lss x9 x7 fun x11=>Vif x11 (Ias 1 a0 x9 fun x12=>Ld x12 w3 fun x13=>Bp .neq x13 n_4 fun x14=>Vif x14 (Bp .add x9 (.int .i64 1) fun x15=>KE [a0, x2, n_4, a0, x7] [a0, x2, n_4, a0, x7]<|next10 code_8 x15 w3) (VJoin 1 (fun _ code_16 w4=>Ias 1 x2 x9 fun x17=>St x17 code_16 w4 fun w5=>Bp .add x9 (.int .i64 1) fun x18=>KE [a0, x2, n_4, a0, x7] [a0, x2, n_4, a0, x7]<|next10 code_16 x18 w5) (fun J19=>Bp .eql code_8 (.string ⟨#[]⟩) fun x20=>Vif x20 (VLoop 2 [code_8, (.int .i64 0)] w3 fun _ next23 code_21 x22 w6=>Bp .lss x22 n_4 fun x24=>Vif x24 (Bp .add code_21 (.string ⟨#[48]⟩) fun x25=>Bp .add x22 (.int .i64 1) fun x26=>KE [a0, x2, n_4, x9, a0, x7, x9, n_4] [a0, x2, n_4, x9, a0, x7, x9, n_4]<|next23 x25 x26 w6) (KE [a0, x2, n_4, x9, a0, x7, x9] [a0, x2, n_4, x9, a0, x7, x9]<|J19 code_21 w6)) (Cl P F.balerref10_next #[code_8, n_4] w3 fun x27 w7=>KE [a0, x2, n_4, x9, a0, x7, x9] [a0, x2, n_4, x9, a0, x7, x9]<|J19 x27 w7)))) (Bp .add n_4 (.int .i64 1) fun x28=>KE [a0, x2] [a0, x2]<|next5 code_8 x28 w3)) (R x2 w2)
theorem Tie.balerref10_Codes {a0 : Value} (h : Vcf.balerref10_Codes Tryz.prog a0 w R) : Cl Tryz.prog F.balerref10_Codes #[a0] w R :=
  cl_of_vc (n := 42) (rs := [(.tmp 2)]) (h := (.s .z (.s .z (.s .z (.s (.s .z (.b (.l [4, 5] [0, 3] (.s (.s .z (.i .z .z)) (.s (.b (.s .z (.b (.l [4, 17] [0, 3, 5, 15, 16] (.s .z (.s (.i .z .z) (.s (.b (.s .z (.s (.s .z (.i .z .z)) (.j [4] [0, 3, 5, 6, 15, 16, 17] (.s .z (.i (.s .z (.b (.l [4, 28] [0, 3, 5, 6, 15, 16, 17, 27] (.s .z (.s (.i .z .z) (.s (.b .z) .z)))))) .z)) .z)))) .z))))))) .z))))) (.s .z .z)))))) (args := [a0]) (by kernel_rfl) Tryz.func118 rfl (by kernel_rfl) rfl rfl rfl (Eq.mp (by kernel_rfl) h)

def Vcf.unbwt_Inverter_begins (P : Program) (a0 : Value) (w : World) (R : Value → World → Prop) : Prop :=
 Nc a0<|Fo 1 a0 fun x1=>LdA 256 x1 w fun x2=>VLoop 2 [(.int .i64 0), (.int .i64 0)] w fun _ next5 from_3 x4 w1=>Bp .lss x4 (.int .i64 256) fun x6=>Vif x6 (Ixa 256 1 false x2 x4 fun x7=>Nc a0<|Fo 1 a0 fun x8=>Iaa 256 1 x8 x4 fun x9=>St x9 from_3 w1 fun w2=>Bp .add from_3 x7 fun x10=>Bp .add x4 (.int .i64 1) fun x11=>KE [a0, x2] [a0, x2]<|next5 x10 x11 w2) (R (.tuple #[]) w1)
theorem Tie.unbwt_Inverter_begins {a0 : Value} (h : Vcf.unbwt_Inverter_begins Tryz.prog a0 w R) : Cl Tryz.prog F.unbwt_Inverter_begins #[a0] w R :=
  cl_of_vc (n := 23) (rs := []) (h := (.s .z (.s .z (.b (.l [2, 9] [0, 8] (.s .z (.s (.i .z .z) (.s (.b (.s .z (.s .z .z))) .z)))))))) (args := [a0]) (by kernel_rfl) Tryz.func119 rfl (by kernel_rfl) rfl rfl rfl (Eq.mp (by kernel_rfl) h)

def Vcf.crc_step (P : Program) (a0 a1 a2 : Value) (w : World) (R : Value → World → Prop) : Prop :=
 Bp .shl a1 (.int .u64 8) fun x1=>Bp .shr a1 (.int .u64 24) fun x2=>Ci .u8 x2 fun x3=>Bp .xor x3 a2 fun x4=>Nc a0<|Iaa 256 1 a0 x4 fun x5=>Ld x5 w fun x6=>Bp .xor x1 x6 fun x7=>R x7 w
theorem Tie.crc_step {a0 a1 a2 : Value} (h : Vcf.crc_step Tryz.prog a0 a1 a2 w R) : Cl Tryz.prog F.crc_step #[a0, a1, a2] w R :=
  cl_of_vc (n := 19) (rs := [(.tmp 6)]) (h := (.s .z (.s .z .z))) (args := [a0, a1, a2]) (by kernel_rfl) Tryz.func120 rfl (by kernel_rfl) rfl rfl rfl (Eq.mp (by kernel_rfl) h)

def Vcf.balerref13_ones (P : Program) (a0 : Value) (w : World) (R : Value → World → Prop) : Prop :=
 VLoop 1 [(.int .i64 0)] w fun _ next2 n_1 w1=>VJoin 1 (fun _ x3 w2=>Vif x3 (Bp .add n_1 (.int .i64 1) fun x4=>KE [a0] [a0]<|next2 x4 w2) (R n_1 w2)) (fun J5=>Lns a0 fun x6=>Bp .lss n_1 x6 fun x7=>Vif x7 (Ixs a0 n_1 fun x8=>Bp .eql x8 (.int .u8 49) fun x9=>KE [a0, n_1] [a0, n_1]<|J5 x9 w1) (KE [a0, n_1] [a0, n_1]<|J5 (.bool false) w1))
theorem Tie.balerref13_ones {a0 : Value} (h : Vcf.balerref13_ones Tryz.prog a0 w R) : Cl Tryz.prog F.balerref13_ones #[a0] w R :=
  cl_of_vc (n := 17) (rs := [(.tmp 2)]) (h := (.s .z (.s .z (.s (.b (.l [3] [0] (.s (.j [13] [0, 3] .z (.i .z .z)) (.b .z)))) (.s .z .z))))) (args := [a0]) (by kernel_rfl) Tryz.func121 rfl (by kernel_rfl) rfl rfl rfl (Eq.mp (by kernel_rfl) h)

def Vcf.balerref11_Read (P : Program) (a0 a1 : Value) (w : World) (R : Value → World → Prop) : Prop :=
 New (zeroP P 195) 195 w fun x1 w1=>Lns a0 fun x2=>Bp .lss x2 (.int .i64 5) fun x3=>Vif x3 (Bd P 195 #[(2, (.int .i64 3))] w1 fun x4=>StA 3 x1 x4 w1 fun w2=>LdA 3 x1 w2 fun x5=>R x5 w2) (Sst a0 none (some (.int .i64 5)) fun x6=>Cl P F.balerref01_Number #[x6] w1 fun x7 w3=>Ci .i64 x7 fun x8=>VJoin 1 (fun _ x9 w4=>Vif x9 (Bd P 195 #[(2, (.int .i64 22))] w4 fun x10=>StA 3 x1 x10 w4 fun w5=>LdA 3 x1 w5 fun x11=>R x11 w5) (VLoop 3 [x8, (.slice none 0 0), (.int .i64 5)] w4 fun _ next15 now_12 l_13 at_14 w6=>Lnl l_13 fun x16=>Bp .lss x16 a1 fun x17=>Vif x17 (Lns a0 fun x18=>Bp .eql at_14 x18 fun x19=>Vif x19 (Bd P 195 #[(2, (.int .i64 3))] w6 fun x20=>StA 3 x1 x20 w6 fun w7=>LdA 3 x1 w7 fun x21=>R x21 w7) (Ixs a0 at_14 fun x22=>Bp .eql x22 (.int .u8 48) fun x23=>Vif x23 (Bs P 103 1 #[(0, now_12)] w6 fun x24 w8=>Ap P #[103, 103] 103 #[l_13, x24] w8 fun x25 w9=>Bp .add at_14 (.int .i64 1) fun x26=>KE [a0, a1, x1] [a0, a1, x1]<|next15 now_12 x25 x26 w9) (Bp .add at_14 (.int .i64 1) fun x27=>Lns a0 fun x28=>Bp .eql x27 x28 fun x29=>Vif x29 (Bd P 195 #[(2, (.int .i64 3))] w6 fun x30=>StA 3 x1 x30 w6 fun w10=>LdA 3 x1 w10 fun x31=>R x31 w10) (VJoin 1 (fun _ now_32 w11=>VJoin 1 (fun _ x33 w12=>Vif x33 (Bd P 195 #[(2, (.int .i64 22))] w12 fun x34=>StA 3 x1 x34 w12 fun w13=>LdA 3 x1 w13 fun x35=>R x35 w13) (Bp .add at_14 (.int .i64 2) fun x36=>KE [a0, a1, x1] [a0, a1, x1]<|next15 now_32 l_13 x36 w12)) (fun J37=>Bp .lss now_32 (.int .i64 1) fun x38=>Vif x38 (KE [a0, a1, x1, now_32, l_13, at_14] [a0, a1, x1, now_32, l_13, at_14]<|J37 (.bool true) w11) (Bp .gtr now_32 (.int .i64 20) fun x39=>KE [a0, a1, x1, now_32, l_13, at_14] [a0, a1, x1, now_32, l_13, at_14]<|J37 x39 w11))) (fun J40=>Bp .add at_14 (.int .i64 1) fun x41=>Ixs a0 x41 fun x42=>Bp .eql x42 (.int .u8 48) fun x43=>Vif x43 (Bp .add now_12 (.int .i64 1) fun x44=>KE [a0, a1, x1, l_13, at_14] [a0, a1, x1, l_13, at_14]<|J40 x44 w6) (Bp .sub now_12 (.int .i64 1) fun x45=>KE [a0, a1, x1, l_13, at_14] [a0, a1, x1, l_13, at_14]<|J40 x45 w6)))))) (Bd P 195 #[(0, l_13), (1, at_14)] w6 fun x46=>StA 3 x1 x46 w6 fun w14=>LdA 3 x1 w14 fun x47=>R x47 w14))) (fun J48=>Bp .lss x8 (.int .i64 1) fun x49=>Vif x49 (KE [a0, a1, x1, x8] [a0, a1, x1, x8]<|J48 (.bool true) w3) (Bp .gtr x8 (.int .i64 20) fun x50=>KE [a0, a1, x1, x8] [a0, a1, x1, x8]<|J48 x50 w3)))
theorem Tie.balerref11_Read {a0 a1 : Value} (h : Vcf.balerref11_Read Tryz.prog a0 a1 w R) : Cl Tryz.prog F.balerref11_Read #[a0, a1] w R :=
  cl_of_vc (n := 69) (rs := [(.cell 4 195)]) (h := (.s .z (.s (.s .z (.i (.s .z .z) .z)) (.s .z (.s (.j [21] [0, 1, 4, 5] .z (.i (.s .z .z) .z)) (.s .z (.s .z (.s (.b (.l [5, 6, 7] [0, 1, 4] (.s (.s .z (.i .z .z)) (.b (.s (.s .z (.i (.s .z .z) .z)) (.s (.s .z (.i (.s .z (.s .z .z)) .z)) (.s (.s .z (.i (.s .z .z) .z)) (.j [5] [0, 1, 4, 6, 7] (.s .z (.i .z .z)) (.s (.j [62] [0, 1, 4, 5, 6, 7] .z (.i (.s .z .z) .z)) .z))))))))) (.s .z .z))))))))) (args := [a0, a1]) (by kernel_rfl) Tryz.func122 rfl (by kernel_rfl) rfl rfl rfl (Eq.mp (by kernel_rfl) h)

def Vcf.balerref10_Whole (P : Program) (a0 : Value) (w : World) (R : Value → World → Prop) : Prop :=
 Cl P F.balerref09_May #[a0, (.int .i64 1), (.int .i64 20)] w fun x1 w1=>Vif x1 (Cl P F.balerref09_Share #[a0] w1 fun x2 w2=>Bp .eql x2 (.int .i64 1048576) fun x3=>R x3 w2) (R (.bool false) w1)
theorem Tie.balerref10_Whole {a0 : Value} (h : Vcf.balerref10_Whole Tryz.prog a0 w R) : Cl Tryz.prog F.balerref10_Whole #[a0] w R :=
  cl_of_vc (n := 10) (rs := [(.tmp 2)]) (h := (.s .z (.s .z .z))) (args := [a0]) (by kernel_rfl) Tryz.func123 rfl (by kernel_rfl) rfl rfl rfl (Eq.mp (by kernel_rfl) h)

def Vcf.balerref10_Begins (P : Program) (a0 a1 : Value) (w : World) (R : Value → World → Prop) : Prop :=
 Lns a0 fun x1=>Lns a1 fun x2=>Bp .geq x1 x2 fun x3=>Vif x3 (Lns a1 fun x4=>Sst a0 none (some x4) fun x5=>Bp .eql x5 a1 fun x6=>R x6 w) (R (.bool false) w)
theorem Tie.balerref10_Begins {a0 a1 : Value} (h : Vcf.balerref10_Begins Tryz.prog a0 a1 w R) : Cl Tryz.prog F.balerref10_Begins #[a0, a1] w R :=
  cl_of_vc (n := 18) (rs := [(.tmp 4)]) (h := (.s .z (.s .z .z))) (args := [a0, a1]) (by kernel_rfl) Tryz.func124 rfl (by kernel_rfl) rfl rfl rfl (Eq.mp (by kernel_rfl) h)

def Vcf.balerref07_Reader_Count (P : Program) (a0 : Value) (w : World) (R : Value → World → Prop) : Prop :=
 New a0 173 w fun r_1 w1=>Dr w1 fun w2=>Fo 2 r_1 fun x2=>Ld x2 w2 fun x3=>Fo 3 r_1 fun x5=>Ld x5 w2 fun x6=>Cl P F.balerref07_Value #[x6] w2 fun x8 w3=>Rk (fun w K=>Ld x2 w fun x4=>K x4) x3 w3<|Bp .add x3 x8 fun x9=>R x9 w3
theorem Tie.balerref07_Reader_Count {a0 : Value} (h : Vcf.balerref07_Reader_Count Tryz.prog a0 w R) : Cl Tryz.prog F.balerref07_Reader_Count #[a0] w R :=
  cl_of_vc (n := 9) (rs := [(.tmp 2)]) (h := (.s .z (.s (.r (.staged [0, 1, 0, 4, 12, 31, 63])) .z))) (args := [a0]) (by kernel_rfl) Tryz.func125 rfl (by kernel_rfl) rfl rfl rfl (Eq.mp (by kernel_rfl) h)

def Vcf.balerref07_Value (P : Program) (a0 : Value) (w : World) (R : Value → World → Prop) : Prop :=
 Lnl a0 fun x1=>VLoop 3 [(.int .i64 0), (.int .i64 1), (.int .i64 0)] w fun _ next5 m_2 w_3 x4 w1=>Bp .lss x4 x1 fun x6=>Vif x6 (Ias 1 a0 x4 fun x7=>Ld x7 w1 fun x8=>Bp .gtr w_3 (.int .i64 2199023255552) fun x9=>Vif x9 (R (.int .i64 2199023255552) w1) (Bp .add m_2 w_3 fun x10=>Bp .mul x8 w_3 fun x11=>Bp .add x10 x11 fun x12=>Bp .mul (.int .i64 2) w_3 fun x13=>Bp .add x4 (.int .i64 1) fun x14=>KE [a0, x1] [a0, x1]<|next5 x12 x13 x14 w1)) (R m_2 w1)
theorem Tie.balerref07_Value {a0 : Value} (h : Vcf.balerref07_Value Tryz.prog a0 w R) : Cl Tryz.prog F.balerref07_Value #[a0] w R :=
  cl_of_vc (n := 26) (rs := [(.tmp 2)]) (h := (.s .z (.s .z (.s .z (.s (.s .z (.b (.l [3, 4, 9] [7, 8] (.s .z (.s (.i .z .z) (.s (.b (.s .z (.s (.s .z (.i (.s .z .z) .z)) (.s .z .z)))) .z)))))) (.s .z .z)))))) (args := [a0]) (by kernel_rfl) Tryz.func126 rfl (by kernel_rfl) rfl rfl rfl (Eq.mp (by kernel_rfl) h)

def Vcf.block_Reader_begin (P : Program) (a0 a1 : Value) (w : World) (R : Value → World → Prop) : Prop :=
 Cl P F.bits_Reader_Left #[a1] w fun x1 w1=>Bp .lss x1 (.int .i64 57) fun x2=>Vif x2 (R (.int .i64 3) w1) (Cl P F.bits_Reader_Get #[a1, (.int .i64 32)] w1 fun x3 w2=>Ex x3 0 fun x4=>Ex x3 1 fun x5=>Cl P F.bits_Reader_Get #[a1, (.int .i64 1)] w2 fun x6 w3=>Ex x6 0 fun x7=>Ex x6 1 fun x8=>Cl P F.bits_Reader_Get #[a1, (.int .i64 24)] w3 fun x9 w4=>Ex x9 0 fun x10=>Ex x9 1 fun x11=>Nc a0<|Fo 2 a0 fun x12=>St x12 (.bool true) w4 fun w5=>Nc a0<|Fo 3 a0 fun x13=>St x13 x4 w5 fun w6=>Ci .i64 x10 fun x14=>Nc a0<|Fo 4 a0 fun x15=>St x15 x14 w6 fun w7=>Bp .eql x7 (.int .u32 1) fun x16=>Vif x16 (R (.int .i64 25) w7) (R (.int .i64 0) w7))
theorem Tie.block_Reader_begin {a0 a1 : Value} (h : Vcf.block_Reader_begin Tryz.prog a0 a1 w R) : Cl Tryz.prog F.block_Reader_begin #[a0, a1] w R :=
  cl_of_vc (n := 43) (rs := [(.tmp 4)]) (h := (.s .z (.s (.s .z (.i (.s .z .z) .z)) (.s .z (.s .z (.s .z (.s .z (.s .z (.s .z (.s (.s .z (.i (.s .z .z) .z)) (.s .z .z))))))))))) (args := [a0, a1]) (by kernel_rfl) Tryz.func127 rfl (by kernel_rfl) rfl rfl rfl (Eq.mp (by kernel_rfl) h)

def Vcf.block_Reader_symbols (P : Program) (a0 a1 : Value) (w : World) (R : Value → World → Prop) : Prop :=
 Cl P F.used_Read #[a1] w fun x1 w1=>Ex x1 0 fun x2=>Ex x1 1 fun x3=>Bp .eql x3 (.int .i64 0) fun x4=>Vif x4 (Nc a0<|Fo 1 a0 fun x5=>Ld x5 w1 fun x6=>Cl P F.block_rowOf #[x2, x6] w1 fun x7 w2=>Nc a0<|Fo 0 a0 fun x8=>St x8 x7 w2 fun w3=>R x3 w3) (R x3 w1)
theorem Tie.block_Reader_symbols {a0 a1 : Value} (h : Vcf.block_Reader_symbols Tryz.prog a0 a1 w R) : Cl Tryz.prog F.block_Reader_symbols #[a0, a1] w R :=
  cl_of_vc (n := 24) (rs := [(.tmp 4)]) (h := (.s .z (.s .z (.s (.s .z (.i .z .z)) (.s .z .z))))) (args := [a0, a1]) (by kernel_rfl) Tryz.func128 rfl (by kernel_rfl) rfl rfl rfl (Eq.mp (by kernel_rfl) h)

def Vcf.block_row_waits (P : Program) (a0 : Value) (w : World) (R : Value → World → Prop) : Prop :=
 Bn P 101 true a0 (.pointer none) fun x1=>Vif x1 (Nc a0<|Fo 3 a0 fun x2=>Ld x2 w fun x3=>Bp .gtr x3 (.int .i64 0) fun x4=>Vif x4 (R (.bool true) w) (Nc a0<|Fo 4 a0 fun x5=>Ld x5 w fun x6=>Bp .gtr x6 (.int .i64 0) fun x7=>R x7 w)) (R (.bool false) w)
theorem Tie.block_row_waits {a0 : Value} (h : Vcf.block_row_waits Tryz.prog a0 w R) : Cl Tryz.prog F.block_row_waits #[a0] w R :=
  cl_of_vc (n := 19) (rs := [(.tmp 2)]) (h := (.s .z (.s .z .z))) (args := [a0]) (by kernel_rfl) Tryz.func129 rfl (by kernel_rfl) rfl rfl rfl (Eq.mp (by kernel_rfl) h)

def Vcf.block_row_next (P : Program) (a0 : Value) (w : World) (R : Value → World → Prop) : Prop :=
 VJoin 1 (fun _ at_1 w1=>Nc a0<|Fo 2 a0 fun x2=>Ld x2 w1 fun x3=>Cl P F.mtf_List_At #[x3, at_1] w1 fun x4 w2=>Ex x4 0 fun x5=>Ex x4 1 fun x6=>R x5 w2) (fun J7=>Nc a0<|Fo 3 a0 fun x8=>Ld x8 w fun x9=>Bp .gtr x9 (.int .i64 0) fun x10=>Vif x10 (Nc a0<|Fo 3 a0 fun x11=>Ld x11 w fun x12=>Bp .sub x12 (.int .i64 1) fun x13=>Nc a0<|Fo 3 a0 fun x14=>St x14 x13 w fun w3=>KE [a0] [a0]<|J7 (.int .i64 0) w3) (Nc a0<|Fo 4 a0 fun x15=>Ld x15 w fun x16=>Nc a0<|Fo 4 a0 fun x17=>St x17 (.int .i64 0) w fun w4=>KE [a0] [a0]<|J7 x16 w4))
theorem Tie.block_row_next {a0 : Value} (h : Vcf.block_row_next Tryz.prog a0 w R) : Cl Tryz.prog F.block_row_next #[a0] w R :=
  cl_of_vc (n := 35) (rs := [(.tmp 2)]) (h := (.s .z (.s .z (.j [3] [0] (.s .z (.i .z (.s .z .z))) (.s .z (.s .z .z)))))) (args := [a0]) (by kernel_rfl) Tryz.func130 rfl (by kernel_rfl) rfl rfl rfl (Eq.mp (by kernel_rfl) h)

def Vcf.block_Reader_symbol (P : Program) (a0 a1 : Value) (w : World) (R : Value → World → Prop) : Prop :=
 Nc a0<|Fo 0 a0 fun x1=>Ld x1 w fun x2=>Nc x2<|Fo 0 x2 fun x3=>Ld x3 w fun x4=>Cl P F.code_Reader_Step #[x4, a1] w fun x5 w1=>Ex x5 0 fun x6=>Ex x5 1 fun x7=>VJoin 1 (fun _ x8 w2=>Vif x8 (R x7 w2) (Nc a0<|Fo 0 a0 fun x9=>Ld x9 w2 fun x10=>Cl P F.block_row_told #[x10, x6] w2 fun x11 w3=>R x11 w3)) (fun J12=>Bp .neq x7 (.int .i64 0) fun x13=>Vif x13 (KE [a0, x6, x7] [a0, x6, x7]<|J12 (.bool true) w1) (Bp .lss x6 (.int .i64 0) fun x14=>KE [a0, x6, x7] [a0, x6, x7]<|J12 x14 w1))
theorem Tie.block_Reader_symbol {a0 a1 : Value} (h : Vcf.block_Reader_symbol Tryz.prog a0 a1 w R) : Cl Tryz.prog F.block_Reader_symbol #[a0, a1] w R :=
  cl_of_vc (n := 32) (rs := [(.tmp 4)]) (h := (.s .z (.s .z (.s (.j [24] [0, 5, 6] .z (.i (.s .z .z) .z)) (.s .z .z))))) (args := [a0, a1]) (by kernel_rfl) Tryz.func131 rfl (by kernel_rfl) rfl rfl rfl (Eq.mp (by kernel_rfl) h)

def Vcf.block_Reader_end (P : Program) (a0 : Value) (w : World) (R : Value → World → Prop) : Prop :=
 VJoin 1 (fun _ x1 w1=>Vif x1 (R (.int .i64 0) w1) (Dr w1 fun w2=>Nc a0<|Fo 4 a0 fun x2=>Ld x2 w2 fun x3=>Nc a0<|Fo 5 a0 fun x5=>Ld x5 w2 fun x6=>Lnl x6 fun x8=>Bp .geq x3 x8 fun x10=>Vif x10 (R (.int .i64 23) w2) (Nc a0<|Fo 6 a0 fun x11=>St x11 (.bool true) w2 fun w3=>R (.int .i64 0) w3))) (fun J12=>Nc a0<|Fo 0 a0 fun x13=>Ld x13 w fun x14=>Bn P 101 false x14 (.pointer none) fun x15=>Vif x15 (KE [a0] [a0]<|J12 (.bool true) w) (Nc a0<|Fo 0 a0 fun x16=>Ld x16 w fun x17=>Nc x17<|Fo 0 x17 fun x18=>Ld x18 w fun x19=>Cl P F.code_Reader_Done #[x19] w fun x20 w4=>Up .not x20 fun x21=>Vif x21 (KE [a0] [a0]<|J12 (.bool true) w4) (Nc a0<|Fo 0 a0 fun x22=>Ld x22 w4 fun x23=>Cl P F.block_row_waits #[x23] w4 fun x24 w5=>KE [a0] [a0]<|J12 x24 w5)))
theorem Tie.block_Reader_end {a0 : Value} (h : Vcf.block_Reader_end Tryz.prog a0 w R) : Cl Tryz.prog F.block_Reader_end #[a0] w R :=
  cl_of_vc (n := 41) (rs := [(.tmp 2)]) (h := (.s .z (.s (.b (.j [3] [0] .z (.i (.s .z .z) (.s (.r (.staged [0, 1, 3, 7, 0, 16, 48, 112, 240, 511, 1023])) (.i (.s .z .z) .z))))) (.s .z (.s .z .z))))) (args := [a0]) (by kernel_rfl) Tryz.func132 rfl (by kernel_rfl) rfl rfl rfl (Eq.mp (by kernel_rfl) h)

def Vcf.balerref10_next (P : Program) (a0 a1 : Value) (w : World) (R : Value → World → Prop) : Prop :=
 Lns a0 fun x1=>Bp .sub x1 (.int .i64 1) fun x2=>VLoop 3 [(.string ⟨#[]⟩), (.bool true), x2] w fun _ next6 out_3 carry_4 i_5 w1=>Bp .geq i_5 (.int .i64 0) fun x7=>Vif x7 (Ixs a0 i_5 fun x8=>Bp .eql x8 (.int .u8 49) fun x9=>VJoin 1 (fun _ out_10 w2=>Vif carry_4 (Bp .sub i_5 (.int .i64 1) fun x11=>KE [a0, a1] [a0, a1]<|next6 out_10 x9 x11 w2) (Bp .sub i_5 (.int .i64 1) fun x12=>KE [a0, a1] [a0, a1]<|next6 out_10 (.bool false) x12 w2)) (fun J13=>Bb true x9 carry_4 fun x14=>Vif x14 (Bp .add (.string ⟨#[49]⟩) out_3 fun x15=>KE [a0, a1, carry_4, i_5, x9] [a0, a1, carry_4, i_5, x9]<|J13 x15 w1) (Bp .add (.string ⟨#[48]⟩) out_3 fun x16=>KE [a0, a1, carry_4, i_5, x9] [a0, a1, carry_4, i_5, x9]<|J13 x16 w1))) (VLoop 1 [out_3] w1 fun _ next18 out_17 w3=>Lns out_17 fun x19=>Bp .lss x19 a1 fun x20=>Vif x20 (Bp .add out_17 (.string ⟨#[48]⟩) fun x21=>KE [a1] [a1]<|next18 x21 w3) (R out_17 w3))
theorem Tie.balerref10_next {a0 a1 : Value} (h : Vcf.balerref10_next Tryz.prog a0 a1 w R) : Cl Tryz.prog F.balerref10_next #[a0, a1] w R :=
  cl_of_vc (n := 38) (rs := [(.tmp 4)]) (h := (.s .z (.s .z (.s .z (.s (.s .z (.b (.l [5, 6, 7] [0, 1] (.s (.s .z (.i .z .z)) (.s (.b (.s .z (.j [5] [0, 1, 6, 7, 8] (.s .z (.i .z .z)) .z))) .z))))) (.s (.b (.l [5] [1] (.s (.s .z (.i .z .z)) (.b .z)))) (.s .z .z))))))) (args := [a0, a1]) (by kernel_rfl) Tryz.func138 rfl (by kernel_rfl) rfl rfl rfl (Eq.mp (by kernel_rfl) h)

def Vcf.balerref09_May (P : Program) (a0 a1 a2 : Value) (w : World) (R : Value → World → Prop) : Prop :=
 Lnl a0 fun x1=>VLoop 1 [(.int .i64 0)] w fun _ next3 x2 w1=>Bp .lss x2 x1 fun x4=>Vif x4 (Ias 1 a0 x2 fun x5=>Ld x5 w1 fun x6=>VJoin 1 (fun _ x7 w2=>Vif x7 (R (.bool false) w2) (Bp .add x2 (.int .i64 1) fun x8=>KE [a1, a2, a0, x1] [a1, a2, a0, x1]<|next3 x8 w2)) (fun J9=>Bp .lss x6 a1 fun x10=>Vif x10 (KE [a1, a2, a0, x1, x2] [a1, a2, a0, x1, x2]<|J9 (.bool true) w1) (Bp .gtr x6 a2 fun x11=>KE [a1, a2, a0, x1, x2] [a1, a2, a0, x1, x2]<|J9 x11 w1))) (R (.bool true) w1)
theorem Tie.balerref09_May {a0 a1 a2 : Value} (h : Vcf.balerref09_May Tryz.prog a0 a1 a2 w R) : Cl Tryz.prog F.balerref09_May #[a0, a1, a2] w R :=
  cl_of_vc (n := 24) (rs := [(.tmp 6)]) (h := (.s .z (.s (.s .z (.b (.l [11] [1, 2, 9, 10] (.s .z (.s (.i .z .z) (.s (.b (.s .z (.j [22] [1, 2, 9, 10, 11] .z (.i (.s .z .z) .z)))) .z)))))) (.s .z .z)))) (args := [a0, a1, a2]) (by kernel_rfl) Tryz.func139 rfl (by kernel_rfl) rfl rfl rfl (Eq.mp (by kernel_rfl) h)

def Vcf.balerref09_Share (P : Program) (a0 : Value) (w : World) (R : Value → World → Prop) : Prop :=
 Lnl a0 fun x1=>VLoop 2 [(.int .i64 0), (.int .i64 0)] w fun _ next4 n_2 x3 w1=>Bp .lss x3 x1 fun x5=>Vif x5 (Ias 1 a0 x3 fun x6=>Ld x6 w1 fun x7=>Bp .sub (.int .i64 20) x7 fun x8=>VLoop 2 [(.int .i64 1), (.int .i64 0)] w1 fun _ next11 p_9 x10 w2=>Bp .lss x10 x8 fun x12=>Vif x12 (Bp .mul (.int .i64 2) p_9 fun x13=>Bp .add x10 (.int .i64 1) fun x14=>KE [n_2, a0, x1, x3, x8] [n_2, a0, x1, x3, x8]<|next11 x13 x14 w2) (Bp .add n_2 p_9 fun x15=>Bp .add x3 (.int .i64 1) fun x16=>KE [a0, x1] [a0, x1]<|next4 x15 x16 w2)) (R n_2 w1)
theorem Tie.balerref09_Share {a0 : Value} (h : Vcf.balerref09_Share Tryz.prog a0 w R) : Cl Tryz.prog F.balerref09_Share #[a0] w R :=
  cl_of_vc (n := 25) (rs := [(.tmp 2)]) (h := (.s .z (.s .z (.s (.s .z (.b (.l [3, 9] [7, 8] (.s .z (.s (.i .z .z) (.s (.b (.s .z (.s .z (.s (.s .z (.b (.l [6, 15] [3, 7, 8, 9, 14] (.s .z (.s (.i .z .z) (.s (.b .z) .z)))))) .z)))) .z)))))) (.s .z .z))))) (args := [a0]) (by kernel_rfl) Tryz.func140 rfl (by kernel_rfl) rfl rfl rfl (Eq.mp (by kernel_rfl) h)

def Vcf.used_Read (P : Program) (a0 : Value) (w : World) (R : Value → World → Prop) : Prop :=
 Cl P F.bits_Reader_At #[a0] w fun x1 w1=>Cl P F.used_read #[a0] w1 fun x2 w2=>Ex x2 0 fun x3=>Ex x2 1 fun x4=>Bp .neq x4 (.int .i64 0) fun x5=>Vif x5 (Cl P F.bits_Reader_Seek #[a0, x1] w2 fun x6 w3=>R (.tuple #[x3, x4]) w3) (R (.tuple #[x3, x4]) w2)
theorem Tie.used_Read {a0 : Value} (h : Vcf.used_Read Tryz.prog a0 w R) : Cl Tryz.prog F.used_Read #[a0] w R :=
  cl_of_vc (n := 21) (rs := [(.tmp 2), (.tmp 3)]) (h := (.s .z (.s .z (.s .z (.s (.s .z (.i .z .z)) (.s .z .z)))))) (args := [a0]) (by kernel_rfl) Tryz.func141 rfl (by kernel_rfl) rfl rfl rfl (Eq.mp (by kernel_rfl) h)

def Vcf.block_rowOf (P : Program) (a0 a1 : Value) (w : World) (R : Value → World → Prop) : Prop :=
 Lns a0 fun x1=>Bp .add x1 (.int .i64 2) fun x2=>Cl P F.code_NewReader #[x2] w fun x3 w1=>Ex x3 0 fun x4=>Ex x3 1 fun x5=>Lns a0 fun x6=>Cl P F.zeros_NewReader #[x6, a1] w1 fun x7 w2=>Ex x7 0 fun x8=>Ex x7 1 fun x9=>Cl P F.mtf_New #[a0] w2 fun x10 w3=>Ex x10 0 fun x11=>Ex x10 1 fun x12=>Bd P 101 #[(0, x4), (1, x8), (2, x11)] w3 fun x13=>New x13 101 w3 fun x14 w4=>R x14 w4
theorem Tie.block_rowOf {a0 a1 : Value} (h : Vcf.block_rowOf Tryz.prog a0 a1 w R) : Cl Tryz.prog F.block_rowOf #[a0, a1] w R :=
  cl_of_vc (n := 35) (rs := [(.tmp 4)]) (h := (.s .z (.s .z (.s .z (.s .z (.s .z .z)))))) (args := [a0, a1]) (by kernel_rfl) Tryz.func142 rfl (by kernel_rfl) rfl rfl rfl (Eq.mp (by kernel_rfl) h)

def Vcf.mtf_List_At (P : Program) (a0 a1 : Value) (w : World) (R : Value → World → Prop) : Prop :=
 Bn P 222 false a0 (.pointer none) fun x1=>Vif x1 (R (.tuple #[(.int .u8 0), (.int .i64 7)]) w) (VJoin 1 (fun _ x2 w1=>Vif x2 (R (.tuple #[(.int .u8 0), (.int .i64 1)]) w1) (Cl P F.mtf_List_touch #[a0, a1] w1 fun x3 w2=>R (.tuple #[x3, (.int .i64 0)]) w2)) (fun J4=>Bp .lss a1 (.int .i64 0) fun x5=>Vif x5 (KE [a0, a1] [a0, a1]<|J4 (.bool true) w) (Nc a0<|Fo 0 a0 fun x6=>Ld x6 w fun x7=>Lnl x7 fun x8=>Bp .geq a1 x8 fun x9=>KE [a0, a1] [a0, a1]<|J4 x9 w)))
theorem Tie.mtf_List_At {a0 a1 : Value} (h : Vcf.mtf_List_At Tryz.prog a0 a1 w R) : Cl Tryz.prog F.mtf_List_At #[a0, a1] w R :=
  cl_of_vc (n := 24) (rs := [(.tmp 4), (.tmp 5)]) (h := (.s .z (.s (.b (.s .z (.i (.s .z .z) (.j [9] [0, 1] .z (.i (.s .z .z) .z))))) (.s .z .z)))) (args := [a0, a1]) (by kernel_rfl) Tryz.func143 rfl (by kernel_rfl) rfl rfl rfl (Eq.mp (by kernel_rfl) h)

def Vcf.code_Reader_Step (P : Program) (a0 a1 : Value) (w : World) (R : Value → World → Prop) : Prop :=
 VJoin 1 (fun _ x1 w1=>Vif x1 (R (.tuple #[(.int .i64 0), (.int .i64 7)]) w1) (Nc a0<|Fo 7 a0 fun x2=>Ld x2 w1 fun x3=>Bp .neq x3 (.int .i64 0) fun x4=>Vif x4 (Dr w1 fun w2=>Nc a0<|Fo 7 a0 fun x5=>Ld x5 w2 fun x6=>R (.tuple #[(.int .i64 0), x6]) w2) (Mf P (.func 158) #[a0] #[] w1 fun x8=>VJoin 1 (fun _ step_9 w3=>Inv P (do let d ← Deferred.ofValue step_9 #[a1]; invoke d.target d.args) w3 fun x10 w4=>Ex x10 0 fun x11=>Ex x10 1 fun x12=>Bp .eql x12 (.int .i64 0) fun x13=>Vif x13 (R (.tuple #[x11, x12]) w4) (Bp .neq x12 (.int .i64 3) fun x14=>Vif x14 (Nc a0<|Fo 7 a0 fun x15=>St x15 x12 w4 fun w5=>R (.tuple #[(.int .i64 0), x12]) w5) (R (.tuple #[(.int .i64 0), x12]) w4))) (fun J16=>Nc a0<|Fo 1 a0 fun x17=>Ld x17 w1 fun x18=>Cl P F.picks_Reader_Done #[x18] w1 fun x19 w6=>Up .not x19 fun x20=>Vif x20 (Mf P (.func 160) #[a0] #[] w6 fun x21=>KE [a0, a1] [a0, a1]<|J16 x21 w6) (Dr w6 fun w7=>Nc a0<|Fo 4 a0 fun x22=>Ld x22 w7 fun x23=>Lnl x23 fun x25=>Nc a0<|Fo 1 a0 fun x27=>Ld x27 w7 fun x28=>Cl P F.picks_Reader_Tables #[x28] w7 fun x30 w8=>Rk (fun w K=>Lnl x23 fun x26=>K x26) x25 w8<|Rk (fun w K=>Ld x22 w fun x24=>K x24) x23 w8<|Bp .lss x25 x30 fun x31=>Vif x31 (Mf P (.func 162) #[a0] #[] w8 fun x32=>KE [a0, a1] [a0, a1]<|J16 x32 w8) (KE [a0, a1] [a0, a1]<|J16 x8 w8)))))) (fun J33=>Bn P 142 false a0 (.pointer none) fun x34=>Vif x34 (KE [a0, a1] [a0, a1]<|J33 (.bool true) w) (Bn P 75 false a1 (.pointer none) fun x35=>Vif x35 (KE [a0, a1] [a0, a1]<|J33 (.bool true) w) (Nc a0<|Fo 6 a0 fun x36=>Ld x36 w fun x37=>KE [a0, a1] [a0, a1]<|J33 x37 w)))
theorem Tie.code_Reader_Step {a0 a1 : Value} (h : Vcf.code_Reader_Step Tryz.prog a0 a1 w R) : Cl Tryz.prog F.code_Reader_Step #[a0, a1] w R :=
  cl_of_vc (n := 74) (rs := [(.tmp 4), (.tmp 5)]) (h := (.s .z (.s (.b (.j [9] [0, 1] .z (.i (.s .z .z) (.s .z (.i (.s (.r (.staged [0, 1, 3, 7, 0, 31])) .z) .z))))) (.s .z (.j [6] [0, 1] (.b (.s .z (.i .z (.s (.r (.staged [0, 1, 3, 7, 15, 0, 32, 96, 224, 480, 1023, 2047])) (.i .z .z))))) (.s .z (.s (.s .z (.i (.s .z .z) .z)) (.s (.s .z (.i .z .z)) (.s .z .z))))))))) (args := [a0, a1]) (by kernel_rfl) Tryz.func144 rfl (by kernel_rfl) rfl rfl rfl (Eq.mp (by kernel_rfl) h)

def Vcf.block_row_told (P : Program) (a0 a1 : Value) (w : World) (R : Value → World → Prop) : Prop :=
 Nc a0<|Fo 1 a0 fun x1=>Ld x1 w fun x2=>Cl P F.zeros_Reader_Put #[x2, a1] w fun x3 w1=>Ex x3 0 fun x4=>Ex x3 1 fun x5=>Ex x3 2 fun x6=>Bp .neq x6 (.int .i64 0) fun x7=>Vif x7 (R (.int .i64 25) w1) (Nc a0<|Fo 3 a0 fun x8=>St x8 x4 w1 fun w2=>Bmax P #[3, 3] 3 #[x5, (.int .i64 0)] w2 fun x9=>Nc a0<|Fo 4 a0 fun x10=>St x10 x9 w2 fun w3=>R (.int .i64 0) w3)
theorem Tie.block_row_told {a0 a1 : Value} (h : Vcf.block_row_told Tryz.prog a0 a1 w R) : Cl Tryz.prog F.block_row_told #[a0, a1] w R :=
  cl_of_vc (n := 29) (rs := [(.tmp 4)]) (h := (.s .z (.s .z (.s (.s .z (.i (.s .z .z) .z)) (.s .z (.s .z (.s .z .z))))))) (args := [a0, a1]) (by kernel_rfl) Tryz.func145 rfl (by kernel_rfl) rfl rfl rfl (Eq.mp (by kernel_rfl) h)

def Vcf.code_Reader_Done (P : Program) (a0 : Value) (w : World) (R : Value → World → Prop) : Prop :=
 Bn P 142 true a0 (.pointer none) fun x1=>Vif x1 (Nc a0<|Fo 6 a0 fun x2=>Ld x2 w fun x3=>R x3 w) (R (.bool false) w)
theorem Tie.code_Reader_Done {a0 : Value} (h : Vcf.code_Reader_Done Tryz.prog a0 w R) : Cl Tryz.prog F.code_Reader_Done #[a0] w R :=
  cl_of_vc (n := 11) (rs := [(.tmp 2)]) (h := (.s .z (.s .z .z))) (args := [a0]) (by kernel_rfl) Tryz.func146 rfl (by kernel_rfl) rfl rfl rfl (Eq.mp (by kernel_rfl) h)

def Vcf.used_read (P : Program) (a0 : Value) (w : World) (R : Value → World → Prop) : Prop :=
 Cl P F.bits_Reader_Get #[a0, (.int .i64 16)] w fun x1 w1=>Ex x1 0 fun x2=>Ex x1 1 fun x3=>Bp .neq x3 (.int .i64 0) fun x4=>Vif x4 (R (.tuple #[(.string ⟨#[]⟩), x3]) w1) (New (zeroP P 231) 231 w1 fun there_5 w2=>Cl P F.used_marks #[x2] w2 fun x6 w3=>Lnl x6 fun x7=>VLoop 1 [(.int .i64 0)] w3 fun _ next9 x8 w4=>Bp .lss x8 x7 fun x10=>Vif x10 (Ias 1 x6 x8 fun x11=>Ld x11 w4 fun x12=>Cl P F.bits_Reader_Get #[a0, (.int .i64 16)] w4 fun x13 w5=>Ex x13 0 fun x14=>Ex x13 1 fun x15=>Bp .neq x15 (.int .i64 0) fun x16=>Vif x16 (R (.tuple #[(.string ⟨#[]⟩), x15]) w5) (Cl P F.used_marks #[x14] w5 fun x17 w6=>Lnl x17 fun x18=>VLoop 1 [(.int .i64 0)] w6 fun _ next20 x19 w7=>Bp .lss x19 x18 fun x21=>Vif x21 (Ias 1 x17 x19 fun x22=>Ld x22 w7 fun x23=>Bp .mul (.int .i64 16) x12 fun x24=>Bp .add x24 x23 fun x25=>Iaa 256 1 there_5 x25 fun x26=>St x26 (.bool true) w7 fun w8=>Bp .add x19 (.int .i64 1) fun x27=>KE [a0, there_5, x12, x6, x7, x8, x17, x18] [a0, there_5, x12, x6, x7, x8, x17, x18]<|next20 x27 w8) (Bp .add x8 (.int .i64 1) fun x28=>KE [a0, there_5, x6, x7] [a0, there_5, x6, x7]<|next9 x28 w7))) (LdA 256 there_5 w4 fun x29=>Cl P F.used_listed #[x29] w4 fun x30 w9=>Bp .eql x30 (.string ⟨#[]⟩) fun x31=>Vif x31 (R (.tuple #[(.string ⟨#[]⟩), (.int .i64 25)]) w9) (R (.tuple #[x30, (.int .i64 0)]) w9)))
theorem Tie.used_read {a0 : Value} (h : Vcf.used_read Tryz.prog a0 w R) : Cl Tryz.prog F.used_read #[a0] w R :=
  cl_of_vc (n := 56) (rs := [(.tmp 2), (.tmp 3)]) (h := (.s .z (.s .z (.s (.s .z (.i (.s .z .z) .z)) (.s .z (.s (.s .z (.b (.l [25] [0, 6, 23, 24] (.s .z (.s (.i .z .z) (.s (.b (.s .z (.s .z (.s (.s .z (.i (.s .z .z) .z)) (.s .z (.b (.l [40] [0, 6, 8, 23, 24, 25, 38, 39] (.s .z (.s (.i .z .z) (.s (.b (.s .z .z)) .z)))))))))) .z)))))) (.s .z (.s (.s .z (.i (.s .z .z) .z)) (.s .z .z))))))))) (args := [a0]) (by kernel_rfl) Tryz.func152 rfl (by kernel_rfl) rfl rfl rfl (Eq.mp (by kernel_rfl) h)

def Vcf.bits_Reader_Seek (P : Program) (a0 a1 : Value) (w : World) (R : Value → World → Prop) : Prop :=
 Bn P 75 false a0 (.pointer none) fun x1=>Vif x1 (R (.int .i64 7) w) (VJoin 1 (fun _ x2 w1=>Vif x2 (R (.int .i64 1) w1) (Nc a0<|Fo 2 a0 fun x3=>St x3 a1 w1 fun w2=>R (.int .i64 0) w2)) (fun J4=>Nc a0<|Fo 1 a0 fun x5=>Ld x5 w fun x6=>Bp .mul (.int .i64 8) x6 fun x7=>Bp .lss a1 x7 fun x8=>Vif x8 (KE [a0, a1] [a0, a1]<|J4 (.bool true) w) (Cl P F.bits_Reader_end #[a0] w fun x9 w3=>Bp .gtr a1 x9 fun x10=>KE [a0, a1] [a0, a1]<|J4 x10 w3)))
theorem Tie.bits_Reader_Seek {a0 a1 : Value} (h : Vcf.bits_Reader_Seek Tryz.prog a0 a1 w R) : Cl Tryz.prog F.bits_Reader_Seek #[a0, a1] w R :=
  cl_of_vc (n := 26) (rs := [(.tmp 4)]) (h := (.s .z (.s (.b (.s .z (.i (.s .z .z) (.j [8] [0, 1] .z (.i (.s .z .z) .z))))) (.s .z (.s .z .z))))) (args := [a0, a1]) (by kernel_rfl) Tryz.func153 rfl (by kernel_rfl) rfl rfl rfl (Eq.mp (by kernel_rfl) h)

def Vcf.code_NewReader (P : Program) (a0 : Value) (w : World) (R : Value → World → Prop) : Prop :=
 Cl P F.delta_NewReader #[a0] w fun x1 w1=>Ex x1 0 fun x2=>Ex x1 1 fun x3=>Bp .neq x3 (.int .i64 0) fun x4=>Vif x4 (R (.tuple #[(.pointer none), x3]) w1) (Cl P F.picks_NewReader #[] w1 fun x5 w2=>Bd P 142 #[(0, a0), (1, x5), (3, x2)] w2 fun x6=>New x6 142 w2 fun x7 w3=>R (.tuple #[x7, (.int .i64 0)]) w3)
theorem Tie.code_NewReader {a0 : Value} (h : Vcf.code_NewReader Tryz.prog a0 w R) : Cl Tryz.prog F.code_NewReader #[a0] w R :=
  cl_of_vc (n := 19) (rs := [(.tmp 2), (.tmp 3)]) (h := (.s .z (.s .z (.s (.s .z (.i (.s .z .z) .z)) (.s .z .z))))) (args := [a0]) (by kernel_rfl) Tryz.func154 rfl (by kernel_rfl) rfl rfl rfl (Eq.mp (by kernel_rfl) h)

def Vcf.zeros_NewReader (P : Program) (a0 a1 : Value) (w : World) (R : Value → World → Prop) : Prop :=
 VJoin 1 (fun _ x1 w1=>Vif x1 (R (.tuple #[(.pointer none), (.int .i64 1)]) w1) (Bd P 238 #[(0, a0), (1, a1), (4, (.int .i64 1))] w1 fun x2=>New x2 238 w1 fun x3 w2=>R (.tuple #[x3, (.int .i64 0)]) w2)) (fun J4=>Cl P F.zeros_may #[a0] w fun x5 w3=>Up .not x5 fun x6=>Vif x6 (KE [a0, a1] [a0, a1]<|J4 (.bool true) w3) (Bp .lss a1 (.int .i64 0) fun x7=>Vif x7 (KE [a0, a1] [a0, a1]<|J4 (.bool true) w3) (Bp .gtr a1 (.int .i64 1099511627776) fun x8=>KE [a0, a1] [a0, a1]<|J4 x8 w3)))
theorem Tie.zeros_NewReader {a0 a1 : Value} (h : Vcf.zeros_NewReader Tryz.prog a0 a1 w R) : Cl Tryz.prog F.zeros_NewReader #[a0, a1] w R :=
  cl_of_vc (n := 21) (rs := [(.tmp 4), (.tmp 5)]) (h := (.s .z (.s (.j [16] [0, 1] .z (.i (.s .z .z) .z)) (.s .z .z)))) (args := [a0, a1]) (by kernel_rfl) Tryz.func155 rfl (by kernel_rfl) rfl rfl rfl (Eq.mp (by kernel_rfl) h)

def Vcf.mtf_New (P : Program) (a0 : Value) (w : World) (R : Value → World → Prop) : Prop :=
 Cl P F.used_Is #[a0] w fun x1 w1=>Up .not x1 fun x2=>Vif x2 (R (.tuple #[(.pointer none), (.int .i64 1)]) w1) (Cw P 9 53 a0 w1 fun x3 w2=>Bd P 222 #[(0, x3)] w2 fun x4=>New x4 222 w2 fun x5 w3=>R (.tuple #[x5, (.int .i64 0)]) w3)
theorem Tie.mtf_New {a0 : Value} (h : Vcf.mtf_New Tryz.prog a0 w R) : Cl Tryz.prog F.mtf_New #[a0] w R :=
  cl_of_vc (n := 11) (rs := [(.tmp 2), (.tmp 3)]) (h := (.s .z (.s (.s .z (.i (.s .z .z) .z)) (.s .z .z)))) (args := [a0]) (by kernel_rfl) Tryz.func156 rfl (by kernel_rfl) rfl rfl rfl (Eq.mp (by kernel_rfl) h)

def Vcf.mtf_List_touch (P : Program) (a0 a1 : Value) (w : World) (R : Value → World → Prop) : Prop :=
 Nc a0<|Fo 0 a0 fun x1=>Ld x1 w fun x2=>Ias 1 x2 a1 fun x3=>Ld x3 w fun x4=>Dr w fun w1=>Nc a0<|Fo 0 a0 fun x5=>Ld x5 w1 fun x6=>Bp .add a1 (.int .i64 1) fun x8=>Ssl 1 x6 (some (.int .i64 1)) (some x8) fun x9=>Nc a0<|Fo 0 a0 fun x11=>Ld x11 w1 fun x12=>Ssl 1 x12 none (some a1) fun x14=>Cp P #[53, 53] 3 #[x9, x14] w1 fun x16 w2=>Nc a0<|Fo 0 a0 fun x17=>Ld x17 w2 fun x18=>Ias 1 x18 (.int .i64 0) fun x19=>St x19 x4 w2 fun w3=>R x4 w3
theorem Tie.mtf_List_touch {a0 a1 : Value} (h : Vcf.mtf_List_touch Tryz.prog a0 a1 w R) : Cl Tryz.prog F.mtf_List_touch #[a0, a1] w R :=
  cl_of_vc (n := 34) (rs := [(.tmp 4)]) (h := (.s .z (.s .z (.s (.r (.staged [0, 1, 3, 7, 0, 16, 63, 0, 128, 384, 896, 0, 3968, 8191])) (.s .z (.s .z .z)))))) (args := [a0, a1]) (by kernel_rfl) Tryz.func157 rfl (by kernel_rfl) rfl rfl rfl (Eq.mp (by kernel_rfl) h)

def Vcf.code_Reader_symbol (P : Program) (a0 a1 : Value) (w : World) (R : Value → World → Prop) : Prop :=
 Nc a0<|Fo 5 a0 fun x1=>Ld x1 w fun x2=>Bp .quo x2 (.int .i64 50) fun x3=>Nc a0<|Fo 2 a0 fun x4=>Ld x4 w fun x5=>Lnl x5 fun x6=>Bp .geq x3 x6 fun x7=>Vif x7 (R (.tuple #[(.int .i64 (-1)), (.int .i64 25)]) w) (Dr w fun w1=>Nc a0<|Fo 4 a0 fun x8=>Ld x8 w1 fun x9=>Nc a0<|Fo 2 a0 fun x11=>Ld x11 w1 fun x12=>Ias 1 x12 x3 fun x14=>Ld x14 w1 fun x15=>Ias 1 x9 x15 fun x17=>Ld x17 w1 fun x18=>Cl P F.canon_Code_Get #[x18, a1] w1 fun x20 w2=>Ex x20 0 fun x21=>Ex x20 1 fun x22=>Bp .neq x22 (.int .i64 0) fun x23=>Vif x23 (R (.tuple #[(.int .i64 (-1)), x22]) w2) (Nc a0<|Fo 5 a0 fun x24=>Ld x24 w2 fun x25=>Bp .add x25 (.int .i64 1) fun x26=>Nc a0<|Fo 5 a0 fun x27=>St x27 x26 w2 fun w3=>Nc a0<|Fo 0 a0 fun x28=>Ld x28 w3 fun x29=>Bp .sub x29 (.int .i64 1) fun x30=>Bp .eql x21 x30 fun x31=>Nc a0<|Fo 6 a0 fun x32=>St x32 x31 w3 fun w4=>R (.tuple #[x21, (.int .i64 0)]) w4))
theorem Tie.code_Reader_symbol {a0 a1 : Value} (h : Vcf.code_Reader_symbol Tryz.prog a0 a1 w R) : Cl Tryz.prog F.code_Reader_symbol #[a0, a1] w R :=
  cl_of_vc (n := 60) (rs := [(.tmp 4), (.tmp 5)]) (h := (.s .z (.s .z (.s (.s .z (.i (.s .z .z) .z)) (.s (.r (.staged [0, 1, 3, 7, 0, 16, 48, 112, 0, 496, 1008, 2047, 4095, 0, 16383, 32767, 65535, 65535, 131071, 524287])) (.s (.s .z (.i (.s .z .z) .z)) (.s .z (.s .z (.s .z .z))))))))) (args := [a0, a1]) (by kernel_rfl) Tryz.func158 rfl (by kernel_rfl) rfl rfl rfl (Eq.mp (by kernel_rfl) h)

def Vcf.picks_Reader_Done (P : Program) (a0 : Value) (w : World) (R : Value → World → Prop) : Prop :=
 Dr w fun w1=>Bn P 181 true a0 (.pointer none) fun x1=>Vif x1 (Nc a0<|Fo 1 a0 fun x2=>Ld x2 w1 fun x3=>Bp .gtr x3 (.int .i64 0) fun x5=>Vif x5 (Nc a0<|Fo 8 a0 fun x6=>Ld x6 w1 fun x7=>Lnl x7 fun x9=>Nc a0<|Fo 1 a0 fun x11=>Ld x11 w1 fun x12=>Bp .eql x9 x12 fun x14=>R x14 w1) (R (.bool false) w1)) (R (.bool false) w1)
theorem Tie.picks_Reader_Done {a0 : Value} (h : Vcf.picks_Reader_Done Tryz.prog a0 w R) : Cl Tryz.prog F.picks_Reader_Done #[a0] w R :=
  cl_of_vc (n := 24) (rs := [(.tmp 2)]) (h := (.s .z (.s (.r (.staged [0, 1, 3, 7, 15, 31, 63, 127, 255, 511, 1023, 2047, 4095, 8191, 16383, 1023, 33791, 99327, 230399, 524287, 1048575, 2097151])) .z))) (args := [a0]) (by kernel_rfl) Tryz.func159 rfl (by kernel_rfl) rfl rfl rfl (Eq.mp (by kernel_rfl) h)

def Vcf.code_Reader_pick (P : Program) (a0 a1 : Value) (w : World) (R : Value → World → Prop) : Prop :=
 Nc a0<|Fo 1 a0 fun x1=>Ld x1 w fun x2=>Cl P F.picks_Reader_Step #[x2, a1] w fun x3 w1=>Nc a0<|Fo 1 a0 fun x4=>Ld x4 w1 fun x5=>Cl P F.picks_Reader_Done #[x5] w1 fun x6 w2=>Vif x6 (Nc a0<|Fo 1 a0 fun x7=>Ld x7 w2 fun x8=>Cl P F.picks_Reader_Picks #[x8] w2 fun x9 w3=>Nc a0<|Fo 2 a0 fun x10=>St x10 x9 w3 fun w4=>R (.tuple #[(.int .i64 (-1)), x3]) w4) (R (.tuple #[(.int .i64 (-1)), x3]) w2)
theorem Tie.code_Reader_pick {a0 a1 : Value} (h : Vcf.code_Reader_pick Tryz.prog a0 a1 w R) : Cl Tryz.prog F.code_Reader_pick #[a0, a1] w R :=
  cl_of_vc (n := 27) (rs := [(.tmp 4), (.tmp 5)]) (h := (.s .z (.s .z (.s (.s .z (.i .z .z)) (.s .z .z))))) (args := [a0, a1]) (by kernel_rfl) Tryz.func160 rfl (by kernel_rfl) rfl rfl rfl (Eq.mp (by kernel_rfl) h)

def Vcf.picks_Reader_Tables (P : Program) (a0 : Value) (w : World) (R : Value → World → Prop) : Prop :=
 Bn P 181 false a0 (.pointer none) fun x1=>Vif x1 (R (.int .i64 0) w) (Nc a0<|Fo 0 a0 fun x2=>Ld x2 w fun x3=>R x3 w)
theorem Tie.picks_Reader_Tables {a0 : Value} (h : Vcf.picks_Reader_Tables Tryz.prog a0 w R) : Cl Tryz.prog F.picks_Reader_Tables #[a0] w R :=
  cl_of_vc (n := 9) (rs := [(.tmp 2)]) (h := (.s .z (.s (.s .z (.i (.s .z .z) .z)) (.s .z .z)))) (args := [a0]) (by kernel_rfl) Tryz.func161 rfl (by kernel_rfl) rfl rfl rfl (Eq.mp (by kernel_rfl) h)

def Vcf.code_Reader_table (P : Program) (a0 a1 : Value) (w : World) (R : Value → World → Prop) : Prop :=
 Nc a0<|Fo 3 a0 fun x1=>Ld x1 w fun x2=>Cl P F.delta_Reader_Step #[x2, a1] w fun x3 w1=>VJoin 1 (fun _ x4 w2=>Vif x4 (R (.tuple #[(.int .i64 (-1)), x3]) w2) (Nc a0<|Fo 3 a0 fun x5=>Ld x5 w2 fun x6=>Cl P F.delta_Reader_Lens #[x6] w2 fun x7 w3=>Cl P F.canon_New #[x7] w3 fun x8 w4=>Ex x8 0 fun x9=>Ex x8 1 fun x10=>Bp .neq x10 (.int .i64 0) fun x11=>Vif x11 (R (.tuple #[(.int .i64 (-1)), x10]) w4) (Nc a0<|Fo 4 a0 fun x12=>Ld x12 w4 fun x13=>Bs P 140 1 #[(0, x9)] w4 fun x14 w5=>Ap P #[140, 140] 140 #[x13, x14] w5 fun x15 w6=>Nc a0<|Fo 4 a0 fun x16=>St x16 x15 w6 fun w7=>Nc a0<|Fo 0 a0 fun x17=>Ld x17 w7 fun x18=>Cl P F.delta_NewReader #[x18] w7 fun x19 w8=>Ex x19 0 fun x20=>Ex x19 1 fun x21=>Nc a0<|Fo 3 a0 fun x22=>St x22 x20 w8 fun w9=>R (.tuple #[(.int .i64 (-1)), (.int .i64 0)]) w9))) (fun J23=>Bp .neq x3 (.int .i64 0) fun x24=>Vif x24 (KE [a0, x3] [a0, x3]<|J23 (.bool true) w1) (Nc a0<|Fo 3 a0 fun x25=>Ld x25 w1 fun x26=>Cl P F.delta_Reader_Done #[x26] w1 fun x27 w10=>Up .not x27 fun x28=>KE [a0, x3] [a0, x3]<|J23 x28 w10))
theorem Tie.code_Reader_table {a0 a1 : Value} (h : Vcf.code_Reader_table Tryz.prog a0 a1 w R) : Cl Tryz.prog F.code_Reader_table #[a0, a1] w R :=
  cl_of_vc (n := 62) (rs := [(.tmp 4), (.tmp 5)]) (h := (.s .z (.s (.s .z (.j [26] [0, 6] .z (.i (.s .z .z) .z))) (.s .z (.s (.s .z (.i (.s .z .z) .z)) (.s .z (.s .z (.s .z (.s .z .z))))))))) (args := [a0, a1]) (by kernel_rfl) Tryz.func162 rfl (by kernel_rfl) rfl rfl rfl (Eq.mp (by kernel_rfl) h)

def Vcf.zeros_Reader_Put (P : Program) (a0 a1 : Value) (w : World) (R : Value → World → Prop) : Prop :=
 VJoin 1 (fun _ x1 w1=>Vif x1 (R (.tuple #[(.int .i64 0), (.int .i64 0), (.int .i64 7)]) w1) (VJoin 1 (fun _ x2 w2=>Vif x2 (R (.tuple #[(.int .i64 0), (.int .i64 0), (.int .i64 25)]) w2) (Bp .leq a1 (.int .i64 1) fun x3=>Vif x3 (Cl P F.zeros_Reader_more #[a0, a1] w2 fun x4 w3=>Bp .neq x4 (.int .i64 0) fun x5=>Vif x5 (R (.tuple #[(.int .i64 0), (.int .i64 0), x4]) w3) (R (.tuple #[(.int .i64 0), (.int .i64 (-1)), (.int .i64 0)]) w3)) (Bp .sub a1 (.int .i64 1) fun x6=>VJoin 1 (fun _ place_7 w4=>Nc a0<|Fo 3 a0 fun x8=>Ld x8 w4 fun x9=>Nc a0<|Fo 2 a0 fun x10=>Ld x10 w4 fun x11=>Bp .add x11 x9 fun x12=>Nc a0<|Fo 2 a0 fun x13=>St x13 x12 w4 fun w5=>Nc a0<|Fo 3 a0 fun x14=>St x14 (.int .i64 0) w5 fun w6=>Nc a0<|Fo 4 a0 fun x15=>St x15 (.int .i64 1) w6 fun w7=>R (.tuple #[x9, place_7, (.int .i64 0)]) w7) (fun J16=>Nc a0<|Fo 0 a0 fun x17=>Ld x17 w2 fun x18=>Bp .add x18 (.int .i64 1) fun x19=>Bp .eql a1 x19 fun x20=>Vif x20 (Nc a0<|Fo 5 a0 fun x21=>St x21 (.bool true) w2 fun w8=>KE [a0] [a0]<|J16 (.int .i64 (-1)) w8) (Dr w2 fun w9=>Cl P F.zeros_Reader_Count #[a0] w9 fun x22 w10=>Nc a0<|Fo 1 a0 fun x23=>Ld x23 w10 fun x24=>Rk (fun w K=>Ld x23 w fun x25=>K x25) x24 w9<|Bp .eql x22 x24 fun x27=>Vif x27 (R (.tuple #[(.int .i64 0), (.int .i64 0), (.int .i64 2)]) w10) (Nc a0<|Fo 2 a0 fun x28=>Ld x28 w10 fun x29=>Bp .add x29 (.int .i64 1) fun x30=>Nc a0<|Fo 2 a0 fun x31=>St x31 x30 w10 fun w11=>KE [a0] [a0]<|J16 x6 w11)))))) (fun J32=>Bp .lss a1 (.int .i64 0) fun x33=>Vif x33 (KE [a0, a1] [a0, a1]<|J32 (.bool true) w1) (Nc a0<|Fo 0 a0 fun x34=>Ld x34 w1 fun x35=>Bp .add x35 (.int .i64 1) fun x36=>Bp .gtr a1 x36 fun x37=>KE [a0, a1] [a0, a1]<|J32 x37 w1)))) (fun J38=>Bn P 238 false a0 (.pointer none) fun x39=>Vif x39 (KE [a0, a1] [a0, a1]<|J38 (.bool true) w) (Nc a0<|Fo 5 a0 fun x40=>Ld x40 w fun x41=>KE [a0, a1] [a0, a1]<|J38 x41 w))
theorem Tie.zeros_Reader_Put {a0 a1 : Value} (h : Vcf.zeros_Reader_Put Tryz.prog a0 a1 w R) : Cl Tryz.prog F.zeros_Reader_Put #[a0, a1] w R :=
  cl_of_vc (n := 84) (rs := [(.tmp 4), (.tmp 5), (.tmp 6)]) (h := (.s .z (.s (.b (.j [8] [0, 1] .z (.i (.s .z .z) (.j [17] [0, 1] .z (.i (.s .z .z) (.s .z (.i (.s (.s .z (.s .z (.i (.s .z .z) .z))) (.s .z .z)) .z))))))) (.s .z (.j [5] [0] (.s .z (.i (.s .z .z) (.s (.r (.staged [0, 1, 0, 4, 12, 28, 63])) (.i (.s .z .z) .z)))) (.s .z (.s .z (.s .z (.s .z (.s .z .z)))))))))) (args := [a0, a1]) (by kernel_rfl) Tryz.func163 rfl (by kernel_rfl) rfl rfl rfl (Eq.mp (by kernel_rfl) h)

def Vcf.used_marks (P : Program) (a0 : Value) (w : World) (R : Value → World → Prop) : Prop :=
 VLoop 2 [(.slice none 0 0), (.int .i64 0)] w fun _ next3 out_1 x2 w1=>Bp .lss x2 (.int .i64 16) fun x4=>Vif x4 (Bp .sub (.int .i64 15) x2 fun x5=>Bp .shr a0 x5 fun x6=>Bp .and x6 (.int .u32 1) fun x7=>Bp .eql x7 (.int .u32 1) fun x8=>Vif x8 (Bs P 103 1 #[(0, x2)] w1 fun x9 w2=>Ap P #[103, 103] 103 #[out_1, x9] w2 fun x10 w3=>Bp .add x2 (.int .i64 1) fun x11=>KE [a0] [a0]<|next3 x10 x11 w3) (Bp .add x2 (.int .i64 1) fun x12=>KE [a0] [a0]<|next3 out_1 x12 w1)) (R out_1 w1)
theorem Tie.used_marks {a0 : Value} (h : Vcf.used_marks Tryz.prog a0 w R) : Cl Tryz.prog F.used_marks #[a0] w R :=
  cl_of_vc (n := 20) (rs := [(.tmp 2)]) (h := (.s .z (.s .z (.s (.s .z (.b (.l [3, 5] [0] (.s .z (.s (.i .z .z) (.s (.b (.s .z (.s .z (.i .z .z)))) .z)))))) (.s .z .z))))) (args := [a0]) (by kernel_rfl) Tryz.func167 rfl (by kernel_rfl) rfl rfl rfl (Eq.mp (by kernel_rfl) h)

def Vcf.used_listed (P : Program) (a0 : Value) (w : World) (R : Value → World → Prop) : Prop :=
 New a0 231 w fun there_1 w1=>LdA 256 there_1 w1 fun x2=>VLoop 2 [(.slice none 0 0), (.int .i64 0)] w1 fun _ next5 out_3 x4 w2=>Bp .lss x4 (.int .i64 256) fun x6=>Vif x6 (Ixa 256 1 false x2 x4 fun x7=>Vif x7 (Ci .u8 x4 fun x8=>Bs P 53 1 #[(0, x8)] w2 fun x9 w3=>Ap P #[53, 53] 53 #[out_3, x9] w3 fun x10 w4=>Bp .add x4 (.int .i64 1) fun x11=>KE [x2] [x2]<|next5 x10 x11 w4) (Bp .add x4 (.int .i64 1) fun x12=>KE [x2] [x2]<|next5 out_3 x12 w2)) (Cw P 53 9 out_3 w2 fun x13 w5=>R x13 w5)
theorem Tie.used_listed {a0 : Value} (h : Vcf.used_listed Tryz.prog a0 w R) : Cl Tryz.prog F.used_listed #[a0] w R :=
  cl_of_vc (n := 20) (rs := [(.tmp 2)]) (h := (.s .z (.s .z (.s (.s .z (.b (.l [3, 7] [6] (.s .z (.s (.i .z .z) (.s (.b (.s .z (.s .z (.i .z .z)))) .z)))))) (.s .z .z))))) (args := [a0]) (by kernel_rfl) Tryz.func168 rfl (by kernel_rfl) rfl rfl rfl (Eq.mp (by kernel_rfl) h)

def Vcf.delta_NewReader (P : Program) (a0 : Value) (w : World) (R : Value → World → Prop) : Prop :=
 Cl P F.delta_sized #[a0] w fun x1 w1=>Up .not x1 fun x2=>Vif x2 (R (.tuple #[(.pointer none), (.int .i64 1)]) w1) (Bd P 244 #[(0, a0)] w1 fun x3=>New x3 244 w1 fun x4 w2=>R (.tuple #[x4, (.int .i64 0)]) w2)
theorem Tie.delta_NewReader {a0 : Value} (h : Vcf.delta_NewReader Tryz.prog a0 w R) : Cl Tryz.prog F.delta_NewReader #[a0] w R :=
  cl_of_vc (n := 10) (rs := [(.tmp 2), (.tmp 3)]) (h := (.s .z (.s (.s .z (.i (.s .z .z) .z)) (.s .z .z)))) (args := [a0]) (by kernel_rfl) Tryz.func169 rfl (by kernel_rfl) rfl rfl rfl (Eq.mp (by kernel_rfl) h)

def Vcf.picks_NewReader (P : Program) (w : World) (R : Value → World → Prop) : Prop :=
 Cl P F.picks_fresh #[] w fun x1 w1=>Bd P 181 #[(2, x1)] w1 fun x2=>New x2 181 w1 fun x3 w2=>R x3 w2
theorem Tie.picks_NewReader (h : Vcf.picks_NewReader Tryz.prog w R) : Cl Tryz.prog F.picks_NewReader #[] w R :=
  cl_of_vc (n := 4) (rs := [(.tmp 0)]) (h := (.s .z (.s .z .z))) (args := []) (by kernel_rfl) Tryz.func170 rfl (by kernel_rfl) rfl rfl rfl (Eq.mp (by kernel_rfl) h)

def Vcf.zeros_may (P : Program) (a0 : Value) (w : World) (R : Value → World → Prop) : Prop :=
 Bp .geq a0 (.int .i64 1) fun x1=>Vif x1 (Bp .leq a0 (.int .i64 256) fun x2=>R x2 w) (R (.bool false) w)
theorem Tie.zeros_may {a0 : Value} (h : Vcf.zeros_may Tryz.prog a0 w R) : Cl Tryz.prog F.zeros_may #[a0] w R :=
  cl_of_vc (n := 9) (rs := [(.tmp 2)]) (h := (.s .z (.s .z .z))) (args := [a0]) (by kernel_rfl) Tryz.func171 rfl (by kernel_rfl) rfl rfl rfl (Eq.mp (by kernel_rfl) h)

def Vcf.used_Is (P : Program) (a0 : Value) (w : World) (R : Value → World → Prop) : Prop :=
 Lns a0 fun x1=>VLoop 1 [(.int .i64 0)] w fun _ next3 x2 w1=>Bp .lss x2 x1 fun x4=>Vif x4 (VJoin 1 (fun _ x5 w2=>Vif x5 (R (.bool false) w2) (Bp .add x2 (.int .i64 1) fun x6=>KE [a0, x1] [a0, x1]<|next3 x6 w2)) (fun J7=>Dr w1 fun w3=>Bp .gtr x2 (.int .i64 0) fun x8=>Vif x8 (Ixs a0 x2 fun x9=>Bp .sub x2 (.int .i64 1) fun x10=>Ixs a0 x10 fun x11=>Bp .leq x9 x11 fun x12=>KE [a0, x1, x2] [a0, x1, x2]<|J7 x12 w3) (KE [a0, x1, x2] [a0, x1, x2]<|J7 (.bool false) w3))) (Bp .neq a0 (.string ⟨#[]⟩) fun x13=>R x13 w1)
theorem Tie.used_Is {a0 : Value} (h : Vcf.used_Is Tryz.prog a0 w R) : Cl Tryz.prog F.used_Is #[a0] w R :=
  cl_of_vc (n := 24) (rs := [(.tmp 2)]) (h := (.s .z (.s (.s .z (.b (.l [6] [0, 5] (.s .z (.s (.i .z .z) (.s (.b (.s .z (.j [20] [0, 5, 6] (.r (.staged [0, 1, 3, 7, 7, 31, 7, 7, 135, 455, 1023, 2047])) (.i (.s .z .z) .z)))) .z)))))) (.s .z .z)))) (args := [a0]) (by kernel_rfl) Tryz.func172 rfl (by kernel_rfl) rfl rfl rfl (Eq.mp (by kernel_rfl) h)

def Vcf.canon_Code_Get (P : Program) (a0 a1 : Value) (w : World) (R : Value → World → Prop) : Prop :=
 VJoin 1 (fun _ x1 w1=>Vif x1 (R (.tuple #[(.int .i64 0), (.int .i64 7)]) w1) (Cl P F.bits_Reader_At #[a1] w1 fun x2 w2=>Cl P F.canon_Code_get #[a0, a1] w2 fun x3 w3=>Ex x3 0 fun x4=>Ex x3 1 fun x5=>Bp .neq x5 (.int .i64 0) fun x6=>Vif x6 (Cl P F.bits_Reader_Seek #[a1, x2] w3 fun x7 w4=>R (.tuple #[x4, x5]) w4) (R (.tuple #[x4, x5]) w3))) (fun J8=>Bn P 249 false a0 (.pointer none) fun x9=>Vif x9 (KE [a0, a1] [a0, a1]<|J8 (.bool true) w) (Bn P 75 false a1 (.pointer none) fun x10=>KE [a0, a1] [a0, a1]<|J8 x10 w))
theorem Tie.canon_Code_Get {a0 a1 : Value} (h : Vcf.canon_Code_Get Tryz.prog a0 a1 w R) : Cl Tryz.prog F.canon_Code_Get #[a0, a1] w R :=
  cl_of_vc (n := 30) (rs := [(.tmp 4), (.tmp 5)]) (h := (.s .z (.s (.j [14] [0, 1] .z (.i (.s .z .z) .z)) (.s .z (.s .z (.s (.s .z (.i .z .z)) (.s .z .z))))))) (args := [a0, a1]) (by kernel_rfl) Tryz.func173 rfl (by kernel_rfl) rfl rfl rfl (Eq.mp (by kernel_rfl) h)

def Vcf.picks_Reader_Step (P : Program) (a0 a1 : Value) (w : World) (R : Value → World → Prop) : Prop :=
 VJoin 1 (fun _ x1 w1=>Vif x1 (R (.int .i64 7) w1) (Nc a0<|Fo 9 a0 fun x2=>Ld x2 w1 fun x3=>Vif x3 (R (.int .i64 25) w1) (Cl P F.bits_Reader_At #[a1] w1 fun x4 w2=>Mf P (.func 185) #[a0] #[] w2 fun x5=>VJoin 1 (fun _ step_6 w3=>Inv P (do let d ← Deferred.ofValue step_6 #[a1]; invoke d.target d.args) w3 fun x7 w4=>Bp .eql x7 (.int .i64 3) fun x8=>Vif x8 (Cl P F.bits_Reader_Seek #[a1, x4] w4 fun x9 w5=>R x7 w5) (R x7 w4)) (fun J10=>Nc a0<|Fo 1 a0 fun x11=>Ld x11 w2 fun x12=>Bp .eql x12 (.int .i64 0) fun x13=>Vif x13 (Mf P (.func 186) #[a0] #[] w2 fun x14=>KE [a1, x4] [a1, x4]<|J10 x14 w2) (KE [a1, x4] [a1, x4]<|J10 x5 w2))))) (fun J15=>Bn P 181 false a0 (.pointer none) fun x16=>Vif x16 (KE [a0, a1] [a0, a1]<|J15 (.bool true) w) (Bn P 75 false a1 (.pointer none) fun x17=>Vif x17 (KE [a0, a1] [a0, a1]<|J15 (.bool true) w) (Cl P F.picks_Reader_Done #[a0] w fun x18 w6=>KE [a0, a1] [a0, a1]<|J15 x18 w6)))
theorem Tie.picks_Reader_Step {a0 a1 : Value} (h : Vcf.picks_Reader_Step Tryz.prog a0 a1 w R) : Cl Tryz.prog F.picks_Reader_Step #[a0, a1] w R :=
  cl_of_vc (n := 44) (rs := [(.tmp 4)]) (h := (.s .z (.s (.b (.j [8] [0, 1] .z (.i (.s .z .z) (.s .z (.i (.s .z .z) .z))))) (.s .z (.s .z (.j [6] [1, 5] (.s .z (.i .z .z)) (.s .z (.s (.s .z (.i .z .z)) (.s .z .z))))))))) (args := [a0, a1]) (by kernel_rfl) Tryz.func174 rfl (by kernel_rfl) rfl rfl rfl (Eq.mp (by kernel_rfl) h)

def Vcf.delta_Reader_Step (P : Program) (a0 a1 : Value) (w : World) (R : Value → World → Prop) : Prop :=
 VJoin 1 (fun _ x1 w1=>Vif x1 (R (.int .i64 7) w1) (Nc a0<|Fo 3 a0 fun x2=>Ld x2 w1 fun x3=>Vif x3 (R (.int .i64 22) w1) (Cl P F.bits_Reader_At #[a1] w1 fun x4 w2=>Cl P F.delta_Reader_step #[a0, a1] w2 fun x5 w3=>Bp .eql x5 (.int .i64 3) fun x6=>Vif x6 (Cl P F.bits_Reader_Seek #[a1, x4] w3 fun x7 w4=>R x5 w4) (R x5 w3)))) (fun J8=>Bn P 244 false a0 (.pointer none) fun x9=>Vif x9 (KE [a0, a1] [a0, a1]<|J8 (.bool true) w) (Bn P 75 false a1 (.pointer none) fun x10=>Vif x10 (KE [a0, a1] [a0, a1]<|J8 (.bool true) w) (Cl P F.delta_Reader_Done #[a0] w fun x11 w5=>KE [a0, a1] [a0, a1]<|J8 x11 w5)))
theorem Tie.delta_Reader_Step {a0 a1 : Value} (h : Vcf.delta_Reader_Step Tryz.prog a0 a1 w R) : Cl Tryz.prog F.delta_Reader_Step #[a0, a1] w R :=
  cl_of_vc (n := 34) (rs := [(.tmp 4)]) (h := (.s .z (.s (.b (.j [7] [0, 1] .z (.i (.s .z .z) (.s .z (.i (.s .z .z) .z))))) (.s .z (.s .z (.s (.s .z (.i .z .z)) (.s .z .z))))))) (args := [a0, a1]) (by kernel_rfl) Tryz.func175 rfl (by kernel_rfl) rfl rfl rfl (Eq.mp (by kernel_rfl) h)

def Vcf.delta_Reader_Done (P : Program) (a0 : Value) (w : World) (R : Value → World → Prop) : Prop :=
 Dr w fun w1=>Bn P 244 true a0 (.pointer none) fun x1=>Vif x1 (Nc a0<|Fo 2 a0 fun x2=>Ld x2 w1 fun x3=>Lnl x3 fun x5=>Nc a0<|Fo 0 a0 fun x7=>Ld x7 w1 fun x8=>Bp .eql x5 x8 fun x10=>R x10 w1) (R (.bool false) w1)
theorem Tie.delta_Reader_Done {a0 : Value} (h : Vcf.delta_Reader_Done Tryz.prog a0 w R) : Cl Tryz.prog F.delta_Reader_Done #[a0] w R :=
  cl_of_vc (n := 17) (rs := [(.tmp 2)]) (h := (.s .z (.s (.r (.staged [0, 1, 3, 7, 15, 31, 63, 127, 7, 263, 775, 1799, 4095, 8191, 16383])) .z))) (args := [a0]) (by kernel_rfl) Tryz.func176 rfl (by kernel_rfl) rfl rfl rfl (Eq.mp (by kernel_rfl) h)

def Vcf.canon_New (P : Program) (a0 : Value) (w : World) (R : Value → World → Prop) : Prop :=
 VJoin 1 (fun _ x1 w1=>Vif x1 (R (.tuple #[(.pointer none), (.int .i64 1)]) w1) (Cl P F.canon_whole #[a0] w1 fun x2 w2=>Up .not x2 fun x3=>Vif x3 (R (.tuple #[(.pointer none), (.int .i64 22)]) w2) (VJoin 1 (fun _ c_4 w3=>VLoop 2 [(.int .i64 0), (.int .i64 1)] w3 fun _ next7 next_5 n_6 w4=>Bp .leq n_6 (.int .i64 20) fun x8=>Vif x8 (Bp .mul next_5 (.int .i64 2) fun x9=>Nc c_4<|Fo 3 c_4 fun x10=>Iaa 21 1 x10 n_6 fun x11=>St x11 x9 w4 fun w5=>Dr w5 fun w6=>Nc c_4<|Fo 2 c_4 fun x12=>Ld x12 w6 fun x13=>Lnl x13 fun x15=>Nc c_4<|Fo 24 c_4 fun x17=>Iaa 22 1 x17 n_6 fun x18=>St x18 x15 w6 fun w7=>Lnl a0 fun x19=>VLoop 2 [x9, (.int .i64 0)] w7 fun _ next22 next_20 x21 w8=>Bp .lss x21 x19 fun x23=>Vif x23 (Ias 1 a0 x21 fun x24=>Ld x24 w8 fun x25=>Bp .eql x25 n_6 fun x26=>Vif x26 (Nc c_4<|Fo 1 c_4 fun x27=>Ld x27 w8 fun x28=>Ci .u32 next_20 fun x29=>Ias 1 x28 x21 fun x30=>St x30 x29 w8 fun w9=>Nc c_4<|Fo 2 c_4 fun x31=>Ld x31 w9 fun x32=>Bs P 103 1 #[(0, x21)] w9 fun x33 w10=>Ap P #[103, 103] 103 #[x32, x33] w10 fun x34 w11=>Nc c_4<|Fo 2 c_4 fun x35=>St x35 x34 w11 fun w12=>Bp .add next_20 (.int .i64 1) fun x36=>Bp .add x21 (.int .i64 1) fun x37=>KE [a0, c_4, n_6, a0, x19] [a0, c_4, n_6, a0, x19]<|next22 x36 x37 w12) (Bp .add x21 (.int .i64 1) fun x38=>KE [a0, c_4, n_6, a0, x19] [a0, c_4, n_6, a0, x19]<|next22 next_20 x38 w8)) (Bp .add n_6 (.int .i64 1) fun x39=>KE [a0, c_4] [a0, c_4]<|next7 next_20 x39 w8)) (Dr w4 fun w13=>Nc c_4<|Fo 2 c_4 fun x40=>Ld x40 w13 fun x41=>Lnl x41 fun x43=>Nc c_4<|Fo 24 c_4 fun x45=>Iaa 22 1 x45 (.int .i64 21) fun x46=>St x46 x43 w13 fun w14=>R (.tuple #[c_4, (.int .i64 0)]) w14)) (fun J47=>Dr w2 fun w15=>(Cl P F.slices_Clone_int_int #[a0] w15 fun x48 w16=>Lnl a0 fun x49=>Rk (fun w K=>Lnl a0 fun x50=>K x50) x49 w15<|Ms P 79 x49 x49 w16 fun x52 w17=>Bd P 249 #[(0, x48), (1, x52)] w17 fun x53=>New x53 249 w17 fun x55 w18=>KE [a0] [a0]<|J47 x55 w18) ∧ (Lnl a0 fun x56=>Ms P 79 x56 x56 w15 fun x58 w19=>Cl P F.slices_Clone_int_int #[a0] w19 fun x59 w20=>Rk (fun w K=>Lnl a0 fun x57=>K x57) x56 w20<|Bd P 249 #[(0, x59), (1, x58)] w20 fun x60=>New x60 249 w20 fun x62 w21=>KE [a0] [a0]<|J47 x62 w21))))) (fun J63=>Lnl a0 fun x64=>Bp .lss x64 (.int .i64 3) fun x65=>Vif x65 (KE [a0] [a0]<|J63 (.bool true) w) (Lnl a0 fun x66=>Bp .gtr x66 (.int .i64 258) fun x67=>KE [a0] [a0]<|J63 x67 w))
theorem Tie.canon_New {a0 : Value} (h : Vcf.canon_New Tryz.prog a0 w R) : Cl Tryz.prog F.canon_New #[a0] w R :=
  cl_of_vc (n := 92) (rs := [(.tmp 2), (.tmp 3)]) (h := (.s .z (.s (.b (.j [9] [0] .z (.i (.s .z .z) (.s .z (.i (.s .z .z) .z))))) (.j [4] [0] (.r (.two [0, 1, 0, 4, 12, 31, 63, 127] 1 4 [0, 1, 2, 3, 4, 5, 6, 7] [0, 2, 3, 4, 1, 5, 6, 7])) (.s .z (.s (.s .z (.b (.l [5, 6] [0, 4] (.s (.s .z (.i .z .z)) (.s (.b (.s .z (.s .z (.s (.r (.staged [0, 0, 0, 4, 12, 28, 60, 1, 129, 511, 1023])) (.s .z (.b (.l [5, 53] [0, 4, 6, 51, 52] (.s .z (.s (.i .z .z) (.s (.b (.s .z (.s .z (.i (.s .z (.s .z .z)) .z)))) .z)))))))))) .z))))) (.s (.r (.staged [0, 0, 2, 6, 14, 30, 1, 65, 255, 511])) (.s .z .z)))))))) (args := [a0]) (by kernel_rfl) Tryz.func177 rfl (by kernel_rfl) rfl rfl rfl (Eq.mp (by kernel_rfl) h)

def Vcf.delta_Reader_Lens (P : Program) (a0 : Value) (w : World) (R : Value → World → Prop) : Prop :=
 Bn P 244 false a0 (.pointer none) fun x1=>Vif x1 (R (.slice none 0 0) w) (Nc a0<|Fo 2 a0 fun x2=>Ld x2 w fun x3=>Cl P F.slices_Clone_int_int #[x3] w fun x4 w1=>R x4 w1)
theorem Tie.delta_Reader_Lens {a0 : Value} (h : Vcf.delta_Reader_Lens Tryz.prog a0 w R) : Cl Tryz.prog F.delta_Reader_Lens #[a0] w R :=
  cl_of_vc (n := 10) (rs := [(.tmp 2)]) (h := (.s .z (.s (.s .z (.i (.s .z .z) .z)) (.s .z .z)))) (args := [a0]) (by kernel_rfl) Tryz.func178 rfl (by kernel_rfl) rfl rfl rfl (Eq.mp (by kernel_rfl) h)

def Vcf.zeros_Reader_more (P : Program) (a0 a1 : Value) (w : World) (R : Value → World → Prop) : Prop :=
 Nc a0<|Fo 4 a0 fun x1=>Ld x1 w fun x2=>Bp .shl x2 a1 fun x3=>Dr w fun w1=>Nc a0<|Fo 1 a0 fun x4=>Ld x4 w1 fun x5=>Cl P F.zeros_Reader_Count #[a0] w1 fun x7 w2=>Rk (fun w K=>Ld x4 w fun x6=>K x6) x5 w2<|Bp .sub x5 x7 fun x8=>Bp .gtr x3 x8 fun x9=>Vif x9 (R (.int .i64 2) w2) (Nc a0<|Fo 3 a0 fun x10=>Ld x10 w2 fun x11=>Bp .add x11 x3 fun x12=>Nc a0<|Fo 3 a0 fun x13=>St x13 x12 w2 fun w3=>Nc a0<|Fo 4 a0 fun x14=>Ld x14 w3 fun x15=>Bp .mul x15 (.int .i64 2) fun x16=>Nc a0<|Fo 4 a0 fun x17=>St x17 x16 w3 fun w4=>R (.int .i64 0) w4)
theorem Tie.zeros_Reader_more {a0 a1 : Value} (h : Vcf.zeros_Reader_more Tryz.prog a0 a1 w R) : Cl Tryz.prog F.zeros_Reader_more #[a0, a1] w R :=
  cl_of_vc (n := 36) (rs := [(.tmp 4)]) (h := (.s .z (.s .z (.s (.s (.r (.staged [0, 0, 2, 6, 14, 0, 32, 126, 255])) (.i (.s .z .z) .z)) (.s .z (.s .z (.s .z .z))))))) (args := [a0, a1]) (by kernel_rfl) Tryz.func179 rfl (by kernel_rfl) rfl rfl rfl (Eq.mp (by kernel_rfl) h)

def Vcf.zeros_Reader_Count (P : Program) (a0 : Value) (w : World) (R : Value → World → Prop) : Prop :=
 Bn P 238 false a0 (.pointer none) fun x1=>Vif x1 (R (.int .i64 0) w) (Dr w fun w1=>Nc a0<|Fo 2 a0 fun x2=>Ld x2 w1 fun x3=>Nc a0<|Fo 3 a0 fun x5=>Ld x5 w1 fun x6=>Bp .add x3 x6 fun x8=>R x8 w1)
theorem Tie.zeros_Reader_Count {a0 : Value} (h : Vcf.zeros_Reader_Count Tryz.prog a0 w R) : Cl Tryz.prog F.zeros_Reader_Count #[a0] w R :=
  cl_of_vc (n := 14) (rs := [(.tmp 2)]) (h := (.s .z (.s (.s .z (.i (.s .z .z) .z)) (.s (.r (.staged [0, 1, 3, 7, 0, 16, 48, 112, 255, 511])) .z)))) (args := [a0]) (by kernel_rfl) Tryz.func180 rfl (by kernel_rfl) rfl rfl rfl (Eq.mp (by kernel_rfl) h)

def Vcf.delta_sized (P : Program) (a0 : Value) (w : World) (R : Value → World → Prop) : Prop :=
 Bp .geq a0 (.int .i64 3) fun x1=>Vif x1 (Bp .leq a0 (.int .i64 258) fun x2=>R x2 w) (R (.bool false) w)
theorem Tie.delta_sized {a0 : Value} (h : Vcf.delta_sized Tryz.prog a0 w R) : Cl Tryz.prog F.delta_sized #[a0] w R :=
  cl_of_vc (n := 9) (rs := [(.tmp 2)]) (h := (.s .z (.s .z .z))) (args := [a0]) (by kernel_rfl) Tryz.func182 rfl (by kernel_rfl) rfl rfl rfl (Eq.mp (by kernel_rfl) h)

def Vcf.picks_fresh (P : Program) (w : World) (R : Value → World → Prop) : Prop :=
 New (zeroP P 179) 179 w fun x1 w1=>New (zeroP P 179) 179 w1 fun o_2 w2=>VLoop 1 [(.int .i64 0)] w2 fun _ next4 x3 w3=>Bp .lss x3 (.int .i64 6) fun x5=>Vif x5 (Iaa 6 1 o_2 x3 fun x6=>St x6 x3 w3 fun w4=>Bp .add x3 (.int .i64 1) fun x7=>KE [x1, o_2] [x1, o_2]<|next4 x7 w4) (LdA 6 o_2 w3 fun x8=>StA 6 x1 x8 w3 fun w5=>LdA 6 x1 w5 fun x9=>R x9 w5)
theorem Tie.picks_fresh (h : Vcf.picks_fresh Tryz.prog w R) : Cl Tryz.prog F.picks_fresh #[] w R :=
  cl_of_vc (n := 11) (rs := [(.cell 0 179)]) (h := (.s .z (.s .z (.s (.s .z (.b (.l [3] [0, 1] (.s .z (.s (.i .z .z) (.s (.b (.s .z .z)) .z)))))) (.s .z .z))))) (args := []) (by kernel_rfl) Tryz.func183 rfl (by kernel_rfl) rfl rfl rfl (Eq.mp (by kernel_rfl) h)

def Vcf.canon_Code_get (P : Program) (a0 a1 : Value) (w : World) (R : Value → World → Prop) : Prop :=
 VLoop 2 [(.int .i64 0), (.int .i64 1)] w fun _ next3 code_1 n_2 w1=>Bp .leq n_2 (.int .i64 20) fun x4=>Vif x4 (Cl P F.bits_Reader_Get #[a1, (.int .i64 1)] w1 fun x5 w2=>Ex x5 0 fun x6=>Ex x5 1 fun x7=>Bp .neq x7 (.int .i64 0) fun x8=>Vif x8 (R (.tuple #[(.int .i64 0), x7]) w2) (Bp .mul (.int .i64 2) code_1 fun x9=>Ci .i64 x6 fun x10=>Bp .add x9 x10 fun x11=>Dr w2 fun w3=>Nc a0<|Fo 24 a0 fun x12=>Iaa 22 1 x12 n_2 fun x13=>Ld x13 w3 fun x14=>Bp .add x14 x11 fun x16=>Nc a0<|Fo 3 a0 fun x17=>Iaa 21 1 x17 n_2 fun x18=>Ld x18 w3 fun x19=>Bp .sub x16 x19 fun x21=>Bp .add n_2 (.int .i64 1) fun x22=>Nc a0<|Fo 24 a0 fun x23=>Iaa 22 1 x23 x22 fun x24=>Ld x24 w3 fun x25=>Bp .lss x21 x25 fun x26=>Vif x26 (Nc a0<|Fo 2 a0 fun x27=>Ld x27 w3 fun x28=>Ias 1 x28 x21 fun x29=>Ld x29 w3 fun x30=>R (.tuple #[x30, (.int .i64 0)]) w3) (Bp .add n_2 (.int .i64 1) fun x31=>KE [a0, a1] [a0, a1]<|next3 x11 x31 w3))) (R (.tuple #[(.int .i64 0), (.int .i64 22)]) w1)
theorem Tie.canon_Code_get {a0 a1 : Value} (h : Vcf.canon_Code_get Tryz.prog a0 a1 w R) : Cl Tryz.prog F.canon_Code_get #[a0, a1] w R :=
  cl_of_vc (n := 59) (rs := [(.tmp 4), (.tmp 5)]) (h := (.s .z (.s .z (.s (.s .z (.b (.l [6, 7] [0, 1] (.s (.s .z (.i .z .z)) (.s (.b (.s .z (.s (.s .z (.i (.s .z .z) .z)) (.s .z (.s (.r (.staged [0, 0, 1, 5, 15, 31, 0, 127, 0, 0, 256, 1280, 3840, 7936, 16383, 32767])) (.s .z (.i (.s .z .z) .z))))))) .z))))) (.s .z .z))))) (args := [a0, a1]) (by kernel_rfl) Tryz.func184 rfl (by kernel_rfl) rfl rfl rfl (Eq.mp (by kernel_rfl) h)

def Vcf.picks_Reader_pick (P : Program) (a0 a1 : Value) (w : World) (R : Value → World → Prop) : Prop :=
 Nc a0<|Fo 0 a0 fun x1=>Ld x1 w fun x2=>VLoop 1 [(.int .i64 0)] w fun _ next4 x3 w1=>Bp .lss x3 x2 fun x5=>Vif x5 (Cl P F.bits_Reader_Get #[a1, (.int .i64 1)] w1 fun x6 w2=>Ex x6 0 fun x7=>Ex x6 1 fun x8=>Bp .neq x8 (.int .i64 0) fun x9=>Vif x9 (R x8 w2) (Bp .eql x7 (.int .u32 0) fun x10=>Vif x10 (Dr w2 fun w3=>Nc a0<|Fo 8 a0 fun x11=>Ld x11 w3 fun x12=>Nc a0<|Fo 2 a0 fun x14=>Cl P F.picks_order_touch #[x14, x3] w3 fun x15 w4=>Rk (fun w K=>Ld x11 w fun x13=>K x13) x12 w4<|Bs P 103 1 #[(0, x15)] w4 fun x16 w5=>Rk (fun w K=>Ld x11 w fun x13=>K x13) x12 w5<|Ap P #[103, 103] 103 #[x12, x16] w5 fun x17 w6=>Nc a0<|Fo 8 a0 fun x18=>St x18 x17 w6 fun w7=>R (.int .i64 0) w7) (Bp .add x3 (.int .i64 1) fun x19=>KE [a0, a1, x2] [a0, a1, x2]<|next4 x19 w2))) (Cl P F.picks_Reader_fail #[a0] w1 fun x20 w8=>R x20 w8)
theorem Tie.picks_Reader_pick {a0 a1 : Value} (h : Vcf.picks_Reader_pick Tryz.prog a0 a1 w R) : Cl Tryz.prog F.picks_Reader_pick #[a0, a1] w R :=
  cl_of_vc (n := 42) (rs := [(.tmp 4)]) (h := (.s .z (.s (.s .z (.b (.l [12] [0, 1, 11] (.s .z (.s (.i .z .z) (.s (.b (.s .z (.s .z (.s (.s .z (.i (.s .z .z) .z)) (.s .z (.i (.s (.r (.staged [0, 0, 2, 6, 14, 0, 32, 96, 0, 480, 992, 2046, 4095, 8191, 16383])) (.s .z .z)) .z)))))) .z)))))) (.s .z .z)))) (args := [a0, a1]) (by kernel_rfl) Tryz.func185 rfl (by kernel_rfl) rfl rfl rfl (Eq.mp (by kernel_rfl) h)

def Vcf.picks_Reader_head (P : Program) (a0 a1 : Value) (w : World) (R : Value → World → Prop) : Prop :=
 Cl P F.bits_Reader_Get #[a1, (.int .i64 18)] w fun x1 w1=>Ex x1 0 fun x2=>Ex x1 1 fun x3=>Bp .neq x3 (.int .i64 0) fun x4=>Vif x4 (R x3 w1) (Bp .shr x2 (.int .u64 15) fun x5=>Ci .i64 x5 fun x6=>Bp .and x2 (.int .u32 32767) fun x7=>Ci .i64 x7 fun x8=>VJoin 1 (fun _ x9 w2=>Vif x9 (Cl P F.picks_Reader_fail #[a0] w2 fun x10 w3=>R x10 w3) (Nc a0<|Fo 0 a0 fun x11=>St x11 x6 w2 fun w4=>Nc a0<|Fo 1 a0 fun x12=>St x12 x8 w4 fun w5=>R (.int .i64 0) w5)) (fun J13=>Cl P F.picks_tabled #[x6] w1 fun x14 w6=>Up .not x14 fun x15=>Vif x15 (KE [a0, x6, x8] [a0, x6, x8]<|J13 (.bool true) w6) (Bp .eql x8 (.int .i64 0) fun x16=>KE [a0, x6, x8] [a0, x6, x8]<|J13 x16 w6)))
theorem Tie.picks_Reader_head {a0 a1 : Value} (h : Vcf.picks_Reader_head Tryz.prog a0 a1 w R) : Cl Tryz.prog F.picks_Reader_head #[a0, a1] w R :=
  cl_of_vc (n := 40) (rs := [(.tmp 4)]) (h := (.s .z (.s .z (.s (.s .z (.i (.s .z .z) .z)) (.s .z (.s (.j [29] [0, 7, 8] .z (.i (.s .z .z) .z)) (.s .z (.s .z (.s .z .z))))))))) (args := [a0, a1]) (by kernel_rfl) Tryz.func186 rfl (by kernel_rfl) rfl rfl rfl (Eq.mp (by kernel_rfl) h)

def Vcf.delta_Reader_step (P : Program) (a0 a1 : Value) (w : World) (R : Value → World → Prop) : Prop :=
 Nc a0<|Fo 1 a0 fun x1=>Ld x1 w fun x2=>Bp .eql x2 (.int .i64 0) fun x3=>Vif x3 (Cl P F.bits_Reader_Get #[a1, (.int .i64 5)] w fun x4 w1=>Ex x4 0 fun x5=>Ex x4 1 fun x6=>Bp .neq x6 (.int .i64 0) fun x7=>Vif x7 (R x6 w1) (Ci .i64 x5 fun x8=>Cl P F.delta_Reader_turned #[a0, x8] w1 fun x9 w2=>R x9 w2)) (Cl P F.bits_Reader_Get #[a1, (.int .i64 1)] w fun x10 w3=>Ex x10 0 fun x11=>Ex x10 1 fun x12=>Bp .neq x12 (.int .i64 0) fun x13=>Vif x13 (R x12 w3) (Bp .eql x11 (.int .u32 0) fun x14=>Vif x14 (Dr w3 fun w4=>Nc a0<|Fo 2 a0 fun x15=>Ld x15 w4 fun x16=>Nc a0<|Fo 1 a0 fun x18=>Ld x18 w4 fun x19=>Bs P 103 1 #[(0, x19)] w4 fun x21 w5=>Rk (fun w K=>Ld x15 w fun x17=>K x17) x16 w5<|Ap P #[103, 103] 103 #[x16, x21] w5 fun x22 w6=>Nc a0<|Fo 2 a0 fun x23=>St x23 x22 w6 fun w7=>R (.int .i64 0) w7) (Cl P F.bits_Reader_Get #[a1, (.int .i64 1)] w3 fun x24 w8=>Ex x24 0 fun x25=>Ex x24 1 fun x26=>Bp .neq x26 (.int .i64 0) fun x27=>Vif x27 (R x26 w8) (Nc a0<|Fo 1 a0 fun x28=>Ld x28 w8 fun x29=>Bp .add x29 (.int .i64 1) fun x30=>Ci .i64 x25 fun x31=>Bp .mul (.int .i64 2) x31 fun x32=>Bp .sub x30 x32 fun x33=>Cl P F.delta_Reader_turned #[a0, x33] w8 fun x34 w9=>R x34 w9))))
theorem Tie.delta_Reader_step {a0 a1 : Value} (h : Vcf.delta_Reader_step Tryz.prog a0 a1 w R) : Cl Tryz.prog F.delta_Reader_step #[a0, a1] w R :=
  cl_of_vc (n := 68) (rs := [(.tmp 4)]) (h := (.s .z (.s (.s .z (.i (.s .z (.s (.s .z (.i (.s .z .z) .z)) (.s .z .z))) .z)) (.s .z (.s (.s .z (.i (.s .z .z) .z)) (.s (.s .z (.i (.s (.r (.staged [0, 0, 2, 6, 14, 0, 32, 96, 224, 480, 1022, 2047, 4095, 8191])) (.s .z .z)) .z)) (.s .z (.s (.s .z (.i (.s .z .z) .z)) (.s .z .z))))))))) (args := [a0, a1]) (by kernel_rfl) Tryz.func187 rfl (by kernel_rfl) rfl rfl rfl (Eq.mp (by kernel_rfl) h)

def Vcf.canon_whole (P : Program) (a0 : Value) (w : World) (R : Value → World → Prop) : Prop :=
 Cl P F.lens_Share #[a0] w fun x1 w1=>Ex x1 0 fun x2=>Ex x1 1 fun x3=>Bp .eql x3 (.int .i64 0) fun x4=>Vif x4 (Bp .eql x2 (.int .i64 1048576) fun x5=>Vif x5 (Cl P F.slices_Contains_int_int #[a0, (.int .i64 0)] w1 fun x6 w2=>Up .not x6 fun x7=>R x7 w2) (R (.bool false) w1)) (R (.bool false) w1)
theorem Tie.canon_whole {a0 : Value} (h : Vcf.canon_whole Tryz.prog a0 w R) : Cl Tryz.prog F.canon_whole #[a0] w R :=
  cl_of_vc (n := 21) (rs := [(.tmp 2)]) (h := (.s .z (.s .z (.s .z .z)))) (args := [a0]) (by kernel_rfl) Tryz.func188 rfl (by kernel_rfl) rfl rfl rfl (Eq.mp (by kernel_rfl) h)

def Vcf.picks_order_touch (P : Program) (a0 a1 : Value) (w : World) (R : Value → World → Prop) : Prop :=
 Nc a0<|Iaa 6 1 a0 a1 fun x1=>Ld x1 w fun x2=>VLoop 1 [a1] w fun _ next4 k_3 w1=>Bp .gtr k_3 (.int .i64 0) fun x5=>Vif x5 (Dr w1 fun w2=>Bp .sub k_3 (.int .i64 1) fun x6=>Nc a0<|Iaa 6 1 a0 x6 fun x7=>Ld x7 w2 fun x8=>Nc a0<|Iaa 6 1 a0 k_3 fun x10=>St x10 x8 w2 fun w3=>Bp .sub k_3 (.int .i64 1) fun x11=>KE [a0, x2] [a0, x2]<|next4 x11 w3) (Nc a0<|Iaa 6 1 a0 (.int .i64 0) fun x12=>St x12 x2 w1 fun w4=>R x2 w4)
theorem Tie.picks_order_touch {a0 a1 : Value} (h : Vcf.picks_order_touch Tryz.prog a0 a1 w R) : Cl Tryz.prog F.picks_order_touch #[a0, a1] w R :=
  cl_of_vc (n := 32) (rs := [(.tmp 4)]) (h := (.s .z (.s .z (.s (.s .z (.b (.l [6] [0, 5] (.s (.s .z (.i .z .z)) (.s (.b (.r (.staged [0, 0, 0, 0, 8, 4, 60, 124, 1, 511, 1023]))) .z))))) (.s .z (.s .z .z)))))) (args := [a0, a1]) (by kernel_rfl) Tryz.func189 rfl (by kernel_rfl) rfl rfl rfl (Eq.mp (by kernel_rfl) h)

def Vcf.picks_Reader_fail (P : Program) (a0 : Value) (w : World) (R : Value → World → Prop) : Prop :=
 Nc a0<|Fo 9 a0 fun x1=>St x1 (.bool true) w fun w1=>R (.int .i64 25) w1
theorem Tie.picks_Reader_fail {a0 : Value} (h : Vcf.picks_Reader_fail Tryz.prog a0 w R) : Cl Tryz.prog F.picks_Reader_fail #[a0] w R :=
  cl_of_vc (n := 6) (rs := [(.tmp 2)]) (h := (.s .z (.s .z (.s .z .z)))) (args := [a0]) (by kernel_rfl) Tryz.func190 rfl (by kernel_rfl) rfl rfl rfl (Eq.mp (by kernel_rfl) h)

def Vcf.picks_tabled (P : Program) (a0 : Value) (w : World) (R : Value → World → Prop) : Prop :=
 Bp .geq a0 (.int .i64 2) fun x1=>Vif x1 (Bp .leq a0 (.int .i64 6) fun x2=>R x2 w) (R (.bool false) w)
theorem Tie.picks_tabled {a0 : Value} (h : Vcf.picks_tabled Tryz.prog a0 w R) : Cl Tryz.prog F.picks_tabled #[a0] w R :=
  cl_of_vc (n := 9) (rs := [(.tmp 2)]) (h := (.s .z (.s .z .z))) (args := [a0]) (by kernel_rfl) Tryz.func191 rfl (by kernel_rfl) rfl rfl rfl (Eq.mp (by kernel_rfl) h)

def Vcf.delta_Reader_turned (P : Program) (a0 a1 : Value) (w : World) (R : Value → World → Prop) : Prop :=
 Cl P F.delta_length #[a1] w fun x1 w1=>Up .not x1 fun x2=>Vif x2 (Nc a0<|Fo 3 a0 fun x3=>St x3 (.bool true) w1 fun w2=>R (.int .i64 22) w2) (Nc a0<|Fo 1 a0 fun x4=>St x4 a1 w1 fun w3=>R (.int .i64 0) w3)
theorem Tie.delta_Reader_turned {a0 a1 : Value} (h : Vcf.delta_Reader_turned Tryz.prog a0 a1 w R) : Cl Tryz.prog F.delta_Reader_turned #[a0, a1] w R :=
  cl_of_vc (n := 15) (rs := [(.tmp 4)]) (h := (.s .z (.s (.s .z (.i (.s .z (.s .z .z)) .z)) (.s .z (.s .z .z))))) (args := [a0, a1]) (by kernel_rfl) Tryz.func192 rfl (by kernel_rfl) rfl rfl rfl (Eq.mp (by kernel_rfl) h)

def Vcf.lens_Share (P : Program) (a0 : Value) (w : World) (R : Value → World → Prop) : Prop :=
 VJoin 1 (fun _ x1 w1=>Vif x1 (R (.tuple #[(.int .i64 0), (.int .i64 1)]) w1) (Lnl a0 fun x2=>VLoop 2 [(.int .i64 0), (.int .i64 0)] w1 fun _ next5 n_3 x4 w2=>Bp .lss x4 x2 fun x6=>Vif x6 (Ias 1 a0 x4 fun x7=>Ld x7 w2 fun x8=>Bp .sub (.int .i64 20) x8 fun x9=>Bp .shl (.int .i64 1) x9 fun x10=>Bp .add n_3 x10 fun x11=>Bp .add x4 (.int .i64 1) fun x12=>KE [a0, x2] [a0, x2]<|next5 x11 x12 w2) (R (.tuple #[n_3, (.int .i64 0)]) w2))) (fun J13=>Lnl a0 fun x14=>Bp .gtr x14 (.int .i64 258) fun x15=>Vif x15 (KE [a0] [a0]<|J13 (.bool true) w) (Cl P F.lens_between #[a0, (.int .i64 0), (.int .i64 20)] w fun x16 w3=>Up .not x16 fun x17=>KE [a0] [a0]<|J13 x17 w3))
theorem Tie.lens_Share {a0 : Value} (h : Vcf.lens_Share Tryz.prog a0 w R) : Cl Tryz.prog F.lens_Share #[a0] w R :=
  cl_of_vc (n := 28) (rs := [(.tmp 2), (.tmp 3)]) (h := (.s .z (.s (.j [14] [0] .z (.i (.s .z .z) .z)) (.s .z (.s (.s .z (.b (.l [4, 17] [15, 16] (.s .z (.s (.i .z .z) (.s (.b (.s .z .z)) .z)))))) (.s .z .z)))))) (args := [a0]) (by kernel_rfl) Tryz.func193 rfl (by kernel_rfl) rfl rfl rfl (Eq.mp (by kernel_rfl) h)

def Vcf.slices_Contains_int_int (P : Program) (a0 a1 : Value) (w : World) (R : Value → World → Prop) : Prop :=
 Cl P F.slices_Index_int_int #[a0, a1] w fun x1 w1=>Bp .geq x1 (.int .i64 0) fun x2=>R x2 w1
theorem Tie.slices_Contains_int_int {a0 a1 : Value} (h : Vcf.slices_Contains_int_int Tryz.prog a0 a1 w R) : Cl Tryz.prog F.slices_Contains_int_int #[a0, a1] w R :=
  cl_of_vc (n := 9) (rs := [(.tmp 4)]) (h := (.s .z (.s .z .z))) (args := [a0, a1]) (by kernel_rfl) Tryz.func194 rfl (by kernel_rfl) rfl rfl rfl (Eq.mp (by kernel_rfl) h)

def Vcf.delta_length (P : Program) (a0 : Value) (w : World) (R : Value → World → Prop) : Prop :=
 Bp .geq a0 (.int .i64 1) fun x1=>Vif x1 (Bp .leq a0 (.int .i64 20) fun x2=>R x2 w) (R (.bool false) w)
theorem Tie.delta_length {a0 : Value} (h : Vcf.delta_length Tryz.prog a0 w R) : Cl Tryz.prog F.delta_length #[a0] w R :=
  cl_of_vc (n := 9) (rs := [(.tmp 2)]) (h := (.s .z (.s .z .z))) (args := [a0]) (by kernel_rfl) Tryz.func195 rfl (by kernel_rfl) rfl rfl rfl (Eq.mp (by kernel_rfl) h)

def Vcf.lens_between (P : Program) (a0 a1 a2 : Value) (w : World) (R : Value → World → Prop) : Prop :=
 New a1 3 w fun low_1 w1=>New a2 3 w1 fun high_2 w2=>Mf P (.func 199) #[] #[low_1, high_2] w2 fun x3=>Cl P F.slices_ContainsFunc_int_int #[a0, x3] w2 fun x4 w3=>Up .not x4 fun x5=>R x5 w3
theorem Tie.lens_between {a0 a1 a2 : Value} (h : Vcf.lens_between Tryz.prog a0 a1 a2 w R) : Cl Tryz.prog F.lens_between #[a0, a1, a2] w R :=
  cl_of_vc (n := 11) (rs := [(.tmp 6)]) (h := (.s .z (.s .z .z))) (args := [a0, a1, a2]) (by kernel_rfl) Tryz.func196 rfl (by kernel_rfl) rfl rfl rfl (Eq.mp (by kernel_rfl) h)

def Vcf.slices_Index_int_int (P : Program) (a0 a1 : Value) (w : World) (R : Value → World → Prop) : Prop :=
 Lnl a0 fun x1=>VLoop 1 [(.int .i64 0)] w fun _ next3 x2 w1=>Bp .lss x2 x1 fun x4=>Vif x4 (Ias 1 a0 x2 fun x5=>Ld x5 w1 fun x6=>Bp .eql a1 x6 fun x7=>Vif x7 (R x2 w1) (Bp .add x2 (.int .i64 1) fun x8=>KE [a0, a1, x1] [a0, a1, x1]<|next3 x8 w1)) (R (.int .i64 (-1)) w1)
theorem Tie.slices_Index_int_int {a0 a1 : Value} (h : Vcf.slices_Index_int_int Tryz.prog a0 a1 w R) : Cl Tryz.prog F.slices_Index_int_int #[a0, a1] w R :=
  cl_of_vc (n := 19) (rs := [(.tmp 4)]) (h := (.s .z (.s (.s .z (.b (.l [8] [0, 1, 7] (.s .z (.s (.i .z .z) (.s (.b (.s .z (.s .z (.i (.s .z .z) .z)))) .z)))))) (.s .z .z)))) (args := [a0, a1]) (by kernel_rfl) Tryz.func197 rfl (by kernel_rfl) rfl rfl rfl (Eq.mp (by kernel_rfl) h)

def Vcf.slices_ContainsFunc_int_int (P : Program) (a0 a1 : Value) (w : World) (R : Value → World → Prop) : Prop :=
 Cl P F.slices_IndexFunc_int_int #[a0, a1] w fun x1 w1=>Bp .geq x1 (.int .i64 0) fun x2=>R x2 w1
theorem Tie.slices_ContainsFunc_int_int {a0 a1 : Value} (h : Vcf.slices_ContainsFunc_int_int Tryz.prog a0 a1 w R) : Cl Tryz.prog F.slices_ContainsFunc_int_int #[a0, a1] w R :=
  cl_of_vc (n := 9) (rs := [(.tmp 4)]) (h := (.s .z (.s .z .z))) (args := [a0, a1]) (by kernel_rfl) Tryz.func198 rfl (by kernel_rfl) rfl rfl rfl (Eq.mp (by kernel_rfl) h)

def Vcf.lens_between_1 (P : Program) (a0 a1 a2 : Value) (w : World) (R : Value → World → Prop) : Prop :=
 Ld a1 w fun x1=>Bp .lss a0 x1 fun x2=>Vif x2 (R (.bool true) w) (Ld a2 w fun x3=>Bp .gtr a0 x3 fun x4=>R x4 w)
theorem Tie.lens_between_1 {a0 a1 a2 : Value} (h : Vcf.lens_between_1 Tryz.prog a0 a1 a2 w R) : Cl Tryz.prog F.lens_between_1 #[a0, a1, a2] w R :=
  cl_of_vc (n := 13) (rs := [(.tmp 4)]) (h := (.s .z (.s .z .z))) (args := [a0, a1, a2]) (by kernel_rfl) Tryz.func199 rfl (by kernel_rfl) rfl rfl rfl (Eq.mp (by kernel_rfl) h)

def Vcf.slices_IndexFunc_int_int (P : Program) (a0 a1 : Value) (w : World) (R : Value → World → Prop) : Prop :=
 Lnl a0 fun x1=>VLoop 1 [(.int .i64 0)] w fun _ next3 x2 w1=>Bp .lss x2 x1 fun x4=>Vif x4 (Ias 1 a0 x2 fun x5=>Ld x5 w1 fun x6=>Inv P (do let d ← Deferred.ofValue a1 #[x6]; invoke d.target d.args) w1 fun x7 w2=>Vif x7 (R x2 w2) (Bp .add x2 (.int .i64 1) fun x8=>KE [a0, a1, x1] [a0, a1, x1]<|next3 x8 w2)) (R (.int .i64 (-1)) w1)
theorem Tie.slices_IndexFunc_int_int {a0 a1 : Value} (h : Vcf.slices_IndexFunc_int_int Tryz.prog a0 a1 w R) : Cl Tryz.prog F.slices_IndexFunc_int_int #[a0, a1] w R :=
  cl_of_vc (n := 19) (rs := [(.tmp 4)]) (h := (.s .z (.s (.s .z (.b (.l [8] [0, 1, 7] (.s .z (.s (.i .z .z) (.s (.b (.s .z (.s .z (.i (.s .z .z) .z)))) .z)))))) (.s .z .z)))) (args := [a0, a1]) (by kernel_rfl) Tryz.func200 rfl (by kernel_rfl) rfl rfl rfl (Eq.mp (by kernel_rfl) h)

end Go.Proofs.YtlppejfnjhkbpaaGreat
