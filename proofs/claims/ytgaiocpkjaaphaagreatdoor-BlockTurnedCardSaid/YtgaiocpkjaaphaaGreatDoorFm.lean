/- Formulas of the program's functions, printed by a program of the prover's own (dec.py); each is tied to its code by the kernel. -/
import Derived.Test.YtgaiocpkjaaphaaGreatDoorVc
import Derived.Test.YtgaiocpkjaaphaaGreatDoorChecked
set_option linter.unusedVariables false
set_option maxRecDepth 1000000
namespace Go.Proofs.YtgaiocpkjaaphaaGreatDoor
open Go Go.Vc
variable {w : World} {R : Value → World → Prop}

abbrev F.balerlaw20_BlockTurned : Nat := 4
abbrev F.balerlaw20_letter : Nat := 8
abbrev F.bits_NewWriter : Nat := 9
abbrev F.bits_Writer_Len : Nat := 11
abbrev F.bits_Writer_Pad : Nat := 12
abbrev F.bits_Writer_Take : Nat := 13
abbrev F.balerref01_Pack : Nat := 15
abbrev F.block_Turned : Nat := 16
abbrev F.balerref20_Bits : Nat := 17
abbrev F.balerlaw20_ref : Nat := 18
abbrev F.balerref01_Bytes : Nat := 32
abbrev F.bits_Writer_bit : Nat := 39
abbrev F.balerref01_Padded : Nat := 40
abbrev F.used_Symbols : Nat := 41
abbrev F.mtf_Encode : Nat := 42
abbrev F.zeros_Encode : Nat := 43
abbrev F.code_Bits : Nat := 44
abbrev F.bits_Writer_Put : Nat := 45
abbrev F.used_Write : Nat := 46
abbrev F.code_Write : Nat := 47
abbrev F.balerref05_Symbols : Nat := 48
abbrev F.balerref06_Encode : Nat := 49
abbrev F.balerref07_Encode : Nat := 50
abbrev F.balerref01_Field : Nat := 51
abbrev F.balerref05_Bits : Nat := 52
abbrev F.balerref14_Bits : Nat := 53
abbrev F.balerref01_Number : Nat := 79
abbrev F.used_listed : Nat := 88
abbrev F.mtf_New : Nat := 89
abbrev F.mtf_List_Find : Nat := 90
abbrev F.zeros_may : Nat := 91
abbrev F.zeros_row : Nat := 92
abbrev F.code_chosen : Nat := 93
abbrev F.picks_Bits : Nat := 94
abbrev F.delta_Bits : Nat := 95
abbrev F.tables_Cost : Nat := 96
abbrev F.bits_fits : Nat := 97
abbrev F.used_Is : Nat := 98
abbrev F.used_rows : Nat := 99
abbrev F.picks_Write : Nat := 100
abbrev F.delta_Write : Nat := 101
abbrev F.canon_New : Nat := 102
abbrev F.canon_Code_Put : Nat := 103
abbrev F.balerref05_There : Nat := 104
abbrev F.balerref05_Is : Nat := 105
abbrev F.balerref06_Place : Nat := 106
abbrev F.balerref06_Touch : Nat := 107
abbrev F.balerref07_Row : Nat := 108
abbrev F.balerref12_Of : Nat := 109
abbrev F.balerref13_Bits : Nat := 110
abbrev F.balerref11_Bits : Nat := 111
abbrev F.balerref10_Codes : Nat := 112
abbrev F.bytes_IndexByte : Nat := 139
abbrev F.mtf_List_touch : Nat := 140
abbrev F.slices_Index_int_int : Nat := 141
abbrev F.tables_Of : Nat := 142
abbrev F.picks_may : Nat := 143
abbrev F.picks_places : Nat := 144
abbrev F.delta_may : Nat := 145
abbrev F.delta_steps : Nat := 146
abbrev F.delta_Bits_1 : Nat := 147
abbrev F.freq_Groups : Nat := 148
abbrev F.freq_Group : Nat := 149
abbrev F.freq_Cost : Nat := 150
abbrev F.delta_Write_1 : Nat := 151
abbrev F.canon_whole : Nat := 152
abbrev F.slices_Clone_int_int : Nat := 153
abbrev F.canon_Code_Of : Nat := 154
abbrev F.balerref12_First : Nat := 155
abbrev F.balerref08_Counts : Nat := 156
abbrev F.balerref08_Groups : Nat := 157
abbrev F.balerref12_pick : Nat := 158
abbrev F.balerref09_Of : Nat := 159
abbrev F.balerref10_next : Nat := 160
abbrev F.crc_Table : Nat := 169
abbrev F.internal_bytealg_IndexByte : Nat := 185
abbrev F.freq_Counts : Nat := 186
abbrev F.tables_groupsOf : Nat := 187
abbrev F.tables_first : Nat := 188
abbrev F.tables_round : Nat := 189
abbrev F.picks_tabled : Nat := 190
abbrev F.slices_ContainsFunc_int_int : Nat := 191
abbrev F.picks_may_1 : Nat := 192
abbrev F.picks_fresh : Nat := 193
abbrev F.picks_order_find : Nat := 194
abbrev F.delta_sized : Nat := 195
abbrev F.delta_may_1 : Nat := 196
abbrev F.delta_length : Nat := 197
abbrev F.freq_part_int : Nat := 198
abbrev F.freq_all : Nat := 199
abbrev F.freq_together : Nat := 200
abbrev F.lens_Share : Nat := 201
abbrev F.slices_Contains_int_int : Nat := 202
abbrev F.balerref12_Number : Nat := 203
abbrev F.balerref08_count : Nat := 204
abbrev F.balerref08_Cost : Nat := 205
abbrev F.balerref09_Depths : Nat := 206
abbrev F.balerref09_May : Nat := 207
abbrev F.balerref09_Halved : Nat := 208
abbrev F.tables_Number : Nat := 227
abbrev F.tables_pick : Nat := 228
abbrev F.freq_Add : Nat := 229
abbrev F.lens_Of : Nat := 230
abbrev F.slices_IndexFunc_int_int : Nat := 231
abbrev F.picks_order_touch : Nat := 232
abbrev F.freq_all_1 : Nat := 233
abbrev F.freq_may : Nat := 234
abbrev F.lens_between : Nat := 235
abbrev F.balerref08_most : Nat := 236
abbrev F.balerref09_least : Nat := 237
abbrev F.balerref09_without : Nat := 238
abbrev F.lens_depths : Nat := 252
abbrev F.lens_Longest : Nat := 253
abbrev F.lens_Halved : Nat := 254
abbrev F.lens_between_1 : Nat := 255
abbrev F.balerref09_less : Nat := 256
abbrev F.lens_treesOf : Nat := 270
abbrev F.lens_trees_least : Nat := 271
abbrev F.lens_trees_join : Nat := 272
abbrev F.slices_SortStableFunc_int_int : Nat := 278
abbrev F.lens_treesOf_1 : Nat := 279
abbrev F.cmp_Compare_int : Nat := 280
abbrev F.slices_stableCmpFunc_int : Nat := 287
abbrev F.cmp_isNaN_int : Nat := 288
abbrev F.slices_insertionSortCmpFunc_int : Nat := 293
abbrev F.slices_symMergeCmpFunc_int : Nat := 294
abbrev F.slices_rotateCmpFunc_int : Nat := 296
abbrev F.slices_swapRangeCmpFunc_int : Nat := 297

def Vcf.balerlaw20_BlockTurned (P : Program) (a0 : Value) (w : World) (R : Value → World → Prop) : Prop :=
 New a0 34 w fun g_1 w1=>Fo 0 g_1 fun x2=>Ld x2 w1 fun x3=>Lns x3 fun x4=>Bp .gtr x4 (.int .i64 60) fun x5=>Vif x5 (Cl P F.balerlaw20_letter #[] w1 fun x6 w2=>R x6 w2) (Cl P F.bits_NewWriter #[] w1 fun x7 w3=>Fo 0 g_1 fun x8=>Ld x8 w3 fun x9=>Fo 1 g_1 fun x10=>Ld x10 w3 fun x11=>Fo 2 g_1 fun x12=>Ld x12 w3 fun x13=>Cl P F.block_Turned #[x7, x9, x11, x13] w3 fun x14 w4=>Cl P F.bits_Writer_Len #[x7] w4 fun x15 w5=>Cl P F.bits_Writer_Pad #[x7] w5 fun x16 w6=>Cl P F.bits_Writer_Take #[x7] w6 fun x17 w7=>VJoin 1 (fun _ x18 w8=>Vif x18 (Bp .eql x14 (.int .i64 1) fun x19=>Vif x19 (Bp .eql x15 (.int .i64 0) fun x20=>Vif x20 (Cl P F.balerlaw20_letter #[] w8 fun x21 w9=>R x21 w9) (R (.bool false) w8)) (R (.bool false) w8)) (LdA 3 g_1 w8 fun x22=>Cl P F.balerlaw20_ref #[x22] w8 fun x23 w10=>Cl P F.balerref20_Bits #[x23] w10 fun x24 w11=>Bp .eql x14 (.int .i64 0) fun x25=>Vif x25 (Lns x24 fun x26=>Bp .eql x15 x26 fun x27=>Vif x27 (Cl P F.balerref01_Pack #[x24] w11 fun x28 w12=>Bp .eql x17 x28 fun x29=>Vif x29 (Cl P F.balerlaw20_letter #[] w12 fun x30 w13=>R x30 w13) (R (.bool false) w12)) (R (.bool false) w11)) (R (.bool false) w11))) (fun J31=>Fo 0 g_1 fun x32=>Ld x32 w7 fun x33=>Bp .eql x33 (.string ⟨#[]⟩) fun x34=>Vif x34 (KE [g_1, x14, x15, x17] [g_1, x14, x15, x17]<|J31 (.bool true) w7) (Fo 1 g_1 fun x35=>Ld x35 w7 fun x36=>Bp .lss x36 (.int .i64 0) fun x37=>Vif x37 (KE [g_1, x14, x15, x17] [g_1, x14, x15, x17]<|J31 (.bool true) w7) (Fo 1 g_1 fun x38=>Ld x38 w7 fun x39=>Fo 0 g_1 fun x40=>Ld x40 w7 fun x41=>Lns x41 fun x42=>Bp .geq x39 x42 fun x43=>KE [g_1, x14, x15, x17] [g_1, x14, x15, x17]<|J31 x43 w7))))
theorem Tie.balerlaw20_BlockTurned {a0 : Value} (h : Vcf.balerlaw20_BlockTurned Tryz.prog a0 w R) : Cl Tryz.prog F.balerlaw20_BlockTurned #[a0] w R :=
  cl_of_vc (n := 73) (rs := [(.tmp 2)]) (h := (.s .z (.s (.s .z (.i (.s .z .z) .z)) (.s .z (.s .z (.s .z (.s .z (.s .z (.s (.j [43] [1, 4, 5, 6] .z (.i (.s .z .z) .z)) (.s .z (.s .z .z))))))))))) (args := [a0]) (by kernel_rfl) Tryz.func4 rfl (by kernel_rfl) rfl rfl rfl (Eq.mp (by kernel_rfl) h)

def Vcf.bits_NewWriter (P : Program) (w : World) (R : Value → World → Prop) : Prop :=
 Bd P 65 #[] w fun x1=>New x1 65 w fun x2 w1=>R x2 w1
theorem Tie.bits_NewWriter (h : Vcf.bits_NewWriter Tryz.prog w R) : Cl Tryz.prog F.bits_NewWriter #[] w R :=
  cl_of_vc (n := 3) (rs := [(.tmp 0)]) (h := (.s .z (.s .z .z))) (args := []) (by kernel_rfl) Tryz.func9 rfl (by kernel_rfl) rfl rfl rfl (Eq.mp (by kernel_rfl) h)

def Vcf.bits_Writer_Len (P : Program) (a0 : Value) (w : World) (R : Value → World → Prop) : Prop :=
 Bn P 65 false a0 (.pointer none) fun x1=>Vif x1 (R (.int .i64 0) w) (Nc a0<|Fo 2 a0 fun x2=>Ld x2 w fun x3=>R x3 w)
theorem Tie.bits_Writer_Len {a0 : Value} (h : Vcf.bits_Writer_Len Tryz.prog a0 w R) : Cl Tryz.prog F.bits_Writer_Len #[a0] w R :=
  cl_of_vc (n := 9) (rs := [(.tmp 2)]) (h := (.s .z (.s (.s .z (.i (.s .z .z) .z)) (.s .z .z)))) (args := [a0]) (by kernel_rfl) Tryz.func11 rfl (by kernel_rfl) rfl rfl rfl (Eq.mp (by kernel_rfl) h)

def Vcf.bits_Writer_Pad (P : Program) (a0 : Value) (w : World) (R : Value → World → Prop) : Prop :=
 VLoop 0 [] w fun _ next1 w1=>Bn P 65 true a0 (.pointer none) fun x2=>Vif x2 (Nc a0<|Fo 2 a0 fun x3=>Ld x3 w1 fun x4=>Bp .rem x4 (.int .i64 8) fun x5=>Bp .neq x5 (.int .i64 0) fun x6=>Vif x6 (Cl P F.bits_Writer_bit #[a0, (.int .u8 0)] w1 fun x7 w2=>KE [a0] [a0]<|next1 w2) (R (.tuple #[]) w1)) (R (.tuple #[]) w1)
theorem Tie.bits_Writer_Pad {a0 : Value} (h : Vcf.bits_Writer_Pad Tryz.prog a0 w R) : Cl Tryz.prog F.bits_Writer_Pad #[a0] w R :=
  cl_of_vc (n := 14) (rs := []) (h := (.b (.l [] [0] (.s (.s .z (.i .z .z)) (.b .z))))) (args := [a0]) (by kernel_rfl) Tryz.func12 rfl (by kernel_rfl) rfl rfl rfl (Eq.mp (by kernel_rfl) h)

def Vcf.bits_Writer_Take (P : Program) (a0 : Value) (w : World) (R : Value → World → Prop) : Prop :=
 Bn P 65 false a0 (.pointer none) fun x1=>Vif x1 (R (.string ⟨#[]⟩) w) (Nc a0<|Fo 0 a0 fun x2=>Ld x2 w fun x3=>Cw P 54 9 x3 w fun x4 w1=>Nc a0<|Fo 0 a0 fun x5=>St x5 (.slice none 0 0) w1 fun w2=>R x4 w2)
theorem Tie.bits_Writer_Take {a0 : Value} (h : Vcf.bits_Writer_Take Tryz.prog a0 w R) : Cl Tryz.prog F.bits_Writer_Take #[a0] w R :=
  cl_of_vc (n := 15) (rs := [(.tmp 2)]) (h := (.s .z (.s (.s .z (.i (.s .z .z) .z)) (.s .z (.s .z (.s .z .z)))))) (args := [a0]) (by kernel_rfl) Tryz.func13 rfl (by kernel_rfl) rfl rfl rfl (Eq.mp (by kernel_rfl) h)

def Vcf.balerref01_Pack (P : Program) (a0 : Value) (w : World) (R : Value → World → Prop) : Prop :=
 Cl P F.balerref01_Padded #[a0] w fun x1 w1=>Cl P F.balerref01_Bytes #[x1] w1 fun x2 w2=>R x2 w2
theorem Tie.balerref01_Pack {a0 : Value} (h : Vcf.balerref01_Pack Tryz.prog a0 w R) : Cl Tryz.prog F.balerref01_Pack #[a0] w R :=
  cl_of_vc (n := 6) (rs := [(.tmp 2)]) (h := (.s .z (.s .z .z))) (args := [a0]) (by kernel_rfl) Tryz.func15 rfl (by kernel_rfl) rfl rfl rfl (Eq.mp (by kernel_rfl) h)

def Vcf.block_Turned (P : Program) (a0 a1 a2 a3 : Value) (w : World) (R : Value → World → Prop) : Prop :=
 Bn P 65 false a0 (.pointer none) fun x1=>Vif x1 (R (.int .i64 7) w) (VJoin 1 (fun _ x2 w1=>Vif x2 (R (.int .i64 1) w1) (Cl P F.used_Symbols #[a1] w1 fun x3 w2=>Cl P F.mtf_Encode #[a1, x3] w2 fun x4 w3=>Ex x4 0 fun x5=>Ex x4 1 fun x6=>Lns x3 fun x7=>Cl P F.zeros_Encode #[x5, x7] w3 fun x8 w4=>Ex x8 0 fun x9=>Ex x8 1 fun x10=>Lns x3 fun x11=>Bp .add x11 (.int .i64 2) fun x12=>Cl P F.code_Bits #[x9, x12] w4 fun x13 w5=>Ex x13 0 fun x14=>Ex x13 1 fun x15=>Bp .neq x15 (.int .i64 0) fun x16=>Vif x16 (R x15 w5) (Cl P F.bits_Writer_Put #[a0, a3, (.int .i64 32)] w5 fun x17 w6=>Cl P F.bits_Writer_Put #[a0, (.int .u32 0), (.int .i64 1)] w6 fun x18 w7=>Ci .u32 a2 fun x19=>Cl P F.bits_Writer_Put #[a0, x19, (.int .i64 24)] w7 fun x20 w8=>Cl P F.used_Write #[a0, x3] w8 fun x21 w9=>Lns x3 fun x22=>Bp .add x22 (.int .i64 2) fun x23=>Cl P F.code_Write #[a0, x9, x23] w9 fun x24 w10=>R x24 w10))) (fun J25=>Bp .eql a1 (.string ⟨#[]⟩) fun x26=>Vif x26 (KE [a0, a1, a2, a3] [a0, a1, a2, a3]<|J25 (.bool true) w) (Lns a1 fun x27=>Bp .gtr x27 (.int .i64 900000) fun x28=>Vif x28 (KE [a0, a1, a2, a3] [a0, a1, a2, a3]<|J25 (.bool true) w) (Bp .lss a2 (.int .i64 0) fun x29=>Vif x29 (KE [a0, a1, a2, a3] [a0, a1, a2, a3]<|J25 (.bool true) w) (Lns a1 fun x30=>Bp .geq a2 x30 fun x31=>KE [a0, a1, a2, a3] [a0, a1, a2, a3]<|J25 x31 w)))))
theorem Tie.block_Turned {a0 a1 a2 a3 : Value} (h : Vcf.block_Turned Tryz.prog a0 a1 a2 a3 w R) : Cl Tryz.prog F.block_Turned #[a0, a1, a2, a3] w R :=
  cl_of_vc (n := 81) (rs := [(.tmp 8)]) (h := (.s .z (.s (.b (.s .z (.i (.s .z .z) (.j [19] [0, 1, 2, 3] .z (.i (.s .z .z) .z))))) (.s .z (.s .z (.s .z (.s (.s .z (.s .z (.i (.s .z .z) .z))) (.s .z (.s .z (.s .z (.s .z (.s .z .z)))))))))))) (args := [a0, a1, a2, a3]) (by kernel_rfl) Tryz.func16 rfl (by kernel_rfl) rfl rfl rfl (Eq.mp (by kernel_rfl) h)

def Vcf.balerref20_Bits (P : Program) (a0 : Value) (w : World) (R : Value → World → Prop) : Prop :=
 New a0 37 w fun g_1 w1=>Fo 0 g_1 fun x2=>Ld x2 w1 fun x3=>Cl P F.balerref05_Symbols #[x3] w1 fun x4 w2=>Fo 0 g_1 fun x5=>Ld x5 w2 fun x6=>Cl P F.balerref06_Encode #[x6, x4] w2 fun x7 w3=>Ex x7 0 fun x8=>Ex x7 1 fun x9=>Lns x4 fun x10=>Cl P F.balerref07_Encode #[x8, x10] w3 fun x11 w4=>Ex x11 0 fun x12=>Ex x11 1 fun x13=>Dr w4 fun w5=>Fo 2 g_1 fun x14=>Ld x14 w5 fun x15=>Cl P F.balerref01_Field #[x15, (.int .i64 32)] w5 fun x17 w6=>Bp .add x17 (.string ⟨#[48]⟩) fun x18=>Fo 1 g_1 fun x19=>Ld x19 w6 fun x20=>Rk (fun w K=>Ld x19 w fun x21=>K x21) x20 w5<|Ci .u32 x20 fun x23=>Cl P F.balerref01_Field #[x23, (.int .i64 24)] w6 fun x24 w7=>Bp .add x18 x24 fun x25=>Cl P F.balerref05_Bits #[x4] w7 fun x26 w8=>Bp .add x25 x26 fun x27=>Lns x4 fun x28=>Rk (fun w K=>Lns x4 fun x29=>K x29) x28 w7<|Rk (fun w K=>Lns x4 fun x30=>K x30) x28 w6<|Rk (fun w K=>Lns x4 fun x31=>K x31) x28 w5<|Bp .add x28 (.int .i64 2) fun x33=>Cl P F.balerref14_Bits #[x12, x33] w8 fun x34 w9=>Bp .add x27 x34 fun x35=>R x35 w9
theorem Tie.balerref20_Bits {a0 : Value} (h : Vcf.balerref20_Bits Tryz.prog a0 w R) : Cl Tryz.prog F.balerref20_Bits #[a0] w R :=
  cl_of_vc (n := 43) (rs := [(.tmp 2)]) (h := (.s .z (.s .z (.s .z (.s .z (.s (.r (.staged [0, 1, 3, 7, 0, 16, 48, 119, 255, 0, 759, 2047, 0, 0, 8192, 24576, 63223, 131071, 262143])) .z)))))) (args := [a0]) (by kernel_rfl) Tryz.func17 rfl (by kernel_rfl) rfl rfl rfl (Eq.mp (by kernel_rfl) h)

def Vcf.balerlaw20_ref (P : Program) (a0 : Value) (w : World) (R : Value → World → Prop) : Prop :=
 New a0 34 w fun g_1 w1=>New (zeroP P 37) 37 w1 fun x2 w2=>Fo 0 g_1 fun x3=>Ld x3 w2 fun x4=>Fo 1 g_1 fun x5=>Ld x5 w2 fun x6=>Fo 2 g_1 fun x7=>Ld x7 w2 fun x8=>Bd P 37 #[(0, x4), (1, x6), (2, x8)] w2 fun x9=>StA 3 x2 x9 w2 fun w3=>LdA 3 x2 w3 fun x10=>R x10 w3
theorem Tie.balerlaw20_ref {a0 : Value} (h : Vcf.balerlaw20_ref Tryz.prog a0 w R) : Cl Tryz.prog F.balerlaw20_ref #[a0] w R :=
  cl_of_vc (n := 10) (rs := [(.cell 2 37)]) (h := (.s .z (.s .z .z))) (args := [a0]) (by kernel_rfl) Tryz.func18 rfl (by kernel_rfl) rfl rfl rfl (Eq.mp (by kernel_rfl) h)

def Vcf.balerref01_Bytes (P : Program) (a0 : Value) (w : World) (R : Value → World → Prop) : Prop :=
 VLoop 2 [a0, (.string ⟨#[]⟩)] w fun _ next3 s_1 out_2 w1=>Lns s_1 fun x4=>Bp .geq x4 (.int .i64 8) fun x5=>Vif x5 (Sst s_1 none (some (.int .i64 8)) fun x6=>Cl P F.balerref01_Number #[x6] w1 fun x7 w2=>Ci .u8 x7 fun x8=>Bs P 54 1 #[(0, x8)] w2 fun x9 w3=>Cw P 54 9 x9 w3 fun x10 w4=>Bp .add out_2 x10 fun x11=>Sst s_1 (some (.int .i64 8)) none fun x12=>KE [] []<|next3 x12 x11 w4) (R out_2 w1)
theorem Tie.balerref01_Bytes {a0 : Value} (h : Vcf.balerref01_Bytes Tryz.prog a0 w R) : Cl Tryz.prog F.balerref01_Bytes #[a0] w R :=
  cl_of_vc (n := 18) (rs := [(.tmp 2)]) (h := (.s .z (.s .z (.s (.b (.l [0, 3] [] (.s (.s .z (.i .z .z)) (.b (.s .z .z))))) (.s .z .z))))) (args := [a0]) (by kernel_rfl) Tryz.func32 rfl (by kernel_rfl) rfl rfl rfl (Eq.mp (by kernel_rfl) h)

def Vcf.bits_Writer_bit (P : Program) (a0 a1 : Value) (w : World) (R : Value → World → Prop) : Prop :=
 Nc a0<|Fo 2 a0 fun x1=>Ld x1 w fun x2=>Bp .rem x2 (.int .i64 8) fun x3=>Dr w fun w1=>Nc a0<|Fo 1 a0 fun x4=>Ld x4 w1 fun x5=>Bp .sub (.int .i64 7) x3 fun x7=>Bp .shl a1 x7 fun x8=>Bp .or x5 x8 fun x9=>Nc a0<|Fo 1 a0 fun x10=>St x10 x9 w1 fun w2=>Nc a0<|Fo 2 a0 fun x11=>Ld x11 w2 fun x12=>Bp .add x12 (.int .i64 1) fun x13=>Nc a0<|Fo 2 a0 fun x14=>St x14 x13 w2 fun w3=>Bp .eql x3 (.int .i64 7) fun x15=>Vif x15 (Dr w3 fun w4=>Nc a0<|Fo 0 a0 fun x16=>Ld x16 w4 fun x17=>Nc a0<|Fo 1 a0 fun x19=>Ld x19 w4 fun x20=>Bs P 54 1 #[(0, x20)] w4 fun x22 w5=>Rk (fun w K=>Ld x16 w fun x18=>K x18) x17 w5<|Ap P #[54, 54] 54 #[x17, x22] w5 fun x23 w6=>Nc a0<|Fo 0 a0 fun x24=>St x24 x23 w6 fun w7=>Nc a0<|Fo 1 a0 fun x25=>St x25 (.int .u8 0) w7 fun w8=>R (.tuple #[]) w8) (R (.tuple #[]) w3)
theorem Tie.bits_Writer_bit {a0 a1 : Value} (h : Vcf.bits_Writer_bit Tryz.prog a0 a1 w R) : Cl Tryz.prog F.bits_Writer_bit #[a0, a1] w R :=
  cl_of_vc (n := 46) (rs := []) (h := (.s .z (.s (.r (.staged [0, 1, 3, 7, 0, 0, 32, 112, 255, 511, 1023, 2047])) (.s .z (.s .z (.i (.s (.r (.staged [0, 0, 2, 6, 14, 0, 32, 96, 224, 480, 1022, 2047, 4095, 8191])) .z) .z)))))) (args := [a0, a1]) (by kernel_rfl) Tryz.func39 rfl (by kernel_rfl) rfl rfl rfl (Eq.mp (by kernel_rfl) h)

def Vcf.balerref01_Padded (P : Program) (a0 : Value) (w : World) (R : Value → World → Prop) : Prop :=
 VLoop 1 [a0] w fun _ next2 s_1 w1=>Lns s_1 fun x3=>Bp .rem x3 (.int .i64 8) fun x4=>Bp .neq x4 (.int .i64 0) fun x5=>Vif x5 (Bp .add s_1 (.string ⟨#[48]⟩) fun x6=>KE [] []<|next2 x6 w1) (R s_1 w1)
theorem Tie.balerref01_Padded {a0 : Value} (h : Vcf.balerref01_Padded Tryz.prog a0 w R) : Cl Tryz.prog F.balerref01_Padded #[a0] w R :=
  cl_of_vc (n := 10) (rs := [(.tmp 2)]) (h := (.s .z (.s (.b (.l [0] [] (.s (.s .z (.i .z .z)) (.b .z)))) (.s .z .z)))) (args := [a0]) (by kernel_rfl) Tryz.func40 rfl (by kernel_rfl) rfl rfl rfl (Eq.mp (by kernel_rfl) h)

def Vcf.used_Symbols (P : Program) (a0 : Value) (w : World) (R : Value → World → Prop) : Prop :=
 New (zeroP P 139) 139 w fun there_1 w1=>Lns a0 fun x2=>VLoop 1 [(.int .i64 0)] w1 fun _ next4 x3 w2=>Bp .lss x3 x2 fun x5=>Vif x5 (Ixs a0 x3 fun x6=>Iaa 256 1 there_1 x6 fun x7=>St x7 (.bool true) w2 fun w3=>Bp .add x3 (.int .i64 1) fun x8=>KE [a0, there_1, x2] [a0, there_1, x2]<|next4 x8 w3) (LdA 256 there_1 w2 fun x9=>Cl P F.used_listed #[x9] w2 fun x10 w4=>R x10 w4)
theorem Tie.used_Symbols {a0 : Value} (h : Vcf.used_Symbols Tryz.prog a0 w R) : Cl Tryz.prog F.used_Symbols #[a0] w R :=
  cl_of_vc (n := 17) (rs := [(.tmp 2)]) (h := (.s .z (.s .z (.s (.s .z (.b (.l [7] [0, 3, 6] (.s .z (.s (.i .z .z) (.s (.b (.s .z .z)) .z)))))) (.s .z .z))))) (args := [a0]) (by kernel_rfl) Tryz.func41 rfl (by kernel_rfl) rfl rfl rfl (Eq.mp (by kernel_rfl) h)

def Vcf.mtf_Encode (P : Program) (a0 a1 : Value) (w : World) (R : Value → World → Prop) : Prop :=
 Cl P F.mtf_New #[a1] w fun x1 w1=>Ex x1 0 fun x2=>Ex x1 1 fun x3=>Bp .neq x3 (.int .i64 0) fun x4=>Vif x4 (R (.tuple #[(.slice none 0 0), x3]) w1) (Lns a0 fun x5=>Ms P 69 x5 x5 w1 fun x6 w2=>Lnl x6 fun x7=>VLoop 1 [(.int .i64 0)] w2 fun _ next9 x8 w3=>Bp .lss x8 x7 fun x10=>Vif x10 (Ixs a0 x8 fun x11=>Cl P F.mtf_List_Find #[x2, x11] w3 fun x12 w4=>Ex x12 0 fun x13=>Ex x12 1 fun x14=>Bp .neq x14 (.int .i64 0) fun x15=>Vif x15 (R (.tuple #[(.slice none 0 0), x14]) w4) (Ias 1 x6 x8 fun x16=>St x16 x13 w4 fun w5=>Bp .add x8 (.int .i64 1) fun x17=>KE [a0, x2, x6, x7] [a0, x2, x6, x7]<|next9 x17 w5)) (R (.tuple #[x6, (.int .i64 0)]) w3))
theorem Tie.mtf_Encode {a0 a1 : Value} (h : Vcf.mtf_Encode Tryz.prog a0 a1 w R) : Cl Tryz.prog F.mtf_Encode #[a0, a1] w R :=
  cl_of_vc (n := 45) (rs := [(.tmp 4), (.tmp 5)]) (h := (.s .z (.s .z (.s (.s .z (.i (.s .z .z) .z)) (.s .z (.s (.s .z (.b (.l [25] [0, 6, 8, 24] (.s .z (.s (.i .z .z) (.s (.b (.s .z (.s .z (.s (.s .z (.i (.s .z .z) .z)) .z)))) .z)))))) (.s .z .z))))))) (args := [a0, a1]) (by kernel_rfl) Tryz.func42 rfl (by kernel_rfl) rfl rfl rfl (Eq.mp (by kernel_rfl) h)

def Vcf.zeros_Encode (P : Program) (a0 a1 : Value) (w : World) (R : Value → World → Prop) : Prop :=
 Cl P F.zeros_may #[a1] w fun x1 w1=>Up .not x1 fun x2=>Vif x2 (R (.tuple #[(.slice none 0 0), (.int .i64 1)]) w1) (Lnl a0 fun x3=>VLoop 3 [(.slice none 0 0), (.int .i64 0), (.int .i64 0)] w1 fun _ next7 out_4 zeros_5 x6 w2=>Bp .lss x6 x3 fun x8=>Vif x8 (Ias 1 a0 x6 fun x9=>Ld x9 w2 fun x10=>VJoin 1 (fun _ x11 w3=>Vif x11 (R (.tuple #[(.slice none 0 0), (.int .i64 1)]) w3) (Bp .eql x10 (.int .i64 0) fun x12=>Vif x12 (Bp .add zeros_5 (.int .i64 1) fun x13=>Bp .add x6 (.int .i64 1) fun x14=>KE [a1, a0, x3] [a1, a0, x3]<|next7 out_4 x13 x14 w3) (Cl P F.zeros_row #[zeros_5] w3 fun x15 w4=>Ap P #[69, 69] 69 #[out_4, x15] w4 fun x16 w5=>Bp .add x10 (.int .i64 1) fun x17=>Bs P 69 1 #[(0, x17)] w5 fun x18 w6=>Ap P #[69, 69] 69 #[x16, x18] w6 fun x19 w7=>Bp .add x6 (.int .i64 1) fun x20=>KE [a1, a0, x3] [a1, a0, x3]<|next7 x19 (.int .i64 0) x20 w7))) (fun J21=>Bp .lss x10 (.int .i64 0) fun x22=>Vif x22 (KE [a1, out_4, zeros_5, x10, a0, x3, x6] [a1, out_4, zeros_5, x10, a0, x3, x6]<|J21 (.bool true) w2) (Bp .geq x10 a1 fun x23=>KE [a1, out_4, zeros_5, x10, a0, x3, x6] [a1, out_4, zeros_5, x10, a0, x3, x6]<|J21 x23 w2))) (Cl P F.zeros_row #[zeros_5] w2 fun x24 w8=>Ap P #[69, 69] 69 #[out_4, x24] w8 fun x25 w9=>Bp .add a1 (.int .i64 1) fun x26=>Bs P 69 1 #[(0, x26)] w9 fun x27 w10=>Ap P #[69, 69] 69 #[x25, x27] w10 fun x28 w11=>R (.tuple #[x28, (.int .i64 0)]) w11))
theorem Tie.zeros_Encode {a0 a1 : Value} (h : Vcf.zeros_Encode Tryz.prog a0 a1 w R) : Cl Tryz.prog F.zeros_Encode #[a0, a1] w R :=
  cl_of_vc (n := 51) (rs := [(.tmp 4), (.tmp 5)]) (h := (.s .z (.s (.s .z (.i (.s .z .z) .z)) (.s .z (.s .z (.s (.s .z (.b (.l [6, 7, 15] [1, 13, 14] (.s .z (.s (.i .z .z) (.s (.b (.s .z (.s (.b (.j [19] [1, 6, 7, 9, 13, 14, 15] .z (.i (.s .z .z) (.s .z (.i (.s .z .z) .z))))) (.s .z (.s .z .z))))) .z)))))) (.s .z (.s .z .z)))))))) (args := [a0, a1]) (by kernel_rfl) Tryz.func43 rfl (by kernel_rfl) rfl rfl rfl (Eq.mp (by kernel_rfl) h)

def Vcf.code_Bits (P : Program) (a0 a1 : Value) (w : World) (R : Value → World → Prop) : Prop :=
 Cl P F.code_chosen #[a0, a1] w fun x1 w1=>Ex x1 0 fun x2=>Ex x1 1 fun x3=>New (zeroP P 148) 148 w1 fun choice_4 w2=>StA 2 choice_4 x2 w2 fun w3=>Bp .neq x3 (.int .i64 0) fun x5=>Vif x5 (R (.tuple #[(.int .i64 0), x3]) w3) (Fo 1 choice_4 fun x6=>Ld x6 w3 fun x7=>Fo 0 choice_4 fun x8=>Ld x8 w3 fun x9=>Lnl x9 fun x10=>Cl P F.picks_Bits #[x7, x10] w3 fun x11 w4=>Ex x11 0 fun x12=>Ex x11 1 fun x13=>Fo 0 choice_4 fun x14=>Ld x14 w4 fun x15=>Lnl x15 fun x16=>VLoop 2 [x12, (.int .i64 0)] w4 fun _ next19 total_17 x18 w5=>Bp .lss x18 x16 fun x20=>Vif x20 (Ias 1 x15 x18 fun x21=>Ld x21 w5 fun x22=>Cl P F.delta_Bits #[x22] w5 fun x23 w6=>Ex x23 0 fun x24=>Ex x23 1 fun x25=>Bp .add total_17 x24 fun x26=>Bp .add x18 (.int .i64 1) fun x27=>KE [a0, choice_4, x15, x16] [a0, choice_4, x15, x16]<|next19 x26 x27 w6) (LdA 2 choice_4 w5 fun x28=>Cl P F.tables_Cost #[a0, x28] w5 fun x29 w7=>Ex x29 0 fun x30=>Ex x29 1 fun x31=>Bp .add total_17 x30 fun x32=>R (.tuple #[x32, (.int .i64 0)]) w7))
theorem Tie.code_Bits {a0 a1 : Value} (h : Vcf.code_Bits Tryz.prog a0 a1 w R) : Cl Tryz.prog F.code_Bits #[a0, a1] w R :=
  cl_of_vc (n := 59) (rs := [(.tmp 4), (.tmp 5)]) (h := (.s .z (.s .z (.s (.s .z (.i (.s .z .z) .z)) (.s .z (.s (.s .z (.b (.l [8, 37] [0, 6, 35, 36] (.s .z (.s (.i .z .z) (.s (.b (.s .z (.s .z .z))) .z)))))) (.s .z (.s .z .z)))))))) (args := [a0, a1]) (by kernel_rfl) Tryz.func44 rfl (by kernel_rfl) rfl rfl rfl (Eq.mp (by kernel_rfl) h)

def Vcf.bits_Writer_Put (P : Program) (a0 a1 a2 : Value) (w : World) (R : Value → World → Prop) : Prop :=
 Bn P 65 false a0 (.pointer none) fun x1=>Vif x1 (R (.int .i64 7) w) (Cl P F.bits_fits #[a1, a2] w fun x2 w1=>Up .not x2 fun x3=>Vif x3 (R (.int .i64 1) w1) (VLoop 1 [(.int .i64 0)] w1 fun _ next5 x4 w2=>Bp .lss x4 a2 fun x6=>Vif x6 (Bp .sub a2 (.int .i64 1) fun x7=>Bp .sub x7 x4 fun x8=>Bp .shr a1 x8 fun x9=>Bp .and x9 (.int .u32 1) fun x10=>Ci .u8 x10 fun x11=>Cl P F.bits_Writer_bit #[a0, x11] w2 fun x12 w3=>Bp .add x4 (.int .i64 1) fun x13=>KE [a0, a1, a2, a2] [a0, a1, a2, a2]<|next5 x13 w3) (R (.int .i64 0) w2)))
theorem Tie.bits_Writer_Put {a0 a1 a2 : Value} (h : Vcf.bits_Writer_Put Tryz.prog a0 a1 a2 w R) : Cl Tryz.prog F.bits_Writer_Put #[a0, a1, a2] w R :=
  cl_of_vc (n := 31) (rs := [(.tmp 6)]) (h := (.s .z (.s (.b (.s .z (.i (.s .z .z) (.s .z (.i (.s .z .z) .z))))) (.s (.s .z (.b (.l [17] [0, 1, 2, 16] (.s .z (.s (.i .z .z) (.s (.b (.s .z .z)) .z)))))) (.s .z .z))))) (args := [a0, a1, a2]) (by kernel_rfl) Tryz.func45 rfl (by kernel_rfl) rfl rfl rfl (Eq.mp (by kernel_rfl) h)

def Vcf.used_Write (P : Program) (a0 a1 : Value) (w : World) (R : Value → World → Prop) : Prop :=
 Bn P 65 false a0 (.pointer none) fun x1=>Vif x1 (R (.int .i64 7) w) (Cl P F.used_Is #[a1] w fun x2 w1=>Up .not x2 fun x3=>Vif x3 (R (.int .i64 1) w1) (Cl P F.used_rows #[a1] w1 fun x4 w2=>New (zeroP P 155) 155 w2 fun all_5 w3=>StA 16 all_5 x4 w3 fun w4=>LdA 16 all_5 w4 fun x6=>VLoop 2 [(.int .u32 0), (.int .i64 0)] w4 fun _ next9 which_7 x8 w5=>Bp .lss x8 (.int .i64 16) fun x10=>Vif x10 (Ixa 16 1 false x6 x8 fun x11=>Bp .neq x11 (.int .u32 0) fun x12=>Vif x12 (Bp .sub (.int .i64 15) x8 fun x13=>Bp .shl (.int .u32 1) x13 fun x14=>Bp .or which_7 x14 fun x15=>Bp .add x8 (.int .i64 1) fun x16=>KE [a0, all_5, x6] [a0, all_5, x6]<|next9 x15 x16 w5) (Bp .add x8 (.int .i64 1) fun x17=>KE [a0, all_5, x6] [a0, all_5, x6]<|next9 which_7 x17 w5)) (Cl P F.bits_Writer_Put #[a0, which_7, (.int .i64 16)] w5 fun x18 w6=>LdA 16 all_5 w6 fun x19=>VLoop 1 [(.int .i64 0)] w6 fun _ next21 x20 w7=>Bp .lss x20 (.int .i64 16) fun x22=>Vif x22 (Ixa 16 1 false x19 x20 fun x23=>Bp .neq x23 (.int .u32 0) fun x24=>Vif x24 (Cl P F.bits_Writer_Put #[a0, x23, (.int .i64 16)] w7 fun x25 w8=>Bp .add x20 (.int .i64 1) fun x26=>KE [a0, x19] [a0, x19]<|next21 x26 w8) (Bp .add x20 (.int .i64 1) fun x27=>KE [a0, x19] [a0, x19]<|next21 x27 w7)) (R (.int .i64 0) w7))))
theorem Tie.used_Write {a0 a1 : Value} (h : Vcf.used_Write Tryz.prog a0 a1 w R) : Cl Tryz.prog F.used_Write #[a0, a1] w R :=
  cl_of_vc (n := 46) (rs := [(.tmp 4)]) (h := (.s .z (.s (.b (.s .z (.i (.s .z .z) (.s .z (.i (.s .z .z) .z))))) (.s .z (.s .z (.s (.s .z (.b (.l [6, 21] [0, 5, 20] (.s .z (.s (.i .z .z) (.s (.b (.s .z (.s .z (.i .z .z)))) .z)))))) (.s .z (.s (.s .z (.b (.l [37] [0, 36] (.s .z (.s (.i .z .z) (.s (.b (.s .z (.s .z (.i .z .z)))) .z)))))) (.s .z .z))))))))) (args := [a0, a1]) (by kernel_rfl) Tryz.func46 rfl (by kernel_rfl) rfl rfl rfl (Eq.mp (by kernel_rfl) h)

def Vcf.code_Write (P : Program) (a0 a1 a2 : Value) (w : World) (R : Value → World → Prop) : Prop :=
 Bn P 65 false a0 (.pointer none) fun x1=>Vif x1 (R (.int .i64 7) w) (Cl P F.code_chosen #[a1, a2] w fun x2 w1=>Ex x2 0 fun x3=>Ex x2 1 fun x4=>New (zeroP P 148) 148 w1 fun choice_5 w2=>StA 2 choice_5 x3 w2 fun w3=>Bp .neq x4 (.int .i64 0) fun x6=>Vif x6 (R x4 w3) (Fo 1 choice_5 fun x7=>Ld x7 w3 fun x8=>Fo 0 choice_5 fun x9=>Ld x9 w3 fun x10=>Lnl x10 fun x11=>Cl P F.picks_Write #[a0, x8, x11] w3 fun x12 w4=>Fo 0 choice_5 fun x13=>Ld x13 w4 fun x14=>Lnl x14 fun x15=>VLoop 2 [(.slice none 0 0), (.int .i64 0)] w4 fun _ next18 codes_16 x17 w5=>Bp .lss x17 x15 fun x19=>Vif x19 (Ias 1 x14 x17 fun x20=>Ld x20 w5 fun x21=>Cl P F.delta_Write #[a0, x21] w5 fun x22 w6=>Cl P F.canon_New #[x21] w6 fun x23 w7=>Ex x23 0 fun x24=>Ex x23 1 fun x25=>Bs P 157 1 #[(0, x24)] w7 fun x26 w8=>Ap P #[157, 157] 157 #[codes_16, x26] w8 fun x27 w9=>Bp .add x17 (.int .i64 1) fun x28=>KE [a0, a1, choice_5, x14, x15] [a0, a1, choice_5, x14, x15]<|next18 x27 x28 w9) (Lnl a1 fun x29=>VLoop 1 [(.int .i64 0)] w5 fun _ next31 x30 w10=>Bp .lss x30 x29 fun x32=>Vif x32 (Ias 1 a1 x30 fun x33=>Ld x33 w10 fun x34=>Fo 1 choice_5 fun x35=>Ld x35 w10 fun x36=>Bp .quo x30 (.int .i64 50) fun x37=>Ias 1 x36 x37 fun x38=>Ld x38 w10 fun x39=>Ias 1 codes_16 x39 fun x40=>Ld x40 w10 fun x41=>Cl P F.canon_Code_Put #[x41, a0, x34] w10 fun x42 w11=>Bp .add x30 (.int .i64 1) fun x43=>KE [a0, choice_5, codes_16, a1, x29] [a0, choice_5, codes_16, a1, x29]<|next31 x43 w11) (R (.int .i64 0) w10))))
theorem Tie.code_Write {a0 a1 a2 : Value} (h : Vcf.code_Write Tryz.prog a0 a1 a2 w R) : Cl Tryz.prog F.code_Write #[a0, a1, a2] w R :=
  cl_of_vc (n := 74) (rs := [(.tmp 6)]) (h := (.s .z (.s (.s .z (.i (.s .z .z) .z)) (.s .z (.s (.s .z (.i (.s .z .z) .z)) (.s .z (.s .z (.s (.s .z (.b (.l [9, 37] [0, 1, 7, 35, 36] (.s .z (.s (.i .z .z) (.s (.b (.s .z (.s .z (.s .z .z)))) .z)))))) (.s (.s .z (.b (.l [56] [0, 7, 9, 54, 55] (.s .z (.s (.i .z .z) (.s (.b (.s .z .z)) .z)))))) (.s .z .z)))))))))) (args := [a0, a1, a2]) (by kernel_rfl) Tryz.func47 rfl (by kernel_rfl) rfl rfl rfl (Eq.mp (by kernel_rfl) h)

def Vcf.balerref05_Symbols (P : Program) (a0 : Value) (w : World) (R : Value → World → Prop) : Prop :=
 VLoop 2 [(.string ⟨#[]⟩), (.int .i64 0)] w fun _ next3 out_1 x2 w1=>Bp .lss x2 (.int .i64 256) fun x4=>Vif x4 (Cl P F.balerref05_There #[a0, x2] w1 fun x5 w2=>Vif x5 (Ci .u8 x2 fun x6=>Bs P 54 1 #[(0, x6)] w2 fun x7 w3=>Cw P 54 9 x7 w3 fun x8 w4=>Bp .add out_1 x8 fun x9=>Bp .add x2 (.int .i64 1) fun x10=>KE [a0] [a0]<|next3 x9 x10 w4) (Bp .add x2 (.int .i64 1) fun x11=>KE [a0] [a0]<|next3 out_1 x11 w2)) (R out_1 w1)
theorem Tie.balerref05_Symbols {a0 : Value} (h : Vcf.balerref05_Symbols Tryz.prog a0 w R) : Cl Tryz.prog F.balerref05_Symbols #[a0] w R :=
  cl_of_vc (n := 19) (rs := [(.tmp 2)]) (h := (.s .z (.s .z (.s (.s .z (.b (.l [3, 5] [0] (.s .z (.s (.i .z .z) (.s (.b (.s .z (.s .z (.i .z .z)))) .z)))))) (.s .z .z))))) (args := [a0]) (by kernel_rfl) Tryz.func48 rfl (by kernel_rfl) rfl rfl rfl (Eq.mp (by kernel_rfl) h)

def Vcf.balerref06_Encode (P : Program) (a0 a1 : Value) (w : World) (R : Value → World → Prop) : Prop :=
 Cl P F.balerref05_Is #[a1] w fun x1 w1=>Up .not x1 fun x2=>Vif x2 (R (.tuple #[(.slice none 0 0), (.int .i64 1)]) w1) (VLoop 3 [(.slice none 0 0), a1, (.int .i64 0)] w1 fun _ next6 out_3 order_4 i_5 w2=>Lns a0 fun x7=>Bp .lss i_5 x7 fun x8=>Vif x8 (Ixs a0 i_5 fun x9=>Cl P F.balerref06_Place #[order_4, x9] w2 fun x10 w3=>Bp .lss x10 (.int .i64 0) fun x11=>Vif x11 (R (.tuple #[(.slice none 0 0), (.int .i64 6)]) w3) (Bs P 69 1 #[(0, x10)] w3 fun x12 w4=>Ap P #[69, 69] 69 #[out_3, x12] w4 fun x13 w5=>Cl P F.balerref06_Touch #[order_4, x10] w5 fun x14 w6=>Bp .add i_5 (.int .i64 1) fun x15=>KE [a0] [a0]<|next6 x13 x14 x15 w6)) (R (.tuple #[out_3, (.int .i64 0)]) w2))
theorem Tie.balerref06_Encode {a0 a1 : Value} (h : Vcf.balerref06_Encode Tryz.prog a0 a1 w R) : Cl Tryz.prog F.balerref06_Encode #[a0, a1] w R :=
  cl_of_vc (n := 35) (rs := [(.tmp 4), (.tmp 5)]) (h := (.s .z (.s (.s .z (.i (.s .z .z) .z)) (.s .z (.s .z (.s (.s .z (.b (.l [6, 7, 8] [0] (.s (.s .z (.i .z .z)) (.s (.b (.s .z (.s (.s .z (.i (.s .z .z) .z)) (.s .z .z)))) .z))))) (.s .z .z))))))) (args := [a0, a1]) (by kernel_rfl) Tryz.func49 rfl (by kernel_rfl) rfl rfl rfl (Eq.mp (by kernel_rfl) h)

def Vcf.balerref07_Encode (P : Program) (a0 a1 : Value) (w : World) (R : Value → World → Prop) : Prop :=
 VJoin 1 (fun _ x1 w1=>Vif x1 (R (.tuple #[(.slice none 0 0), (.int .i64 1)]) w1) (Lnl a0 fun x2=>VLoop 3 [(.slice none 0 0), (.int .i64 0), (.int .i64 0)] w1 fun _ next6 out_3 zeros_4 x5 w2=>Bp .lss x5 x2 fun x7=>Vif x7 (Ias 1 a0 x5 fun x8=>Ld x8 w2 fun x9=>VJoin 1 (fun _ x10 w3=>Vif x10 (R (.tuple #[(.slice none 0 0), (.int .i64 1)]) w3) (Bp .eql x9 (.int .i64 0) fun x11=>Vif x11 (Bp .add zeros_4 (.int .i64 1) fun x12=>Bp .add x5 (.int .i64 1) fun x13=>KE [a1, a0, x2] [a1, a0, x2]<|next6 out_3 x12 x13 w3) (Cl P F.balerref07_Row #[zeros_4] w3 fun x14 w4=>Ap P #[69, 69] 69 #[out_3, x14] w4 fun x15 w5=>Bp .add x9 (.int .i64 1) fun x16=>Bs P 69 1 #[(0, x16)] w5 fun x17 w6=>Ap P #[69, 69] 69 #[x15, x17] w6 fun x18 w7=>Bp .add x5 (.int .i64 1) fun x19=>KE [a1, a0, x2] [a1, a0, x2]<|next6 x18 (.int .i64 0) x19 w7))) (fun J20=>Bp .lss x9 (.int .i64 0) fun x21=>Vif x21 (KE [a1, out_3, zeros_4, x9, a0, x2, x5] [a1, out_3, zeros_4, x9, a0, x2, x5]<|J20 (.bool true) w2) (Bp .geq x9 a1 fun x22=>KE [a1, out_3, zeros_4, x9, a0, x2, x5] [a1, out_3, zeros_4, x9, a0, x2, x5]<|J20 x22 w2))) (Cl P F.balerref07_Row #[zeros_4] w2 fun x23 w8=>Ap P #[69, 69] 69 #[out_3, x23] w8 fun x24 w9=>Bp .add a1 (.int .i64 1) fun x25=>Bs P 69 1 #[(0, x25)] w9 fun x26 w10=>Ap P #[69, 69] 69 #[x24, x26] w10 fun x27 w11=>R (.tuple #[x27, (.int .i64 0)]) w11))) (fun J28=>Bp .lss a1 (.int .i64 1) fun x29=>Vif x29 (KE [a0, a1] [a0, a1]<|J28 (.bool true) w) (Bp .gtr a1 (.int .i64 256) fun x30=>KE [a0, a1] [a0, a1]<|J28 x30 w))
theorem Tie.balerref07_Encode {a0 a1 : Value} (h : Vcf.balerref07_Encode Tryz.prog a0 a1 w R) : Cl Tryz.prog F.balerref07_Encode #[a0, a1] w R :=
  cl_of_vc (n := 53) (rs := [(.tmp 4), (.tmp 5)]) (h := (.s .z (.s (.j [15] [0, 1] .z (.i (.s .z .z) .z)) (.s .z (.s .z (.s (.s .z (.b (.l [6, 7, 18] [1, 16, 17] (.s .z (.s (.i .z .z) (.s (.b (.s .z (.s (.j [28] [1, 6, 7, 9, 16, 17, 18] .z (.i (.s .z .z) .z)) (.s .z (.i .z (.s .z (.s .z .z))))))) .z)))))) (.s .z (.s .z (.s .z .z))))))))) (args := [a0, a1]) (by kernel_rfl) Tryz.func50 rfl (by kernel_rfl) rfl rfl rfl (Eq.mp (by kernel_rfl) h)

def Vcf.balerref01_Field (P : Program) (a0 a1 : Value) (w : World) (R : Value → World → Prop) : Prop :=
 VLoop 3 [a0, (.string ⟨#[]⟩), (.int .i64 0)] w fun _ next4 v_1 s_2 x3 w1=>Bp .lss x3 a1 fun x5=>Vif x5 (Bp .rem v_1 (.int .u32 2) fun x6=>Bp .rem v_1 (.int .u32 2) fun x7=>Bp .add x7 (.int .u32 1) fun x8=>Sst (.string ⟨#[48, 49]⟩) (some x6) (some x8) fun x9=>Bp .add x9 s_2 fun x10=>Bp .quo v_1 (.int .u32 2) fun x11=>Bp .add x3 (.int .i64 1) fun x12=>KE [a1] [a1]<|next4 x11 x10 x12 w1) (R s_2 w1)
theorem Tie.balerref01_Field {a0 a1 : Value} (h : Vcf.balerref01_Field Tryz.prog a0 a1 w R) : Cl Tryz.prog F.balerref01_Field #[a0, a1] w R :=
  cl_of_vc (n := 21) (rs := [(.tmp 4)]) (h := (.s .z (.s .z (.s (.s .z (.b (.l [0, 5, 7] [6] (.s .z (.s (.i .z .z) (.s (.b (.s .z .z)) .z)))))) (.s .z .z))))) (args := [a0, a1]) (by kernel_rfl) Tryz.func51 rfl (by kernel_rfl) rfl rfl rfl (Eq.mp (by kernel_rfl) h)

def Vcf.balerref05_Bits (P : Program) (a0 : Value) (w : World) (R : Value → World → Prop) : Prop :=
 VLoop 3 [(.string ⟨#[]⟩), (.string ⟨#[]⟩), (.int .i64 0)] w fun _ next4 which_1 rows_2 x3 w1=>Bp .lss x3 (.int .i64 16) fun x5=>Vif x5 (VLoop 3 [(.string ⟨#[]⟩), (.bool false), (.int .i64 0)] w1 fun _ next9 row_6 some_7 x8 w2=>Bp .lss x8 (.int .i64 16) fun x10=>Vif x10 (Bp .mul (.int .i64 16) x3 fun x11=>Bp .add x11 x8 fun x12=>Cl P F.balerref05_There #[a0, x12] w2 fun x13 w3=>Vif x13 (Bp .add row_6 (.string ⟨#[49]⟩) fun x14=>Bp .add x8 (.int .i64 1) fun x15=>KE [a0, which_1, rows_2, x3, x3] [a0, which_1, rows_2, x3, x3]<|next9 x14 (.bool true) x15 w3) (Bp .add row_6 (.string ⟨#[48]⟩) fun x16=>Bp .add x8 (.int .i64 1) fun x17=>KE [a0, which_1, rows_2, x3, x3] [a0, which_1, rows_2, x3, x3]<|next9 x16 some_7 x17 w3)) (Vif some_7 (Bp .add which_1 (.string ⟨#[49]⟩) fun x18=>Bp .add rows_2 row_6 fun x19=>Bp .add x3 (.int .i64 1) fun x20=>KE [a0] [a0]<|next4 x18 x19 x20 w2) (Bp .add which_1 (.string ⟨#[48]⟩) fun x21=>Bp .add x3 (.int .i64 1) fun x22=>KE [a0] [a0]<|next4 x21 rows_2 x22 w2))) (Bp .add which_1 rows_2 fun x23=>R x23 w1)
theorem Tie.balerref05_Bits {a0 : Value} (h : Vcf.balerref05_Bits Tryz.prog a0 w R) : Cl Tryz.prog F.balerref05_Bits #[a0] w R :=
  cl_of_vc (n := 38) (rs := [(.tmp 2)]) (h := (.s .z (.s .z (.s .z (.s (.s .z (.b (.l [3, 4, 9] [0] (.s .z (.s (.i .z .z) (.s (.b (.s .z (.s .z (.s .z (.s (.s .z (.b (.l [6, 7, 12] [0, 3, 4, 5, 9] (.s .z (.s (.i .z .z) (.s (.b (.s .z (.s .z (.i (.s .z .z) .z)))) .z)))))) (.s .z (.i (.s .z .z) .z))))))) .z)))))) (.s .z .z)))))) (args := [a0]) (by kernel_rfl) Tryz.func52 rfl (by kernel_rfl) rfl rfl rfl (Eq.mp (by kernel_rfl) h)

def Vcf.balerref14_Bits (P : Program) (a0 a1 : Value) (w : World) (R : Value → World → Prop) : Prop :=
 Cl P F.balerref12_Of #[a0, a1] w fun x1 w1=>New (zeroP P 166) 166 w1 fun c_2 w2=>StA 2 c_2 x1 w2 fun w3=>Fo 1 c_2 fun x3=>Ld x3 w3 fun x4=>Fo 0 c_2 fun x5=>Ld x5 w3 fun x6=>Lnl x6 fun x7=>Cl P F.balerref13_Bits #[x4, x7] w3 fun x8 w4=>Fo 0 c_2 fun x9=>Ld x9 w4 fun x10=>Lnl x10 fun x11=>VLoop 3 [x8, (.slice none 0 0), (.int .i64 0)] w4 fun _ next15 out_12 codes_13 x14 w5=>Bp .lss x14 x11 fun x16=>Vif x16 (Ias 1 x10 x14 fun x17=>Ld x17 w5 fun x18=>Cl P F.balerref11_Bits #[x18] w5 fun x19 w6=>Bp .add out_12 x19 fun x20=>Cl P F.balerref10_Codes #[x18] w6 fun x21 w7=>Bs P 168 1 #[(0, x21)] w7 fun x22 w8=>Ap P #[168, 168] 168 #[codes_13, x22] w8 fun x23 w9=>Bp .add x14 (.int .i64 1) fun x24=>KE [a0, c_2, x10, x11] [a0, c_2, x10, x11]<|next15 x20 x23 x24 w9) (Lnl a0 fun x25=>VLoop 2 [out_12, (.int .i64 0)] w5 fun _ next28 out_26 x27 w10=>Bp .lss x27 x25 fun x29=>Vif x29 (Ias 1 a0 x27 fun x30=>Ld x30 w10 fun x31=>Fo 1 c_2 fun x32=>Ld x32 w10 fun x33=>Bp .quo x27 (.int .i64 50) fun x34=>Ias 1 x33 x34 fun x35=>Ld x35 w10 fun x36=>Ias 1 codes_13 x36 fun x37=>Ld x37 w10 fun x38=>Ias 1 x38 x31 fun x39=>Ld x39 w10 fun x40=>Bp .add out_26 x40 fun x41=>Bp .add x27 (.int .i64 1) fun x42=>KE [c_2, codes_13, a0, x25] [c_2, codes_13, a0, x25]<|next28 x41 x42 w10) (R out_26 w10))
theorem Tie.balerref14_Bits {a0 a1 : Value} (h : Vcf.balerref14_Bits Tryz.prog a0 a1 w R) : Cl Tryz.prog F.balerref14_Bits #[a0, a1] w R :=
  cl_of_vc (n := 61) (rs := [(.tmp 4)]) (h := (.s .z (.s .z (.s .z (.s .z (.s (.s .z (.b (.l [6, 7, 24] [0, 5, 22, 23] (.s .z (.s (.i .z .z) (.s (.b (.s .z (.s .z .z))) .z)))))) (.s (.s .z (.b (.l [6, 40] [5, 7, 38, 39] (.s .z (.s (.i .z .z) (.s (.b (.s .z .z)) .z)))))) (.s .z .z)))))))) (args := [a0, a1]) (by kernel_rfl) Tryz.func53 rfl (by kernel_rfl) rfl rfl rfl (Eq.mp (by kernel_rfl) h)

def Vcf.balerref01_Number (P : Program) (a0 : Value) (w : World) (R : Value → World → Prop) : Prop :=
 VLoop 2 [(.int .u32 0), (.int .i64 0)] w fun _ next3 v_1 i_2 w1=>Lns a0 fun x4=>Bp .lss i_2 x4 fun x5=>Vif x5 (Bp .mul (.int .u32 2) v_1 fun x6=>Ixs a0 i_2 fun x7=>Bp .sub x7 (.int .u8 48) fun x8=>Ci .u32 x8 fun x9=>Bp .add x6 x9 fun x10=>Bp .add i_2 (.int .i64 1) fun x11=>KE [a0] [a0]<|next3 x10 x11 w1) (R v_1 w1)
theorem Tie.balerref01_Number {a0 : Value} (h : Vcf.balerref01_Number Tryz.prog a0 w R) : Cl Tryz.prog F.balerref01_Number #[a0] w R :=
  cl_of_vc (n := 20) (rs := [(.tmp 2)]) (h := (.s .z (.s .z (.s (.s .z (.b (.l [3, 4] [0] (.s (.s .z (.i .z .z)) (.s (.b .z) .z))))) (.s .z .z))))) (args := [a0]) (by kernel_rfl) Tryz.func79 rfl (by kernel_rfl) rfl rfl rfl (Eq.mp (by kernel_rfl) h)

def Vcf.used_listed (P : Program) (a0 : Value) (w : World) (R : Value → World → Prop) : Prop :=
 New a0 139 w fun there_1 w1=>LdA 256 there_1 w1 fun x2=>VLoop 2 [(.slice none 0 0), (.int .i64 0)] w1 fun _ next5 out_3 x4 w2=>Bp .lss x4 (.int .i64 256) fun x6=>Vif x6 (Ixa 256 1 false x2 x4 fun x7=>Vif x7 (Ci .u8 x4 fun x8=>Bs P 54 1 #[(0, x8)] w2 fun x9 w3=>Ap P #[54, 54] 54 #[out_3, x9] w3 fun x10 w4=>Bp .add x4 (.int .i64 1) fun x11=>KE [x2] [x2]<|next5 x10 x11 w4) (Bp .add x4 (.int .i64 1) fun x12=>KE [x2] [x2]<|next5 out_3 x12 w2)) (Cw P 54 9 out_3 w2 fun x13 w5=>R x13 w5)
theorem Tie.used_listed {a0 : Value} (h : Vcf.used_listed Tryz.prog a0 w R) : Cl Tryz.prog F.used_listed #[a0] w R :=
  cl_of_vc (n := 20) (rs := [(.tmp 2)]) (h := (.s .z (.s .z (.s (.s .z (.b (.l [3, 7] [6] (.s .z (.s (.i .z .z) (.s (.b (.s .z (.s .z (.i .z .z)))) .z)))))) (.s .z .z))))) (args := [a0]) (by kernel_rfl) Tryz.func88 rfl (by kernel_rfl) rfl rfl rfl (Eq.mp (by kernel_rfl) h)

def Vcf.mtf_New (P : Program) (a0 : Value) (w : World) (R : Value → World → Prop) : Prop :=
 Cl P F.used_Is #[a0] w fun x1 w1=>Up .not x1 fun x2=>Vif x2 (R (.tuple #[(.pointer none), (.int .i64 1)]) w1) (Cw P 9 54 a0 w1 fun x3 w2=>Bd P 206 #[(0, x3)] w2 fun x4=>New x4 206 w2 fun x5 w3=>R (.tuple #[x5, (.int .i64 0)]) w3)
theorem Tie.mtf_New {a0 : Value} (h : Vcf.mtf_New Tryz.prog a0 w R) : Cl Tryz.prog F.mtf_New #[a0] w R :=
  cl_of_vc (n := 11) (rs := [(.tmp 2), (.tmp 3)]) (h := (.s .z (.s (.s .z (.i (.s .z .z) .z)) (.s .z .z)))) (args := [a0]) (by kernel_rfl) Tryz.func89 rfl (by kernel_rfl) rfl rfl rfl (Eq.mp (by kernel_rfl) h)

def Vcf.mtf_List_Find (P : Program) (a0 a1 : Value) (w : World) (R : Value → World → Prop) : Prop :=
 Bn P 206 false a0 (.pointer none) fun x1=>Vif x1 (R (.tuple #[(.int .i64 0), (.int .i64 7)]) w) (Nc a0<|Fo 0 a0 fun x2=>Ld x2 w fun x3=>Cl P F.bytes_IndexByte #[x3, a1] w fun x4 w1=>Bp .lss x4 (.int .i64 0) fun x5=>Vif x5 (R (.tuple #[(.int .i64 0), (.int .i64 6)]) w1) (Cl P F.mtf_List_touch #[a0, x4] w1 fun x6 w2=>R (.tuple #[x4, (.int .i64 0)]) w2))
theorem Tie.mtf_List_Find {a0 a1 : Value} (h : Vcf.mtf_List_Find Tryz.prog a0 a1 w R) : Cl Tryz.prog F.mtf_List_Find #[a0, a1] w R :=
  cl_of_vc (n := 21) (rs := [(.tmp 4), (.tmp 5)]) (h := (.s .z (.s (.s .z (.i (.s .z .z) .z)) (.s .z (.s (.s .z (.i (.s .z .z) .z)) (.s .z (.s .z .z))))))) (args := [a0, a1]) (by kernel_rfl) Tryz.func90 rfl (by kernel_rfl) rfl rfl rfl (Eq.mp (by kernel_rfl) h)

def Vcf.zeros_may (P : Program) (a0 : Value) (w : World) (R : Value → World → Prop) : Prop :=
 Bp .geq a0 (.int .i64 1) fun x1=>Vif x1 (Bp .leq a0 (.int .i64 256) fun x2=>R x2 w) (R (.bool false) w)
theorem Tie.zeros_may {a0 : Value} (h : Vcf.zeros_may Tryz.prog a0 w R) : Cl Tryz.prog F.zeros_may #[a0] w R :=
  cl_of_vc (n := 9) (rs := [(.tmp 2)]) (h := (.s .z (.s .z .z))) (args := [a0]) (by kernel_rfl) Tryz.func91 rfl (by kernel_rfl) rfl rfl rfl (Eq.mp (by kernel_rfl) h)

def Vcf.zeros_row (P : Program) (a0 : Value) (w : World) (R : Value → World → Prop) : Prop :=
 VLoop 2 [a0, (.slice none 0 0)] w fun _ next3 m_1 out_2 w1=>Bp .gtr m_1 (.int .i64 0) fun x4=>Vif x4 (VJoin 1 (fun _ code_5 w2=>Bs P 69 1 #[(0, code_5)] w2 fun x6 w3=>Ap P #[69, 69] 69 #[out_2, x6] w3 fun x7 w4=>Bp .sub m_1 code_5 fun x8=>Bp .sub x8 (.int .i64 1) fun x9=>Bp .quo x9 (.int .i64 2) fun x10=>KE [] []<|next3 x10 x7 w4) (fun J11=>Bp .rem m_1 (.int .i64 2) fun x12=>Bp .eql x12 (.int .i64 1) fun x13=>Vif x13 (KE [m_1, out_2] [m_1, out_2]<|J11 (.int .i64 0) w1) (KE [m_1, out_2] [m_1, out_2]<|J11 (.int .i64 1) w1))) (R out_2 w1)
theorem Tie.zeros_row {a0 : Value} (h : Vcf.zeros_row Tryz.prog a0 w R) : Cl Tryz.prog F.zeros_row #[a0] w R :=
  cl_of_vc (n := 20) (rs := [(.tmp 2)]) (h := (.s .z (.s .z (.s (.b (.l [0, 3] [] (.s (.s .z (.i .z .z)) (.b (.s .z (.j [4] [0, 3] (.s .z (.i .z .z)) (.s .z .z))))))) (.s .z .z))))) (args := [a0]) (by kernel_rfl) Tryz.func92 rfl (by kernel_rfl) rfl rfl rfl (Eq.mp (by kernel_rfl) h)

def Vcf.code_chosen (P : Program) (a0 a1 : Value) (w : World) (R : Value → World → Prop) : Prop :=
 New (zeroP P 148) 148 w fun x1 w1=>VJoin 1 (fun _ x2 w2=>Vif x2 (Bd P 148 #[] w2 fun x3=>StA 2 x1 x3 w2 fun w3=>LdA 2 x1 w3 fun x4=>R (.tuple #[x4, (.int .i64 1)]) w3) (Cl P F.tables_Of #[a0, a1] w2 fun x5 w4=>Ex x5 0 fun x6=>Ex x5 1 fun x7=>StA 2 x1 x6 w4 fun w5=>LdA 2 x1 w5 fun x8=>R (.tuple #[x8, x7]) w5)) (fun J9=>Lnl a0 fun x10=>Bp .eql x10 (.int .i64 0) fun x11=>Vif x11 (KE [a0, a1, x1] [a0, a1, x1]<|J9 (.bool true) w1) (Bp .sub a1 (.int .i64 1) fun x12=>Cl P F.slices_Index_int_int #[a0, x12] w1 fun x13 w6=>Lnl a0 fun x14=>Bp .sub x14 (.int .i64 1) fun x15=>Bp .neq x13 x15 fun x16=>KE [a0, a1, x1] [a0, a1, x1]<|J9 x16 w6))
theorem Tie.code_chosen {a0 a1 : Value} (h : Vcf.code_chosen Tryz.prog a0 a1 w R) : Cl Tryz.prog F.code_chosen #[a0, a1] w R :=
  cl_of_vc (n := 25) (rs := [(.cell 4 148), (.tmp 5)]) (h := (.s .z (.s (.j [18] [0, 1, 4] .z (.i (.s .z .z) .z)) (.s .z .z)))) (args := [a0, a1]) (by kernel_rfl) Tryz.func93 rfl (by kernel_rfl) rfl rfl rfl (Eq.mp (by kernel_rfl) h)

def Vcf.picks_Bits (P : Program) (a0 a1 : Value) (w : World) (R : Value → World → Prop) : Prop :=
 Cl P F.picks_may #[a0, a1] w fun x1 w1=>Up .not x1 fun x2=>Vif x2 (R (.tuple #[(.int .i64 0), (.int .i64 1)]) w1) (Cl P F.picks_places #[a0] w1 fun x3 w2=>Lnl x3 fun x4=>VLoop 2 [(.int .i64 18), (.int .i64 0)] w2 fun _ next7 n_5 x6 w3=>Bp .lss x6 x4 fun x8=>Vif x8 (Ias 1 x3 x6 fun x9=>Ld x9 w3 fun x10=>Bp .add x10 (.int .i64 1) fun x11=>Bp .add n_5 x11 fun x12=>Bp .add x6 (.int .i64 1) fun x13=>KE [x3, x4] [x3, x4]<|next7 x12 x13 w3) (R (.tuple #[n_5, (.int .i64 0)]) w3))
theorem Tie.picks_Bits {a0 a1 : Value} (h : Vcf.picks_Bits Tryz.prog a0 a1 w R) : Cl Tryz.prog F.picks_Bits #[a0, a1] w R :=
  cl_of_vc (n := 26) (rs := [(.tmp 4), (.tmp 5)]) (h := (.s .z (.s (.s .z (.i (.s .z .z) .z)) (.s .z (.s (.s .z (.b (.l [6, 16] [14, 15] (.s .z (.s (.i .z .z) (.s (.b (.s .z .z)) .z)))))) (.s .z .z)))))) (args := [a0, a1]) (by kernel_rfl) Tryz.func94 rfl (by kernel_rfl) rfl rfl rfl (Eq.mp (by kernel_rfl) h)

def Vcf.delta_Bits (P : Program) (a0 : Value) (w : World) (R : Value → World → Prop) : Prop :=
 Cl P F.delta_may #[a0] w fun x1 w1=>Up .not x1 fun x2=>Vif x2 (R (.tuple #[(.int .i64 0), (.int .i64 1)]) w1) (New (zeroP P 3) 3 w1 fun total_3 w2=>St total_3 (.int .i64 0) w2 fun w3=>Mf P (.func 147) #[] #[total_3] w3 fun x4=>Cl P F.delta_steps #[a0, x4] w3 fun x5 w4=>Ld total_3 w4 fun x6=>R (.tuple #[x6, (.int .i64 0)]) w4)
theorem Tie.delta_Bits {a0 : Value} (h : Vcf.delta_Bits Tryz.prog a0 w R) : Cl Tryz.prog F.delta_Bits #[a0] w R :=
  cl_of_vc (n := 12) (rs := [(.tmp 2), (.tmp 3)]) (h := (.s .z (.s (.s .z (.i (.s .z .z) .z)) (.s .z (.s .z (.s .z .z)))))) (args := [a0]) (by kernel_rfl) Tryz.func95 rfl (by kernel_rfl) rfl rfl rfl (Eq.mp (by kernel_rfl) h)

def Vcf.tables_Cost (P : Program) (a0 a1 : Value) (w : World) (R : Value → World → Prop) : Prop :=
 New a1 148 w fun c_1 w1=>Dr w1 fun w2=>Fo 1 c_1 fun x2=>Ld x2 w2 fun x3=>Lnl x3 fun x5=>Lnl a0 fun x7=>Cl P F.freq_Groups #[x7] w2 fun x9 w3=>Rk (fun w K=>Lnl x3 fun x6=>K x6) x5 w3<|Rk (fun w K=>Ld x2 w fun x4=>K x4) x3 w3<|Bp .neq x5 x9 fun x10=>Vif x10 (R (.tuple #[(.int .i64 0), (.int .i64 1)]) w3) (Fo 1 c_1 fun x11=>Ld x11 w3 fun x12=>Lnl x12 fun x13=>VLoop 2 [(.int .i64 0), (.int .i64 0)] w3 fun _ next16 total_14 x15 w4=>Bp .lss x15 x13 fun x17=>Vif x17 (Ias 1 x12 x15 fun x18=>Ld x18 w4 fun x19=>VJoin 1 (fun _ x20 w5=>Vif x20 (R (.tuple #[(.int .i64 0), (.int .i64 1)]) w5) (Cl P F.freq_Group #[a0, x15] w5 fun x21 w6=>Ex x21 0 fun x22=>Ex x21 1 fun x23=>Fo 0 c_1 fun x24=>Ld x24 w6 fun x25=>Ias 1 x25 x19 fun x26=>Ld x26 w6 fun x27=>Cl P F.freq_Cost #[x22, x27] w6 fun x28 w7=>Ex x28 0 fun x29=>Ex x28 1 fun x30=>Bp .neq x30 (.int .i64 0) fun x31=>Vif x31 (R (.tuple #[(.int .i64 0), x30]) w7) (Bp .add total_14 x29 fun x32=>Bmin P #[3, 3] 3 #[x32, (.int .i64 1099511627776)] w7 fun x33=>Bp .add x15 (.int .i64 1) fun x34=>KE [a0, c_1, x12, x13] [a0, c_1, x12, x13]<|next16 x33 x34 w7))) (fun J35=>Bp .lss x19 (.int .i64 0) fun x36=>Vif x36 (KE [a0, c_1, total_14, x15, x19, x12, x13, x15] [a0, c_1, total_14, x15, x19, x12, x13, x15]<|J35 (.bool true) w4) (Fo 0 c_1 fun x37=>Ld x37 w4 fun x38=>Lnl x38 fun x39=>Bp .geq x19 x39 fun x40=>KE [a0, c_1, total_14, x15, x19, x12, x13, x15] [a0, c_1, total_14, x15, x19, x12, x13, x15]<|J35 x40 w4))) (R (.tuple #[total_14, (.int .i64 0)]) w4))
theorem Tie.tables_Cost {a0 a1 : Value} (h : Vcf.tables_Cost Tryz.prog a0 a1 w R) : Cl Tryz.prog F.tables_Cost #[a0, a1] w R :=
  cl_of_vc (n := 62) (rs := [(.tmp 4), (.tmp 5)]) (h := (.s .z (.s (.s (.r (.staged [0, 1, 3, 0, 8, 24, 63])) (.i (.s .z .z) .z)) (.s .z (.s (.s .z (.b (.l [6, 23] [0, 3, 21, 22] (.s .z (.s (.i .z .z) (.s (.b (.s .z (.s (.j [36] [0, 3, 6, 7, 8, 21, 22, 23] .z (.i (.s .z .z) .z)) (.s .z (.s .z (.s (.s .z (.i (.s .z .z) .z)) .z)))))) .z)))))) (.s .z .z)))))) (args := [a0, a1]) (by kernel_rfl) Tryz.func96 rfl (by kernel_rfl) rfl rfl rfl (Eq.mp (by kernel_rfl) h)

def Vcf.bits_fits (P : Program) (a0 a1 : Value) (w : World) (R : Value → World → Prop) : Prop :=
 Bp .geq a1 (.int .i64 0) fun x1=>Vif x1 (Bp .leq a1 (.int .i64 32) fun x2=>Vif x2 (Ci .u64 a0 fun x3=>Bp .shr x3 a1 fun x4=>Bp .eql x4 (.int .u64 0) fun x5=>R x5 w) (R (.bool false) w)) (R (.bool false) w)
theorem Tie.bits_fits {a0 a1 : Value} (h : Vcf.bits_fits Tryz.prog a0 a1 w R) : Cl Tryz.prog F.bits_fits #[a0, a1] w R :=
  cl_of_vc (n := 18) (rs := [(.tmp 4)]) (h := (.s .z (.s .z .z))) (args := [a0, a1]) (by kernel_rfl) Tryz.func97 rfl (by kernel_rfl) rfl rfl rfl (Eq.mp (by kernel_rfl) h)

def Vcf.used_Is (P : Program) (a0 : Value) (w : World) (R : Value → World → Prop) : Prop :=
 Lns a0 fun x1=>VLoop 1 [(.int .i64 0)] w fun _ next3 x2 w1=>Bp .lss x2 x1 fun x4=>Vif x4 (VJoin 1 (fun _ x5 w2=>Vif x5 (R (.bool false) w2) (Bp .add x2 (.int .i64 1) fun x6=>KE [a0, x1] [a0, x1]<|next3 x6 w2)) (fun J7=>Dr w1 fun w3=>Bp .gtr x2 (.int .i64 0) fun x8=>Vif x8 (Ixs a0 x2 fun x9=>Bp .sub x2 (.int .i64 1) fun x10=>Ixs a0 x10 fun x11=>Bp .leq x9 x11 fun x12=>KE [a0, x1, x2] [a0, x1, x2]<|J7 x12 w3) (KE [a0, x1, x2] [a0, x1, x2]<|J7 (.bool false) w3))) (Bp .neq a0 (.string ⟨#[]⟩) fun x13=>R x13 w1)
theorem Tie.used_Is {a0 : Value} (h : Vcf.used_Is Tryz.prog a0 w R) : Cl Tryz.prog F.used_Is #[a0] w R :=
  cl_of_vc (n := 24) (rs := [(.tmp 2)]) (h := (.s .z (.s (.s .z (.b (.l [6] [0, 5] (.s .z (.s (.i .z .z) (.s (.b (.s .z (.j [20] [0, 5, 6] (.r (.staged [0, 1, 3, 7, 7, 31, 7, 7, 135, 455, 1023, 2047])) (.i (.s .z .z) .z)))) .z)))))) (.s .z .z)))) (args := [a0]) (by kernel_rfl) Tryz.func98 rfl (by kernel_rfl) rfl rfl rfl (Eq.mp (by kernel_rfl) h)

def Vcf.used_rows (P : Program) (a0 : Value) (w : World) (R : Value → World → Prop) : Prop :=
 New (zeroP P 155) 155 w fun x1 w1=>New (zeroP P 155) 155 w1 fun out_2 w2=>Lns a0 fun x3=>VLoop 1 [(.int .i64 0)] w2 fun _ next5 x4 w3=>Bp .lss x4 x3 fun x6=>Vif x6 (Ixs a0 x4 fun x7=>Bp .quo x7 (.int .u8 16) fun x8=>Iaa 16 1 out_2 x8 fun x9=>Ld x9 w3 fun x10=>Bp .rem x7 (.int .u8 16) fun x11=>Bp .sub (.int .u8 15) x11 fun x12=>Bp .shl (.int .u32 1) x12 fun x13=>Bp .or x10 x13 fun x14=>Iaa 16 1 out_2 x8 fun x15=>St x15 x14 w3 fun w4=>Bp .add x4 (.int .i64 1) fun x16=>KE [a0, x1, out_2, x3] [a0, x1, out_2, x3]<|next5 x16 w4) (LdA 16 out_2 w3 fun x17=>StA 16 x1 x17 w3 fun w5=>LdA 16 x1 w5 fun x18=>R x18 w5)
theorem Tie.used_rows {a0 : Value} (h : Vcf.used_rows Tryz.prog a0 w R) : Cl Tryz.prog F.used_rows #[a0] w R :=
  cl_of_vc (n := 26) (rs := [(.cell 2 155)]) (h := (.s .z (.s .z (.s (.s .z (.b (.l [8] [0, 2, 3, 7] (.s .z (.s (.i .z .z) (.s (.b (.s .z (.s .z .z))) .z)))))) (.s .z .z))))) (args := [a0]) (by kernel_rfl) Tryz.func99 rfl (by kernel_rfl) rfl rfl rfl (Eq.mp (by kernel_rfl) h)

def Vcf.picks_Write (P : Program) (a0 a1 a2 : Value) (w : World) (R : Value → World → Prop) : Prop :=
 Bn P 65 false a0 (.pointer none) fun x1=>Vif x1 (R (.int .i64 7) w) (Cl P F.picks_may #[a1, a2] w fun x2 w1=>Up .not x2 fun x3=>Vif x3 (R (.int .i64 1) w1) (Ci .u32 a2 fun x4=>Cl P F.bits_Writer_Put #[a0, x4, (.int .i64 3)] w1 fun x5 w2=>Lnl a1 fun x6=>Ci .u32 x6 fun x7=>Cl P F.bits_Writer_Put #[a0, x7, (.int .i64 15)] w2 fun x8 w3=>Cl P F.picks_places #[a1] w3 fun x9 w4=>Lnl x9 fun x10=>VLoop 1 [(.int .i64 0)] w4 fun _ next12 x11 w5=>Bp .lss x11 x10 fun x13=>Vif x13 (Ias 1 x9 x11 fun x14=>Ld x14 w5 fun x15=>Bp .add x15 (.int .i64 1) fun x16=>Bp .shl (.int .u32 1) x16 fun x17=>Bp .sub x17 (.int .u32 2) fun x18=>Bp .add x15 (.int .i64 1) fun x19=>Cl P F.bits_Writer_Put #[a0, x18, x19] w5 fun x20 w6=>Bp .add x11 (.int .i64 1) fun x21=>KE [a0, x9, x10] [a0, x9, x10]<|next12 x21 w6) (R (.int .i64 0) w5)))
theorem Tie.picks_Write {a0 a1 a2 : Value} (h : Vcf.picks_Write Tryz.prog a0 a1 a2 w R) : Cl Tryz.prog F.picks_Write #[a0, a1, a2] w R :=
  cl_of_vc (n := 42) (rs := [(.tmp 6)]) (h := (.s .z (.s (.b (.s .z (.i (.s .z .z) (.s .z (.i (.s .z .z) .z))))) (.s .z (.s .z (.s (.s .z (.b (.l [29] [0, 27, 28] (.s .z (.s (.i .z .z) (.s (.b (.s .z .z)) .z)))))) (.s .z .z))))))) (args := [a0, a1, a2]) (by kernel_rfl) Tryz.func100 rfl (by kernel_rfl) rfl rfl rfl (Eq.mp (by kernel_rfl) h)

def Vcf.delta_Write (P : Program) (a0 a1 : Value) (w : World) (R : Value → World → Prop) : Prop :=
 New a0 24 w fun w_1 w1=>Ld w_1 w1 fun x2=>Bn P 65 false x2 (.pointer none) fun x3=>Vif x3 (R (.int .i64 7) w1) (Cl P F.delta_may #[a1] w1 fun x4 w2=>Up .not x4 fun x5=>Vif x5 (R (.int .i64 1) w2) (Mf P (.func 151) #[] #[w_1] w2 fun x6=>Cl P F.delta_steps #[a1, x6] w2 fun x7 w3=>R (.int .i64 0) w3))
theorem Tie.delta_Write {a0 a1 : Value} (h : Vcf.delta_Write Tryz.prog a0 a1 w R) : Cl Tryz.prog F.delta_Write #[a0, a1] w R :=
  cl_of_vc (n := 15) (rs := [(.tmp 4)]) (h := (.s .z (.s (.b (.s .z (.i (.s .z .z) (.s .z (.i (.s .z .z) .z))))) (.s .z (.s .z .z))))) (args := [a0, a1]) (by kernel_rfl) Tryz.func101 rfl (by kernel_rfl) rfl rfl rfl (Eq.mp (by kernel_rfl) h)

def Vcf.canon_New (P : Program) (a0 : Value) (w : World) (R : Value → World → Prop) : Prop :=
 VJoin 1 (fun _ x1 w1=>Vif x1 (R (.tuple #[(.pointer none), (.int .i64 1)]) w1) (Cl P F.canon_whole #[a0] w1 fun x2 w2=>Up .not x2 fun x3=>Vif x3 (R (.tuple #[(.pointer none), (.int .i64 22)]) w2) (VJoin 1 (fun _ c_4 w3=>VLoop 2 [(.int .i64 0), (.int .i64 1)] w3 fun _ next7 next_5 n_6 w4=>Bp .leq n_6 (.int .i64 20) fun x8=>Vif x8 (Bp .mul next_5 (.int .i64 2) fun x9=>Nc c_4<|Fo 3 c_4 fun x10=>Iaa 21 1 x10 n_6 fun x11=>St x11 x9 w4 fun w5=>Dr w5 fun w6=>Nc c_4<|Fo 2 c_4 fun x12=>Ld x12 w6 fun x13=>Lnl x13 fun x15=>Nc c_4<|Fo 24 c_4 fun x17=>Iaa 22 1 x17 n_6 fun x18=>St x18 x15 w6 fun w7=>Lnl a0 fun x19=>VLoop 2 [x9, (.int .i64 0)] w7 fun _ next22 next_20 x21 w8=>Bp .lss x21 x19 fun x23=>Vif x23 (Ias 1 a0 x21 fun x24=>Ld x24 w8 fun x25=>Bp .eql x25 n_6 fun x26=>Vif x26 (Nc c_4<|Fo 1 c_4 fun x27=>Ld x27 w8 fun x28=>Ci .u32 next_20 fun x29=>Ias 1 x28 x21 fun x30=>St x30 x29 w8 fun w9=>Nc c_4<|Fo 2 c_4 fun x31=>Ld x31 w9 fun x32=>Bs P 69 1 #[(0, x21)] w9 fun x33 w10=>Ap P #[69, 69] 69 #[x32, x33] w10 fun x34 w11=>Nc c_4<|Fo 2 c_4 fun x35=>St x35 x34 w11 fun w12=>Bp .add next_20 (.int .i64 1) fun x36=>Bp .add x21 (.int .i64 1) fun x37=>KE [a0, c_4, n_6, a0, x19] [a0, c_4, n_6, a0, x19]<|next22 x36 x37 w12) (Bp .add x21 (.int .i64 1) fun x38=>KE [a0, c_4, n_6, a0, x19] [a0, c_4, n_6, a0, x19]<|next22 next_20 x38 w8)) (Bp .add n_6 (.int .i64 1) fun x39=>KE [a0, c_4] [a0, c_4]<|next7 next_20 x39 w8)) (Dr w4 fun w13=>Nc c_4<|Fo 2 c_4 fun x40=>Ld x40 w13 fun x41=>Lnl x41 fun x43=>Nc c_4<|Fo 24 c_4 fun x45=>Iaa 22 1 x45 (.int .i64 21) fun x46=>St x46 x43 w13 fun w14=>R (.tuple #[c_4, (.int .i64 0)]) w14)) (fun J47=>Dr w2 fun w15=>(Cl P F.slices_Clone_int_int #[a0] w15 fun x48 w16=>Lnl a0 fun x49=>Rk (fun w K=>Lnl a0 fun x50=>K x50) x49 w15<|Ms P 102 x49 x49 w16 fun x52 w17=>Bd P 219 #[(0, x48), (1, x52)] w17 fun x53=>New x53 219 w17 fun x55 w18=>KE [a0] [a0]<|J47 x55 w18) ∧ (Lnl a0 fun x56=>Ms P 102 x56 x56 w15 fun x58 w19=>Cl P F.slices_Clone_int_int #[a0] w19 fun x59 w20=>Rk (fun w K=>Lnl a0 fun x57=>K x57) x56 w20<|Bd P 219 #[(0, x59), (1, x58)] w20 fun x60=>New x60 219 w20 fun x62 w21=>KE [a0] [a0]<|J47 x62 w21))))) (fun J63=>Lnl a0 fun x64=>Bp .lss x64 (.int .i64 3) fun x65=>Vif x65 (KE [a0] [a0]<|J63 (.bool true) w) (Lnl a0 fun x66=>Bp .gtr x66 (.int .i64 258) fun x67=>KE [a0] [a0]<|J63 x67 w))
theorem Tie.canon_New {a0 : Value} (h : Vcf.canon_New Tryz.prog a0 w R) : Cl Tryz.prog F.canon_New #[a0] w R :=
  cl_of_vc (n := 92) (rs := [(.tmp 2), (.tmp 3)]) (h := (.s .z (.s (.b (.j [9] [0] .z (.i (.s .z .z) (.s .z (.i (.s .z .z) .z))))) (.j [4] [0] (.r (.two [0, 1, 0, 4, 12, 31, 63, 127] 1 4 [0, 1, 2, 3, 4, 5, 6, 7] [0, 2, 3, 4, 1, 5, 6, 7])) (.s .z (.s (.s .z (.b (.l [5, 6] [0, 4] (.s (.s .z (.i .z .z)) (.s (.b (.s .z (.s .z (.s (.r (.staged [0, 0, 0, 4, 12, 28, 60, 1, 129, 511, 1023])) (.s .z (.b (.l [5, 53] [0, 4, 6, 51, 52] (.s .z (.s (.i .z .z) (.s (.b (.s .z (.s .z (.i (.s .z (.s .z .z)) .z)))) .z)))))))))) .z))))) (.s (.r (.staged [0, 0, 2, 6, 14, 30, 1, 65, 255, 511])) (.s .z .z)))))))) (args := [a0]) (by kernel_rfl) Tryz.func102 rfl (by kernel_rfl) rfl rfl rfl (Eq.mp (by kernel_rfl) h)

def Vcf.canon_Code_Put (P : Program) (a0 a1 a2 : Value) (w : World) (R : Value → World → Prop) : Prop :=
 Bn P 65 false a1 (.pointer none) fun x1=>Vif x1 (R (.int .i64 7) w) (Cl P F.canon_Code_Of #[a0, a2] w fun x2 w1=>Ex x2 0 fun x3=>Ex x2 1 fun x4=>Ex x2 2 fun x5=>Bp .neq x5 (.int .i64 0) fun x6=>Vif x6 (R x5 w1) (Cl P F.bits_Writer_Put #[a1, x3, x4] w1 fun x7 w2=>R x7 w2))
theorem Tie.canon_Code_Put {a0 a1 a2 : Value} (h : Vcf.canon_Code_Put Tryz.prog a0 a1 a2 w R) : Cl Tryz.prog F.canon_Code_Put #[a0, a1, a2] w R :=
  cl_of_vc (n := 26) (rs := [(.tmp 6)]) (h := (.s .z (.s (.s .z (.i (.s .z .z) .z)) (.s .z (.s (.s .z (.i (.s .z .z) .z)) (.s .z .z)))))) (args := [a0, a1, a2]) (by kernel_rfl) Tryz.func103 rfl (by kernel_rfl) rfl rfl rfl (Eq.mp (by kernel_rfl) h)

def Vcf.balerref05_There (P : Program) (a0 a1 : Value) (w : World) (R : Value → World → Prop) : Prop :=
 VLoop 1 [(.int .i64 0)] w fun _ next2 i_1 w1=>Lns a0 fun x3=>Bp .lss i_1 x3 fun x4=>Vif x4 (Ixs a0 i_1 fun x5=>Ci .i64 x5 fun x6=>Bp .eql x6 a1 fun x7=>Vif x7 (R (.bool true) w1) (Bp .add i_1 (.int .i64 1) fun x8=>KE [a0, a1] [a0, a1]<|next2 x8 w1)) (R (.bool false) w1)
theorem Tie.balerref05_There {a0 a1 : Value} (h : Vcf.balerref05_There Tryz.prog a0 a1 w R) : Cl Tryz.prog F.balerref05_There #[a0, a1] w R :=
  cl_of_vc (n := 18) (rs := [(.tmp 4)]) (h := (.s .z (.s (.s .z (.b (.l [5] [0, 1] (.s (.s .z (.i .z .z)) (.s (.b (.s .z (.i (.s .z .z) .z))) .z))))) (.s .z .z)))) (args := [a0, a1]) (by kernel_rfl) Tryz.func104 rfl (by kernel_rfl) rfl rfl rfl (Eq.mp (by kernel_rfl) h)

def Vcf.balerref05_Is (P : Program) (a0 : Value) (w : World) (R : Value → World → Prop) : Prop :=
 Lns a0 fun x1=>Bp .gtr x1 (.int .i64 0) fun x2=>Vif x2 (Cl P F.balerref05_Symbols #[a0] w fun x3 w1=>Bp .eql x3 a0 fun x4=>R x4 w1) (R (.bool false) w)
theorem Tie.balerref05_Is {a0 : Value} (h : Vcf.balerref05_Is Tryz.prog a0 w R) : Cl Tryz.prog F.balerref05_Is #[a0] w R :=
  cl_of_vc (n := 12) (rs := [(.tmp 2)]) (h := (.s .z (.s .z .z))) (args := [a0]) (by kernel_rfl) Tryz.func105 rfl (by kernel_rfl) rfl rfl rfl (Eq.mp (by kernel_rfl) h)

def Vcf.balerref06_Place (P : Program) (a0 a1 : Value) (w : World) (R : Value → World → Prop) : Prop :=
 VLoop 1 [(.int .i64 0)] w fun _ next2 i_1 w1=>Lns a0 fun x3=>Bp .lss i_1 x3 fun x4=>Vif x4 (Ixs a0 i_1 fun x5=>Bp .eql x5 a1 fun x6=>Vif x6 (R i_1 w1) (Bp .add i_1 (.int .i64 1) fun x7=>KE [a0, a1] [a0, a1]<|next2 x7 w1)) (R (.int .i64 (-1)) w1)
theorem Tie.balerref06_Place {a0 a1 : Value} (h : Vcf.balerref06_Place Tryz.prog a0 a1 w R) : Cl Tryz.prog F.balerref06_Place #[a0, a1] w R :=
  cl_of_vc (n := 18) (rs := [(.tmp 4)]) (h := (.s .z (.s (.s .z (.b (.l [5] [0, 1] (.s (.s .z (.i .z .z)) (.s (.b (.s .z (.i (.s .z .z) .z))) .z))))) (.s .z .z)))) (args := [a0, a1]) (by kernel_rfl) Tryz.func106 rfl (by kernel_rfl) rfl rfl rfl (Eq.mp (by kernel_rfl) h)

def Vcf.balerref06_Touch (P : Program) (a0 a1 : Value) (w : World) (R : Value → World → Prop) : Prop :=
 Dr w fun w1=>Bp .add a1 (.int .i64 1) fun x1=>Sst a0 (some a1) (some x1) fun x2=>Sst a0 none (some a1) fun x4=>Bp .add x2 x4 fun x6=>Bp .add a1 (.int .i64 1) fun x7=>Sst a0 (some x7) none fun x8=>Bp .add x6 x8 fun x10=>R x10 w1
theorem Tie.balerref06_Touch {a0 a1 : Value} (h : Vcf.balerref06_Touch Tryz.prog a0 a1 w R) : Cl Tryz.prog F.balerref06_Touch #[a0, a1] w R :=
  cl_of_vc (n := 19) (rs := [(.tmp 4)]) (h := (.s .z (.s (.r (.staged [0, 0, 0, 4, 15, 0, 0, 96, 255, 0, 0, 1024, 3584, 8191, 16383])) .z))) (args := [a0, a1]) (by kernel_rfl) Tryz.func107 rfl (by kernel_rfl) rfl rfl rfl (Eq.mp (by kernel_rfl) h)

def Vcf.balerref07_Row (P : Program) (a0 : Value) (w : World) (R : Value → World → Prop) : Prop :=
 Bp .eql a0 (.int .i64 0) fun x1=>Vif x1 (R (.slice none 0 0) w) (Bp .rem a0 (.int .i64 2) fun x2=>Bp .eql x2 (.int .i64 1) fun x3=>Vif x3 (Bs P 69 1 #[(0, (.int .i64 0))] w fun x4 w1=>Ap P #[69, 69] 69 #[(.slice none 0 0), x4] w1 fun x5 w2=>Bp .sub a0 (.int .i64 1) fun x6=>Bp .quo x6 (.int .i64 2) fun x7=>Cl P F.balerref07_Row #[x7] w2 fun x8 w3=>Ap P #[69, 69] 69 #[x5, x8] w3 fun x9 w4=>R x9 w4) (Bs P 69 1 #[(0, (.int .i64 1))] w fun x10 w5=>Ap P #[69, 69] 69 #[(.slice none 0 0), x10] w5 fun x11 w6=>Bp .sub a0 (.int .i64 2) fun x12=>Bp .quo x12 (.int .i64 2) fun x13=>Cl P F.balerref07_Row #[x13] w6 fun x14 w7=>Ap P #[69, 69] 69 #[x11, x14] w7 fun x15 w8=>R x15 w8))
theorem Tie.balerref07_Row {a0 : Value} (h : Vcf.balerref07_Row Tryz.prog a0 w R) : Cl Tryz.prog F.balerref07_Row #[a0] w R :=
  cl_of_vc (n := 29) (rs := [(.tmp 2)]) (h := (.s .z (.s (.s .z (.i (.s .z .z) .z)) (.s .z (.s (.s .z (.i (.s .z (.s .z (.s .z .z))) .z)) (.s .z (.s .z (.s .z .z)))))))) (args := [a0]) (by kernel_rfl) Tryz.func108 rfl (by kernel_rfl) rfl rfl rfl (Eq.mp (by kernel_rfl) h)

def Vcf.balerref12_Of (P : Program) (a0 a1 : Value) (w : World) (R : Value → World → Prop) : Prop :=
 New (zeroP P 166) 166 w fun x1 w1=>Cl P F.balerref08_Counts #[a0, a1] w1 fun x2 w2=>Lnl a0 fun x3=>Cl P F.balerref12_First #[x2, x3] w2 fun x4 w3=>Bd P 166 #[(0, x4)] w3 fun x5=>New (zeroP P 166) 166 w3 fun c_6 w4=>StA 2 c_6 x5 w4 fun w5=>Cl P F.balerref08_Groups #[a0] w5 fun x7 w6=>VLoop 1 [(.int .i64 0)] w6 fun _ next9 x8 w7=>Bp .lss x8 (.int .i64 4) fun x10=>Vif x10 (Lnl x7 fun x11=>VLoop 2 [(.slice none 0 0), (.int .i64 0)] w7 fun _ next14 picks_12 x13 w8=>Bp .lss x13 x11 fun x15=>Vif x15 (Ias 1 x7 x13 fun x16=>Ld x16 w8 fun x17=>Fo 0 c_6 fun x18=>Ld x18 w8 fun x19=>Cl P F.balerref12_pick #[x17, x19] w8 fun x20 w9=>Bs P 69 1 #[(0, x20)] w9 fun x21 w10=>Ap P #[69, 69] 69 #[picks_12, x21] w10 fun x22 w11=>Bp .add x13 (.int .i64 1) fun x23=>KE [a1, x1, c_6, x7, x8, x7, x11] [a1, x1, c_6, x7, x8, x7, x11]<|next14 x22 x23 w11) (Fo 0 c_6 fun x24=>Ld x24 w8 fun x25=>Lnl x25 fun x26=>VLoop 2 [(.slice none 0 0), (.int .i64 0)] w8 fun _ next29 tables_27 x28 w12=>Bp .lss x28 x26 fun x30=>Vif x30 (Lnl x7 fun x31=>VLoop 2 [(.slice none 0 0), (.int .i64 0)] w12 fun _ next34 all_32 x33 w13=>Bp .lss x33 x31 fun x35=>Vif x35 (Ias 1 x7 x33 fun x36=>Ld x36 w13 fun x37=>Ias 1 picks_12 x33 fun x38=>Ld x38 w13 fun x39=>Bp .eql x39 x28 fun x40=>Vif x40 (Ap P #[69, 69] 69 #[all_32, x37] w13 fun x41 w14=>Bp .add x33 (.int .i64 1) fun x42=>KE [a1, x1, c_6, x7, picks_12, tables_27, x28, x8, x26, x28, x7, x31] [a1, x1, c_6, x7, picks_12, tables_27, x28, x8, x26, x28, x7, x31]<|next34 x41 x42 w14) (Bp .add x33 (.int .i64 1) fun x43=>KE [a1, x1, c_6, x7, picks_12, tables_27, x28, x8, x26, x28, x7, x31] [a1, x1, c_6, x7, picks_12, tables_27, x28, x8, x26, x28, x7, x31]<|next34 all_32 x43 w13)) (Cl P F.balerref08_Counts #[all_32, a1] w13 fun x44 w15=>Cl P F.balerref09_Of #[x44] w15 fun x45 w16=>Bs P 146 1 #[(0, x45)] w16 fun x46 w17=>Ap P #[146, 146] 146 #[tables_27, x46] w17 fun x47 w18=>Bp .add x28 (.int .i64 1) fun x48=>KE [a1, x1, c_6, x7, picks_12, x8, x26] [a1, x1, c_6, x7, picks_12, x8, x26]<|next29 x47 x48 w18)) (Bd P 166 #[(0, tables_27), (1, picks_12)] w12 fun x49=>StA 2 c_6 x49 w12 fun w19=>Bp .add x8 (.int .i64 1) fun x50=>KE [a1, x1, c_6, x7] [a1, x1, c_6, x7]<|next9 x50 w19))) (LdA 2 c_6 w7 fun x51=>StA 2 x1 x51 w7 fun w20=>LdA 2 x1 w20 fun x52=>R x52 w20)
theorem Tie.balerref12_Of {a0 a1 : Value} (h : Vcf.balerref12_Of Tryz.prog a0 a1 w R) : Cl Tryz.prog F.balerref12_Of #[a0, a1] w R :=
  cl_of_vc (n := 76) (rs := [(.cell 4 166)]) (h := (.s .z (.s .z (.s .z (.s (.s .z (.b (.l [24] [1, 4, 5, 6] (.s .z (.s (.i .z .z) (.s (.b (.s .z (.s (.s .z (.b (.l [7, 28] [1, 4, 5, 6, 24, 26, 27] (.s .z (.s (.i .z .z) (.s (.b (.s .z .z)) .z)))))) (.s .z (.s (.s .z (.b (.l [10, 43] [1, 4, 5, 6, 7, 24, 42] (.s .z (.s (.i .z .z) (.s (.b (.s .z (.s .z (.s (.s .z (.b (.l [12, 48] [1, 4, 5, 6, 7, 10, 11, 24, 42, 43, 46, 47] (.s .z (.s (.i .z .z) (.s (.b (.s .z (.s .z (.i .z .z)))) .z)))))) .z)))) .z)))))) .z))))) .z)))))) (.s .z .z)))))) (args := [a0, a1]) (by kernel_rfl) Tryz.func109 rfl (by kernel_rfl) rfl rfl rfl (Eq.mp (by kernel_rfl) h)

def Vcf.balerref13_Bits (P : Program) (a0 a1 : Value) (w : World) (R : Value → World → Prop) : Prop :=
 Ci .u32 a1 fun x1=>Cl P F.balerref01_Field #[x1, (.int .i64 3)] w fun x2 w1=>Lnl a0 fun x3=>Ci .u32 x3 fun x4=>Cl P F.balerref01_Field #[x4, (.int .i64 15)] w1 fun x5 w2=>Bp .add x2 x5 fun x6=>Lnl a0 fun x7=>VLoop 3 [x6, (.string ⟨#[48, 49, 50, 51, 52, 53]⟩), (.int .i64 0)] w2 fun _ next11 out_8 order_9 x10 w3=>Bp .lss x10 x7 fun x12=>Vif x12 (Ias 1 a0 x10 fun x13=>Ld x13 w3 fun x14=>Ixs (.string ⟨#[48, 49, 50, 51, 52, 53]⟩) x14 fun x15=>Cl P F.balerref06_Place #[order_9, x15] w3 fun x16 w4=>Cl P F.balerref06_Touch #[order_9, x16] w4 fun x17 w5=>Sst (.string ⟨#[49, 49, 49, 49, 49, 49]⟩) none (some x16) fun x18=>Bp .add out_8 x18 fun x19=>Bp .add x19 (.string ⟨#[48]⟩) fun x20=>Bp .add x10 (.int .i64 1) fun x21=>KE [a0, x7] [a0, x7]<|next11 x20 x17 x21 w5) (R out_8 w3)
theorem Tie.balerref13_Bits {a0 a1 : Value} (h : Vcf.balerref13_Bits Tryz.prog a0 a1 w R) : Cl Tryz.prog F.balerref13_Bits #[a0, a1] w R :=
  cl_of_vc (n := 38) (rs := [(.tmp 4)]) (h := (.s .z (.s .z (.s .z (.s (.s .z (.b (.l [5, 6, 20] [18, 19] (.s .z (.s (.i .z .z) (.s (.b (.s .z (.s .z (.s .z .z)))) .z)))))) (.s .z .z)))))) (args := [a0, a1]) (by kernel_rfl) Tryz.func110 rfl (by kernel_rfl) rfl rfl rfl (Eq.mp (by kernel_rfl) h)

def Vcf.balerref11_Bits (P : Program) (a0 : Value) (w : World) (R : Value → World → Prop) : Prop :=
 Ias 1 a0 (.int .i64 0) fun x1=>Ld x1 w fun x2=>Ci .u32 x2 fun x3=>Cl P F.balerref01_Field #[x3, (.int .i64 5)] w fun x4 w1=>Ias 1 a0 (.int .i64 0) fun x5=>Ld x5 w1 fun x6=>Lnl a0 fun x7=>VLoop 3 [x4, x6, (.int .i64 0)] w1 fun _ next11 out_8 last_9 x10 w2=>Bp .lss x10 x7 fun x12=>Vif x12 (Ias 1 a0 x10 fun x13=>Ld x13 w2 fun x14=>VLoop 2 [out_8, (.int .i64 0)] w2 fun _ next17 out_15 x16 w3=>Bp .lss x16 (.int .i64 40) fun x18=>Vif x18 (VJoin 1 (fun _ out_19 w4=>Bp .sub last_9 x14 fun x20=>Bp .lss x16 x20 fun x21=>Vif x21 (Bp .add out_19 (.string ⟨#[49, 49]⟩) fun x22=>Bp .add x16 (.int .i64 1) fun x23=>KE [last_9, x14, a0, x7, x10] [last_9, x14, a0, x7, x10]<|next17 x22 x23 w4) (Bp .add x16 (.int .i64 1) fun x24=>KE [last_9, x14, a0, x7, x10] [last_9, x14, a0, x7, x10]<|next17 out_19 x24 w4)) (fun J25=>Bp .sub x14 last_9 fun x26=>Bp .lss x16 x26 fun x27=>Vif x27 (Bp .add out_15 (.string ⟨#[49, 48]⟩) fun x28=>KE [last_9, x14, x16, a0, x7, x10, x16] [last_9, x14, x16, a0, x7, x10, x16]<|J25 x28 w3) (KE [last_9, x14, x16, a0, x7, x10, x16] [last_9, x14, x16, a0, x7, x10, x16]<|J25 out_15 w3))) (Bp .add out_15 (.string ⟨#[48]⟩) fun x29=>Bp .add x10 (.int .i64 1) fun x30=>KE [a0, x7] [a0, x7]<|next11 x29 x14 x30 w3)) (R out_8 w2)
theorem Tie.balerref11_Bits {a0 : Value} (h : Vcf.balerref11_Bits Tryz.prog a0 w R) : Cl Tryz.prog F.balerref11_Bits #[a0] w R :=
  cl_of_vc (n := 45) (rs := [(.tmp 2)]) (h := (.s .z (.s .z (.s .z (.s (.s .z (.b (.l [3, 4, 18] [16, 17] (.s .z (.s (.i .z .z) (.s (.b (.s .z (.s (.s .z (.b (.l [3, 22] [4, 6, 16, 17, 18] (.s .z (.s (.i .z .z) (.s (.b (.s .z (.j [3] [4, 6, 7, 16, 17, 18, 22] (.s .z (.i .z .z)) (.s .z (.i .z .z))))) .z)))))) (.s .z .z)))) .z)))))) (.s .z .z)))))) (args := [a0]) (by kernel_rfl) Tryz.func111 rfl (by kernel_rfl) rfl rfl rfl (Eq.mp (by kernel_rfl) h)

def Vcf.balerref10_Codes (P : Program) (a0 : Value) (w : World) (R : Value → World → Prop) : Prop :=
 Lnl a0 fun x1=>Ms P 170 x1 x1 w fun x2 w1=>VLoop 2 [(.string ⟨#[]⟩), (.int .i64 1)] w1 fun _ next5 code_3 n_4 w2=>Bp .leq n_4 (.int .i64 20) fun x6=>Vif x6 (Lnl a0 fun x7=>VLoop 2 [code_3, (.int .i64 0)] w2 fun _ next10 code_8 x9 w3=>Bp .lss x9 x7 fun x11=>Vif x11 (Ias 1 a0 x9 fun x12=>Ld x12 w3 fun x13=>Bp .neq x13 n_4 fun x14=>Vif x14 (Bp .add x9 (.int .i64 1) fun x15=>KE [a0, x2, n_4, a0, x7] [a0, x2, n_4, a0, x7]<|next10 code_8 x15 w3) (VJoin 1 (fun _ code_16 w4=>Ias 1 x2 x9 fun x17=>St x17 code_16 w4 fun w5=>Bp .add x9 (.int .i64 1) fun x18=>KE [a0, x2, n_4, a0, x7] [a0, x2, n_4, a0, x7]<|next10 code_16 x18 w5) (fun J19=>Bp .eql code_8 (.string ⟨#[]⟩) fun x20=>Vif x20 (VLoop 2 [code_8, (.int .i64 0)] w3 fun _ next23 code_21 x22 w6=>Bp .lss x22 n_4 fun x24=>Vif x24 (Bp .add code_21 (.string ⟨#[48]⟩) fun x25=>Bp .add x22 (.int .i64 1) fun x26=>KE [a0, x2, n_4, x9, a0, x7, x9, n_4] [a0, x2, n_4, x9, a0, x7, x9, n_4]<|next23 x25 x26 w6) (KE [a0, x2, n_4, x9, a0, x7, x9] [a0, x2, n_4, x9, a0, x7, x9]<|J19 code_21 w6)) (Cl P F.balerref10_next #[code_8, n_4] w3 fun x27 w7=>KE [a0, x2, n_4, x9, a0, x7, x9] [a0, x2, n_4, x9, a0, x7, x9]<|J19 x27 w7)))) (Bp .add n_4 (.int .i64 1) fun x28=>KE [a0, x2] [a0, x2]<|next5 code_8 x28 w3)) (R x2 w2)
theorem Tie.balerref10_Codes {a0 : Value} (h : Vcf.balerref10_Codes Tryz.prog a0 w R) : Cl Tryz.prog F.balerref10_Codes #[a0] w R :=
  cl_of_vc (n := 42) (rs := [(.tmp 2)]) (h := (.s .z (.s .z (.s .z (.s (.s .z (.b (.l [4, 5] [0, 3] (.s (.s .z (.i .z .z)) (.s (.b (.s .z (.b (.l [4, 17] [0, 3, 5, 15, 16] (.s .z (.s (.i .z .z) (.s (.b (.s .z (.s (.s .z (.i .z .z)) (.j [4] [0, 3, 5, 6, 15, 16, 17] (.s .z (.i (.s .z (.b (.l [4, 28] [0, 3, 5, 6, 15, 16, 17, 27] (.s .z (.s (.i .z .z) (.s (.b .z) .z)))))) .z)) .z)))) .z))))))) .z))))) (.s .z .z)))))) (args := [a0]) (by kernel_rfl) Tryz.func112 rfl (by kernel_rfl) rfl rfl rfl (Eq.mp (by kernel_rfl) h)

def Vcf.bytes_IndexByte (P : Program) (a0 a1 : Value) (w : World) (R : Value → World → Prop) : Prop :=
 Cx P F.internal_bytealg_IndexByte #[a0, a1] w fun x1 w1=>R x1 w1
theorem Tie.bytes_IndexByte {a0 a1 : Value} (h : Vcf.bytes_IndexByte Tryz.prog a0 a1 w R) : Cl Tryz.prog F.bytes_IndexByte #[a0, a1] w R :=
  cl_of_vc (n := 8) (rs := [(.tmp 4)]) (h := (.s .z (.s .z .z))) (args := [a0, a1]) (by kernel_rfl) Tryz.func139 rfl (by kernel_rfl) rfl rfl rfl (Eq.mp (by kernel_rfl) h)

def Vcf.mtf_List_touch (P : Program) (a0 a1 : Value) (w : World) (R : Value → World → Prop) : Prop :=
 Nc a0<|Fo 0 a0 fun x1=>Ld x1 w fun x2=>Ias 1 x2 a1 fun x3=>Ld x3 w fun x4=>Dr w fun w1=>Nc a0<|Fo 0 a0 fun x5=>Ld x5 w1 fun x6=>Bp .add a1 (.int .i64 1) fun x8=>Ssl 1 x6 (some (.int .i64 1)) (some x8) fun x9=>Nc a0<|Fo 0 a0 fun x11=>Ld x11 w1 fun x12=>Ssl 1 x12 none (some a1) fun x14=>Cp P #[54, 54] 3 #[x9, x14] w1 fun x16 w2=>Nc a0<|Fo 0 a0 fun x17=>Ld x17 w2 fun x18=>Ias 1 x18 (.int .i64 0) fun x19=>St x19 x4 w2 fun w3=>R x4 w3
theorem Tie.mtf_List_touch {a0 a1 : Value} (h : Vcf.mtf_List_touch Tryz.prog a0 a1 w R) : Cl Tryz.prog F.mtf_List_touch #[a0, a1] w R :=
  cl_of_vc (n := 34) (rs := [(.tmp 4)]) (h := (.s .z (.s .z (.s (.r (.staged [0, 1, 3, 7, 0, 16, 63, 0, 128, 384, 896, 0, 3968, 8191])) (.s .z (.s .z .z)))))) (args := [a0, a1]) (by kernel_rfl) Tryz.func140 rfl (by kernel_rfl) rfl rfl rfl (Eq.mp (by kernel_rfl) h)

def Vcf.slices_Index_int_int (P : Program) (a0 a1 : Value) (w : World) (R : Value → World → Prop) : Prop :=
 Lnl a0 fun x1=>VLoop 1 [(.int .i64 0)] w fun _ next3 x2 w1=>Bp .lss x2 x1 fun x4=>Vif x4 (Ias 1 a0 x2 fun x5=>Ld x5 w1 fun x6=>Bp .eql a1 x6 fun x7=>Vif x7 (R x2 w1) (Bp .add x2 (.int .i64 1) fun x8=>KE [a0, a1, x1] [a0, a1, x1]<|next3 x8 w1)) (R (.int .i64 (-1)) w1)
theorem Tie.slices_Index_int_int {a0 a1 : Value} (h : Vcf.slices_Index_int_int Tryz.prog a0 a1 w R) : Cl Tryz.prog F.slices_Index_int_int #[a0, a1] w R :=
  cl_of_vc (n := 19) (rs := [(.tmp 4)]) (h := (.s .z (.s (.s .z (.b (.l [8] [0, 1, 7] (.s .z (.s (.i .z .z) (.s (.b (.s .z (.s .z (.i (.s .z .z) .z)))) .z)))))) (.s .z .z)))) (args := [a0, a1]) (by kernel_rfl) Tryz.func141 rfl (by kernel_rfl) rfl rfl rfl (Eq.mp (by kernel_rfl) h)

def Vcf.tables_Of (P : Program) (a0 a1 : Value) (w : World) (R : Value → World → Prop) : Prop :=
 New (zeroP P 148) 148 w fun x1 w1=>Cl P F.freq_Counts #[a0, a1] w1 fun x2 w2=>Ex x2 0 fun x3=>Ex x2 1 fun x4=>VJoin 1 (fun _ x5 w3=>Vif x5 (Bd P 148 #[] w3 fun x6=>StA 2 x1 x6 w3 fun w4=>LdA 2 x1 w4 fun x7=>R (.tuple #[x7, (.int .i64 1)]) w4) (Lnl a0 fun x8=>Cl P F.freq_Groups #[x8] w3 fun x9 w5=>Bp .gtr x9 (.int .i64 32767) fun x10=>Vif x10 (Bd P 148 #[] w5 fun x11=>StA 2 x1 x11 w5 fun w6=>LdA 2 x1 w6 fun x12=>R (.tuple #[x12, (.int .i64 2)]) w6) (Cl P F.tables_groupsOf #[a0] w5 fun x13 w7=>Lnl a0 fun x14=>Cl P F.tables_first #[x3, x14] w7 fun x15 w8=>Bd P 148 #[(0, x15)] w8 fun x16=>New (zeroP P 148) 148 w8 fun c_17 w9=>StA 2 c_17 x16 w9 fun w10=>VLoop 1 [(.int .i64 0)] w10 fun _ next19 x18 w11=>Bp .lss x18 (.int .i64 4) fun x20=>Vif x20 (Fo 0 c_17 fun x21=>Ld x21 w11 fun x22=>Cl P F.tables_round #[x13, x22, a1] w11 fun x23 w12=>Ex x23 0 fun x24=>Ex x23 1 fun x25=>Bd P 148 #[(0, x25), (1, x24)] w12 fun x26=>StA 2 c_17 x26 w12 fun w13=>Bp .add x18 (.int .i64 1) fun x27=>KE [a1, x1, x13, c_17] [a1, x1, x13, c_17]<|next19 x27 w13) (LdA 2 c_17 w11 fun x28=>StA 2 x1 x28 w11 fun w14=>LdA 2 x1 w14 fun x29=>R (.tuple #[x29, (.int .i64 0)]) w14)))) (fun J30=>Bp .neq x4 (.int .i64 0) fun x31=>Vif x31 (KE [a0, a1, x1, x3] [a0, a1, x1, x3]<|J30 (.bool true) w2) (Lnl a0 fun x32=>Bp .eql x32 (.int .i64 0) fun x33=>KE [a0, a1, x1, x3] [a0, a1, x1, x3]<|J30 x33 w2))
theorem Tie.tables_Of {a0 a1 : Value} (h : Vcf.tables_Of Tryz.prog a0 a1 w R) : Cl Tryz.prog F.tables_Of #[a0, a1] w R :=
  cl_of_vc (n := 55) (rs := [(.cell 4 148), (.tmp 5)]) (h := (.s .z (.s .z (.s (.b (.j [18] [0, 1, 4, 6] .z (.i (.s .z .z) (.s .z (.i (.s .z .z) .z))))) (.s .z (.s .z (.s (.s .z (.b (.l [40] [1, 4, 8, 9] (.s .z (.s (.i .z .z) (.s (.b (.s .z .z)) .z)))))) (.s .z .z)))))))) (args := [a0, a1]) (by kernel_rfl) Tryz.func142 rfl (by kernel_rfl) rfl rfl rfl (Eq.mp (by kernel_rfl) h)

def Vcf.picks_may (P : Program) (a0 a1 : Value) (w : World) (R : Value → World → Prop) : Prop :=
 New a1 3 w fun t_1 w1=>VJoin 1 (fun _ x2 w2=>Vif x2 (R (.bool false) w2) (Mf P (.func 192) #[] #[t_1] w2 fun x3=>Cl P F.slices_ContainsFunc_int_int #[a0, x3] w2 fun x4 w3=>Up .not x4 fun x5=>R x5 w3)) (fun J6=>Ld t_1 w1 fun x7=>Cl P F.picks_tabled #[x7] w1 fun x8 w4=>Up .not x8 fun x9=>Vif x9 (KE [a0, t_1] [a0, t_1]<|J6 (.bool true) w4) (Lnl a0 fun x10=>Bp .eql x10 (.int .i64 0) fun x11=>Vif x11 (KE [a0, t_1] [a0, t_1]<|J6 (.bool true) w4) (Lnl a0 fun x12=>Bp .gtr x12 (.int .i64 32767) fun x13=>KE [a0, t_1] [a0, t_1]<|J6 x13 w4)))
theorem Tie.picks_may {a0 a1 : Value} (h : Vcf.picks_may Tryz.prog a0 a1 w R) : Cl Tryz.prog F.picks_may #[a0, a1] w R :=
  cl_of_vc (n := 22) (rs := [(.tmp 4)]) (h := (.s .z (.s (.j [17] [0, 3] .z (.i (.s .z .z) .z)) (.s .z .z)))) (args := [a0, a1]) (by kernel_rfl) Tryz.func143 rfl (by kernel_rfl) rfl rfl rfl (Eq.mp (by kernel_rfl) h)

def Vcf.picks_places (P : Program) (a0 : Value) (w : World) (R : Value → World → Prop) : Prop :=
 Cl P F.picks_fresh #[] w fun x1 w1=>New (zeroP P 256) 256 w1 fun o_2 w2=>StA 6 o_2 x1 w2 fun w3=>Lnl a0 fun x3=>Ms P 69 x3 x3 w3 fun x4 w4=>Lnl a0 fun x5=>VLoop 1 [(.int .i64 0)] w4 fun _ next7 x6 w5=>Bp .lss x6 x5 fun x8=>Vif x8 (Ias 1 a0 x6 fun x9=>Ld x9 w5 fun x10=>Cl P F.picks_order_find #[o_2, x10] w5 fun x11 w6=>Ias 1 x4 x6 fun x12=>St x12 x11 w6 fun w7=>Bp .add x6 (.int .i64 1) fun x13=>KE [o_2, x4, a0, x5] [o_2, x4, a0, x5]<|next7 x13 w7) (R x4 w5)
theorem Tie.picks_places {a0 : Value} (h : Vcf.picks_places Tryz.prog a0 w R) : Cl Tryz.prog F.picks_places #[a0] w R :=
  cl_of_vc (n := 25) (rs := [(.tmp 2)]) (h := (.s .z (.s .z (.s .z (.s (.s .z (.b (.l [13] [3, 4, 11, 12] (.s .z (.s (.i .z .z) (.s (.b (.s .z .z)) .z)))))) (.s .z .z)))))) (args := [a0]) (by kernel_rfl) Tryz.func144 rfl (by kernel_rfl) rfl rfl rfl (Eq.mp (by kernel_rfl) h)

def Vcf.delta_may (P : Program) (a0 : Value) (w : World) (R : Value → World → Prop) : Prop :=
 Lnl a0 fun x1=>Cl P F.delta_sized #[x1] w fun x2 w1=>Vif x2 (Cl P F.slices_ContainsFunc_int_int #[a0, (.func (.func 196) #[] #[])] w1 fun x3 w2=>Up .not x3 fun x4=>R x4 w2) (R (.bool false) w1)
theorem Tie.delta_may {a0 : Value} (h : Vcf.delta_may Tryz.prog a0 w R) : Cl Tryz.prog F.delta_may #[a0] w R :=
  cl_of_vc (n := 11) (rs := [(.tmp 2)]) (h := (.s .z (.s .z .z))) (args := [a0]) (by kernel_rfl) Tryz.func145 rfl (by kernel_rfl) rfl rfl rfl (Eq.mp (by kernel_rfl) h)

def Vcf.delta_steps (P : Program) (a0 a1 : Value) (w : World) (R : Value → World → Prop) : Prop :=
 Ias 1 a0 (.int .i64 0) fun x1=>Ld x1 w fun x2=>Inv P (do let d ← Deferred.ofValue a1 #[x2, (.int .i64 5)]; invoke d.target d.args) w fun x3 w1=>Lnl a0 fun x4=>VLoop 2 [x2, (.int .i64 0)] w1 fun _ next7 now_5 x6 w2=>Bp .lss x6 x4 fun x8=>Vif x8 (Ias 1 a0 x6 fun x9=>Ld x9 w2 fun x10=>VLoop 1 [now_5] w2 fun _ next12 now_11 w3=>Bp .lss now_11 x10 fun x13=>Vif x13 (Inv P (do let d ← Deferred.ofValue a1 #[(.int .i64 2), (.int .i64 2)]; invoke d.target d.args) w3 fun x14 w4=>Bp .add now_11 (.int .i64 1) fun x15=>KE [a1, x10, a0, x4, x6] [a1, x10, a0, x4, x6]<|next12 x15 w4) (VLoop 1 [now_11] w3 fun _ next17 now_16 w5=>Bp .gtr now_16 x10 fun x18=>Vif x18 (Inv P (do let d ← Deferred.ofValue a1 #[(.int .i64 3), (.int .i64 2)]; invoke d.target d.args) w5 fun x19 w6=>Bp .sub now_16 (.int .i64 1) fun x20=>KE [a1, x10, a0, x4, x6] [a1, x10, a0, x4, x6]<|next17 x20 w6) (Inv P (do let d ← Deferred.ofValue a1 #[(.int .i64 0), (.int .i64 1)]; invoke d.target d.args) w5 fun x21 w7=>Bp .add x6 (.int .i64 1) fun x22=>KE [a1, a0, x4] [a1, a0, x4]<|next7 now_16 x22 w7))) (R (.tuple #[]) w2)
theorem Tie.delta_steps {a0 a1 : Value} (h : Vcf.delta_steps Tryz.prog a0 a1 w R) : Cl Tryz.prog F.delta_steps #[a0, a1] w R :=
  cl_of_vc (n := 36) (rs := []) (h := (.s .z (.s .z (.s .z (.b (.l [4, 15] [1, 13, 14] (.s .z (.s (.i .z .z) (.s (.b (.s .z (.s (.b (.l [4] [1, 6, 13, 14, 15] (.s (.s .z (.i .z .z)) (.s (.b .z) .z)))) (.s (.b (.l [4] [1, 6, 13, 14, 15] (.s (.s .z (.i .z .z)) (.s (.b .z) .z)))) .z)))) .z))))))))) (args := [a0, a1]) (by kernel_rfl) Tryz.func146 rfl (by kernel_rfl) rfl rfl rfl (Eq.mp (by kernel_rfl) h)

def Vcf.delta_Bits_1 (P : Program) (a0 a1 a2 : Value) (w : World) (R : Value → World → Prop) : Prop :=
 Ld a2 w fun x1=>Bp .add x1 a1 fun x2=>St a2 x2 w fun w1=>R (.tuple #[]) w1
theorem Tie.delta_Bits_1 {a0 a1 a2 : Value} (h : Vcf.delta_Bits_1 Tryz.prog a0 a1 a2 w R) : Cl Tryz.prog F.delta_Bits_1 #[a0, a1, a2] w R :=
  cl_of_vc (n := 8) (rs := []) (h := .z) (args := [a0, a1, a2]) (by kernel_rfl) Tryz.func147 rfl (by kernel_rfl) rfl rfl rfl (Eq.mp (by kernel_rfl) h)

def Vcf.freq_Groups (P : Program) (a0 : Value) (w : World) (R : Value → World → Prop) : Prop :=
 Bp .leq a0 (.int .i64 0) fun x1=>Vif x1 (R (.int .i64 0) w) (Bp .sub a0 (.int .i64 1) fun x2=>Bp .quo x2 (.int .i64 50) fun x3=>Bp .add x3 (.int .i64 1) fun x4=>R x4 w)
theorem Tie.freq_Groups {a0 : Value} (h : Vcf.freq_Groups Tryz.prog a0 w R) : Cl Tryz.prog F.freq_Groups #[a0] w R :=
  cl_of_vc (n := 9) (rs := [(.tmp 2)]) (h := (.s .z (.s (.s .z (.i (.s .z .z) .z)) (.s .z .z)))) (args := [a0]) (by kernel_rfl) Tryz.func148 rfl (by kernel_rfl) rfl rfl rfl (Eq.mp (by kernel_rfl) h)

def Vcf.freq_Group (P : Program) (a0 a1 : Value) (w : World) (R : Value → World → Prop) : Prop :=
 VJoin 1 (fun _ x1 w1=>Vif x1 (R (.tuple #[(.slice none 0 0), (.int .i64 1)]) w1) (Cl P F.freq_part_int #[a0, a1, (.int .i64 50)] w1 fun x2 w2=>R (.tuple #[x2, (.int .i64 0)]) w2)) (fun J3=>Bp .lss a1 (.int .i64 0) fun x4=>Vif x4 (KE [a0, a1] [a0, a1]<|J3 (.bool true) w) (Lnl a0 fun x5=>Cl P F.freq_Groups #[x5] w fun x6 w3=>Bp .geq a1 x6 fun x7=>KE [a0, a1] [a0, a1]<|J3 x7 w3))
theorem Tie.freq_Group {a0 a1 : Value} (h : Vcf.freq_Group Tryz.prog a0 a1 w R) : Cl Tryz.prog F.freq_Group #[a0, a1] w R :=
  cl_of_vc (n := 18) (rs := [(.tmp 4), (.tmp 5)]) (h := (.s .z (.s (.j [14] [0, 1] .z (.i (.s .z .z) .z)) (.s .z .z)))) (args := [a0, a1]) (by kernel_rfl) Tryz.func149 rfl (by kernel_rfl) rfl rfl rfl (Eq.mp (by kernel_rfl) h)

def Vcf.freq_Cost (P : Program) (a0 a1 : Value) (w : World) (R : Value → World → Prop) : Prop :=
 Cl P F.freq_all #[a1] w fun x1 w1=>Up .not x1 fun x2=>Vif x2 (R (.tuple #[(.int .i64 0), (.int .i64 1)]) w1) (Lnl a0 fun x3=>VLoop 2 [(.int .i64 0), (.int .i64 0)] w1 fun _ next6 cost_4 x5 w2=>Bp .lss x5 x3 fun x7=>Vif x7 (Ias 1 a0 x5 fun x8=>Ld x8 w2 fun x9=>VJoin 1 (fun _ x10 w3=>Vif x10 (R (.tuple #[(.int .i64 0), (.int .i64 1)]) w3) (Ias 1 a1 x9 fun x11=>Ld x11 w3 fun x12=>Cl P F.freq_together #[cost_4, x12] w3 fun x13 w4=>Bp .add x5 (.int .i64 1) fun x14=>KE [a1, a0, x3] [a1, a0, x3]<|next6 x13 x14 w4)) (fun J15=>Bp .lss x9 (.int .i64 0) fun x16=>Vif x16 (KE [a1, cost_4, x9, a0, x3, x5] [a1, cost_4, x9, a0, x3, x5]<|J15 (.bool true) w2) (Lnl a1 fun x17=>Bp .geq x9 x17 fun x18=>KE [a1, cost_4, x9, a0, x3, x5] [a1, cost_4, x9, a0, x3, x5]<|J15 x18 w2))) (R (.tuple #[cost_4, (.int .i64 0)]) w2))
theorem Tie.freq_Cost {a0 a1 : Value} (h : Vcf.freq_Cost Tryz.prog a0 a1 w R) : Cl Tryz.prog F.freq_Cost #[a0, a1] w R :=
  cl_of_vc (n := 34) (rs := [(.tmp 4), (.tmp 5)]) (h := (.s .z (.s (.s .z (.i (.s .z .z) .z)) (.s .z (.s (.s .z (.b (.l [6, 14] [1, 12, 13] (.s .z (.s (.i .z .z) (.s (.b (.s .z (.s (.j [25] [1, 6, 8, 12, 13, 14] .z (.i (.s .z .z) .z)) .z))) .z)))))) (.s .z .z)))))) (args := [a0, a1]) (by kernel_rfl) Tryz.func150 rfl (by kernel_rfl) rfl rfl rfl (Eq.mp (by kernel_rfl) h)

def Vcf.delta_Write_1 (P : Program) (a0 a1 a2 : Value) (w : World) (R : Value → World → Prop) : Prop :=
 Ld a2 w fun x1=>Ci .u32 a0 fun x2=>Cl P F.bits_Writer_Put #[x1, x2, a1] w fun x3 w1=>R (.tuple #[]) w1
theorem Tie.delta_Write_1 {a0 a1 a2 : Value} (h : Vcf.delta_Write_1 Tryz.prog a0 a1 a2 w R) : Cl Tryz.prog F.delta_Write_1 #[a0, a1, a2] w R :=
  cl_of_vc (n := 10) (rs := []) (h := .z) (args := [a0, a1, a2]) (by kernel_rfl) Tryz.func151 rfl (by kernel_rfl) rfl rfl rfl (Eq.mp (by kernel_rfl) h)

def Vcf.canon_whole (P : Program) (a0 : Value) (w : World) (R : Value → World → Prop) : Prop :=
 Cl P F.lens_Share #[a0] w fun x1 w1=>Ex x1 0 fun x2=>Ex x1 1 fun x3=>Bp .eql x3 (.int .i64 0) fun x4=>Vif x4 (Bp .eql x2 (.int .i64 1048576) fun x5=>Vif x5 (Cl P F.slices_Contains_int_int #[a0, (.int .i64 0)] w1 fun x6 w2=>Up .not x6 fun x7=>R x7 w2) (R (.bool false) w1)) (R (.bool false) w1)
theorem Tie.canon_whole {a0 : Value} (h : Vcf.canon_whole Tryz.prog a0 w R) : Cl Tryz.prog F.canon_whole #[a0] w R :=
  cl_of_vc (n := 21) (rs := [(.tmp 2)]) (h := (.s .z (.s .z (.s .z .z)))) (args := [a0]) (by kernel_rfl) Tryz.func152 rfl (by kernel_rfl) rfl rfl rfl (Eq.mp (by kernel_rfl) h)

def Vcf.slices_Clone_int_int (P : Program) (a0 : Value) (w : World) (R : Value → World → Prop) : Prop :=
 Be P .eql 69 (.tmp 3) (.const (.slice none 0 0)) a0 (.slice none 0 0) w fun x1=>Vif x1 (R (.slice none 0 0) w) (Bs P 69 0 #[] w fun x2 w1=>Ap P #[69, 69] 69 #[x2, a0] w1 fun x3 w2=>R x3 w2)
theorem Tie.slices_Clone_int_int {a0 : Value} (h : Vcf.slices_Clone_int_int Tryz.prog a0 w R) : Cl Tryz.prog F.slices_Clone_int_int #[a0] w R :=
  cl_of_vc (n := 8) (rs := [(.tmp 2)]) (h := (.s .z (.s (.s .z (.i (.s .z .z) .z)) (.s .z .z)))) (args := [a0]) (by kernel_rfl) Tryz.func153 rfl (by kernel_rfl) rfl rfl rfl (Eq.mp (by kernel_rfl) h)

def Vcf.canon_Code_Of (P : Program) (a0 a1 : Value) (w : World) (R : Value → World → Prop) : Prop :=
 Bn P 219 false a0 (.pointer none) fun x1=>Vif x1 (R (.tuple #[(.int .u32 0), (.int .i64 0), (.int .i64 7)]) w) (VJoin 1 (fun _ x2 w1=>Vif x2 (R (.tuple #[(.int .u32 0), (.int .i64 0), (.int .i64 1)]) w1) (Dr w1 fun w2=>Nc a0<|Fo 1 a0 fun x3=>Ld x3 w2 fun x4=>Ias 1 x4 a1 fun x6=>Ld x6 w2 fun x7=>Nc a0<|Fo 0 a0 fun x9=>Ld x9 w2 fun x10=>Ias 1 x10 a1 fun x12=>Ld x12 w2 fun x13=>R (.tuple #[x7, x13, (.int .i64 0)]) w2)) (fun J15=>Bp .lss a1 (.int .i64 0) fun x16=>Vif x16 (KE [a0, a1] [a0, a1]<|J15 (.bool true) w) (Nc a0<|Fo 0 a0 fun x17=>Ld x17 w fun x18=>Lnl x18 fun x19=>Bp .geq a1 x19 fun x20=>KE [a0, a1] [a0, a1]<|J15 x20 w)))
theorem Tie.canon_Code_Of {a0 a1 : Value} (h : Vcf.canon_Code_Of Tryz.prog a0 a1 w R) : Cl Tryz.prog F.canon_Code_Of #[a0, a1] w R :=
  cl_of_vc (n := 36) (rs := [(.tmp 4), (.tmp 5), (.tmp 6)]) (h := (.s .z (.s (.b (.s .z (.i (.s .z .z) (.j [10] [0, 1] .z (.i (.s .z .z) .z))))) (.s (.r (.staged [0, 1, 3, 7, 0, 31, 63, 0, 128, 384, 896, 0, 3968, 8064, 127, 32767, 65535])) .z)))) (args := [a0, a1]) (by kernel_rfl) Tryz.func154 rfl (by kernel_rfl) rfl rfl rfl (Eq.mp (by kernel_rfl) h)

def Vcf.balerref12_First (P : Program) (a0 a1 : Value) (w : World) (R : Value → World → Prop) : Prop :=
 Cl P F.balerref12_Number #[a1] w fun x1 w1=>VLoop 2 [(.slice none 0 0), (.int .i64 0)] w1 fun _ next4 out_2 x3 w2=>Bp .lss x3 x1 fun x5=>Vif x5 (Lnl a0 fun x6=>VLoop 3 [(.slice none 0 0), (.int .i64 0), (.int .i64 0)] w2 fun _ next10 l_7 below_8 x9 w3=>Bp .lss x9 x6 fun x11=>Vif x11 (Ias 1 a0 x9 fun x12=>Ld x12 w3 fun x13=>VJoin 1 (fun _ below_14 w4=>VJoin 1 (fun _ l_15 w5=>Bp .add below_14 x13 fun x16=>Bp .add x9 (.int .i64 1) fun x17=>KE [a0, a1, x1, out_2, x3, x1, x3, a0, x6] [a0, a1, x1, out_2, x3, x1, x3, a0, x6]<|next10 l_15 x16 x17 w5) (fun J18=>Bp .mul below_14 x1 fun x19=>Bp .quo x19 a1 fun x20=>Bp .eql x20 x3 fun x21=>Vif x21 (Bs P 69 1 #[(0, (.int .i64 0))] w4 fun x22 w6=>Ap P #[69, 69] 69 #[l_7, x22] w6 fun x23 w7=>KE [a0, a1, x1, out_2, x3, below_14, x13, x1, x3, a0, x6, x9] [a0, a1, x1, out_2, x3, below_14, x13, x1, x3, a0, x6, x9]<|J18 x23 w7) (Bs P 69 1 #[(0, (.int .i64 15))] w4 fun x24 w8=>Ap P #[69, 69] 69 #[l_7, x24] w8 fun x25 w9=>KE [a0, a1, x1, out_2, x3, below_14, x13, x1, x3, a0, x6, x9] [a0, a1, x1, out_2, x3, below_14, x13, x1, x3, a0, x6, x9]<|J18 x25 w9))) (fun J26=>Bp .sub a1 (.int .i64 1) fun x27=>Bp .gtr below_8 x27 fun x28=>Vif x28 (Bp .sub a1 (.int .i64 1) fun x29=>KE [a0, a1, x1, out_2, x3, l_7, x13, x1, x3, a0, x6, x9] [a0, a1, x1, out_2, x3, l_7, x13, x1, x3, a0, x6, x9]<|J26 x29 w3) (KE [a0, a1, x1, out_2, x3, l_7, x13, x1, x3, a0, x6, x9] [a0, a1, x1, out_2, x3, l_7, x13, x1, x3, a0, x6, x9]<|J26 below_8 w3))) (Bs P 146 1 #[(0, l_7)] w3 fun x30 w10=>Ap P #[146, 146] 146 #[out_2, x30] w10 fun x31 w11=>Bp .add x3 (.int .i64 1) fun x32=>KE [a0, a1, x1, x1] [a0, a1, x1, x1]<|next4 x31 x32 w11)) (R out_2 w2)
theorem Tie.balerref12_First {a0 a1 : Value} (h : Vcf.balerref12_First Tryz.prog a0 a1 w R) : Cl Tryz.prog F.balerref12_First #[a0, a1] w R :=
  cl_of_vc (n := 53) (rs := [(.tmp 4)]) (h := (.s .z (.s .z (.s .z (.s (.s .z (.b (.l [6, 15] [0, 1, 5, 14] (.s .z (.s (.i .z .z) (.s (.b (.s .z (.s .z (.s .z (.s (.s .z (.b (.l [8, 9, 20] [0, 1, 5, 6, 7, 14, 15, 18, 19] (.s .z (.s (.i .z .z) (.s (.b (.s .z (.j [9] [0, 1, 5, 6, 7, 8, 11, 14, 15, 18, 19, 20] (.s .z (.i .z .z)) (.j [8] [0, 1, 5, 6, 7, 9, 11, 14, 15, 18, 19, 20] (.s .z (.i .z .z)) .z)))) .z)))))) .z))))) .z)))))) (.s .z .z)))))) (args := [a0, a1]) (by kernel_rfl) Tryz.func155 rfl (by kernel_rfl) rfl rfl rfl (Eq.mp (by kernel_rfl) h)

def Vcf.balerref08_Counts (P : Program) (a0 a1 : Value) (w : World) (R : Value → World → Prop) : Prop :=
 VLoop 2 [(.slice none 0 0), (.int .i64 0)] w fun _ next3 out_1 x2 w1=>Bp .lss x2 a1 fun x4=>Vif x4 (Cl P F.balerref08_count #[a0, x2] w1 fun x5 w2=>Bs P 69 1 #[(0, x5)] w2 fun x6 w3=>Ap P #[69, 69] 69 #[out_1, x6] w3 fun x7 w4=>Bp .add x2 (.int .i64 1) fun x8=>KE [a0, a1] [a0, a1]<|next3 x7 x8 w4) (R out_1 w1)
theorem Tie.balerref08_Counts {a0 a1 : Value} (h : Vcf.balerref08_Counts Tryz.prog a0 a1 w R) : Cl Tryz.prog F.balerref08_Counts #[a0, a1] w R :=
  cl_of_vc (n := 19) (rs := [(.tmp 4)]) (h := (.s .z (.s .z (.s (.s .z (.b (.l [5, 8] [0, 7] (.s .z (.s (.i .z .z) (.s (.b (.s .z .z)) .z)))))) (.s .z .z))))) (args := [a0, a1]) (by kernel_rfl) Tryz.func156 rfl (by kernel_rfl) rfl rfl rfl (Eq.mp (by kernel_rfl) h)

def Vcf.balerref08_Groups (P : Program) (a0 : Value) (w : World) (R : Value → World → Prop) : Prop :=
 Lnl a0 fun x1=>VLoop 3 [(.slice none 0 0), (.slice none 0 0), (.int .i64 0)] w fun _ next5 out_2 now_3 x4 w1=>Bp .lss x4 x1 fun x6=>Vif x6 (Ias 1 a0 x4 fun x7=>Ld x7 w1 fun x8=>Bs P 69 1 #[(0, x8)] w1 fun x9 w2=>Ap P #[69, 69] 69 #[now_3, x9] w2 fun x10 w3=>VJoin 1 (fun _ x11 w4=>Vif x11 (Bs P 146 1 #[(0, x10)] w4 fun x12 w5=>Ap P #[146, 146] 146 #[out_2, x12] w5 fun x13 w6=>Bp .add x4 (.int .i64 1) fun x14=>KE [a0, a0, x1] [a0, a0, x1]<|next5 x13 (.slice none 0 0) x14 w6) (Bp .add x4 (.int .i64 1) fun x15=>KE [a0, a0, x1] [a0, a0, x1]<|next5 out_2 x10 x15 w4)) (fun J16=>Lnl x10 fun x17=>Bp .eql x17 (.int .i64 50) fun x18=>Vif x18 (KE [a0, out_2, x10, a0, x1, x4] [a0, out_2, x10, a0, x1, x4]<|J16 (.bool true) w3) (Bp .add x4 (.int .i64 1) fun x19=>Lnl a0 fun x20=>Bp .eql x19 x20 fun x21=>KE [a0, out_2, x10, a0, x1, x4] [a0, out_2, x10, a0, x1, x4]<|J16 x21 w3))) (R out_2 w1)
theorem Tie.balerref08_Groups {a0 : Value} (h : Vcf.balerref08_Groups Tryz.prog a0 w R) : Cl Tryz.prog F.balerref08_Groups #[a0] w R :=
  cl_of_vc (n := 34) (rs := [(.tmp 2)]) (h := (.s .z (.s .z (.s .z (.s (.s .z (.b (.l [3, 4, 9] [0, 7, 8] (.s .z (.s (.i .z .z) (.s (.b (.s .z (.s .z (.j [27] [0, 3, 4, 7, 8, 9] .z (.i (.s .z .z) .z))))) .z)))))) (.s .z .z)))))) (args := [a0]) (by kernel_rfl) Tryz.func157 rfl (by kernel_rfl) rfl rfl rfl (Eq.mp (by kernel_rfl) h)

def Vcf.balerref12_pick (P : Program) (a0 a1 : Value) (w : World) (R : Value → World → Prop) : Prop :=
 Lnl a1 fun x1=>VLoop 2 [(.int .i64 0), (.int .i64 0)] w fun _ next4 best_2 x3 w1=>Bp .lss x3 x1 fun x5=>Vif x5 (Ias 1 a1 x3 fun x6=>Ld x6 w1 fun x7=>Dr w1 fun w2=>Cl P F.balerref08_Cost #[a0, x7] w2 fun x8 w3=>Ias 1 a1 best_2 fun x9=>Ld x9 w3 fun x10=>Rk (fun w K=>Ld x9 w fun x11=>K x11) x10 w2<|Cl P F.balerref08_Cost #[a0, x10] w3 fun x13 w4=>Bp .lss x8 x13 fun x14=>Vif x14 (Bp .add x3 (.int .i64 1) fun x15=>KE [a0, a1, a1, x1] [a0, a1, a1, x1]<|next4 x3 x15 w4) (Bp .add x3 (.int .i64 1) fun x16=>KE [a0, a1, a1, x1] [a0, a1, a1, x1]<|next4 best_2 x16 w4)) (R best_2 w1)
theorem Tie.balerref12_pick {a0 a1 : Value} (h : Vcf.balerref12_pick Tryz.prog a0 a1 w R) : Cl Tryz.prog F.balerref12_pick #[a0, a1] w R :=
  cl_of_vc (n := 28) (rs := [(.tmp 4)]) (h := (.s .z (.s .z (.s (.s .z (.b (.l [5, 10] [0, 1, 8, 9] (.s .z (.s (.i .z .z) (.s (.b (.s .z (.s (.r (.staged [0, 0, 3, 0, 0, 0, 48, 112, 255, 511])) (.i .z .z)))) .z)))))) (.s .z .z))))) (args := [a0, a1]) (by kernel_rfl) Tryz.func158 rfl (by kernel_rfl) rfl rfl rfl (Eq.mp (by kernel_rfl) h)

def Vcf.balerref09_Of (P : Program) (a0 : Value) (w : World) (R : Value → World → Prop) : Prop :=
 Lnl a0 fun x1=>VLoop 2 [(.slice none 0 0), (.int .i64 0)] w fun _ next4 w_2 x3 w1=>Bp .lss x3 x1 fun x5=>Vif x5 (Ias 1 a0 x3 fun x6=>Ld x6 w1 fun x7=>VJoin 1 (fun _ x8 w2=>Bs P 69 1 #[(0, x8)] w2 fun x9 w3=>Ap P #[69, 69] 69 #[w_2, x9] w3 fun x10 w4=>Bp .add x3 (.int .i64 1) fun x11=>KE [a0, x1] [a0, x1]<|next4 x10 x11 w4) (fun J12=>Bp .eql x7 (.int .i64 0) fun x13=>Vif x13 (KE [w_2, a0, x1, x3] [w_2, a0, x1, x3]<|J12 (.int .i64 1) w1) (KE [w_2, a0, x1, x3] [w_2, a0, x1, x3]<|J12 x7 w1))) (VLoop 2 [w_2, (.int .i64 0)] w1 fun _ next16 w_14 x15 w5=>Bp .lss x15 (.int .i64 100) fun x17=>Vif x17 (Cl P F.balerref09_Depths #[w_14] w5 fun x18 w6=>Cl P F.balerref09_May #[x18, (.int .i64 1), (.int .i64 20)] w6 fun x19 w7=>Vif x19 (R x18 w7) (Cl P F.balerref09_Halved #[w_14] w7 fun x20 w8=>Bp .add x15 (.int .i64 1) fun x21=>KE [] []<|next16 x20 x21 w8)) (R (.slice none 0 0) w5))
theorem Tie.balerref09_Of {a0 : Value} (h : Vcf.balerref09_Of Tryz.prog a0 w R) : Cl Tryz.prog F.balerref09_Of #[a0] w R :=
  cl_of_vc (n := 30) (rs := [(.tmp 2)]) (h := (.s .z (.s .z (.s (.s .z (.b (.l [3, 9] [7, 8] (.s .z (.s (.i .z .z) (.s (.b (.s .z (.j [5] [3, 7, 8, 9] (.s .z (.i .z .z)) .z))) .z)))))) (.s (.s .z (.b (.l [3, 20] [] (.s .z (.s (.i .z .z) (.s (.b (.s .z (.s (.s .z (.i (.s .z .z) .z)) .z))) .z)))))) (.s .z .z)))))) (args := [a0]) (by kernel_rfl) Tryz.func159 rfl (by kernel_rfl) rfl rfl rfl (Eq.mp (by kernel_rfl) h)

def Vcf.balerref10_next (P : Program) (a0 a1 : Value) (w : World) (R : Value → World → Prop) : Prop :=
 Lns a0 fun x1=>Bp .sub x1 (.int .i64 1) fun x2=>VLoop 3 [(.string ⟨#[]⟩), (.bool true), x2] w fun _ next6 out_3 carry_4 i_5 w1=>Bp .geq i_5 (.int .i64 0) fun x7=>Vif x7 (Ixs a0 i_5 fun x8=>Bp .eql x8 (.int .u8 49) fun x9=>VJoin 1 (fun _ out_10 w2=>Vif carry_4 (Bp .sub i_5 (.int .i64 1) fun x11=>KE [a0, a1] [a0, a1]<|next6 out_10 x9 x11 w2) (Bp .sub i_5 (.int .i64 1) fun x12=>KE [a0, a1] [a0, a1]<|next6 out_10 (.bool false) x12 w2)) (fun J13=>Bb true x9 carry_4 fun x14=>Vif x14 (Bp .add (.string ⟨#[49]⟩) out_3 fun x15=>KE [a0, a1, carry_4, i_5, x9] [a0, a1, carry_4, i_5, x9]<|J13 x15 w1) (Bp .add (.string ⟨#[48]⟩) out_3 fun x16=>KE [a0, a1, carry_4, i_5, x9] [a0, a1, carry_4, i_5, x9]<|J13 x16 w1))) (VLoop 1 [out_3] w1 fun _ next18 out_17 w3=>Lns out_17 fun x19=>Bp .lss x19 a1 fun x20=>Vif x20 (Bp .add out_17 (.string ⟨#[48]⟩) fun x21=>KE [a1] [a1]<|next18 x21 w3) (R out_17 w3))
theorem Tie.balerref10_next {a0 a1 : Value} (h : Vcf.balerref10_next Tryz.prog a0 a1 w R) : Cl Tryz.prog F.balerref10_next #[a0, a1] w R :=
  cl_of_vc (n := 38) (rs := [(.tmp 4)]) (h := (.s .z (.s .z (.s .z (.s (.s .z (.b (.l [5, 6, 7] [0, 1] (.s (.s .z (.i .z .z)) (.s (.b (.s .z (.j [5] [0, 1, 6, 7, 8] (.s .z (.i .z .z)) .z))) .z))))) (.s (.b (.l [5] [1] (.s (.s .z (.i .z .z)) (.b .z)))) (.s .z .z))))))) (args := [a0, a1]) (by kernel_rfl) Tryz.func160 rfl (by kernel_rfl) rfl rfl rfl (Eq.mp (by kernel_rfl) h)

def Vcf.crc_Table (P : Program) (w : World) (R : Value → World → Prop) : Prop :=
 New (zeroP P 230) 230 w fun x1 w1=>New (zeroP P 230) 230 w1 fun out_2 w2=>VLoop 1 [(.int .i64 0)] w2 fun _ next4 x3 w3=>Bp .lss x3 (.int .i64 256) fun x5=>Vif x5 (Ci .u32 x3 fun x6=>Bp .shl x6 (.int .u64 24) fun x7=>VLoop 2 [x7, (.int .i64 0)] w3 fun _ next10 sum_8 x9 w4=>Bp .lss x9 (.int .i64 8) fun x11=>Vif x11 (Bp .shr sum_8 (.int .u64 31) fun x12=>Bp .shl sum_8 (.int .u64 1) fun x13=>Bp .mul x12 (.int .u32 79764919) fun x14=>Bp .xor x13 x14 fun x15=>Bp .add x9 (.int .i64 1) fun x16=>KE [x1, out_2, x3, x3] [x1, out_2, x3, x3]<|next10 x15 x16 w4) (Iaa 256 1 out_2 x3 fun x17=>St x17 sum_8 w4 fun w5=>Bp .add x3 (.int .i64 1) fun x18=>KE [x1, out_2] [x1, out_2]<|next4 x18 w5)) (LdA 256 out_2 w3 fun x19=>StA 256 x1 x19 w3 fun w6=>LdA 256 x1 w6 fun x20=>R x20 w6)
theorem Tie.crc_Table (h : Vcf.crc_Table Tryz.prog w R) : Cl Tryz.prog F.crc_Table #[] w R :=
  cl_of_vc (n := 26) (rs := [(.cell 0 230)]) (h := (.s .z (.s .z (.s (.s .z (.b (.l [5] [0, 1] (.s .z (.s (.i .z .z) (.s (.b (.s .z (.s .z (.s (.s .z (.b (.l [3, 11] [0, 1, 2, 5] (.s .z (.s (.i .z .z) (.s (.b (.s .z .z)) .z)))))) .z)))) .z)))))) (.s .z .z))))) (args := []) (by kernel_rfl) Tryz.func169 rfl (by kernel_rfl) rfl rfl rfl (Eq.mp (by kernel_rfl) h)

def Vcf.freq_Counts (P : Program) (a0 a1 : Value) (w : World) (R : Value → World → Prop) : Prop :=
 VJoin 1 (fun _ x1 w1=>Vif x1 (R (.tuple #[(.slice none 0 0), (.int .i64 1)]) w1) (Ms P 69 a1 a1 w1 fun x2 w2=>Lnl a0 fun x3=>VLoop 1 [(.int .i64 0)] w2 fun _ next5 x4 w3=>Bp .lss x4 x3 fun x6=>Vif x6 (Ias 1 a0 x4 fun x7=>Ld x7 w3 fun x8=>VJoin 1 (fun _ x9 w4=>Vif x9 (R (.tuple #[(.slice none 0 0), (.int .i64 1)]) w4) (Ias 1 x2 x8 fun x10=>Ld x10 w4 fun x11=>Bp .add x11 (.int .i64 1) fun x12=>Ias 1 x2 x8 fun x13=>St x13 x12 w4 fun w5=>Bp .add x4 (.int .i64 1) fun x14=>KE [a1, x2, a0, x3] [a1, x2, a0, x3]<|next5 x14 w5)) (fun J15=>Bp .lss x8 (.int .i64 0) fun x16=>Vif x16 (KE [a1, x2, x8, a0, x3, x4] [a1, x2, x8, a0, x3, x4]<|J15 (.bool true) w3) (Bp .geq x8 a1 fun x17=>KE [a1, x2, x8, a0, x3, x4] [a1, x2, x8, a0, x3, x4]<|J15 x17 w3))) (R (.tuple #[x2, (.int .i64 0)]) w3))) (fun J18=>Bp .lss a1 (.int .i64 3) fun x19=>Vif x19 (KE [a0, a1] [a0, a1]<|J18 (.bool true) w) (Bp .gtr a1 (.int .i64 258) fun x20=>KE [a0, a1] [a0, a1]<|J18 x20 w))
theorem Tie.freq_Counts {a0 a1 : Value} (h : Vcf.freq_Counts Tryz.prog a0 a1 w R) : Cl Tryz.prog F.freq_Counts #[a0, a1] w R :=
  cl_of_vc (n := 38) (rs := [(.tmp 4), (.tmp 5)]) (h := (.s .z (.s (.j [14] [0, 1] .z (.i (.s .z .z) .z)) (.s .z (.s (.s .z (.b (.l [19] [1, 6, 17, 18] (.s .z (.s (.i .z .z) (.s (.b (.s .z (.s (.j [29] [1, 6, 8, 17, 18, 19] .z (.i (.s .z .z) .z)) .z))) .z)))))) (.s .z .z)))))) (args := [a0, a1]) (by kernel_rfl) Tryz.func186 rfl (by kernel_rfl) rfl rfl rfl (Eq.mp (by kernel_rfl) h)

def Vcf.tables_groupsOf (P : Program) (a0 : Value) (w : World) (R : Value → World → Prop) : Prop :=
 Lnl a0 fun x1=>Cl P F.freq_Groups #[x1] w fun x2 w1=>VLoop 2 [(.slice none 0 0), (.int .i64 0)] w1 fun _ next5 out_3 x4 w2=>Bp .lss x4 x2 fun x6=>Vif x6 (Cl P F.freq_Group #[a0, x4] w2 fun x7 w3=>Ex x7 0 fun x8=>Ex x7 1 fun x9=>Bs P 146 1 #[(0, x8)] w3 fun x10 w4=>Ap P #[146, 146] 146 #[out_3, x10] w4 fun x11 w5=>Bp .add x4 (.int .i64 1) fun x12=>KE [a0, x2] [a0, x2]<|next5 x11 x12 w5) (R out_3 w2)
theorem Tie.tables_groupsOf {a0 : Value} (h : Vcf.tables_groupsOf Tryz.prog a0 w R) : Cl Tryz.prog F.tables_groupsOf #[a0] w R :=
  cl_of_vc (n := 25) (rs := [(.tmp 2)]) (h := (.s .z (.s .z (.s (.s .z (.b (.l [3, 10] [0, 9] (.s .z (.s (.i .z .z) (.s (.b (.s .z (.s .z .z))) .z)))))) (.s .z .z))))) (args := [a0]) (by kernel_rfl) Tryz.func187 rfl (by kernel_rfl) rfl rfl rfl (Eq.mp (by kernel_rfl) h)

def Vcf.tables_first (P : Program) (a0 a1 : Value) (w : World) (R : Value → World → Prop) : Prop :=
 Cl P F.tables_Number #[a1] w fun x1 w1=>Ms P 146 x1 x1 w1 fun x2 w2=>Lnl x2 fun x3=>VLoop 1 [(.int .i64 0)] w2 fun _ next5 x4 w3=>Bp .lss x4 x3 fun x6=>Vif x6 (Lnl a0 fun x7=>Ms P 69 x7 x7 w3 fun x8 w4=>Ias 1 x2 x4 fun x9=>St x9 x8 w4 fun w5=>Bp .add x4 (.int .i64 1) fun x10=>KE [a0, a1, x1, x2, x3] [a0, a1, x1, x2, x3]<|next5 x10 w5) (Lnl a0 fun x11=>VLoop 2 [(.int .i64 0), (.int .i64 0)] w3 fun _ next14 below_12 x13 w6=>Bp .lss x13 x11 fun x15=>Vif x15 (Ias 1 a0 x13 fun x16=>Ld x16 w6 fun x17=>Bp .mul below_12 x1 fun x18=>Bp .quo x18 a1 fun x19=>Lnl x2 fun x20=>VLoop 1 [(.int .i64 0)] w6 fun _ next22 x21 w7=>Bp .lss x21 x20 fun x23=>Vif x23 (Bp .neq x21 x19 fun x24=>Vif x24 (Ias 1 x2 x21 fun x25=>Ld x25 w7 fun x26=>Ias 1 x26 x13 fun x27=>St x27 (.int .i64 15) w7 fun w8=>Bp .add x21 (.int .i64 1) fun x28=>KE [a1, x1, x2, below_12, x13, x17, x19, a0, x11, x13, x20] [a1, x1, x2, below_12, x13, x17, x19, a0, x11, x13, x20]<|next22 x28 w8) (Bp .add x21 (.int .i64 1) fun x29=>KE [a1, x1, x2, below_12, x13, x17, x19, a0, x11, x13, x20] [a1, x1, x2, below_12, x13, x17, x19, a0, x11, x13, x20]<|next22 x29 w7)) (Bp .add below_12 x17 fun x30=>Bp .sub a1 (.int .i64 1) fun x31=>Bmin P #[3, 3] 3 #[x30, x31] w7 fun x32=>Bp .add x13 (.int .i64 1) fun x33=>KE [a1, x1, x2, a0, x11] [a1, x1, x2, a0, x11]<|next14 x32 x33 w7)) (R x2 w6))
theorem Tie.tables_first {a0 a1 : Value} (h : Vcf.tables_first Tryz.prog a0 a1 w R) : Cl Tryz.prog F.tables_first #[a0, a1] w R :=
  cl_of_vc (n := 64) (rs := [(.tmp 4)]) (h := (.s .z (.s .z (.s .z (.s (.s .z (.b (.l [19] [0, 1, 5, 6, 18] (.s .z (.s (.i .z .z) (.s (.b (.s .z .z)) .z)))))) (.s .z (.s (.s .z (.b (.l [8, 31] [1, 5, 6, 29, 30] (.s .z (.s (.i .z .z) (.s (.b (.s .z (.s .z (.s (.s .z (.b (.l [43] [1, 5, 6, 8, 9, 10, 11, 29, 30, 31, 42] (.s .z (.s (.i .z .z) (.s (.b (.s .z (.s .z (.i .z .z)))) .z)))))) .z)))) .z)))))) (.s .z .z)))))))) (args := [a0, a1]) (by kernel_rfl) Tryz.func188 rfl (by kernel_rfl) rfl rfl rfl (Eq.mp (by kernel_rfl) h)

def Vcf.tables_round (P : Program) (a0 a1 a2 : Value) (w : World) (R : Value → World → Prop) : Prop :=
 Lnl a1 fun x1=>Ms P 146 x1 x1 w fun x2 w1=>Lnl x2 fun x3=>VLoop 1 [(.int .i64 0)] w1 fun _ next5 x4 w2=>Bp .lss x4 x3 fun x6=>Vif x6 (Ms P 69 a2 a2 w2 fun x7 w3=>Ias 1 x2 x4 fun x8=>St x8 x7 w3 fun w4=>Bp .add x4 (.int .i64 1) fun x9=>KE [a0, a1, a2, (.slice none 0 0), x2, x3] [a0, a1, a2, (.slice none 0 0), x2, x3]<|next5 x9 w4) (Lnl a0 fun x10=>VLoop 2 [(.slice none 0 0), (.int .i64 0)] w2 fun _ next13 picks_11 x12 w5=>Bp .lss x12 x10 fun x14=>Vif x14 (Ias 1 a0 x12 fun x15=>Ld x15 w5 fun x16=>Cl P F.tables_pick #[x16, a1] w5 fun x17 w6=>Bs P 69 1 #[(0, x17)] w6 fun x18 w7=>Ap P #[69, 69] 69 #[picks_11, x18] w7 fun x19 w8=>Cl P F.freq_Counts #[x16, a2] w8 fun x20 w9=>Ex x20 0 fun x21=>Ex x20 1 fun x22=>Ias 1 x2 x17 fun x23=>Ld x23 w9 fun x24=>Cl P F.freq_Add #[x24, x21] w9 fun x25 w10=>Ex x25 0 fun x26=>Ex x25 1 fun x27=>Ias 1 x2 x17 fun x28=>St x28 x26 w10 fun w11=>Bp .add x12 (.int .i64 1) fun x29=>KE [a1, a2, x2, a0, x10] [a1, a2, x2, a0, x10]<|next13 x19 x29 w11) (Lnl x2 fun x30=>VLoop 2 [(.slice none 0 0), (.int .i64 0)] w5 fun _ next33 out_31 x32 w12=>Bp .lss x32 x30 fun x34=>Vif x34 (Ias 1 x2 x32 fun x35=>Ld x35 w12 fun x36=>Cl P F.lens_Of #[x36] w12 fun x37 w13=>Ex x37 0 fun x38=>Ex x37 1 fun x39=>Bs P 146 1 #[(0, x38)] w13 fun x40 w14=>Ap P #[146, 146] 146 #[out_31, x40] w14 fun x41 w15=>Bp .add x32 (.int .i64 1) fun x42=>KE [picks_11, x2, x30] [picks_11, x2, x30]<|next33 x41 x42 w15) (R (.tuple #[picks_11, out_31]) w12)))
theorem Tie.tables_round {a0 a1 a2 : Value} (h : Vcf.tables_round Tryz.prog a0 a1 a2 w R) : Cl Tryz.prog F.tables_round #[a0, a1, a2] w R :=
  cl_of_vc (n := 88) (rs := [(.tmp 6), (.tmp 7)]) (h := (.s .z (.s .z (.s .z (.s (.s .z (.b (.l [28] [0, 1, 2, 8, 9, 27] (.s .z (.s (.i .z .z) (.s (.b (.s .z .z)) .z)))))) (.s (.s .z (.b (.l [8, 39] [1, 2, 9, 37, 38] (.s .z (.s (.i .z .z) (.s (.b (.s .z (.s .z (.s .z (.s .z (.s .z .z)))))) .z)))))) (.s .z (.s (.s .z (.b (.l [18, 72] [8, 70, 71] (.s .z (.s (.i .z .z) (.s (.b (.s .z (.s .z .z))) .z)))))) (.s .z .z))))))))) (args := [a0, a1, a2]) (by kernel_rfl) Tryz.func189 rfl (by kernel_rfl) rfl rfl rfl (Eq.mp (by kernel_rfl) h)

def Vcf.picks_tabled (P : Program) (a0 : Value) (w : World) (R : Value → World → Prop) : Prop :=
 Bp .geq a0 (.int .i64 2) fun x1=>Vif x1 (Bp .leq a0 (.int .i64 6) fun x2=>R x2 w) (R (.bool false) w)
theorem Tie.picks_tabled {a0 : Value} (h : Vcf.picks_tabled Tryz.prog a0 w R) : Cl Tryz.prog F.picks_tabled #[a0] w R :=
  cl_of_vc (n := 9) (rs := [(.tmp 2)]) (h := (.s .z (.s .z .z))) (args := [a0]) (by kernel_rfl) Tryz.func190 rfl (by kernel_rfl) rfl rfl rfl (Eq.mp (by kernel_rfl) h)

def Vcf.slices_ContainsFunc_int_int (P : Program) (a0 a1 : Value) (w : World) (R : Value → World → Prop) : Prop :=
 Cl P F.slices_IndexFunc_int_int #[a0, a1] w fun x1 w1=>Bp .geq x1 (.int .i64 0) fun x2=>R x2 w1
theorem Tie.slices_ContainsFunc_int_int {a0 a1 : Value} (h : Vcf.slices_ContainsFunc_int_int Tryz.prog a0 a1 w R) : Cl Tryz.prog F.slices_ContainsFunc_int_int #[a0, a1] w R :=
  cl_of_vc (n := 9) (rs := [(.tmp 4)]) (h := (.s .z (.s .z .z))) (args := [a0, a1]) (by kernel_rfl) Tryz.func191 rfl (by kernel_rfl) rfl rfl rfl (Eq.mp (by kernel_rfl) h)

def Vcf.picks_may_1 (P : Program) (a0 a1 : Value) (w : World) (R : Value → World → Prop) : Prop :=
 Bp .lss a0 (.int .i64 0) fun x1=>Vif x1 (R (.bool true) w) (Ld a1 w fun x2=>Bp .geq a0 x2 fun x3=>R x3 w)
theorem Tie.picks_may_1 {a0 a1 : Value} (h : Vcf.picks_may_1 Tryz.prog a0 a1 w R) : Cl Tryz.prog F.picks_may_1 #[a0, a1] w R :=
  cl_of_vc (n := 11) (rs := [(.tmp 3)]) (h := (.s .z (.s .z .z))) (args := [a0, a1]) (by kernel_rfl) Tryz.func192 rfl (by kernel_rfl) rfl rfl rfl (Eq.mp (by kernel_rfl) h)

def Vcf.picks_fresh (P : Program) (w : World) (R : Value → World → Prop) : Prop :=
 New (zeroP P 256) 256 w fun x1 w1=>New (zeroP P 256) 256 w1 fun o_2 w2=>VLoop 1 [(.int .i64 0)] w2 fun _ next4 x3 w3=>Bp .lss x3 (.int .i64 6) fun x5=>Vif x5 (Iaa 6 1 o_2 x3 fun x6=>St x6 x3 w3 fun w4=>Bp .add x3 (.int .i64 1) fun x7=>KE [x1, o_2] [x1, o_2]<|next4 x7 w4) (LdA 6 o_2 w3 fun x8=>StA 6 x1 x8 w3 fun w5=>LdA 6 x1 w5 fun x9=>R x9 w5)
theorem Tie.picks_fresh (h : Vcf.picks_fresh Tryz.prog w R) : Cl Tryz.prog F.picks_fresh #[] w R :=
  cl_of_vc (n := 11) (rs := [(.cell 0 256)]) (h := (.s .z (.s .z (.s (.s .z (.b (.l [3] [0, 1] (.s .z (.s (.i .z .z) (.s (.b (.s .z .z)) .z)))))) (.s .z .z))))) (args := []) (by kernel_rfl) Tryz.func193 rfl (by kernel_rfl) rfl rfl rfl (Eq.mp (by kernel_rfl) h)

def Vcf.picks_order_find (P : Program) (a0 a1 : Value) (w : World) (R : Value → World → Prop) : Prop :=
 VLoop 1 [(.int .i64 0)] w fun _ next2 i_1 w1=>Nc a0<|Iaa 6 1 a0 i_1 fun x3=>Ld x3 w1 fun x4=>Bp .neq x4 a1 fun x5=>Vif x5 (Bp .add i_1 (.int .i64 1) fun x6=>KE [a0, a1] [a0, a1]<|next2 x6 w1) (Cl P F.picks_order_touch #[a0, i_1] w1 fun x7 w2=>R i_1 w2)
theorem Tie.picks_order_find {a0 a1 : Value} (h : Vcf.picks_order_find Tryz.prog a0 a1 w R) : Cl Tryz.prog F.picks_order_find #[a0, a1] w R :=
  cl_of_vc (n := 19) (rs := [(.tmp 4)]) (h := (.s .z (.s .z (.s (.b (.l [5] [0, 1] (.s (.s .z (.i .z .z)) (.b .z)))) (.s .z (.s .z .z)))))) (args := [a0, a1]) (by kernel_rfl) Tryz.func194 rfl (by kernel_rfl) rfl rfl rfl (Eq.mp (by kernel_rfl) h)

def Vcf.delta_sized (P : Program) (a0 : Value) (w : World) (R : Value → World → Prop) : Prop :=
 Bp .geq a0 (.int .i64 3) fun x1=>Vif x1 (Bp .leq a0 (.int .i64 258) fun x2=>R x2 w) (R (.bool false) w)
theorem Tie.delta_sized {a0 : Value} (h : Vcf.delta_sized Tryz.prog a0 w R) : Cl Tryz.prog F.delta_sized #[a0] w R :=
  cl_of_vc (n := 9) (rs := [(.tmp 2)]) (h := (.s .z (.s .z .z))) (args := [a0]) (by kernel_rfl) Tryz.func195 rfl (by kernel_rfl) rfl rfl rfl (Eq.mp (by kernel_rfl) h)

def Vcf.delta_may_1 (P : Program) (a0 : Value) (w : World) (R : Value → World → Prop) : Prop :=
 Cl P F.delta_length #[a0] w fun x1 w1=>Up .not x1 fun x2=>R x2 w1
theorem Tie.delta_may_1 {a0 : Value} (h : Vcf.delta_may_1 Tryz.prog a0 w R) : Cl Tryz.prog F.delta_may_1 #[a0] w R :=
  cl_of_vc (n := 6) (rs := [(.tmp 2)]) (h := (.s .z (.s .z .z))) (args := [a0]) (by kernel_rfl) Tryz.func196 rfl (by kernel_rfl) rfl rfl rfl (Eq.mp (by kernel_rfl) h)

def Vcf.delta_length (P : Program) (a0 : Value) (w : World) (R : Value → World → Prop) : Prop :=
 Bp .geq a0 (.int .i64 1) fun x1=>Vif x1 (Bp .leq a0 (.int .i64 20) fun x2=>R x2 w) (R (.bool false) w)
theorem Tie.delta_length {a0 : Value} (h : Vcf.delta_length Tryz.prog a0 w R) : Cl Tryz.prog F.delta_length #[a0] w R :=
  cl_of_vc (n := 9) (rs := [(.tmp 2)]) (h := (.s .z (.s .z .z))) (args := [a0]) (by kernel_rfl) Tryz.func197 rfl (by kernel_rfl) rfl rfl rfl (Eq.mp (by kernel_rfl) h)

def Vcf.freq_part_int (P : Program) (a0 a1 a2 : Value) (w : World) (R : Value → World → Prop) : Prop :=
 Bp .mul a1 a2 fun x1=>Lnl a0 fun x2=>Bp .add a1 (.int .i64 1) fun x3=>Bp .mul x3 a2 fun x4=>Bmin P #[3, 3] 3 #[x2, x4] w fun x5=>Ssl 1 a0 (some x1) (some x5) fun x6=>Cl P F.slices_Clone_int_int #[x6] w fun x7 w1=>R x7 w1
theorem Tie.freq_part_int {a0 a1 a2 : Value} (h : Vcf.freq_part_int Tryz.prog a0 a1 a2 w R) : Cl Tryz.prog F.freq_part_int #[a0, a1, a2] w R :=
  cl_of_vc (n := 20) (rs := [(.tmp 6)]) (h := (.s .z (.s .z .z))) (args := [a0, a1, a2]) (by kernel_rfl) Tryz.func198 rfl (by kernel_rfl) rfl rfl rfl (Eq.mp (by kernel_rfl) h)

def Vcf.freq_all (P : Program) (a0 : Value) (w : World) (R : Value → World → Prop) : Prop :=
 Cl P F.slices_ContainsFunc_int_int #[a0, (.func (.func 233) #[] #[])] w fun x1 w1=>Up .not x1 fun x2=>R x2 w1
theorem Tie.freq_all {a0 : Value} (h : Vcf.freq_all Tryz.prog a0 w R) : Cl Tryz.prog F.freq_all #[a0] w R :=
  cl_of_vc (n := 6) (rs := [(.tmp 2)]) (h := (.s .z (.s .z .z))) (args := [a0]) (by kernel_rfl) Tryz.func199 rfl (by kernel_rfl) rfl rfl rfl (Eq.mp (by kernel_rfl) h)

def Vcf.freq_together (P : Program) (a0 a1 : Value) (w : World) (R : Value → World → Prop) : Prop :=
 Bp .add a0 a1 fun x1=>Bmin P #[3, 3] 3 #[x1, (.int .i64 1099511627776)] w fun x2=>R x2 w
theorem Tie.freq_together {a0 a1 : Value} (h : Vcf.freq_together Tryz.prog a0 a1 w R) : Cl Tryz.prog F.freq_together #[a0, a1] w R :=
  cl_of_vc (n := 9) (rs := [(.tmp 4)]) (h := (.s .z (.s .z .z))) (args := [a0, a1]) (by kernel_rfl) Tryz.func200 rfl (by kernel_rfl) rfl rfl rfl (Eq.mp (by kernel_rfl) h)

def Vcf.lens_Share (P : Program) (a0 : Value) (w : World) (R : Value → World → Prop) : Prop :=
 VJoin 1 (fun _ x1 w1=>Vif x1 (R (.tuple #[(.int .i64 0), (.int .i64 1)]) w1) (Lnl a0 fun x2=>VLoop 2 [(.int .i64 0), (.int .i64 0)] w1 fun _ next5 n_3 x4 w2=>Bp .lss x4 x2 fun x6=>Vif x6 (Ias 1 a0 x4 fun x7=>Ld x7 w2 fun x8=>Bp .sub (.int .i64 20) x8 fun x9=>Bp .shl (.int .i64 1) x9 fun x10=>Bp .add n_3 x10 fun x11=>Bp .add x4 (.int .i64 1) fun x12=>KE [a0, x2] [a0, x2]<|next5 x11 x12 w2) (R (.tuple #[n_3, (.int .i64 0)]) w2))) (fun J13=>Lnl a0 fun x14=>Bp .gtr x14 (.int .i64 258) fun x15=>Vif x15 (KE [a0] [a0]<|J13 (.bool true) w) (Cl P F.lens_between #[a0, (.int .i64 0), (.int .i64 20)] w fun x16 w3=>Up .not x16 fun x17=>KE [a0] [a0]<|J13 x17 w3))
theorem Tie.lens_Share {a0 : Value} (h : Vcf.lens_Share Tryz.prog a0 w R) : Cl Tryz.prog F.lens_Share #[a0] w R :=
  cl_of_vc (n := 28) (rs := [(.tmp 2), (.tmp 3)]) (h := (.s .z (.s (.j [14] [0] .z (.i (.s .z .z) .z)) (.s .z (.s (.s .z (.b (.l [4, 17] [15, 16] (.s .z (.s (.i .z .z) (.s (.b (.s .z .z)) .z)))))) (.s .z .z)))))) (args := [a0]) (by kernel_rfl) Tryz.func201 rfl (by kernel_rfl) rfl rfl rfl (Eq.mp (by kernel_rfl) h)

def Vcf.slices_Contains_int_int (P : Program) (a0 a1 : Value) (w : World) (R : Value → World → Prop) : Prop :=
 Cl P F.slices_Index_int_int #[a0, a1] w fun x1 w1=>Bp .geq x1 (.int .i64 0) fun x2=>R x2 w1
theorem Tie.slices_Contains_int_int {a0 a1 : Value} (h : Vcf.slices_Contains_int_int Tryz.prog a0 a1 w R) : Cl Tryz.prog F.slices_Contains_int_int #[a0, a1] w R :=
  cl_of_vc (n := 9) (rs := [(.tmp 4)]) (h := (.s .z (.s .z .z))) (args := [a0, a1]) (by kernel_rfl) Tryz.func202 rfl (by kernel_rfl) rfl rfl rfl (Eq.mp (by kernel_rfl) h)

def Vcf.balerref12_Number (P : Program) (a0 : Value) (w : World) (R : Value → World → Prop) : Prop :=
 Bp .lss a0 (.int .i64 200) fun x1=>Vif x1 (R (.int .i64 2) w) (Bp .lss a0 (.int .i64 600) fun x2=>Vif x2 (R (.int .i64 3) w) (Bp .lss a0 (.int .i64 1200) fun x3=>Vif x3 (R (.int .i64 4) w) (Bp .lss a0 (.int .i64 2400) fun x4=>Vif x4 (R (.int .i64 5) w) (R (.int .i64 6) w))))
theorem Tie.balerref12_Number {a0 : Value} (h : Vcf.balerref12_Number Tryz.prog a0 w R) : Cl Tryz.prog F.balerref12_Number #[a0] w R :=
  cl_of_vc (n := 11) (rs := [(.tmp 2)]) (h := (.s .z (.s (.s .z (.i (.s .z .z) .z)) (.s (.s .z (.i (.s .z .z) .z)) (.s (.s .z (.i (.s .z .z) .z)) (.s (.s .z (.i (.s .z .z) .z)) (.s .z .z))))))) (args := [a0]) (by kernel_rfl) Tryz.func203 rfl (by kernel_rfl) rfl rfl rfl (Eq.mp (by kernel_rfl) h)

def Vcf.balerref08_count (P : Program) (a0 a1 : Value) (w : World) (R : Value → World → Prop) : Prop :=
 Lnl a0 fun x1=>VLoop 2 [(.int .i64 0), (.int .i64 0)] w fun _ next4 n_2 x3 w1=>Bp .lss x3 x1 fun x5=>Vif x5 (Ias 1 a0 x3 fun x6=>Ld x6 w1 fun x7=>Bp .eql a1 x7 fun x8=>Vif x8 (Bp .add n_2 (.int .i64 1) fun x9=>Bp .add x3 (.int .i64 1) fun x10=>KE [a1, a0, x1] [a1, a0, x1]<|next4 x9 x10 w1) (Bp .add x3 (.int .i64 1) fun x11=>KE [a1, a0, x1] [a1, a0, x1]<|next4 n_2 x11 w1)) (R n_2 w1)
theorem Tie.balerref08_count {a0 a1 : Value} (h : Vcf.balerref08_count Tryz.prog a0 a1 w R) : Cl Tryz.prog F.balerref08_count #[a0, a1] w R :=
  cl_of_vc (n := 21) (rs := [(.tmp 4)]) (h := (.s .z (.s .z (.s (.s .z (.b (.l [5, 10] [1, 8, 9] (.s .z (.s (.i .z .z) (.s (.b (.s .z (.s .z (.i .z .z)))) .z)))))) (.s .z .z))))) (args := [a0, a1]) (by kernel_rfl) Tryz.func204 rfl (by kernel_rfl) rfl rfl rfl (Eq.mp (by kernel_rfl) h)

def Vcf.balerref08_Cost (P : Program) (a0 a1 : Value) (w : World) (R : Value → World → Prop) : Prop :=
 Lnl a1 fun x1=>VLoop 2 [(.int .i64 0), (.int .i64 0)] w fun _ next4 n_2 x3 w1=>Bp .lss x3 x1 fun x5=>Vif x5 (Ias 1 a1 x3 fun x6=>Ld x6 w1 fun x7=>Cl P F.balerref08_count #[a0, x3] w1 fun x8 w2=>VLoop 2 [n_2, (.int .i64 0)] w2 fun _ next11 n_9 x10 w3=>Bp .lss x10 x8 fun x12=>Vif x12 (Bp .add n_9 x7 fun x13=>Cl P F.balerref08_most #[x13] w3 fun x14 w4=>Bp .add x10 (.int .i64 1) fun x15=>KE [a0, x7, a1, x1, x3, x8] [a0, x7, a1, x1, x3, x8]<|next11 x14 x15 w4) (Bp .add x3 (.int .i64 1) fun x16=>KE [a0, a1, x1] [a0, a1, x1]<|next4 n_9 x16 w3)) (R n_2 w1)
theorem Tie.balerref08_Cost {a0 a1 : Value} (h : Vcf.balerref08_Cost Tryz.prog a0 a1 w R) : Cl Tryz.prog F.balerref08_Cost #[a0, a1] w R :=
  cl_of_vc (n := 27) (rs := [(.tmp 4)]) (h := (.s .z (.s .z (.s (.s .z (.b (.l [5, 10] [0, 8, 9] (.s .z (.s (.i .z .z) (.s (.b (.s .z (.s .z (.b (.l [5, 18] [0, 7, 8, 9, 10, 17] (.s .z (.s (.i .z .z) (.s (.b .z) .z)))))))) .z)))))) (.s .z .z))))) (args := [a0, a1]) (by kernel_rfl) Tryz.func205 rfl (by kernel_rfl) rfl rfl rfl (Eq.mp (by kernel_rfl) h)

def Vcf.balerref09_Depths (P : Program) (a0 : Value) (w : World) (R : Value → World → Prop) : Prop :=
 Lnl a0 fun x1=>Lnl a0 fun x2=>VLoop 2 [(.slice none 0 0), (.int .i64 0)] w fun _ next5 l_3 x4 w1=>Bp .lss x4 x2 fun x6=>Vif x6 (Ias 1 a0 x4 fun x7=>Ld x7 w1 fun x8=>Bs P 69 1 #[(0, x4)] w1 fun x9 w2=>Bd P 285 #[(0, x8), (1, x4), (2, x9)] w2 fun x10=>Bs P 283 1 #[(0, x10)] w2 fun x11 w3=>Ap P #[283, 283] 283 #[l_3, x11] w3 fun x12 w4=>Bp .add x4 (.int .i64 1) fun x13=>KE [x1, a0, x2] [x1, a0, x2]<|next5 x12 x13 w4) (Ms P 69 x1 x1 w1 fun x14 w5=>VLoop 2 [l_3, x1] w5 fun _ next17 l_15 next_16 w6=>Lnl l_15 fun x18=>Bp .gtr x18 (.int .i64 1) fun x19=>Vif x19 (Cl P F.balerref09_least #[l_15] w6 fun x20 w7=>Ias 3 l_15 x20 fun x21=>LdA 3 x21 w7 fun x22=>New (zeroP P 285) 285 w7 fun x23 w8=>StA 3 x23 x22 w8 fun w9=>Cl P F.balerref09_without #[l_15, x20] w9 fun x24 w10=>Cl P F.balerref09_least #[x24] w10 fun x25 w11=>Ias 3 x24 x25 fun x26=>LdA 3 x26 w11 fun x27=>New (zeroP P 285) 285 w11 fun y_28 w12=>StA 3 y_28 x27 w12 fun w13=>Cl P F.balerref09_without #[x24, x25] w13 fun x29 w14=>Fo 2 x23 fun x30=>Ld x30 w14 fun x31=>Ap P #[69, 69] 69 #[(.slice none 0 0), x31] w14 fun x32 w15=>Fo 2 y_28 fun x33=>Ld x33 w15 fun x34=>Ap P #[69, 69] 69 #[x32, x34] w15 fun x35 w16=>Lnl x35 fun x36=>VLoop 1 [(.int .i64 0)] w16 fun _ next38 x37 w17=>Bp .lss x37 x36 fun x39=>Vif x39 (Ias 1 x35 x37 fun x40=>Ld x40 w17 fun x41=>Ias 1 x14 x41 fun x42=>Ld x42 w17 fun x43=>Bp .add x43 (.int .i64 1) fun x44=>Ias 1 x14 x41 fun x45=>St x45 x44 w17 fun w18=>Bp .add x37 (.int .i64 1) fun x46=>KE [x29, x14, next_16, x23, y_28, x35, x35, x36] [x29, x14, next_16, x23, y_28, x35, x35, x36]<|next38 x46 w18) (Fo 0 x23 fun x47=>Ld x47 w17 fun x48=>Fo 0 y_28 fun x49=>Ld x49 w17 fun x50=>Bp .add x48 x50 fun x51=>Bd P 285 #[(0, x51), (1, next_16), (2, x35)] w17 fun x52=>Bs P 283 1 #[(0, x52)] w17 fun x53 w19=>Ap P #[283, 283] 283 #[x29, x53] w19 fun x54 w20=>Bp .add next_16 (.int .i64 1) fun x55=>KE [x14] [x14]<|next17 x54 x55 w20)) (R x14 w6))
theorem Tie.balerref09_Depths {a0 : Value} (h : Vcf.balerref09_Depths Tryz.prog a0 w R) : Cl Tryz.prog F.balerref09_Depths #[a0] w R :=
  cl_of_vc (n := 93) (rs := [(.tmp 2)]) (h := (.s .z (.s .z (.s .z (.s (.s .z (.b (.l [4, 20] [3, 18, 19] (.s .z (.s (.i .z .z) (.s (.b (.s .z .z)) .z)))))) (.s .z (.s .z (.s (.b (.l [4, 8] [7] (.s (.s .z (.i .z .z)) (.b (.s .z (.s .z (.s .z (.s .z (.s .z (.s .z (.s .z (.s .z (.s .z (.s (.s .z (.b (.l [68] [4, 7, 8, 10, 12, 13, 66, 67] (.s .z (.s (.i .z .z) (.s (.b (.s .z .z)) .z)))))) (.s .z .z))))))))))))))) (.s .z .z))))))))) (args := [a0]) (by kernel_rfl) Tryz.func206 rfl (by kernel_rfl) rfl rfl rfl (Eq.mp (by kernel_rfl) h)

def Vcf.balerref09_May (P : Program) (a0 a1 a2 : Value) (w : World) (R : Value → World → Prop) : Prop :=
 Lnl a0 fun x1=>VLoop 1 [(.int .i64 0)] w fun _ next3 x2 w1=>Bp .lss x2 x1 fun x4=>Vif x4 (Ias 1 a0 x2 fun x5=>Ld x5 w1 fun x6=>VJoin 1 (fun _ x7 w2=>Vif x7 (R (.bool false) w2) (Bp .add x2 (.int .i64 1) fun x8=>KE [a1, a2, a0, x1] [a1, a2, a0, x1]<|next3 x8 w2)) (fun J9=>Bp .lss x6 a1 fun x10=>Vif x10 (KE [a1, a2, a0, x1, x2] [a1, a2, a0, x1, x2]<|J9 (.bool true) w1) (Bp .gtr x6 a2 fun x11=>KE [a1, a2, a0, x1, x2] [a1, a2, a0, x1, x2]<|J9 x11 w1))) (R (.bool true) w1)
theorem Tie.balerref09_May {a0 a1 a2 : Value} (h : Vcf.balerref09_May Tryz.prog a0 a1 a2 w R) : Cl Tryz.prog F.balerref09_May #[a0, a1, a2] w R :=
  cl_of_vc (n := 24) (rs := [(.tmp 6)]) (h := (.s .z (.s (.s .z (.b (.l [11] [1, 2, 9, 10] (.s .z (.s (.i .z .z) (.s (.b (.s .z (.j [22] [1, 2, 9, 10, 11] .z (.i (.s .z .z) .z)))) .z)))))) (.s .z .z)))) (args := [a0, a1, a2]) (by kernel_rfl) Tryz.func207 rfl (by kernel_rfl) rfl rfl rfl (Eq.mp (by kernel_rfl) h)

def Vcf.balerref09_Halved (P : Program) (a0 : Value) (w : World) (R : Value → World → Prop) : Prop :=
 Lnl a0 fun x1=>VLoop 2 [(.slice none 0 0), (.int .i64 0)] w fun _ next4 out_2 x3 w1=>Bp .lss x3 x1 fun x5=>Vif x5 (Ias 1 a0 x3 fun x6=>Ld x6 w1 fun x7=>VJoin 1 (fun _ x8 w2=>Bp .quo x8 (.int .i64 2) fun x9=>Bp .add x9 (.int .i64 1) fun x10=>Bs P 69 1 #[(0, x10)] w2 fun x11 w3=>Ap P #[69, 69] 69 #[out_2, x11] w3 fun x12 w4=>Bp .add x3 (.int .i64 1) fun x13=>KE [a0, x1] [a0, x1]<|next4 x12 x13 w4) (fun J14=>Bp .lss x7 (.int .i64 0) fun x15=>Vif x15 (KE [out_2, a0, x1, x3] [out_2, a0, x1, x3]<|J14 (.int .i64 0) w1) (KE [out_2, a0, x1, x3] [out_2, a0, x1, x3]<|J14 x7 w1))) (R out_2 w1)
theorem Tie.balerref09_Halved {a0 : Value} (h : Vcf.balerref09_Halved Tryz.prog a0 w R) : Cl Tryz.prog F.balerref09_Halved #[a0] w R :=
  cl_of_vc (n := 22) (rs := [(.tmp 2)]) (h := (.s .z (.s .z (.s (.s .z (.b (.l [3, 8] [6, 7] (.s .z (.s (.i .z .z) (.s (.b (.s .z (.j [5] [3, 6, 7, 8] (.s .z (.i .z .z)) .z))) .z)))))) (.s .z .z))))) (args := [a0]) (by kernel_rfl) Tryz.func208 rfl (by kernel_rfl) rfl rfl rfl (Eq.mp (by kernel_rfl) h)

def Vcf.tables_Number (P : Program) (a0 : Value) (w : World) (R : Value → World → Prop) : Prop :=
 LdA 4 (.pointer (some ⟨1, 0, none⟩)) w fun x1=>VLoop 2 [(.int .i64 2), (.int .i64 0)] w fun _ next4 t_2 x3 w1=>Bp .lss x3 (.int .i64 4) fun x5=>Vif x5 (Ixa 4 1 false x1 x3 fun x6=>Bp .geq a0 x6 fun x7=>Vif x7 (Bp .add t_2 (.int .i64 1) fun x8=>Bp .add x3 (.int .i64 1) fun x9=>KE [a0, x1] [a0, x1]<|next4 x8 x9 w1) (Bp .add x3 (.int .i64 1) fun x10=>KE [a0, x1] [a0, x1]<|next4 t_2 x10 w1)) (R t_2 w1)
theorem Tie.tables_Number {a0 : Value} (h : Vcf.tables_Number Tryz.prog a0 w R) : Cl Tryz.prog F.tables_Number #[a0] w R :=
  cl_of_vc (n := 17) (rs := [(.tmp 2)]) (h := (.s .z (.s .z (.s (.s .z (.b (.l [3, 7] [0, 6] (.s .z (.s (.i .z .z) (.s (.b (.s .z (.s .z (.i .z .z)))) .z)))))) (.s .z .z))))) (args := [a0]) (by kernel_rfl) Tryz.func227 rfl (by kernel_rfl) rfl rfl rfl (Eq.mp (by kernel_rfl) h)

def Vcf.tables_pick (P : Program) (a0 a1 : Value) (w : World) (R : Value → World → Prop) : Prop :=
 Lnl a1 fun x1=>VLoop 3 [(.int .i64 0), (.int .i64 1099511627776), (.int .i64 0)] w fun _ next5 best_2 least_3 x4 w1=>Bp .lss x4 x1 fun x6=>Vif x6 (Ias 1 a1 x4 fun x7=>Ld x7 w1 fun x8=>Cl P F.freq_Cost #[a0, x8] w1 fun x9 w2=>Ex x9 0 fun x10=>Ex x9 1 fun x11=>Bp .lss x10 least_3 fun x12=>Vif x12 (Bp .add x4 (.int .i64 1) fun x13=>KE [a0, a1, x1] [a0, a1, x1]<|next5 x4 x10 x13 w2) (Bp .add x4 (.int .i64 1) fun x14=>KE [a0, a1, x1] [a0, a1, x1]<|next5 best_2 least_3 x14 w2)) (R best_2 w1)
theorem Tie.tables_pick {a0 a1 : Value} (h : Vcf.tables_pick Tryz.prog a0 a1 w R) : Cl Tryz.prog F.tables_pick #[a0, a1] w R :=
  cl_of_vc (n := 31) (rs := [(.tmp 4)]) (h := (.s .z (.s .z (.s (.s .z (.b (.l [5, 6, 13] [0, 11, 12] (.s .z (.s (.i .z .z) (.s (.b (.s .z (.s .z (.s .z (.i .z .z))))) .z)))))) (.s .z .z))))) (args := [a0, a1]) (by kernel_rfl) Tryz.func228 rfl (by kernel_rfl) rfl rfl rfl (Eq.mp (by kernel_rfl) h)

def Vcf.freq_Add (P : Program) (a0 a1 : Value) (w : World) (R : Value → World → Prop) : Prop :=
 VJoin 1 (fun _ x1 w1=>Vif x1 (R (.tuple #[(.slice none 0 0), (.int .i64 1)]) w1) (Lnl a0 fun x2=>Ms P 69 x2 x2 w1 fun x3 w2=>Lnl x3 fun x4=>VLoop 1 [(.int .i64 0)] w2 fun _ next6 x5 w3=>Bp .lss x5 x4 fun x7=>Vif x7 (Dr w3 fun w4=>Ias 1 a0 x5 fun x8=>Ld x8 w4 fun x9=>Ias 1 a1 x5 fun x11=>Ld x11 w4 fun x12=>Cl P F.freq_together #[x9, x12] w4 fun x14 w5=>Ias 1 x3 x5 fun x15=>St x15 x14 w5 fun w6=>Bp .add x5 (.int .i64 1) fun x16=>KE [a0, a1, x3, x4] [a0, a1, x3, x4]<|next6 x16 w6) (R (.tuple #[x3, (.int .i64 0)]) w3))) (fun J17=>Lnl a0 fun x18=>Lnl a1 fun x19=>Bp .neq x18 x19 fun x20=>Vif x20 (KE [a0, a1] [a0, a1]<|J17 (.bool true) w) (Cl P F.freq_all #[a0] w fun x21 w7=>Up .not x21 fun x22=>Vif x22 (KE [a0, a1] [a0, a1]<|J17 (.bool true) w7) (Cl P F.freq_all #[a1] w7 fun x23 w8=>Up .not x23 fun x24=>KE [a0, a1] [a0, a1]<|J17 x24 w8)))
theorem Tie.freq_Add {a0 a1 : Value} (h : Vcf.freq_Add Tryz.prog a0 a1 w R) : Cl Tryz.prog F.freq_Add #[a0, a1] w R :=
  cl_of_vc (n := 45) (rs := [(.tmp 4), (.tmp 5)]) (h := (.s .z (.s (.j [22] [0, 1] .z (.i (.s .z .z) .z)) (.s .z (.s (.s .z (.b (.l [28] [0, 1, 6, 27] (.s .z (.s (.i .z .z) (.s (.b (.s .z (.r (.staged [0, 0, 0, 0, 12, 28, 0, 0, 192, 448, 1020, 2047, 4095])))) .z)))))) (.s .z .z)))))) (args := [a0, a1]) (by kernel_rfl) Tryz.func229 rfl (by kernel_rfl) rfl rfl rfl (Eq.mp (by kernel_rfl) h)

def Vcf.lens_Of (P : Program) (a0 : Value) (w : World) (R : Value → World → Prop) : Prop :=
 VJoin 1 (fun _ x1 w1=>Vif x1 (R (.tuple #[(.slice none 0 0), (.int .i64 1)]) w1) (Lnl a0 fun x2=>Ms P 69 x2 x2 w1 fun x3 w2=>Lnl a0 fun x4=>VLoop 1 [(.int .i64 0)] w2 fun _ next6 x5 w3=>Bp .lss x5 x4 fun x7=>Vif x7 (Ias 1 a0 x5 fun x8=>Ld x8 w3 fun x9=>Bmax P #[3, 3] 3 #[x9, (.int .i64 1)] w3 fun x10=>Ias 1 x3 x5 fun x11=>St x11 x10 w3 fun w4=>Bp .add x5 (.int .i64 1) fun x12=>KE [x3, a0, x4] [x3, a0, x4]<|next6 x12 w4) (VLoop 1 [x3] w3 fun _ next14 weights_13 w5=>Cl P F.lens_depths #[weights_13] w5 fun x15 w6=>Cl P F.lens_Longest #[x15] w6 fun x16 w7=>Bp .leq x16 (.int .i64 20) fun x17=>Vif x17 (Cl P F.slices_Clone_int_int #[x15] w7 fun x18 w8=>R (.tuple #[x18, (.int .i64 0)]) w8) (Cl P F.lens_Halved #[weights_13] w7 fun x19 w9=>KE [] []<|next14 x19 w9)))) (fun J20=>Lnl a0 fun x21=>Bp .lss x21 (.int .i64 3) fun x22=>Vif x22 (KE [a0] [a0]<|J20 (.bool true) w) (Lnl a0 fun x23=>Bp .gtr x23 (.int .i64 258) fun x24=>Vif x24 (KE [a0] [a0]<|J20 (.bool true) w) (Cl P F.lens_between #[a0, (.int .i64 0), (.int .i64 1099511627776)] w fun x25 w10=>Up .not x25 fun x26=>KE [a0] [a0]<|J20 x26 w10)))
theorem Tie.lens_Of {a0 : Value} (h : Vcf.lens_Of Tryz.prog a0 w R) : Cl Tryz.prog F.lens_Of #[a0] w R :=
  cl_of_vc (n := 46) (rs := [(.tmp 2), (.tmp 3)]) (h := (.s .z (.s (.j [20] [0] .z (.i (.s .z .z) .z)) (.s .z (.s (.s .z (.b (.l [26] [4, 24, 25] (.s .z (.s (.i .z .z) (.s (.b (.s .z .z)) .z)))))) (.b (.l [4] [] (.b (.s .z (.s (.s .z (.i (.s .z .z) .z)) .z)))))))))) (args := [a0]) (by kernel_rfl) Tryz.func230 rfl (by kernel_rfl) rfl rfl rfl (Eq.mp (by kernel_rfl) h)

def Vcf.slices_IndexFunc_int_int (P : Program) (a0 a1 : Value) (w : World) (R : Value → World → Prop) : Prop :=
 Lnl a0 fun x1=>VLoop 1 [(.int .i64 0)] w fun _ next3 x2 w1=>Bp .lss x2 x1 fun x4=>Vif x4 (Ias 1 a0 x2 fun x5=>Ld x5 w1 fun x6=>Inv P (do let d ← Deferred.ofValue a1 #[x6]; invoke d.target d.args) w1 fun x7 w2=>Vif x7 (R x2 w2) (Bp .add x2 (.int .i64 1) fun x8=>KE [a0, a1, x1] [a0, a1, x1]<|next3 x8 w2)) (R (.int .i64 (-1)) w1)
theorem Tie.slices_IndexFunc_int_int {a0 a1 : Value} (h : Vcf.slices_IndexFunc_int_int Tryz.prog a0 a1 w R) : Cl Tryz.prog F.slices_IndexFunc_int_int #[a0, a1] w R :=
  cl_of_vc (n := 19) (rs := [(.tmp 4)]) (h := (.s .z (.s (.s .z (.b (.l [8] [0, 1, 7] (.s .z (.s (.i .z .z) (.s (.b (.s .z (.s .z (.i (.s .z .z) .z)))) .z)))))) (.s .z .z)))) (args := [a0, a1]) (by kernel_rfl) Tryz.func231 rfl (by kernel_rfl) rfl rfl rfl (Eq.mp (by kernel_rfl) h)

def Vcf.picks_order_touch (P : Program) (a0 a1 : Value) (w : World) (R : Value → World → Prop) : Prop :=
 Nc a0<|Iaa 6 1 a0 a1 fun x1=>Ld x1 w fun x2=>VLoop 1 [a1] w fun _ next4 k_3 w1=>Bp .gtr k_3 (.int .i64 0) fun x5=>Vif x5 (Dr w1 fun w2=>Bp .sub k_3 (.int .i64 1) fun x6=>Nc a0<|Iaa 6 1 a0 x6 fun x7=>Ld x7 w2 fun x8=>Nc a0<|Iaa 6 1 a0 k_3 fun x10=>St x10 x8 w2 fun w3=>Bp .sub k_3 (.int .i64 1) fun x11=>KE [a0, x2] [a0, x2]<|next4 x11 w3) (Nc a0<|Iaa 6 1 a0 (.int .i64 0) fun x12=>St x12 x2 w1 fun w4=>R x2 w4)
theorem Tie.picks_order_touch {a0 a1 : Value} (h : Vcf.picks_order_touch Tryz.prog a0 a1 w R) : Cl Tryz.prog F.picks_order_touch #[a0, a1] w R :=
  cl_of_vc (n := 32) (rs := [(.tmp 4)]) (h := (.s .z (.s .z (.s (.s .z (.b (.l [6] [0, 5] (.s (.s .z (.i .z .z)) (.s (.b (.r (.staged [0, 0, 0, 0, 8, 4, 60, 124, 1, 511, 1023]))) .z))))) (.s .z (.s .z .z)))))) (args := [a0, a1]) (by kernel_rfl) Tryz.func232 rfl (by kernel_rfl) rfl rfl rfl (Eq.mp (by kernel_rfl) h)

def Vcf.freq_all_1 (P : Program) (a0 : Value) (w : World) (R : Value → World → Prop) : Prop :=
 Cl P F.freq_may #[a0] w fun x1 w1=>Up .not x1 fun x2=>R x2 w1
theorem Tie.freq_all_1 {a0 : Value} (h : Vcf.freq_all_1 Tryz.prog a0 w R) : Cl Tryz.prog F.freq_all_1 #[a0] w R :=
  cl_of_vc (n := 6) (rs := [(.tmp 2)]) (h := (.s .z (.s .z .z))) (args := [a0]) (by kernel_rfl) Tryz.func233 rfl (by kernel_rfl) rfl rfl rfl (Eq.mp (by kernel_rfl) h)

def Vcf.freq_may (P : Program) (a0 : Value) (w : World) (R : Value → World → Prop) : Prop :=
 Bp .geq a0 (.int .i64 0) fun x1=>Vif x1 (Bp .leq a0 (.int .i64 1099511627776) fun x2=>R x2 w) (R (.bool false) w)
theorem Tie.freq_may {a0 : Value} (h : Vcf.freq_may Tryz.prog a0 w R) : Cl Tryz.prog F.freq_may #[a0] w R :=
  cl_of_vc (n := 9) (rs := [(.tmp 2)]) (h := (.s .z (.s .z .z))) (args := [a0]) (by kernel_rfl) Tryz.func234 rfl (by kernel_rfl) rfl rfl rfl (Eq.mp (by kernel_rfl) h)

def Vcf.lens_between (P : Program) (a0 a1 a2 : Value) (w : World) (R : Value → World → Prop) : Prop :=
 New a1 3 w fun low_1 w1=>New a2 3 w1 fun high_2 w2=>Mf P (.func 255) #[] #[low_1, high_2] w2 fun x3=>Cl P F.slices_ContainsFunc_int_int #[a0, x3] w2 fun x4 w3=>Up .not x4 fun x5=>R x5 w3
theorem Tie.lens_between {a0 a1 a2 : Value} (h : Vcf.lens_between Tryz.prog a0 a1 a2 w R) : Cl Tryz.prog F.lens_between #[a0, a1, a2] w R :=
  cl_of_vc (n := 11) (rs := [(.tmp 6)]) (h := (.s .z (.s .z .z))) (args := [a0, a1, a2]) (by kernel_rfl) Tryz.func235 rfl (by kernel_rfl) rfl rfl rfl (Eq.mp (by kernel_rfl) h)

def Vcf.balerref08_most (P : Program) (a0 : Value) (w : World) (R : Value → World → Prop) : Prop :=
 Bp .gtr a0 (.int .i64 1099511627776) fun x1=>Vif x1 (R (.int .i64 1099511627776) w) (R a0 w)
theorem Tie.balerref08_most {a0 : Value} (h : Vcf.balerref08_most Tryz.prog a0 w R) : Cl Tryz.prog F.balerref08_most #[a0] w R :=
  cl_of_vc (n := 6) (rs := [(.tmp 2)]) (h := (.s .z (.s (.s .z (.i (.s .z .z) .z)) (.s .z .z)))) (args := [a0]) (by kernel_rfl) Tryz.func236 rfl (by kernel_rfl) rfl rfl rfl (Eq.mp (by kernel_rfl) h)

def Vcf.balerref09_least (P : Program) (a0 : Value) (w : World) (R : Value → World → Prop) : Prop :=
 Lnl a0 fun x1=>VLoop 2 [(.int .i64 0), (.int .i64 0)] w fun _ next4 at_2 x3 w1=>Bp .lss x3 x1 fun x5=>Vif x5 (Ias 3 a0 x3 fun x6=>LdA 3 x6 w1 fun x7=>New (zeroP P 285) 285 w1 fun t_8 w2=>StA 3 t_8 x7 w2 fun w3=>Dr w3 fun w4=>LdA 3 t_8 w4 fun x9=>Ias 3 a0 at_2 fun x11=>LdA 3 x11 w4 fun x12=>Cl P F.balerref09_less #[x9, x12] w4 fun x14 w5=>Vif x14 (Bp .add x3 (.int .i64 1) fun x15=>KE [a0, a0, x1] [a0, a0, x1]<|next4 x3 x15 w5) (Bp .add x3 (.int .i64 1) fun x16=>KE [a0, a0, x1] [a0, a0, x1]<|next4 at_2 x16 w5)) (R at_2 w1)
theorem Tie.balerref09_least {a0 : Value} (h : Vcf.balerref09_least Tryz.prog a0 w R) : Cl Tryz.prog F.balerref09_least #[a0] w R :=
  cl_of_vc (n := 22) (rs := [(.tmp 2)]) (h := (.s .z (.s .z (.s (.s .z (.b (.l [3, 8] [0, 6, 7] (.s .z (.s (.i .z .z) (.s (.b (.s .z (.s (.r (.staged [0, 0, 0, 6, 14, 31])) (.i .z .z)))) .z)))))) (.s .z .z))))) (args := [a0]) (by kernel_rfl) Tryz.func237 rfl (by kernel_rfl) rfl rfl rfl (Eq.mp (by kernel_rfl) h)

def Vcf.balerref09_without (P : Program) (a0 a1 : Value) (w : World) (R : Value → World → Prop) : Prop :=
 Lnl a0 fun x1=>VLoop 2 [(.slice none 0 0), (.int .i64 0)] w fun _ next4 out_2 x3 w1=>Bp .lss x3 x1 fun x5=>Vif x5 (Ias 3 a0 x3 fun x6=>LdA 3 x6 w1 fun x7=>New (zeroP P 285) 285 w1 fun t_8 w2=>StA 3 t_8 x7 w2 fun w3=>Bp .neq x3 a1 fun x9=>Vif x9 (LdA 3 t_8 w3 fun x10=>Bs P 283 1 #[(0, x10)] w3 fun x11 w4=>Ap P #[283, 283] 283 #[out_2, x11] w4 fun x12 w5=>Bp .add x3 (.int .i64 1) fun x13=>KE [a1, a0, x1] [a1, a0, x1]<|next4 x12 x13 w5) (Bp .add x3 (.int .i64 1) fun x14=>KE [a1, a0, x1] [a1, a0, x1]<|next4 out_2 x14 w3)) (R out_2 w1)
theorem Tie.balerref09_without {a0 a1 : Value} (h : Vcf.balerref09_without Tryz.prog a0 a1 w R) : Cl Tryz.prog F.balerref09_without #[a0, a1] w R :=
  cl_of_vc (n := 24) (rs := [(.tmp 4)]) (h := (.s .z (.s .z (.s (.s .z (.b (.l [5, 10] [1, 8, 9] (.s .z (.s (.i .z .z) (.s (.b (.s .z (.s .z (.i .z .z)))) .z)))))) (.s .z .z))))) (args := [a0, a1]) (by kernel_rfl) Tryz.func238 rfl (by kernel_rfl) rfl rfl rfl (Eq.mp (by kernel_rfl) h)

def Vcf.lens_depths (P : Program) (a0 : Value) (w : World) (R : Value → World → Prop) : Prop :=
 Cl P F.lens_treesOf #[a0] w fun x1 w1=>Lnl a0 fun x2=>Bp .sub x2 (.int .i64 1) fun x3=>VLoop 1 [(.int .i64 0)] w1 fun _ next5 x4 w2=>Bp .lss x4 x3 fun x6=>Vif x6 (Cl P F.lens_trees_least #[x1] w2 fun x7 w3=>Cl P F.lens_trees_least #[x1] w3 fun x8 w4=>Cl P F.lens_trees_join #[x1, x7, x8] w4 fun x9 w5=>Bp .add x4 (.int .i64 1) fun x10=>KE [a0, x1, x3] [a0, x1, x3]<|next5 x10 w5) (Nc x1<|Fo 0 x1 fun x11=>Ld x11 w2 fun x12=>Lnl x12 fun x13=>Ms P 69 x13 x13 w2 fun x14 w6=>Lnl x14 fun x15=>Bp .sub x15 (.int .i64 2) fun x16=>VLoop 1 [x16] w6 fun _ next18 i_17 w7=>Bp .geq i_17 (.int .i64 0) fun x19=>Vif x19 (Nc x1<|Fo 1 x1 fun x20=>Ld x20 w7 fun x21=>Ias 1 x21 i_17 fun x22=>Ld x22 w7 fun x23=>Ias 1 x14 x23 fun x24=>Ld x24 w7 fun x25=>Bp .add x25 (.int .i64 1) fun x26=>Ias 1 x14 i_17 fun x27=>St x27 x26 w7 fun w8=>Bp .sub i_17 (.int .i64 1) fun x28=>KE [a0, x1, x14] [a0, x1, x14]<|next18 x28 w8) (Lnl a0 fun x29=>Ssl 1 x14 none (some x29) fun x30=>R x30 w7))
theorem Tie.lens_depths {a0 : Value} (h : Vcf.lens_depths Tryz.prog a0 w R) : Cl Tryz.prog F.lens_depths #[a0] w R :=
  cl_of_vc (n := 53) (rs := [(.tmp 2)]) (h := (.s .z (.s .z (.s (.s .z (.b (.l [12] [0, 3, 11] (.s .z (.s (.i .z .z) (.s (.b (.s .z .z)) .z)))))) (.s .z (.s (.s .z (.b (.l [6] [0, 3, 5] (.s (.s .z (.i .z .z)) (.s (.b .z) .z))))) (.s .z .z))))))) (args := [a0]) (by kernel_rfl) Tryz.func252 rfl (by kernel_rfl) rfl rfl rfl (Eq.mp (by kernel_rfl) h)

def Vcf.lens_Longest (P : Program) (a0 : Value) (w : World) (R : Value → World → Prop) : Prop :=
 Lnl a0 fun x1=>VLoop 2 [(.int .i64 0), (.int .i64 0)] w fun _ next4 n_2 x3 w1=>Bp .lss x3 x1 fun x5=>Vif x5 (Ias 1 a0 x3 fun x6=>Ld x6 w1 fun x7=>Bmax P #[3, 3] 3 #[n_2, x7] w1 fun x8=>Bp .add x3 (.int .i64 1) fun x9=>KE [a0, x1] [a0, x1]<|next4 x8 x9 w1) (R n_2 w1)
theorem Tie.lens_Longest {a0 : Value} (h : Vcf.lens_Longest Tryz.prog a0 w R) : Cl Tryz.prog F.lens_Longest #[a0] w R :=
  cl_of_vc (n := 17) (rs := [(.tmp 2)]) (h := (.s .z (.s .z (.s (.s .z (.b (.l [3, 8] [6, 7] (.s .z (.s (.i .z .z) (.s (.b (.s .z .z)) .z)))))) (.s .z .z))))) (args := [a0]) (by kernel_rfl) Tryz.func253 rfl (by kernel_rfl) rfl rfl rfl (Eq.mp (by kernel_rfl) h)

def Vcf.lens_Halved (P : Program) (a0 : Value) (w : World) (R : Value → World → Prop) : Prop :=
 Lnl a0 fun x1=>Ms P 69 x1 x1 w fun x2 w1=>Lnl a0 fun x3=>VLoop 1 [(.int .i64 0)] w1 fun _ next5 x4 w2=>Bp .lss x4 x3 fun x6=>Vif x6 (Ias 1 a0 x4 fun x7=>Ld x7 w2 fun x8=>Bmax P #[3, 3] 3 #[x8, (.int .i64 0)] w2 fun x9=>Bp .quo x9 (.int .i64 2) fun x10=>Bp .add x10 (.int .i64 1) fun x11=>Ias 1 x2 x4 fun x12=>St x12 x11 w2 fun w3=>Bp .add x4 (.int .i64 1) fun x13=>KE [x2, a0, x3] [x2, a0, x3]<|next5 x13 w3) (R x2 w2)
theorem Tie.lens_Halved {a0 : Value} (h : Vcf.lens_Halved Tryz.prog a0 w R) : Cl Tryz.prog F.lens_Halved #[a0] w R :=
  cl_of_vc (n := 25) (rs := [(.tmp 2)]) (h := (.s .z (.s .z (.s (.s .z (.b (.l [11] [3, 9, 10] (.s .z (.s (.i .z .z) (.s (.b (.s .z .z)) .z)))))) (.s .z .z))))) (args := [a0]) (by kernel_rfl) Tryz.func254 rfl (by kernel_rfl) rfl rfl rfl (Eq.mp (by kernel_rfl) h)

def Vcf.lens_between_1 (P : Program) (a0 a1 a2 : Value) (w : World) (R : Value → World → Prop) : Prop :=
 Ld a1 w fun x1=>Bp .lss a0 x1 fun x2=>Vif x2 (R (.bool true) w) (Ld a2 w fun x3=>Bp .gtr a0 x3 fun x4=>R x4 w)
theorem Tie.lens_between_1 {a0 a1 a2 : Value} (h : Vcf.lens_between_1 Tryz.prog a0 a1 a2 w R) : Cl Tryz.prog F.lens_between_1 #[a0, a1, a2] w R :=
  cl_of_vc (n := 13) (rs := [(.tmp 4)]) (h := (.s .z (.s .z .z))) (args := [a0, a1, a2]) (by kernel_rfl) Tryz.func255 rfl (by kernel_rfl) rfl rfl rfl (Eq.mp (by kernel_rfl) h)

def Vcf.balerref09_less (P : Program) (a0 a1 : Value) (w : World) (R : Value → World → Prop) : Prop :=
 New a0 285 w fun a_1 w1=>New a1 285 w1 fun b_2 w2=>Fo 0 a_1 fun x3=>Ld x3 w2 fun x4=>Fo 0 b_2 fun x5=>Ld x5 w2 fun x6=>Bp .lss x4 x6 fun x7=>Vif x7 (R (.bool true) w2) (Fo 0 a_1 fun x8=>Ld x8 w2 fun x9=>Fo 0 b_2 fun x10=>Ld x10 w2 fun x11=>Bp .eql x9 x11 fun x12=>Vif x12 (Fo 1 a_1 fun x13=>Ld x13 w2 fun x14=>Fo 1 b_2 fun x15=>Ld x15 w2 fun x16=>Bp .lss x14 x16 fun x17=>R x17 w2) (R (.bool false) w2))
theorem Tie.balerref09_less {a0 a1 : Value} (h : Vcf.balerref09_less Tryz.prog a0 a1 w R) : Cl Tryz.prog F.balerref09_less #[a0, a1] w R :=
  cl_of_vc (n := 24) (rs := [(.tmp 4)]) (h := (.s .z (.s .z .z))) (args := [a0, a1]) (by kernel_rfl) Tryz.func256 rfl (by kernel_rfl) rfl rfl rfl (Eq.mp (by kernel_rfl) h)

def Vcf.lens_treesOf (P : Program) (a0 : Value) (w : World) (R : Value → World → Prop) : Prop :=
 New a0 69 w fun weights_1 w1=>Dr w1 fun w2=>Ld weights_1 w2 fun x2=>Cl P F.slices_Clone_int_int #[x2] w2 fun x4 w3=>Ld weights_1 w3 fun x5=>Rk (fun w K=>Ld weights_1 w fun x6=>K x6) x5 w2<|Lnl x5 fun x8=>Rk (fun w K=>Lnl x5 fun x9=>K x9) x8 w2<|Bd P 316 #[(0, x4), (3, x8)] w3 fun x11=>New x11 316 w3 fun x13 w4=>Ld weights_1 w4 fun x14=>Lnl x14 fun x15=>VLoop 1 [(.int .i64 0)] w4 fun _ next17 x16 w5=>Bp .lss x16 x15 fun x18=>Vif x18 (Nc x13<|Fo 2 x13 fun x19=>Ld x19 w5 fun x20=>Bs P 69 1 #[(0, x16)] w5 fun x21 w6=>Ap P #[69, 69] 69 #[x20, x21] w6 fun x22 w7=>Nc x13<|Fo 2 x13 fun x23=>St x23 x22 w7 fun w8=>Nc x13<|Fo 1 x13 fun x24=>Ld x24 w8 fun x25=>Bs P 69 1 #[(0, (.int .i64 (-1)))] w8 fun x26 w9=>Ap P #[69, 69] 69 #[x25, x26] w9 fun x27 w10=>Nc x13<|Fo 1 x13 fun x28=>St x28 x27 w10 fun w11=>Bp .add x16 (.int .i64 1) fun x29=>KE [weights_1, x13, x15] [weights_1, x13, x15]<|next17 x29 w11) (Nc x13<|Fo 2 x13 fun x30=>Ld x30 w5 fun x31=>Mf P (.func 279) #[] #[weights_1] w5 fun x32=>Cl P F.slices_SortStableFunc_int_int #[x31, x32] w5 fun x33 w12=>R x13 w12)
theorem Tie.lens_treesOf {a0 : Value} (h : Vcf.lens_treesOf Tryz.prog a0 w R) : Cl Tryz.prog F.lens_treesOf #[a0] w R :=
  cl_of_vc (n := 43) (rs := [(.tmp 2)]) (h := (.s .z (.s (.r (.staged [0, 1, 0, 4, 15, 31, 63])) (.s (.s .z (.b (.l [13] [1, 3, 12] (.s .z (.s (.i .z .z) (.s (.b (.s .z (.s .z .z))) .z)))))) (.s .z (.s .z .z)))))) (args := [a0]) (by kernel_rfl) Tryz.func270 rfl (by kernel_rfl) rfl rfl rfl (Eq.mp (by kernel_rfl) h)

def Vcf.lens_trees_least (P : Program) (a0 : Value) (w : World) (R : Value → World → Prop) : Prop :=
 VJoin 1 (fun _ x1 w1=>Vif x1 (Nc a0<|Fo 2 a0 fun x2=>Ld x2 w1 fun x3=>Ias 1 x3 (.int .i64 0) fun x4=>Ld x4 w1 fun x5=>Nc a0<|Fo 2 a0 fun x6=>Ld x6 w1 fun x7=>Ssl 1 x7 (some (.int .i64 1)) none fun x8=>Nc a0<|Fo 2 a0 fun x9=>St x9 x8 w1 fun w2=>R x5 w2) (Nc a0<|Fo 3 a0 fun x10=>Ld x10 w1 fun x11=>Bp .add x11 (.int .i64 1) fun x12=>Nc a0<|Fo 3 a0 fun x13=>St x13 x12 w1 fun w3=>Nc a0<|Fo 3 a0 fun x14=>Ld x14 w3 fun x15=>Bp .sub x15 (.int .i64 1) fun x16=>R x16 w3)) (fun J17=>Dr w fun w4=>Nc a0<|Fo 3 a0 fun x18=>Ld x18 w4 fun x19=>Nc a0<|Fo 0 a0 fun x21=>Ld x21 w4 fun x22=>Lnl x22 fun x24=>Bp .eql x19 x24 fun x26=>Vif x26 (KE [a0] [a0]<|J17 (.bool true) w4) (Nc a0<|Fo 2 a0 fun x27=>Ld x27 w4 fun x28=>Lnl x28 fun x30=>Bp .gtr x30 (.int .i64 0) fun x32=>Vif x32 (Nc a0<|Fo 0 a0 fun x33=>Ld x33 w4 fun x34=>Nc a0<|Fo 2 a0 fun x36=>Ld x36 w4 fun x37=>Ias 1 x37 (.int .i64 0) fun x39=>Ld x39 w4 fun x40=>Ias 1 x34 x40 fun x42=>Ld x42 w4 fun x43=>Nc a0<|Fo 0 a0 fun x45=>Ld x45 w4 fun x46=>Nc a0<|Fo 3 a0 fun x48=>Ld x48 w4 fun x49=>Ias 1 x46 x49 fun x51=>Ld x51 w4 fun x52=>Bp .leq x43 x52 fun x54=>KE [a0] [a0]<|J17 x54 w4) (KE [a0] [a0]<|J17 (.bool false) w4)))
theorem Tie.lens_trees_least {a0 : Value} (h : Vcf.lens_trees_least Tryz.prog a0 w R) : Cl Tryz.prog F.lens_trees_least #[a0] w R :=
  cl_of_vc (n := 74) (rs := [(.tmp 2)]) (h := (.s .z (.s (.j [46] [0] (.r (.staged [0, 1, 3, 7, 0, 16, 48, 112, 240, 511, 1023, 2047, 4095, 8191, 16383, 32767, 65535, 131071, 262143, 524287, 1048575, 2097151, 262143, 4456447, 12845055, 29622271, 63176703, 130285567, 268435455, 536870911, 262143, 1074003967, 3221487615, 7516454911, 262143, 17180131327, 51539869695, 120259346431, 273804427263, 548682334207, 1099511627775, 2199023255551, 4398046511103])) (.i (.s .z (.s .z (.s .z .z))) .z)) (.s .z (.s .z .z))))) (args := [a0]) (by kernel_rfl) Tryz.func271 rfl (by kernel_rfl) rfl rfl rfl (Eq.mp (by kernel_rfl) h)

def Vcf.lens_trees_join (P : Program) (a0 a1 a2 : Value) (w : World) (R : Value → World → Prop) : Prop :=
 Dr w fun w1=>Nc a0<|Fo 1 a0 fun x1=>Ld x1 w1 fun x2=>Nc a0<|Fo 0 a0 fun x4=>Ld x4 w1 fun x5=>Lnl x5 fun x7=>Ias 1 x2 a1 fun x9=>St x9 x7 w1 fun w2=>Dr w2 fun w3=>Nc a0<|Fo 1 a0 fun x10=>Ld x10 w3 fun x11=>Nc a0<|Fo 0 a0 fun x13=>Ld x13 w3 fun x14=>Lnl x14 fun x16=>Ias 1 x11 a2 fun x18=>St x18 x16 w3 fun w4=>Dr w4 fun w5=>Nc a0<|Fo 0 a0 fun x19=>Ld x19 w5 fun x20=>Nc a0<|Fo 0 a0 fun x22=>Ld x22 w5 fun x23=>Ias 1 x23 a1 fun x25=>Ld x25 w5 fun x26=>Nc a0<|Fo 0 a0 fun x28=>Ld x28 w5 fun x29=>Ias 1 x29 a2 fun x31=>Ld x31 w5 fun x32=>Bp .add x26 x32 fun x34=>Bs P 69 1 #[(0, x34)] w5 fun x35 w6=>Rk (fun w K=>Ld x19 w fun x21=>K x21) x20 w6<|Ap P #[69, 69] 69 #[x20, x35] w6 fun x36 w7=>Nc a0<|Fo 0 a0 fun x37=>St x37 x36 w7 fun w8=>Nc a0<|Fo 1 a0 fun x38=>Ld x38 w8 fun x39=>Bs P 69 1 #[(0, (.int .i64 (-1)))] w8 fun x40 w9=>Ap P #[69, 69] 69 #[x39, x40] w9 fun x41 w10=>Nc a0<|Fo 1 a0 fun x42=>St x42 x41 w10 fun w11=>R (.tuple #[]) w11
theorem Tie.lens_trees_join {a0 a1 a2 : Value} (h : Vcf.lens_trees_join Tryz.prog a0 a1 a2 w R) : Cl Tryz.prog F.lens_trees_join #[a0, a1, a2] w R :=
  cl_of_vc (n := 61) (rs := []) (h := (.s (.r (.staged [0, 1, 3, 7, 0, 0, 32, 96, 224, 480, 1023, 2047])) (.s (.r (.staged [0, 1, 3, 7, 0, 0, 32, 96, 224, 480, 1023, 2047])) (.s (.r (.staged [0, 0, 2, 6, 14, 0, 32, 96, 224, 0, 992, 2016, 0, 4096, 12288, 28672, 0, 126976, 258048, 524256, 1048544, 2097150, 4194303, 8388607, 16777215])) .z)))) (args := [a0, a1, a2]) (by kernel_rfl) Tryz.func272 rfl (by kernel_rfl) rfl rfl rfl (Eq.mp (by kernel_rfl) h)

def Vcf.slices_SortStableFunc_int_int (P : Program) (a0 a1 : Value) (w : World) (R : Value → World → Prop) : Prop :=
 Lnl a0 fun x1=>Cl P F.slices_stableCmpFunc_int #[a0, x1, a1] w fun x2 w1=>R (.tuple #[]) w1
theorem Tie.slices_SortStableFunc_int_int {a0 a1 : Value} (h : Vcf.slices_SortStableFunc_int_int Tryz.prog a0 a1 w R) : Cl Tryz.prog F.slices_SortStableFunc_int_int #[a0, a1] w R :=
  cl_of_vc (n := 9) (rs := []) (h := .z) (args := [a0, a1]) (by kernel_rfl) Tryz.func278 rfl (by kernel_rfl) rfl rfl rfl (Eq.mp (by kernel_rfl) h)

def Vcf.lens_treesOf_1 (P : Program) (a0 a1 a2 : Value) (w : World) (R : Value → World → Prop) : Prop :=
 Dr w fun w1=>Ld a2 w1 fun x1=>Ias 1 x1 a0 fun x3=>Ld x3 w1 fun x4=>Ld a2 w1 fun x6=>Ias 1 x6 a1 fun x8=>Ld x8 w1 fun x9=>Cl P F.cmp_Compare_int #[x4, x9] w1 fun x11 w2=>R x11 w2
theorem Tie.lens_treesOf_1 {a0 a1 a2 : Value} (h : Vcf.lens_treesOf_1 Tryz.prog a0 a1 a2 w R) : Cl Tryz.prog F.lens_treesOf_1 #[a0, a1, a2] w R :=
  cl_of_vc (n := 15) (rs := [(.tmp 5)]) (h := (.s .z (.s (.r (.staged [0, 0, 3, 7, 0, 0, 48, 112, 255, 511])) .z))) (args := [a0, a1, a2]) (by kernel_rfl) Tryz.func279 rfl (by kernel_rfl) rfl rfl rfl (Eq.mp (by kernel_rfl) h)

def Vcf.cmp_Compare_int (P : Program) (a0 a1 : Value) (w : World) (R : Value → World → Prop) : Prop :=
 Cl P F.cmp_isNaN_int #[a0] w fun x1 w1=>Cl P F.cmp_isNaN_int #[a1] w1 fun x2 w2=>Vif x1 (Vif x2 (R (.int .i64 0) w2) (R (.int .i64 (-1)) w2)) (Vif x2 (R (.int .i64 1) w2) (Bp .lss a0 a1 fun x3=>Vif x3 (R (.int .i64 (-1)) w2) (Bp .gtr a0 a1 fun x4=>Vif x4 (R (.int .i64 1) w2) (R (.int .i64 0) w2))))
theorem Tie.cmp_Compare_int {a0 a1 : Value} (h : Vcf.cmp_Compare_int Tryz.prog a0 a1 w R) : Cl Tryz.prog F.cmp_Compare_int #[a0, a1] w R :=
  cl_of_vc (n := 20) (rs := [(.tmp 4)]) (h := (.s .z (.s .z (.s .z (.s (.s .z (.i (.s (.s .z (.i (.s .z .z) .z)) (.s .z .z)) .z)) (.s (.s .z (.i (.s .z .z) .z)) (.s (.s .z (.i (.s .z .z) .z)) (.s (.s .z (.i (.s .z .z) .z)) (.s .z .z))))))))) (args := [a0, a1]) (by kernel_rfl) Tryz.func280 rfl (by kernel_rfl) rfl rfl rfl (Eq.mp (by kernel_rfl) h)

def Vcf.slices_stableCmpFunc_int (P : Program) (a0 a1 a2 : Value) (w : World) (R : Value → World → Prop) : Prop :=
 VLoop 2 [(.int .i64 0), (.int .i64 20)] w fun _ next3 a_1 b_2 w1=>Bp .leq b_2 a1 fun x4=>Vif x4 (Cl P F.slices_insertionSortCmpFunc_int #[a0, a_1, b_2, a2] w1 fun x5 w2=>Bp .add b_2 (.int .i64 20) fun x6=>KE [a0, a1, a2, (.int .i64 20)] [a0, a1, a2, (.int .i64 20)]<|next3 b_2 x6 w2) (Cl P F.slices_insertionSortCmpFunc_int #[a0, a_1, a1, a2] w1 fun x7 w3=>VLoop 1 [(.int .i64 20)] w3 fun _ next9 blockSize_8 w4=>Bp .lss blockSize_8 a1 fun x10=>Vif x10 (Bp .mul (.int .i64 2) blockSize_8 fun x11=>VLoop 2 [(.int .i64 0), x11] w4 fun _ next14 a_12 b_13 w5=>Bp .leq b_13 a1 fun x15=>Vif x15 (Bp .add a_12 blockSize_8 fun x16=>Cl P F.slices_symMergeCmpFunc_int #[a0, a_12, x16, b_13, a2] w5 fun x17 w6=>Bp .mul (.int .i64 2) blockSize_8 fun x18=>Bp .add b_13 x18 fun x19=>KE [a0, a1, a2, blockSize_8] [a0, a1, a2, blockSize_8]<|next14 b_13 x19 w6) (Bp .add a_12 blockSize_8 fun x20=>Bp .lss x20 a1 fun x21=>Vif x21 (Cl P F.slices_symMergeCmpFunc_int #[a0, a_12, x20, a1, a2] w5 fun x22 w7=>Bp .mul blockSize_8 (.int .i64 2) fun x23=>KE [a0, a1, a2] [a0, a1, a2]<|next9 x23 w7) (Bp .mul blockSize_8 (.int .i64 2) fun x24=>KE [a0, a1, a2] [a0, a1, a2]<|next9 x24 w5))) (R (.tuple #[]) w4))
theorem Tie.slices_stableCmpFunc_int {a0 a1 a2 : Value} (h : Vcf.slices_stableCmpFunc_int Tryz.prog a0 a1 a2 w R) : Cl Tryz.prog F.slices_stableCmpFunc_int #[a0, a1, a2] w R :=
  cl_of_vc (n := 63) (rs := []) (h := (.s .z (.s .z (.s (.b (.l [7, 8] [0, 1, 2, 6] (.s (.s .z (.i .z .z)) (.b (.s .z (.s .z .z)))))) (.s .z (.b (.l [6] [0, 1, 2] (.s (.s .z (.i .z .z)) (.b (.s .z (.s (.b (.l [7, 8] [0, 1, 2, 6] (.s (.s .z (.i .z .z)) (.b (.s .z (.s .z .z)))))) (.s (.s .z (.s .z (.i .z .z))) .z)))))))))))) (args := [a0, a1, a2]) (by kernel_rfl) Tryz.func287 rfl (by kernel_rfl) rfl rfl rfl (Eq.mp (by kernel_rfl) h)

def Vcf.cmp_isNaN_int (P : Program) (a0 : Value) (w : World) (R : Value → World → Prop) : Prop :=
 Bp .neq a0 a0 fun x1=>R x1 w
theorem Tie.cmp_isNaN_int {a0 : Value} (h : Vcf.cmp_isNaN_int Tryz.prog a0 w R) : Cl Tryz.prog F.cmp_isNaN_int #[a0] w R :=
  cl_of_vc (n := 6) (rs := [(.tmp 2)]) (h := (.s .z (.s .z .z))) (args := [a0]) (by kernel_rfl) Tryz.func288 rfl (by kernel_rfl) rfl rfl rfl (Eq.mp (by kernel_rfl) h)

def Vcf.slices_insertionSortCmpFunc_int (P : Program) (a0 a1 a2 a3 : Value) (w : World) (R : Value → World → Prop) : Prop :=
 Bp .add a1 (.int .i64 1) fun x1=>VLoop 1 [x1] w fun _ next3 i_2 w1=>Bp .lss i_2 a2 fun x4=>Vif x4 (VLoop 1 [i_2] w1 fun _ next6 j_5 w2=>VJoin 1 (fun _ x7 w3=>Vif x7 (Dr w3 fun w4=>Bp .sub j_5 (.int .i64 1) fun x8=>Bp .sub j_5 (.int .i64 1) fun x9=>Ias 1 a0 x9 fun x10=>Ld x10 w4 fun x11=>Ias 1 a0 j_5 fun x13=>Ld x13 w4 fun x14=>Ias 1 a0 j_5 fun x16=>St x16 x11 w4 fun w5=>Ias 1 a0 x8 fun x17=>St x17 x14 w5 fun w6=>Bp .sub j_5 (.int .i64 1) fun x18=>KE [a0, a1, a2, a3, i_2] [a0, a1, a2, a3, i_2]<|next6 x18 w6) (Bp .add i_2 (.int .i64 1) fun x19=>KE [a0, a1, a2, a3] [a0, a1, a2, a3]<|next3 x19 w3)) (fun J20=>Dr w2 fun w7=>Bp .gtr j_5 a1 fun x21=>Vif x21 (Ias 1 a0 j_5 fun x22=>Ld x22 w7 fun x23=>Bp .sub j_5 (.int .i64 1) fun x25=>Ias 1 a0 x25 fun x26=>Ld x26 w7 fun x27=>Inv P (do let d ← Deferred.ofValue a3 #[x23, x27]; invoke d.target d.args) w7 fun x29 w8=>Bp .lss x29 (.int .i64 0) fun x30=>KE [a0, a1, a2, a3, i_2, j_5] [a0, a1, a2, a3, i_2, j_5]<|J20 x30 w8) (KE [a0, a1, a2, a3, i_2, j_5] [a0, a1, a2, a3, i_2, j_5]<|J20 (.bool false) w7))) (R (.tuple #[]) w1)
theorem Tie.slices_insertionSortCmpFunc_int {a0 a1 a2 a3 : Value} (h : Vcf.slices_insertionSortCmpFunc_int Tryz.prog a0 a1 a2 a3 w R) : Cl Tryz.prog F.slices_insertionSortCmpFunc_int #[a0, a1, a2, a3] w R :=
  cl_of_vc (n := 53) (rs := []) (h := (.s .z (.b (.l [8] [0, 1, 2, 3] (.s (.s .z (.i .z .z)) (.s (.b (.s .z (.b (.l [9] [0, 1, 2, 3, 8] (.s (.j [34] [0, 1, 2, 3, 8, 9] (.r (.staged [0, 0, 3, 7, 15, 15, 15, 111, 239, 15, 15, 1039, 3599, 7695, 16383, 32767, 65535])) (.i .z .z)) (.s (.b (.r (.staged [0, 0, 0, 0, 8, 0, 0, 64, 224, 480, 0, 0, 3072, 7168, 16355, 32739, 65535, 131071]))) .z)))))) .z)))))) (args := [a0, a1, a2, a3]) (by kernel_rfl) Tryz.func293 rfl (by kernel_rfl) rfl rfl rfl (Eq.mp (by kernel_rfl) h)

def Vcf.slices_symMergeCmpFunc_int (P : Program) (a0 a1 a2 a3 a4 : Value) (w : World) (R : Value → World → Prop) : Prop :=
 Bp .sub a2 a1 fun x1=>Bp .eql x1 (.int .i64 1) fun x2=>Vif x2 (VLoop 2 [a2, a3] w fun _ next5 i_3 j_4 w1=>Bp .lss i_3 j_4 fun x6=>Vif x6 (Bp .add i_3 j_4 fun x7=>Ci .u64 x7 fun x8=>Bp .shr x8 (.int .u64 1) fun x9=>Ci .i64 x9 fun x10=>Dr w1 fun w2=>Ias 1 a0 x10 fun x11=>Ld x11 w2 fun x12=>Ias 1 a0 a1 fun x14=>Ld x14 w2 fun x15=>Inv P (do let d ← Deferred.ofValue a4 #[x12, x15]; invoke d.target d.args) w2 fun x17 w3=>Bp .lss x17 (.int .i64 0) fun x18=>Vif x18 (Bp .add x10 (.int .i64 1) fun x19=>KE [a0, a1, a4] [a0, a1, a4]<|next5 x19 j_4 w3) (KE [a0, a1, a4] [a0, a1, a4]<|next5 i_3 x10 w3)) (VLoop 1 [a1] w1 fun _ next21 k_20 w4=>Bp .sub i_3 (.int .i64 1) fun x22=>Bp .lss k_20 x22 fun x23=>Vif x23 (Dr w4 fun w5=>Bp .add k_20 (.int .i64 1) fun x24=>Bp .add k_20 (.int .i64 1) fun x25=>Ias 1 a0 x25 fun x26=>Ld x26 w5 fun x27=>Ias 1 a0 k_20 fun x29=>Ld x29 w5 fun x30=>Ias 1 a0 k_20 fun x32=>St x32 x27 w5 fun w6=>Ias 1 a0 x24 fun x33=>St x33 x30 w6 fun w7=>Bp .add k_20 (.int .i64 1) fun x34=>KE [a0, i_3] [a0, i_3]<|next21 x34 w7) (R (.tuple #[]) w4))) (Bp .sub a3 a2 fun x35=>Bp .eql x35 (.int .i64 1) fun x36=>Vif x36 (VLoop 2 [a1, a2] w fun _ next39 i_37 j_38 w8=>Bp .lss i_37 j_38 fun x40=>Vif x40 (Bp .add i_37 j_38 fun x41=>Ci .u64 x41 fun x42=>Bp .shr x42 (.int .u64 1) fun x43=>Ci .i64 x43 fun x44=>Dr w8 fun w9=>Ias 1 a0 a2 fun x45=>Ld x45 w9 fun x46=>Ias 1 a0 x44 fun x48=>Ld x48 w9 fun x49=>Inv P (do let d ← Deferred.ofValue a4 #[x46, x49]; invoke d.target d.args) w9 fun x51 w10=>Bp .lss x51 (.int .i64 0) fun x52=>Up .not x52 fun x53=>Vif x53 (Bp .add x44 (.int .i64 1) fun x54=>KE [a0, a2, a4] [a0, a2, a4]<|next39 x54 j_38 w10) (KE [a0, a2, a4] [a0, a2, a4]<|next39 i_37 x44 w10)) (VLoop 1 [a2] w8 fun _ next56 k_55 w11=>Bp .gtr k_55 i_37 fun x57=>Vif x57 (Dr w11 fun w12=>Bp .sub k_55 (.int .i64 1) fun x58=>Bp .sub k_55 (.int .i64 1) fun x59=>Ias 1 a0 x59 fun x60=>Ld x60 w12 fun x61=>Ias 1 a0 k_55 fun x63=>Ld x63 w12 fun x64=>Ias 1 a0 k_55 fun x66=>St x66 x61 w12 fun w13=>Ias 1 a0 x58 fun x67=>St x67 x64 w13 fun w14=>Bp .sub k_55 (.int .i64 1) fun x68=>KE [a0, i_37] [a0, i_37]<|next56 x68 w14) (R (.tuple #[]) w11))) (Bp .add a1 a3 fun x69=>Ci .u64 x69 fun x70=>Bp .shr x70 (.int .u64 1) fun x71=>Ci .i64 x71 fun x72=>Bp .add x72 a2 fun x73=>VJoin 2 (fun _ start_74 r_75 w15=>Bp .sub x73 (.int .i64 1) fun x76=>VLoop 2 [start_74, r_75] w15 fun _ next79 start_77 r_78 w16=>Bp .lss start_77 r_78 fun x80=>Vif x80 (Bp .add start_77 r_78 fun x81=>Ci .u64 x81 fun x82=>Bp .shr x82 (.int .u64 1) fun x83=>Ci .i64 x83 fun x84=>Dr w16 fun w17=>Bp .sub x76 x84 fun x85=>Ias 1 a0 x85 fun x86=>Ld x86 w17 fun x87=>Ias 1 a0 x84 fun x89=>Ld x89 w17 fun x90=>Inv P (do let d ← Deferred.ofValue a4 #[x87, x90]; invoke d.target d.args) w17 fun x92 w18=>Bp .lss x92 (.int .i64 0) fun x93=>Up .not x93 fun x94=>Vif x94 (Bp .add x84 (.int .i64 1) fun x95=>KE [a0, a1, a2, a3, a4, x72, x73, x76] [a0, a1, a2, a3, a4, x72, x73, x76]<|next79 x95 r_78 w18) (KE [a0, a1, a2, a3, a4, x72, x73, x76] [a0, a1, a2, a3, a4, x72, x73, x76]<|next79 start_77 x84 w18)) (Bp .sub x73 start_77 fun x96=>VJoin 0 (fun _ w19=>VJoin 0 (fun _ w20=>VJoin 1 (fun _ x97 w21=>Vif x97 (Cl P F.slices_symMergeCmpFunc_int #[a0, x72, x96, a3, a4] w21 fun x98 w22=>R (.tuple #[]) w22) (R (.tuple #[]) w21)) (fun J99=>Bp .lss x72 x96 fun x100=>Vif x100 (Bp .lss x96 a3 fun x101=>KE [a0, a3, a4, x72, x96] [a0, a3, a4, x72, x96]<|J99 x101 w20) (KE [a0, a3, a4, x72, x96] [a0, a3, a4, x72, x96]<|J99 (.bool false) w20))) (fun J102=>VJoin 1 (fun _ x103 w23=>Vif x103 (Cl P F.slices_symMergeCmpFunc_int #[a0, a1, start_77, x72, a4] w23 fun x104 w24=>KE [a0, a3, a4, x72, x96] [a0, a3, a4, x72, x96]<|J102 w24) (KE [a0, a3, a4, x72, x96] [a0, a3, a4, x72, x96]<|J102 w23)) (fun J105=>Bp .lss a1 start_77 fun x106=>Vif x106 (Bp .lss start_77 x72 fun x107=>KE [a0, a1, a3, a4, x72, start_77, x96] [a0, a1, a3, a4, x72, start_77, x96]<|J105 x107 w19) (KE [a0, a1, a3, a4, x72, start_77, x96] [a0, a1, a3, a4, x72, start_77, x96]<|J105 (.bool false) w19)))) (fun J108=>VJoin 1 (fun _ x109 w25=>Vif x109 (Cl P F.slices_rotateCmpFunc_int #[a0, start_77, a2, x96, a4] w25 fun x110 w26=>KE [a0, a1, a3, a4, x72, start_77, x96] [a0, a1, a3, a4, x72, start_77, x96]<|J108 w26) (KE [a0, a1, a3, a4, x72, start_77, x96] [a0, a1, a3, a4, x72, start_77, x96]<|J108 w25)) (fun J111=>Bp .lss start_77 a2 fun x112=>Vif x112 (Bp .lss a2 x96 fun x113=>KE [a0, a1, a2, a3, a4, x72, start_77, x96] [a0, a1, a2, a3, a4, x72, start_77, x96]<|J111 x113 w16) (KE [a0, a1, a2, a3, a4, x72, start_77, x96] [a0, a1, a2, a3, a4, x72, start_77, x96]<|J111 (.bool false) w16))))) (fun J114=>Bp .gtr a2 x72 fun x115=>Vif x115 (Bp .sub x73 a3 fun x116=>KE [a0, a1, a2, a3, a4, x72, x73] [a0, a1, a2, a3, a4, x72, x73]<|J114 x116 x72 w) (KE [a0, a1, a2, a3, a4, x72, x73] [a0, a1, a2, a3, a4, x72, x73]<|J114 a1 a2 w))))
theorem Tie.slices_symMergeCmpFunc_int {a0 a1 a2 a3 a4 : Value} (h : Vcf.slices_symMergeCmpFunc_int Tryz.prog a0 a1 a2 a3 a4 w R) : Cl Tryz.prog F.slices_symMergeCmpFunc_int #[a0, a1, a2, a3, a4] w R :=
  cl_of_vc (n := 220) (rs := []) (h := (.s (.s .z (.i (.s .z (.s .z (.s (.b (.l [10, 11] [0, 1, 4] (.s (.s .z (.i .z .z)) (.b (.s .z (.s (.r (.staged [0, 0, 0, 6, 14, 0, 0, 96, 224, 511, 1023])) (.i .z .z))))))) (.s (.s .z (.b (.l [13] [0, 10] (.s (.s .z (.i .z .z)) (.s (.b (.r (.staged [0, 0, 0, 0, 8, 0, 0, 64, 224, 480, 0, 0, 3072, 7168, 16355, 32739, 65535, 131071]))) .z))))) .z)))) .z)) (.s (.s .z (.i (.s .z (.s .z (.s (.b (.l [14, 15] [0, 2, 4] (.s (.s .z (.i .z .z)) (.b (.s .z (.s (.r (.staged [0, 0, 0, 6, 14, 0, 0, 96, 224, 511, 1023, 2047])) (.i .z .z))))))) (.s (.s .z (.b (.l [17] [0, 14] (.s (.s .z (.i .z .z)) (.s (.b (.r (.staged [0, 0, 0, 0, 8, 0, 0, 64, 224, 480, 0, 0, 3072, 7168, 16355, 32739, 65535, 131071]))) .z))))) .z)))) .z)) (.s .z (.s .z (.s .z (.j [20, 21] [0, 1, 2, 3, 4, 18, 19] (.s .z (.i (.s .z .z) (.s .z .z))) (.s .z (.s (.b (.l [20, 21] [0, 1, 2, 3, 4, 18, 19, 22] (.s (.s .z (.i .z .z)) (.b (.s .z (.s (.r (.staged [0, 0, 0, 0, 12, 30, 62, 0, 0, 384, 896, 2047, 4095, 8191])) (.i .z .z))))))) (.s .z (.j [] [0, 1, 3, 4, 18, 20, 24] (.j [185] [0, 1, 2, 3, 4, 18, 20, 24] .z (.i .z .z)) (.j [] [0, 3, 4, 18, 24] (.j [199] [0, 1, 3, 4, 18, 20, 24] .z (.i .z .z)) (.j [213] [0, 3, 4, 18, 24] .z (.i .z .z)))))))))))))) (args := [a0, a1, a2, a3, a4]) (by kernel_rfl) Tryz.func294 rfl (by kernel_rfl) rfl rfl rfl (Eq.mp (by kernel_rfl) h)

def Vcf.slices_rotateCmpFunc_int (P : Program) (a0 a1 a2 a3 a4 : Value) (w : World) (R : Value → World → Prop) : Prop :=
 Bp .sub a2 a1 fun x1=>Bp .sub a3 a2 fun x2=>VLoop 2 [x1, x2] w fun _ next5 i_3 j_4 w1=>Bp .neq i_3 j_4 fun x6=>Vif x6 (Bp .gtr i_3 j_4 fun x7=>Vif x7 (Bp .sub a2 i_3 fun x8=>Cl P F.slices_swapRangeCmpFunc_int #[a0, x8, a2, j_4, a4] w1 fun x9 w2=>Bp .sub i_3 j_4 fun x10=>KE [a0, a2, a4] [a0, a2, a4]<|next5 x10 j_4 w2) (Bp .sub a2 i_3 fun x11=>Bp .add a2 j_4 fun x12=>Bp .sub x12 i_3 fun x13=>Cl P F.slices_swapRangeCmpFunc_int #[a0, x11, x13, i_3, a4] w1 fun x14 w3=>Bp .sub j_4 i_3 fun x15=>KE [a0, a2, a4] [a0, a2, a4]<|next5 i_3 x15 w3)) (Bp .sub a2 i_3 fun x16=>Cl P F.slices_swapRangeCmpFunc_int #[a0, x16, a2, i_3, a4] w1 fun x17 w4=>R (.tuple #[]) w4)
theorem Tie.slices_rotateCmpFunc_int {a0 a1 a2 a3 a4 : Value} (h : Vcf.slices_rotateCmpFunc_int Tryz.prog a0 a1 a2 a3 a4 w R) : Cl Tryz.prog F.slices_rotateCmpFunc_int #[a0, a1, a2, a3, a4] w R :=
  cl_of_vc (n := 58) (rs := []) (h := (.s .z (.s .z (.s (.b (.l [10, 11] [0, 2, 4] (.s (.s .z (.i .z .z)) (.b (.s .z (.i (.s .z .z) (.s .z .z))))))) .z)))) (args := [a0, a1, a2, a3, a4]) (by kernel_rfl) Tryz.func296 rfl (by kernel_rfl) rfl rfl rfl (Eq.mp (by kernel_rfl) h)

def Vcf.slices_swapRangeCmpFunc_int (P : Program) (a0 a1 a2 a3 a4 : Value) (w : World) (R : Value → World → Prop) : Prop :=
 VLoop 1 [(.int .i64 0)] w fun _ next2 i_1 w1=>Bp .lss i_1 a3 fun x3=>Vif x3 (Dr w1 fun w2=>Bp .add a1 i_1 fun x4=>Bp .add a2 i_1 fun x5=>Bp .add a2 i_1 fun x6=>Ias 1 a0 x6 fun x7=>Ld x7 w2 fun x8=>Bp .add a1 i_1 fun x10=>Ias 1 a0 x10 fun x11=>Ld x11 w2 fun x12=>Ias 1 a0 x4 fun x14=>St x14 x8 w2 fun w3=>Ias 1 a0 x5 fun x15=>St x15 x12 w3 fun w4=>Bp .add i_1 (.int .i64 1) fun x16=>KE [a0, a1, a2, a3] [a0, a1, a2, a3]<|next2 x16 w4) (R (.tuple #[]) w1)
theorem Tie.slices_swapRangeCmpFunc_int {a0 a1 a2 a3 a4 : Value} (h : Vcf.slices_swapRangeCmpFunc_int Tryz.prog a0 a1 a2 a3 a4 w R) : Cl Tryz.prog F.slices_swapRangeCmpFunc_int #[a0, a1, a2, a3, a4] w R :=
  cl_of_vc (n := 38) (rs := []) (h := (.s .z (.b (.l [10] [0, 1, 2, 3] (.s (.s .z (.i .z .z)) (.s (.b (.r (.staged [0, 0, 0, 6, 0, 0, 0, 96, 0, 0, 0, 1536, 3840, 7936, 0, 0, 0, 98304, 245760, 507904, 1048335, 2096911, 4194303, 8388607]))) .z)))))) (args := [a0, a1, a2, a3, a4]) (by kernel_rfl) Tryz.func297 rfl (by kernel_rfl) rfl rfl rfl (Eq.mp (by kernel_rfl) h)

end Go.Proofs.YtgaiocpkjaaphaaGreatDoor
