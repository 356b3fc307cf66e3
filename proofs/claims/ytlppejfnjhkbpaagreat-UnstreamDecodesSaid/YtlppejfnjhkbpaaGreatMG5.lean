/- Several texts in one: N22, L22. -/
import Derived.Test.YtlppejfnjhkbpaaGreatFm
import Derived.Test.YtlppejfnjhkbpaaGreatMG0
import Derived.Test.YtlppejfnjhkbpaaGreatT02
import Derived.Test.YtlppejfnjhkbpaaGreatMG2
import Derived.Test.YtlppejfnjhkbpaaGreatMG3
set_option linter.unusedVariables false
set_option linter.unusedSimpArgs false
namespace Go.Proofs.YtlppejfnjhkbpaaGreat
open Go Go.Vc
attribute [local irreducible] Vc.Nc Vc.Ld Vc.LdA Vc.St Vc.StA Vc.Fo Vc.Iaa Vc.Ias Vc.Ixs Vc.Ixa Vc.Fd Vc.FdA Vc.Bp Vc.Bb Vc.Bn Vc.Up Vc.Ci Vc.Lns Vc.Lnl Vc.Ex Vc.Sst Vc.Ssl Vc.New Vc.Vif Vc.VJoin Vc.VLoop Vc.KE Vc.Dr Vc.Rk Vc.Cl Vc.Cx Vc.Inv Vc.Be Vc.Cv Vc.Cw Vc.Mf Vc.Sl Vc.Lk Vc.Bd Vc.Bs Vc.Ms Vc.Mm Vc.Mu Vc.Me Vc.Es Vc.Rg Vc.Nx Vc.Ta Vc.Ap Vc.Usd Vc.Ust Vc.Cp Vc.Ln Vc.Bc Vc.Bmin Vc.Bmax Vc.Bdel Vc.Bclr Vc.Pk
namespace N22
variable {w : World} {L : List HProp} {K : Value → World → Prop}
set_option maxRecDepth 1000000
theorem mixed : Tryz.prog.follows .mixedOrders = true := by kernel_rfl
abbrev eSym : Ev.Ent := .c F.balerref05_Symbols [.s [98, 97]] (.s [97, 98])
theorem sym_ok : Ev.EntOk Tryz.prog eSym := Ev.entF mixed (k := 5000) (by kernel_rfl) rfl rfl Ev.ora_nil (by kernel_rfl)
abbrev eBits : Ev.Ent := .c F.balerref05_Bits [.s [97, 98]] (.s [48, 48, 48, 48, 48, 48, 49, 48, 48, 48, 48, 48, 48, 48, 48, 48, 48, 49, 49, 48, 48, 48, 48, 48, 48, 48, 48, 48, 48, 48, 48, 48])
theorem bits_ok : Ev.EntOk Tryz.prog eBits := Ev.entF mixed (k := 5000) (by kernel_rfl) rfl rfl Ev.ora_nil (by kernel_rfl)
abbrev eWrite : Ev.Ent := .c F.balerref20_Write [.s [97, 98], .i .u32 (.ofNat 3918790093)] (.s [49, 49, 49, 48, 49, 48, 48, 49, 49, 48, 48, 49, 48, 48, 49, 49, 49, 49, 49, 49, 49, 49, 48, 49, 49, 49, 48, 48, 49, 49, 48, 49, 48, 48, 48, 48, 48, 48, 48, 48, 48, 48, 48, 48, 48, 48, 48, 48, 48, 48, 48, 48, 48, 48, 48, 48, 48, 48, 48, 48, 48, 48, 48, 49, 48, 48, 48, 48, 48, 48, 48, 48, 48, 48, 49, 49, 48, 48, 48, 48, 48, 48, 48, 48, 48, 48, 48, 48, 48, 48, 49, 48, 48, 48, 48, 48, 48, 48, 48, 48, 48, 48, 48, 48, 48, 48, 49, 48, 48, 48, 48, 49, 48, 48, 48, 48, 48, 48, 48, 48, 49, 48, 48, 48, 48, 48, 49, 48, 49, 48, 49, 49])
theorem write_ok : Ev.EntOk Tryz.prog eWrite := Ev.entF mixed (k := 5000) (by kernel_rfl) rfl rfl (Ev.ora_cons sym_ok (Ev.ora_cons bits_ok Ev.ora_nil)) (by kernel_rfl)
abbrev bytes : List Nat := [66, 90, 104, 49, 49, 65, 89, 38, 83, 89, 233, 147, 253, 205, 0, 0, 0, 1, 0, 48, 0, 32, 0, 33, 0, 130, 177, 119, 36, 83, 133, 9, 14, 153, 63, 220, 208]
abbrev eWith : Ev.Ent := .c F.balerref21_With [.i .i64 (.ofNat 1), .i .i64 (.ofNat 100000), .s [97, 98]] (.s bytes)
theorem with_ok : Ev.EntOk Tryz.prog eWith := Ev.entF mixed (k := 5000) (by kernel_rfl) rfl rfl (Ev.ora_cons write_ok Ev.ora_nil) (by kernel_rfl)
abbrev eListed : Ev.Ent := .c F.used_listed [.g [.b false, .b false, .b false, .b false, .b false, .b false, .b false, .b false, .b false, .b false, .b false, .b false, .b false, .b false, .b false, .b false, .b false, .b false, .b false, .b false, .b false, .b false, .b false, .b false, .b false, .b false, .b false, .b false, .b false, .b false, .b false, .b false, .b false, .b false, .b false, .b false, .b false, .b false, .b false, .b false, .b false, .b false, .b false, .b false, .b false, .b false, .b false, .b false, .b false, .b false, .b false, .b false, .b false, .b false, .b false, .b false, .b false, .b false, .b false, .b false, .b false, .b false, .b false, .b false, .b false, .b false, .b false, .b false, .b false, .b false, .b false, .b false, .b false, .b false, .b false, .b false, .b false, .b false, .b false, .b false, .b false, .b false, .b false, .b false, .b false, .b false, .b false, .b false, .b false, .b false, .b false, .b false, .b false, .b false, .b false, .b false, .b false, .b true, .b true, .b false, .b false, .b false, .b false, .b false, .b false, .b false, .b false, .b false, .b false, .b false, .b false, .b false, .b false, .b false, .b false, .b false, .b false, .b false, .b false, .b false, .b false, .b false, .b false, .b false, .b false, .b false, .b false, .b false, .b false, .b false, .b false, .b false, .b false, .b false, .b false, .b false, .b false, .b false, .b false, .b false, .b false, .b false, .b false, .b false, .b false, .b false, .b false, .b false, .b false, .b false, .b false, .b false, .b false, .b false, .b false, .b false, .b false, .b false, .b false, .b false, .b false, .b false, .b false, .b false, .b false, .b false, .b false, .b false, .b false, .b false, .b false, .b false, .b false, .b false, .b false, .b false, .b false, .b false, .b false, .b false, .b false, .b false, .b false, .b false, .b false, .b false, .b false, .b false, .b false, .b false, .b false, .b false, .b false, .b false, .b false, .b false, .b false, .b false, .b false, .b false, .b false, .b false, .b false, .b false, .b false, .b false, .b false, .b false, .b false, .b false, .b false, .b false, .b false, .b false, .b false, .b false, .b false, .b false, .b false, .b false, .b false, .b false, .b false, .b false, .b false, .b false, .b false, .b false, .b false, .b false, .b false, .b false, .b false, .b false, .b false, .b false, .b false, .b false, .b false, .b false, .b false, .b false, .b false, .b false, .b false, .b false, .b false, .b false, .b false, .b false, .b false, .b false, .b false, .b false, .b false, .b false]] (.s [97, 98])
theorem listed_ok : Ev.EntOk Tryz.prog eListed := Ev.entF mixed (k := 5000) (by kernel_rfl) rfl rfl Ev.ora_nil (by kernel_rfl)
abbrev eOpen : Ev.Ent := .c F.block_Open [.g [.s [98, 97], .i .i64 (.ofNat 0), .i .u32 (.ofNat 3918790093)]] (.t [.s [97, 98], .i .i64 (.ofNat 0)])
theorem open_ok : Ev.EntOk Tryz.prog eOpen := Ev.entF mixed (k := 5000) (by kernel_rfl) rfl rfl T02.known_ok (by kernel_rfl)
abbrev d1 : Ev.Ent := .c F.unstream_Decode [.s []] (.t [.s [], .i .i64 (.ofNat 24)])
theorem d1_ok : Ev.EntOk Tryz.prog d1 := Ev.entF mixed (k := 5000) (by kernel_rfl) rfl rfl T02.known_ok (by kernel_rfl)
abbrev d2 : Ev.Ent := .c F.unstream_Decode [.s [66, 90, 120]] (.t [.s [], .i .i64 (.ofNat 20)])
theorem d2_ok : Ev.EntOk Tryz.prog d2 := Ev.entF mixed (k := 5000) (by kernel_rfl) rfl rfl T02.known_ok (by kernel_rfl)
abbrev d3 : Ev.Ent := .c F.unstream_Decode [.s [66, 90, 104, 57, 23, 114, 69, 56, 80, 144, 0, 0, 0, 0]] (.t [.s [], .i .i64 (.ofNat 0)])
theorem d3_ok : Ev.EntOk Tryz.prog d3 := Ev.entF mixed (k := 5000) (by kernel_rfl) rfl rfl T02.known_ok (by kernel_rfl)
abbrev d4 : Ev.Ent := .c F.unstream_Decode [.s bytes] (.t [.s [97, 98], .i .i64 (.ofNat 0)])
theorem d4_ok : Ev.EntOk Tryz.prog d4 := Ev.entF mixed (k := 5000) (by kernel_rfl) rfl rfl (Ev.ora_cons open_ok (Ev.ora_cons listed_ok T02.known_ok)) (by kernel_rfl)
theorem none_ok : Ev.OraOk Tryz.prog [d1, d2, d3, eWith, d4] := Ev.ora_cons d1_ok (Ev.ora_cons d2_ok (Ev.ora_cons d3_ok (Ev.ora_cons with_ok (Ev.ora_cons d4_ok Ev.ora_nil))))
theorem none_true : Ev.isTrue (Ev.callF Tryz.prog [d1, d2, d3, eWith, d4] (Ev.evF Tryz.prog [d1, d2, d3, eWith, d4] 100) F.balerlaw22_none [] Ev.s0) = true := by kernel_rfl
theorem none_spec (H : Holds w L) (post : ∀ w', Same w w' → Holds w' L → K (.bool true) w') : Cl Tryz.prog F.balerlaw22_none #[] w K := Ev.cl_trueF mixed none_ok none_true H post
end N22
namespace L22
open Go.Mb Go.Q24 P20
variable {w : World} {L : List HProp} {K : Value → World → Prop}
theorem outT_eq (o : TOut) : U22.outT o = tT o := by cases o <;> rfl
theorem outE_eq (o : TOut) : U22.outE o = tE o := by cases o <;> rfl
theorem UnstreamWith_spec (H : Holds w L) (unit : Int) (s : ByteArray) (_ : (Lit.int .i64 unit).wf = true) (_ : s.size ≤ maxLen) (post : ∀ w', Same w w' → Holds w' L → K (.bool true) w') :
   Cl Tryz.prog F.balerlaw22_UnstreamWith #[.int .i64 unit, .string s] w K := by
 refine Tie.balerlaw22_UnstreamWith ?_; unfold Vcf.balerlaw22_UnstreamWith; obtain ⟨xs, rfl⟩ : ∃ xs : List UInt8, s = ⟨xs.toArray⟩ := ⟨s.data.toList, by simp⟩; refine r_join1 (fun y w' => w = w' ∧ y = .bool (decide (250 < (xs.length : Int) ∨ 1000 < unit ∧ unit ≤ 100000))) ?_ ?_
 rotate_left
 · refine q_len ?_; refine r_gtr (r_ifD (fun h => ?_) fun h => ?_)
   · exact r_ke ⟨rfl, by rw [decide_eq_true (by omega)]⟩
   · refine r_gtr (r_ifD (fun h2 => ?_) fun h2 => ?_)
     · exact r_leq (r_ke ⟨rfl, congrArg Value.bool (by rw [Bool.eq_iff_iff, decide_eq_true_iff, decide_eq_true_iff]; omega)⟩)
     · exact r_ke ⟨rfl, by rw [decide_eq_false (by omega)]⟩
 rintro _ _ _ ⟨rfl, rfl⟩; refine r_ifD (fun h => ?_) fun h => ?_
 · exact N22.none_spec H post
 have hz : (zeroP Tryz.prog tGo).cells.toList = [S_ [], iv 0] := by kernel_rfl
 by_cases hu : 24 ≤ unit ∧ unit ≤ 100000
 rotate_left
 · refine U22.With_bad (by omega) ?_; refine r_ex20 (r_ex21 ?_); refine Unit_spec ?_; rw [decide_eq_false hu]; refine r_notF (r_vt ?_); refine r_eql (r_vtE rfl ?_); refine r_seqL (r_vtD rfl ?_); exact N22.none_spec H post
 obtain ⟨n, rfl⟩ : ∃ n : Nat, unit = (n : Int) := ⟨unit.toNat, by omega⟩; refine U22.With_spec H (by omega) (by omega) (by omega) fun o hc w2 S2 H2 => ?_; rw [outT_eq, outE_eq]; refine r_ex20 (r_ex21 ?_); refine Unit_spec ?_; rw [decide_eq_true hu]; refine r_notT (r_vf ?_); refine RWith_spec H2 (by omega) (by omega) (by omega) fun o2 hc2 w3 S3 H3 => ?_; obtain rfl := hc.det hc2; refine r_new H3 fun b w4 S4 H4 => ?_; rw [hz] at H4; refine r_stA 0 H4 (vs := [S_ (tT o), nv (tE o)]) rfl (Nat.le_refl 2) rfl rfl fun w5 S5 H5 => ?_; replace H5 : Holds w5 (blk b tGo [S_ (tT o), nv (tE o)] :: L) := H5; refine r_fo0 (r_ld 0 H5 rfl rfl ?_); refine r_eql (r_vtE rfl ?_); refine r_fo0 (r_ld 0 H5 rfl rfl ?_); refine r_seqL (r_vtD rfl ?_); exact N22.none_spec H5 fun w6 S6 H6 => post _ ((((S2.trans S3).trans S4).trans S5).trans S6) H6.drop
theorem UnstreamDecodes_spec (H : Holds w L) (s : ByteArray) (_ : s.size ≤ maxLen) (post : ∀ w', Same w w' → Holds w' L → K (.bool true) w') :
   Cl Tryz.prog F.balerlaw22_UnstreamDecodes #[.string s] w K := by
 refine Tie.balerlaw22_UnstreamDecodes ?_; unfold Vcf.balerlaw22_UnstreamDecodes; obtain ⟨xs, rfl⟩ : ∃ xs : List UInt8, s = ⟨xs.toArray⟩ := ⟨s.data.toList, by simp⟩
 have hz : (zeroP Tryz.prog tGo).cells.toList = [S_ [], iv 0] := by kernel_rfl
 refine q_len ?_; refine r_gtr (r_ifD (fun h => ?_) fun h => ?_)
 · exact N22.none_spec H post
 refine Tie.unstream_Decode ?_; unfold Vcf.unstream_Decode; refine U22.With_spec (unit := 100000) H (by omega) (by omega) (by omega) fun o hc w2 S2 H2 => ?_; rw [outT_eq, outE_eq]; refine r_ex20 (r_ex21 ?_); refine r_ex20 (r_ex21 ?_); refine RWith_spec (unit := 100000) H2 (by omega) (by omega) (by omega) fun o2 hc2 w3 S3 H3 => ?_; obtain rfl := hc.det hc2; refine r_new H3 fun b w4 S4 H4 => ?_; rw [hz] at H4; refine r_stA 0 H4 (vs := [S_ (tT o), nv (tE o)]) rfl (Nat.le_refl 2) rfl rfl fun w5 S5 H5 => ?_; replace H5 : Holds w5 (blk b tGo [S_ (tT o), nv (tE o)] :: L) := H5; refine r_fo0 (r_ld 0 H5 rfl rfl ?_); refine r_eql (r_vtE rfl ?_); refine r_fo0 (r_ld 0 H5 rfl rfl ?_); refine r_seqL (r_vtD rfl ?_); exact N22.none_spec H5 fun w6 S6 H6 => post _ ((((S2.trans S3).trans S4).trans S5).trans S6) H6.drop
end L22
end Go.Proofs.YtlppejfnjhkbpaaGreat
