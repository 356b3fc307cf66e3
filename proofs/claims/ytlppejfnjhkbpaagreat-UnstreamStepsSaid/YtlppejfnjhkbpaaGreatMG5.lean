/- Several texts in one: N22, L22, S22. -/
import Derived.Test.YtlppejfnjhkbpaaGreatFm
import Derived.Test.YtlppejfnjhkbpaaGreatMG0
import Derived.Test.YtlppejfnjhkbpaaGreatT02
import Derived.Test.YtlppejfnjhkbpaaGreatMG2
import Derived.Test.YtlppejfnjhkbpaaGreatMG3
set_option linter.unusedVariables false
set_option linter.unusedSimpArgs false
namespace Go.Proofs.YtlppejfnjhkbpaaGreat
open Go Go.Vc
attribute [local irreducible] Vc.Nc Vc.Ld Vc.LdA Vc.St Vc.StA Vc.Fo Vc.Iaa Vc.Ias Vc.Ixs Vc.Ixa Vc.Fd Vc.FdA Vc.Bp Vc.Bb Vc.Bn Vc.Up Vc.Ci Vc.Lns Vc.Lnl Vc.Ex Vc.Sst Vc.Ssl Vc.New Vc.Vif Vc.VJoin Vc.VLoop Vc.KE Vc.Dr Vc.Rk Vc.Cl Vc.Cx Vc.Inv Vc.Be Vc.Cv Vc.Cw Vc.Mf Vc.Sl Vc.Lk Vc.Bd Vc.Bs Vc.Ms Vc.Mm Vc.Mu Vc.Me Vc.Es Vc.Rg Vc.Nx Vc.Ta Vc.Ap Vc.Usd Vc.Ust Vc.Cp Vc.Ln Vc.Bc Vc.Bmin Vc.Bmax Vc.Bdel Vc.Bclr Vc.Pk
namespace N22
variable {w : World} {L : List HProp} {K : Value → World → Prop}
set_option maxRecDepth 1000000
theorem mixed : Tryz.prog.follows .mixedOrders = true := by kernel_rfl
abbrev eSym : Ev.Ent := .c F.balerref05_Symbols [.s [98, 97]] (.s [97, 98])
theorem sym_ok : Ev.EntOk Tryz.prog eSym := Ev.entF mixed (k := 5000) (by kernel_rfl) rfl rfl Ev.ora_nil (by kernel_rfl)
abbrev eBits : Ev.Ent := .c F.balerref05_Bits [.s [97, 98]] (.s [48, 48, 48, 48, 48, 48, 49, 48, 48, 48, 48, 48, 48, 48, 48, 48, 48, 49, 49, 48, 48, 48, 48, 48, 48, 48, 48, 48, 48, 48, 48, 48])
theorem bits_ok : Ev.EntOk Tryz.prog eBits := Ev.entF mixed (k := 5000) (by kernel_rfl) rfl rfl Ev.ora_nil (by kernel_rfl)
abbrev eWrite : Ev.Ent := .c F.balerref20_Write [.s [97, 98], .i .u32 (.ofNat 3918790093)] (.s [49, 49, 49, 48, 49, 48, 48, 49, 49, 48, 48, 49, 48, 48, 49, 49, 49, 49, 49, 49, 49, 49, 48, 49, 49, 49, 48, 48, 49, 49, 48, 49, 48, 48, 48, 48, 48, 48, 48, 48, 48, 48, 48, 48, 48, 48, 48, 48, 48, 48, 48, 48, 48, 48, 48, 48, 48, 48, 48, 48, 48, 48, 48, 49, 48, 48, 48, 48, 48, 48, 48, 48, 48, 48, 49, 49, 48, 48, 48, 48, 48, 48, 48, 48, 48, 48, 48, 48, 48, 48, 49, 48, 48, 48, 48, 48, 48, 48, 48, 48, 48, 48, 48, 48, 48, 48, 49, 48, 48, 48, 48, 49, 48, 48, 48, 48, 48, 48, 48, 48, 49, 48, 48, 48, 48, 48, 49, 48, 49, 48, 49, 49])
theorem write_ok : Ev.EntOk Tryz.prog eWrite := Ev.entF mixed (k := 5000) (by kernel_rfl) rfl rfl (Ev.ora_cons sym_ok (Ev.ora_cons bits_ok Ev.ora_nil)) (by kernel_rfl)
abbrev bytes : List Nat := [66, 90, 104, 49, 49, 65, 89, 38, 83, 89, 233, 147, 253, 205, 0, 0, 0, 1, 0, 48, 0, 32, 0, 33, 0, 130, 177, 119, 36, 83, 133, 9, 14, 153, 63, 220, 208]
abbrev eWith : Ev.Ent := .c F.balerref21_With [.i .i64 (.ofNat 1), .i .i64 (.ofNat 100000), .s [97, 98]] (.s bytes)
theorem with_ok : Ev.EntOk Tryz.prog eWith := Ev.entF mixed (k := 5000) (by kernel_rfl) rfl rfl (Ev.ora_cons write_ok Ev.ora_nil) (by kernel_rfl)
abbrev eListed : Ev.Ent := .c F.used_listed [.g [.b false, .b false, .b false, .b false, .b false, .b false, .b false, .b false, .b false, .b false, .b false, .b false, .b false, .b false, .b false, .b false, .b false, .b false, .b false, .b false, .b false, .b false, .b false, .b false, .b false, .b false, .b false, .b false, .b false, .b false, .b false, .b false, .b false, .b false, .b false, .b false, .b false, .b false, .b false, .b false, .b false, .b false, .b false, .b false, .b false, .b false, .b false, .b false, .b false, .b false, .b false, .b false, .b false, .b false, .b false, .b false, .b false, .b false, .b false, .b false, .b false, .b false, .b false, .b false, .b false, .b false, .b false, .b false, .b false, .b false, .b false, .b false, .b false, .b false, .b false, .b false, .b false, .b false, .b false, .b false, .b false, .b false, .b false, .b false, .b false, .b false, .b false, .b false, .b false, .b false, .b false, .b false, .b false, .b false, .b false, .b false, .b false, .b true, .b true, .b false, .b false, .b false, .b false, .b false, .b false, .b false, .b false, .b false, .b false, .b false, .b false, .b false, .b false, .b false, .b false, .b false, .b false, .b false, .b false, .b false, .b false, .b false, .b false, .b false, .b false, .b false, .b false, .b false, .b false, .b false, .b false, .b false, .b false, .b false, .b false, .b false, .b false, .b false, .b false, .b false, .b false, .b false, .b false, .b false, .b false, .b false, .b false, .b false, .b false, .b false, .b false, .b false, .b false, .b false, .b false, .b false, .b false, .b false, .b false, .b false, .b false, .b false, .b false, .b false, .b false, .b false, .b false, .b false, .b false, .b false, .b false, .b false, .b false, .b false, .b false, .b false, .b false, .b false, .b false, .b false, .b false, .b false, .b false, .b false, .b false, .b false, .b false, .b false, .b false, .b false, .b false, .b false, .b false, .b false, .b false, .b false, .b false, .b false, .b false, .b false, .b false, .b false, .b false, .b false, .b false, .b false, .b false, .b false, .b false, .b false, .b false, .b false, .b false, .b false, .b false, .b false, .b false, .b false, .b false, .b false, .b false, .b false, .b false, .b false, .b false, .b false, .b false, .b false, .b false, .b false, .b false, .b false, .b false, .b false, .b false, .b false, .b false, .b false, .b false, .b false, .b false, .b false, .b false, .b false, .b false, .b false, .b false, .b false, .b false, .b false, .b false, .b false, .b false, .b false, .b false, .b false]] (.s [97, 98])
theorem listed_ok : Ev.EntOk Tryz.prog eListed := Ev.entF mixed (k := 5000) (by kernel_rfl) rfl rfl Ev.ora_nil (by kernel_rfl)
abbrev eOpen : Ev.Ent := .c F.block_Open [.g [.s [98, 97], .i .i64 (.ofNat 0), .i .u32 (.ofNat 3918790093)]] (.t [.s [97, 98], .i .i64 (.ofNat 0)])
theorem open_ok : Ev.EntOk Tryz.prog eOpen := Ev.entF mixed (k := 5000) (by kernel_rfl) rfl rfl T02.known_ok (by kernel_rfl)
abbrev d1 : Ev.Ent := .c F.unstream_Decode [.s []] (.t [.s [], .i .i64 (.ofNat 24)])
theorem d1_ok : Ev.EntOk Tryz.prog d1 := Ev.entF mixed (k := 5000) (by kernel_rfl) rfl rfl T02.known_ok (by kernel_rfl)
abbrev d2 : Ev.Ent := .c F.unstream_Decode [.s [66, 90, 120]] (.t [.s [], .i .i64 (.ofNat 20)])
theorem d2_ok : Ev.EntOk Tryz.prog d2 := Ev.entF mixed (k := 5000) (by kernel_rfl) rfl rfl T02.known_ok (by kernel_rfl)
abbrev d3 : Ev.Ent := .c F.unstream_Decode [.s [66, 90, 104, 57, 23, 114, 69, 56, 80, 144, 0, 0, 0, 0]] (.t [.s [], .i .i64 (.ofNat 0)])
theorem d3_ok : Ev.EntOk Tryz.prog d3 := Ev.entF mixed (k := 5000) (by kernel_rfl) rfl rfl T02.known_ok (by kernel_rfl)
abbrev d4 : Ev.Ent := .c F.unstream_Decode [.s bytes] (.t [.s [97, 98], .i .i64 (.ofNat 0)])
theorem d4_ok : Ev.EntOk Tryz.prog d4 := Ev.entF mixed (k := 5000) (by kernel_rfl) rfl rfl (Ev.ora_cons open_ok (Ev.ora_cons listed_ok T02.known_ok)) (by kernel_rfl)
theorem none_ok : Ev.OraOk Tryz.prog [d1, d2, d3, eWith, d4] := Ev.ora_cons d1_ok (Ev.ora_cons d2_ok (Ev.ora_cons d3_ok (Ev.ora_cons with_ok (Ev.ora_cons d4_ok Ev.ora_nil))))
theorem none_true : Ev.isTrue (Ev.callF Tryz.prog [d1, d2, d3, eWith, d4] (Ev.evF Tryz.prog [d1, d2, d3, eWith, d4] 100) F.balerlaw22_none [] Ev.s0) = true := by kernel_rfl
theorem none_spec (H : Holds w L) (post : ∀ w', Same w w' → Holds w' L → K (.bool true) w') : Cl Tryz.prog F.balerlaw22_none #[] w K := Ev.cl_trueF mixed none_ok none_true H post
end N22
namespace L22
open Go.Mb Go.Q24 P20
variable {w : World} {L : List HProp} {K : Value → World → Prop}
end L22
namespace L22
open Go.M01 Go.Mb Go.Mp Go.Mk Go.M20 Go.Q20 Go.Q24 Go.Q25 P20
variable {w : World} {L : List HProp} {K : Value → World → Prop}
theorem tstep_of {u : US} {t : List UInt8} {l : List Bool} {y : Res (US × Nat)} (h : ustep u l = y) (hy : y ≠ .short) : tstep (u, t) l = tnext t y := by
 unfold tstep; rw [if_neg, h]; rintro ⟨h1, h2⟩; simp only at h1; unfold US.mayEnd at h1; simp only [Bool.and_eq_true, decide_eq_true_eq] at h1; apply hy; rw [← h, h2]; unfold ustep uletter; rw [if_pos h1.1.2, if_pos (by simp)]
theorem cut_ustep {u : US} {xs : List UInt8} {c q : Nat} {y : Res (US × Nat)} (hu : u.Ok) (hq : q ≤ 8 * (xs.take c).length) (h : ustep u (rest (xs.take c) q) = y) (hy : y ≠ .short) : ustep u (rest xs q) = y := by
 have e : rest xs q = rest (xs.take c) q ++ bitsL (xs.drop c) := by
   conv => lhs; rw [← List.take_append_drop c xs]
   unfold rest; rw [bitsL_app, List.drop_append_of_le_length (by rw [bitsL_len]; exact hq)]
 rw [e, ustep_more _ (by rw [bitsL_len]; omega) hu (by rw [h]; exact hy), h]
theorem may_of {u u' : US} {l : List Bool} {k n : Nat} (hu : u.Ok) (h : ustep u l = .ok (u', k) n) : u'.mayEnd = decide (k = 2) := by
 unfold ustep at h; split at h
 · unfold uletter at h
   repeat' split at h
   all_goals first
     | (cases h; simp [US.mayEnd])
     | cases h
 · rename_i hd0; split at h
   · unfold umagic at h
     repeat' split at h
     all_goals first
       | (cases h; simp [US.mayEnd])
       | cases h
   · split at h
     · rename_i hd2; unfold ubody at h; split at h
       · cases h
       · unfold uwith at h; split at h
         · cases h
         · cases h
         · split at h
           · cases h; simp [US.mayEnd]
           · cases h; simp [US.mayEnd, hd2]
     · unfold usum at h
       repeat' split at h
       all_goals first
         | (cases h; simp [US.mayEnd, hu.at0 hd0])
         | cases h
theorem UnstreamSteps_spec (H : Holds w L) (s : ByteArray) (cut unit : Int) (_ : s.size ≤ maxLen) (_ : (Lit.int .i64 cut).wf = true) (_ : (Lit.int .i64 unit).wf = true) (post : ∀ w', Same w w' → Holds w' L → K (.bool true) w') :
   Cl Tryz.prog F.balerlaw22_UnstreamSteps #[.string s, .int .i64 cut, .int .i64 unit] w K := by
 refine Tie.balerlaw22_UnstreamSteps ?_; unfold Vcf.balerlaw22_UnstreamSteps; obtain ⟨xs, rfl⟩ : ∃ xs : List UInt8, s = ⟨xs.toArray⟩ := ⟨s.data.toList, by simp⟩; refine r_join1 (fun y w' => w = w' ∧ y = .bool (decide (150 < (xs.length : Int) ∨ cut < 0 ∨ (xs.length : Int) < cut ∨ ¬ (24 ≤ unit ∧ unit ≤ 100000) ∨ 100 < unit))) ?_ ?_
 rotate_left
 · refine q_len ?_; refine r_gtr (r_ifD (fun h => ?_) fun h => ?_)
   · exact r_ke ⟨rfl, by rw [decide_eq_true (by omega)]⟩
   · refine r_lss (r_ifD (fun h2 => ?_) fun h2 => ?_)
     · exact r_ke ⟨rfl, by rw [decide_eq_true (by omega)]⟩
     · refine q_len ?_; refine r_gtr (r_ifD (fun h3 => ?_) fun h3 => ?_)
       · exact r_ke ⟨rfl, by rw [decide_eq_true (by omega)]⟩
       · refine Unit_spec ?_
         by_cases h4 : 24 ≤ unit ∧ unit ≤ 100000
         · rw [decide_eq_true h4]; refine r_notT (r_vf ?_); exact r_gtr (r_ke ⟨rfl, congrArg Value.bool (by rw [Bool.eq_iff_iff, decide_eq_true_iff, decide_eq_true_iff]; omega)⟩)
         · rw [decide_eq_false h4]; refine r_notF (r_vt ?_); exact r_ke ⟨rfl, by rw [decide_eq_true (by omega)]⟩
 rintro _ _ _ ⟨rfl, rfl⟩; refine r_ifD (fun h => ?_) fun h => ?_
 · exact N22.none_spec H post
 obtain ⟨c, rfl⟩ : ∃ c : Nat, cut = (c : Int) := ⟨cut.toNat, by omega⟩; obtain ⟨n, rfl⟩ : ∃ n : Nat, unit = (n : Int) := ⟨unit.toNat, by omega⟩
 have hcl : (xs.take c).length = c := by rw [List.length_take]; omega
 have hz : (zeroP Tryz.prog tGo).cells.toList = [S_ [], iv 0] := by kernel_rfl
 refine U22.New_spec H (by omega) (by omega) fun b w1 S1 H1 => ?_; refine r_ex20 (r_ex21 ?_); refine q_T (m := c) (by omega) ?_; refine Rb.NewReader_spec H1 (by omega) fun r w2 S2 H2 => ?_; refine RWith_spec H2 (by omega) (by omega) (by omega) fun o hc w3 S3 H3 => ?_; refine r_new H3 fun ob w4 S4 H4 => ?_; rw [hz] at H4; refine r_stA 0 H4 (vs := [S_ (tT o), nv (tE o)]) rfl (Nat.le_refl 2) rfl rfl fun w5 S5 H5 => ?_; replace H5 : Holds w5 (blk ob tGo [S_ (tT o), nv (tE o)] :: Rb.RdR r (xs.take c) 0 0 :: U22.UsR b (u0 n) :: L) := H5; replace H5 : Holds w5 (U22.UsR b (u0 n) :: Rb.RdR r (xs.take c) 0 0 :: blk ob tGo [S_ (tT o), nv (tE o)] :: L) := (by have h_ := Holds.ord 3 [2, 1, 0] H5 rfl; exact h_); have S := (((S1.trans S2).trans S3).trans S4).trans S5; clear H H1 H2 H3 H4 S1 S2 S3 S4 S5; refine r_join1 (fun y w' => y = .bool false ∧ Same w w' ∧ Holds w' (U22.UsR b (u0 n) :: Rb.RdR r (xs.take c) 0 0 :: blk ob tGo [S_ (tT o), nv (tE o)] :: L)) ?_ ?_
 rotate_left
 · refine r_neq (r_vfN rfl ?_); refine U22.MayEnd_spec H5 ?_; refine r_vf ?_; refine U22.Got_spec H5 fun w6 S6 H6 => ?_; refine r_bd (v := .agg #[S_ [], iv 0, uv 0]) (by kernel_rfl) ?_; refine r_be (v := .bool false) (by kernel_rfl) ?_; exact r_ke ⟨rfl, S.trans S6, H6⟩
 clear S H5; rintro _ _ w5 ⟨rfl, S, H5⟩; refine r_vf ?_; refine q_len ?_; refine r_mulE ((8 * xs.length : Nat) : Int) (by simp) (by omega) (by omega) ?_; refine r_mulE ((10 * n : Nat) : Int) (by simp) (by omega) (by omega) ?_; refine q_len ?_
 have hq20 : ((xs.length : Nat) : Int).tdiv 20 = ((xs.length / 20 : Nat) : Int) := by rw [Int.tdiv_eq_ediv_of_nonneg (by omega)]; simp
 refine r_quoE hq20 (by omega) (by omega) (by omega) ?_; refine r_addN (b := 2) (by omega) ?_; have hmm : 10 * n * (xs.length / 20 + 2) ≤ 10 * 100 * (150 / 20 + 2) := Nat.mul_le_mul (by omega) (by omega); refine r_mulE ((10 * n * (xs.length / 20 + 2) : Nat) : Int) (by simp) (by omega) (by omega) ?_; refine r_addN (by omega) ?_
 refine r_loop3 (fun cv av iv_ w' => ∃ (i j q m d : Nat) (u : US) (t : List UInt8) (come : Bool), cv = .bool come ∧ av = S_ t ∧ iv_ = nv i ∧ TRun (u0 n, []) (bitsL xs) (u, t) q ∧ Cnt u q j m ∧ i = j + come.toNat ∧
     u.unit = n ∧ t.length ≤ 229500000 * m ∧ Same w w' ∧ Holds w' (U22.UsR b u :: Rb.RdR r (if come then xs else xs.take c) d q :: blk ob tGo [S_ (tT o), nv (tE o)] :: L))
   (fun _ _ iv_ _ => 8 * xs.length + 10 * n * (xs.length / 20 + 2) - (RowKit.intOf iv_).toNat) ⟨0, 0, 0, 0, 0, u0 n, [], false, rfl, rfl, rfl, .start, cnt0 n, rfl, rfl, Nat.zero_le _, S, H5⟩ ?_
 clear H5 S; rintro _ _ _ _ w6 ⟨i, j, q, m, d, u, t, come, rfl, rfl, rfl, hr, hcnt, hij, hun, htl, S, H⟩; have hu := (U22.UsR_open H).1
 have hB : (if come then xs else xs.take c).length ≤ xs.length := by
   cases come with
   | true => exact Nat.le_refl _
   | false => show (xs.take c).length ≤ xs.length; omega
 have hq := (Rb.RdR_open H.drop).1.2.1; have hrl := rest_len (if come then xs else xs.take c) q; have hct := Bool.toNat_le come; have hlt := cnt_lt (n := xs.length) hu hcnt (by omega); rw [hun] at hlt; have hbits := hcnt.bits; have hrest : (bitsL xs).drop q = rest xs q := rfl; refine r_lss (r_vtD (by omega) ?_); refine r_join1 (fun y w' => y = .bool (u.mayEnd && decide (rest (if come then xs else xs.take c) q = []) && come) ∧ Same w w' ∧ Holds w' (U22.UsR b u :: Rb.RdR r (if come then xs else xs.take c) d q :: blk ob tGo [S_ (tT o), nv (tE o)] :: L)) ?_ ?_
 rotate_left
 · refine U22.MayEnd_spec H ?_
   cases hme : u.mayEnd with
   | false =>
     refine r_vf ?_; exact r_ke ⟨rfl, S, H⟩
   | true =>
     refine r_vt ?_; refine Rb.Left_spec H.swap fun w7 S7 H7 => ?_; refine r_eql (r_ifE (fun h2 => ?_) fun h2 => ?_)
     · refine r_ke ⟨congrArg Value.bool ?_, S.trans S7, H7.swap⟩; rw [decide_eq_true (List.length_eq_zero_iff.1 (by omega))]; rfl
     · refine r_ke ⟨congrArg Value.bool ?_, S.trans S7, H7.swap⟩; rw [decide_eq_false (fun e => h2 (by rw [e]; rfl))]; rfl
 clear S H; rintro _ _ w7 ⟨rfl, S, H⟩
 cases hend : (u.mayEnd && decide (rest (if come then xs else xs.take c) q = []) && come) with
 | true =>
   refine r_vt ?_
   obtain ⟨⟨h2, h3⟩, rfl⟩ : (u.mayEnd = true ∧ rest (if come then xs else xs.take c) q = []) ∧ come = true := by simpa using hend
   have h3' : rest xs q = [] := h3; obtain rfl : o = .got t := hc.det ⟨(u, t), q, hr, .inr (.inl ⟨by unfold tstep; rw [if_pos ⟨h2, h3'⟩], rfl⟩)⟩; refine r_fo0 (r_ld 2 H rfl rfl ?_); refine r_eql (r_vtE rfl ?_); refine r_fo0 (r_ld 2 H rfl rfl ?_); refine r_seqL (r_vtD rfl ?_)
   have hd0 : u.due = 0 := by
     unfold US.mayEnd at h2; simp only [Bool.and_eq_true, decide_eq_true_eq] at h2; exact h2.1.2
   refine U22.Held_none H (hu.none_ (by omega)) ?_; refine r_eql (r_vtE rfl ?_); exact N22.none_spec H fun w8 S8 H8 => post _ (S.trans S8) H8.drop.drop.drop
 | false =>
   refine r_vf ?_; refine Rb.At_spec H.drop ?_; refine U22.Step_spec H fun wt e w8 S8 hA => ?_; refine r_ex20 (r_ex21 ?_); replace S := S.trans S8
   have hstep : ∀ y, ustep u (rest (if come then xs else xs.take c) q) = y → y ≠ .short → tstep (u, t) ((bitsL xs).drop q) = tnext t y := by
     intro y hy hne; refine tstep_of ?_ hne
     cases come with
     | true => exact hy
     | false => exact cut_ustep hu hq hy hne
   cases hx : ustep u (rest (if come then xs else xs.take c) q) with
   | short =>
     rw [hx] at hA; obtain ⟨rfl, rfl, H8⟩ := hA; refine r_join1 (fun y w' => w8 = w' ∧ y = .bool false) ?_ ?_
     rotate_left
     · refine r_neq (r_vtN (by decide) ?_); exact r_neq (r_ke ⟨rfl, rfl⟩)
     rintro _ _ _ ⟨rfl, rfl⟩; refine r_vf ?_; refine r_join1 (fun y w' => come = false ∧ y = .bool true ∧ Same w w' ∧ ∃ d', Holds w' (U22.UsR b u :: Rb.RdR r xs d' q :: blk ob tGo [S_ (tT o), nv (tE o)] :: L)) ?_ ?_
     rotate_left
     · refine r_eql (r_vfE (by decide) ?_); refine r_eql (r_vtE rfl ?_); refine Rb.At_spec H8.drop ?_; refine r_neq (r_vfN rfl ?_)
       cases come with
       | true =>
         refine r_vt ?_
         have hne : ¬ (u.mayEnd = true ∧ rest xs q = []) := by
           rintro ⟨h2, h3⟩; rw [show (if true = true then xs else xs.take c) = xs from rfl, h2, h3] at hend; simp at hend
         obtain rfl : o = .bad 24 := hc.det ⟨(u, t), q, hr, .inl ⟨by
           unfold tstep; rw [hrest, if_neg hne, show ustep u (rest xs q) = .short from hx]
           rfl, rfl⟩⟩
         refine r_fo0 (r_ld 2 H8 rfl rfl ?_); refine r_eql (r_vtE rfl ?_); exact N22.none_spec H8 fun w9 S9 H9 => post _ (S.trans S9) H9.drop.drop.drop
       | false =>
         refine r_vf ?_; refine q_D (m := c) (by omega) ?_; have H8' : Holds w8 (Rb.RdR r (xs.take c) d q :: U22.UsR b u :: blk ob tGo [S_ (tT o), nv (tE o)] :: L) := H8.swap; refine Rb.More_spec H8' (by rw [List.length_drop]; omega) fun w9 S9 H9 => ?_; rw [List.take_append_drop] at H9; refine Rb.Drop_spec H9 fun wa v Sa Ha => ?_; exact r_ke ⟨rfl, rfl, (S.trans S9).trans Sa, _, Ha.swap⟩
     clear S H H8; rintro _ _ w9 ⟨rfl, rfl, S, d', H9⟩; refine r_join1 (fun y w' => w9 = w' ∧ y = S_ t) ?_ ?_
     rotate_left
     · refine r_eql (r_vfE (by decide) ?_); exact r_ke ⟨rfl, rfl⟩
     rintro _ _ _ ⟨rfl, rfl⟩; refine r_join1 (fun y w' => w9 = w' ∧ y = .bool false) ?_ ?_
     rotate_left
     · refine r_eql ?_; refine r_eql (r_vfE (by decide) ?_); exact r_bb (r_ke ⟨rfl, rfl⟩)
     rintro _ _ _ ⟨rfl, rfl⟩; refine r_vf ?_; refine r_add1N (by omega) ?_; refine r_ke ⟨⟨i + 1, j, q, m, d', u, t, true, rfl, rfl, rfl, hr, hcnt, by rw [hij]; rfl, hun, htl, S, H9⟩, ?_⟩; simp only [nv, RowKit.intOf, Int.toNat_natCast]; omega
   | bad e' =>
     have hcb := ustep_bad hu hx; rw [hx] at hA; obtain ⟨rfl, rfl, q', H8⟩ := hA; obtain rfl : o = .bad e' := hc.det ⟨(u, t), q, hr, .inr (.inr ⟨e', by omega, hstep _ hx (by intro h; cases h), rfl⟩)⟩; refine r_join1 (fun y w' => w8 = w' ∧ y = .bool false) ?_ ?_
     rotate_left
     · refine r_neq (r_vtN (by omega) ?_); exact r_neq (r_ke ⟨rfl, rfl⟩)
     rintro _ _ _ ⟨rfl, rfl⟩; refine r_vf ?_; refine r_join1 (fun _ _ => False) (fun _ _ _ h => h.elim) ?_; refine r_eql (r_vfE (by omega) ?_); refine r_eql (r_vfE (by omega) ?_); refine U22.StepBad_spec H8 (by omega) fun w9 S9 H9 => ?_; refine r_ex20 (r_ex21 ?_); refine r_fo0 (r_ld 2 H9 rfl rfl ?_); refine r_eql (r_vtE rfl ?_); refine r_eql (r_vtE rfl ?_); refine U22.MayEndBad_spec H9 (by omega) ?_; refine r_notF (r_vt ?_); exact N22.none_spec H9 fun wa Sa Ha => post _ ((S.trans S9).trans Sa) Ha.drop.drop.drop
   | ok y n' =>
     obtain ⟨u', kk⟩ := y; have hts := hstep _ hx (by intro h; cases h); have hcn := ustep_cnt hu hcnt hx; have hok' := ustep_ok hu hx; have hmay := may_of hu hx; rw [hx] at hA; obtain ⟨rfl, rfl, H8⟩ := hA; refine r_join1 (fun y w' => w8 = w' ∧ y = .bool false) ?_ ?_
     rotate_left
     · refine r_neq (r_vfN rfl ?_); exact r_ke ⟨rfl, rfl⟩
     rintro _ _ _ ⟨rfl, rfl⟩; refine r_vf ?_; refine r_join1 (fun y w' => w8 = w' ∧ y = .bool come) ?_ ?_
     rotate_left
     · refine r_eql (r_vtE rfl ?_); exact r_ke ⟨rfl, rfl⟩
     rintro _ _ _ ⟨rfl, rfl⟩
     refine r_join1 (fun y w' => ∃ t', y = S_ t' ∧ TRun (u0 n, []) (bitsL xs) (u', t') (q + n') ∧ t'.length ≤ 229500000 * (m + if kk = 1 then 1 else 0) ∧ Same w w' ∧
       Holds w' (U22.UsR b u' :: Rb.RdR r (if come then xs else xs.take c) d (q + n') :: blk ob tGo [S_ (tT o), nv (tE o)] :: L)) ?_ ?_
     rotate_left
     · refine r_eql (r_ifE (fun h3 => ?_) fun h3 => ?_)
       · obtain rfl : kk = 1 := by omega
         simp only [tnext, if_true] at hts; refine U22.Got_spec H8 fun w9 S9 H9 => ?_; refine r_new H9 fun gb wa Sa Ha => ?_; rw [show (zeroP Tryz.prog 40).cells.toList = B20.gotV [] 0 0 from B20.got_zero] at Ha; refine r_stA 0 Ha (vs := B20.gotV u'.last u'.frm u'.sum) rfl (Nat.le_refl 3) rfl rfl fun wb Sb Hb => ?_; replace Hb : Holds wb (blk gb B20.tGt (B20.gotV u'.last u'.frm u'.sum) :: U22.UsR b u' :: Rb.RdR r (if come then xs else xs.take c) d (q + n') :: blk ob tGo [S_ (tT o), nv (tE o)] :: L) := Hb; refine r_fo0 (r_ld 0 Hb rfl rfl ?_); refine r_fo0 (r_ld 0 Hb rfl rfl ?_); refine r_fo0 (r_ld 0 Hb rfl rfl ?_); refine r_bd (v := .agg (O20.gotV u'.last u'.frm u'.sum).toArray) (by kernel_rfl) ?_; refine O20.ROpen_spec (l := u'.last) (o := (u'.frm : Int)) (s := (u'.sum : Int)) Hb hok'.1.last fun wc Sc Hc => ?_; refine r_ex20 (r_ex21 ?_); have hoe := opn_err u'.last u'.frm u'.sum; have hol := opn_len u'.last u'.frm u'.sum; have hlast := hok'.1.last; refine r_neq (r_ifN (fun h4 => ?_) fun h4 => ?_)
         · rw [if_neg h4] at hts; obtain rfl : o = .bad (opn u'.last (u'.frm : Int) (u'.sum : Int)).2.toNat := hc.det ⟨(u, t), q, hr, .inr (.inr ⟨_, by omega, hts, rfl⟩)⟩; refine r_fo0 (r_ld 3 Hc rfl rfl ?_); refine r_eql (r_vtE (by show _ = (((opn u'.last (u'.frm : Int) (u'.sum : Int)).2.toNat : Nat) : Int); omega) ?_); exact N22.none_spec Hc fun wd Sd Hd => post _ (((((S.trans S9).trans Sa).trans Sb).trans Sc).trans Sd) Hd.drop.drop.drop.drop
         · rw [if_pos h4] at hts; refine r_catL (by omega) ?_; exact r_ke ⟨_, rfl, hr.next rfl hts, by rw [List.length_append, if_pos rfl]; omega, (((S.trans S9).trans Sa).trans Sb).trans Sc, Hc.drop⟩
       · have h3' : ¬ kk = 1 := by omega
         simp only [tnext, if_neg h3'] at hts; exact r_ke ⟨t, rfl, hr.next rfl hts, by rw [if_neg h3']; omega, S, H8⟩
     clear S H H8; rintro _ _ w9 ⟨t', rfl, hr', htl', S, H9⟩; refine r_join1 (fun y w' => w9 = w' ∧ y = .bool false) ?_ ?_
     rotate_left
     · refine r_eql ?_; refine r_eql (r_vtE rfl ?_); refine U22.MayEnd_spec H9 ?_; rw [hmay]; refine r_bb (r_ke ⟨rfl, congrArg Value.bool ?_⟩)
       by_cases h5 : kk = 2
       · subst h5; rfl
       · rw [decide_eq_false h5, show ((kk : Int) == 2) = false from beq_eq_false_iff_ne.2 (by omega)]; rfl
     rintro _ _ _ ⟨rfl, rfl⟩; refine r_vf ?_; refine r_add1N (by omega) ?_; refine r_ke ⟨⟨i + 1, j + 1, q + n', _, d, u', t', come, rfl, rfl, rfl, hr', hcn, by omega, by rw [hok'.2]; exact hun, htl', S, H9⟩, ?_⟩; simp only [nv, RowKit.intOf, Int.toNat_natCast]; omega
end L22
end Go.Proofs.YtlppejfnjhkbpaaGreat
