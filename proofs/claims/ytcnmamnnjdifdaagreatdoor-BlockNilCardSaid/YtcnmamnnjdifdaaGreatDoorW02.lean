/- Chapter 2: the sums' table. -/
import Derived.Test.YtcnmamnnjdifdaaGreatDoorSr
import Derived.Test.YtcnmamnnjdifdaaGreatDoorFm
set_option linter.unusedVariables false
set_option linter.unusedSimpArgs false
namespace Go.M02
def crcStep (s : Nat) : Nat := (s * 2 % 4294967296) ^^^ (s / 2147483648 * 79764919)
def crcN (s : Nat) : Nat → Nat
  | 0 => s
  | k + 1 => crcStep (crcN s k)
def crcTab (b : Nat) : Nat := crcN (b * 16777216) 8
def tabL : List Nat := (List.range 256).map crcTab
theorem crcStep_lt (s : Nat) (h : s < 4294967296) : crcStep s < 4294967296 := by
  unfold crcStep
  have h1 : s / 2147483648 ≤ 1 := by omega
  have h2 : s / 2147483648 * 79764919 ≤ 1 * 79764919 := Nat.mul_le_mul_right _ h1
  exact Nat.xor_lt_two_pow (n := 32) (by omega) (by omega)
theorem crcN_lt (s : Nat) (h : s < 4294967296) : ∀ k, crcN s k < 4294967296
  | 0 => h
  | k + 1 => crcStep_lt _ (crcN_lt s h k)
theorem tabL_len : tabL.length = 256 := by simp [tabL]
theorem tabL_get (i : Nat) (h : i < 256) : tabL[i]? = some (crcTab i) := by simp [tabL, h]
end Go.M02
namespace Go.Proofs.YtcnmamnnjdifdaaGreatDoor
open Go Go.Vc
attribute [local irreducible] Go.Vc.Nc Go.Vc.Ld Go.Vc.LdA Go.Vc.St Go.Vc.StA Go.Vc.Fo Go.Vc.Iaa Go.Vc.Ias Go.Vc.Ixs Go.Vc.Ixa Go.Vc.Fd Go.Vc.FdA Go.Vc.Bp Go.Vc.Bb Go.Vc.Bn Go.Vc.Up Go.Vc.Ci Go.Vc.Lns Go.Vc.Lnl Go.Vc.Ex Go.Vc.Sst Go.Vc.Ssl Go.Vc.New Go.Vc.Vif Go.Vc.VJoin Go.Vc.VLoop Go.Vc.KE Go.Vc.Dr Go.Vc.Rk Go.Vc.Cl Go.Vc.Cx Go.Vc.Inv Go.Vc.Be Go.Vc.Cv Go.Vc.Cw Go.Vc.Mf Go.Vc.Sl Go.Vc.Lk Go.Vc.Bd Go.Vc.Bs Go.Vc.Ms Go.Vc.Mm Go.Vc.Mu Go.Vc.Me Go.Vc.Es Go.Vc.Rg Go.Vc.Nx Go.Vc.Ta Go.Vc.Ap Go.Vc.Usd Go.Vc.Ust Go.Vc.Cp Go.Vc.Ln Go.Vc.Bc Go.Vc.Bmin Go.Vc.Bmax Go.Vc.Bdel Go.Vc.Bclr Go.Vc.Pk
namespace W02
open Go.M02
variable {w : World} {L : List HProp} {K : Value → World → Prop}
abbrev tTab : Nat := 133
theorem Table_spec (H : Holds w L) (post : ∀ w', Same w w' → Holds w' L → K (.agg (tabL.map uv).toArray) w') : Cl Tryz.prog F.crc_Table #[] w K := by
  refine Tie.crc_Table ?_
  unfold Vcf.crc_Table
  have hz : (zeroP Tryz.prog tTab).cells.toList = (List.replicate 256 0).map uv := by kernel_rfl
  refine r_new H fun b1 w1 S1 H1 => ?_
  rw [hz] at H1
  refine r_new H1 fun b2 w2 S2 H2 => ?_
  rw [hz] at H2
  refine r_loop1 (fun x w' => ∃ i : Nat, i ≤ 256 ∧ x = nv i ∧ Same w w' ∧ Holds w' (blk b2 tTab ((filled tabL 0 256 i).map uv) :: blk b1 tTab ((List.replicate 256 0).map uv) :: L))
    (fun x _ => 256 - (RowKit.intOf x).toNat) ⟨0, by omega, rfl, S1.trans S2, by rw [filled_zero]; exact H2⟩ ?_
  clear H H1 H2 S1 S2
  rintro _ _ w3 ⟨i, hi, rfl, S, H⟩
  repeat (first | refine r_nc ?_ | refine r_fo0 ?_ | refine r_fo ?_ | refine r_ke ?_ | refine r_lns ?_ | refine r_lnl ?_ | refine r_eql ?_ | refine r_neq ?_ | refine r_lss ?_ | refine r_leq ?_ | refine r_gtr ?_ | refine r_geq ?_ | refine r_seq0 ?_ | refine r_sne0 ?_ | refine r_seq ?_ | refine r_sne ?_ | (with_reducible refine r_notT ?_) | (with_reducible refine r_notF ?_) | refine r_not ?_ | (with_reducible refine r_bnST ?_) | (with_reducible refine r_bnSF ?_) | (with_reducible refine r_bnNT ?_) | (with_reducible refine r_bnNF ?_) | (with_reducible refine r_ex20 ?_) | (with_reducible refine r_ex21 ?_) | (with_reducible refine r_ex30 ?_) | (with_reducible refine r_ex31 ?_) | (with_reducible refine r_ex32 ?_) | (with_reducible refine r_vt ?_) | (with_reducible refine r_vf ?_) | refine r_bb ?_ | (with_reducible refine r_pkT ?_) | (with_reducible refine r_pkF ?_) | (with_reducible refine r_pkB ?_) | refine r_ex rfl ?_ | (refine r_ci64 (by omega) (by omega) ?_) | (refine r_ciu8 (by omega) (by omega) ?_) | (refine r_ciu32 (by omega) (by omega) ?_) | refine r_ci ?_ | (refine r_add1N (by omega) ?_) | (refine r_sub1N (by omega) (by omega) ?_) | (refine r_addN (by omega) ?_) | (refine r_add (by omega) (by omega) ?_) | (refine r_ixsN (by omega) ?_) | (refine r_iaaN (by omega) ?_) | (refine r_sub (by omega) (by omega) ?_) | (refine r_mul (by omega) (by omega) ?_) | (refine r_dr H ?_; clear H; intro _ S_ H; replace S := S.trans S_; clear S_) | refine r_ld 0 H rfl rfl ?_ | refine r_ld 1 H rfl rfl ?_ | refine r_ld 2 H rfl rfl ?_ | refine r_ld 3 H rfl rfl ?_ | refine r_ld 4 H rfl rfl ?_ | ((with_reducible refine r_vtD ?h ?_); (case h => omega)) | ((with_reducible refine r_vfD ?h ?_); (case h => omega)) | ((with_reducible refine r_vtE ?h ?_); (case h => omega)) | ((with_reducible refine r_vfE ?h ?_); (case h => omega)) | ((with_reducible refine r_vtN ?h ?_); (case h => omega)) | ((with_reducible refine r_vfN ?h ?_); (case h => omega)))
  refine r_ifD (fun h => ?_) fun h => ?_
  · have hlt : i < 256 := by omega
    refine r_ciu32 (by omega) (by omega) ?_
    refine r_shlU32 (n := 24) (by omega) ?_
    rw [show i * 2 ^ 24 % 4294967296 = crcN (i * 16777216) 0 by show _ = i * 16777216; omega]
    refine r_loop2 (fun s x w' => w3 = w' ∧ ∃ j : Nat, j ≤ 8 ∧ x = nv j ∧ s = uv (crcN (i * 16777216) j)) (fun _ x _ => 8 - (RowKit.intOf x).toNat) ⟨rfl, 0, by omega, rfl, rfl⟩ ?_
    rintro _ _ _ _ ⟨rfl, j, hj, rfl, rfl⟩
    have hc := crcN_lt (i * 16777216) (by omega) j
    repeat (first | refine r_nc ?_ | refine r_fo0 ?_ | refine r_fo ?_ | refine r_ke ?_ | refine r_lns ?_ | refine r_lnl ?_ | refine r_eql ?_ | refine r_neq ?_ | refine r_lss ?_ | refine r_leq ?_ | refine r_gtr ?_ | refine r_geq ?_ | refine r_seq0 ?_ | refine r_sne0 ?_ | refine r_seq ?_ | refine r_sne ?_ | (with_reducible refine r_notT ?_) | (with_reducible refine r_notF ?_) | refine r_not ?_ | (with_reducible refine r_bnST ?_) | (with_reducible refine r_bnSF ?_) | (with_reducible refine r_bnNT ?_) | (with_reducible refine r_bnNF ?_) | (with_reducible refine r_ex20 ?_) | (with_reducible refine r_ex21 ?_) | (with_reducible refine r_ex30 ?_) | (with_reducible refine r_ex31 ?_) | (with_reducible refine r_ex32 ?_) | (with_reducible refine r_vt ?_) | (with_reducible refine r_vf ?_) | refine r_bb ?_ | (with_reducible refine r_pkT ?_) | (with_reducible refine r_pkF ?_) | (with_reducible refine r_pkB ?_) | refine r_ex rfl ?_ | (refine r_ci64 (by omega) (by omega) ?_) | (refine r_ciu8 (by omega) (by omega) ?_) | (refine r_ciu32 (by omega) (by omega) ?_) | refine r_ci ?_ | (refine r_add1N (by omega) ?_) | (refine r_sub1N (by omega) (by omega) ?_) | (refine r_addN (by omega) ?_) | (refine r_add (by omega) (by omega) ?_) | (refine r_ixsN (by omega) ?_) | (refine r_iaaN (by omega) ?_) | (refine r_sub (by omega) (by omega) ?_) | (refine r_mul (by omega) (by omega) ?_) | (refine r_dr H ?_; clear H; intro _ S_ H; replace S := S.trans S_; clear S_) | refine r_ld 0 H rfl rfl ?_ | refine r_ld 1 H rfl rfl ?_ | refine r_ld 2 H rfl rfl ?_ | refine r_ld 3 H rfl rfl ?_ | refine r_ld 4 H rfl rfl ?_ | ((with_reducible refine r_vtD ?h ?_); (case h => omega)) | ((with_reducible refine r_vfD ?h ?_); (case h => omega)) | ((with_reducible refine r_vtE ?h ?_); (case h => omega)) | ((with_reducible refine r_vfE ?h ?_); (case h => omega)) | ((with_reducible refine r_vtN ?h ?_); (case h => omega)) | ((with_reducible refine r_vfN ?h ?_); (case h => omega)))
    refine r_ifD (fun h2 => ?_) fun h2 => ?_
    · have h3 : crcN (i * 16777216) j / 2147483648 ≤ 1 := by omega
      have h4 : crcN (i * 16777216) j / 2147483648 * 79764919 ≤ 1 * 79764919 := Nat.mul_le_mul_right _ h3
      refine r_shrU (n := 31) (by decide) ?_
      refine r_shlU32 (n := 1) (by omega) ?_
      refine r_mulU32 (t := 79764919) (by omega) ?_
      refine r_xorU32 (by omega) (by omega) ?_
      repeat (first | refine r_nc ?_ | refine r_fo0 ?_ | refine r_fo ?_ | refine r_ke ?_ | refine r_lns ?_ | refine r_lnl ?_ | refine r_eql ?_ | refine r_neq ?_ | refine r_lss ?_ | refine r_leq ?_ | refine r_gtr ?_ | refine r_geq ?_ | refine r_seq0 ?_ | refine r_sne0 ?_ | refine r_seq ?_ | refine r_sne ?_ | (with_reducible refine r_notT ?_) | (with_reducible refine r_notF ?_) | refine r_not ?_ | (with_reducible refine r_bnST ?_) | (with_reducible refine r_bnSF ?_) | (with_reducible refine r_bnNT ?_) | (with_reducible refine r_bnNF ?_) | (with_reducible refine r_ex20 ?_) | (with_reducible refine r_ex21 ?_) | (with_reducible refine r_ex30 ?_) | (with_reducible refine r_ex31 ?_) | (with_reducible refine r_ex32 ?_) | (with_reducible refine r_vt ?_) | (with_reducible refine r_vf ?_) | refine r_bb ?_ | (with_reducible refine r_pkT ?_) | (with_reducible refine r_pkF ?_) | (with_reducible refine r_pkB ?_) | refine r_ex rfl ?_ | (refine r_ci64 (by omega) (by omega) ?_) | (refine r_ciu8 (by omega) (by omega) ?_) | (refine r_ciu32 (by omega) (by omega) ?_) | refine r_ci ?_ | (refine r_add1N (by omega) ?_) | (refine r_sub1N (by omega) (by omega) ?_) | (refine r_addN (by omega) ?_) | (refine r_add (by omega) (by omega) ?_) | (refine r_ixsN (by omega) ?_) | (refine r_iaaN (by omega) ?_) | (refine r_sub (by omega) (by omega) ?_) | (refine r_mul (by omega) (by omega) ?_) | (refine r_dr H ?_; clear H; intro _ S_ H; replace S := S.trans S_; clear S_) | refine r_ld 0 H rfl rfl ?_ | refine r_ld 1 H rfl rfl ?_ | refine r_ld 2 H rfl rfl ?_ | refine r_ld 3 H rfl rfl ?_ | refine r_ld 4 H rfl rfl ?_ | ((with_reducible refine r_vtD ?h ?_); (case h => omega)) | ((with_reducible refine r_vfD ?h ?_); (case h => omega)) | ((with_reducible refine r_vtE ?h ?_); (case h => omega)) | ((with_reducible refine r_vfE ?h ?_); (case h => omega)) | ((with_reducible refine r_vtN ?h ?_); (case h => omega)) | ((with_reducible refine r_vfN ?h ?_); (case h => omega)))
      refine ⟨⟨rfl, j + 1, by omega, rfl, rfl⟩, ?_⟩
      simp [nv, RowKit.intOf]
      omega
    · obtain rfl : j = 8 := by omega
      repeat (first | refine r_nc ?_ | refine r_fo0 ?_ | refine r_fo ?_ | refine r_ke ?_ | refine r_lns ?_ | refine r_lnl ?_ | refine r_eql ?_ | refine r_neq ?_ | refine r_lss ?_ | refine r_leq ?_ | refine r_gtr ?_ | refine r_geq ?_ | refine r_seq0 ?_ | refine r_sne0 ?_ | refine r_seq ?_ | refine r_sne ?_ | (with_reducible refine r_notT ?_) | (with_reducible refine r_notF ?_) | refine r_not ?_ | (with_reducible refine r_bnST ?_) | (with_reducible refine r_bnSF ?_) | (with_reducible refine r_bnNT ?_) | (with_reducible refine r_bnNF ?_) | (with_reducible refine r_ex20 ?_) | (with_reducible refine r_ex21 ?_) | (with_reducible refine r_ex30 ?_) | (with_reducible refine r_ex31 ?_) | (with_reducible refine r_ex32 ?_) | (with_reducible refine r_vt ?_) | (with_reducible refine r_vf ?_) | refine r_bb ?_ | (with_reducible refine r_pkT ?_) | (with_reducible refine r_pkF ?_) | (with_reducible refine r_pkB ?_) | refine r_ex rfl ?_ | (refine r_ci64 (by omega) (by omega) ?_) | (refine r_ciu8 (by omega) (by omega) ?_) | (refine r_ciu32 (by omega) (by omega) ?_) | refine r_ci ?_ | (refine r_add1N (by omega) ?_) | (refine r_sub1N (by omega) (by omega) ?_) | (refine r_addN (by omega) ?_) | (refine r_add (by omega) (by omega) ?_) | (refine r_ixsN (by omega) ?_) | (refine r_iaaN (by omega) ?_) | (refine r_sub (by omega) (by omega) ?_) | (refine r_mul (by omega) (by omega) ?_) | (refine r_dr H ?_; clear H; intro _ S_ H; replace S := S.trans S_; clear S_) | refine r_ld 0 H rfl rfl ?_ | refine r_ld 1 H rfl rfl ?_ | refine r_ld 2 H rfl rfl ?_ | refine r_ld 3 H rfl rfl ?_ | refine r_ld 4 H rfl rfl ?_ | ((with_reducible refine r_vtD ?h ?_); (case h => omega)) | ((with_reducible refine r_vfD ?h ?_); (case h => omega)) | ((with_reducible refine r_vtE ?h ?_); (case h => omega)) | ((with_reducible refine r_vfE ?h ?_); (case h => omega)) | ((with_reducible refine r_vtN ?h ?_); (case h => omega)) | ((with_reducible refine r_vfN ?h ?_); (case h => omega)))
      refine r_st 0 H rfl (by rw [List.length_map, filled_len (by omega) tabL_len]; omega) rfl fun w4 S4 H4 => ?_
      have hset : ((filled tabL 0 256 i).map uv).set (0 + i) (uv (crcN (i * 16777216) 8)) = (filled tabL 0 256 (i + 1)).map uv := by
        rw [Nat.zero_add, ← List.map_set]
        exact congrArg (List.map uv) (filled_set (z := 0) hlt tabL_len (tabL_get i hlt))
      rw [List.set_cons_zero, hset] at H4
      repeat (first | refine r_nc ?_ | refine r_fo0 ?_ | refine r_fo ?_ | refine r_ke ?_ | refine r_lns ?_ | refine r_lnl ?_ | refine r_eql ?_ | refine r_neq ?_ | refine r_lss ?_ | refine r_leq ?_ | refine r_gtr ?_ | refine r_geq ?_ | refine r_seq0 ?_ | refine r_sne0 ?_ | refine r_seq ?_ | refine r_sne ?_ | (with_reducible refine r_notT ?_) | (with_reducible refine r_notF ?_) | refine r_not ?_ | (with_reducible refine r_bnST ?_) | (with_reducible refine r_bnSF ?_) | (with_reducible refine r_bnNT ?_) | (with_reducible refine r_bnNF ?_) | (with_reducible refine r_ex20 ?_) | (with_reducible refine r_ex21 ?_) | (with_reducible refine r_ex30 ?_) | (with_reducible refine r_ex31 ?_) | (with_reducible refine r_ex32 ?_) | (with_reducible refine r_vt ?_) | (with_reducible refine r_vf ?_) | refine r_bb ?_ | (with_reducible refine r_pkT ?_) | (with_reducible refine r_pkF ?_) | (with_reducible refine r_pkB ?_) | refine r_ex rfl ?_ | (refine r_ci64 (by omega) (by omega) ?_) | (refine r_ciu8 (by omega) (by omega) ?_) | (refine r_ciu32 (by omega) (by omega) ?_) | refine r_ci ?_ | (refine r_add1N (by omega) ?_) | (refine r_sub1N (by omega) (by omega) ?_) | (refine r_addN (by omega) ?_) | (refine r_add (by omega) (by omega) ?_) | (refine r_ixsN (by omega) ?_) | (refine r_iaaN (by omega) ?_) | (refine r_sub (by omega) (by omega) ?_) | (refine r_mul (by omega) (by omega) ?_) | (refine r_dr H ?_; clear H; intro _ S_ H; replace S := S.trans S_; clear S_) | refine r_ld 0 H rfl rfl ?_ | refine r_ld 1 H rfl rfl ?_ | refine r_ld 2 H rfl rfl ?_ | refine r_ld 3 H rfl rfl ?_ | refine r_ld 4 H rfl rfl ?_ | ((with_reducible refine r_vtD ?h ?_); (case h => omega)) | ((with_reducible refine r_vfD ?h ?_); (case h => omega)) | ((with_reducible refine r_vtE ?h ?_); (case h => omega)) | ((with_reducible refine r_vfE ?h ?_); (case h => omega)) | ((with_reducible refine r_vtN ?h ?_); (case h => omega)) | ((with_reducible refine r_vfN ?h ?_); (case h => omega)))
      refine ⟨⟨i + 1, by omega, rfl, S.trans S4, H4⟩, ?_⟩
      simp [nv, RowKit.intOf]
      omega
  · obtain rfl : i = 256 := by omega
    rw [filled_all tabL_len] at H
    have hl : (tabL.map uv).length = 256 := by simp [tabL_len]
    refine r_ldA 0 H (tabL.map uv) rfl (by rw [List.drop_zero, List.take_of_length_le (by omega)]) hl ?_
    refine r_stA 1 H (vs := tabL.map uv) rfl (Nat.le_of_eq (by rw [List.length_map, List.length_replicate])) hl (by kernel_rfl) fun w4 S4 H4 => ?_
    have hset : setL ((List.replicate 256 0).map uv) 0 (tabL.map uv) = tabL.map uv := by kernel_rfl
    rw [List.set_cons_succ, List.set_cons_zero, hset] at H4
    refine r_ldA 1 H4 (tabL.map uv) rfl (by rw [List.drop_zero, List.take_of_length_le (by omega)]) hl ?_
    exact post _ (S.trans S4) H4.drop.drop
end W02
end Go.Proofs.YtcnmamnnjdifdaaGreatDoor
