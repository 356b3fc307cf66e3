/- Chapter 20: what anything that was got stands for; the document's answer, each function once; the law BlockOpens. -/
import Derived.Test.YtcnmamnnjdifdaaGreatDoorR3b
import Derived.Test.YtcnmamnnjdifdaaGreatDoorK18
import Derived.Test.YtcnmamnnjdifdaaGreatDoorT20Z
import Derived.Test.YtcnmamnnjdifdaaGreatDoorRows
import Derived.Lib.SmallJoins
import Derived.LaidMore
set_option linter.unusedVariables false
set_option linter.unusedSimpArgs false
namespace Go.Proofs.YtcnmamnnjdifdaaGreatDoor
open Go Go.Vc
attribute [local irreducible] Go.Vc.Nc Go.Vc.Ld Go.Vc.LdA Go.Vc.St Go.Vc.StA Go.Vc.Fo Go.Vc.Iaa Go.Vc.Ias Go.Vc.Ixs Go.Vc.Ixa Go.Vc.Fd Go.Vc.FdA Go.Vc.Bp Go.Vc.Bb Go.Vc.Bn Go.Vc.Up Go.Vc.Ci Go.Vc.Lns Go.Vc.Lnl Go.Vc.Ex Go.Vc.Sst Go.Vc.Ssl Go.Vc.New Go.Vc.Vif Go.Vc.VJoin Go.Vc.VLoop Go.Vc.KE Go.Vc.Dr Go.Vc.Rk Go.Vc.Cl Go.Vc.Cx Go.Vc.Inv Go.Vc.Be Go.Vc.Cv Go.Vc.Cw Go.Vc.Mf Go.Vc.Sl Go.Vc.Lk Go.Vc.Bd Go.Vc.Bs Go.Vc.Ms Go.Vc.Mm Go.Vc.Mu Go.Vc.Me Go.Vc.Es Go.Vc.Rg Go.Vc.Nx Go.Vc.Ta Go.Vc.Ap Go.Vc.Usd Go.Vc.Ust Go.Vc.Cp Go.Vc.Ln Go.Vc.Bc Go.Vc.Bmin Go.Vc.Bmax Go.Vc.Bdel Go.Vc.Bclr Go.Vc.Pk
namespace O20
open Go.M02 Go.M03 Go.M3d Go.M18 R3b
variable {w : World} {L : List HProp} {K : Value → World → Prop}
theorem Bits_spec {s : Nat} (hs : s < 4294967296) (k : K (uv (crcN s 8)) w) : Cl Tryz.prog F.balerref02_Bits #[uv s] w K := by
  refine Tie.balerref02_Bits ?_
  unfold Vcf.balerref02_Bits
  refine r_loop2 (fun x i w' => ∃ j : Nat, j ≤ 8 ∧ i = nv j ∧ x = uv (crcN s j) ∧ w = w') (fun _ i _ => 8 - (RowKit.intOf i).toNat) ⟨0, by omega, rfl, rfl, rfl⟩ ?_
  rintro _ _ _ _ ⟨j, hj, rfl, rfl, rfl⟩
  have hb := crcN_lt hs j
  repeat (first | refine r_nc ?_ | refine r_fo0 ?_ | refine r_fo ?_ | refine r_ke ?_ | refine r_lns ?_ | refine r_lnl ?_ | refine r_eql ?_ | refine r_neq ?_ | refine r_lss ?_ | refine r_leq ?_ | refine r_gtr ?_ | refine r_geq ?_ | refine r_seq0 ?_ | refine r_sne0 ?_ | refine r_seq ?_ | refine r_sne ?_ | (with_reducible refine r_notT ?_) | (with_reducible refine r_notF ?_) | refine r_not ?_ | (with_reducible refine r_bnST ?_) | (with_reducible refine r_bnSF ?_) | (with_reducible refine r_bnNT ?_) | (with_reducible refine r_bnNF ?_) | (with_reducible refine r_ex20 ?_) | (with_reducible refine r_ex21 ?_) | (with_reducible refine r_ex30 ?_) | (with_reducible refine r_ex31 ?_) | (with_reducible refine r_ex32 ?_) | (with_reducible refine r_vt ?_) | (with_reducible refine r_vf ?_) | refine r_bb ?_ | (with_reducible refine r_pkT ?_) | (with_reducible refine r_pkF ?_) | (with_reducible refine r_pkB ?_) | refine r_ex rfl ?_ | (refine r_ci64 (by omega) (by omega) ?_) | (refine r_ciu8 (by omega) (by omega) ?_) | (refine r_ciu32 (by omega) (by omega) ?_) | refine r_ci ?_ | (refine r_add1N (by omega) ?_) | (refine r_sub1N (by omega) (by omega) ?_) | (refine r_addN (by omega) ?_) | (refine r_add (by omega) (by omega) ?_) | (refine r_ixsN (by omega) ?_) | (refine r_iaaN (by omega) ?_) | (refine r_sub (by omega) (by omega) ?_) | (refine r_mul (by omega) (by omega) ?_) | (refine r_dr H ?_; clear H; intro _ S_ H; replace S := S.trans S_; clear S_) | refine r_ld 0 H rfl rfl ?_ | refine r_ld 1 H rfl rfl ?_ | refine r_ld 2 H rfl rfl ?_ | refine r_ld 3 H rfl rfl ?_ | refine r_ld 4 H rfl rfl ?_ | ((with_reducible refine r_vtD ?h ?_); (case h => omega)) | ((with_reducible refine r_vfD ?h ?_); (case h => omega)) | ((with_reducible refine r_vtE ?h ?_); (case h => omega)) | ((with_reducible refine r_vfE ?h ?_); (case h => omega)) | ((with_reducible refine r_vtN ?h ?_); (case h => omega)) | ((with_reducible refine r_vfN ?h ?_); (case h => omega)))
  refine r_ifD (fun h => ?_) fun h => ?_
  · refine r_geq ?_
    refine r_ifD (fun h2 => ?_) fun h2 => ?_
    · refine r_subU32 (t := 2147483648) (by omega) (by omega) ?_
      refine r_mulU32 (t := 2) (by omega) ?_
      refine r_xorU32 (t := 79764919) (by omega) (by decide) ?_
      repeat (first | refine r_nc ?_ | refine r_fo0 ?_ | refine r_fo ?_ | refine r_ke ?_ | refine r_lns ?_ | refine r_lnl ?_ | refine r_eql ?_ | refine r_neq ?_ | refine r_lss ?_ | refine r_leq ?_ | refine r_gtr ?_ | refine r_geq ?_ | refine r_seq0 ?_ | refine r_sne0 ?_ | refine r_seq ?_ | refine r_sne ?_ | (with_reducible refine r_notT ?_) | (with_reducible refine r_notF ?_) | refine r_not ?_ | (with_reducible refine r_bnST ?_) | (with_reducible refine r_bnSF ?_) | (with_reducible refine r_bnNT ?_) | (with_reducible refine r_bnNF ?_) | (with_reducible refine r_ex20 ?_) | (with_reducible refine r_ex21 ?_) | (with_reducible refine r_ex30 ?_) | (with_reducible refine r_ex31 ?_) | (with_reducible refine r_ex32 ?_) | (with_reducible refine r_vt ?_) | (with_reducible refine r_vf ?_) | refine r_bb ?_ | (with_reducible refine r_pkT ?_) | (with_reducible refine r_pkF ?_) | (with_reducible refine r_pkB ?_) | refine r_ex rfl ?_ | (refine r_ci64 (by omega) (by omega) ?_) | (refine r_ciu8 (by omega) (by omega) ?_) | (refine r_ciu32 (by omega) (by omega) ?_) | refine r_ci ?_ | (refine r_add1N (by omega) ?_) | (refine r_sub1N (by omega) (by omega) ?_) | (refine r_addN (by omega) ?_) | (refine r_add (by omega) (by omega) ?_) | (refine r_ixsN (by omega) ?_) | (refine r_iaaN (by omega) ?_) | (refine r_sub (by omega) (by omega) ?_) | (refine r_mul (by omega) (by omega) ?_) | (refine r_dr H ?_; clear H; intro _ S_ H; replace S := S.trans S_; clear S_) | refine r_ld 0 H rfl rfl ?_ | refine r_ld 1 H rfl rfl ?_ | refine r_ld 2 H rfl rfl ?_ | refine r_ld 3 H rfl rfl ?_ | refine r_ld 4 H rfl rfl ?_ | ((with_reducible refine r_vtD ?h ?_); (case h => omega)) | ((with_reducible refine r_vfD ?h ?_); (case h => omega)) | ((with_reducible refine r_vtE ?h ?_); (case h => omega)) | ((with_reducible refine r_vfE ?h ?_); (case h => omega)) | ((with_reducible refine r_vtN ?h ?_); (case h => omega)) | ((with_reducible refine r_vfN ?h ?_); (case h => omega)))
      refine ⟨⟨j + 1, by omega, rfl, ?_, rfl⟩, ?_⟩
      · rw [crcN_snoc, crcStep_high (by omega) hb]
      · simp [nv, RowKit.intOf]
        omega
    · refine r_mulU32 (t := 2) (by omega) ?_
      repeat (first | refine r_nc ?_ | refine r_fo0 ?_ | refine r_fo ?_ | refine r_ke ?_ | refine r_lns ?_ | refine r_lnl ?_ | refine r_eql ?_ | refine r_neq ?_ | refine r_lss ?_ | refine r_leq ?_ | refine r_gtr ?_ | refine r_geq ?_ | refine r_seq0 ?_ | refine r_sne0 ?_ | refine r_seq ?_ | refine r_sne ?_ | (with_reducible refine r_notT ?_) | (with_reducible refine r_notF ?_) | refine r_not ?_ | (with_reducible refine r_bnST ?_) | (with_reducible refine r_bnSF ?_) | (with_reducible refine r_bnNT ?_) | (with_reducible refine r_bnNF ?_) | (with_reducible refine r_ex20 ?_) | (with_reducible refine r_ex21 ?_) | (with_reducible refine r_ex30 ?_) | (with_reducible refine r_ex31 ?_) | (with_reducible refine r_ex32 ?_) | (with_reducible refine r_vt ?_) | (with_reducible refine r_vf ?_) | refine r_bb ?_ | (with_reducible refine r_pkT ?_) | (with_reducible refine r_pkF ?_) | (with_reducible refine r_pkB ?_) | refine r_ex rfl ?_ | (refine r_ci64 (by omega) (by omega) ?_) | (refine r_ciu8 (by omega) (by omega) ?_) | (refine r_ciu32 (by omega) (by omega) ?_) | refine r_ci ?_ | (refine r_add1N (by omega) ?_) | (refine r_sub1N (by omega) (by omega) ?_) | (refine r_addN (by omega) ?_) | (refine r_add (by omega) (by omega) ?_) | (refine r_ixsN (by omega) ?_) | (refine r_iaaN (by omega) ?_) | (refine r_sub (by omega) (by omega) ?_) | (refine r_mul (by omega) (by omega) ?_) | (refine r_dr H ?_; clear H; intro _ S_ H; replace S := S.trans S_; clear S_) | refine r_ld 0 H rfl rfl ?_ | refine r_ld 1 H rfl rfl ?_ | refine r_ld 2 H rfl rfl ?_ | refine r_ld 3 H rfl rfl ?_ | refine r_ld 4 H rfl rfl ?_ | ((with_reducible refine r_vtD ?h ?_); (case h => omega)) | ((with_reducible refine r_vfD ?h ?_); (case h => omega)) | ((with_reducible refine r_vtE ?h ?_); (case h => omega)) | ((with_reducible refine r_vfE ?h ?_); (case h => omega)) | ((with_reducible refine r_vtN ?h ?_); (case h => omega)) | ((with_reducible refine r_vfN ?h ?_); (case h => omega)))
      refine ⟨⟨j + 1, by omega, rfl, ?_, rfl⟩, ?_⟩
      · rw [crcN_snoc, crcStep_low (by omega)]
      · simp [nv, RowKit.intOf]
        omega
  · obtain rfl : j = 8 := by omega
    exact k
theorem Step_spec {s : Nat} {c : UInt8} (hs : s < 4294967296) (k : K (uv (crcB s c)) w) : Cl Tryz.prog F.balerref02_Step #[uv s, bv c] w K := by
  refine Tie.balerref02_Step ?_
  unfold Vcf.balerref02_Step
  have hc := c.toNat_lt
  repeat (first | refine r_nc ?_ | refine r_fo0 ?_ | refine r_fo ?_ | refine r_ke ?_ | refine r_lns ?_ | refine r_lnl ?_ | refine r_eql ?_ | refine r_neq ?_ | refine r_lss ?_ | refine r_leq ?_ | refine r_gtr ?_ | refine r_geq ?_ | refine r_seq0 ?_ | refine r_sne0 ?_ | refine r_seq ?_ | refine r_sne ?_ | (with_reducible refine r_notT ?_) | (with_reducible refine r_notF ?_) | refine r_not ?_ | (with_reducible refine r_bnST ?_) | (with_reducible refine r_bnSF ?_) | (with_reducible refine r_bnNT ?_) | (with_reducible refine r_bnNF ?_) | (with_reducible refine r_ex20 ?_) | (with_reducible refine r_ex21 ?_) | (with_reducible refine r_ex30 ?_) | (with_reducible refine r_ex31 ?_) | (with_reducible refine r_ex32 ?_) | (with_reducible refine r_vt ?_) | (with_reducible refine r_vf ?_) | refine r_bb ?_ | (with_reducible refine r_pkT ?_) | (with_reducible refine r_pkF ?_) | (with_reducible refine r_pkB ?_) | refine r_ex rfl ?_ | (refine r_ci64 (by omega) (by omega) ?_) | (refine r_ciu8 (by omega) (by omega) ?_) | (refine r_ciu32 (by omega) (by omega) ?_) | refine r_ci ?_ | (refine r_add1N (by omega) ?_) | (refine r_sub1N (by omega) (by omega) ?_) | (refine r_addN (by omega) ?_) | (refine r_add (by omega) (by omega) ?_) | (refine r_ixsN (by omega) ?_) | (refine r_iaaN (by omega) ?_) | (refine r_sub (by omega) (by omega) ?_) | (refine r_mul (by omega) (by omega) ?_) | (refine r_dr H ?_; clear H; intro _ S_ H; replace S := S.trans S_; clear S_) | refine r_ld 0 H rfl rfl ?_ | refine r_ld 1 H rfl rfl ?_ | refine r_ld 2 H rfl rfl ?_ | refine r_ld 3 H rfl rfl ?_ | refine r_ld 4 H rfl rfl ?_ | ((with_reducible refine r_vtD ?h ?_); (case h => omega)) | ((with_reducible refine r_vfD ?h ?_); (case h => omega)) | ((with_reducible refine r_vtE ?h ?_); (case h => omega)) | ((with_reducible refine r_vfE ?h ?_); (case h => omega)) | ((with_reducible refine r_vtN ?h ?_); (case h => omega)) | ((with_reducible refine r_vfN ?h ?_); (case h => omega)))
  refine r_mulU32 (s := c.toNat) (t := 16777216) (by omega) ?_
  refine r_xorU32 hs (by omega) ?_
  exact Bits_spec (Nat.xor_lt_two_pow (n := 32) (by omega) (by omega)) k
theorem ROf_spec {t : List UInt8} (ht : t.length ≤ 1000000000) (k : K (uv (crcOf t)) w) : Cl Tryz.prog F.balerref02_Of #[S_ t] w K := by
  refine Tie.balerref02_Of ?_
  unfold Vcf.balerref02_Of
  have hs : (⟨t.toArray⟩ : ByteArray).size = t.length := by show t.toArray.size = _; simp
  have hg : ∀ i, (⟨t.toArray⟩ : ByteArray).data.toList.getD i 0 = t.getD i 0 := fun i => by simp
  refine r_loop2 (fun x i w' => ∃ j : Nat, j ≤ t.length ∧ i = nv j ∧ x = uv (crcF 4294967295 (t.take j)) ∧ w = w') (fun _ i _ => t.length - (RowKit.intOf i).toNat) ⟨0, by omega, rfl, rfl, rfl⟩ ?_
  rintro _ _ _ _ ⟨j, hj, rfl, rfl, rfl⟩
  have hb := crcF_lt (t.take j) (s := 4294967295) (by decide)
  repeat (first | refine r_nc ?_ | refine r_fo0 ?_ | refine r_fo ?_ | refine r_ke ?_ | refine r_lns ?_ | refine r_lnl ?_ | refine r_eql ?_ | refine r_neq ?_ | refine r_lss ?_ | refine r_leq ?_ | refine r_gtr ?_ | refine r_geq ?_ | refine r_seq0 ?_ | refine r_sne0 ?_ | refine r_seq ?_ | refine r_sne ?_ | (with_reducible refine r_notT ?_) | (with_reducible refine r_notF ?_) | refine r_not ?_ | (with_reducible refine r_bnST ?_) | (with_reducible refine r_bnSF ?_) | (with_reducible refine r_bnNT ?_) | (with_reducible refine r_bnNF ?_) | (with_reducible refine r_ex20 ?_) | (with_reducible refine r_ex21 ?_) | (with_reducible refine r_ex30 ?_) | (with_reducible refine r_ex31 ?_) | (with_reducible refine r_ex32 ?_) | (with_reducible refine r_vt ?_) | (with_reducible refine r_vf ?_) | refine r_bb ?_ | (with_reducible refine r_pkT ?_) | (with_reducible refine r_pkF ?_) | (with_reducible refine r_pkB ?_) | refine r_ex rfl ?_ | (refine r_ci64 (by omega) (by omega) ?_) | (refine r_ciu8 (by omega) (by omega) ?_) | (refine r_ciu32 (by omega) (by omega) ?_) | refine r_ci ?_ | (refine r_add1N (by omega) ?_) | (refine r_sub1N (by omega) (by omega) ?_) | (refine r_addN (by omega) ?_) | (refine r_add (by omega) (by omega) ?_) | (refine r_ixsN (by omega) ?_) | (refine r_iaaN (by omega) ?_) | (refine r_sub (by omega) (by omega) ?_) | (refine r_mul (by omega) (by omega) ?_) | (refine r_dr H ?_; clear H; intro _ S_ H; replace S := S.trans S_; clear S_) | refine r_ld 0 H rfl rfl ?_ | refine r_ld 1 H rfl rfl ?_ | refine r_ld 2 H rfl rfl ?_ | refine r_ld 3 H rfl rfl ?_ | refine r_ld 4 H rfl rfl ?_ | ((with_reducible refine r_vtD ?h ?_); (case h => omega)) | ((with_reducible refine r_vfD ?h ?_); (case h => omega)) | ((with_reducible refine r_vtE ?h ?_); (case h => omega)) | ((with_reducible refine r_vfE ?h ?_); (case h => omega)) | ((with_reducible refine r_vtN ?h ?_); (case h => omega)) | ((with_reducible refine r_vfN ?h ?_); (case h => omega)))
  rw [hs]
  refine r_ifD (fun h => ?_) fun h => ?_
  · refine r_ixsN (by rw [hs]; omega) ?_
    rw [hg]
    refine Step_spec hb ?_
    repeat (first | refine r_nc ?_ | refine r_fo0 ?_ | refine r_fo ?_ | refine r_ke ?_ | refine r_lns ?_ | refine r_lnl ?_ | refine r_eql ?_ | refine r_neq ?_ | refine r_lss ?_ | refine r_leq ?_ | refine r_gtr ?_ | refine r_geq ?_ | refine r_seq0 ?_ | refine r_sne0 ?_ | refine r_seq ?_ | refine r_sne ?_ | (with_reducible refine r_notT ?_) | (with_reducible refine r_notF ?_) | refine r_not ?_ | (with_reducible refine r_bnST ?_) | (with_reducible refine r_bnSF ?_) | (with_reducible refine r_bnNT ?_) | (with_reducible refine r_bnNF ?_) | (with_reducible refine r_ex20 ?_) | (with_reducible refine r_ex21 ?_) | (with_reducible refine r_ex30 ?_) | (with_reducible refine r_ex31 ?_) | (with_reducible refine r_ex32 ?_) | (with_reducible refine r_vt ?_) | (with_reducible refine r_vf ?_) | refine r_bb ?_ | (with_reducible refine r_pkT ?_) | (with_reducible refine r_pkF ?_) | (with_reducible refine r_pkB ?_) | refine r_ex rfl ?_ | (refine r_ci64 (by omega) (by omega) ?_) | (refine r_ciu8 (by omega) (by omega) ?_) | (refine r_ciu32 (by omega) (by omega) ?_) | refine r_ci ?_ | (refine r_add1N (by omega) ?_) | (refine r_sub1N (by omega) (by omega) ?_) | (refine r_addN (by omega) ?_) | (refine r_add (by omega) (by omega) ?_) | (refine r_ixsN (by omega) ?_) | (refine r_iaaN (by omega) ?_) | (refine r_sub (by omega) (by omega) ?_) | (refine r_mul (by omega) (by omega) ?_) | (refine r_dr H ?_; clear H; intro _ S_ H; replace S := S.trans S_; clear S_) | refine r_ld 0 H rfl rfl ?_ | refine r_ld 1 H rfl rfl ?_ | refine r_ld 2 H rfl rfl ?_ | refine r_ld 3 H rfl rfl ?_ | refine r_ld 4 H rfl rfl ?_ | ((with_reducible refine r_vtD ?h ?_); (case h => omega)) | ((with_reducible refine r_vfD ?h ?_); (case h => omega)) | ((with_reducible refine r_vtE ?h ?_); (case h => omega)) | ((with_reducible refine r_vfE ?h ?_); (case h => omega)) | ((with_reducible refine r_vtN ?h ?_); (case h => omega)) | ((with_reducible refine r_vfN ?h ?_); (case h => omega)))
    refine ⟨⟨j + 1, by omega, rfl, ?_, rfl⟩, ?_⟩
    · rw [getD_take (by omega), crcF_snoc]
    · simp [nv, RowKit.intOf]
      omega
  · obtain rfl : j = t.length := by omega
    rw [List.take_length] at hb ⊢
    refine r_subU32 (s := 4294967295) (by omega) (by omega) ?_
    exact k
theorem four_spec {t : List UInt8} (H : Holds w L) (k : ∀ b w', Same w w' → Holds w' L → (b = true ↔ four t) → K (.bool b) w') : Cl Tryz.prog F.balerref03_four #[S_ t] w K := by
  refine Tie.balerref03_four ?_
  unfold Vcf.balerref03_four
  have hs : (⟨t.toArray⟩ : ByteArray).size = t.length := by show t.toArray.size = _; simp
  have hg : ∀ i, (⟨t.toArray⟩ : ByteArray).data.toList.getD i 0 = t.getD i 0 := fun i => by simp
  have S := Same.refl w
  have eqv : ∀ a b : UInt8, ((a.toNat : Int) = (b.toNat : Int)) ↔ a = b := fun a b => ⟨fun h => UInt8.toNat_inj.1 (by omega), fun h => by rw [h]⟩
  unfold four at k
  repeat (first | refine r_nc ?_ | refine r_fo0 ?_ | refine r_fo ?_ | refine r_ke ?_ | refine r_lns ?_ | refine r_lnl ?_ | refine r_eql ?_ | refine r_neq ?_ | refine r_lss ?_ | refine r_leq ?_ | refine r_gtr ?_ | refine r_geq ?_ | refine r_seq0 ?_ | refine r_sne0 ?_ | refine r_seq ?_ | refine r_sne ?_ | (with_reducible refine r_notT ?_) | (with_reducible refine r_notF ?_) | refine r_not ?_ | (with_reducible refine r_bnST ?_) | (with_reducible refine r_bnSF ?_) | (with_reducible refine r_bnNT ?_) | (with_reducible refine r_bnNF ?_) | (with_reducible refine r_ex20 ?_) | (with_reducible refine r_ex21 ?_) | (with_reducible refine r_ex30 ?_) | (with_reducible refine r_ex31 ?_) | (with_reducible refine r_ex32 ?_) | (with_reducible refine r_vt ?_) | (with_reducible refine r_vf ?_) | refine r_bb ?_ | (with_reducible refine r_pkT ?_) | (with_reducible refine r_pkF ?_) | (with_reducible refine r_pkB ?_) | refine r_ex rfl ?_ | (refine r_ci64 (by omega) (by omega) ?_) | (refine r_ciu8 (by omega) (by omega) ?_) | (refine r_ciu32 (by omega) (by omega) ?_) | refine r_ci ?_ | (refine r_add1N (by omega) ?_) | (refine r_sub1N (by omega) (by omega) ?_) | (refine r_addN (by omega) ?_) | (refine r_add (by omega) (by omega) ?_) | (refine r_ixsN (by omega) ?_) | (refine r_iaaN (by omega) ?_) | (refine r_sub (by omega) (by omega) ?_) | (refine r_mul (by omega) (by omega) ?_) | (refine r_dr H ?_; clear H; intro _ S_ H; replace S := S.trans S_; clear S_) | refine r_ld 0 H rfl rfl ?_ | refine r_ld 1 H rfl rfl ?_ | refine r_ld 2 H rfl rfl ?_ | refine r_ld 3 H rfl rfl ?_ | refine r_ld 4 H rfl rfl ?_ | ((with_reducible refine r_vtD ?h ?_); (case h => omega)) | ((with_reducible refine r_vfD ?h ?_); (case h => omega)) | ((with_reducible refine r_vtE ?h ?_); (case h => omega)) | ((with_reducible refine r_vfE ?h ?_); (case h => omega)) | ((with_reducible refine r_vtN ?h ?_); (case h => omega)) | ((with_reducible refine r_vfN ?h ?_); (case h => omega)))
  rw [hs]
  refine r_ifD (fun h => ?_) fun h => k _ _ S H ⟨fun e => (by cases e), fun hf => by omega⟩
  refine r_ixs (by omega) (by rw [hs]; omega) ?_
  refine r_ixs (by omega) (by rw [hs]; omega) ?_
  rw [hg, hg]
  refine r_eql (r_ifE (fun h1 => ?_) fun h1 => k _ _ S H ⟨fun e => (by cases e), fun hf => absurd ((eqv _ _).2 hf.2.1) h1⟩)
  refine r_ixs (by omega) (by rw [hs]; omega) ?_
  refine r_ixs (by omega) (by rw [hs]; omega) ?_
  rw [hg, hg]
  refine r_eql (r_ifE (fun h2 => ?_) fun h2 => k _ _ S H ⟨fun e => (by cases e), fun hf => absurd ((eqv _ _).2 hf.2.2.1) h2⟩)
  refine r_ixs (by omega) (by rw [hs]; omega) ?_
  refine r_ixs (by omega) (by rw [hs]; omega) ?_
  rw [hg, hg]
  refine r_eql ?_
  refine k _ _ S H ⟨fun e => ⟨by omega, (eqv _ _).1 h1, (eqv _ _).1 h2, (eqv _ _).1 (by simpa using e)⟩, fun hf => ?_⟩
  have := (eqv _ _).2 hf.2.2.2
  simpa using this
def sz : Value → Nat
  | .string b => b.size
  | _ => 0
theorem Decode_spec {t : List UInt8} (H : Holds w L) (ht : t.length ≤ 1000000)
    (kb : rle t = none → ∀ e w', e ≠ 0 → Same w w' → Holds w' L → K (.tuple #[S_ [], iv e]) w')
    (k : ∀ s, rle t = some s → ∀ w', Same w w' → Holds w' L → K (.tuple #[S_ s, iv 0]) w') : Cl Tryz.prog F.balerref03_Decode #[S_ t] w K := by
  refine Tie.balerref03_Decode ?_
  unfold Vcf.balerref03_Decode
  refine r_loop2 (fun s o w' => ∃ rest out : List UInt8, s = S_ rest ∧ o = S_ out ∧ rest.length ≤ t.length ∧ out.length + 255 * rest.length ≤ 255 * t.length ∧ rleA out 0 0 rest = rle t ∧ Same w w' ∧ Holds w' L) (fun s _ _ => sz s)
    ⟨t, [], rfl, rfl, Nat.le_refl _, by simp, rfl, .refl w, H⟩ ?_
  clear H
  rintro _ _ _ w2 ⟨rest, out, rfl, rfl, hr, ho, hrle, S, H⟩
  have hs : ∀ l : List UInt8, (⟨l.toArray⟩ : ByteArray).size = l.length := fun l => by show l.toArray.size = _; simp
  have hl : ∀ l : List UInt8, (⟨l.toArray⟩ : ByteArray).data.toList = l := fun l => by simp
  refine r_lns ?_
  rw [hs]
  refine r_gtr ?_
  refine r_ifD (fun h0 => ?_) fun h0 => ?_
  · refine four_spec H fun b w3 S3 H3 hb => ?_
    replace S := S.trans S3
    clear H S3
    refine r_not ?_
    refine r_vif (fun hn => ?_) fun hn => ?_
    · have hn4 : ¬ four rest := fun hf => by rw [hb.2 hf] at hn; cases hn
      cases rest with
      | nil => simp at h0
      | cons a r =>
        rw [List.length_cons] at hr ho h0
        refine r_sstT (m := 1) (by rw [hs, List.length_cons]; omega) ?_
        rw [hl]
        refine r_catL (by simp; omega) ?_
        refine r_sstD (m := 1) (by rw [hs, List.length_cons]; omega) ?_
        rw [hl]
        refine r_ke ?_
        refine ⟨⟨r, out ++ [a], rfl, rfl, by omega, by rw [List.length_append, List.length_singleton]; omega, by rw [← rleA_step hn4]; exact hrle, S, H3⟩, ?_⟩
        show (⟨r.toArray⟩ : ByteArray).size < (⟨(a :: r).toArray⟩ : ByteArray).size
        rw [hs, hs, List.length_cons]; omega
    · have h4 : four rest := hb.1 (by simpa using hn)
      obtain ⟨a, r, rfl⟩ := four_form h4
      simp only [List.length_cons] at hr ho h0
      refine r_lns ?_
      rw [hs]
      refine r_eql (r_ifE (fun h5 => ?_) fun h5 => ?_)
      · simp only [List.length_cons] at h5
        obtain rfl : r = [] := List.eq_nil_of_length_eq_zero (by omega)
        rw [rleA_end] at hrle
        exact kb hrle.symm 24 _ (by omega) S H3
      · simp only [List.length_cons] at h5
        cases r with
        | nil => simp at h5
        | cons c r =>
          simp only [List.length_cons] at hr ho h0
          have hc := c.toNat_lt
          refine r_ixs (n := 4) (by omega) (by rw [hs]; simp only [List.length_cons]; omega) ?_
          rw [hl]
          refine r_gtr ?_
          have e4 : (a :: a :: a :: a :: c :: r).getD (4 : Int).toNat 0 = c := rfl
          rw [e4]
          refine r_ifD (fun h6 => ?_) fun h6 => ?_
          · rw [rleA_bad _ _ _ _ _ (by omega)] at hrle
            exact kb hrle.symm 25 _ (by omega) S H3
          · rw [rleA_run _ _ _ _ _ (by omega)] at hrle
            refine r_ixs (n := 4) (by omega) (by rw [hs]; simp only [List.length_cons]; omega) ?_
            rw [hl, e4]
            refine r_ci64 (by omega) (by omega) ?_
            refine r_add (by omega) (by omega) ?_
            refine r_loop2 (fun o x w' => ∃ j : Nat, j ≤ 4 + c.toNat ∧ x = nv j ∧ o = S_ (out ++ List.replicate j a) ∧ w3 = w') (fun _ x _ => 4 + c.toNat - (RowKit.intOf x).toNat) ⟨0, by omega, rfl, by rw [List.replicate_zero, List.append_nil], rfl⟩ ?_
            rintro _ _ _ _ ⟨j, hj, rfl, rfl, rfl⟩
            refine r_lss ?_
            refine r_ifD (fun h7 => ?_) fun h7 => ?_
            · refine r_sstT (m := 1) (by rw [hs]; simp) ?_
              rw [hl]
              refine r_catL (by simp; omega) ?_
              repeat (first | refine r_nc ?_ | refine r_fo0 ?_ | refine r_fo ?_ | refine r_ke ?_ | refine r_lns ?_ | refine r_lnl ?_ | refine r_eql ?_ | refine r_neq ?_ | refine r_lss ?_ | refine r_leq ?_ | refine r_gtr ?_ | refine r_geq ?_ | refine r_seq0 ?_ | refine r_sne0 ?_ | refine r_seq ?_ | refine r_sne ?_ | (with_reducible refine r_notT ?_) | (with_reducible refine r_notF ?_) | refine r_not ?_ | (with_reducible refine r_bnST ?_) | (with_reducible refine r_bnSF ?_) | (with_reducible refine r_bnNT ?_) | (with_reducible refine r_bnNF ?_) | (with_reducible refine r_ex20 ?_) | (with_reducible refine r_ex21 ?_) | (with_reducible refine r_ex30 ?_) | (with_reducible refine r_ex31 ?_) | (with_reducible refine r_ex32 ?_) | (with_reducible refine r_vt ?_) | (with_reducible refine r_vf ?_) | refine r_bb ?_ | (with_reducible refine r_pkT ?_) | (with_reducible refine r_pkF ?_) | (with_reducible refine r_pkB ?_) | refine r_ex rfl ?_ | (refine r_ci64 (by omega) (by omega) ?_) | (refine r_ciu8 (by omega) (by omega) ?_) | (refine r_ciu32 (by omega) (by omega) ?_) | refine r_ci ?_ | (refine r_add1N (by omega) ?_) | (refine r_sub1N (by omega) (by omega) ?_) | (refine r_addN (by omega) ?_) | (refine r_add (by omega) (by omega) ?_) | (refine r_ixsN (by omega) ?_) | (refine r_iaaN (by omega) ?_) | (refine r_sub (by omega) (by omega) ?_) | (refine r_mul (by omega) (by omega) ?_) | (refine r_dr H ?_; clear H; intro _ S_ H; replace S := S.trans S_; clear S_) | refine r_ld 0 H rfl rfl ?_ | refine r_ld 1 H rfl rfl ?_ | refine r_ld 2 H rfl rfl ?_ | refine r_ld 3 H rfl rfl ?_ | refine r_ld 4 H rfl rfl ?_ | ((with_reducible refine r_vtD ?h ?_); (case h => omega)) | ((with_reducible refine r_vfD ?h ?_); (case h => omega)) | ((with_reducible refine r_vtE ?h ?_); (case h => omega)) | ((with_reducible refine r_vfE ?h ?_); (case h => omega)) | ((with_reducible refine r_vtN ?h ?_); (case h => omega)) | ((with_reducible refine r_vfN ?h ?_); (case h => omega)))
              refine ⟨⟨j + 1, by omega, rfl, ?_, rfl⟩, ?_⟩
              · rw [List.replicate_succ', ← List.append_assoc]; rfl
              · simp [nv, RowKit.intOf]
                omega
            · obtain rfl : j = 4 + c.toNat := by omega
              refine r_sstD (m := 5) (by rw [hs]; simp) ?_
              rw [hl]
              refine r_ke ?_
              refine ⟨⟨r, _, rfl, rfl, by omega, by rw [List.length_append, List.length_replicate]; omega, hrle, S, H3⟩, ?_⟩
              show (⟨r.toArray⟩ : ByteArray).size < (⟨(a :: a :: a :: a :: c :: r).toArray⟩ : ByteArray).size
              rw [hs, hs]; simp only [List.length_cons]; omega
  · obtain rfl : rest = [] := List.eq_nil_of_length_eq_zero (by omega)
    have e : rleA out 0 0 [] = some out := by simp [rleA]
    rw [e] at hrle
    exact k out hrle.symm _ S H
/-- What stands for what. -/
def opn (l : List UInt8) (o s : Int) : List UInt8 × Int :=
  if l.length = 0 then ([], 1) else if o < 0 ∨ (l.length : Int) ≤ o then ([], 23) else
    match rle (text l o.toNat) with
    | none => ([], 25)
    | some t => if ((crcOf t : Nat) : Int) = s then (t, 0) else ([], 21)
abbrev gotV (l : List UInt8) (o s : Int) : List Value := [S_ l, iv o, .int .u32 s]
abbrev tG : Nat := 24
abbrev tH : Nat := 31
theorem text_len (l : List UInt8) (o : Nat) : (text l o).length = l.length := outK_len _ _ _
theorem Open_spec {l : List UInt8} {o s : Int} (H : Holds w L) (hl : l.length ≤ 1000) (k : ∀ w', Same w w' → Holds w' L → K (.tuple #[S_ (opn l o s).1, iv (opn l o s).2]) w') : Cl Tryz.prog F.block_Open #[.agg (gotV l o s).toArray] w K := by
  refine Tie.block_Open ?_
  unfold Vcf.block_Open
  refine r_new H fun b w1 S1 H1 => ?_
  replace H1 : Holds w1 (blk b tG (gotV l o s) :: L) := H1
  clear H
  have H := H1
  clear H1
  have hs : (⟨l.toArray⟩ : ByteArray).size = l.length := by show l.toArray.size = _; simp
  have hd : (⟨l.toArray⟩ : ByteArray).data.toList = l := by simp
  repeat (first | refine r_nc ?_ | refine r_fo0 ?_ | refine r_fo ?_ | refine r_ke ?_ | refine r_lns ?_ | refine r_lnl ?_ | refine r_eql ?_ | refine r_neq ?_ | refine r_lss ?_ | refine r_leq ?_ | refine r_gtr ?_ | refine r_geq ?_ | refine r_seq0 ?_ | refine r_sne0 ?_ | refine r_seq ?_ | refine r_sne ?_ | (with_reducible refine r_notT ?_) | (with_reducible refine r_notF ?_) | refine r_not ?_ | (with_reducible refine r_bnST ?_) | (with_reducible refine r_bnSF ?_) | (with_reducible refine r_bnNT ?_) | (with_reducible refine r_bnNF ?_) | (with_reducible refine r_ex20 ?_) | (with_reducible refine r_ex21 ?_) | (with_reducible refine r_ex30 ?_) | (with_reducible refine r_ex31 ?_) | (with_reducible refine r_ex32 ?_) | (with_reducible refine r_vt ?_) | (with_reducible refine r_vf ?_) | refine r_bb ?_ | (with_reducible refine r_pkT ?_) | (with_reducible refine r_pkF ?_) | (with_reducible refine r_pkB ?_) | refine r_ex rfl ?_ | (refine r_ci64 (by omega) (by omega) ?_) | (refine r_ciu8 (by omega) (by omega) ?_) | (refine r_ciu32 (by omega) (by omega) ?_) | refine r_ci ?_ | (refine r_add1N (by omega) ?_) | (refine r_sub1N (by omega) (by omega) ?_) | (refine r_addN (by omega) ?_) | (refine r_add (by omega) (by omega) ?_) | (refine r_ixsN (by omega) ?_) | (refine r_iaaN (by omega) ?_) | (refine r_sub (by omega) (by omega) ?_) | (refine r_mul (by omega) (by omega) ?_) | (refine r_dr H ?_; clear H; intro _ S_ H; replace S := S.trans S_; clear S_) | refine r_ld 0 H rfl rfl ?_ | refine r_ld 1 H rfl rfl ?_ | refine r_ld 2 H rfl rfl ?_ | refine r_ld 3 H rfl rfl ?_ | refine r_ld 4 H rfl rfl ?_ | ((with_reducible refine r_vtD ?h ?_); (case h => omega)) | ((with_reducible refine r_vfD ?h ?_); (case h => omega)) | ((with_reducible refine r_vtE ?h ?_); (case h => omega)) | ((with_reducible refine r_vfE ?h ?_); (case h => omega)) | ((with_reducible refine r_vtN ?h ?_); (case h => omega)) | ((with_reducible refine r_vfN ?h ?_); (case h => omega)))
  refine U18.Of_spec (last := ⟨l.toArray⟩) H (fun h => ?_) (fun h => ?_) (fun h1 h2 h3 => ?_) fun n w2 h1 h2 h3 S2 H2 => ?_
  · repeat (first | refine r_nc ?_ | refine r_fo0 ?_ | refine r_fo ?_ | refine r_ke ?_ | refine r_lns ?_ | refine r_lnl ?_ | refine r_eql ?_ | refine r_neq ?_ | refine r_lss ?_ | refine r_leq ?_ | refine r_gtr ?_ | refine r_geq ?_ | refine r_seq0 ?_ | refine r_sne0 ?_ | refine r_seq ?_ | refine r_sne ?_ | (with_reducible refine r_notT ?_) | (with_reducible refine r_notF ?_) | refine r_not ?_ | (with_reducible refine r_bnST ?_) | (with_reducible refine r_bnSF ?_) | (with_reducible refine r_bnNT ?_) | (with_reducible refine r_bnNF ?_) | (with_reducible refine r_ex20 ?_) | (with_reducible refine r_ex21 ?_) | (with_reducible refine r_ex30 ?_) | (with_reducible refine r_ex31 ?_) | (with_reducible refine r_ex32 ?_) | (with_reducible refine r_vt ?_) | (with_reducible refine r_vf ?_) | refine r_bb ?_ | (with_reducible refine r_pkT ?_) | (with_reducible refine r_pkF ?_) | (with_reducible refine r_pkB ?_) | refine r_ex rfl ?_ | (refine r_ci64 (by omega) (by omega) ?_) | (refine r_ciu8 (by omega) (by omega) ?_) | (refine r_ciu32 (by omega) (by omega) ?_) | refine r_ci ?_ | (refine r_add1N (by omega) ?_) | (refine r_sub1N (by omega) (by omega) ?_) | (refine r_addN (by omega) ?_) | (refine r_add (by omega) (by omega) ?_) | (refine r_ixsN (by omega) ?_) | (refine r_iaaN (by omega) ?_) | (refine r_sub (by omega) (by omega) ?_) | (refine r_mul (by omega) (by omega) ?_) | (refine r_dr H ?_; clear H; intro _ S_ H; replace S := S.trans S_; clear S_) | refine r_ld 0 H rfl rfl ?_ | refine r_ld 1 H rfl rfl ?_ | refine r_ld 2 H rfl rfl ?_ | refine r_ld 3 H rfl rfl ?_ | refine r_ld 4 H rfl rfl ?_ | ((with_reducible refine r_vtD ?h ?_); (case h => omega)) | ((with_reducible refine r_vfD ?h ?_); (case h => omega)) | ((with_reducible refine r_vtE ?h ?_); (case h => omega)) | ((with_reducible refine r_vfE ?h ?_); (case h => omega)) | ((with_reducible refine r_vtN ?h ?_); (case h => omega)) | ((with_reducible refine r_vfN ?h ?_); (case h => omega)))
    have := k w1 S1 H.drop
    rw [show opn l o s = ([], 1) by unfold opn; rw [if_pos (by omega)]] at this
    exact this
  · omega
  · repeat (first | refine r_nc ?_ | refine r_fo0 ?_ | refine r_fo ?_ | refine r_ke ?_ | refine r_lns ?_ | refine r_lnl ?_ | refine r_eql ?_ | refine r_neq ?_ | refine r_lss ?_ | refine r_leq ?_ | refine r_gtr ?_ | refine r_geq ?_ | refine r_seq0 ?_ | refine r_sne0 ?_ | refine r_seq ?_ | refine r_sne ?_ | (with_reducible refine r_notT ?_) | (with_reducible refine r_notF ?_) | refine r_not ?_ | (with_reducible refine r_bnST ?_) | (with_reducible refine r_bnSF ?_) | (with_reducible refine r_bnNT ?_) | (with_reducible refine r_bnNF ?_) | (with_reducible refine r_ex20 ?_) | (with_reducible refine r_ex21 ?_) | (with_reducible refine r_ex30 ?_) | (with_reducible refine r_ex31 ?_) | (with_reducible refine r_ex32 ?_) | (with_reducible refine r_vt ?_) | (with_reducible refine r_vf ?_) | refine r_bb ?_ | (with_reducible refine r_pkT ?_) | (with_reducible refine r_pkF ?_) | (with_reducible refine r_pkB ?_) | refine r_ex rfl ?_ | (refine r_ci64 (by omega) (by omega) ?_) | (refine r_ciu8 (by omega) (by omega) ?_) | (refine r_ciu32 (by omega) (by omega) ?_) | refine r_ci ?_ | (refine r_add1N (by omega) ?_) | (refine r_sub1N (by omega) (by omega) ?_) | (refine r_addN (by omega) ?_) | (refine r_add (by omega) (by omega) ?_) | (refine r_ixsN (by omega) ?_) | (refine r_iaaN (by omega) ?_) | (refine r_sub (by omega) (by omega) ?_) | (refine r_mul (by omega) (by omega) ?_) | (refine r_dr H ?_; clear H; intro _ S_ H; replace S := S.trans S_; clear S_) | refine r_ld 0 H rfl rfl ?_ | refine r_ld 1 H rfl rfl ?_ | refine r_ld 2 H rfl rfl ?_ | refine r_ld 3 H rfl rfl ?_ | refine r_ld 4 H rfl rfl ?_ | ((with_reducible refine r_vtD ?h ?_); (case h => omega)) | ((with_reducible refine r_vfD ?h ?_); (case h => omega)) | ((with_reducible refine r_vtE ?h ?_); (case h => omega)) | ((with_reducible refine r_vfE ?h ?_); (case h => omega)) | ((with_reducible refine r_vtN ?h ?_); (case h => omega)) | ((with_reducible refine r_vfN ?h ?_); (case h => omega)))
    have := k w1 S1 H.drop
    rw [show opn l o s = ([], 23) by unfold opn; rw [if_neg (by omega), if_pos (by omega)]] at this
    exact this
  · rw [hd]
    subst h1
    have S := S1.trans S2
    clear H S1 S2
    have tl := text_len l n
    repeat (first | refine r_nc ?_ | refine r_fo0 ?_ | refine r_fo ?_ | refine r_ke ?_ | refine r_lns ?_ | refine r_lnl ?_ | refine r_eql ?_ | refine r_neq ?_ | refine r_lss ?_ | refine r_leq ?_ | refine r_gtr ?_ | refine r_geq ?_ | refine r_seq0 ?_ | refine r_sne0 ?_ | refine r_seq ?_ | refine r_sne ?_ | (with_reducible refine r_notT ?_) | (with_reducible refine r_notF ?_) | refine r_not ?_ | (with_reducible refine r_bnST ?_) | (with_reducible refine r_bnSF ?_) | (with_reducible refine r_bnNT ?_) | (with_reducible refine r_bnNF ?_) | (with_reducible refine r_ex20 ?_) | (with_reducible refine r_ex21 ?_) | (with_reducible refine r_ex30 ?_) | (with_reducible refine r_ex31 ?_) | (with_reducible refine r_ex32 ?_) | (with_reducible refine r_vt ?_) | (with_reducible refine r_vf ?_) | refine r_bb ?_ | (with_reducible refine r_pkT ?_) | (with_reducible refine r_pkF ?_) | (with_reducible refine r_pkB ?_) | refine r_ex rfl ?_ | (refine r_ci64 (by omega) (by omega) ?_) | (refine r_ciu8 (by omega) (by omega) ?_) | (refine r_ciu32 (by omega) (by omega) ?_) | refine r_ci ?_ | (refine r_add1N (by omega) ?_) | (refine r_sub1N (by omega) (by omega) ?_) | (refine r_addN (by omega) ?_) | (refine r_add (by omega) (by omega) ?_) | (refine r_ixsN (by omega) ?_) | (refine r_iaaN (by omega) ?_) | (refine r_sub (by omega) (by omega) ?_) | (refine r_mul (by omega) (by omega) ?_) | (refine r_dr H ?_; clear H; intro _ S_ H; replace S := S.trans S_; clear S_) | refine r_ld 0 H rfl rfl ?_ | refine r_ld 1 H rfl rfl ?_ | refine r_ld 2 H rfl rfl ?_ | refine r_ld 3 H rfl rfl ?_ | refine r_ld 4 H rfl rfl ?_ | ((with_reducible refine r_vtD ?h ?_); (case h => omega)) | ((with_reducible refine r_vfD ?h ?_); (case h => omega)) | ((with_reducible refine r_vtE ?h ?_); (case h => omega)) | ((with_reducible refine r_vfE ?h ?_); (case h => omega)) | ((with_reducible refine r_vtN ?h ?_); (case h => omega)) | ((with_reducible refine r_vfN ?h ?_); (case h => omega)))
    have e0 : opn l (n : Int) s = match rle (text l n) with
      | none => ([], 25)
      | some t => if ((crcOf t : Nat) : Int) = s then (t, 0) else ([], 21) := by
      unfold opn
      rw [if_neg (by omega), if_neg (by omega), Int.toNat_natCast]
    rw [e0] at k
    refine R3b.Decode_spec H2 (by omega) (fun hr e w3 he S3 H3 => ?_) fun t hr w3 S3 H3 => ?_
    · rw [hr] at k
      dsimp only at k
      repeat (first | refine r_nc ?_ | refine r_fo0 ?_ | refine r_fo ?_ | refine r_ke ?_ | refine r_lns ?_ | refine r_lnl ?_ | refine r_eql ?_ | refine r_neq ?_ | refine r_lss ?_ | refine r_leq ?_ | refine r_gtr ?_ | refine r_geq ?_ | refine r_seq0 ?_ | refine r_sne0 ?_ | refine r_seq ?_ | refine r_sne ?_ | (with_reducible refine r_notT ?_) | (with_reducible refine r_notF ?_) | refine r_not ?_ | (with_reducible refine r_bnST ?_) | (with_reducible refine r_bnSF ?_) | (with_reducible refine r_bnNT ?_) | (with_reducible refine r_bnNF ?_) | (with_reducible refine r_ex20 ?_) | (with_reducible refine r_ex21 ?_) | (with_reducible refine r_ex30 ?_) | (with_reducible refine r_ex31 ?_) | (with_reducible refine r_ex32 ?_) | (with_reducible refine r_vt ?_) | (with_reducible refine r_vf ?_) | refine r_bb ?_ | (with_reducible refine r_pkT ?_) | (with_reducible refine r_pkF ?_) | (with_reducible refine r_pkB ?_) | refine r_ex rfl ?_ | (refine r_ci64 (by omega) (by omega) ?_) | (refine r_ciu8 (by omega) (by omega) ?_) | (refine r_ciu32 (by omega) (by omega) ?_) | refine r_ci ?_ | (refine r_add1N (by omega) ?_) | (refine r_sub1N (by omega) (by omega) ?_) | (refine r_addN (by omega) ?_) | (refine r_add (by omega) (by omega) ?_) | (refine r_ixsN (by omega) ?_) | (refine r_iaaN (by omega) ?_) | (refine r_sub (by omega) (by omega) ?_) | (refine r_mul (by omega) (by omega) ?_) | (refine r_dr H ?_; clear H; intro _ S_ H; replace S := S.trans S_; clear S_) | refine r_ld 0 H rfl rfl ?_ | refine r_ld 1 H rfl rfl ?_ | refine r_ld 2 H rfl rfl ?_ | refine r_ld 3 H rfl rfl ?_ | refine r_ld 4 H rfl rfl ?_ | ((with_reducible refine r_vtD ?h ?_); (case h => omega)) | ((with_reducible refine r_vfD ?h ?_); (case h => omega)) | ((with_reducible refine r_vtE ?h ?_); (case h => omega)) | ((with_reducible refine r_vfE ?h ?_); (case h => omega)) | ((with_reducible refine r_vtN ?h ?_); (case h => omega)) | ((with_reducible refine r_vfN ?h ?_); (case h => omega)))
      exact k _ (S.trans S3) H3.drop
    · rw [hr] at k
      dsimp only at k
      have htl := rleA_len _ _ _ _ _ hr
      rw [tl] at htl
      replace S := S.trans S3
      clear H2 S3
      have H := H3
      clear H3
      repeat (first | refine r_nc ?_ | refine r_fo0 ?_ | refine r_fo ?_ | refine r_ke ?_ | refine r_lns ?_ | refine r_lnl ?_ | refine r_eql ?_ | refine r_neq ?_ | refine r_lss ?_ | refine r_leq ?_ | refine r_gtr ?_ | refine r_geq ?_ | refine r_seq0 ?_ | refine r_sne0 ?_ | refine r_seq ?_ | refine r_sne ?_ | (with_reducible refine r_notT ?_) | (with_reducible refine r_notF ?_) | refine r_not ?_ | (with_reducible refine r_bnST ?_) | (with_reducible refine r_bnSF ?_) | (with_reducible refine r_bnNT ?_) | (with_reducible refine r_bnNF ?_) | (with_reducible refine r_ex20 ?_) | (with_reducible refine r_ex21 ?_) | (with_reducible refine r_ex30 ?_) | (with_reducible refine r_ex31 ?_) | (with_reducible refine r_ex32 ?_) | (with_reducible refine r_vt ?_) | (with_reducible refine r_vf ?_) | refine r_bb ?_ | (with_reducible refine r_pkT ?_) | (with_reducible refine r_pkF ?_) | (with_reducible refine r_pkB ?_) | refine r_ex rfl ?_ | (refine r_ci64 (by omega) (by omega) ?_) | (refine r_ciu8 (by omega) (by omega) ?_) | (refine r_ciu32 (by omega) (by omega) ?_) | refine r_ci ?_ | (refine r_add1N (by omega) ?_) | (refine r_sub1N (by omega) (by omega) ?_) | (refine r_addN (by omega) ?_) | (refine r_add (by omega) (by omega) ?_) | (refine r_ixsN (by omega) ?_) | (refine r_iaaN (by omega) ?_) | (refine r_sub (by omega) (by omega) ?_) | (refine r_mul (by omega) (by omega) ?_) | (refine r_dr H ?_; clear H; intro _ S_ H; replace S := S.trans S_; clear S_) | refine r_ld 0 H rfl rfl ?_ | refine r_ld 1 H rfl rfl ?_ | refine r_ld 2 H rfl rfl ?_ | refine r_ld 3 H rfl rfl ?_ | refine r_ld 4 H rfl rfl ?_ | ((with_reducible refine r_vtD ?h ?_); (case h => omega)) | ((with_reducible refine r_vfD ?h ?_); (case h => omega)) | ((with_reducible refine r_vtE ?h ?_); (case h => omega)) | ((with_reducible refine r_vfE ?h ?_); (case h => omega)) | ((with_reducible refine r_vtN ?h ?_); (case h => omega)) | ((with_reducible refine r_vfN ?h ?_); (case h => omega)))
      refine R3b.Of_spec H (by simp at htl; omega) fun w5 S5 H5 => ?_
      repeat (first | refine r_rk (r_ld 0 H rfl rfl rfl) ?_ | refine r_ld 0 H5 rfl rfl ?_ | refine r_nc ?_ | refine r_fo0 ?_ | refine r_fo ?_ | refine r_ke ?_ | refine r_lns ?_ | refine r_lnl ?_ | refine r_eql ?_ | refine r_neq ?_ | refine r_lss ?_ | refine r_leq ?_ | refine r_gtr ?_ | refine r_geq ?_ | refine r_seq0 ?_ | refine r_sne0 ?_ | refine r_seq ?_ | refine r_sne ?_ | (with_reducible refine r_notT ?_) | (with_reducible refine r_notF ?_) | refine r_not ?_ | (with_reducible refine r_bnST ?_) | (with_reducible refine r_bnSF ?_) | (with_reducible refine r_bnNT ?_) | (with_reducible refine r_bnNF ?_) | (with_reducible refine r_ex20 ?_) | (with_reducible refine r_ex21 ?_) | (with_reducible refine r_ex30 ?_) | (with_reducible refine r_ex31 ?_) | (with_reducible refine r_ex32 ?_) | (with_reducible refine r_vt ?_) | (with_reducible refine r_vf ?_) | refine r_bb ?_ | (with_reducible refine r_pkT ?_) | (with_reducible refine r_pkF ?_) | (with_reducible refine r_pkB ?_) | refine r_ex rfl ?_ | (refine r_ci64 (by omega) (by omega) ?_) | (refine r_ciu8 (by omega) (by omega) ?_) | (refine r_ciu32 (by omega) (by omega) ?_) | refine r_ci ?_ | (refine r_add1N (by omega) ?_) | (refine r_sub1N (by omega) (by omega) ?_) | (refine r_addN (by omega) ?_) | (refine r_add (by omega) (by omega) ?_) | (refine r_ixsN (by omega) ?_) | (refine r_iaaN (by omega) ?_) | (refine r_sub (by omega) (by omega) ?_) | (refine r_mul (by omega) (by omega) ?_) | (refine r_dr H ?_; clear H; intro _ S_ H; replace S := S.trans S_; clear S_) | refine r_ld 0 H rfl rfl ?_ | refine r_ld 1 H rfl rfl ?_ | refine r_ld 2 H rfl rfl ?_ | refine r_ld 3 H rfl rfl ?_ | refine r_ld 4 H rfl rfl ?_ | ((with_reducible refine r_vtD ?h ?_); (case h => omega)) | ((with_reducible refine r_vfD ?h ?_); (case h => omega)) | ((with_reducible refine r_vtE ?h ?_); (case h => omega)) | ((with_reducible refine r_vfE ?h ?_); (case h => omega)) | ((with_reducible refine r_vtN ?h ?_); (case h => omega)) | ((with_reducible refine r_vfN ?h ?_); (case h => omega)))
      refine r_ifN (fun h => ?_) fun h => ?_
      · have := k _ (S.trans S5) H5.drop
        rw [if_neg h] at this
        repeat (first | refine r_nc ?_ | refine r_fo0 ?_ | refine r_fo ?_ | refine r_ke ?_ | refine r_lns ?_ | refine r_lnl ?_ | refine r_eql ?_ | refine r_neq ?_ | refine r_lss ?_ | refine r_leq ?_ | refine r_gtr ?_ | refine r_geq ?_ | refine r_seq0 ?_ | refine r_sne0 ?_ | refine r_seq ?_ | refine r_sne ?_ | (with_reducible refine r_notT ?_) | (with_reducible refine r_notF ?_) | refine r_not ?_ | (with_reducible refine r_bnST ?_) | (with_reducible refine r_bnSF ?_) | (with_reducible refine r_bnNT ?_) | (with_reducible refine r_bnNF ?_) | (with_reducible refine r_ex20 ?_) | (with_reducible refine r_ex21 ?_) | (with_reducible refine r_ex30 ?_) | (with_reducible refine r_ex31 ?_) | (with_reducible refine r_ex32 ?_) | (with_reducible refine r_vt ?_) | (with_reducible refine r_vf ?_) | refine r_bb ?_ | (with_reducible refine r_pkT ?_) | (with_reducible refine r_pkF ?_) | (with_reducible refine r_pkB ?_) | refine r_ex rfl ?_ | (refine r_ci64 (by omega) (by omega) ?_) | (refine r_ciu8 (by omega) (by omega) ?_) | (refine r_ciu32 (by omega) (by omega) ?_) | refine r_ci ?_ | (refine r_add1N (by omega) ?_) | (refine r_sub1N (by omega) (by omega) ?_) | (refine r_addN (by omega) ?_) | (refine r_add (by omega) (by omega) ?_) | (refine r_ixsN (by omega) ?_) | (refine r_iaaN (by omega) ?_) | (refine r_sub (by omega) (by omega) ?_) | (refine r_mul (by omega) (by omega) ?_) | (refine r_dr H ?_; clear H; intro _ S_ H; replace S := S.trans S_; clear S_) | refine r_ld 0 H rfl rfl ?_ | refine r_ld 1 H rfl rfl ?_ | refine r_ld 2 H rfl rfl ?_ | refine r_ld 3 H rfl rfl ?_ | refine r_ld 4 H rfl rfl ?_ | ((with_reducible refine r_vtD ?h ?_); (case h => omega)) | ((with_reducible refine r_vfD ?h ?_); (case h => omega)) | ((with_reducible refine r_vtE ?h ?_); (case h => omega)) | ((with_reducible refine r_vfE ?h ?_); (case h => omega)) | ((with_reducible refine r_vtN ?h ?_); (case h => omega)) | ((with_reducible refine r_vfN ?h ?_); (case h => omega)))
        exact this
      · have := k _ (S.trans S5) H5.drop
        rw [if_pos h] at this
        repeat (first | refine r_nc ?_ | refine r_fo0 ?_ | refine r_fo ?_ | refine r_ke ?_ | refine r_lns ?_ | refine r_lnl ?_ | refine r_eql ?_ | refine r_neq ?_ | refine r_lss ?_ | refine r_leq ?_ | refine r_gtr ?_ | refine r_geq ?_ | refine r_seq0 ?_ | refine r_sne0 ?_ | refine r_seq ?_ | refine r_sne ?_ | (with_reducible refine r_notT ?_) | (with_reducible refine r_notF ?_) | refine r_not ?_ | (with_reducible refine r_bnST ?_) | (with_reducible refine r_bnSF ?_) | (with_reducible refine r_bnNT ?_) | (with_reducible refine r_bnNF ?_) | (with_reducible refine r_ex20 ?_) | (with_reducible refine r_ex21 ?_) | (with_reducible refine r_ex30 ?_) | (with_reducible refine r_ex31 ?_) | (with_reducible refine r_ex32 ?_) | (with_reducible refine r_vt ?_) | (with_reducible refine r_vf ?_) | refine r_bb ?_ | (with_reducible refine r_pkT ?_) | (with_reducible refine r_pkF ?_) | (with_reducible refine r_pkB ?_) | refine r_ex rfl ?_ | (refine r_ci64 (by omega) (by omega) ?_) | (refine r_ciu8 (by omega) (by omega) ?_) | (refine r_ciu32 (by omega) (by omega) ?_) | refine r_ci ?_ | (refine r_add1N (by omega) ?_) | (refine r_sub1N (by omega) (by omega) ?_) | (refine r_addN (by omega) ?_) | (refine r_add (by omega) (by omega) ?_) | (refine r_ixsN (by omega) ?_) | (refine r_iaaN (by omega) ?_) | (refine r_sub (by omega) (by omega) ?_) | (refine r_mul (by omega) (by omega) ?_) | (refine r_dr H ?_; clear H; intro _ S_ H; replace S := S.trans S_; clear S_) | refine r_ld 0 H rfl rfl ?_ | refine r_ld 1 H rfl rfl ?_ | refine r_ld 2 H rfl rfl ?_ | refine r_ld 3 H rfl rfl ?_ | refine r_ld 4 H rfl rfl ?_ | ((with_reducible refine r_vtD ?h ?_); (case h => omega)) | ((with_reducible refine r_vfD ?h ?_); (case h => omega)) | ((with_reducible refine r_vtE ?h ?_); (case h => omega)) | ((with_reducible refine r_vfE ?h ?_); (case h => omega)) | ((with_reducible refine r_vtN ?h ?_); (case h => omega)) | ((with_reducible refine r_vfN ?h ?_); (case h => omega)))
        exact this
theorem ROpen_spec {l : List UInt8} {o s : Int} (H : Holds w L) (hl : l.length ≤ 1000) (k : ∀ w', Same w w' → Holds w' L → K (.tuple #[S_ (opn l o s).1, iv (opn l o s).2]) w') : Cl Tryz.prog F.balerref20_Open #[.agg (gotV l o s).toArray] w K := by
  refine Tie.balerref20_Open ?_
  unfold Vcf.balerref20_Open
  refine r_new H fun b w1 S1 H1 => ?_
  replace H1 : Holds w1 (blk b tH (gotV l o s) :: L) := H1
  clear H
  have H := H1
  clear H1
  have hs : (⟨l.toArray⟩ : ByteArray).size = l.length := by show l.toArray.size = _; simp
  have hd : (⟨l.toArray⟩ : ByteArray).data.toList = l := by simp
  repeat (first | refine r_nc ?_ | refine r_fo0 ?_ | refine r_fo ?_ | refine r_ke ?_ | refine r_lns ?_ | refine r_lnl ?_ | refine r_eql ?_ | refine r_neq ?_ | refine r_lss ?_ | refine r_leq ?_ | refine r_gtr ?_ | refine r_geq ?_ | refine r_seq0 ?_ | refine r_sne0 ?_ | refine r_seq ?_ | refine r_sne ?_ | (with_reducible refine r_notT ?_) | (with_reducible refine r_notF ?_) | refine r_not ?_ | (with_reducible refine r_bnST ?_) | (with_reducible refine r_bnSF ?_) | (with_reducible refine r_bnNT ?_) | (with_reducible refine r_bnNF ?_) | (with_reducible refine r_ex20 ?_) | (with_reducible refine r_ex21 ?_) | (with_reducible refine r_ex30 ?_) | (with_reducible refine r_ex31 ?_) | (with_reducible refine r_ex32 ?_) | (with_reducible refine r_vt ?_) | (with_reducible refine r_vf ?_) | refine r_bb ?_ | (with_reducible refine r_pkT ?_) | (with_reducible refine r_pkF ?_) | (with_reducible refine r_pkB ?_) | refine r_ex rfl ?_ | (refine r_ci64 (by omega) (by omega) ?_) | (refine r_ciu8 (by omega) (by omega) ?_) | (refine r_ciu32 (by omega) (by omega) ?_) | refine r_ci ?_ | (refine r_add1N (by omega) ?_) | (refine r_sub1N (by omega) (by omega) ?_) | (refine r_addN (by omega) ?_) | (refine r_add (by omega) (by omega) ?_) | (refine r_ixsN (by omega) ?_) | (refine r_iaaN (by omega) ?_) | (refine r_sub (by omega) (by omega) ?_) | (refine r_mul (by omega) (by omega) ?_) | (refine r_dr H ?_; clear H; intro _ S_ H; replace S := S.trans S_; clear S_) | refine r_ld 0 H rfl rfl ?_ | refine r_ld 1 H rfl rfl ?_ | refine r_ld 2 H rfl rfl ?_ | refine r_ld 3 H rfl rfl ?_ | refine r_ld 4 H rfl rfl ?_ | ((with_reducible refine r_vtD ?h ?_); (case h => omega)) | ((with_reducible refine r_vfD ?h ?_); (case h => omega)) | ((with_reducible refine r_vtE ?h ?_); (case h => omega)) | ((with_reducible refine r_vfE ?h ?_); (case h => omega)) | ((with_reducible refine r_vtN ?h ?_); (case h => omega)) | ((with_reducible refine r_vfN ?h ?_); (case h => omega)))
  rw [hs]
  refine r_ifD (fun h => ?_) fun h => ?_
  · have := k w1 S1 H.drop
    rw [show opn l o s = ([], 1) by unfold opn; rw [if_pos h]] at this
    exact this
  refine r_join1 (fun x w' => w1 = w' ∧ x = .bool (decide (o < 0 ∨ (l.length : Int) ≤ o))) ?_ ?_
  rotate_left
  · repeat (first | refine r_nc ?_ | refine r_fo0 ?_ | refine r_fo ?_ | refine r_ke ?_ | refine r_lns ?_ | refine r_lnl ?_ | refine r_eql ?_ | refine r_neq ?_ | refine r_lss ?_ | refine r_leq ?_ | refine r_gtr ?_ | refine r_geq ?_ | refine r_seq0 ?_ | refine r_sne0 ?_ | refine r_seq ?_ | refine r_sne ?_ | (with_reducible refine r_notT ?_) | (with_reducible refine r_notF ?_) | refine r_not ?_ | (with_reducible refine r_bnST ?_) | (with_reducible refine r_bnSF ?_) | (with_reducible refine r_bnNT ?_) | (with_reducible refine r_bnNF ?_) | (with_reducible refine r_ex20 ?_) | (with_reducible refine r_ex21 ?_) | (with_reducible refine r_ex30 ?_) | (with_reducible refine r_ex31 ?_) | (with_reducible refine r_ex32 ?_) | (with_reducible refine r_vt ?_) | (with_reducible refine r_vf ?_) | refine r_bb ?_ | (with_reducible refine r_pkT ?_) | (with_reducible refine r_pkF ?_) | (with_reducible refine r_pkB ?_) | refine r_ex rfl ?_ | (refine r_ci64 (by omega) (by omega) ?_) | (refine r_ciu8 (by omega) (by omega) ?_) | (refine r_ciu32 (by omega) (by omega) ?_) | refine r_ci ?_ | (refine r_add1N (by omega) ?_) | (refine r_sub1N (by omega) (by omega) ?_) | (refine r_addN (by omega) ?_) | (refine r_add (by omega) (by omega) ?_) | (refine r_ixsN (by omega) ?_) | (refine r_iaaN (by omega) ?_) | (refine r_sub (by omega) (by omega) ?_) | (refine r_mul (by omega) (by omega) ?_) | (refine r_dr H ?_; clear H; intro _ S_ H; replace S := S.trans S_; clear S_) | refine r_ld 0 H rfl rfl ?_ | refine r_ld 1 H rfl rfl ?_ | refine r_ld 2 H rfl rfl ?_ | refine r_ld 3 H rfl rfl ?_ | refine r_ld 4 H rfl rfl ?_ | ((with_reducible refine r_vtD ?h ?_); (case h => omega)) | ((with_reducible refine r_vfD ?h ?_); (case h => omega)) | ((with_reducible refine r_vtE ?h ?_); (case h => omega)) | ((with_reducible refine r_vfE ?h ?_); (case h => omega)) | ((with_reducible refine r_vtN ?h ?_); (case h => omega)) | ((with_reducible refine r_vfN ?h ?_); (case h => omega)))
    refine r_ifD (fun h2 => r_ke ⟨rfl, by rw [decide_eq_true (.inl h2)]⟩) fun h2 => ?_
    repeat (first | refine r_nc ?_ | refine r_fo0 ?_ | refine r_fo ?_ | refine r_ke ?_ | refine r_lns ?_ | refine r_lnl ?_ | refine r_eql ?_ | refine r_neq ?_ | refine r_lss ?_ | refine r_leq ?_ | refine r_gtr ?_ | refine r_geq ?_ | refine r_seq0 ?_ | refine r_sne0 ?_ | refine r_seq ?_ | refine r_sne ?_ | (with_reducible refine r_notT ?_) | (with_reducible refine r_notF ?_) | refine r_not ?_ | (with_reducible refine r_bnST ?_) | (with_reducible refine r_bnSF ?_) | (with_reducible refine r_bnNT ?_) | (with_reducible refine r_bnNF ?_) | (with_reducible refine r_ex20 ?_) | (with_reducible refine r_ex21 ?_) | (with_reducible refine r_ex30 ?_) | (with_reducible refine r_ex31 ?_) | (with_reducible refine r_ex32 ?_) | (with_reducible refine r_vt ?_) | (with_reducible refine r_vf ?_) | refine r_bb ?_ | (with_reducible refine r_pkT ?_) | (with_reducible refine r_pkF ?_) | (with_reducible refine r_pkB ?_) | refine r_ex rfl ?_ | (refine r_ci64 (by omega) (by omega) ?_) | (refine r_ciu8 (by omega) (by omega) ?_) | (refine r_ciu32 (by omega) (by omega) ?_) | refine r_ci ?_ | (refine r_add1N (by omega) ?_) | (refine r_sub1N (by omega) (by omega) ?_) | (refine r_addN (by omega) ?_) | (refine r_add (by omega) (by omega) ?_) | (refine r_ixsN (by omega) ?_) | (refine r_iaaN (by omega) ?_) | (refine r_sub (by omega) (by omega) ?_) | (refine r_mul (by omega) (by omega) ?_) | (refine r_dr H ?_; clear H; intro _ S_ H; replace S := S.trans S_; clear S_) | refine r_ld 0 H rfl rfl ?_ | refine r_ld 1 H rfl rfl ?_ | refine r_ld 2 H rfl rfl ?_ | refine r_ld 3 H rfl rfl ?_ | refine r_ld 4 H rfl rfl ?_ | ((with_reducible refine r_vtD ?h ?_); (case h => omega)) | ((with_reducible refine r_vfD ?h ?_); (case h => omega)) | ((with_reducible refine r_vtE ?h ?_); (case h => omega)) | ((with_reducible refine r_vfE ?h ?_); (case h => omega)) | ((with_reducible refine r_vtN ?h ?_); (case h => omega)) | ((with_reducible refine r_vfN ?h ?_); (case h => omega)))
    rw [hs]
    refine ⟨rfl, ?_⟩
    congr 1
    rw [Bool.eq_iff_iff, decide_eq_true_iff, decide_eq_true_iff]
    omega
  rintro _ _ _ ⟨rfl, rfl⟩
  refine r_ifD (fun h2 => ?_) fun h2 => ?_
  · have := k w1 S1 H.drop
    rw [show opn l o s = ([], 23) by unfold opn; rw [if_neg h, if_pos h2]] at this
    exact this
  obtain ⟨n, rfl⟩ : ∃ n : Nat, o = n := ⟨o.toNat, by omega⟩
  have e0 : opn l (n : Int) s = match rle (text l n) with
    | none => ([], 25)
    | some t => if ((crcOf t : Nat) : Int) = s then (t, 0) else ([], 21) := by
    unfold opn
    rw [if_neg (by omega), if_neg (by omega), Int.toNat_natCast]
  rw [e0] at k
  have tl := text_len l n
  repeat (first | refine r_nc ?_ | refine r_fo0 ?_ | refine r_fo ?_ | refine r_ke ?_ | refine r_lns ?_ | refine r_lnl ?_ | refine r_eql ?_ | refine r_neq ?_ | refine r_lss ?_ | refine r_leq ?_ | refine r_gtr ?_ | refine r_geq ?_ | refine r_seq0 ?_ | refine r_sne0 ?_ | refine r_seq ?_ | refine r_sne ?_ | (with_reducible refine r_notT ?_) | (with_reducible refine r_notF ?_) | refine r_not ?_ | (with_reducible refine r_bnST ?_) | (with_reducible refine r_bnSF ?_) | (with_reducible refine r_bnNT ?_) | (with_reducible refine r_bnNF ?_) | (with_reducible refine r_ex20 ?_) | (with_reducible refine r_ex21 ?_) | (with_reducible refine r_ex30 ?_) | (with_reducible refine r_ex31 ?_) | (with_reducible refine r_ex32 ?_) | (with_reducible refine r_vt ?_) | (with_reducible refine r_vf ?_) | refine r_bb ?_ | (with_reducible refine r_pkT ?_) | (with_reducible refine r_pkF ?_) | (with_reducible refine r_pkB ?_) | refine r_ex rfl ?_ | (refine r_ci64 (by omega) (by omega) ?_) | (refine r_ciu8 (by omega) (by omega) ?_) | (refine r_ciu32 (by omega) (by omega) ?_) | refine r_ci ?_ | (refine r_add1N (by omega) ?_) | (refine r_sub1N (by omega) (by omega) ?_) | (refine r_addN (by omega) ?_) | (refine r_add (by omega) (by omega) ?_) | (refine r_ixsN (by omega) ?_) | (refine r_iaaN (by omega) ?_) | (refine r_sub (by omega) (by omega) ?_) | (refine r_mul (by omega) (by omega) ?_) | (refine r_dr H ?_; clear H; intro _ S_ H; replace S := S.trans S_; clear S_) | refine r_ld 0 H rfl rfl ?_ | refine r_ld 1 H rfl rfl ?_ | refine r_ld 2 H rfl rfl ?_ | refine r_ld 3 H rfl rfl ?_ | refine r_ld 4 H rfl rfl ?_ | ((with_reducible refine r_vtD ?h ?_); (case h => omega)) | ((with_reducible refine r_vfD ?h ?_); (case h => omega)) | ((with_reducible refine r_vtE ?h ?_); (case h => omega)) | ((with_reducible refine r_vfE ?h ?_); (case h => omega)) | ((with_reducible refine r_vtN ?h ?_); (case h => omega)) | ((with_reducible refine r_vfN ?h ?_); (case h => omega)))
  refine U18.ROf_spec (s := ⟨l.toArray⟩) H (by omega) (by omega) fun w2 S2 H2 => ?_
  rw [hd]
  have S := S1.trans S2
  clear H S1 S2
  refine Decode_spec H2 (by omega) (fun hr e w3 he S3 H3 => ?_) fun t hr w3 S3 H3 => ?_
  · rw [hr] at k
    dsimp only at k
    repeat (first | refine r_nc ?_ | refine r_fo0 ?_ | refine r_fo ?_ | refine r_ke ?_ | refine r_lns ?_ | refine r_lnl ?_ | refine r_eql ?_ | refine r_neq ?_ | refine r_lss ?_ | refine r_leq ?_ | refine r_gtr ?_ | refine r_geq ?_ | refine r_seq0 ?_ | refine r_sne0 ?_ | refine r_seq ?_ | refine r_sne ?_ | (with_reducible refine r_notT ?_) | (with_reducible refine r_notF ?_) | refine r_not ?_ | (with_reducible refine r_bnST ?_) | (with_reducible refine r_bnSF ?_) | (with_reducible refine r_bnNT ?_) | (with_reducible refine r_bnNF ?_) | (with_reducible refine r_ex20 ?_) | (with_reducible refine r_ex21 ?_) | (with_reducible refine r_ex30 ?_) | (with_reducible refine r_ex31 ?_) | (with_reducible refine r_ex32 ?_) | (with_reducible refine r_vt ?_) | (with_reducible refine r_vf ?_) | refine r_bb ?_ | (with_reducible refine r_pkT ?_) | (with_reducible refine r_pkF ?_) | (with_reducible refine r_pkB ?_) | refine r_ex rfl ?_ | (refine r_ci64 (by omega) (by omega) ?_) | (refine r_ciu8 (by omega) (by omega) ?_) | (refine r_ciu32 (by omega) (by omega) ?_) | refine r_ci ?_ | (refine r_add1N (by omega) ?_) | (refine r_sub1N (by omega) (by omega) ?_) | (refine r_addN (by omega) ?_) | (refine r_add (by omega) (by omega) ?_) | (refine r_ixsN (by omega) ?_) | (refine r_iaaN (by omega) ?_) | (refine r_sub (by omega) (by omega) ?_) | (refine r_mul (by omega) (by omega) ?_) | (refine r_dr H ?_; clear H; intro _ S_ H; replace S := S.trans S_; clear S_) | refine r_ld 0 H rfl rfl ?_ | refine r_ld 1 H rfl rfl ?_ | refine r_ld 2 H rfl rfl ?_ | refine r_ld 3 H rfl rfl ?_ | refine r_ld 4 H rfl rfl ?_ | ((with_reducible refine r_vtD ?h ?_); (case h => omega)) | ((with_reducible refine r_vfD ?h ?_); (case h => omega)) | ((with_reducible refine r_vtE ?h ?_); (case h => omega)) | ((with_reducible refine r_vfE ?h ?_); (case h => omega)) | ((with_reducible refine r_vtN ?h ?_); (case h => omega)) | ((with_reducible refine r_vfN ?h ?_); (case h => omega)))
    exact k _ (S.trans S3) H3.drop
  · rw [hr] at k
    dsimp only at k
    have htl := rleA_len _ _ _ _ _ hr
    rw [tl] at htl
    replace S := S.trans S3
    clear H2 S3
    have H := H3
    clear H3
    repeat (first | refine r_nc ?_ | refine r_fo0 ?_ | refine r_fo ?_ | refine r_ke ?_ | refine r_lns ?_ | refine r_lnl ?_ | refine r_eql ?_ | refine r_neq ?_ | refine r_lss ?_ | refine r_leq ?_ | refine r_gtr ?_ | refine r_geq ?_ | refine r_seq0 ?_ | refine r_sne0 ?_ | refine r_seq ?_ | refine r_sne ?_ | (with_reducible refine r_notT ?_) | (with_reducible refine r_notF ?_) | refine r_not ?_ | (with_reducible refine r_bnST ?_) | (with_reducible refine r_bnSF ?_) | (with_reducible refine r_bnNT ?_) | (with_reducible refine r_bnNF ?_) | (with_reducible refine r_ex20 ?_) | (with_reducible refine r_ex21 ?_) | (with_reducible refine r_ex30 ?_) | (with_reducible refine r_ex31 ?_) | (with_reducible refine r_ex32 ?_) | (with_reducible refine r_vt ?_) | (with_reducible refine r_vf ?_) | refine r_bb ?_ | (with_reducible refine r_pkT ?_) | (with_reducible refine r_pkF ?_) | (with_reducible refine r_pkB ?_) | refine r_ex rfl ?_ | (refine r_ci64 (by omega) (by omega) ?_) | (refine r_ciu8 (by omega) (by omega) ?_) | (refine r_ciu32 (by omega) (by omega) ?_) | refine r_ci ?_ | (refine r_add1N (by omega) ?_) | (refine r_sub1N (by omega) (by omega) ?_) | (refine r_addN (by omega) ?_) | (refine r_add (by omega) (by omega) ?_) | (refine r_ixsN (by omega) ?_) | (refine r_iaaN (by omega) ?_) | (refine r_sub (by omega) (by omega) ?_) | (refine r_mul (by omega) (by omega) ?_) | (refine r_dr H ?_; clear H; intro _ S_ H; replace S := S.trans S_; clear S_) | refine r_ld 0 H rfl rfl ?_ | refine r_ld 1 H rfl rfl ?_ | refine r_ld 2 H rfl rfl ?_ | refine r_ld 3 H rfl rfl ?_ | refine r_ld 4 H rfl rfl ?_ | ((with_reducible refine r_vtD ?h ?_); (case h => omega)) | ((with_reducible refine r_vfD ?h ?_); (case h => omega)) | ((with_reducible refine r_vtE ?h ?_); (case h => omega)) | ((with_reducible refine r_vfE ?h ?_); (case h => omega)) | ((with_reducible refine r_vtN ?h ?_); (case h => omega)) | ((with_reducible refine r_vfN ?h ?_); (case h => omega)))
    refine ROf_spec (by simp at htl; omega) ?_
    repeat (first | refine r_rk (r_ld 0 H rfl rfl rfl) ?_ | refine r_nc ?_ | refine r_fo0 ?_ | refine r_fo ?_ | refine r_ke ?_ | refine r_lns ?_ | refine r_lnl ?_ | refine r_eql ?_ | refine r_neq ?_ | refine r_lss ?_ | refine r_leq ?_ | refine r_gtr ?_ | refine r_geq ?_ | refine r_seq0 ?_ | refine r_sne0 ?_ | refine r_seq ?_ | refine r_sne ?_ | (with_reducible refine r_notT ?_) | (with_reducible refine r_notF ?_) | refine r_not ?_ | (with_reducible refine r_bnST ?_) | (with_reducible refine r_bnSF ?_) | (with_reducible refine r_bnNT ?_) | (with_reducible refine r_bnNF ?_) | (with_reducible refine r_ex20 ?_) | (with_reducible refine r_ex21 ?_) | (with_reducible refine r_ex30 ?_) | (with_reducible refine r_ex31 ?_) | (with_reducible refine r_ex32 ?_) | (with_reducible refine r_vt ?_) | (with_reducible refine r_vf ?_) | refine r_bb ?_ | (with_reducible refine r_pkT ?_) | (with_reducible refine r_pkF ?_) | (with_reducible refine r_pkB ?_) | refine r_ex rfl ?_ | (refine r_ci64 (by omega) (by omega) ?_) | (refine r_ciu8 (by omega) (by omega) ?_) | (refine r_ciu32 (by omega) (by omega) ?_) | refine r_ci ?_ | (refine r_add1N (by omega) ?_) | (refine r_sub1N (by omega) (by omega) ?_) | (refine r_addN (by omega) ?_) | (refine r_add (by omega) (by omega) ?_) | (refine r_ixsN (by omega) ?_) | (refine r_iaaN (by omega) ?_) | (refine r_sub (by omega) (by omega) ?_) | (refine r_mul (by omega) (by omega) ?_) | (refine r_dr H ?_; clear H; intro _ S_ H; replace S := S.trans S_; clear S_) | refine r_ld 0 H rfl rfl ?_ | refine r_ld 1 H rfl rfl ?_ | refine r_ld 2 H rfl rfl ?_ | refine r_ld 3 H rfl rfl ?_ | refine r_ld 4 H rfl rfl ?_ | ((with_reducible refine r_vtD ?h ?_); (case h => omega)) | ((with_reducible refine r_vfD ?h ?_); (case h => omega)) | ((with_reducible refine r_vtE ?h ?_); (case h => omega)) | ((with_reducible refine r_vfE ?h ?_); (case h => omega)) | ((with_reducible refine r_vtN ?h ?_); (case h => omega)) | ((with_reducible refine r_vfN ?h ?_); (case h => omega)))
    refine r_ifN (fun h => ?_) fun h => ?_
    · have := k _ S H.drop
      rw [if_neg h] at this
      repeat (first | refine r_nc ?_ | refine r_fo0 ?_ | refine r_fo ?_ | refine r_ke ?_ | refine r_lns ?_ | refine r_lnl ?_ | refine r_eql ?_ | refine r_neq ?_ | refine r_lss ?_ | refine r_leq ?_ | refine r_gtr ?_ | refine r_geq ?_ | refine r_seq0 ?_ | refine r_sne0 ?_ | refine r_seq ?_ | refine r_sne ?_ | (with_reducible refine r_notT ?_) | (with_reducible refine r_notF ?_) | refine r_not ?_ | (with_reducible refine r_bnST ?_) | (with_reducible refine r_bnSF ?_) | (with_reducible refine r_bnNT ?_) | (with_reducible refine r_bnNF ?_) | (with_reducible refine r_ex20 ?_) | (with_reducible refine r_ex21 ?_) | (with_reducible refine r_ex30 ?_) | (with_reducible refine r_ex31 ?_) | (with_reducible refine r_ex32 ?_) | (with_reducible refine r_vt ?_) | (with_reducible refine r_vf ?_) | refine r_bb ?_ | (with_reducible refine r_pkT ?_) | (with_reducible refine r_pkF ?_) | (with_reducible refine r_pkB ?_) | refine r_ex rfl ?_ | (refine r_ci64 (by omega) (by omega) ?_) | (refine r_ciu8 (by omega) (by omega) ?_) | (refine r_ciu32 (by omega) (by omega) ?_) | refine r_ci ?_ | (refine r_add1N (by omega) ?_) | (refine r_sub1N (by omega) (by omega) ?_) | (refine r_addN (by omega) ?_) | (refine r_add (by omega) (by omega) ?_) | (refine r_ixsN (by omega) ?_) | (refine r_iaaN (by omega) ?_) | (refine r_sub (by omega) (by omega) ?_) | (refine r_mul (by omega) (by omega) ?_) | (refine r_dr H ?_; clear H; intro _ S_ H; replace S := S.trans S_; clear S_) | refine r_ld 0 H rfl rfl ?_ | refine r_ld 1 H rfl rfl ?_ | refine r_ld 2 H rfl rfl ?_ | refine r_ld 3 H rfl rfl ?_ | refine r_ld 4 H rfl rfl ?_ | ((with_reducible refine r_vtD ?h ?_); (case h => omega)) | ((with_reducible refine r_vfD ?h ?_); (case h => omega)) | ((with_reducible refine r_vtE ?h ?_); (case h => omega)) | ((with_reducible refine r_vfE ?h ?_); (case h => omega)) | ((with_reducible refine r_vtN ?h ?_); (case h => omega)) | ((with_reducible refine r_vfN ?h ?_); (case h => omega)))
      exact this
    · have := k _ S H.drop
      rw [if_pos h] at this
      repeat (first | refine r_nc ?_ | refine r_fo0 ?_ | refine r_fo ?_ | refine r_ke ?_ | refine r_lns ?_ | refine r_lnl ?_ | refine r_eql ?_ | refine r_neq ?_ | refine r_lss ?_ | refine r_leq ?_ | refine r_gtr ?_ | refine r_geq ?_ | refine r_seq0 ?_ | refine r_sne0 ?_ | refine r_seq ?_ | refine r_sne ?_ | (with_reducible refine r_notT ?_) | (with_reducible refine r_notF ?_) | refine r_not ?_ | (with_reducible refine r_bnST ?_) | (with_reducible refine r_bnSF ?_) | (with_reducible refine r_bnNT ?_) | (with_reducible refine r_bnNF ?_) | (with_reducible refine r_ex20 ?_) | (with_reducible refine r_ex21 ?_) | (with_reducible refine r_ex30 ?_) | (with_reducible refine r_ex31 ?_) | (with_reducible refine r_ex32 ?_) | (with_reducible refine r_vt ?_) | (with_reducible refine r_vf ?_) | refine r_bb ?_ | (with_reducible refine r_pkT ?_) | (with_reducible refine r_pkF ?_) | (with_reducible refine r_pkB ?_) | refine r_ex rfl ?_ | (refine r_ci64 (by omega) (by omega) ?_) | (refine r_ciu8 (by omega) (by omega) ?_) | (refine r_ciu32 (by omega) (by omega) ?_) | refine r_ci ?_ | (refine r_add1N (by omega) ?_) | (refine r_sub1N (by omega) (by omega) ?_) | (refine r_addN (by omega) ?_) | (refine r_add (by omega) (by omega) ?_) | (refine r_ixsN (by omega) ?_) | (refine r_iaaN (by omega) ?_) | (refine r_sub (by omega) (by omega) ?_) | (refine r_mul (by omega) (by omega) ?_) | (refine r_dr H ?_; clear H; intro _ S_ H; replace S := S.trans S_; clear S_) | refine r_ld 0 H rfl rfl ?_ | refine r_ld 1 H rfl rfl ?_ | refine r_ld 2 H rfl rfl ?_ | refine r_ld 3 H rfl rfl ?_ | refine r_ld 4 H rfl rfl ?_ | ((with_reducible refine r_vtD ?h ?_); (case h => omega)) | ((with_reducible refine r_vfD ?h ?_); (case h => omega)) | ((with_reducible refine r_vtE ?h ?_); (case h => omega)) | ((with_reducible refine r_vfE ?h ?_); (case h => omega)) | ((with_reducible refine r_vtN ?h ?_); (case h => omega)) | ((with_reducible refine r_vfN ?h ?_); (case h => omega)))
      exact this
theorem ref_spec {l : List UInt8} {o s : Int} (H : Holds w L) (k : ∀ w', Same w w' → Holds w' L → K (.agg (gotV l o s).toArray) w') : Cl Tryz.prog F.balerlaw20_ref #[.agg (gotV l o s).toArray] w K := by
  refine Tie.balerlaw20_ref ?_
  unfold Vcf.balerlaw20_ref
  have hz : (zeroP Tryz.prog tH).cells.toList = [S_ [], iv 0, .int .u32 0] := by kernel_rfl
  refine r_new H fun b w1 S1 H1 => ?_
  replace H1 : Holds w1 (blk b tG (gotV l o s) :: L) := H1
  refine r_new H1 fun b2 w2 S2 H2 => ?_
  rw [hz] at H2
  clear H H1
  have H := H2
  clear H2
  repeat (first | refine r_nc ?_ | refine r_fo0 ?_ | refine r_fo ?_ | refine r_ke ?_ | refine r_lns ?_ | refine r_lnl ?_ | refine r_eql ?_ | refine r_neq ?_ | refine r_lss ?_ | refine r_leq ?_ | refine r_gtr ?_ | refine r_geq ?_ | refine r_seq0 ?_ | refine r_sne0 ?_ | refine r_seq ?_ | refine r_sne ?_ | (with_reducible refine r_notT ?_) | (with_reducible refine r_notF ?_) | refine r_not ?_ | (with_reducible refine r_bnST ?_) | (with_reducible refine r_bnSF ?_) | (with_reducible refine r_bnNT ?_) | (with_reducible refine r_bnNF ?_) | (with_reducible refine r_ex20 ?_) | (with_reducible refine r_ex21 ?_) | (with_reducible refine r_ex30 ?_) | (with_reducible refine r_ex31 ?_) | (with_reducible refine r_ex32 ?_) | (with_reducible refine r_vt ?_) | (with_reducible refine r_vf ?_) | refine r_bb ?_ | (with_reducible refine r_pkT ?_) | (with_reducible refine r_pkF ?_) | (with_reducible refine r_pkB ?_) | refine r_ex rfl ?_ | (refine r_ci64 (by omega) (by omega) ?_) | (refine r_ciu8 (by omega) (by omega) ?_) | (refine r_ciu32 (by omega) (by omega) ?_) | refine r_ci ?_ | (refine r_add1N (by omega) ?_) | (refine r_sub1N (by omega) (by omega) ?_) | (refine r_addN (by omega) ?_) | (refine r_add (by omega) (by omega) ?_) | (refine r_ixsN (by omega) ?_) | (refine r_iaaN (by omega) ?_) | (refine r_sub (by omega) (by omega) ?_) | (refine r_mul (by omega) (by omega) ?_) | (refine r_dr H ?_; clear H; intro _ S_ H; replace S := S.trans S_; clear S_) | refine r_ld 0 H rfl rfl ?_ | refine r_ld 1 H rfl rfl ?_ | refine r_ld 2 H rfl rfl ?_ | refine r_ld 3 H rfl rfl ?_ | refine r_ld 4 H rfl rfl ?_ | ((with_reducible refine r_vtD ?h ?_); (case h => omega)) | ((with_reducible refine r_vfD ?h ?_); (case h => omega)) | ((with_reducible refine r_vtE ?h ?_); (case h => omega)) | ((with_reducible refine r_vfE ?h ?_); (case h => omega)) | ((with_reducible refine r_vtN ?h ?_); (case h => omega)) | ((with_reducible refine r_vfN ?h ?_); (case h => omega)))
  refine r_bd (v := .agg (gotV l o s).toArray) (by kernel_rfl) ?_
  refine r_stA 0 H (vs := gotV l o s) rfl (Nat.le_refl 3) rfl rfl fun w3 S3 H3 => ?_
  replace H3 : Holds w3 (blk b2 tH (gotV l o s) :: blk b tG (gotV l o s) :: L) := H3
  refine r_ldA 0 H3 (gotV l o s) rfl rfl rfl ?_
  exact k _ ((S1.trans S2).trans S3) H3.drop.drop
/-! The rows' data: what the variable holds. -/
abbrev G : List (Nat × List Ev.X) := [(1, [(T20.I 200), (T20.I 600), (T20.I 1200), (T20.I 2400)])]
set_option maxRecDepth 1000000 in
theorem letter_spec (hG : ∀ w', Holds w' L → Ev.GOk G w') (H : Holds w L) (post : ∀ w', Same w w' → Holds w' L → K (.bool true) w') : Cl Tryz.prog F.balerlaw20_letter #[] w K := Ev.cl_trueFG T20.mixed T20.known_ok T20.test_true (hG w H) H post
def BndIn (L : List HProp) : Prop := ∀ w', Holds w' L → Ev.GOk G w'
theorem BndIn.up {Q : HProp} (h : BndIn L) : BndIn (Q :: L) := fun w' H => h w' H.drop
set_option maxRecDepth 1000000 in
theorem got_open {H : Type} {enc : TypeId × Value → H} {W : World} {base : Nat} {v : Value} {d : DataW H} {ps : List MemPlace} (hval : Value.okWide Tryz.prog W .any base tG v)
    (h : DataW.Trod enc Tryz.prog W 0 (fun _ => true) true tG v d ps) : ∃ (l : ByteArray) (o s : Int), v = .agg #[.string l, iv o, .int .u32 s] ∧ True := by
  obtain ⟨v0, v1, v2, y0, y1, y2, n, rfl, _, _, h0, h1, h2⟩ := Joins.open_agg3 Tryz.underlying24 (by kernel_rfl) (by kernel_rfl) hval h
  obtain ⟨n0, e0, _⟩ := DataW.trod_string Tryz.underlying9 h0
  obtain ⟨n1, e1, _⟩ := DataW.trod_int Tryz.underlying3 h1
  obtain ⟨n2, e2, _⟩ := DataW.trod_int Tryz.underlying22 h2
  have f0 : v0 = .string n0 := by simpa using e0
  have f1 : v1 = iv n1 := by simpa using e1
  have f2 : v2 = .int .u32 n2 := by simpa using e2
  exact ⟨n0, n1, n2, by rw [f0, f1, f2], trivial⟩
theorem BlockOpens_spec (H : Holds w L) (l : ByteArray) (o s : Int) (_ : True) (hG : BndIn L) (post : ∀ w', Same w w' → Holds w' L → K (.bool true) w') :
    Cl Tryz.prog F.balerlaw20_BlockOpens #[.agg #[.string l, iv o, .int .u32 s]] w K := by
  refine Tie.balerlaw20_BlockOpens ?_
  unfold Vcf.balerlaw20_BlockOpens
  obtain ⟨xs, rfl⟩ : ∃ xs : List UInt8, l = ⟨xs.toArray⟩ := ⟨l.data.toList, by simp⟩
  have hs : (⟨xs.toArray⟩ : ByteArray).size = xs.length := by show xs.toArray.size = _; simp
  refine r_new H fun b w1 S1 H1 => ?_
  replace H1 : Holds w1 (blk b tG (gotV xs o s) :: L) := H1
  clear H
  have H := H1
  clear H1
  repeat (first | refine r_nc ?_ | refine r_fo0 ?_ | refine r_fo ?_ | refine r_ke ?_ | refine r_lns ?_ | refine r_lnl ?_ | refine r_eql ?_ | refine r_neq ?_ | refine r_lss ?_ | refine r_leq ?_ | refine r_gtr ?_ | refine r_geq ?_ | refine r_seq0 ?_ | refine r_sne0 ?_ | refine r_seq ?_ | refine r_sne ?_ | (with_reducible refine r_notT ?_) | (with_reducible refine r_notF ?_) | refine r_not ?_ | (with_reducible refine r_bnST ?_) | (with_reducible refine r_bnSF ?_) | (with_reducible refine r_bnNT ?_) | (with_reducible refine r_bnNF ?_) | (with_reducible refine r_ex20 ?_) | (with_reducible refine r_ex21 ?_) | (with_reducible refine r_ex30 ?_) | (with_reducible refine r_ex31 ?_) | (with_reducible refine r_ex32 ?_) | (with_reducible refine r_vt ?_) | (with_reducible refine r_vf ?_) | refine r_bb ?_ | (with_reducible refine r_pkT ?_) | (with_reducible refine r_pkF ?_) | (with_reducible refine r_pkB ?_) | refine r_ex rfl ?_ | (refine r_ci64 (by omega) (by omega) ?_) | (refine r_ciu8 (by omega) (by omega) ?_) | (refine r_ciu32 (by omega) (by omega) ?_) | refine r_ci ?_ | (refine r_add1N (by omega) ?_) | (refine r_sub1N (by omega) (by omega) ?_) | (refine r_addN (by omega) ?_) | (refine r_add (by omega) (by omega) ?_) | (refine r_ixsN (by omega) ?_) | (refine r_iaaN (by omega) ?_) | (refine r_sub (by omega) (by omega) ?_) | (refine r_mul (by omega) (by omega) ?_) | (refine r_dr H ?_; clear H; intro _ S_ H; replace S := S.trans S_; clear S_) | refine r_ld 0 H rfl rfl ?_ | refine r_ld 1 H rfl rfl ?_ | refine r_ld 2 H rfl rfl ?_ | refine r_ld 3 H rfl rfl ?_ | refine r_ld 4 H rfl rfl ?_ | ((with_reducible refine r_vtD ?h ?_); (case h => omega)) | ((with_reducible refine r_vfD ?h ?_); (case h => omega)) | ((with_reducible refine r_vtE ?h ?_); (case h => omega)) | ((with_reducible refine r_vfE ?h ?_); (case h => omega)) | ((with_reducible refine r_vtN ?h ?_); (case h => omega)) | ((with_reducible refine r_vfN ?h ?_); (case h => omega)))
  rw [hs]
  refine r_ifD (fun h => ?_) fun h => ?_
  · exact letter_spec hG.up H fun w2 S2 H2 => post _ (S1.trans S2) H2.drop
  refine r_ldA 0 H (gotV xs o s) rfl rfl rfl ?_
  refine Open_spec H (by omega) fun w2 S2 H2 => ?_
  repeat (first | refine r_nc ?_ | refine r_fo0 ?_ | refine r_fo ?_ | refine r_ke ?_ | refine r_lns ?_ | refine r_lnl ?_ | refine r_eql ?_ | refine r_neq ?_ | refine r_lss ?_ | refine r_leq ?_ | refine r_gtr ?_ | refine r_geq ?_ | refine r_seq0 ?_ | refine r_sne0 ?_ | refine r_seq ?_ | refine r_sne ?_ | (with_reducible refine r_notT ?_) | (with_reducible refine r_notF ?_) | refine r_not ?_ | (with_reducible refine r_bnST ?_) | (with_reducible refine r_bnSF ?_) | (with_reducible refine r_bnNT ?_) | (with_reducible refine r_bnNF ?_) | (with_reducible refine r_ex20 ?_) | (with_reducible refine r_ex21 ?_) | (with_reducible refine r_ex30 ?_) | (with_reducible refine r_ex31 ?_) | (with_reducible refine r_ex32 ?_) | (with_reducible refine r_vt ?_) | (with_reducible refine r_vf ?_) | refine r_bb ?_ | (with_reducible refine r_pkT ?_) | (with_reducible refine r_pkF ?_) | (with_reducible refine r_pkB ?_) | refine r_ex rfl ?_ | (refine r_ci64 (by omega) (by omega) ?_) | (refine r_ciu8 (by omega) (by omega) ?_) | (refine r_ciu32 (by omega) (by omega) ?_) | refine r_ci ?_ | (refine r_add1N (by omega) ?_) | (refine r_sub1N (by omega) (by omega) ?_) | (refine r_addN (by omega) ?_) | (refine r_add (by omega) (by omega) ?_) | (refine r_ixsN (by omega) ?_) | (refine r_iaaN (by omega) ?_) | (refine r_sub (by omega) (by omega) ?_) | (refine r_mul (by omega) (by omega) ?_) | (refine r_dr H ?_; clear H; intro _ S_ H; replace S := S.trans S_; clear S_) | refine r_ld 0 H rfl rfl ?_ | refine r_ld 1 H rfl rfl ?_ | refine r_ld 2 H rfl rfl ?_ | refine r_ld 3 H rfl rfl ?_ | refine r_ld 4 H rfl rfl ?_ | ((with_reducible refine r_vtD ?h ?_); (case h => omega)) | ((with_reducible refine r_vfD ?h ?_); (case h => omega)) | ((with_reducible refine r_vtE ?h ?_); (case h => omega)) | ((with_reducible refine r_vfE ?h ?_); (case h => omega)) | ((with_reducible refine r_vtN ?h ?_); (case h => omega)) | ((with_reducible refine r_vfN ?h ?_); (case h => omega)))
  refine r_ldA 0 H2 (gotV xs o s) rfl rfl rfl ?_
  refine ref_spec H2 fun w3 S3 H3 => ?_
  refine ROpen_spec H3 (by omega) fun w4 S4 H4 => ?_
  have S := ((S1.trans S2).trans S3).trans S4
  clear H H2 H3 S1 S2 S3 S4
  repeat (first | refine r_nc ?_ | refine r_fo0 ?_ | refine r_fo ?_ | refine r_ke ?_ | refine r_lns ?_ | refine r_lnl ?_ | refine r_eql ?_ | refine r_neq ?_ | refine r_lss ?_ | refine r_leq ?_ | refine r_gtr ?_ | refine r_geq ?_ | refine r_seq0 ?_ | refine r_sne0 ?_ | refine r_seq ?_ | refine r_sne ?_ | (with_reducible refine r_notT ?_) | (with_reducible refine r_notF ?_) | refine r_not ?_ | (with_reducible refine r_bnST ?_) | (with_reducible refine r_bnSF ?_) | (with_reducible refine r_bnNT ?_) | (with_reducible refine r_bnNF ?_) | (with_reducible refine r_ex20 ?_) | (with_reducible refine r_ex21 ?_) | (with_reducible refine r_ex30 ?_) | (with_reducible refine r_ex31 ?_) | (with_reducible refine r_ex32 ?_) | (with_reducible refine r_vt ?_) | (with_reducible refine r_vf ?_) | refine r_bb ?_ | (with_reducible refine r_pkT ?_) | (with_reducible refine r_pkF ?_) | (with_reducible refine r_pkB ?_) | refine r_ex rfl ?_ | (refine r_ci64 (by omega) (by omega) ?_) | (refine r_ciu8 (by omega) (by omega) ?_) | (refine r_ciu32 (by omega) (by omega) ?_) | refine r_ci ?_ | (refine r_add1N (by omega) ?_) | (refine r_sub1N (by omega) (by omega) ?_) | (refine r_addN (by omega) ?_) | (refine r_add (by omega) (by omega) ?_) | (refine r_ixsN (by omega) ?_) | (refine r_iaaN (by omega) ?_) | (refine r_sub (by omega) (by omega) ?_) | (refine r_mul (by omega) (by omega) ?_) | (refine r_dr H ?_; clear H; intro _ S_ H; replace S := S.trans S_; clear S_) | refine r_ld 0 H rfl rfl ?_ | refine r_ld 1 H rfl rfl ?_ | refine r_ld 2 H rfl rfl ?_ | refine r_ld 3 H rfl rfl ?_ | refine r_ld 4 H rfl rfl ?_ | ((with_reducible refine r_vtD ?h ?_); (case h => omega)) | ((with_reducible refine r_vfD ?h ?_); (case h => omega)) | ((with_reducible refine r_vtE ?h ?_); (case h => omega)) | ((with_reducible refine r_vfE ?h ?_); (case h => omega)) | ((with_reducible refine r_vtN ?h ?_); (case h => omega)) | ((with_reducible refine r_vfN ?h ?_); (case h => omega)))
  refine r_vtD rfl ?_
  exact letter_spec hG.up H4 fun w5 S5 H5 => post _ (S.trans S5) H5.drop
end O20
end Go.Proofs.YtcnmamnnjdifdaaGreatDoor
