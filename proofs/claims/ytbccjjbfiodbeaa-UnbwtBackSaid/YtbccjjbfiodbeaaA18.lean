/- Chapters 15, 17: the references of the turned text, and the law of the way back. -/
import Derived.Test.YtbccjjbfiodbeaaB18
import Derived.Test.YtbccjjbfiodbeaaP18
set_option linter.unusedVariables false
set_option linter.unusedSimpArgs false
namespace Go.Proofs.Ytbccjjbfiodbeaa
open Go Go.Vc
attribute [local irreducible] Go.Vc.Nc Go.Vc.Ld Go.Vc.LdA Go.Vc.St Go.Vc.StA Go.Vc.Fo Go.Vc.Iaa Go.Vc.Ias Go.Vc.Ixs Go.Vc.Ixa Go.Vc.Fd Go.Vc.FdA Go.Vc.Bp Go.Vc.Bb Go.Vc.Bn Go.Vc.Up Go.Vc.Ci Go.Vc.Lns Go.Vc.Lnl Go.Vc.Ex Go.Vc.Sst Go.Vc.Ssl Go.Vc.New Go.Vc.Vif Go.Vc.VJoin Go.Vc.VLoop Go.Vc.KE Go.Vc.Dr Go.Vc.Rk Go.Vc.Cl Go.Vc.Inv Go.Vc.Be Go.Vc.Cv Go.Vc.Cw Go.Vc.Mf Go.Vc.Sl Go.Vc.Lk Go.Vc.Bd Go.Vc.Bs Go.Vc.Ms Go.Vc.Mm Go.Vc.Mu Go.Vc.Me Go.Vc.Es Go.Vc.Rg Go.Vc.Nx Go.Vc.Ta Go.Vc.Ap Go.Vc.Cp Go.Vc.Ln Go.Vc.Bc Go.Vc.Bmin Go.Vc.Bmax Go.Vc.Bdel Go.Vc.Bclr
namespace U18
open Go.M18
variable {w : World} {L : List HProp} {K : Value → World → Prop}
theorem Rotation_spec {s : List UInt8} {i : Nat} (H : Holds w L) (hl : s.length ≤ 1000000) (hi : i ≤ s.length)
    (post : ∀ w', Same w w' → Holds w' L → K (.string ⟨(rot s i).toArray⟩) w') :
    Cl Try.prog F.balerref15_Rotation #[.string ⟨s.toArray⟩, .int .i64 i] w K := by
  refine Tie.balerref15_Rotation ?_
  unfold Vcf.balerref15_Rotation
  have S := Same.refl w
  have hsz : (⟨s.toArray⟩ : ByteArray).size = s.length := by simp [ByteArray.size]
  refine r_dr H ?_; clear H; intro _ S_ H; replace S := S.trans S_; clear S_
  refine r_sstD (by omega) ?_
  refine r_sstT (by omega) ?_
  refine r_catL (by simp; omega) ?_
  exact post _ S H
theorem Ahead_spec {s : List UInt8} {i k : Nat} (H : Holds w L) (hl : s.length ≤ 1000000) (hi : i ≤ s.length) (hk : k ≤ s.length)
    (post : ∀ w', Same w w' → Holds w' L → K (.bool (aheadP s i k)) w') :
    Cl Try.prog F.balerref15_Ahead #[.string ⟨s.toArray⟩, .int .i64 i, .int .i64 k] w K := by
  refine Tie.balerref15_Ahead ?_
  unfold Vcf.balerref15_Ahead
  refine Rotation_spec H hl hi fun w1 S1 H1 => ?_
  refine Rotation_spec H1 hl hk fun w2 S2 H2 => ?_
  refine r_slss ?_
  have S := S1.trans S2
  refine r_vif (fun h => ?_) fun h => ?_
  · have e : aheadP s i k = true := by unfold aheadP; rw [Bool.or_eq_true]; exact .inl h
    have := post _ S H2
    rw [e] at this
    exact this
  · refine r_seqL ?_
    refine r_ifD (fun h2 => ?_) fun h2 => ?_
    · refine r_lss ?_
      have e : aheadP s i k = decide ((i : Int) < (k : Int)) := by
        unfold aheadP
        rw [show bl (rot s i) (rot s k) = false from h, Bool.false_or, decide_eq_true h2, Bool.true_and, Bool.eq_iff_iff, decide_eq_true_iff, decide_eq_true_iff]
        omega
      rw [← e]
      exact post _ S H2
    · have e : aheadP s i k = false := by
        unfold aheadP
        rw [show bl (rot s i) (rot s k) = false from h, Bool.false_or, decide_eq_false h2, Bool.false_and]
      have := post _ S H2
      rw [e] at this
      exact this
theorem Sorted_spec {s : List UInt8} (H : Holds w L) (hl : s.length ≤ 1000000)
    (post : ∀ v w', Same w w' → Holds w' (SL nv tI v (sortP s s.length) :: L) → K v w') :
    Cl Try.prog F.balerref15_Sorted #[.string ⟨s.toArray⟩] w K := by
  refine Tie.balerref15_Sorted ?_
  unfold Vcf.balerref15_Sorted
  have hsz : (⟨s.toArray⟩ : ByteArray).size = s.length := by simp [ByteArray.size]
  refine r_lns ?_
  rw [hsz]
  refine r_loop2 (fun v x w' => ∃ i : Nat, i ≤ s.length ∧ x = nv i ∧ Same w w' ∧ Holds w' (SL nv tI v (sortP s i) :: L))
    (fun _ x _ => s.length - (RowKit.intOf x).toNat) ⟨0, by omega, rfl, .refl w, H.nilSL nv tI⟩ ?_
  clear H
  rintro _ out _ w2 ⟨i, hi, rfl, S, H⟩
  repeat (first | refine r_nc ?_ | refine r_fo0 ?_ | refine r_fo ?_ | refine r_ke ?_ | refine r_lns ?_ | refine r_lnl ?_ | refine r_eql ?_ | refine r_neq ?_ | refine r_lss ?_ | refine r_leq ?_ | refine r_gtr ?_ | refine r_geq ?_ | refine r_seq0 ?_ | refine r_sne0 ?_ | refine r_seq ?_ | refine r_sne ?_ | (with_reducible refine r_notT ?_) | (with_reducible refine r_notF ?_) | refine r_not ?_ | (with_reducible refine r_bnST ?_) | (with_reducible refine r_bnSF ?_) | (with_reducible refine r_bnNT ?_) | (with_reducible refine r_bnNF ?_) | (with_reducible refine r_ex20 ?_) | (with_reducible refine r_ex21 ?_) | (with_reducible refine r_ex30 ?_) | (with_reducible refine r_ex31 ?_) | (with_reducible refine r_ex32 ?_) | (with_reducible refine r_vt ?_) | (with_reducible refine r_vf ?_) | refine r_bb ?_ | refine r_ex rfl ?_ | (refine r_ci64 (by omega) (by omega) ?_) | (refine r_ciu8 (by omega) (by omega) ?_) | (refine r_ciu32 (by omega) (by omega) ?_) | refine r_ci ?_ | (refine r_add1N (by omega) ?_) | (refine r_sub1N (by omega) (by omega) ?_) | (refine r_addN (by omega) ?_) | (refine r_add (by omega) (by omega) ?_) | (refine r_ixsN (by omega) ?_) | (refine r_iaaN (by omega) ?_) | (refine r_sub (by omega) (by omega) ?_) | (refine r_mul (by omega) (by omega) ?_) | (refine r_dr H ?_; clear H; intro _ S_ H; replace S := S.trans S_; clear S_) | refine r_ld 0 H rfl rfl ?_ | refine r_ld 1 H rfl rfl ?_ | refine r_ld 2 H rfl rfl ?_ | refine r_ld 3 H rfl rfl ?_ | refine r_ld 4 H rfl rfl ?_ | ((with_reducible refine r_vtD ?h ?_); (case h => omega)) | ((with_reducible refine r_vfD ?h ?_); (case h => omega)) | ((with_reducible refine r_vtE ?h ?_); (case h => omega)) | ((with_reducible refine r_vfE ?h ?_); (case h => omega)) | ((with_reducible refine r_vtN ?h ?_); (case h => omega)) | ((with_reducible refine r_vfN ?h ?_); (case h => omega)))
  refine r_ifD (fun h => ?_) fun h => ?_
  · have hlt : i < s.length := by omega
    have hsl := sortP_len s i
    have hsm := sortP_mem s i
    have hnext : sortP s (i + 1) = insP s i (sortP s i) := rfl
    generalize sortP s i = so at *
    obtain ⟨oa, sp, rfl, H⟩ := H.open 0 rfl
    rw [List.set_cons_zero] at H
    repeat (first | refine r_nc ?_ | refine r_fo0 ?_ | refine r_fo ?_ | refine r_ke ?_ | refine r_lns ?_ | refine r_lnl ?_ | refine r_eql ?_ | refine r_neq ?_ | refine r_lss ?_ | refine r_leq ?_ | refine r_gtr ?_ | refine r_geq ?_ | refine r_seq0 ?_ | refine r_sne0 ?_ | refine r_seq ?_ | refine r_sne ?_ | (with_reducible refine r_notT ?_) | (with_reducible refine r_notF ?_) | refine r_not ?_ | (with_reducible refine r_bnST ?_) | (with_reducible refine r_bnSF ?_) | (with_reducible refine r_bnNT ?_) | (with_reducible refine r_bnNF ?_) | (with_reducible refine r_ex20 ?_) | (with_reducible refine r_ex21 ?_) | (with_reducible refine r_ex30 ?_) | (with_reducible refine r_ex31 ?_) | (with_reducible refine r_ex32 ?_) | (with_reducible refine r_vt ?_) | (with_reducible refine r_vf ?_) | refine r_bb ?_ | refine r_ex rfl ?_ | (refine r_ci64 (by omega) (by omega) ?_) | (refine r_ciu8 (by omega) (by omega) ?_) | (refine r_ciu32 (by omega) (by omega) ?_) | refine r_ci ?_ | (refine r_add1N (by omega) ?_) | (refine r_sub1N (by omega) (by omega) ?_) | (refine r_addN (by omega) ?_) | (refine r_add (by omega) (by omega) ?_) | (refine r_ixsN (by omega) ?_) | (refine r_iaaN (by omega) ?_) | (refine r_sub (by omega) (by omega) ?_) | (refine r_mul (by omega) (by omega) ?_) | (refine r_dr H ?_; clear H; intro _ S_ H; replace S := S.trans S_; clear S_) | refine r_ld 0 H rfl rfl ?_ | refine r_ld 1 H rfl rfl ?_ | refine r_ld 2 H rfl rfl ?_ | refine r_ld 3 H rfl rfl ?_ | refine r_ld 4 H rfl rfl ?_ | ((with_reducible refine r_vtD ?h ?_); (case h => omega)) | ((with_reducible refine r_vfD ?h ?_); (case h => omega)) | ((with_reducible refine r_vtE ?h ?_); (case h => omega)) | ((with_reducible refine r_vfE ?h ?_); (case h => omega)) | ((with_reducible refine r_vtN ?h ?_); (case h => omega)) | ((with_reducible refine r_vfN ?h ?_); (case h => omega)))
    refine r_loop3 (fun v p x w' => ∃ (j : Nat) (b : Bool) (nx : List Nat), j ≤ so.length ∧ x = nv j ∧ p = .bool b ∧ nx.length = j + b.toNat ∧ nx ++ (if b then so.drop j else insP s i (so.drop j)) = insP s i so ∧
        Same w w' ∧ Holds w' (SL nv tI v nx :: slb nv tI oa so sp :: L))
      (fun _ _ x _ => so.length - (RowKit.intOf x).toNat) ⟨0, false, [], by omega, rfl, rfl, by simp, by simp, S, H.nilSL nv tI⟩ ?_
    clear S H
    rintro _ nxv _ _ w3 ⟨j, b, nx, hj, rfl, rfl, hnl, hinv, S, H⟩
    repeat (first | refine r_nc ?_ | refine r_fo0 ?_ | refine r_fo ?_ | refine r_ke ?_ | refine r_lns ?_ | refine r_lnl ?_ | refine r_eql ?_ | refine r_neq ?_ | refine r_lss ?_ | refine r_leq ?_ | refine r_gtr ?_ | refine r_geq ?_ | refine r_seq0 ?_ | refine r_sne0 ?_ | refine r_seq ?_ | refine r_sne ?_ | (with_reducible refine r_notT ?_) | (with_reducible refine r_notF ?_) | refine r_not ?_ | (with_reducible refine r_bnST ?_) | (with_reducible refine r_bnSF ?_) | (with_reducible refine r_bnNT ?_) | (with_reducible refine r_bnNF ?_) | (with_reducible refine r_ex20 ?_) | (with_reducible refine r_ex21 ?_) | (with_reducible refine r_ex30 ?_) | (with_reducible refine r_ex31 ?_) | (with_reducible refine r_ex32 ?_) | (with_reducible refine r_vt ?_) | (with_reducible refine r_vf ?_) | refine r_bb ?_ | refine r_ex rfl ?_ | (refine r_ci64 (by omega) (by omega) ?_) | (refine r_ciu8 (by omega) (by omega) ?_) | (refine r_ciu32 (by omega) (by omega) ?_) | refine r_ci ?_ | (refine r_add1N (by omega) ?_) | (refine r_sub1N (by omega) (by omega) ?_) | (refine r_addN (by omega) ?_) | (refine r_add (by omega) (by omega) ?_) | (refine r_ixsN (by omega) ?_) | (refine r_iaaN (by omega) ?_) | (refine r_sub (by omega) (by omega) ?_) | (refine r_mul (by omega) (by omega) ?_) | (refine r_dr H ?_; clear H; intro _ S_ H; replace S := S.trans S_; clear S_) | refine r_ld 0 H rfl rfl ?_ | refine r_ld 1 H rfl rfl ?_ | refine r_ld 2 H rfl rfl ?_ | refine r_ld 3 H rfl rfl ?_ | refine r_ld 4 H rfl rfl ?_ | ((with_reducible refine r_vtD ?h ?_); (case h => omega)) | ((with_reducible refine r_vfD ?h ?_); (case h => omega)) | ((with_reducible refine r_vtE ?h ?_); (case h => omega)) | ((with_reducible refine r_vfE ?h ?_); (case h => omega)) | ((with_reducible refine r_vtN ?h ?_); (case h => omega)) | ((with_reducible refine r_vfN ?h ?_); (case h => omega)))
    refine r_ifD (fun h2 => ?_) fun h2 => ?_
    · have hjl : j < so.length := by omega
      obtain ⟨k, hk⟩ : ∃ k, so[j]? = some k := ⟨_, List.getElem?_eq_getElem hjl⟩
      have hkm := (hsm k).1 (List.mem_of_getElem? hk)
      have hdrop : so.drop j = k :: so.drop (j + 1) := by
        rw [List.drop_eq_getElem_cons hjl]
        obtain ⟨_, h4⟩ := List.getElem?_eq_some_iff.1 hk
        rw [h4]
      refine r_iasN 1 H rfl hjl (Nat.le_refl _) ?_
      rintro b2 rfl
      refine r_ldsl 1 H rfl hk ?_
      refine r_join2 (fun v p w' => ∃ (b' : Bool) (nx' : List Nat), p = .bool b' ∧ nx'.length = j + b'.toNat ∧ (nx' ++ [k]) ++ (if b' then so.drop (j + 1) else insP s i (so.drop (j + 1))) = insP s i so ∧
        Same w w' ∧ Holds w' (SL nv tI v nx' :: slb nv tI (some ⟨b2, 0, none⟩) so sp :: L)) ?_ ?_
      · rintro _ v _ w4 ⟨b', nx', rfl, hnl', hinv', S, H⟩
        refine r_app1 H 0 rfl k (fun _ => rfl) (by have := Bool.toNat_le b'; omega) fun v5 w5 S5 H5 => ?_
        repeat (first | refine r_nc ?_ | refine r_fo0 ?_ | refine r_fo ?_ | refine r_ke ?_ | refine r_lns ?_ | refine r_lnl ?_ | refine r_eql ?_ | refine r_neq ?_ | refine r_lss ?_ | refine r_leq ?_ | refine r_gtr ?_ | refine r_geq ?_ | refine r_seq0 ?_ | refine r_sne0 ?_ | refine r_seq ?_ | refine r_sne ?_ | (with_reducible refine r_notT ?_) | (with_reducible refine r_notF ?_) | refine r_not ?_ | (with_reducible refine r_bnST ?_) | (with_reducible refine r_bnSF ?_) | (with_reducible refine r_bnNT ?_) | (with_reducible refine r_bnNF ?_) | (with_reducible refine r_ex20 ?_) | (with_reducible refine r_ex21 ?_) | (with_reducible refine r_ex30 ?_) | (with_reducible refine r_ex31 ?_) | (with_reducible refine r_ex32 ?_) | (with_reducible refine r_vt ?_) | (with_reducible refine r_vf ?_) | refine r_bb ?_ | refine r_ex rfl ?_ | (refine r_ci64 (by omega) (by omega) ?_) | (refine r_ciu8 (by omega) (by omega) ?_) | (refine r_ciu32 (by omega) (by omega) ?_) | refine r_ci ?_ | (refine r_add1N (by omega) ?_) | (refine r_sub1N (by omega) (by omega) ?_) | (refine r_addN (by omega) ?_) | (refine r_add (by omega) (by omega) ?_) | (refine r_ixsN (by omega) ?_) | (refine r_iaaN (by omega) ?_) | (refine r_sub (by omega) (by omega) ?_) | (refine r_mul (by omega) (by omega) ?_) | (refine r_dr H ?_; clear H; intro _ S_ H; replace S := S.trans S_; clear S_) | refine r_ld 0 H rfl rfl ?_ | refine r_ld 1 H rfl rfl ?_ | refine r_ld 2 H rfl rfl ?_ | refine r_ld 3 H rfl rfl ?_ | refine r_ld 4 H rfl rfl ?_ | ((with_reducible refine r_vtD ?h ?_); (case h => omega)) | ((with_reducible refine r_vfD ?h ?_); (case h => omega)) | ((with_reducible refine r_vtE ?h ?_); (case h => omega)) | ((with_reducible refine r_vfE ?h ?_); (case h => omega)) | ((with_reducible refine r_vtN ?h ?_); (case h => omega)) | ((with_reducible refine r_vfN ?h ?_); (case h => omega)))
        refine ⟨⟨j + 1, b', _, by omega, rfl, rfl, by rw [List.length_append, List.length_singleton]; omega, hinv', S.trans S5, H5⟩, ?_⟩
        simp [nv, RowKit.intOf]
        omega
      · refine r_join1 (fun x w' => x = .bool (!b && aheadP s i k) ∧ Same w w' ∧ Holds w' (SL nv tI nxv nx :: slb nv tI (some ⟨b2, 0, none⟩) so sp :: L)) ?_ ?_
        · rintro _ _ w4 ⟨rfl, S, H⟩
          refine r_vif (fun h3 => ?_) fun h3 => ?_
          · have hb : b = false ∧ aheadP s i k = true := by simpa using h3
            obtain ⟨rfl, ha⟩ := hb
            refine r_app1 H 0 rfl i (fun _ => rfl) (by rw [hnl]; show j + 0 + 1 ≤ _; omega) fun v5 w5 S5 H5 => ?_
            refine r_ke ⟨true, _, rfl, ?_, ?_, S.trans S5, H5⟩
            · rw [List.length_append, List.length_singleton, hnl]; rfl
            · rw [← hinv, hdrop]
              simp [insP, ha]
          · refine r_ke ⟨b, _, rfl, hnl, ?_, S, H⟩
            rw [← hinv, hdrop]
            cases b with
            | true => simp
            | false =>
              have ha : aheadP s i k = false := by simpa using h3
              simp [insP, ha]
        · repeat (first | refine r_nc ?_ | refine r_fo0 ?_ | refine r_fo ?_ | refine r_ke ?_ | refine r_lns ?_ | refine r_lnl ?_ | refine r_eql ?_ | refine r_neq ?_ | refine r_lss ?_ | refine r_leq ?_ | refine r_gtr ?_ | refine r_geq ?_ | refine r_seq0 ?_ | refine r_sne0 ?_ | refine r_seq ?_ | refine r_sne ?_ | (with_reducible refine r_notT ?_) | (with_reducible refine r_notF ?_) | refine r_not ?_ | (with_reducible refine r_bnST ?_) | (with_reducible refine r_bnSF ?_) | (with_reducible refine r_bnNT ?_) | (with_reducible refine r_bnNF ?_) | (with_reducible refine r_ex20 ?_) | (with_reducible refine r_ex21 ?_) | (with_reducible refine r_ex30 ?_) | (with_reducible refine r_ex31 ?_) | (with_reducible refine r_ex32 ?_) | (with_reducible refine r_vt ?_) | (with_reducible refine r_vf ?_) | refine r_bb ?_ | refine r_ex rfl ?_ | (refine r_ci64 (by omega) (by omega) ?_) | (refine r_ciu8 (by omega) (by omega) ?_) | (refine r_ciu32 (by omega) (by omega) ?_) | refine r_ci ?_ | (refine r_add1N (by omega) ?_) | (refine r_sub1N (by omega) (by omega) ?_) | (refine r_addN (by omega) ?_) | (refine r_add (by omega) (by omega) ?_) | (refine r_ixsN (by omega) ?_) | (refine r_iaaN (by omega) ?_) | (refine r_sub (by omega) (by omega) ?_) | (refine r_mul (by omega) (by omega) ?_) | (refine r_dr H ?_; clear H; intro _ S_ H; replace S := S.trans S_; clear S_) | refine r_ld 0 H rfl rfl ?_ | refine r_ld 1 H rfl rfl ?_ | refine r_ld 2 H rfl rfl ?_ | refine r_ld 3 H rfl rfl ?_ | refine r_ld 4 H rfl rfl ?_ | ((with_reducible refine r_vtD ?h ?_); (case h => omega)) | ((with_reducible refine r_vfD ?h ?_); (case h => omega)) | ((with_reducible refine r_vtE ?h ?_); (case h => omega)) | ((with_reducible refine r_vfE ?h ?_); (case h => omega)) | ((with_reducible refine r_vtN ?h ?_); (case h => omega)) | ((with_reducible refine r_vfN ?h ?_); (case h => omega)))
          refine r_vif (fun h3 => ?_) fun h3 => ?_
          · have hb : b = false := by simpa using h3
            subst hb
            refine Ahead_spec H hl (by omega) (by omega) fun w5 S5 H5 => ?_
            exact r_ke ⟨by simp, S.trans S5, H5⟩
          · have hb : b = true := by simpa using h3
            subst hb
            exact r_ke ⟨by simp, S, H⟩
    · have hjj : j = so.length := by omega
      subst hjj
      rw [List.drop_length] at hinv
      refine r_join1 (fun v w' => Same w w' ∧ Holds w' (SL nv tI v (insP s i so) :: L)) ?_ ?_
      · rintro _ v w4 ⟨S, H⟩
        repeat (first | refine r_nc ?_ | refine r_fo0 ?_ | refine r_fo ?_ | refine r_ke ?_ | refine r_lns ?_ | refine r_lnl ?_ | refine r_eql ?_ | refine r_neq ?_ | refine r_lss ?_ | refine r_leq ?_ | refine r_gtr ?_ | refine r_geq ?_ | refine r_seq0 ?_ | refine r_sne0 ?_ | refine r_seq ?_ | refine r_sne ?_ | (with_reducible refine r_notT ?_) | (with_reducible refine r_notF ?_) | refine r_not ?_ | (with_reducible refine r_bnST ?_) | (with_reducible refine r_bnSF ?_) | (with_reducible refine r_bnNT ?_) | (with_reducible refine r_bnNF ?_) | (with_reducible refine r_ex20 ?_) | (with_reducible refine r_ex21 ?_) | (with_reducible refine r_ex30 ?_) | (with_reducible refine r_ex31 ?_) | (with_reducible refine r_ex32 ?_) | (with_reducible refine r_vt ?_) | (with_reducible refine r_vf ?_) | refine r_bb ?_ | refine r_ex rfl ?_ | (refine r_ci64 (by omega) (by omega) ?_) | (refine r_ciu8 (by omega) (by omega) ?_) | (refine r_ciu32 (by omega) (by omega) ?_) | refine r_ci ?_ | (refine r_add1N (by omega) ?_) | (refine r_sub1N (by omega) (by omega) ?_) | (refine r_addN (by omega) ?_) | (refine r_add (by omega) (by omega) ?_) | (refine r_ixsN (by omega) ?_) | (refine r_iaaN (by omega) ?_) | (refine r_sub (by omega) (by omega) ?_) | (refine r_mul (by omega) (by omega) ?_) | (refine r_dr H ?_; clear H; intro _ S_ H; replace S := S.trans S_; clear S_) | refine r_ld 0 H rfl rfl ?_ | refine r_ld 1 H rfl rfl ?_ | refine r_ld 2 H rfl rfl ?_ | refine r_ld 3 H rfl rfl ?_ | refine r_ld 4 H rfl rfl ?_ | ((with_reducible refine r_vtD ?h ?_); (case h => omega)) | ((with_reducible refine r_vfD ?h ?_); (case h => omega)) | ((with_reducible refine r_vtE ?h ?_); (case h => omega)) | ((with_reducible refine r_vfE ?h ?_); (case h => omega)) | ((with_reducible refine r_vtN ?h ?_); (case h => omega)) | ((with_reducible refine r_vfN ?h ?_); (case h => omega)))
        refine ⟨⟨i + 1, by omega, rfl, S, by rw [hnext]; exact H⟩, ?_⟩
        simp [nv, RowKit.intOf]
        omega
      · repeat (first | refine r_nc ?_ | refine r_fo0 ?_ | refine r_fo ?_ | refine r_ke ?_ | refine r_lns ?_ | refine r_lnl ?_ | refine r_eql ?_ | refine r_neq ?_ | refine r_lss ?_ | refine r_leq ?_ | refine r_gtr ?_ | refine r_geq ?_ | refine r_seq0 ?_ | refine r_sne0 ?_ | refine r_seq ?_ | refine r_sne ?_ | (with_reducible refine r_notT ?_) | (with_reducible refine r_notF ?_) | refine r_not ?_ | (with_reducible refine r_bnST ?_) | (with_reducible refine r_bnSF ?_) | (with_reducible refine r_bnNT ?_) | (with_reducible refine r_bnNF ?_) | (with_reducible refine r_ex20 ?_) | (with_reducible refine r_ex21 ?_) | (with_reducible refine r_ex30 ?_) | (with_reducible refine r_ex31 ?_) | (with_reducible refine r_ex32 ?_) | (with_reducible refine r_vt ?_) | (with_reducible refine r_vf ?_) | refine r_bb ?_ | refine r_ex rfl ?_ | (refine r_ci64 (by omega) (by omega) ?_) | (refine r_ciu8 (by omega) (by omega) ?_) | (refine r_ciu32 (by omega) (by omega) ?_) | refine r_ci ?_ | (refine r_add1N (by omega) ?_) | (refine r_sub1N (by omega) (by omega) ?_) | (refine r_addN (by omega) ?_) | (refine r_add (by omega) (by omega) ?_) | (refine r_ixsN (by omega) ?_) | (refine r_iaaN (by omega) ?_) | (refine r_sub (by omega) (by omega) ?_) | (refine r_mul (by omega) (by omega) ?_) | (refine r_dr H ?_; clear H; intro _ S_ H; replace S := S.trans S_; clear S_) | refine r_ld 0 H rfl rfl ?_ | refine r_ld 1 H rfl rfl ?_ | refine r_ld 2 H rfl rfl ?_ | refine r_ld 3 H rfl rfl ?_ | refine r_ld 4 H rfl rfl ?_ | ((with_reducible refine r_vtD ?h ?_); (case h => omega)) | ((with_reducible refine r_vfD ?h ?_); (case h => omega)) | ((with_reducible refine r_vtE ?h ?_); (case h => omega)) | ((with_reducible refine r_vfE ?h ?_); (case h => omega)) | ((with_reducible refine r_vtN ?h ?_); (case h => omega)) | ((with_reducible refine r_vfN ?h ?_); (case h => omega)))
        refine r_vif (fun h3 => ?_) fun h3 => ?_
        · have hb : b = false := by simpa using h3
          subst hb
          refine r_app1 H 0 rfl i (fun _ => rfl) (by rw [hnl]; show so.length + 0 + 1 ≤ _; omega) fun v5 w5 S5 H5 => ?_
          refine r_ke ⟨S.trans S5, ?_⟩
          have hi2 : nx ++ [i] = insP s i so := by rw [← hinv]; simp [insP]
          rw [List.set_cons_zero, hi2] at H5
          exact H5.swap.drop
        · have hb : b = true := by simpa using h3
          subst hb
          have hi2 : nx = insP s i so := by rw [← hinv]; simp
          rw [hi2] at H
          exact r_ke ⟨S, H.swap.drop⟩
  · have e : i = s.length := by omega
    subst e
    exact post _ _ S H
theorem drop_lastB (r : List UInt8) (h : 0 < r.length) : r.drop (r.length - 1) = [lastB r] := by
  have h2 := init_last r h
  have h3 : (r.take (r.length - 1)).length = r.length - 1 := by simp
  have := congrArg (List.drop (r.length - 1)) h2
  rw [List.drop_append_of_le_length (by omega), List.drop_of_length_le (Nat.le_of_eq h3), List.nil_append] at this
  exact this
abbrev tT : Nat := 24
theorem From_spec {s : List UInt8} {v : Value} {xs : List Nat} {o : Nat} (H : Holds w (SL nv tI v xs :: L)) (hl : s.length ≤ 1000000) (h0 : 0 < s.length) (hx : xs.length ≤ 1000000) (hm : ∀ x ∈ xs, x < s.length) (hd : xs.Nodup) (ho : xs[o]? = some 0)
    (post : ∀ w', Same w w' → Holds w' L → K (.agg #[.string ⟨(xs.map fun i => lastB (rot s i)).toArray⟩, nv o]) w') :
    Cl Try.prog F.balerref17_From #[.string ⟨s.toArray⟩, v] w K := by
  refine Tie.balerref17_From ?_
  unfold Vcf.balerref17_From
  have hsz : (⟨s.toArray⟩ : ByteArray).size = s.length := by simp [ByteArray.size]
  obtain ⟨oa, sp, rfl, H⟩ := H.open 0 rfl
  rw [List.set_cons_zero] at H
  have hz : (zeroP Try.prog tT).cells.toList = [.string ⟨#[]⟩, nv 0] := by kernel_rfl
  refine r_new H fun b1 w1 S1 H1 => ?_
  rw [hz] at H1
  refine r_bd (v := .agg #[.string ⟨#[]⟩, nv 0]) (by kernel_rfl) ?_
  refine r_new H1 fun b2 w2 S2 H2 => ?_
  rw [hz] at H2
  refine r_stA 0 H2 (vs := [.string ⟨#[]⟩, nv 0]) rfl (by decide) rfl rfl fun w3 S3 H3 => ?_
  replace H3 : Holds w3 (blk b2 tT [.string ⟨[].toArray⟩, nv 0] :: blk b1 tT [.string ⟨#[]⟩, nv 0] :: slb nv tI oa xs sp :: L) := H3
  repeat (first | refine r_nc ?_ | refine r_fo0 ?_ | refine r_fo ?_ | refine r_ke ?_ | refine r_lns ?_ | refine r_lnl ?_ | refine r_eql ?_ | refine r_neq ?_ | refine r_lss ?_ | refine r_leq ?_ | refine r_gtr ?_ | refine r_geq ?_ | refine r_seq0 ?_ | refine r_sne0 ?_ | refine r_seq ?_ | refine r_sne ?_ | (with_reducible refine r_notT ?_) | (with_reducible refine r_notF ?_) | refine r_not ?_ | (with_reducible refine r_bnST ?_) | (with_reducible refine r_bnSF ?_) | (with_reducible refine r_bnNT ?_) | (with_reducible refine r_bnNF ?_) | (with_reducible refine r_ex20 ?_) | (with_reducible refine r_ex21 ?_) | (with_reducible refine r_ex30 ?_) | (with_reducible refine r_ex31 ?_) | (with_reducible refine r_ex32 ?_) | (with_reducible refine r_vt ?_) | (with_reducible refine r_vf ?_) | refine r_bb ?_ | refine r_ex rfl ?_ | (refine r_ci64 (by omega) (by omega) ?_) | (refine r_ciu8 (by omega) (by omega) ?_) | (refine r_ciu32 (by omega) (by omega) ?_) | refine r_ci ?_ | (refine r_add1N (by omega) ?_) | (refine r_sub1N (by omega) (by omega) ?_) | (refine r_addN (by omega) ?_) | (refine r_add (by omega) (by omega) ?_) | (refine r_ixsN (by omega) ?_) | (refine r_iaaN (by omega) ?_) | (refine r_sub (by omega) (by omega) ?_) | (refine r_mul (by omega) (by omega) ?_) | (refine r_dr H ?_; clear H; intro _ S_ H; replace S := S.trans S_; clear S_) | refine r_ld 0 H rfl rfl ?_ | refine r_ld 1 H rfl rfl ?_ | refine r_ld 2 H rfl rfl ?_ | refine r_ld 3 H rfl rfl ?_ | refine r_ld 4 H rfl rfl ?_ | ((with_reducible refine r_vtD ?h ?_); (case h => omega)) | ((with_reducible refine r_vfD ?h ?_); (case h => omega)) | ((with_reducible refine r_vtE ?h ?_); (case h => omega)) | ((with_reducible refine r_vfE ?h ?_); (case h => omega)) | ((with_reducible refine r_vtN ?h ?_); (case h => omega)) | ((with_reducible refine r_vfN ?h ?_); (case h => omega)))
  refine r_loop1 (fun x w' => ∃ i og : Nat, i ≤ xs.length ∧ x = nv i ∧ (o < i → og = o) ∧ Same w w' ∧
      Holds w' (blk b2 tT [.string ⟨((xs.take i).map fun i => lastB (rot s i)).toArray⟩, nv og] :: blk b1 tT [.string ⟨#[]⟩, nv 0] :: slb nv tI oa xs sp :: L))
    (fun x _ => xs.length - (RowKit.intOf x).toNat) ⟨0, 0, by omega, rfl, by omega, (S1.trans S2).trans S3, H3⟩ ?_
  clear H H1 H2 H3 S1 S2 S3
  rintro _ _ w4 ⟨i, og, hi, rfl, hog, S, H⟩
  repeat (first | refine r_nc ?_ | refine r_fo0 ?_ | refine r_fo ?_ | refine r_ke ?_ | refine r_lns ?_ | refine r_lnl ?_ | refine r_eql ?_ | refine r_neq ?_ | refine r_lss ?_ | refine r_leq ?_ | refine r_gtr ?_ | refine r_geq ?_ | refine r_seq0 ?_ | refine r_sne0 ?_ | refine r_seq ?_ | refine r_sne ?_ | (with_reducible refine r_notT ?_) | (with_reducible refine r_notF ?_) | refine r_not ?_ | (with_reducible refine r_bnST ?_) | (with_reducible refine r_bnSF ?_) | (with_reducible refine r_bnNT ?_) | (with_reducible refine r_bnNF ?_) | (with_reducible refine r_ex20 ?_) | (with_reducible refine r_ex21 ?_) | (with_reducible refine r_ex30 ?_) | (with_reducible refine r_ex31 ?_) | (with_reducible refine r_ex32 ?_) | (with_reducible refine r_vt ?_) | (with_reducible refine r_vf ?_) | refine r_bb ?_ | refine r_ex rfl ?_ | (refine r_ci64 (by omega) (by omega) ?_) | (refine r_ciu8 (by omega) (by omega) ?_) | (refine r_ciu32 (by omega) (by omega) ?_) | refine r_ci ?_ | (refine r_add1N (by omega) ?_) | (refine r_sub1N (by omega) (by omega) ?_) | (refine r_addN (by omega) ?_) | (refine r_add (by omega) (by omega) ?_) | (refine r_ixsN (by omega) ?_) | (refine r_iaaN (by omega) ?_) | (refine r_sub (by omega) (by omega) ?_) | (refine r_mul (by omega) (by omega) ?_) | (refine r_dr H ?_; clear H; intro _ S_ H; replace S := S.trans S_; clear S_) | refine r_ld 0 H rfl rfl ?_ | refine r_ld 1 H rfl rfl ?_ | refine r_ld 2 H rfl rfl ?_ | refine r_ld 3 H rfl rfl ?_ | refine r_ld 4 H rfl rfl ?_ | ((with_reducible refine r_vtD ?h ?_); (case h => omega)) | ((with_reducible refine r_vfD ?h ?_); (case h => omega)) | ((with_reducible refine r_vtE ?h ?_); (case h => omega)) | ((with_reducible refine r_vfE ?h ?_); (case h => omega)) | ((with_reducible refine r_vtN ?h ?_); (case h => omega)) | ((with_reducible refine r_vfN ?h ?_); (case h => omega)))
  refine r_ifD (fun h => ?_) fun h => ?_
  · have hlt : i < xs.length := by omega
    obtain ⟨k, hk⟩ : ∃ k, xs[i]? = some k := ⟨_, List.getElem?_eq_getElem hlt⟩
    have hkm := hm k (List.mem_of_getElem? hk)
    have htk : xs.take (i + 1) = xs.take i ++ [k] := by rw [List.take_add_one, hk]; rfl
    refine r_iasN 2 H rfl hlt (Nat.le_refl _) ?_
    rintro b3 rfl
    refine r_ldsl 2 H rfl hk ?_
    refine Rotation_spec H hl (by omega) fun w5 S5 H5 => ?_
    replace S := S.trans S5
    clear S5 H
    have H := H5
    clear H5
    have hrl := rot_len s k (by omega)
    have hrz : (⟨(rot s k).toArray⟩ : ByteArray).size = (rot s k).length := by simp [ByteArray.size]
    have hdl := drop_lastB (rot s k) (by omega)
    repeat (first | refine r_nc ?_ | refine r_fo0 ?_ | refine r_fo ?_ | refine r_ke ?_ | refine r_lns ?_ | refine r_lnl ?_ | refine r_eql ?_ | refine r_neq ?_ | refine r_lss ?_ | refine r_leq ?_ | refine r_gtr ?_ | refine r_geq ?_ | refine r_seq0 ?_ | refine r_sne0 ?_ | refine r_seq ?_ | refine r_sne ?_ | (with_reducible refine r_notT ?_) | (with_reducible refine r_notF ?_) | refine r_not ?_ | (with_reducible refine r_bnST ?_) | (with_reducible refine r_bnSF ?_) | (with_reducible refine r_bnNT ?_) | (with_reducible refine r_bnNF ?_) | (with_reducible refine r_ex20 ?_) | (with_reducible refine r_ex21 ?_) | (with_reducible refine r_ex30 ?_) | (with_reducible refine r_ex31 ?_) | (with_reducible refine r_ex32 ?_) | (with_reducible refine r_vt ?_) | (with_reducible refine r_vf ?_) | refine r_bb ?_ | refine r_ex rfl ?_ | (refine r_ci64 (by omega) (by omega) ?_) | (refine r_ciu8 (by omega) (by omega) ?_) | (refine r_ciu32 (by omega) (by omega) ?_) | refine r_ci ?_ | (refine r_add1N (by omega) ?_) | (refine r_sub1N (by omega) (by omega) ?_) | (refine r_addN (by omega) ?_) | (refine r_add (by omega) (by omega) ?_) | (refine r_ixsN (by omega) ?_) | (refine r_iaaN (by omega) ?_) | (refine r_sub (by omega) (by omega) ?_) | (refine r_mul (by omega) (by omega) ?_) | (refine r_dr H ?_; clear H; intro _ S_ H; replace S := S.trans S_; clear S_) | refine r_ld 0 H rfl rfl ?_ | refine r_ld 1 H rfl rfl ?_ | refine r_ld 2 H rfl rfl ?_ | refine r_ld 3 H rfl rfl ?_ | refine r_ld 4 H rfl rfl ?_ | ((with_reducible refine r_vtD ?h ?_); (case h => omega)) | ((with_reducible refine r_vfD ?h ?_); (case h => omega)) | ((with_reducible refine r_vtE ?h ?_); (case h => omega)) | ((with_reducible refine r_vfE ?h ?_); (case h => omega)) | ((with_reducible refine r_vtN ?h ?_); (case h => omega)) | ((with_reducible refine r_vfN ?h ?_); (case h => omega)))
    refine r_sstD (by omega) ?_
    rw [hrz]
    rw [show (⟨(rot s k).toArray⟩ : ByteArray).data.toList = rot s k by simp, hdl]
    refine r_catL (by rw [List.length_map, List.length_take, List.length_singleton]; omega) ?_
    have hmap : (xs.take i).map (fun i => lastB (rot s i)) ++ [lastB (rot s k)] = (xs.take (i + 1)).map fun i => lastB (rot s i) := by rw [htk, List.map_append]; rfl
    rw [hmap]
    repeat (first | refine r_nc ?_ | refine r_fo0 ?_ | refine r_fo ?_ | refine r_ke ?_ | refine r_lns ?_ | refine r_lnl ?_ | refine r_eql ?_ | refine r_neq ?_ | refine r_lss ?_ | refine r_leq ?_ | refine r_gtr ?_ | refine r_geq ?_ | refine r_seq0 ?_ | refine r_sne0 ?_ | refine r_seq ?_ | refine r_sne ?_ | (with_reducible refine r_notT ?_) | (with_reducible refine r_notF ?_) | refine r_not ?_ | (with_reducible refine r_bnST ?_) | (with_reducible refine r_bnSF ?_) | (with_reducible refine r_bnNT ?_) | (with_reducible refine r_bnNF ?_) | (with_reducible refine r_ex20 ?_) | (with_reducible refine r_ex21 ?_) | (with_reducible refine r_ex30 ?_) | (with_reducible refine r_ex31 ?_) | (with_reducible refine r_ex32 ?_) | (with_reducible refine r_vt ?_) | (with_reducible refine r_vf ?_) | refine r_bb ?_ | refine r_ex rfl ?_ | (refine r_ci64 (by omega) (by omega) ?_) | (refine r_ciu8 (by omega) (by omega) ?_) | (refine r_ciu32 (by omega) (by omega) ?_) | refine r_ci ?_ | (refine r_add1N (by omega) ?_) | (refine r_sub1N (by omega) (by omega) ?_) | (refine r_addN (by omega) ?_) | (refine r_add (by omega) (by omega) ?_) | (refine r_ixsN (by omega) ?_) | (refine r_iaaN (by omega) ?_) | (refine r_sub (by omega) (by omega) ?_) | (refine r_mul (by omega) (by omega) ?_) | (refine r_dr H ?_; clear H; intro _ S_ H; replace S := S.trans S_; clear S_) | refine r_ld 0 H rfl rfl ?_ | refine r_ld 1 H rfl rfl ?_ | refine r_ld 2 H rfl rfl ?_ | refine r_ld 3 H rfl rfl ?_ | refine r_ld 4 H rfl rfl ?_ | ((with_reducible refine r_vtD ?h ?_); (case h => omega)) | ((with_reducible refine r_vfD ?h ?_); (case h => omega)) | ((with_reducible refine r_vtE ?h ?_); (case h => omega)) | ((with_reducible refine r_vfE ?h ?_); (case h => omega)) | ((with_reducible refine r_vtN ?h ?_); (case h => omega)) | ((with_reducible refine r_vfN ?h ?_); (case h => omega)))
    refine r_st 0 H rfl (by simp) rfl fun w6 S6 H6 => ?_
    rw [List.set_cons_zero, List.set_cons_zero] at H6
    replace S := S.trans S6
    clear S6 H
    have H := H6
    clear H6
    repeat (first | refine r_nc ?_ | refine r_fo0 ?_ | refine r_fo ?_ | refine r_ke ?_ | refine r_lns ?_ | refine r_lnl ?_ | refine r_eql ?_ | refine r_neq ?_ | refine r_lss ?_ | refine r_leq ?_ | refine r_gtr ?_ | refine r_geq ?_ | refine r_seq0 ?_ | refine r_sne0 ?_ | refine r_seq ?_ | refine r_sne ?_ | (with_reducible refine r_notT ?_) | (with_reducible refine r_notF ?_) | refine r_not ?_ | (with_reducible refine r_bnST ?_) | (with_reducible refine r_bnSF ?_) | (with_reducible refine r_bnNT ?_) | (with_reducible refine r_bnNF ?_) | (with_reducible refine r_ex20 ?_) | (with_reducible refine r_ex21 ?_) | (with_reducible refine r_ex30 ?_) | (with_reducible refine r_ex31 ?_) | (with_reducible refine r_ex32 ?_) | (with_reducible refine r_vt ?_) | (with_reducible refine r_vf ?_) | refine r_bb ?_ | refine r_ex rfl ?_ | (refine r_ci64 (by omega) (by omega) ?_) | (refine r_ciu8 (by omega) (by omega) ?_) | (refine r_ciu32 (by omega) (by omega) ?_) | refine r_ci ?_ | (refine r_add1N (by omega) ?_) | (refine r_sub1N (by omega) (by omega) ?_) | (refine r_addN (by omega) ?_) | (refine r_add (by omega) (by omega) ?_) | (refine r_ixsN (by omega) ?_) | (refine r_iaaN (by omega) ?_) | (refine r_sub (by omega) (by omega) ?_) | (refine r_mul (by omega) (by omega) ?_) | (refine r_dr H ?_; clear H; intro _ S_ H; replace S := S.trans S_; clear S_) | refine r_ld 0 H rfl rfl ?_ | refine r_ld 1 H rfl rfl ?_ | refine r_ld 2 H rfl rfl ?_ | refine r_ld 3 H rfl rfl ?_ | refine r_ld 4 H rfl rfl ?_ | ((with_reducible refine r_vtD ?h ?_); (case h => omega)) | ((with_reducible refine r_vfD ?h ?_); (case h => omega)) | ((with_reducible refine r_vtE ?h ?_); (case h => omega)) | ((with_reducible refine r_vfE ?h ?_); (case h => omega)) | ((with_reducible refine r_vtN ?h ?_); (case h => omega)) | ((with_reducible refine r_vfN ?h ?_); (case h => omega)))
    refine r_ifE (fun h2 => ?_) fun h2 => ?_
    · have hk0 : k = 0 := by omega
      subst hk0
      have hio : i = o := by
        obtain ⟨h3, h4⟩ := List.getElem?_eq_some_iff.1 hk
        obtain ⟨h5, h6⟩ := List.getElem?_eq_some_iff.1 ho
        exact (List.getElem_inj hd).1 (h4.trans h6.symm)
      repeat (first | refine r_nc ?_ | refine r_fo0 ?_ | refine r_fo ?_ | refine r_ke ?_ | refine r_lns ?_ | refine r_lnl ?_ | refine r_eql ?_ | refine r_neq ?_ | refine r_lss ?_ | refine r_leq ?_ | refine r_gtr ?_ | refine r_geq ?_ | refine r_seq0 ?_ | refine r_sne0 ?_ | refine r_seq ?_ | refine r_sne ?_ | (with_reducible refine r_notT ?_) | (with_reducible refine r_notF ?_) | refine r_not ?_ | (with_reducible refine r_bnST ?_) | (with_reducible refine r_bnSF ?_) | (with_reducible refine r_bnNT ?_) | (with_reducible refine r_bnNF ?_) | (with_reducible refine r_ex20 ?_) | (with_reducible refine r_ex21 ?_) | (with_reducible refine r_ex30 ?_) | (with_reducible refine r_ex31 ?_) | (with_reducible refine r_ex32 ?_) | (with_reducible refine r_vt ?_) | (with_reducible refine r_vf ?_) | refine r_bb ?_ | refine r_ex rfl ?_ | (refine r_ci64 (by omega) (by omega) ?_) | (refine r_ciu8 (by omega) (by omega) ?_) | (refine r_ciu32 (by omega) (by omega) ?_) | refine r_ci ?_ | (refine r_add1N (by omega) ?_) | (refine r_sub1N (by omega) (by omega) ?_) | (refine r_addN (by omega) ?_) | (refine r_add (by omega) (by omega) ?_) | (refine r_ixsN (by omega) ?_) | (refine r_iaaN (by omega) ?_) | (refine r_sub (by omega) (by omega) ?_) | (refine r_mul (by omega) (by omega) ?_) | (refine r_dr H ?_; clear H; intro _ S_ H; replace S := S.trans S_; clear S_) | refine r_ld 0 H rfl rfl ?_ | refine r_ld 1 H rfl rfl ?_ | refine r_ld 2 H rfl rfl ?_ | refine r_ld 3 H rfl rfl ?_ | refine r_ld 4 H rfl rfl ?_ | ((with_reducible refine r_vtD ?h ?_); (case h => omega)) | ((with_reducible refine r_vfD ?h ?_); (case h => omega)) | ((with_reducible refine r_vtE ?h ?_); (case h => omega)) | ((with_reducible refine r_vfE ?h ?_); (case h => omega)) | ((with_reducible refine r_vtN ?h ?_); (case h => omega)) | ((with_reducible refine r_vfN ?h ?_); (case h => omega)))
      refine r_st 0 H rfl (by simp) rfl fun w7 S7 H7 => ?_
      rw [List.set_cons_zero, List.set_cons_succ, List.set_cons_zero] at H7
      repeat (first | refine r_nc ?_ | refine r_fo0 ?_ | refine r_fo ?_ | refine r_ke ?_ | refine r_lns ?_ | refine r_lnl ?_ | refine r_eql ?_ | refine r_neq ?_ | refine r_lss ?_ | refine r_leq ?_ | refine r_gtr ?_ | refine r_geq ?_ | refine r_seq0 ?_ | refine r_sne0 ?_ | refine r_seq ?_ | refine r_sne ?_ | (with_reducible refine r_notT ?_) | (with_reducible refine r_notF ?_) | refine r_not ?_ | (with_reducible refine r_bnST ?_) | (with_reducible refine r_bnSF ?_) | (with_reducible refine r_bnNT ?_) | (with_reducible refine r_bnNF ?_) | (with_reducible refine r_ex20 ?_) | (with_reducible refine r_ex21 ?_) | (with_reducible refine r_ex30 ?_) | (with_reducible refine r_ex31 ?_) | (with_reducible refine r_ex32 ?_) | (with_reducible refine r_vt ?_) | (with_reducible refine r_vf ?_) | refine r_bb ?_ | refine r_ex rfl ?_ | (refine r_ci64 (by omega) (by omega) ?_) | (refine r_ciu8 (by omega) (by omega) ?_) | (refine r_ciu32 (by omega) (by omega) ?_) | refine r_ci ?_ | (refine r_add1N (by omega) ?_) | (refine r_sub1N (by omega) (by omega) ?_) | (refine r_addN (by omega) ?_) | (refine r_add (by omega) (by omega) ?_) | (refine r_ixsN (by omega) ?_) | (refine r_iaaN (by omega) ?_) | (refine r_sub (by omega) (by omega) ?_) | (refine r_mul (by omega) (by omega) ?_) | (refine r_dr H ?_; clear H; intro _ S_ H; replace S := S.trans S_; clear S_) | refine r_ld 0 H rfl rfl ?_ | refine r_ld 1 H rfl rfl ?_ | refine r_ld 2 H rfl rfl ?_ | refine r_ld 3 H rfl rfl ?_ | refine r_ld 4 H rfl rfl ?_ | ((with_reducible refine r_vtD ?h ?_); (case h => omega)) | ((with_reducible refine r_vfD ?h ?_); (case h => omega)) | ((with_reducible refine r_vtE ?h ?_); (case h => omega)) | ((with_reducible refine r_vfE ?h ?_); (case h => omega)) | ((with_reducible refine r_vtN ?h ?_); (case h => omega)) | ((with_reducible refine r_vfN ?h ?_); (case h => omega)))
      refine ⟨⟨i + 1, i, by omega, rfl, by omega, S.trans S7, H7⟩, ?_⟩
      simp [nv, RowKit.intOf]
      omega
    · repeat (first | refine r_nc ?_ | refine r_fo0 ?_ | refine r_fo ?_ | refine r_ke ?_ | refine r_lns ?_ | refine r_lnl ?_ | refine r_eql ?_ | refine r_neq ?_ | refine r_lss ?_ | refine r_leq ?_ | refine r_gtr ?_ | refine r_geq ?_ | refine r_seq0 ?_ | refine r_sne0 ?_ | refine r_seq ?_ | refine r_sne ?_ | (with_reducible refine r_notT ?_) | (with_reducible refine r_notF ?_) | refine r_not ?_ | (with_reducible refine r_bnST ?_) | (with_reducible refine r_bnSF ?_) | (with_reducible refine r_bnNT ?_) | (with_reducible refine r_bnNF ?_) | (with_reducible refine r_ex20 ?_) | (with_reducible refine r_ex21 ?_) | (with_reducible refine r_ex30 ?_) | (with_reducible refine r_ex31 ?_) | (with_reducible refine r_ex32 ?_) | (with_reducible refine r_vt ?_) | (with_reducible refine r_vf ?_) | refine r_bb ?_ | refine r_ex rfl ?_ | (refine r_ci64 (by omega) (by omega) ?_) | (refine r_ciu8 (by omega) (by omega) ?_) | (refine r_ciu32 (by omega) (by omega) ?_) | refine r_ci ?_ | (refine r_add1N (by omega) ?_) | (refine r_sub1N (by omega) (by omega) ?_) | (refine r_addN (by omega) ?_) | (refine r_add (by omega) (by omega) ?_) | (refine r_ixsN (by omega) ?_) | (refine r_iaaN (by omega) ?_) | (refine r_sub (by omega) (by omega) ?_) | (refine r_mul (by omega) (by omega) ?_) | (refine r_dr H ?_; clear H; intro _ S_ H; replace S := S.trans S_; clear S_) | refine r_ld 0 H rfl rfl ?_ | refine r_ld 1 H rfl rfl ?_ | refine r_ld 2 H rfl rfl ?_ | refine r_ld 3 H rfl rfl ?_ | refine r_ld 4 H rfl rfl ?_ | ((with_reducible refine r_vtD ?h ?_); (case h => omega)) | ((with_reducible refine r_vfD ?h ?_); (case h => omega)) | ((with_reducible refine r_vtE ?h ?_); (case h => omega)) | ((with_reducible refine r_vfE ?h ?_); (case h => omega)) | ((with_reducible refine r_vtN ?h ?_); (case h => omega)) | ((with_reducible refine r_vfN ?h ?_); (case h => omega)))
      refine ⟨⟨i + 1, og, by omega, rfl, fun h3 => ?_, S, H⟩, ?_⟩
      · rcases Nat.lt_or_ge o i with h4 | h4
        · exact hog h4
        · have h5 : o = i := by omega
          rw [h5, hk] at ho
          injection ho with ho
          omega
      · simp [nv, RowKit.intOf]
        omega
  · have e : i = xs.length := by omega
    subst e
    have h1 : o < xs.length := (List.getElem?_eq_some_iff.1 ho).1
    rw [hog h1, List.take_length] at H
    refine r_ldA 0 H [.string ⟨(xs.map fun i => lastB (rot s i)).toArray⟩, nv o] rfl rfl rfl ?_
    refine r_stA 1 H (vs := [_, _]) rfl (by decide) rfl rfl fun w5 S5 H5 => ?_
    refine r_ldA 1 H5 [.string ⟨(xs.map fun i => lastB (rot s i)).toArray⟩, nv o] rfl rfl rfl ?_
    exact post _ (S.trans S5) H5.drop.drop.drop
theorem TOf_spec {s : List UInt8} (H : Holds w L) (hl : s.length ≤ 1000000) (h0 : 0 < s.length)
    (post : ∀ o w', o < s.length → (sortP s s.length)[o]? = some 0 → Same w w' → Holds w' L → K (.agg #[.string ⟨(lastL s).toArray⟩, nv o]) w') :
    Cl Try.prog F.balerref17_Of #[.string ⟨s.toArray⟩] w K := by
  refine Tie.balerref17_Of ?_
  unfold Vcf.balerref17_Of
  have hz : (zeroP Try.prog tT).cells.toList = [.string ⟨#[]⟩, nv 0] := by kernel_rfl
  refine r_new H fun b1 w1 S1 H1 => ?_
  rw [hz] at H1
  refine Sorted_spec H1 hl fun v w2 S2 H2 => ?_
  have hm0 := (sortP_mem s s.length 0).2 h0
  obtain ⟨o, ho, hoe⟩ := List.getElem_of_mem hm0
  have ho2 : (sortP s s.length)[o]? = some 0 := by rw [List.getElem?_eq_getElem ho, hoe]
  refine From_spec H2 hl h0 (by rw [sortP_len]; omega) (fun x hx => (sortP_mem s s.length x).1 hx) (sortP_nodup s _) ho2 fun w3 S3 H3 => ?_
  refine r_stA 0 H3 (vs := [_, _]) rfl (by decide) rfl rfl fun w4 S4 H4 => ?_
  refine r_ldA 0 H4 [.string ⟨(lastL s).toArray⟩, nv o] rfl rfl rfl ?_
  exact post o _ (by rw [sortP_len] at ho; exact ho) ho2 (((S1.trans S2).trans S3).trans S4) H4.drop
theorem UnbwtBack_spec (H : Holds w L) (s : ByteArray) (w0 : s.size ≤ maxLen) (k : ∀ w', Same w w' → Holds w' L → K (.bool true) w') :
    Cl Try.prog F.balerlaw18_UnbwtBack #[.string s] w K := by
  refine Tie.balerlaw18_UnbwtBack ?_
  unfold Vcf.balerlaw18_UnbwtBack
  have hll : s.data.toList.length = s.size := by simp
  refine r_join1 (fun x w' => w = w' ∧ ∃ c : Bool, x = .bool c ∧ (c = false → s.size ≤ 60 ∧ 0 < s.size)) ?_ ?_
  · rintro _ _ _ ⟨rfl, c, rfl, hc⟩
    refine r_vif (fun h => banana_spec H k) fun h => ?_
    obtain ⟨h1, h2⟩ := hc h
    clear h hc c
    rw [ba_list s]
    refine TOf_spec H (by omega) (by omega) fun o w1 ho ho2 S1 H1 => ?_
    have hz : (zeroP Try.prog tT).cells.toList = [.string ⟨#[]⟩, nv 0] := by kernel_rfl
    refine r_new H1 fun b1 w2 S2 H2 => ?_
    rw [hz] at H2
    refine r_stA 0 H2 (vs := [_, _]) rfl (by decide) rfl rfl fun w3 S3 H3 => ?_
    replace H3 : Holds w3 (blk b1 tT [.string ⟨(lastL s.data.toList).toArray⟩, nv o] :: L) := H3
    have S := (S1.trans S2).trans S3
    clear H H1 H2 S1 S2 S3
    have H := H3
    clear H3
    have hsz : (⟨(lastL s.data.toList).toArray⟩ : ByteArray).size = s.size := by
      show (lastL s.data.toList).toArray.size = _
      rw [List.size_toArray, lastL_len, hll]
    repeat (first | refine r_nc ?_ | refine r_fo0 ?_ | refine r_fo ?_ | refine r_ke ?_ | refine r_lns ?_ | refine r_lnl ?_ | refine r_eql ?_ | refine r_neq ?_ | refine r_lss ?_ | refine r_leq ?_ | refine r_gtr ?_ | refine r_geq ?_ | refine r_seq0 ?_ | refine r_sne0 ?_ | refine r_seq ?_ | refine r_sne ?_ | (with_reducible refine r_notT ?_) | (with_reducible refine r_notF ?_) | refine r_not ?_ | (with_reducible refine r_bnST ?_) | (with_reducible refine r_bnSF ?_) | (with_reducible refine r_bnNT ?_) | (with_reducible refine r_bnNF ?_) | (with_reducible refine r_ex20 ?_) | (with_reducible refine r_ex21 ?_) | (with_reducible refine r_ex30 ?_) | (with_reducible refine r_ex31 ?_) | (with_reducible refine r_ex32 ?_) | (with_reducible refine r_vt ?_) | (with_reducible refine r_vf ?_) | refine r_bb ?_ | refine r_ex rfl ?_ | (refine r_ci64 (by omega) (by omega) ?_) | (refine r_ciu8 (by omega) (by omega) ?_) | (refine r_ciu32 (by omega) (by omega) ?_) | refine r_ci ?_ | (refine r_add1N (by omega) ?_) | (refine r_sub1N (by omega) (by omega) ?_) | (refine r_addN (by omega) ?_) | (refine r_add (by omega) (by omega) ?_) | (refine r_ixsN (by omega) ?_) | (refine r_iaaN (by omega) ?_) | (refine r_sub (by omega) (by omega) ?_) | (refine r_mul (by omega) (by omega) ?_) | (refine r_dr H ?_; clear H; intro _ S_ H; replace S := S.trans S_; clear S_) | refine r_ld 0 H rfl rfl ?_ | refine r_ld 1 H rfl rfl ?_ | refine r_ld 2 H rfl rfl ?_ | refine r_ld 3 H rfl rfl ?_ | refine r_ld 4 H rfl rfl ?_ | ((with_reducible refine r_vtD ?h ?_); (case h => omega)) | ((with_reducible refine r_vfD ?h ?_); (case h => omega)) | ((with_reducible refine r_vtE ?h ?_); (case h => omega)) | ((with_reducible refine r_vfE ?h ?_); (case h => omega)) | ((with_reducible refine r_vtN ?h ?_); (case h => omega)) | ((with_reducible refine r_vfN ?h ?_); (case h => omega)))
    refine Of_spec H (fun h => ?_) (fun h => ?_) (fun h1 h2 h3 => ?_) fun o' w1 h4 h5 h6 S4 H4 => ?_
    · omega
    · omega
    · omega
    · obtain rfl : o = o' := by omega
      have ht := text_back s.data.toList o ho ho2
      rw [show (⟨(lastL s.data.toList).toArray⟩ : ByteArray).data.toList = lastL s.data.toList by simp, ht]
      repeat (first | refine r_nc ?_ | refine r_fo0 ?_ | refine r_fo ?_ | refine r_ke ?_ | refine r_lns ?_ | refine r_lnl ?_ | refine r_eql ?_ | refine r_neq ?_ | refine r_lss ?_ | refine r_leq ?_ | refine r_gtr ?_ | refine r_geq ?_ | refine r_seq0 ?_ | refine r_sne0 ?_ | refine r_seq ?_ | refine r_sne ?_ | (with_reducible refine r_notT ?_) | (with_reducible refine r_notF ?_) | refine r_not ?_ | (with_reducible refine r_bnST ?_) | (with_reducible refine r_bnSF ?_) | (with_reducible refine r_bnNT ?_) | (with_reducible refine r_bnNF ?_) | (with_reducible refine r_ex20 ?_) | (with_reducible refine r_ex21 ?_) | (with_reducible refine r_ex30 ?_) | (with_reducible refine r_ex31 ?_) | (with_reducible refine r_ex32 ?_) | (with_reducible refine r_vt ?_) | (with_reducible refine r_vf ?_) | refine r_bb ?_ | refine r_ex rfl ?_ | (refine r_ci64 (by omega) (by omega) ?_) | (refine r_ciu8 (by omega) (by omega) ?_) | (refine r_ciu32 (by omega) (by omega) ?_) | refine r_ci ?_ | (refine r_add1N (by omega) ?_) | (refine r_sub1N (by omega) (by omega) ?_) | (refine r_addN (by omega) ?_) | (refine r_add (by omega) (by omega) ?_) | (refine r_ixsN (by omega) ?_) | (refine r_iaaN (by omega) ?_) | (refine r_sub (by omega) (by omega) ?_) | (refine r_mul (by omega) (by omega) ?_) | (refine r_dr H ?_; clear H; intro _ S_ H; replace S := S.trans S_; clear S_) | refine r_ld 0 H rfl rfl ?_ | refine r_ld 1 H rfl rfl ?_ | refine r_ld 2 H rfl rfl ?_ | refine r_ld 3 H rfl rfl ?_ | refine r_ld 4 H rfl rfl ?_ | ((with_reducible refine r_vtD ?h ?_); (case h => omega)) | ((with_reducible refine r_vfD ?h ?_); (case h => omega)) | ((with_reducible refine r_vtE ?h ?_); (case h => omega)) | ((with_reducible refine r_vfE ?h ?_); (case h => omega)) | ((with_reducible refine r_vtN ?h ?_); (case h => omega)) | ((with_reducible refine r_vfN ?h ?_); (case h => omega)))
      refine r_vtD rfl ?_
      exact banana_spec H4.drop fun w2 S2 H2 => k w2 ((S.trans S4).trans S2) H2
  · repeat (first | refine r_nc ?_ | refine r_fo0 ?_ | refine r_fo ?_ | refine r_ke ?_ | refine r_lns ?_ | refine r_lnl ?_ | refine r_eql ?_ | refine r_neq ?_ | refine r_lss ?_ | refine r_leq ?_ | refine r_gtr ?_ | refine r_geq ?_ | refine r_seq0 ?_ | refine r_sne0 ?_ | refine r_seq ?_ | refine r_sne ?_ | (with_reducible refine r_notT ?_) | (with_reducible refine r_notF ?_) | refine r_not ?_ | (with_reducible refine r_bnST ?_) | (with_reducible refine r_bnSF ?_) | (with_reducible refine r_bnNT ?_) | (with_reducible refine r_bnNF ?_) | (with_reducible refine r_ex20 ?_) | (with_reducible refine r_ex21 ?_) | (with_reducible refine r_ex30 ?_) | (with_reducible refine r_ex31 ?_) | (with_reducible refine r_ex32 ?_) | (with_reducible refine r_vt ?_) | (with_reducible refine r_vf ?_) | refine r_bb ?_ | refine r_ex rfl ?_ | (refine r_ci64 (by omega) (by omega) ?_) | (refine r_ciu8 (by omega) (by omega) ?_) | (refine r_ciu32 (by omega) (by omega) ?_) | refine r_ci ?_ | (refine r_add1N (by omega) ?_) | (refine r_sub1N (by omega) (by omega) ?_) | (refine r_addN (by omega) ?_) | (refine r_add (by omega) (by omega) ?_) | (refine r_ixsN (by omega) ?_) | (refine r_iaaN (by omega) ?_) | (refine r_sub (by omega) (by omega) ?_) | (refine r_mul (by omega) (by omega) ?_) | (refine r_dr H ?_; clear H; intro _ S_ H; replace S := S.trans S_; clear S_) | refine r_ld 0 H rfl rfl ?_ | refine r_ld 1 H rfl rfl ?_ | refine r_ld 2 H rfl rfl ?_ | refine r_ld 3 H rfl rfl ?_ | refine r_ld 4 H rfl rfl ?_ | ((with_reducible refine r_vtD ?h ?_); (case h => omega)) | ((with_reducible refine r_vfD ?h ?_); (case h => omega)) | ((with_reducible refine r_vtE ?h ?_); (case h => omega)) | ((with_reducible refine r_vfE ?h ?_); (case h => omega)) | ((with_reducible refine r_vtN ?h ?_); (case h => omega)) | ((with_reducible refine r_vfN ?h ?_); (case h => omega)))
    refine r_ifD (fun h => r_ke ⟨rfl, true, rfl, fun h => by cases h⟩) fun h => ?_
    repeat (first | refine r_nc ?_ | refine r_fo0 ?_ | refine r_fo ?_ | refine r_ke ?_ | refine r_lns ?_ | refine r_lnl ?_ | refine r_eql ?_ | refine r_neq ?_ | refine r_lss ?_ | refine r_leq ?_ | refine r_gtr ?_ | refine r_geq ?_ | refine r_seq0 ?_ | refine r_sne0 ?_ | refine r_seq ?_ | refine r_sne ?_ | (with_reducible refine r_notT ?_) | (with_reducible refine r_notF ?_) | refine r_not ?_ | (with_reducible refine r_bnST ?_) | (with_reducible refine r_bnSF ?_) | (with_reducible refine r_bnNT ?_) | (with_reducible refine r_bnNF ?_) | (with_reducible refine r_ex20 ?_) | (with_reducible refine r_ex21 ?_) | (with_reducible refine r_ex30 ?_) | (with_reducible refine r_ex31 ?_) | (with_reducible refine r_ex32 ?_) | (with_reducible refine r_vt ?_) | (with_reducible refine r_vf ?_) | refine r_bb ?_ | refine r_ex rfl ?_ | (refine r_ci64 (by omega) (by omega) ?_) | (refine r_ciu8 (by omega) (by omega) ?_) | (refine r_ciu32 (by omega) (by omega) ?_) | refine r_ci ?_ | (refine r_add1N (by omega) ?_) | (refine r_sub1N (by omega) (by omega) ?_) | (refine r_addN (by omega) ?_) | (refine r_add (by omega) (by omega) ?_) | (refine r_ixsN (by omega) ?_) | (refine r_iaaN (by omega) ?_) | (refine r_sub (by omega) (by omega) ?_) | (refine r_mul (by omega) (by omega) ?_) | (refine r_dr H ?_; clear H; intro _ S_ H; replace S := S.trans S_; clear S_) | refine r_ld 0 H rfl rfl ?_ | refine r_ld 1 H rfl rfl ?_ | refine r_ld 2 H rfl rfl ?_ | refine r_ld 3 H rfl rfl ?_ | refine r_ld 4 H rfl rfl ?_ | ((with_reducible refine r_vtD ?h ?_); (case h => omega)) | ((with_reducible refine r_vfD ?h ?_); (case h => omega)) | ((with_reducible refine r_vtE ?h ?_); (case h => omega)) | ((with_reducible refine r_vfE ?h ?_); (case h => omega)) | ((with_reducible refine r_vtN ?h ?_); (case h => omega)) | ((with_reducible refine r_vfN ?h ?_); (case h => omega)))
    refine ⟨rfl, _, rfl, fun h => ?_⟩
    have := of_decide_eq_false h
    omega
end U18
end Go.Proofs.Ytbccjjbfiodbeaa
