/- Several texts in one: U05, Mk, B20, Q20, Q21, Q22, Q23, B21, U18, P20, P24, P25, P21, P26, P27, P28, P22. -/
import Derived.Test.YtoomfeeiehfpmaaGreatDoorMG0
import Derived.Test.YtoomfeeiehfpmaaGreatDoorFm
/- The bytes that are used. -/
set_option linter.unusedVariables false
set_option linter.unusedSimpArgs false
namespace Go.Proofs.YtoomfeeiehfpmaaGreatDoor
open Go Go.Vc
attribute [local irreducible] Go.Vc.Nc Go.Vc.Ld Go.Vc.LdA Go.Vc.St Go.Vc.StA Go.Vc.Fo Go.Vc.Iaa Go.Vc.Ias Go.Vc.Ixs Go.Vc.Ixa Go.Vc.Fd Go.Vc.FdA Go.Vc.Bp Go.Vc.Bb Go.Vc.Bn Go.Vc.Up Go.Vc.Ci Go.Vc.Lns Go.Vc.Lnl Go.Vc.Ex Go.Vc.Sst Go.Vc.Ssl Go.Vc.New Go.Vc.Vif Go.Vc.VJoin Go.Vc.VLoop Go.Vc.KE Go.Vc.Dr Go.Vc.Rk Go.Vc.Cl Go.Vc.Cx Go.Vc.Inv Go.Vc.Be Go.Vc.Cv Go.Vc.Cw Go.Vc.Mf Go.Vc.Sl Go.Vc.Lk Go.Vc.Bd Go.Vc.Bs Go.Vc.Ms Go.Vc.Mm Go.Vc.Mu Go.Vc.Me Go.Vc.Es Go.Vc.Rg Go.Vc.Nx Go.Vc.Ta Go.Vc.Ap Go.Vc.Usd Go.Vc.Ust Go.Vc.Cp Go.Vc.Ln Go.Vc.Bc Go.Vc.Bmin Go.Vc.Bmax Go.Vc.Bdel Go.Vc.Bclr Go.Vc.Pk
namespace U05
open Go.M01 Go.Mb Go.Mp Go.Mz Rb
variable {w : World} {L : List HProp} {K : Value → World → Prop} {b r : Nat} {B : List UInt8} {d at_ n : Nat}
abbrev tT : Nat := 119
theorem bv_ofNat {j : Nat} (h : j < 256) : (Value.int .u8 (j : Int)) = bv (UInt8.ofNat j) := by
  unfold bv
  rw [UInt8.toNat_ofNat_of_lt' (by simpa using h)]
theorem sg_bv (c : UInt8) : sg (bv c) = true := rfl
theorem range_filter {p : Nat → Bool} {j : Nat} : (List.range (j + 1)).filter p = (List.range j).filter p ++ if p j then [j] else [] := by
  rw [List.range_succ, List.filter_append, List.filter_cons, List.filter_nil]
theorem valB_bit {q : List Bool} {n i : Nat} (hq : q.length = n) (hi : i < n) : (valB q).testBit (n - 1 - i) = q.getD i false := by
  have h1 : bitsOf (valB q) n = q := M10.valB_inj (n := n) (bitsOf_len _ _) hq (M10.valB_bitsOf _ _ (by rw [← hq]; exact valB_lt q))
  have h2 := Mb.bitsOf_get (valB q) n i hi
  rw [h1] at h2
  rw [List.getD_eq_getElem?_getD, h2]
  rfl
theorem marks_spec {q : List Bool} (H : Holds w L) (hq : q.length = 16) (k : ∀ v w', Same w w' → Holds w' (SL nv tI v (marksL q) :: L) → K v w') : Cl Tryz.prog F.used_marks #[uv (valB q)] w K := by
  refine Tie.used_marks ?_
  unfold Vcf.used_marks
  have hv : valB q < 65536 := by have := valB_lt q; rw [hq] at this; exact this
  refine r_loop2 (fun o x w' => ∃ i : Nat, i ≤ 16 ∧ x = nv i ∧ Same w w' ∧ Holds w' (SL nv tI o ((List.range i).filter fun i => q.getD i false) :: L)) (fun _ x _ => 16 - (RowKit.intOf x).toNat) ⟨0, by omega, rfl, .refl w, H.nilSL nv tI⟩ ?_
  clear H
  rintro _ o _ w1 ⟨i, hi, rfl, S, H⟩
  repeat (first | refine r_lss ?_)
  refine r_ifD (fun h => ?_) fun h => ?_
  · have hlt : i < 16 := by omega
    have hfl : ((List.range i).filter fun i => q.getD i false).length ≤ 16 := Nat.le_trans (List.length_filter_le _ _) (by simp; omega)
    repeat (refine r_sub (by omega) (by omega) ?_)
    rw [show (15 : Int) - (i : Int) = ((15 - i : Nat) : Int) by omega]
    refine r_shrU (show 15 - i ≤ 32 by omega) ?_
    have hd : valB q / 2 ^ (15 - i) ≤ valB q := Nat.div_le_self _ _
    refine r_andU32 (t := 1) (by omega) (by omega) ?_
    have hb := valB_bit hq hlt
    rw [show 16 - 1 - i = 15 - i by omega] at hb
    rw [bit_at, hb]
    cases hc : q.getD i false with
    | true =>
      refine r_eql (r_vtE rfl ?_)
      refine r_app1 H 0 rfl i sg_nv (by omega) fun v' w2 S2 H2 => ?_
      rw [List.set_cons_zero] at H2
      repeat (first | refine r_ke ?_ | (refine r_add1N (by omega) ?_))
      refine ⟨⟨i + 1, by omega, rfl, S.trans S2, ?_⟩, ?_⟩
      · rw [range_filter, hc]; exact H2
      · simp [nv, RowKit.intOf]
        omega
    | false =>
      refine r_eql (r_vfE (by decide) ?_)
      repeat (first | refine r_ke ?_ | (refine r_add1N (by omega) ?_))
      refine ⟨⟨i + 1, by omega, rfl, S, ?_⟩, ?_⟩
      · rw [range_filter, hc]
        simp only [Bool.false_eq_true, if_false, List.append_nil]
        exact H
      · simp [nv, RowKit.intOf]
        omega
  · obtain rfl : i = 16 := by omega
    exact k _ _ S H
theorem listed_spec {T : Nat → Bool} (H : Holds w L) (k : ∀ w', Same w w' → Holds w' L → K (S_ (listed T)) w') : Cl Tryz.prog F.used_listed #[.agg ((boolsT T).map Value.bool).toArray] w K := by
  refine Tie.used_listed ?_
  unfold Vcf.used_listed
  refine r_new H fun b1 w1 S1 H1 => ?_
  have hlen : ((boolsT T).map Value.bool).length = 256 := by rw [List.length_map, boolsT_len]
  have hcells : (Value.agg ((boolsT T).map Value.bool).toArray).cells.toList = (boolsT T).map Value.bool := by simp [Value.cells]
  rw [hcells] at H1
  refine r_ldA 0 H1 ((boolsT T).map Value.bool) rfl (by rw [List.drop_zero, List.take_of_length_le (by omega)]) hlen ?_
  refine r_loop2 (fun o x w' => ∃ i : Nat, i ≤ 256 ∧ x = nv i ∧ Same w w' ∧ Holds w' (SL bv tB o (((List.range i).filter T).map UInt8.ofNat) :: L)) (fun _ x _ => 256 - (RowKit.intOf x).toNat) ⟨0, by omega, rfl, S1, (H1.drop).nilSL bv tB⟩ ?_
  clear H H1 S1
  rintro _ o _ w1 ⟨i, hi, rfl, S, H⟩
  repeat (first | refine r_lss ?_)
  refine r_ifD (fun h => ?_) fun h => ?_
  · have hlt : i < 256 := by omega
    have hfl : (((List.range i).filter T).map UInt8.ofNat).length ≤ 256 := by
      rw [List.length_map]
      exact Nat.le_trans (List.length_filter_le _ _) (by simp; omega)
    refine r_ixa1 (.bool (T i)) (by omega) (by omega) (by rw [Int.toNat_natCast, List.getElem?_map, boolsT_get T hlt]; rfl) ?_
    cases hc : T i with
    | true =>
      refine r_vt ?_
      repeat (refine r_ciu8 (by omega) (by omega) ?_)
      rw [bv_ofNat hlt]
      refine r_app1 H 0 rfl (UInt8.ofNat i) sg_bv (by omega) fun v' w2 S2 H2 => ?_
      rw [List.set_cons_zero] at H2
      repeat (first | refine r_ke ?_ | (refine r_add1N (by omega) ?_))
      refine ⟨⟨i + 1, by omega, rfl, S.trans S2, ?_⟩, ?_⟩
      · rw [range_filter, hc, if_pos rfl, List.map_append]; exact H2
      · simp [nv, RowKit.intOf]
        omega
    | false =>
      refine r_vf ?_
      repeat (first | refine r_ke ?_ | (refine r_add1N (by omega) ?_))
      refine ⟨⟨i + 1, by omega, rfl, S, ?_⟩, ?_⟩
      · rw [range_filter, hc]
        simp only [Bool.false_eq_true, if_false, List.append_nil]
        exact H
      · simp [nv, RowKit.intOf]
        omega
  · obtain rfl : i = 256 := by omega
    obtain ⟨oa, sp, rfl, H2⟩ := H.open 0 rfl
    refine r_cbs H2 0 rfl rfl ?_
    exact k _ S H.drop
theorem read_spec (H : Holds w (RdR r B d at_ :: L))
    (ks : uread (rest B at_) = .short → ∀ q w', Same w w' → Holds w' (RdR r B d q :: L) → K (.tuple #[S_ [], iv 3]) w')
    (kb : uread (rest B at_) = .bad 25 → ∀ q w', Same w w' → Holds w' (RdR r B d q :: L) → K (.tuple #[S_ [], iv 25]) w')
    (k : ∀ T n, uread (rest B at_) = .ok T n → listed T ≠ [] → ∀ w', Same w w' → Holds w' (RdR r B d (at_ + n) :: L) → K (.tuple #[S_ (listed T), iv 0]) w') : Cl Tryz.prog F.used_read #[pt r] w K := by
  refine Tie.used_read ?_
  unfold Vcf.used_read
  refine Get_spec (n := 16) H (by omega) (fun hs w2 S2 H2 => ?_) fun hs w2 S2 H2 => ?_
  · repeat (first | refine r_neq ?_ | (with_reducible refine r_ex20 ?_) | (with_reducible refine r_ex21 ?_) | ((with_reducible refine r_vtN ?h ?_); (case h => omega)))
    exact ks (by unfold uread; rw [if_pos hs]) _ _ S2 H2
  clear H
  have S := S2; have H := H2; clear S2 H2
  repeat (first | refine r_neq ?_ | (with_reducible refine r_ex20 ?_) | (with_reducible refine r_ex21 ?_) | ((with_reducible refine r_vfN ?h ?_); (case h => omega)))
  have hz : (zeroP Tryz.prog tT).cells.toList = (boolsT fun _ => false).map Value.bool := by rw [boolsT_false]; kernel_rfl
  refine r_new H fun bt w3 S3 H3 => ?_
  rw [hz] at H3
  replace S := S.trans S3; clear H
  have H := H3; clear H3 S3
  have hq : ((rest B at_).take 16).length = 16 := by rw [List.length_take]; omega
  refine marks_spec H hq fun mv w3 S3 H3 => ?_
  replace S := S.trans S3; clear H
  have H := H3; clear H3 S3
  refine r_lnS 0 H rfl ?_
  have hml := marksL_len ((rest B at_).take 16)
  have hm16 := fun i (h : i ∈ marksL ((rest B at_).take 16)) => marksL_lt h
  have e0 : uread (rest B at_) = if (rest B at_).length < 16 + 16 * (marksL ((rest B at_).take 16)).length then .short
      else if listed (usedT (marksL ((rest B at_).take 16)) ((rest B at_).drop 16)) = [] then .bad 25
      else .ok (usedT (marksL ((rest B at_).take 16)) ((rest B at_).drop 16)) (16 + 16 * (marksL ((rest B at_).take 16)).length) := by
    unfold uread; rw [if_neg (by omega)]
  generalize marksL ((rest B at_).take 16) = ms at *
  refine r_loop1 (fun x w' => ∃ j : Nat, j ≤ ms.length ∧ x = nv j ∧ 16 + 16 * j ≤ (rest B at_).length ∧ Same w w' ∧ Holds w' (SL nv tI mv ms :: blk bt tT ([] ++ ((boolsT (usedT (ms.take j) ((rest B at_).drop 16))).map Value.bool ++ [])) :: RdR r B d (at_ + 16 + 16 * j) :: L))
    (fun x _ => ms.length - (RowKit.intOf x).toNat) ⟨0, by omega, rfl, by omega, S, ?_⟩ ?_
  · rw [List.append_nil, List.nil_append]
    exact H
  clear H S
  rintro _ _ w4 ⟨j, hj, rfl, hlen, S, H⟩
  repeat (first | refine r_lss ?_)
  refine r_ifD (fun h => ?_) fun h => ?_
  · have hlt : j < ms.length := by omega
    have hgj : ms[j]? = some ms[j] := List.getElem?_eq_getElem hlt
    have hi16 := hm16 _ (List.getElem_mem hlt)
    refine r_getS 0 H rfl hgj ?_
    generalize hmi : ms[j] = i at *
    have hrl := rest_len B at_
    have hrl2 := rest_len B (at_ + 16 + 16 * j)
    refine Get_spec (n := 16) (Holds.front H 2 rfl) (by omega) (fun hs w5 S5 H5 => ?_) fun hs w5 S5 H5 => ?_
    · repeat (first | refine r_neq ?_ | (with_reducible refine r_ex20 ?_) | (with_reducible refine r_ex21 ?_) | ((with_reducible refine r_vtN ?h ?_); (case h => omega)))
      refine ks ?_ _ _ (S.trans S5) (Holds.front H5 0 rfl |>.dropAt 1 |>.dropAt 1)
      rw [e0, if_pos (by omega)]
    · replace S := S.trans S5; clear H
      have H := H5; clear H5 S5
      repeat (first | refine r_neq ?_ | (with_reducible refine r_ex20 ?_) | (with_reducible refine r_ex21 ?_) | ((with_reducible refine r_vfN ?h ?_); (case h => omega)))
      have hq2 : ((rest B (at_ + 16 + 16 * j)).take 16).length = 16 := by rw [List.length_take]; omega
      refine marks_spec H hq2 fun mv2 w5 S5 H5 => ?_
      replace S := S.trans S5; clear H
      have H := H5; clear H5 S5
      refine r_lnS 0 H rfl ?_
      have hml2 := marksL_len ((rest B (at_ + 16 + 16 * j)).take 16)
      have hmm : ∀ b, ((rest B at_).drop 16 |>.drop (16 * j)).getD (b % 16) false = decide (b % 16 ∈ marksL ((rest B (at_ + 16 + 16 * j)).take 16)) := fun b => by
        have hb : b % 16 < 16 := Nat.mod_lt _ (by decide)
        rw [rest_drop, rest_drop, Bool.eq_iff_iff, decide_eq_true_iff, marksL_mem, List.getD_eq_getElem?_getD, List.getD_eq_getElem?_getD, List.getElem?_take_of_lt hb]
        exact ⟨fun h => ⟨hb, h⟩, fun h => h.2⟩
      generalize hm2 : marksL ((rest B (at_ + 16 + 16 * j)).take 16) = ks2 at *
      have hk16 : ∀ x ∈ ks2, x < 16 := fun x hx => marksL_lt (by rw [hm2]; exact hx)
      refine r_loop1 (fun x w' => ∃ m : Nat, m ≤ ks2.length ∧ x = nv m ∧ Same w w' ∧ Holds w' (SL nv tI mv2 ks2 :: RdR r B d (at_ + 16 + 16 * j + 16) :: SL nv tI mv ms ::
        blk bt tT ([] ++ ((boolsT fun b => usedT (ms.take j) ((rest B at_).drop 16) b || (decide (b / 16 = i) && decide (b % 16 ∈ ks2.take m))).map Value.bool ++ [])) :: L)) (fun x _ => ks2.length - (RowKit.intOf x).toNat) ⟨0, by omega, rfl, S, ?_⟩ ?_
      · have : (fun b => usedT (ms.take j) ((rest B at_).drop 16) b || (decide (b / 16 = i) && decide (b % 16 ∈ ks2.take 0))) = usedT (ms.take j) ((rest B at_).drop 16) := by
          funext b; simp
        rw [this]
        exact H
      clear H S
      rintro _ _ w6 ⟨m, hm, rfl, S, H⟩
      repeat (first | refine r_lss ?_)
      refine r_ifD (fun h => ?_) fun h => ?_
      · have hlt2 : m < ks2.length := by omega
        have hgm : ks2[m]? = some ks2[m] := List.getElem?_eq_getElem hlt2
        have hk := hk16 _ (List.getElem_mem hlt2)
        refine r_getS 0 H rfl hgm ?_
        generalize hmk : ks2[m] = kk at *
        repeat (first | refine r_mulE ((16 * i : Nat) : Int) (by omega) (by omega) (by omega) ?_ | (refine r_addN (by omega) ?_) | (refine r_iaaN (by omega) ?_))
        refine r_st 3 H rfl (by simp [boolsT_len]; omega) rfl fun w7 S7 H7 => ?_
        have e := mid_set (f := Value.bool) (xs := boolsT fun b => usedT (ms.take j) ((rest B at_).drop 16) b || (decide (b / 16 = i) && decide (b % 16 ∈ ks2.take m))) (post := []) (j := 16 * i + kk) [] true (by rw [boolsT_len]; omega)
        rw [List.length_nil, boolsT_set] at e
        rw [List.set_cons_succ, List.set_cons_succ, List.set_cons_succ, List.set_cons_zero, e] at H7
        have ef : (fun b => (usedT (ms.take j) ((rest B at_).drop 16) b || (decide (b / 16 = i) && decide (b % 16 ∈ ks2.take m))) || decide (b = 16 * i + kk)) = fun b => usedT (ms.take j) ((rest B at_).drop 16) b || (decide (b / 16 = i) && decide (b % 16 ∈ ks2.take (m + 1))) := by
          funext b
          rw [Bool.or_assoc]
          refine congrArg (fun z => usedT (ms.take j) ((rest B at_).drop 16) b || z) ?_
          rw [Bool.eq_iff_iff]
          simp only [Bool.or_eq_true, Bool.and_eq_true, decide_eq_true_iff]
          rw [take_snoc hgm, List.mem_append, List.mem_singleton]
          constructor
          · rintro (⟨h1, h2⟩ | h)
            · exact ⟨h1, .inl h2⟩
            · exact ⟨by omega, .inr (by omega)⟩
          · rintro ⟨h1, h2 | h2⟩
            · exact .inl ⟨h1, h2⟩
            · exact .inr (by omega)
        rw [ef] at H7
        repeat (first | refine r_ke ?_ | (refine r_add1N (by omega) ?_))
        refine ⟨⟨m + 1, by omega, rfl, S.trans S7, H7⟩, ?_⟩
        simp [nv, RowKit.intOf]
        omega
      · obtain rfl : m = ks2.length := by omega
        repeat (first | refine r_ke ?_ | (refine r_add1N (by omega) ?_))
        refine ⟨⟨j + 1, by omega, rfl, by omega, S, ?_⟩, ?_⟩
        · have ef : usedT (ms.take (j + 1)) ((rest B at_).drop 16) = fun b => usedT (ms.take j) ((rest B at_).drop 16) b || (decide (b / 16 = i) && decide (b % 16 ∈ ks2.take ks2.length)) := by
            funext b
            rw [take_snoc hgj, usedT_snoc, List.length_take, Nat.min_eq_left hj, hmm, List.take_length]
          rw [ef, show at_ + 16 + 16 * (j + 1) = at_ + 16 + 16 * j + 16 by omega]
          exact (H.drop.front 2 rfl).front 2 rfl
        · simp [nv, RowKit.intOf]
          omega
  · obtain rfl : j = ms.length := by omega
    rw [if_neg (by omega)] at e0
    rw [List.take_length] at H
    generalize usedT ms ((rest B at_).drop 16) = T at *
    have hlenT : ((boolsT T).map Value.bool).length = 256 := by rw [List.length_map, boolsT_len]
    rw [List.append_nil, List.nil_append] at H
    refine r_ldA 1 H ((boolsT T).map Value.bool) rfl (by rw [List.drop_zero, List.take_of_length_le (by omega)]) hlenT ?_
    refine listed_spec H fun w5 S5 H5 => ?_
    have H6 : Holds w5 (RdR r B d (at_ + 16 + 16 * ms.length) :: L) := H5.drop.drop
    rw [Nat.add_assoc] at H6
    replace S := S.trans S5
    have hsz : (⟨(listed T).toArray⟩ : ByteArray).size = (listed T).length := by show (listed T).toArray.size = _; simp
    repeat (first | refine r_seq0 ?_)
    by_cases hT : listed T = []
    · rw [if_pos hT] at e0
      rw [decide_eq_true (by rw [hsz, hT]; rfl)]
      exact r_vt (kb e0 _ _ S H6)
    · rw [if_neg hT] at e0
      rw [decide_eq_false (by rw [hsz]; exact fun h => hT (List.eq_nil_of_length_eq_zero h))]
      exact r_vf (k _ _ e0 hT _ S H6)
theorem Read_spec (H : Holds w (RdR r B d at_ :: L))
    (ks : uread (rest B at_) = .short → ∀ w', Same w w' → Holds w' (RdR r B d at_ :: L) → K (.tuple #[S_ [], iv 3]) w')
    (kb : uread (rest B at_) = .bad 25 → ∀ w', Same w w' → Holds w' (RdR r B d at_ :: L) → K (.tuple #[S_ [], iv 25]) w')
    (k : ∀ T n, uread (rest B at_) = .ok T n → listed T ≠ [] → ∀ w', Same w w' → Holds w' (RdR r B d (at_ + n) :: L) → K (.tuple #[S_ (listed T), iv 0]) w') : Cl Tryz.prog F.used_Read #[pt r] w K := by
  refine Tie.used_Read ?_
  unfold Vcf.used_Read
  have hf := (RdR_open H).1
  refine At_spec H ?_
  refine read_spec H (fun hs q w2 S2 H2 => ?_) (fun hs q w2 S2 H2 => ?_) fun T n hs hT w2 S2 H2 => ?_
  · repeat (first | refine r_neq ?_ | (with_reducible refine r_ex20 ?_) | (with_reducible refine r_ex21 ?_) | ((with_reducible refine r_vtN ?h ?_); (case h => omega)))
    refine Seek_spec H2 hf.1 hf.2.1 fun w3 S3 H3 => ?_
    exact ks hs _ (S2.trans S3) H3
  · repeat (first | refine r_neq ?_ | (with_reducible refine r_ex20 ?_) | (with_reducible refine r_ex21 ?_) | ((with_reducible refine r_vtN ?h ?_); (case h => omega)))
    refine Seek_spec H2 hf.1 hf.2.1 fun w3 S3 H3 => ?_
    exact kb hs _ (S2.trans S3) H3
  · repeat (first | refine r_neq ?_ | (with_reducible refine r_ex20 ?_) | (with_reducible refine r_ex21 ?_) | ((with_reducible refine r_vfN ?h ?_); (case h => omega)))
    exact k T n hs hT _ S2 H2
end U05
end Go.Proofs.YtoomfeeiehfpmaaGreatDoor
/- Blocks step by step, plain. No program in sight. -/
set_option linter.unusedVariables false
set_option linter.unusedSimpArgs false
namespace Go.Mk
open Go.M01 Go.Mb Go.Mp Go.M10 Go.Mc Go.Mz
structure RS where
  code : CS
  zeros : ZS
  list : List UInt8
  due : Nat
  place : Nat
structure BS where
  room : Nat
  head : Bool
  sum : Nat
  frm : Nat
  row : Option RS
  last : List UInt8
  done : Bool
def b0 (room : Nat) : BS := ⟨room, false, 0, 0, none, [], false⟩
def rowOf (T : Nat → Bool) (room : Nat) : RS := ⟨c0 ((listed T).length + 2), z0 (listed T).length room, listed T, 0, 0⟩
def RS.waits (r : RS) : Bool := decide (0 < r.due) || decide (0 < r.place)
def RS.at_ (r : RS) : Nat := if 0 < r.due then 0 else r.place
def RS.next (r : RS) : RS := ⟨r.code, r.zeros, frontB r.list r.at_, r.due - 1, if 0 < r.due then r.place else 0⟩
def RS.byte (r : RS) : UInt8 := r.list.getD r.at_ 0
def bend (b : BS) (k : Nat) : Res BS :=
  match b.row with
  | none => .ok b k
  | some r => if r.code.done = false ∨ r.waits = true then .ok b k
    else if b.last.length ≤ b.frm then .bad 23
    else .ok ⟨b.room, b.head, b.sum, b.frm, b.row, b.last, true⟩ k
def btold (b : BS) (r : RS) (c : CS) (s k : Nat) : Res BS :=
  match zput r.zeros s with
  | none => .bad 25
  | some (z, d, p) => bend ⟨b.room, b.head, b.sum, b.frm, some ⟨c, z, r.list, d, p.toNat⟩, b.last, b.done⟩ k
def bsym (b : BS) (r : RS) : Res (CS × Option Nat) → Res BS
  | .short => .short
  | .bad e => .bad e
  | .ok (c, none) k => bend ⟨b.room, b.head, b.sum, b.frm, some ⟨c, r.zeros, r.list, r.due, r.place⟩, b.last, b.done⟩ k
  | .ok (c, some s) k => btold b r c s k
def buse (b : BS) : Res (Nat → Bool) → Res BS
  | .short => .short
  | .bad e => .bad e
  | .ok T k => bend ⟨b.room, b.head, b.sum, b.frm, some (rowOf T b.room), b.last, b.done⟩ k
def bhead (b : BS) (l : List Bool) : Res BS :=
  if l.length < 57 then .short
  else if valB ((l.drop 32).take 1) = 1 then .bad 25
  else bend ⟨b.room, true, valB (l.take 32), valB ((l.drop 33).take 24), b.row, b.last, b.done⟩ 57
def bnext (b : BS) (r : RS) : Res BS := bend ⟨b.room, b.head, b.sum, b.frm, some r.next, b.last ++ [r.byte], b.done⟩ 0
def bstep (b : BS) (l : List Bool) : Res BS :=
  if b.head = false then bhead b l
  else match b.row with
    | none => buse b (uread l)
    | some r => if r.waits = true then bnext b r else bsym b r (cstep r.code l)
structure RS.Ok (r : RS) : Prop where
  code : r.code.Ok
  zeros : r.zeros.Ok
  zd : r.zeros.done = r.code.done
  size : r.code.size = r.zeros.n + 2
  list : r.list.length = r.zeros.n
  place : r.place < r.zeros.n
structure BS.Ok (b : BS) : Prop where
  room : b.room ≤ 900000
  sum : b.sum < 4294967296
  frm : b.frm < 16777216
  none_ : b.row = none → b.last = [] ∧ b.done = false
  some_ : ∀ r, b.row = some r → b.head = true ∧ r.Ok ∧ r.zeros.most = b.room ∧ b.last.length + r.due + (if 0 < r.place then 1 else 0) = r.zeros.told ∧ (b.done = false → r.code.done = true → r.waits = true)
theorem b0_ok {n : Nat} (h : n ≤ 900000) : (b0 n).Ok := ⟨h, by simp [b0], by simp [b0], fun _ => ⟨rfl, rfl⟩, fun r h => by simp [b0] at h⟩
theorem rowOf_ok {T : Nat → Bool} {room : Nat} (hT : listed T ≠ []) (hr : room ≤ 900000) : (rowOf T room).Ok := by
  have h1 := listed_len T
  have h2 : 0 < (listed T).length := List.length_pos_iff.2 hT
  exact ⟨c0_ok (by omega) (by omega), z0_ok (by omega) h1 hr, rfl, rfl, rfl, h2⟩
structure Pre (b : BS) : Prop where
  room : b.room ≤ 900000
  sum : b.sum < 4294967296
  frm : b.frm < 16777216
  none_ : b.row = none → b.last = []
  some_ : ∀ r, b.row = some r → b.head = true ∧ r.Ok ∧ r.zeros.most = b.room ∧ b.last.length + r.due + (if 0 < r.place then 1 else 0) = r.zeros.told
  done : b.done = false
theorem bend_ok {b b' : BS} {k k' : Nat} (hp : Pre b) (h : bend b k = .ok b' k') : b'.Ok ∧ k' = k := by
  unfold bend at h
  split at h
  · rename_i hr
    cases h
    exact ⟨⟨hp.room, hp.sum, hp.frm, fun h => ⟨hp.none_ h, hp.done⟩, fun r h => (by rw [hr] at h; cases h)⟩, rfl⟩
  · rename_i r hr
    have hs := hp.some_ r hr
    split at h
    · rename_i hc
      cases h
      refine ⟨⟨hp.room, hp.sum, hp.frm, fun h => (by rw [hr] at h; cases h), fun r' h => ?_⟩, rfl⟩
      rw [hr] at h
      cases h
      refine ⟨hs.1, hs.2.1, hs.2.2.1, hs.2.2.2, fun _ h2 => ?_⟩
      rcases hc with h3 | h3
      · rw [h2] at h3; cases h3
      · exact h3
    · split at h
      · cases h
      · cases h
        refine ⟨⟨hp.room, hp.sum, hp.frm, fun h => (by simp only [hr] at h; cases h), fun r' h => ?_⟩, rfl⟩
        simp only [hr] at h
        cases h
        exact ⟨hs.1, hs.2.1, hs.2.2.1, hs.2.2.2, fun h => by cases h⟩
theorem next_pre {b : BS} {r : RS} (hb : b.Ok) (hd : b.done = false) (hr : b.row = some r) (hw : r.waits = true) : Pre ⟨b.room, b.head, b.sum, b.frm, some r.next, b.last ++ [r.byte], b.done⟩ := by
  obtain ⟨h1, h2, h3, h4, h5⟩ := hb.some_ r hr
  refine ⟨hb.room, hb.sum, hb.frm, fun h => (by cases h), fun r' h => ?_, hd⟩
  cases h
  have hp := h2.place
  have hat : r.at_ < r.list.length := by
    have := h2.list
    unfold RS.at_
    split <;> omega
  refine ⟨h1, ⟨h2.code, h2.zeros, h2.zd, h2.size, by rw [RS.next, frontB_len hat]; exact h2.list, ?_⟩, h3, ?_⟩
  · simp only [RS.next]; split <;> omega
  · unfold RS.waits at hw
    simp only [Bool.or_eq_true, decide_eq_true_iff] at hw
    show (b.last ++ [r.byte]).length + (r.due - 1) + (if 0 < r.next.place then 1 else 0) = r.zeros.told
    rw [List.length_append, List.length_singleton]
    by_cases h0 : 0 < r.due
    · have e : r.next.place = r.place := by simp [RS.next, h0]
      simp only [e]
      omega
    · have hpl : 0 < r.place := by omega
      have e : r.next.place = 0 := by simp [RS.next, h0]
      rw [if_pos hpl] at h4
      simp only [e, Nat.lt_irrefl, if_false]
      omega
theorem told_pre {b : BS} {r : RS} {c : CS} {z : ZS} {s d k : Nat} {p : Int} {l : List Bool} (hb : b.Ok) (hd : b.done = false) (hr : b.row = some r) (hw : r.waits = false)
    (hc : cstep r.code l = .ok (c, some s) k) (hz : zput r.zeros s = some (z, d, p)) : Pre ⟨b.room, b.head, b.sum, b.frm, some ⟨c, z, r.list, d, p.toNat⟩, b.last, b.done⟩ := by
  obtain ⟨h1, h2, h3, h4, h5⟩ := hb.some_ r hr
  have hco := cstep_ok hc h2.code
  have hzo := zput_ok h2.zeros hz
  have hsz := h2.size
  have hs := hco.2.2 s rfl
  have hcd : c.done = decide (s = r.code.size - 1) := by
    unfold cstep at hc
    split at hc
    · unfold withPicks at hc
      split at hc <;> cases hc
    · split at hc
      · unfold withLens at hc
        repeat' split at hc
        all_goals cases hc
      · split at hc
        · cases hc
        · unfold withSymbol at hc
          split at hc
          · cases hc
          · cases hc; rfl
  unfold RS.waits at hw
  simp only [Bool.or_eq_false_iff, decide_eq_false_iff_not] at hw
  rw [if_neg hw.2] at h4
  refine ⟨hb.room, hb.sum, hb.frm, fun h => (by cases h), fun r' h => ?_, hd⟩
  cases h
  unfold zput at hz
  have hn1 := h2.zeros.n1
  split at hz
  · rename_i hc1
    split at hz
    · cases hz
    · cases hz
      refine ⟨h1, ⟨hco.1, hzo, ?_, by rw [hco.2.1]; exact hsz, h2.list, by simp only; omega⟩, h3, ?_⟩
      · rw [hcd]; simp only; exact (decide_eq_false (by omega)).symm
      · simp only [show ((-1 : Int)).toNat = 0 from rfl, Nat.lt_irrefl, if_false]; omega
  · rename_i hc1
    split at hz
    · rename_i hc2
      cases hz
      refine ⟨h1, ⟨hco.1, hzo, ?_, by rw [hco.2.1]; exact hsz, h2.list, by simp only; omega⟩, h3, ?_⟩
      · rw [hcd]; simp only; exact (decide_eq_true (by omega)).symm
      · simp only [show ((-1 : Int)).toNat = 0 from rfl, Nat.lt_irrefl, if_false]; omega
    · rename_i hc2
      split at hz
      · cases hz
      · cases hz
        refine ⟨h1, ⟨hco.1, hzo, ?_, by rw [hco.2.1]; exact hsz, h2.list, by simp only; omega⟩, h3, ?_⟩
        · rw [hcd]; simp only; exact (decide_eq_false (by omega)).symm
        · simp only
          rw [if_pos (by omega)]
          omega
theorem code_none {c c' : CS} {l : List Bool} {k : Nat} (h : cstep c l = .ok (c', none) k) : c'.done = c.done := by
  unfold cstep at h
  split at h
  · unfold withPicks at h
    split at h <;> cases h
    rfl
  · split at h
    · unfold withLens at h
      repeat' split at h
      all_goals cases h
      all_goals rfl
    · split at h
      · cases h
      · unfold withSymbol at h
        split at h <;> cases h
theorem sym_pre {b : BS} {r : RS} {c : CS} {k : Nat} {l : List Bool} (hb : b.Ok) (hd : b.done = false) (hr : b.row = some r) (hc : cstep r.code l = .ok (c, none) k) :
    Pre ⟨b.room, b.head, b.sum, b.frm, some ⟨c, r.zeros, r.list, r.due, r.place⟩, b.last, b.done⟩ := by
  obtain ⟨h1, h2, h3, h4, h5⟩ := hb.some_ r hr
  have hco := cstep_ok hc h2.code
  refine ⟨hb.room, hb.sum, hb.frm, fun h => (by cases h), fun r' h => ?_, hd⟩
  cases h
  exact ⟨h1, ⟨hco.1, h2.zeros, by rw [code_none hc]; exact h2.zd, by rw [hco.2.1]; exact h2.size, h2.list, h2.place⟩, h3, h4⟩
theorem use_pre {b : BS} {T : Nat → Bool} (hb : b.Ok) (hh : b.head = true) (hr : b.row = none) (hT : listed T ≠ []) : Pre ⟨b.room, b.head, b.sum, b.frm, some (rowOf T b.room), b.last, b.done⟩ := by
  have hn := hb.none_ hr
  refine ⟨hb.room, hb.sum, hb.frm, fun h => (by cases h), fun r' h => ?_, hn.2⟩
  cases h
  exact ⟨hh, rowOf_ok hT hb.room, rfl, by rw [hn.1]; rfl⟩
theorem head_pre {b : BS} {s f : Nat} (hb : b.Ok) (hh : b.head = false) (hs : s < 4294967296) (hf : f < 16777216) : b.row = none ∧ Pre ⟨b.room, true, s, f, b.row, b.last, b.done⟩ := by
  have hr : b.row = none := by
    cases hr : b.row with
    | none => rfl
    | some r => have := (hb.some_ r hr).1; rw [hh] at this; cases this
  have hn := hb.none_ hr
  exact ⟨hr, hb.room, hs, hf, fun _ => hn.1, fun r h => (by simp only at h; rw [hr] at h; cases h), hn.2⟩
theorem waits_or {b : BS} {r : RS} (hb : b.Ok) (hd : b.done = false) (hr : b.row = some r) (hw : r.waits = false) : r.code.done = false := by
  cases hc : r.code.done with
  | false => rfl
  | true =>
    have := (hb.some_ r hr).2.2.2.2 hd hc
    rw [hw] at this; cases this
theorem bend_bad {b : BS} {k e : Nat} (h : bend b k = .bad e) : e = 23 := by
  unfold bend at h
  split at h
  · cases h
  · split at h
    · cases h
    · split at h
      · cases h; rfl
      · cases h
theorem bstep_bad {b : BS} {l : List Bool} {e : Nat} (h : bstep b l = .bad e) : e = 22 ∨ e = 23 ∨ e = 25 := by
  unfold bstep at h
  split at h
  · unfold bhead at h
    split at h
    · cases h
    · split at h
      · cases h; exact .inr (.inr rfl)
      · exact .inr (.inl (bend_bad h))
  · split at h
    · unfold buse at h
      split at h
      · cases h
      · rename_i hu; cases h; exact .inr (.inr (uread_bad hu))
      · exact .inr (.inl (bend_bad h))
    · split at h
      · exact .inr (.inl (bend_bad h))
      · unfold bsym at h
        split at h
        · cases h
        · rename_i hu; cases h; rcases cstep_bad hu with h | h
          · exact .inl h
          · exact .inr (.inr h)
        · exact .inr (.inl (bend_bad h))
        · unfold btold at h
          split at h
          · cases h; exact .inr (.inr rfl)
          · exact .inr (.inl (bend_bad h))
theorem bstep_more {b : BS} {l : List Bool} (m : List Bool) (hb : b.Ok) (h : bstep b l ≠ .short) : bstep b (l ++ m) = bstep b l := by
  unfold bstep at h ⊢
  by_cases hh : b.head = false
  · simp only [if_pos hh] at h ⊢
    unfold bhead at h ⊢
    by_cases h1 : l.length < 57
    · rw [if_pos h1] at h; exact absurd rfl h
    · rw [if_neg h1, if_neg (by simp; omega), List.drop_append_of_le_length (by omega), List.drop_append_of_le_length (by omega), take_app (by first | omega | (rw [List.length_drop]; omega)), take_app (by first | omega | (rw [List.length_drop]; omega)), take_app (by first | omega | (rw [List.length_drop]; omega))]
  · simp only [if_neg hh] at h ⊢
    cases hr : b.row with
    | none =>
      rw [hr] at h
      simp only at h ⊢
      rw [uread_more m]
      intro e; rw [e] at h; exact h rfl
    | some r =>
      rw [hr] at h
      simp only at h ⊢
      by_cases hw : r.waits = true
      · simp only [if_pos hw]
      · simp only [if_neg hw] at h ⊢
        rw [cstep_more m (hb.some_ r hr).2.1.code]
        intro e; rw [e] at h; exact h rfl
end Go.Mk
/- Blocks, step by step. -/
set_option linter.unusedVariables false
set_option linter.unusedSimpArgs false
namespace Go.Proofs.YtoomfeeiehfpmaaGreatDoor
open Go Go.Vc
attribute [local irreducible] Go.Vc.Nc Go.Vc.Ld Go.Vc.LdA Go.Vc.St Go.Vc.StA Go.Vc.Fo Go.Vc.Iaa Go.Vc.Ias Go.Vc.Ixs Go.Vc.Ixa Go.Vc.Fd Go.Vc.FdA Go.Vc.Bp Go.Vc.Bb Go.Vc.Bn Go.Vc.Up Go.Vc.Ci Go.Vc.Lns Go.Vc.Lnl Go.Vc.Ex Go.Vc.Sst Go.Vc.Ssl Go.Vc.New Go.Vc.Vif Go.Vc.VJoin Go.Vc.VLoop Go.Vc.KE Go.Vc.Dr Go.Vc.Rk Go.Vc.Cl Go.Vc.Cx Go.Vc.Inv Go.Vc.Be Go.Vc.Cv Go.Vc.Cw Go.Vc.Mf Go.Vc.Sl Go.Vc.Lk Go.Vc.Bd Go.Vc.Bs Go.Vc.Ms Go.Vc.Mm Go.Vc.Mu Go.Vc.Me Go.Vc.Es Go.Vc.Rg Go.Vc.Nx Go.Vc.Ta Go.Vc.Ap Go.Vc.Usd Go.Vc.Ust Go.Vc.Cp Go.Vc.Ln Go.Vc.Bc Go.Vc.Bmin Go.Vc.Bmax Go.Vc.Bdel Go.Vc.Bclr Go.Vc.Pk
namespace B20
open Go.M01 Go.Mb Go.Mp Go.M10 Go.Mc Go.Mz Go.Mk Rb
variable {w : World} {L : List HProp} {K : Value → World → Prop} {b rb cb zb mb r : Nat} {B : List UInt8} {d at_ n k : Nat} {s : BS} {x : RS} {lv : Value}
abbrev tBk : Nat := 108
abbrev tRw : Nat := 113
def bkC (rv lv : Value) (s : BS) : List Value := [rv, nv s.room, .bool s.head, uv s.sum, nv s.frm, lv, .bool s.done, iv 0]
def rwC (cb zb mb : Nat) (x : RS) : List Value := [pt cb, pt zb, pt mb, nv x.due, nv x.place]
def rawN (b : Nat) (s : BS) (lv : Value) : List HProp := [blk b tBk (bkC (.pointer none) lv s), SL bv tB lv s.last]
def rawS (b : Nat) (s : BS) (x : RS) (rb cb zb mb : Nat) (lv : Value) : List HProp :=
  [blk b tBk (bkC (pt rb) lv s), SL bv tB lv s.last, blk rb tRw (rwC cb zb mb x), C14.CdR cb x.code, Z07.ZrR zb x.zeros, F06.MtR mb x.list]
def RawR (b : Nat) (s : BS) : HProp := match s.row with
  | none => fun h => ∃ lv, Sat (rawN b s lv) h
  | some x => fun h => ∃ rb cb zb mb lv, Sat (rawS b s x rb cb zb mb lv) h
def BkR (b : Nat) (s : BS) : HProp := fun h => s.Ok ∧ RawR b s h
theorem BkR_open (H : Holds w (BkR b s :: L)) : s.Ok ∧ Holds w (RawR b s :: L) := Holds.pure H
theorem BkR_close (h : s.Ok) (H : Holds w (RawR b s :: L)) : Holds w (BkR b s :: L) := Holds.imp H fun _ hh => ⟨h, hh⟩
theorem Raw_openN (hr : s.row = none) (H : Holds w (RawR b s :: L)) : ∃ lv, Holds w (rawN b s lv ++ L) := by
  unfold RawR at H
  rw [hr] at H
  obtain ⟨lv, H⟩ := Holds.ex H
  exact ⟨lv, Holds.unpack H⟩
theorem Raw_closeN (hr : s.row = none) (H : Holds w (rawN b s lv ++ L)) : Holds w (RawR b s :: L) := by
  unfold RawR
  rw [hr]
  exact Holds.imp (Holds.pack H) fun _ hh => ⟨lv, hh⟩
theorem Raw_openS (hr : s.row = some x) (H : Holds w (RawR b s :: L)) : ∃ rb cb zb mb lv, Holds w (rawS b s x rb cb zb mb lv ++ L) := by
  unfold RawR at H
  rw [hr] at H
  obtain ⟨rb, H⟩ := Holds.ex H
  obtain ⟨cb, H⟩ := Holds.ex H
  obtain ⟨zb, H⟩ := Holds.ex H
  obtain ⟨mb, H⟩ := Holds.ex H
  obtain ⟨lv, H⟩ := Holds.ex H
  exact ⟨rb, cb, zb, mb, lv, Holds.unpack H⟩
theorem Raw_closeS (hr : s.row = some x) (H : Holds w (rawS b s x rb cb zb mb lv ++ L)) : Holds w (RawR b s :: L) := by
  unfold RawR
  rw [hr]
  exact Holds.imp (Holds.pack H) fun _ hh => ⟨rb, cb, zb, mb, lv, hh⟩
def AfterB (y : Res BS) (b : Nat) (s : BS) (r : Nat) (B : List UInt8) (d at_ : Nat) (L : List HProp) (e : Int) (w : World) : Prop :=
  match y with
  | .short => e = 3 ∧ Holds w (BkR b s :: RdR r B d at_ :: L)
  | .bad c => e = (c : Int) ∧ ∃ q v1 v2 v3 v4 v5 v6, Holds w (blk b tBk [v1, v2, v3, v4, v5, v6, .bool false, iv 0] :: RdR r B d q :: L)
  | .ok s' n => e = 0 ∧ Holds w (BkR b s' :: RdR r B d (at_ + n) :: L)
theorem szT (T : Nat → Bool) : (⟨(listed T).toArray⟩ : ByteArray).size = (listed T).length := by show (listed T).toArray.size = _; simp
theorem rowOf_spec {T : Nat → Bool} {room : Nat} (H : Holds w L) (hT : listed T ≠ []) (hr : room ≤ 900000)
    (k : ∀ rb cb zb mb w', Same w w' → Holds w' (blk rb tRw (rwC cb zb mb (rowOf T room)) :: C14.CdR cb (rowOf T room).code :: Z07.ZrR zb (rowOf T room).zeros :: F06.MtR mb (rowOf T room).list :: L) → K (pt rb) w') : Cl Tryz.prog F.block_rowOf #[S_ (listed T), nv room] w K := by
  refine Tie.block_rowOf ?_
  unfold Vcf.block_rowOf
  have hl := listed_len T
  have hl0 : 0 < (listed T).length := List.length_pos_iff.2 hT
  refine r_lns ?_
  rw [szT]
  refine r_addN (b := 2) (by omega) ?_
  refine C14.NewReader_spec H (by omega) (by omega) fun cb w1 S1 H1 => ?_
  refine r_ex20 (r_ex21 (r_lns ?_))
  rw [szT]
  refine Z07.NewReader_spec H1 hl0 hl hr fun zb w2 S2 H2 => ?_
  refine r_ex20 (r_ex21 ?_)
  refine F06.New_spec H2 hT fun mb w3 S3 H3 => ?_
  refine r_ex20 (r_ex21 ?_)
  refine r_bd (v := .agg #[pt cb, pt zb, pt mb, nv 0, nv 0]) (by kernel_rfl) ?_
  refine r_new H3 fun rb w4 S4 H4 => ?_
  replace H4 : Holds w4 (blk rb tRw [pt cb, pt zb, pt mb, nv 0, nv 0] :: F06.MtR mb (listed T) :: Z07.ZrR zb (z0 (listed T).length room) :: C14.CdR cb (c0 ((listed T).length + 2)) :: L) := H4
  exact k rb cb zb mb _ (((S1.trans S2).trans S3).trans S4) (by have h_ := Holds.ord 4 [0, 3, 2, 1] H4 rfl; exact h_)
theorem waits_spec (H : Holds w L) (i : Nat) (hi : L[i]? = some (blk rb tRw (rwC cb zb mb x))) (k : K (.bool x.waits) w) : Cl Tryz.prog F.block_row_waits #[pt rb] w K := by
  refine Tie.block_row_waits ?_
  unfold Vcf.block_row_waits
  refine r_bnST (r_vt ?_)
  refine r_nc (r_fo0 ?_)
  refine r_ld i H hi rfl ?_
  refine r_gtr (r_ifD (fun h => ?_) fun h => ?_)
  · have e : x.waits = true := by unfold RS.waits; simp; left; omega
    rw [e] at k; exact k
  · refine r_nc (r_fo0 ?_)
    refine r_ld i H hi rfl ?_
    refine r_gtr ?_
    have e : x.waits = decide ((0 : Int) < (x.place : Int)) := by
      unfold RS.waits
      rw [decide_eq_false (by omega), Bool.false_or, Bool.eq_iff_iff, decide_eq_true_iff, decide_eq_true_iff]; omega
    rw [e] at k; exact k
theorem told_spec {c : CS} {sy : Nat} (H : Holds w (blk rb tRw (rwC cb zb mb x) :: Z07.ZrR zb x.zeros :: L)) (hs : sy ≤ x.zeros.n + 1) (hd : x.zeros.done = false)
    (kb : zput x.zeros sy = none → ∀ w', Same w w' → Holds w' L → K (iv 25) w')
    (k : ∀ z d p, zput x.zeros sy = some (z, d, p) → ∀ w', Same w w' → Holds w' (blk rb tRw (rwC cb zb mb ⟨c, z, x.list, d, p.toNat⟩) :: Z07.ZrR zb z :: L) → K (iv 0) w') : Cl Tryz.prog F.block_row_told #[pt rb, nv sy] w K := by
  refine Tie.block_row_told ?_
  unfold Vcf.block_row_told
  refine r_nc (r_fo0 (r_ld 0 H rfl rfl ?_))
  refine Z07.Put_spec H.swap hs hd (fun hn e w2 he S2 H2 => ?_) fun z d p hz w2 S2 H2 => ?_
  · refine r_ex30 (r_ex31 (r_ex32 ?_))
    refine r_neq (r_vtN he ?_)
    exact kb hn _ S2 H2.drop
  · refine r_ex30 (r_ex31 (r_ex32 ?_))
    refine r_neq (r_vfN rfl ?_)
    have S := S2
    have H := H2.swap
    clear H2 S2
    repeat (first | refine r_nc ?_ | refine r_fo0 ?_)
    refine r_st 0 H rfl (by simp [rwC]) rfl fun w3 S3 H3 => ?_
    replace H3 : Holds w3 (blk rb tRw [pt cb, pt zb, pt mb, nv d, nv x.place] :: Z07.ZrR zb z :: L) := H3
    refine r_max ?_
    rw [show max p 0 = ((p.toNat : Nat) : Int) by omega]
    repeat (first | refine r_nc ?_ | refine r_fo0 ?_)
    refine r_st 0 H3 rfl (by simp) rfl fun w4 S4 H4 => ?_
    exact k z d p hz _ ((S.trans S3).trans S4) H4
theorem next_spec (H : Holds w (blk rb tRw (rwC cb zb mb x) :: F06.MtR mb x.list :: L)) (hat : x.at_ < x.list.length) (hdue : x.due ≤ 900000)
    (k : ∀ w', Same w w' → Holds w' (blk rb tRw (rwC cb zb mb x.next) :: F06.MtR mb x.next.list :: L) → K (bv x.byte) w') : Cl Tryz.prog F.block_row_next #[pt rb] w K := by
  refine Tie.block_row_next ?_
  unfold Vcf.block_row_next
  have S := Same.refl w
  refine r_join1 (fun y w' => y = nv x.at_ ∧ Same w w' ∧ Holds w' (blk rb tRw (rwC cb zb mb x.next) :: F06.MtR mb x.list :: L)) ?_ ?_
  · clear H S
    rintro _ _ w1 ⟨rfl, S, H⟩
    refine r_nc (r_fo0 (r_ld 0 H rfl rfl ?_))
    refine F06.At_spec H.swap hat fun w2 S2 H2 => ?_
    refine r_ex20 (r_ex21 ?_)
    exact k _ (S.trans S2) H2.swap
  · refine r_nc (r_fo0 (r_ld 0 H rfl rfl ?_))
    refine r_gtr (r_ifD (fun h => ?_) fun h => ?_)
    · refine r_nc (r_fo0 (r_ld 0 H rfl rfl ?_))
      repeat (first | refine r_nc ?_ | refine r_fo0 ?_ | (refine r_sub1N (by omega) (by omega) ?_))
      refine r_st 0 H rfl (by simp [rwC]) rfl fun w3 S3 H3 => ?_
      repeat (first | refine r_ke ?_)
      have h0 : 0 < x.due := by omega
      refine ⟨by unfold RS.at_; rw [if_pos h0]; rfl, S.trans S3, ?_⟩
      rw [rwC, RS.next, if_pos h0]
      exact H3
    · refine r_nc (r_fo0 (r_ld 0 H rfl rfl ?_))
      refine r_nc (r_fo0 ?_)
      refine r_st 0 H rfl (by simp [rwC]) rfl fun w3 S3 H3 => ?_
      repeat (first | refine r_ke ?_)
      have h0 : ¬ 0 < x.due := by omega
      refine ⟨by unfold RS.at_; rw [if_neg h0], S.trans S3, ?_⟩
      rw [rwC, RS.next, if_neg h0, show x.due - 1 = x.due by omega]
      exact H3
theorem NewReader_spec {room : Nat} (H : Holds w L) (h1 : 5 ≤ room) (h2 : room ≤ 900000) (k : ∀ b w', Same w w' → Holds w' (BkR b (b0 room) :: L) → K (.tuple #[pt b, iv 0]) w') : Cl Tryz.prog F.block_NewReader #[nv room] w K := by
  refine Tie.block_NewReader ?_
  unfold Vcf.block_NewReader
  refine r_join1 (fun x w' => w = w' ∧ x = .bool false) ?_ ?_
  · rintro _ _ _ ⟨rfl, rfl⟩
    refine r_vf ?_
    refine r_bd (v := .agg #[.pointer none, nv room, .bool false, uv 0, nv 0, .slice none 0 0, .bool false, iv 0]) (by kernel_rfl) ?_
    refine r_new H fun b w2 S2 H2 => ?_
    refine k b _ S2 (BkR_close (b0_ok h2) (Raw_closeN (lv := .slice none 0 0) rfl ?_))
    exact (H2.nilSL bv tB).swap
  · repeat (first | refine r_ke ?_ | refine r_lss ?_ | refine r_gtr ?_ | ((with_reducible refine r_vfD ?h ?_); (case h => omega)))
    exact ⟨rfl, by rw [decide_eq_false (by omega)]⟩
theorem end_spec (H : Holds w (RawR b s :: RdR r B d (at_ + n) :: L)) (hp : Pre s) (s0 : BS) (post : ∀ e w', Same w w' → AfterB (bend s n) b s0 r B d at_ L e w' → K (iv e) w') : Cl Tryz.prog F.block_Reader_end #[pt b] w K := by
  refine Tie.block_Reader_end ?_
  unfold Vcf.block_Reader_end
  have S := Same.refl w
  have hok := fun s' k' (h : bend s n = .ok s' k') => (bend_ok hp h).1
  cases hr : s.row with
  | none =>
    have e0 : bend s n = .ok s n := by unfold bend; rw [hr]
    rw [e0] at post hok
    obtain ⟨lv, H⟩ := Raw_openN hr H
    refine r_join1 (fun y w' => w = w' ∧ y = .bool true) ?_ ?_
    · rintro _ _ _ ⟨rfl, rfl⟩
      refine r_vt ?_
      exact post 0 _ S ⟨rfl, BkR_close (hok _ _ rfl) (Raw_closeN hr H)⟩
    · unfold rawN at H
      repeat (first | refine r_nc ?_ | refine r_fo0 ?_ | refine r_ke ?_ | (with_reducible refine r_bnNT ?_) | (with_reducible refine r_vt ?_) | refine r_ld 0 H rfl rfl ?_)
      exact ⟨rfl, rfl⟩
  | some x =>
    obtain ⟨rb, cb, zb, mb, lv, H⟩ := Raw_openS hr H
    have e0 : bend s n = if x.code.done = false ∨ x.waits = true then .ok s n else if s.last.length ≤ s.frm then .bad 23 else .ok ⟨s.room, s.head, s.sum, s.frm, s.row, s.last, true⟩ n := by
      unfold bend; rw [hr]
    rw [e0] at post hok
    unfold rawS at H
    have hf := hp.frm
    refine r_join1 (fun y w' => w = w' ∧ y = .bool (!x.code.done || x.waits)) ?_ ?_
    · rintro _ _ _ ⟨rfl, rfl⟩
      by_cases hc : x.code.done = false ∨ x.waits = true
      · rw [if_pos hc] at post hok
        have : (!x.code.done || x.waits) = true := by
          rcases hc with h | h
          · rw [h]; rfl
          · rw [h]; simp
        rw [this]
        refine r_vt ?_
        exact post 0 _ S ⟨rfl, BkR_close (hok _ _ rfl) (Raw_closeS hr H)⟩
      · rw [if_neg hc] at post hok
        have : (!x.code.done || x.waits) = false := by
          rw [Bool.or_eq_false_iff]
          constructor
          · cases h : x.code.done with
            | false => exact absurd (.inl h) hc
            | true => rfl
          · cases h : x.waits with
            | false => rfl
            | true => exact absurd (.inr h) hc
        rw [this]
        refine r_vf ?_
        repeat (first | refine r_nc ?_ | refine r_fo0 ?_ | (refine r_dr H ?_; clear H; intro _ S_ H; replace S := S.trans S_; clear S_) | refine r_ld 0 H rfl rfl ?_)
        refine r_lnS 1 H rfl ?_
        repeat (first | refine r_geq ?_)
        refine r_ifD (fun h => ?_) fun h => ?_
        · rw [if_pos (by omega)] at post
          have H9 := (by have h_ := Holds.ord 7 [0, 6] H rfl; exact h_)
          rw [bkC, hp.done] at H9
          exact post 23 _ S ⟨rfl, at_ + n, _, _, _, _, _, _, H9⟩
        · rw [if_neg (by omega)] at post hok
          repeat (first | refine r_nc ?_ | refine r_fo0 ?_)
          refine r_st 0 H rfl (by simp [bkC]) rfl fun w3 S3 H3 => ?_
          exact post 0 _ (S.trans S3) ⟨rfl, BkR_close (hok _ _ rfl) (Raw_closeS (s := ⟨s.room, s.head, s.sum, s.frm, s.row, s.last, true⟩) hr H3)⟩
    · repeat (first | refine r_nc ?_ | refine r_fo0 ?_ | (with_reducible refine r_bnSF ?_) | (with_reducible refine r_vf ?_) | refine r_ld 0 H rfl rfl ?_ | refine r_ld 2 H rfl rfl ?_)
      have H2 : Holds w (C14.CdR cb x.code :: blk b tBk (bkC (pt rb) lv s) :: SL bv tB lv s.last :: blk rb tRw (rwC cb zb mb x) :: Z07.ZrR zb x.zeros :: F06.MtR mb x.list :: RdR r B d (at_ + n) :: L) := (by have h_ := Holds.ord 7 [3, 0, 1, 2, 4, 5, 6] H rfl; exact h_)
      refine C14.Done_spec H2 ?_
      cases hcd : x.code.done with
      | false =>
        refine r_notF (r_vt ?_)
        repeat (first | refine r_ke ?_)
        exact ⟨rfl, rfl⟩
      | true =>
        refine r_notT (r_vf ?_)
        repeat (first | refine r_nc ?_ | refine r_fo0 ?_ | refine r_ld 0 H rfl rfl ?_)
        refine waits_spec H 2 rfl ?_
        repeat (first | refine r_ke ?_)
        exact ⟨rfl, by simp⟩
def Mid (y : Res BS) (b : Nat) (s : BS) (r : Nat) (B : List UInt8) (d at_ : Nat) (L : List HProp) (v : Value) (w : World) : Prop :=
  (∃ e : Int, v = iv e ∧ e ≠ 0 ∧ AfterB y b s r B d at_ L e w) ∨ (v = iv 0 ∧ ∃ s' n, y = bend s' n ∧ Pre s' ∧ Holds w (RawR b s' :: RdR r B d (at_ + n) :: L))
theorem begin_spec (H : Holds w (BkR b s :: RdR r B d at_ :: L)) (hh : s.head = false) (post : ∀ v w', Same w w' → Mid (bstep s (rest B at_)) b s r B d at_ L v w' → K v w') :
    Cl Tryz.prog F.block_Reader_begin #[pt b, pt r] w K := by
  refine Tie.block_Reader_begin ?_
  unfold Vcf.block_Reader_begin
  obtain ⟨hs, H⟩ := BkR_open H
  have hrow := (head_pre (s := 0) (f := 0) hs hh (by omega) (by omega)).1
  obtain ⟨lv, H⟩ := Raw_openN hrow H
  have e0 : bstep s (rest B at_) = bhead s (rest B at_) := by unfold bstep; rw [if_pos hh]
  rw [e0] at post
  have hrl := rest_len B at_
  have H1 : Holds w (RdR r B d at_ :: blk b tBk (bkC (.pointer none) lv s) :: SL bv tB lv s.last :: L) := (by have h_ := Holds.ord 3 [2, 0, 1] H rfl; exact h_)
  clear H
  refine Left_spec H1 fun w2 S2 H2 => ?_
  have S := S2
  have H := H2
  clear H1 H2 S2
  refine r_lss (r_ifD (fun h => ?_) fun h => ?_)
  · refine post _ _ S (.inl ⟨3, rfl, by decide, ?_⟩)
    unfold bhead
    rw [if_pos (by omega)]
    exact ⟨rfl, BkR_close hs (Raw_closeN hrow (by have h_ := Holds.ord 3 [1, 2, 0] H rfl; exact h_))⟩
  · have h57 : ¬ (rest B at_).length < 57 := by omega
    have h32 := rest_len B (at_ + 32)
    have h33 := rest_len B (at_ + 32 + 1)
    refine Get_spec (n := 32) H (by omega) (fun hx => absurd hx (by omega)) fun _ w3 S3 H3 => ?_
    refine r_ex20 (r_ex21 ?_)
    refine Get1_spec H3 (fun hx => ?_) fun c hc w4 S4 H4 => ?_
    · have := (List.getElem?_eq_none_iff.1 hx); omega
    refine r_ex20 (r_ex21 ?_)
    refine Get_spec (n := 24) H4 (by omega) (fun hx => absurd hx (by omega)) fun _ w5 S5 H5 => ?_
    refine r_ex20 (r_ex21 ?_)
    replace S := ((S.trans S3).trans S4).trans S5
    clear H H3 H4
    have H := H5
    clear H5
    have hv1 := valB_take_lt (rest B at_) 32
    have hv2 := valB_take_lt (rest B (at_ + 32 + 1)) 24
    have e1 : (rest B at_).drop 33 = rest B (at_ + 32 + 1) := rest_drop B at_ 33
    have e2 : valB (((rest B at_).drop 32).take 1) = c.toNat := by
      rw [rest_drop, take_snoc (n := 0) hc, List.take_zero, List.nil_append, valB_one]
    have eh : bhead s (rest B at_) = if c.toNat = 1 then .bad 25 else bend ⟨s.room, true, valB ((rest B at_).take 32), valB ((rest B (at_ + 32 + 1)).take 24), s.row, s.last, s.done⟩ 57 := by
      unfold bhead
      rw [if_neg h57, e1, e2]
    rw [eh] at post
    have hpre := (head_pre (s := valB ((rest B at_).take 32)) (f := valB ((rest B (at_ + 32 + 1)).take 24)) hs hh (by omega) (by omega)).2
    generalize valB ((rest B at_).take 32) = sm at *
    generalize valB ((rest B (at_ + 32 + 1)).take 24) = fm at *
    refine r_nc (r_fo0 ?_)
    refine r_st 1 H rfl (by simp [bkC]) rfl fun w3 S3 H3 => ?_
    replace H3 : Holds w3 (RdR r B d (at_ + 32 + 1 + 24) :: blk b tBk [.pointer none, nv s.room, .bool true, uv s.sum, nv s.frm, lv, .bool s.done, iv 0] :: SL bv tB lv s.last :: L) := H3
    refine r_nc (r_fo0 ?_)
    refine r_st 1 H3 rfl (by simp) rfl fun w4 S4 H4 => ?_
    replace H4 : Holds w4 (RdR r B d (at_ + 32 + 1 + 24) :: blk b tBk [.pointer none, nv s.room, .bool true, uv sm, nv s.frm, lv, .bool s.done, iv 0] :: SL bv tB lv s.last :: L) := H4
    refine r_ci64 (by omega) (by omega) ?_
    refine r_nc (r_fo0 ?_)
    refine r_st 1 H4 rfl (by simp) rfl fun w5 S5 H5 => ?_
    replace H5 : Holds w5 (RdR r B d (at_ + 32 + 1 + 24) :: blk b tBk [.pointer none, nv s.room, .bool true, uv sm, nv fm, lv, .bool s.done, iv 0] :: SL bv tB lv s.last :: L) := H5
    replace S := ((S.trans S3).trans S4).trans S5
    refine r_eql (r_ifE (fun h => ?_) fun h => ?_)
    · rw [if_pos (by omega)] at post
      rw [(hs.none_ hrow).2] at H5
      exact post _ _ S (.inl ⟨25, rfl, by decide, rfl, _, _, _, _, _, _, _, (by have h_ := Holds.ord 3 [1, 0] H5 rfl; exact h_)⟩)
    · rw [if_neg (by omega)] at post
      exact post _ _ S (.inr ⟨rfl, _, _, rfl, hpre, Raw_closeN hrow (by have h_ := Holds.ord 3 [1, 2, 0] H5 rfl; exact h_)⟩)
theorem symbols_spec (H : Holds w (BkR b s :: RdR r B d at_ :: L)) (hh : s.head = true) (hrow : s.row = none) (post : ∀ v w', Same w w' → Mid (bstep s (rest B at_)) b s r B d at_ L v w' → K v w') :
    Cl Tryz.prog F.block_Reader_symbols #[pt b, pt r] w K := by
  refine Tie.block_Reader_symbols ?_
  unfold Vcf.block_Reader_symbols
  obtain ⟨hs, H⟩ := BkR_open H
  obtain ⟨lv, H⟩ := Raw_openN hrow H
  have e0 : bstep s (rest B at_) = buse s (uread (rest B at_)) := by unfold bstep; rw [if_neg (by rw [hh]; decide), hrow]
  rw [e0] at post
  have H1 : Holds w (RdR r B d at_ :: blk b tBk (bkC (.pointer none) lv s) :: SL bv tB lv s.last :: L) := (by have h_ := Holds.ord 3 [2, 0, 1] H rfl; exact h_)
  clear H
  have hroom := hs.room
  refine U05.Read_spec H1 (fun hx w2 S2 H2 => ?_) (fun hx w2 S2 H2 => ?_) fun T n hx hT w2 S2 H2 => ?_
  · rw [hx] at post
    refine r_ex20 (r_ex21 (r_eql (r_vfE (by decide) ?_)))
    exact post _ _ S2 (.inl ⟨3, rfl, by decide, rfl, BkR_close hs (Raw_closeN hrow (by have h_ := Holds.ord 3 [1, 2, 0] H2 rfl; exact h_))⟩)
  · rw [hx] at post
    refine r_ex20 (r_ex21 (r_eql (r_vfE (by decide) ?_)))
    rw [bkC, (hs.none_ hrow).2] at H2
    exact post _ _ S2 (.inl ⟨25, rfl, by decide, rfl, _, _, _, _, _, _, _, (by have h_ := Holds.ord 3 [1, 0] H2 rfl; exact h_)⟩)
  · rw [hx] at post
    refine r_ex20 (r_ex21 (r_eql (r_vtE rfl ?_)))
    refine r_nc (r_fo0 (r_ld 1 H2 rfl rfl ?_))
    refine rowOf_spec H2 hT hroom fun rb cb zb mb w3 S3 H3 => ?_
    refine r_nc (r_fo0 ?_)
    refine r_st 5 H3 rfl (by simp [bkC]) rfl fun w4 S4 H4 => ?_
    replace H4 : Holds w4 (blk rb tRw (rwC cb zb mb (rowOf T s.room)) :: C14.CdR cb (rowOf T s.room).code :: Z07.ZrR zb (rowOf T s.room).zeros :: F06.MtR mb (rowOf T s.room).list :: RdR r B d (at_ + n) :: blk b tBk (bkC (pt rb) lv s) :: SL bv tB lv s.last :: L) := H4
    refine post _ _ ((S2.trans S3).trans S4) (.inr ⟨rfl, _, _, rfl, use_pre hs hh hrow hT, Raw_closeS (rb := rb) (cb := cb) (zb := zb) (mb := mb) (lv := lv) rfl ?_⟩)
    exact (by have h_ := Holds.ord 7 [5, 6, 0, 1, 2, 3, 4] H4 rfl; exact h_)
theorem symbol_spec (H : Holds w (BkR b s :: RdR r B d at_ :: L)) (hd : s.done = false) (hh : s.head = true) (hrow : s.row = some x) (hw : x.waits = false) (post : ∀ v w', Same w w' → Mid (bstep s (rest B at_)) b s r B d at_ L v w' → K v w') :
    Cl Tryz.prog F.block_Reader_symbol #[pt b, pt r] w K := by
  refine Tie.block_Reader_symbol ?_
  unfold Vcf.block_Reader_symbol
  obtain ⟨hs, H⟩ := BkR_open H
  obtain ⟨rb, cb, zb, mb, lv, H⟩ := Raw_openS hrow H
  have e0 : bstep s (rest B at_) = bsym s x (cstep x.code (rest B at_)) := by unfold bstep; rw [if_neg (by rw [hh]; decide), hrow]; simp only; rw [if_neg (by rw [hw]; decide)]
  rw [e0] at post
  have hcd := waits_or hs hd hrow hw
  obtain ⟨g1, g2, g3, g4, g5⟩ := hs.some_ x hrow
  unfold rawS at H
  refine r_nc (r_fo0 (r_ld 0 H rfl rfl ?_))
  refine r_nc (r_fo0 (r_ld 2 H rfl rfl ?_))
  have H1 : Holds w (C14.CdR cb x.code :: RdR r B d at_ :: blk b tBk (bkC (pt rb) lv s) :: SL bv tB lv s.last :: blk rb tRw (rwC cb zb mb x) :: Z07.ZrR zb x.zeros :: F06.MtR mb x.list :: L) := (by have h_ := Holds.ord 7 [3, 6, 0, 1, 2, 4, 5] H rfl; exact h_)
  refine C14.Step_spec H1 hcd fun v w2 S2 hA => ?_
  clear H1 H
  cases hx : cstep x.code (rest B at_) with
  | short =>
    rw [hx] at hA post
    obtain ⟨rfl, H⟩ := hA
    refine r_ex20 (r_ex21 ?_)
    refine r_join1 (fun y w' => w2 = w' ∧ y = .bool true) ?_ ?_
    · rintro _ _ _ ⟨rfl, rfl⟩
      refine r_vt ?_
      exact post _ _ S2 (.inl ⟨3, rfl, by decide, rfl, BkR_close hs (Raw_closeS (rb := rb) (cb := cb) (zb := zb) (mb := mb) (lv := lv) hrow (by have h_ := Holds.ord 7 [2, 3, 4, 0, 5, 6, 1] H rfl; exact h_))⟩)
    · refine r_neq (r_vtN (by decide) ?_)
      repeat (first | refine r_ke ?_)
      exact ⟨rfl, rfl⟩
  | bad c =>
    have hcb := cstep_bad hx
    have hc0 : (c : Int) ≠ 0 := by omega
    rw [hx] at hA post
    obtain ⟨rfl, q, H⟩ := hA
    refine r_ex20 (r_ex21 ?_)
    refine r_join1 (fun y w' => w2 = w' ∧ y = .bool true) ?_ ?_
    · rintro _ _ _ ⟨rfl, rfl⟩
      refine r_vt ?_
      rw [bkC, hd] at H
      exact post _ _ S2 (.inl ⟨c, rfl, hc0, rfl, q, _, _, _, _, _, _, (by have h_ := Holds.ord 6 [1, 0] H rfl; exact h_)⟩)
    · refine r_neq (r_vtN hc0 ?_)
      repeat (first | refine r_ke ?_)
      exact ⟨rfl, rfl⟩
  | ok y k =>
    obtain ⟨c, o⟩ := y
    rw [hx] at hA post
    obtain ⟨rfl, H⟩ := hA
    refine r_ex20 (r_ex21 ?_)
    cases o with
    | none =>
      refine r_join1 (fun y w' => w2 = w' ∧ y = .bool true) ?_ ?_
      · rintro _ _ _ ⟨rfl, rfl⟩
        refine r_vt ?_
        refine post _ _ S2 (.inr ⟨rfl, _, _, rfl, sym_pre hs hd hrow hx, Raw_closeS (rb := rb) (cb := cb) (zb := zb) (mb := mb) (lv := lv) rfl ?_⟩)
        exact (by have h_ := Holds.ord 7 [2, 3, 4, 0, 5, 6, 1] H rfl; exact h_)
      · refine r_neq (r_vfN rfl ?_)
        refine r_lss (r_ke ?_)
        exact ⟨rfl, rfl⟩
    | some sy =>
      have hsy := (cstep_ok hx g2.code).2.2 sy rfl
      have hsz := g2.size
      refine r_join1 (fun y w' => w2 = w' ∧ y = .bool false) ?_ ?_
      · rintro _ _ _ ⟨rfl, rfl⟩
        refine r_vf ?_
        refine r_nc (r_fo0 (r_ld 2 H rfl rfl ?_))
        have H1 : Holds w2 (blk rb tRw (rwC cb zb mb x) :: Z07.ZrR zb x.zeros :: C14.CdR cb c :: RdR r B d (at_ + k) :: blk b tBk (bkC (pt rb) lv s) :: SL bv tB lv s.last :: F06.MtR mb x.list :: L) := (by have h_ := Holds.ord 7 [4, 5, 0, 1, 2, 3, 6] H rfl; exact h_)
        refine told_spec (c := c) H1 (by omega) (by rw [g2.zd]; exact hcd) (fun hn w3 S3 H3 => ?_) fun z dd p hz w3 S3 H3 => ?_
        · have e1 : bsym s x (.ok (c, some sy) k) = .bad 25 := by show btold s x c sy k = _; unfold btold; rw [hn]
          rw [e1] at post
          rw [bkC, hd] at H3
          exact post _ _ (S2.trans S3) (.inl ⟨25, rfl, by decide, rfl, _, _, _, _, _, _, _, (by have h_ := Holds.ord 5 [2, 1] H3 rfl; exact h_)⟩)
        · refine post _ _ (S2.trans S3) (.inr ⟨rfl, ⟨s.room, s.head, s.sum, s.frm, some ⟨c, z, x.list, dd, p.toNat⟩, s.last, s.done⟩, k, ?_, told_pre hs hd hrow hw hx hz, Raw_closeS (rb := rb) (cb := cb) (zb := zb) (mb := mb) (lv := lv) rfl ?_⟩)
          · show btold s x c sy k = _
            unfold btold
            rw [hz]
          · exact (by have h_ := Holds.ord 7 [4, 5, 0, 2, 1, 6, 3] H3 rfl; exact h_)
      · refine r_neq (r_vfN rfl ?_)
        refine r_lss (r_ke ?_)
        exact ⟨rfl, by rw [decide_eq_false (by omega)]⟩
theorem step_spec (H : Holds w (BkR b s :: RdR r B d at_ :: L)) (hd : s.done = false) (post : ∀ e w', Same w w' → AfterB (bstep s (rest B at_)) b s r B d at_ L e w' → K (iv e) w') :
    Cl Tryz.prog F.block_Reader_step #[pt b, pt r] w K := by
  refine Tie.block_Reader_step ?_
  unfold Vcf.block_Reader_step
  refine r_join1 (fun v w' => Same w w' ∧ Mid (bstep s (rest B at_)) b s r B d at_ L v w') ?_ ?_
  · rintro _ v w1 ⟨S, ⟨e, rfl, he, hA⟩ | ⟨rfl, s', n, hy, hp, H'⟩⟩
    · refine r_neq (r_vtN he ?_)
      exact post e _ S hA
    · refine r_neq (r_vfN rfl ?_)
      rw [hy] at post
      exact end_spec H' hp s fun e w' S' hA => post e w' (S.trans S') hA
  clear post
  have S := Same.refl w
  have hs := (BkR_open H).1
  have hraw := (BkR_open H).2
  cases hh : s.head with
  | false =>
    have hrow := (head_pre (s := 0) (f := 0) hs hh (by omega) (by omega)).1
    obtain ⟨lv, H0⟩ := Raw_openN hrow hraw
    refine r_nc (r_fo0 (r_ld 0 H0 rfl rfl ?_))
    rw [hh]
    refine r_notF (r_vt ?_)
    refine begin_spec H hh fun v w' S' hA => ?_
    repeat (first | refine r_ke ?_)
    exact ⟨S', hA⟩
  | true =>
    cases hrow : s.row with
    | none =>
      obtain ⟨lv, H0⟩ := Raw_openN hrow hraw
      refine r_nc (r_fo0 (r_ld 0 H0 rfl rfl ?_))
      rw [hh]
      refine r_notT (r_vf ?_)
      refine r_nc (r_fo0 (r_ld 0 H0 rfl rfl ?_))
      refine r_bnNT (r_vt ?_)
      refine symbols_spec H hh hrow fun v w' S' hA => ?_
      repeat (first | refine r_ke ?_)
      exact ⟨S', hA⟩
    | some x =>
      obtain ⟨rb, cb, zb, mb, lv, H0⟩ := Raw_openS hrow hraw
      refine r_nc (r_fo0 (r_ld 0 H0 rfl rfl ?_))
      rw [hh]
      refine r_notT (r_vf ?_)
      refine r_nc (r_fo0 (r_ld 0 H0 rfl rfl ?_))
      refine r_bnSF (r_vf ?_)
      refine r_nc (r_fo0 (r_ld 0 H0 rfl rfl ?_))
      refine waits_spec H0 2 rfl ?_
      cases hw : x.waits with
      | false =>
        refine r_vf ?_
        refine symbol_spec H hd hh hrow hw fun v w' S' hA => ?_
        repeat (first | refine r_ke ?_)
        exact ⟨S', hA⟩
      | true =>
        refine r_vt ?_
        obtain ⟨g1, g2, g3, g4, g5⟩ := hs.some_ x hrow
        have hzs := g2.zeros.sum
        have hzm := g2.zeros.most
        have hat : x.at_ < x.list.length := by
          have := g2.list
          have := g2.place
          unfold RS.at_
          split <;> omega
        have hpre := next_pre hs hd hrow hw
        have eb : bstep s (rest B at_) = bnext s x := by unfold bstep; rw [if_neg (by rw [hh]; decide), hrow]; simp only; rw [if_pos hw]
        clear H hraw
        have H := H0
        clear H0
        unfold rawS at H
        repeat (first | refine r_nc ?_ | refine r_fo0 ?_ | (refine r_dr H ?_; clear H; intro _ S_ H; replace S := S.trans S_; clear S_) | refine r_ld 0 H rfl rfl ?_)
        have H1 : Holds _ (blk rb tRw (rwC cb zb mb x) :: F06.MtR mb x.list :: blk b tBk (bkC (pt rb) lv s) :: SL bv tB lv s.last :: C14.CdR cb x.code :: Z07.ZrR zb x.zeros :: RdR r B d at_ :: L) := (by have h_ := Holds.ord 7 [2, 5, 0, 1, 3, 4, 6] H rfl; exact h_)
        refine next_spec H1 hat (by omega) fun w3 S3 H3 => ?_
        refine r_rk (r_ld 2 H3 rfl rfl rfl) ?_
        refine r_app1K H3 3 (f := bv) (xs := s.last) rfl x.byte (fun _ => rfl) (by omega) (fun w' H' => r_ld 2 H' rfl rfl rfl) fun lv' w4 S4 H4 => ?_
        replace H4 : Holds w4 (blk rb tRw (rwC cb zb mb x.next) :: F06.MtR mb x.next.list :: blk b tBk (bkC (pt rb) lv s) :: SL bv tB lv' (s.last ++ [x.byte]) :: C14.CdR cb x.code :: Z07.ZrR zb x.zeros :: RdR r B d at_ :: L) := H4
        refine r_nc (r_fo0 ?_)
        refine r_st 2 H4 rfl (by simp [bkC]) (SL_sg H4 3 rfl) fun w5 S5 H5 => ?_
        replace H5 : Holds w5 (blk rb tRw (rwC cb zb mb x.next) :: F06.MtR mb x.next.list :: blk b tBk (bkC (pt rb) lv' s) :: SL bv tB lv' (s.last ++ [x.byte]) :: C14.CdR cb x.code :: Z07.ZrR zb x.zeros :: RdR r B d at_ :: L) := H5
        repeat (first | refine r_ke ?_)
        refine ⟨((S.trans S3).trans S4).trans S5, .inr ⟨rfl, ⟨s.room, s.head, s.sum, s.frm, some x.next, s.last ++ [x.byte], s.done⟩, 0, by rw [eb]; rfl, hpre, Raw_closeS (rb := rb) (cb := cb) (zb := zb) (mb := mb) (lv := lv') rfl ?_⟩⟩
        exact (by have h_ := Holds.ord 7 [2, 3, 0, 4, 5, 1, 6] H5 rfl; exact h_)
def BadB (b e : Nat) : HProp := fun h => ∃ v1 v2 v3 v4 v5 v6, blk b tBk [v1, v2, v3, v4, v5, v6, .bool false, nv e] h
theorem BadB_open {e : Nat} (H : Holds w (BadB b e :: L)) : ∃ v1 v2 v3 v4 v5 v6, Holds w (blk b tBk [v1, v2, v3, v4, v5, v6, .bool false, nv e] :: L) := by
  obtain ⟨v1, H⟩ := Holds.ex H
  obtain ⟨v2, H⟩ := Holds.ex H
  obtain ⟨v3, H⟩ := Holds.ex H
  obtain ⟨v4, H⟩ := Holds.ex H
  obtain ⟨v5, H⟩ := Holds.ex H
  obtain ⟨v6, H⟩ := Holds.ex H
  exact ⟨v1, v2, v3, v4, v5, v6, H⟩
def AfterBS (y : Res BS) (b : Nat) (s : BS) (r : Nat) (B : List UInt8) (d at_ : Nat) (L : List HProp) (e : Int) (w : World) : Prop :=
  match y with
  | .short => e = 3 ∧ Holds w (BkR b s :: RdR r B d at_ :: L)
  | .bad c => e = (c : Int) ∧ ∃ q, Holds w (BadB b c :: RdR r B d q :: L)
  | .ok s' n => e = 0 ∧ Holds w (BkR b s' :: RdR r B d (at_ + n) :: L)
theorem Raw_cells (H : Holds w (BkR b s :: L)) : ∃ rv lv L', Holds w (blk b tBk (bkC rv lv s) :: L') ∧ ∀ w' v, Holds w' (blk b tBk ((bkC rv lv s).set 7 v) :: L') → v = iv 0 → Holds w' (BkR b s :: L) := by
  obtain ⟨hs, H⟩ := BkR_open H
  cases hrow : s.row with
  | none =>
    obtain ⟨lv, H⟩ := Raw_openN hrow H
    exact ⟨_, lv, _, H, fun w' v H' hv => by subst hv; exact BkR_close hs (Raw_closeN hrow H')⟩
  | some x =>
    obtain ⟨rb, cb, zb, mb, lv, H⟩ := Raw_openS hrow H
    exact ⟨_, lv, _, H, fun w' v H' hv => by subst hv; exact BkR_close hs (Raw_closeS hrow H')⟩
theorem Step_spec (H : Holds w (BkR b s :: RdR r B d at_ :: L)) (hd : s.done = false) (post : ∀ e w', Same w w' → AfterBS (bstep s (rest B at_)) b s r B d at_ L e w' → K (iv e) w') :
    Cl Tryz.prog F.block_Reader_Step #[pt b, pt r] w K := by
  refine Tie.block_Reader_Step ?_
  unfold Vcf.block_Reader_Step
  obtain ⟨rv, lv, L', H0, hback⟩ := Raw_cells H
  refine r_join1 (fun y w' => w = w' ∧ y = .bool false) ?_ ?_
  · rintro _ _ _ ⟨rfl, rfl⟩
    refine r_vf ?_
    refine r_nc (r_fo0 (r_ld 0 H0 rfl rfl ?_))
    refine r_neq (r_vfN rfl ?_)
    refine step_spec H hd fun e w2 S2 hA => ?_
    cases hx : bstep s (rest B at_) with
    | short =>
      rw [hx] at hA post
      obtain ⟨rfl, H'⟩ := hA
      refine r_neq (r_vfN rfl ?_)
      exact post _ _ S2 ⟨rfl, H'⟩
    | bad c =>
      have hcb := bstep_bad hx
      rw [hx] at hA post
      obtain ⟨rfl, q, v1, v2, v3, v4, v5, v6, H'⟩ := hA
      refine r_neq (r_vtN (by omega) ?_)
      refine r_nc (r_fo0 ?_)
      refine r_st 0 H' rfl (by simp) rfl fun w5 S5 H5 => ?_
      exact post _ _ (S2.trans S5) ⟨rfl, q, Holds.imp H5 fun _ hh => ⟨v1, v2, v3, v4, v5, v6, hh⟩⟩
    | ok s' k =>
      rw [hx] at hA post
      obtain ⟨rfl, H'⟩ := hA
      refine r_neq (r_vtN (by decide) ?_)
      obtain ⟨rv, lv, L', H1, hback⟩ := Raw_cells H'
      refine r_nc (r_fo0 ?_)
      refine r_st 0 H1 rfl (by simp [bkC]) rfl fun w5 S5 H5 => ?_
      exact post _ _ (S2.trans S5) ⟨rfl, hback _ _ H5 rfl⟩
  · repeat (first | refine r_ld 0 H0 rfl rfl ?_ | refine r_nc ?_ | refine r_fo0 ?_ | refine r_ke ?_ | (with_reducible refine r_bnSF ?_) | (with_reducible refine r_vf ?_))
    exact ⟨rfl, by rw [hd]⟩
theorem Done_spec (H : Holds w (BkR b s :: L)) (k : K (.bool s.done) w) : Cl Tryz.prog F.block_Reader_Done #[pt b] w K := by
  refine Tie.block_Reader_Done ?_
  unfold Vcf.block_Reader_Done
  obtain ⟨rv, lv, L', H0, _⟩ := Raw_cells H
  repeat (first | refine r_ld 0 H0 rfl rfl ?_ | refine r_nc ?_ | refine r_fo0 ?_ | (with_reducible refine r_bnST ?_) | (with_reducible refine r_vt ?_))
  exact k
theorem StepDone_spec (H : Holds w (BkR b s :: L)) (hd : s.done = true) (k : K (iv 7) w) : Cl Tryz.prog F.block_Reader_Step #[pt b, pt r] w K := by
  refine Tie.block_Reader_Step ?_
  unfold Vcf.block_Reader_Step
  obtain ⟨rv, lv, L', H0, _⟩ := Raw_cells H
  refine r_join1 (fun y w' => w = w' ∧ y = .bool true) ?_ ?_
  · rintro _ _ _ ⟨rfl, rfl⟩
    refine r_vt ?_
    exact k
  · repeat (first | refine r_ld 0 H0 rfl rfl ?_ | refine r_nc ?_ | refine r_fo0 ?_ | refine r_ke ?_ | (with_reducible refine r_bnSF ?_) | (with_reducible refine r_vf ?_))
    exact ⟨rfl, by rw [hd]⟩
theorem StepBad_spec {e : Nat} (H : Holds w (BadB b e :: L)) (he : e ≠ 0) (k : K (nv e) w) : Cl Tryz.prog F.block_Reader_Step #[pt b, pt r] w K := by
  refine Tie.block_Reader_Step ?_
  unfold Vcf.block_Reader_Step
  obtain ⟨v1, v2, v3, v4, v5, v6, H0⟩ := BadB_open H
  refine r_join1 (fun y w' => w = w' ∧ y = .bool false) ?_ ?_
  · rintro _ _ _ ⟨rfl, rfl⟩
    refine r_vf ?_
    refine r_nc (r_fo0 (r_ld 0 H0 rfl rfl ?_))
    refine r_neq (r_vtN (by omega) ?_)
    refine r_nc (r_fo0 (r_ld 0 H0 rfl rfl ?_))
    exact k
  · repeat (first | refine r_ld 0 H0 rfl rfl ?_ | refine r_nc ?_ | refine r_fo0 ?_ | refine r_ke ?_ | (with_reducible refine r_bnSF ?_) | (with_reducible refine r_vf ?_))
    exact ⟨rfl, rfl⟩
theorem DoneBad_spec {e : Nat} (H : Holds w (BadB b e :: L)) (k : K (.bool false) w) : Cl Tryz.prog F.block_Reader_Done #[pt b] w K := by
  refine Tie.block_Reader_Done ?_
  unfold Vcf.block_Reader_Done
  obtain ⟨v1, v2, v3, v4, v5, v6, H0⟩ := BadB_open H
  repeat (first | refine r_ld 0 H0 rfl rfl ?_ | refine r_nc ?_ | refine r_fo0 ?_ | (with_reducible refine r_bnST ?_) | (with_reducible refine r_vt ?_))
  exact k
end B20
end Go.Proofs.YtoomfeeiehfpmaaGreatDoor
/- Blocks: what steps come to, and what bits say, plain. No program in sight. -/
set_option linter.unusedVariables false
set_option linter.unusedSimpArgs false
namespace Go.Q20
open Go.M01 Go.Mb Go.Mp Go.M10 Go.Mc Go.Mz Go.Mk
section
variable {σ : Type} {step : σ → List Bool → Res σ} {done : σ → Bool} {s0 : σ} {l : List Bool}
inductive RunN (step : σ → List Bool → Res σ) (done : σ → Bool) (s0 : σ) (l : List Bool) : Nat → σ → Nat → Prop
  | start : RunN step done s0 l 0 s0 0
  | next {i : Nat} {s s' : σ} {k n : Nat} (h : RunN step done s0 l i s k) (hd : done s = false) (hs : step s (l.drop k) = .ok s' n) : RunN step done s0 l (i + 1) s' (k + n)
def Run (step : σ → List Bool → Res σ) (done : σ → Bool) (s0 : σ) (l : List Bool) (s : σ) (k : Nat) : Prop := ∃ i, RunN step done s0 l i s k
theorem Run.start : Run step done s0 l s0 0 := ⟨0, .start⟩
theorem Run.next {s s' : σ} {k n : Nat} (h : Run step done s0 l s k) (hd : done s = false) (hs : step s (l.drop k) = .ok s' n) : Run step done s0 l s' (k + n) := by
  obtain ⟨i, h⟩ := h
  exact ⟨i + 1, .next h hd hs⟩
def Stop (step : σ → List Bool → Res σ) (done : σ → Bool) (l : List Bool) (s : σ) (k : Nat) : Prop := done s = false → ∀ s' n, step s (l.drop k) ≠ .ok s' n
theorem RunN.det {i : Nat} {s : σ} {k : Nat} (h : RunN step done s0 l i s k) : ∀ {s2 : σ} {k2 : Nat}, RunN step done s0 l i s2 k2 → s = s2 ∧ k = k2 := by
  induction h with
  | start => intro s2 k2 h2; cases h2; exact ⟨rfl, rfl⟩
  | next h hd hs ih =>
    intro s2 k2 h2
    cases h2 with
    | next h' hd' hs' =>
      obtain ⟨rfl, rfl⟩ := ih h'
      rw [hs] at hs'
      cases hs'
      exact ⟨rfl, rfl⟩
theorem RunN.prefix_ {m : Nat} {s : σ} {k : Nat} (h : RunN step done s0 l m s k) : ∀ {i : Nat}, i < m → ∃ s1 k1, RunN step done s0 l i s1 k1 ∧ ¬ Stop step done l s1 k1 := by
  induction h with
  | start => intro i hi; omega
  | next h hd hs ih =>
    rename_i j s s' k n
    intro i hi
    rcases Nat.lt_or_ge i j with h1 | h1
    · exact ih h1
    · have : i = j := by omega
      subst this
      exact ⟨s, k, h, fun hst => hst hd _ _ hs⟩
theorem RunN.stop_eq {i m : Nat} {s s2 : σ} {k k2 : Nat} (h : RunN step done s0 l i s k) (hs : Stop step done l s k) (h2 : RunN step done s0 l m s2 k2) (hs2 : Stop step done l s2 k2) : i = m ∧ s = s2 ∧ k = k2 := by
  rcases Nat.lt_trichotomy i m with h1 | h1 | h1
  · obtain ⟨s1, k1, h3, h4⟩ := h2.prefix_ h1
    obtain ⟨rfl, rfl⟩ := h.det h3
    exact absurd hs h4
  · subst h1
    exact ⟨rfl, h.det h2⟩
  · obtain ⟨s1, k1, h3, h4⟩ := h.prefix_ h1
    obtain ⟨rfl, rfl⟩ := h2.det h3
    exact absurd hs2 h4
theorem Run.stop_eq {s s2 : σ} {k k2 : Nat} (h : Run step done s0 l s k) (hs : Stop step done l s k) (h2 : Run step done s0 l s2 k2) (hs2 : Stop step done l s2 k2) : s = s2 ∧ k = k2 := by
  obtain ⟨i, h⟩ := h
  obtain ⟨m, h2⟩ := h2
  exact (h.stop_eq hs h2 hs2).2
theorem stop_done {s : σ} {k : Nat} (h : done s = true) : Stop step done l s k := fun h2 => by rw [h] at h2; cases h2
theorem stop_short {s : σ} {k : Nat} (h : step s (l.drop k) = .short) : Stop step done l s k := fun _ s' n h2 => by rw [h] at h2; cases h2
theorem stop_bad {s : σ} {k e : Nat} (h : step s (l.drop k) = .bad e) : Stop step done l s k := fun _ s' n h2 => by rw [h] at h2; cases h2
theorem Run.trans {s : σ} {k : Nat} (h : Run step done s0 l s k) : ∀ {s2 : σ} {k2 : Nat}, Run step done s (l.drop k) s2 k2 → Run step done s0 l s2 (k + k2) := by
  rintro s2 k2 ⟨i, h2⟩
  induction h2 with
  | start => exact h
  | next h2 hd hs ih =>
    rw [List.drop_drop] at hs
    have := Run.next ih hd hs
    rw [Nat.add_assoc] at this
    exact this
end
inductive Out where
  | bad (e : Nat)
  | got (last : List UInt8) (origin sum bits held : Nat)
def BS.held (b : BS) : Nat := match b.row with
  | none => b.last.length
  | some r => r.code.picks.picks.length + r.code.size * r.code.codes.length + b.last.length
def Comes (room : Nat) (l : List Bool) (o : Out) : Prop :=
  ∃ b k, Run bstep BS.done (b0 room) l b k ∧
    ((b.done = true ∧ o = .got b.last b.frm b.sum k (BS.held b)) ∨ (b.done = false ∧ bstep b (l.drop k) = .short ∧ o = .bad 3) ∨ ∃ e, b.done = false ∧ bstep b (l.drop k) = .bad e ∧ o = .bad e)
theorem Comes.det {room : Nat} {l : List Bool} {o o2 : Out} (h : Comes room l o) (h2 : Comes room l o2) : o = o2 := by
  obtain ⟨b, k, hr, h⟩ := h
  obtain ⟨b2, k2, hr2, h2⟩ := h2
  have hs : Stop bstep BS.done l b k := by
    rcases h with h | h | ⟨e, h⟩
    · exact stop_done h.1
    · exact stop_short h.2.1
    · exact stop_bad h.2.1
  have hs2 : Stop bstep BS.done l b2 k2 := by
    rcases h2 with h | h | ⟨e, h⟩
    · exact stop_done h.1
    · exact stop_short h.2.1
    · exact stop_bad h.2.1
  obtain ⟨rfl, rfl⟩ := hr.stop_eq hs hr2 hs2
  rcases h with ⟨h1, rfl⟩ | ⟨h1, h3, rfl⟩ | ⟨e, h1, h3, rfl⟩ <;> rcases h2 with ⟨h4, rfl⟩ | ⟨h4, h6, rfl⟩ | ⟨e2, h4, h6, rfl⟩
  · rfl
  · rw [h1] at h4; cases h4
  · rw [h1] at h4; cases h4
  · rw [h1] at h4; cases h4
  · rfl
  · rw [h3] at h6; cases h6
  · rw [h1] at h4; cases h4
  · rw [h3] at h6; cases h6
  · rw [h3] at h6; cases h6; rfl
def cstepL (x : CS × List Nat) (l : List Bool) : Res (CS × List Nat) := match cstep x.1 l with
  | .short => .short
  | .bad e => .bad e
  | .ok (c, o) n => .ok (c, x.2 ++ o.toList) n
def cdone (x : CS × List Nat) : Bool := x.1.done
abbrev CRun (size : Nat) (l : List Bool) (c : CS) (L : List Nat) (k : Nat) : Prop := Run cstepL cdone (c0 size, []) l (c, L) k
def zone (d : Nat) (p : Int) : List Nat := List.replicate d 0 ++ if 0 < p then [p.toNat] else []
def zstep : Option (ZS × List Nat) → Nat → Option (ZS × List Nat)
  | none, _ => none
  | some (z, pl), s => match zput z s with
    | none => none
    | some (z', d, p) => some (z', pl ++ zone d p)
def zall (z : ZS) (L : List Nat) : Option (ZS × List Nat) := L.foldl zstep (some (z, []))
theorem zall_snoc (z : ZS) (L : List Nat) (s : Nat) : zall z (L ++ [s]) = zstep (zall z L) s := by simp [zall]
def mstep (x : List UInt8 × List UInt8) (p : Nat) : List UInt8 × List UInt8 := (frontB x.1 p, x.2 ++ [x.1.getD p 0])
def mall (o : List UInt8) (pl : List Nat) : List UInt8 × List UInt8 := pl.foldl mstep (o, [])
theorem mall_snoc (o : List UInt8) (pl : List Nat) (p : Nat) : mall o (pl ++ [p]) = mstep (mall o pl) p := by simp [mall]
inductive Says (room : Nat) (l : List Bool) : Out → Prop
  | few (h : l.length < 57) : Says room l (.bad 3)
  | bit (h : ¬ l.length < 57) (hb : l.getD 32 false = true) : Says room l (.bad 25)
  | ushort (h : ¬ l.length < 57) (hb : l.getD 32 false = false) (hu : uread (l.drop 57) = .short) : Says room l (.bad 3)
  | ubad {e : Nat} (h : ¬ l.length < 57) (hb : l.getD 32 false = false) (hu : uread (l.drop 57) = .bad e) : Says room l (.bad e)
  | codes {T : Nat → Bool} {n k : Nat} {c : CS} {L : List Nat} (h : ¬ l.length < 57) (hb : l.getD 32 false = false) (hu : uread (l.drop 57) = .ok T n)
      (hr : CRun ((listed T).length + 2) (l.drop (57 + n)) c L k) (hs : Stop cstepL cdone (l.drop (57 + n)) (c, L) k) (hz : zall (z0 (listed T).length room) L = none) : Says room l (.bad 25)
  | cshort {T : Nat → Bool} {n k : Nat} {c : CS} {L : List Nat} (h : ¬ l.length < 57) (hb : l.getD 32 false = false) (hu : uread (l.drop 57) = .ok T n)
      (hr : CRun ((listed T).length + 2) (l.drop (57 + n)) c L k) (hd : c.done = false) (hs : cstep c ((l.drop (57 + n)).drop k) = .short) (hz : zall (z0 (listed T).length room) L ≠ none) : Says room l (.bad 3)
  | cbad {T : Nat → Bool} {n k e : Nat} {c : CS} {L : List Nat} (h : ¬ l.length < 57) (hb : l.getD 32 false = false) (hu : uread (l.drop 57) = .ok T n)
      (hr : CRun ((listed T).length + 2) (l.drop (57 + n)) c L k) (hd : c.done = false) (hs : cstep c ((l.drop (57 + n)).drop k) = .bad e) (hz : zall (z0 (listed T).length room) L ≠ none) : Says room l (.bad e)
  | orig {T : Nat → Bool} {n k : Nat} {c : CS} {L : List Nat} {z : ZS} {pl : List Nat} (h : ¬ l.length < 57) (hb : l.getD 32 false = false) (hu : uread (l.drop 57) = .ok T n)
      (hr : CRun ((listed T).length + 2) (l.drop (57 + n)) c L k) (hd : c.done = true) (hz : zall (z0 (listed T).length room) L = some (z, pl))
      (ho : (mall (listed T) pl).2.length ≤ valB ((l.drop 33).take 24)) : Says room l (.bad 23)
  | got {T : Nat → Bool} {n k : Nat} {c : CS} {L : List Nat} {z : ZS} {pl : List Nat} (h : ¬ l.length < 57) (hb : l.getD 32 false = false) (hu : uread (l.drop 57) = .ok T n)
      (hr : CRun ((listed T).length + 2) (l.drop (57 + n)) c L k) (hd : c.done = true) (hz : zall (z0 (listed T).length room) L = some (z, pl))
      (ho : ¬ (mall (listed T) pl).2.length ≤ valB ((l.drop 33).take 24)) :
      Says room l (.got (mall (listed T) pl).2 (valB ((l.drop 33).take 24)) (valB (l.take 32)) (57 + n + k) (c.picks.picks.length + c.size * c.codes.length + (mall (listed T) pl).2.length))
section
variable {room sum frm : Nat} {l : List Bool}
abbrev BRun (room : Nat) (l : List Bool) (b : BS) (k : Nat) : Prop := Run bstep BS.done (b0 room) l b k
def mid (room sum frm : Nat) (c : CS) (z : ZS) (ol : List UInt8 × List UInt8) (due place : Nat) (done : Bool) : BS := ⟨room, true, sum, frm, some ⟨c, z, ol.1, due, place⟩, ol.2, done⟩
def Fin (room sum frm : Nat) (l : List Bool) (c : CS) (z : ZS) (ol : List UInt8 × List UInt8) (k : Nat) : Prop :=
  if c.done = true then
    if ol.2.length ≤ frm then ∃ b k', BRun room l b k' ∧ b.done = false ∧ bstep b (l.drop k') = .bad 23
    else BRun room l (mid room sum frm c z ol 0 0 true) k
  else BRun room l (mid room sum frm c z ol 0 0 false) k
theorem fin_end {b : BS} {c : CS} {z : ZS} {ol : List UInt8 × List UInt8} {k n : Nat} (hr : BRun room l b k) (hd : b.done = false) (he : bstep b (l.drop k) = bend (mid room sum frm c z ol 0 0 false) n) :
    Fin room sum frm l c z ol (k + n) := by
  have hw : RS.waits ⟨c, z, ol.1, 0, 0⟩ = false := rfl
  unfold Fin
  unfold bend mid at he
  simp only [hw, Bool.false_eq_true, or_false] at he
  by_cases hc : c.done = true
  · rw [if_pos hc]
    rw [if_neg (by simp [hc])] at he
    by_cases ho : ol.2.length ≤ frm
    · rw [if_pos ho]
      rw [if_pos ho] at he
      exact ⟨b, k, hr, hd, he⟩
    · rw [if_neg ho]
      rw [if_neg ho] at he
      exact hr.next hd he
  · rw [if_neg hc]
    rw [if_pos (by simpa using hc)] at he
    exact hr.next hd he
theorem mid_next {b : BS} {c : CS} {z : ZS} {ol : List UInt8 × List UInt8} {k n d p : Nat} (hw : 0 < d ∨ 0 < p) (hr : BRun room l b k) (hd : b.done = false) (he : bstep b (l.drop k) = bend (mid room sum frm c z ol d p false) n) :
    BRun room l (mid room sum frm c z ol d p false) (k + n) := by
  refine hr.next hd ?_
  rw [he]
  unfold bend mid
  have : RS.waits ⟨c, z, ol.1, d, p⟩ = true := by unfold RS.waits; simp; exact hw
  simp only [this, or_true, if_true]
theorem mid_place {c : CS} {z : ZS} {ol : List UInt8 × List UInt8} {k p : Nat} (hp : 0 < p) (hr : BRun room l (mid room sum frm c z ol 0 p false) k) :
    Fin room sum frm l c z (mstep ol p) k := by
  refine fin_end (n := 0) hr rfl ?_
  unfold bstep mid
  have hw : RS.waits ⟨c, z, ol.1, 0, p⟩ = true := by unfold RS.waits; simp; omega
  simp only [hw, if_true, bnext, RS.next, RS.byte, RS.at_, Nat.lt_irrefl, if_false, mstep, Bool.true_eq_false]
theorem mid_due {c : CS} {z : ZS} {k d p : Nat} : ∀ {ol : List UInt8 × List UInt8}, BRun room l (mid room sum frm c z ol (d + 1) p false) k →
    if 0 < p then BRun room l (mid room sum frm c z ((List.replicate (d + 1) 0).foldl mstep ol) 0 p false) k else Fin room sum frm l c z ((List.replicate (d + 1) 0).foldl mstep ol) k := by
  induction d with
  | zero =>
    intro ol hr
    have hw : RS.waits ⟨c, z, ol.1, 0 + 1, p⟩ = true := by unfold RS.waits; simp
    have he : bstep (mid room sum frm c z ol (0 + 1) p false) (l.drop k) = bend (mid room sum frm c z (mstep ol 0) 0 p false) 0 := by
      conv => lhs; unfold bstep mid
      simp only [hw, if_true, bnext, RS.next, RS.byte, RS.at_, Nat.zero_add, Nat.lt_irrefl, if_false, mstep, Bool.true_eq_false, Nat.zero_lt_one, Nat.sub_self]
      rfl
    split
    · rename_i hp
      exact mid_next (.inr hp) hr rfl he
    · rename_i hp
      have : p = 0 := by omega
      subst this
      exact fin_end hr rfl he
  | succ d ih =>
    intro ol hr
    have hw : RS.waits ⟨c, z, ol.1, d + 1 + 1, p⟩ = true := by unfold RS.waits; simp
    have he : bstep (mid room sum frm c z ol (d + 1 + 1) p false) (l.drop k) = bend (mid room sum frm c z (mstep ol 0) (d + 1) p false) 0 := by
      conv => lhs; unfold bstep mid
      simp only [hw, if_true, bnext, RS.next, RS.byte, RS.at_, mstep, Bool.true_eq_false, if_false, Nat.zero_lt_succ, Nat.add_sub_cancel]
      rfl
    have := ih (mid_next (.inl (Nat.succ_pos _)) hr rfl he)
    rw [List.replicate_succ, List.foldl_cons]
    exact this
theorem told_fin {b : BS} {c : CS} {z : ZS} {ol : List UInt8 × List UInt8} {k n d : Nat} {p : Int} (hr : BRun room l b k) (hd : b.done = false) (he : bstep b (l.drop k) = bend (mid room sum frm c z ol d p.toNat false) n) :
    Fin room sum frm l c z ((zone d p).foldl mstep ol) (k + n) := by
  unfold zone
  rw [List.foldl_append]
  cases d with
  | zero =>
    rw [List.replicate_zero, List.foldl_nil]
    by_cases hp : 0 < p
    · rw [if_pos hp]
      have h := mid_next (d := 0) (p := p.toNat) (.inr (by omega)) hr hd he
      exact mid_place (by omega) h
    · rw [if_neg hp]
      have : p.toNat = 0 := by omega
      rw [this] at he
      exact fin_end hr hd he
  | succ d =>
    have h := mid_next (.inl (Nat.succ_pos d)) hr hd he
    have h2 := mid_due h
    by_cases hp : 0 < p
    · rw [if_pos hp]
      rw [if_pos (by omega)] at h2
      exact mid_place (by omega) h2
    · rw [if_neg hp]
      rw [if_neg (by omega)] at h2
      exact h2
def Link (room sum frm : Nat) (l : List Bool) (syms : List UInt8) (at_ : Nat) (c : CS) (L : List Nat) (k : Nat) : Prop :=
  match zall (z0 syms.length room) L with
  | none => ∃ b k', BRun room l b k' ∧ b.done = false ∧ bstep b (l.drop k') = .bad 25
  | some (z, pl) => Fin room sum frm l c z (mall syms pl) (at_ + k)
theorem link_run {syms : List UInt8} {at_ size : Nat} (h0 : BRun room l (mid room sum frm (c0 size) (z0 syms.length room) (syms, []) 0 0 false) at_) :
    ∀ {i : Nat} {x : CS × List Nat} {k : Nat}, RunN cstepL cdone (c0 size, []) (l.drop at_) i x k → Link room sum frm l syms at_ x.1 x.2 k := by
  intro i x k h
  induction h with
  | start => exact h0
  | next h hd hs ih =>
    rename_i j x x' k n
    obtain ⟨c, L⟩ := x
    unfold Link at ih ⊢
    simp only at ih ⊢
    unfold cdone at hd
    simp only at hd
    unfold cstepL at hs
    simp only at hs
    cases hc : cstep c ((l.drop at_).drop k) with
    | short => rw [hc] at hs; cases hs
    | bad e => rw [hc] at hs; cases hs
    | ok y n' =>
      obtain ⟨c', o⟩ := y
      rw [hc] at hs
      cases hs
      cases hz : zall (z0 syms.length room) L with
      | none =>
        rw [hz] at ih
        simp only at ih
        cases o with
        | none => simp only [Option.toList_none, List.append_nil, hz]; exact ih
        | some s => simp only [Option.toList_some, zall_snoc, hz, zstep]; exact ih
      | some zp =>
        obtain ⟨z, pl⟩ := zp
        rw [hz] at ih
        simp only at ih
        unfold Fin at ih
        rw [if_neg (by rw [hd]; simp)] at ih
        have hb : bstep (mid room sum frm c z (mall syms pl) 0 0 false) (l.drop (at_ + k)) = bsym (mid room sum frm c z (mall syms pl) 0 0 false) ⟨c, z, (mall syms pl).1, 0, 0⟩ (.ok (c', o) n) := by
          rw [← hc, List.drop_drop]
          conv => lhs; unfold bstep mid
          simp only [show RS.waits ⟨c, z, (mall syms pl).1, 0, 0⟩ = false from rfl, Bool.true_eq_false, Bool.false_eq_true, if_false]
          rfl
        cases o with
        | none =>
          simp only [Option.toList_none, List.append_nil, hz]
          have := fin_end (n := n) ih rfl hb
          rw [Nat.add_assoc] at this
          exact this
        | some s =>
          simp only [Option.toList_some, zall_snoc, hz, zstep]
          cases hp : zput z s with
          | none =>
            simp only
            refine ⟨_, _, ih, rfl, ?_⟩
            rw [hb]
            simp only [bsym, btold, hp]
          | some y =>
            obtain ⟨z', d, p⟩ := y
            simp only
            have he : bstep (mid room sum frm c z (mall syms pl) 0 0 false) (l.drop (at_ + k)) = bend (mid room sum frm c' z' (mall syms pl) d p.toNat false) n := by
              rw [hb]
              simp only [bsym, btold, hp]
              rfl
            have := told_fin ih rfl he
            rw [Nat.add_assoc] at this
            unfold mall
            rw [List.foldl_append]
            exact this
theorem says_comes {o : Out} (h : Says room l o) : Comes room l o := by
  have hb0 : (b0 room).done = false := rfl
  have few : ∀ {n : Nat}, ¬ l.length < 57 → l.getD 32 false = false → BRun room l ⟨room, true, valB (l.take 32), valB ((l.drop 33).take 24), none, [], false⟩ 57 := by
    intro n h hb
    have h1 : bstep (b0 room) (l.drop 0) = .ok ⟨room, true, valB (l.take 32), valB ((l.drop 33).take 24), none, [], false⟩ 57 := by
      unfold bstep b0 bhead
      rw [List.drop_zero]
      simp only [if_true]
      rw [if_neg h]
      have e : valB ((l.drop 32).take 1) = 0 := by
        have hg : (l.drop 32)[0]? = some false := by
          rw [List.getElem?_drop, Nat.add_zero, List.getElem?_eq_getElem (by omega)]
          rw [List.getD_eq_getElem?_getD, List.getElem?_eq_getElem (by omega)] at hb
          simpa using hb
        rw [take_snoc (n := 0) hg, List.take_zero, List.nil_append, valB_one]; rfl
      rw [e, if_neg (by decide)]
      rfl
    have := Run.start.next (step := bstep) (done := BS.done) hb0 h1
    simpa using this
  have uses : ∀ {T : Nat → Bool} {n : Nat}, ¬ l.length < 57 → l.getD 32 false = false → uread (l.drop 57) = .ok T n →
      BRun room l (mid room (valB (l.take 32)) (valB ((l.drop 33).take 24)) (c0 ((listed T).length + 2)) (z0 (listed T).length room) (listed T, []) 0 0 false) (57 + n) := by
    intro T n h hb hu
    refine (few (n := n) h hb).next rfl ?_
    unfold bstep
    simp only [Bool.true_eq_false, if_false, hu, buse]
    rfl
  have linked : ∀ {T : Nat → Bool} {n k : Nat} {c : CS} {L : List Nat}, ¬ l.length < 57 → l.getD 32 false = false → uread (l.drop 57) = .ok T n → CRun ((listed T).length + 2) (l.drop (57 + n)) c L k →
      Link room (valB (l.take 32)) (valB ((l.drop 33).take 24)) l (listed T) (57 + n) c L k := by
    intro T n k c L h hb hu hr
    obtain ⟨i, hr⟩ := hr
    exact link_run (uses h hb hu) hr
  have waits : ∀ {c : CS} {z : ZS} {ol : List UInt8 × List UInt8} {k sum frm : Nat}, bstep (mid room sum frm c z ol 0 0 false) (l.drop k) = bsym (mid room sum frm c z ol 0 0 false) ⟨c, z, ol.1, 0, 0⟩ (cstep c (l.drop k)) := by
    intro c z ol k sum frm
    conv => lhs; unfold bstep mid
    simp only [show RS.waits ⟨c, z, ol.1, 0, 0⟩ = false from rfl, Bool.true_eq_false, Bool.false_eq_true, if_false]
    rfl
  cases h with
  | few h =>
    refine ⟨b0 room, 0, .start, .inr (.inl ⟨rfl, ?_, rfl⟩)⟩
    unfold bstep b0 bhead
    simp only [List.drop_zero, if_true, if_pos h]
  | bit h hb =>
    refine ⟨b0 room, 0, .start, .inr (.inr ⟨25, rfl, ?_, rfl⟩)⟩
    unfold bstep b0 bhead
    simp only [List.drop_zero, if_true, if_neg h]
    have e : valB ((l.drop 32).take 1) = 1 := by
      have hg : (l.drop 32)[0]? = some true := by
        rw [List.getElem?_drop, Nat.add_zero, List.getElem?_eq_getElem (by omega)]
        rw [List.getD_eq_getElem?_getD, List.getElem?_eq_getElem (by omega)] at hb
        simpa using hb
      rw [take_snoc (n := 0) hg, List.take_zero, List.nil_append, valB_one]; rfl
    rw [e, if_pos rfl]
  | ushort h hb hu =>
    refine ⟨_, _, few (n := 0) h hb, .inr (.inl ⟨rfl, ?_, rfl⟩)⟩
    unfold bstep
    simp only [Bool.true_eq_false, if_false, hu, buse]
  | ubad h hb hu =>
    refine ⟨_, _, few (n := 0) h hb, .inr (.inr ⟨_, rfl, ?_, rfl⟩)⟩
    unfold bstep
    simp only [Bool.true_eq_false, if_false, hu, buse]
  | codes h hb hu hr hs hz =>
    have := linked h hb hu hr
    unfold Link at this
    rw [hz] at this
    obtain ⟨b, k', h1, h2, h3⟩ := this
    exact ⟨b, k', h1, .inr (.inr ⟨25, h2, h3, rfl⟩)⟩
  | cshort h hb hu hr hd hs hz =>
    have := linked h hb hu hr
    unfold Link at this
    revert this
    cases hq : zall _ _ with
    | none => exact absurd hq hz
    | some y =>
      obtain ⟨z, pl⟩ := y
      simp only
      intro this
      unfold Fin at this
      rw [if_neg (by rw [hd]; simp)] at this
      refine ⟨_, _, this, .inr (.inl ⟨rfl, ?_, rfl⟩)⟩
      rw [waits, ← List.drop_drop, hs]
      rfl
  | cbad h hb hu hr hd hs hz =>
    have := linked h hb hu hr
    unfold Link at this
    revert this
    cases hq : zall _ _ with
    | none => exact absurd hq hz
    | some y =>
      obtain ⟨z, pl⟩ := y
      simp only
      intro this
      unfold Fin at this
      rw [if_neg (by rw [hd]; simp)] at this
      refine ⟨_, _, this, .inr (.inr ⟨_, rfl, ?_, rfl⟩)⟩
      rw [waits, ← List.drop_drop, hs]
      rfl
  | orig h hb hu hr hd hz ho =>
    have := linked h hb hu hr
    unfold Link at this
    rw [hz] at this
    simp only at this
    unfold Fin at this
    rw [if_pos hd, if_pos ho] at this
    obtain ⟨b, k', h1, h2, h3⟩ := this
    exact ⟨b, k', h1, .inr (.inr ⟨23, h2, h3, rfl⟩)⟩
  | got h hb hu hr hd hz ho =>
    have := linked h hb hu hr
    unfold Link at this
    rw [hz] at this
    simp only at this
    unfold Fin at this
    rw [if_pos hd, if_neg ho] at this
    exact ⟨_, _, this, .inl ⟨rfl, rfl⟩⟩
end
end Go.Q20
/- What the document's readers come to, plain. No program in sight. -/
set_option linter.unusedVariables false
set_option linter.unusedSimpArgs false
namespace Go.Q21
open Go.M01 Go.Mb Go.Mp Go.M10 Go.Mc Go.Mz Go.Mk Go.Q20
theorem foldl_val (l : List Bool) : ∀ a : Nat, l.foldl (fun a b => 2 * a + b.toNat) a = a * 2 ^ l.length + valB l := by
  induction l with
  | nil => intro a; simp [valB]
  | cons b l ih =>
    intro a
    have h1 := ih (2 * a + b.toNat)
    have h2 := ih (2 * 0 + b.toNat)
    unfold valB
    rw [List.foldl_cons, List.foldl_cons, h1, h2, List.length_cons, Nat.pow_succ, Nat.add_mul, Nat.add_mul, Nat.mul_comm 2 a, Nat.mul_assoc, Nat.mul_comm 2 (2 ^ l.length)]
    omega
theorem valB_app (a b : List Bool) : valB (a ++ b) = valB a * 2 ^ b.length + valB b := by
  have := foldl_val b (valB a)
  unfold valB at this ⊢
  rw [List.foldl_append]; exact this
theorem valB_cons (b : Bool) (l : List Bool) : valB (b :: l) = b.toNat * 2 ^ l.length + valB l := by
  have := valB_app [b] l
  rwa [valB_one] at this
theorem valB_18 {l : List Bool} (h : 18 ≤ l.length) : valB (l.take 18) / 32768 = valB (l.take 3) ∧ valB (l.take 18) % 32768 = valB ((l.drop 3).take 15) := by
  have e : l.take 18 = l.take 3 ++ (l.drop 3).take 15 := by rw [← List.take_add]
  have hl : ((l.drop 3).take 15).length = 15 := by simp; omega
  have hv := valB_lt ((l.drop 3).take 15)
  rw [hl] at hv
  rw [e, valB_app, hl]
  omega
theorem bitsOf_succ (v j : Nat) : bitsOf v (j + 1) = v.testBit j :: bitsOf v j := by
  apply List.ext_getElem?
  intro i
  cases i with
  | zero => rw [Mb.bitsOf_get _ _ _ (by omega)]; simp
  | succ i =>
    rw [List.getElem?_cons_succ]
    rcases Nat.lt_or_ge i j with h | h
    · rw [Mb.bitsOf_get _ _ _ (by omega), Mb.bitsOf_get _ _ _ h]
      congr 2; omega
    · rw [List.getElem?_eq_none (by rw [bitsOf_len]; omega), List.getElem?_eq_none (by rw [bitsOf_len]; omega)]
theorem bitsOf_val {l : List Bool} {v n : Nat} (hl : l.length = n) (hv : valB l = v) : l = bitsOf v n := by
  subst hl hv
  exact valB_inj (n := l.length) rfl (bitsOf_len _ _) (valB_bitsOf _ _ (valB_lt l)).symm
def inc : List Bool → List Bool × Bool
  | [] => ([], true)
  | b :: s => ((b != (inc s).2) :: (inc s).1, (inc s).2 && b)
theorem inc_len : ∀ s : List Bool, (inc s).1.length = s.length
  | [] => rfl
  | b :: s => by simp [inc, inc_len s]
theorem inc_val : ∀ s : List Bool, valB (inc s).1 + (inc s).2.toNat * 2 ^ s.length = valB s + 1
  | [] => rfl
  | b :: s => by
    have ih := inc_val s
    have hl := inc_len s
    simp only [inc, valB_cons, List.length_cons, hl]
    rw [Nat.pow_succ]
    generalize 2 ^ s.length = p at *
    generalize (inc s).2 = c at *
    generalize valB (inc s).1 = x at *
    cases b <;> cases c <;> simp at * <;> omega
theorem inc_bits {s : List Bool} {v : Nat} (h : s = bitsOf v s.length) (hv : v + 1 < 2 ^ s.length) : (inc s).1 = bitsOf (v + 1) s.length := by
  have h1 := inc_val s
  have h2 := inc_len s
  have e : valB s = v := by
    have := congrArg valB h
    rw [valB_bitsOf _ _ (by omega)] at this
    exact this
  have hlt := valB_lt (inc s).1
  rw [h2] at hlt
  refine bitsOf_val h2 ?_
  cases hc : (inc s).2 with
  | false => rw [hc] at h1; simp at h1; omega
  | true => rw [hc] at h1; simp at h1; omega
theorem bits_pad (v n : Nat) : ∀ k, bitsOf v n ++ List.replicate k false = bitsOf (v * 2 ^ k) (n + k) := by
  intro k
  apply List.ext_getElem?
  intro i
  rcases Nat.lt_or_ge i n with h | h
  · rw [List.getElem?_append_left (by rw [bitsOf_len]; exact h), Mb.bitsOf_get _ _ _ h, Mb.bitsOf_get _ _ _ (by omega)]
    congr 1
    rw [Nat.mul_comm v, Nat.testBit_two_pow_mul]
    rw [decide_eq_true (by omega), Bool.true_and]
    congr 1; omega
  · rw [List.getElem?_append_right (by rw [bitsOf_len]; exact h), bitsOf_len]
    rcases Nat.lt_or_ge i (n + k) with h2 | h2
    · rw [List.getElem?_replicate, if_pos (by omega), Mb.bitsOf_get _ _ _ h2]
      rw [Nat.mul_comm v, Nat.testBit_two_pow_mul, decide_eq_false (by omega), Bool.false_and]
    · rw [List.getElem?_replicate, if_neg (by omega), List.getElem?_eq_none (by rw [bitsOf_len]; omega)]
def LastC (code : List Bool) (n next : Nat) : Prop := (code = [] ∧ next = 0) ∨ ∃ v m, 1 ≤ m ∧ m ≤ n ∧ code = bitsOf v m ∧ (v + 1) * 2 ^ (n - m) = next
theorem LastC.up {code : List Bool} {n next : Nat} (h : LastC code n next) : LastC code (n + 1) (2 * next) := by
  rcases h with ⟨h1, h2⟩ | ⟨v, m, h1, h2, h3, h4⟩
  · exact .inl ⟨h1, by omega⟩
  · refine .inr ⟨v, m, h1, by omega, h3, ?_⟩
    rw [show n + 1 - m = (n - m) + 1 by omega, Nat.pow_succ, ← Nat.mul_assoc, h4]; omega
def nextB (code : List Bool) (n : Nat) : List Bool := if code = [] then List.replicate n false else (inc code).1 ++ List.replicate (n - code.length) false
theorem LastC.next {code : List Bool} {n next : Nat} (h : LastC code n next) (hn : 1 ≤ n) (hlt : next < 2 ^ n) : nextB code n = bitsOf next n ∧ LastC (nextB code n) n (next + 1) := by
  have key : nextB code n = bitsOf next n := by
    unfold nextB
    rcases h with ⟨rfl, rfl⟩ | ⟨v, m, h1, h2, h3, h4⟩
    · rw [if_pos rfl]
      have := bits_pad 0 0 n
      simpa [bitsOf] using this
    · have hl : code.length = m := by rw [h3, bitsOf_len]
      rw [if_neg (by rintro rfl; simp at hl; omega)]
      have hv : v + 1 < 2 ^ m := by
        have hp : 2 ^ n = 2 ^ m * 2 ^ (n - m) := by rw [← Nat.pow_add]; congr 1; omega
        rw [← h4, hp] at hlt
        exact Nat.lt_of_mul_lt_mul_right hlt
      have e := inc_bits (s := code) (v := v) (by rw [hl]; exact h3) (by rw [hl]; exact hv)
      rw [e, hl, bits_pad, h4]
      congr 1; omega
  refine ⟨key, .inr ⟨next, n, hn, Nat.le_refl _, key, by simp⟩⟩
theorem code_lt {lens : List Nat} (hw : Whole lens) {i : Nat} (hi : i < lens.length) : codeN lens i < 2 ^ lens.getD i 0 := by
  have hx : 1 ≤ lens.getD i 0 ∧ lens.getD i 0 ≤ 20 := by
    rw [List.getD_eq_getElem?_getD, List.getElem?_eq_getElem hi]
    exact hw.sized _ (List.getElem_mem hi)
  exact Nat.lt_of_lt_of_le (codeN_lt hi hx.1) (nx_le hw _ hx.2)
def begins (lens : List Nat) (l : List Bool) (i : Nat) : Bool := decide (lens.getD i 0 ≤ l.length ∧ l.take (lens.getD i 0) = codeB lens i)
theorem begins_get {lens : List Nat} {l : List Bool} {i : Nat} (hw : Whole lens) (hi : i < lens.length) (h : begins lens l i = true) : getC lens l = some (i, lens.getD i 0) := by
  unfold begins at h
  rw [decide_eq_true_iff] at h
  exact get_code hw hi h.1 h.2
theorem begins_none {lens : List Nat} {l : List Bool} (hw : Whole lens) (h : ∀ i, i < lens.length → begins lens l i = false) : getC lens l = none := by
  cases hg : getC lens l with
  | none => rfl
  | some x =>
    obtain ⟨i, n⟩ := x
    obtain ⟨h1, h2, h3, h4, h5, h6⟩ := code_get hw hg
    have := h i h1
    unfold begins at this
    rw [decide_eq_false_iff_not, h2] at this
    exact absurd ⟨h5, h6⟩ this
theorem usedT_range (f : Nat → Bool) (l : List Bool) (b : Nat) : ∀ j, usedT ((List.range j).filter f) l b = (decide (b / 16 < j) && f (b / 16) && l.getD (16 * ((List.range (b / 16)).filter f).length + b % 16) false) := by
  intro j
  induction j with
  | zero => simp [usedT]
  | succ j ih =>
    rw [List.range_succ, List.filter_append]
    by_cases hf : f j = true
    · rw [List.filter_cons, if_pos hf, List.filter_nil, usedT_snoc, ih]
      rcases Nat.lt_trichotomy (b / 16) j with h | h | h
      · rw [decide_eq_true h, decide_eq_true (show b / 16 < j + 1 by omega), decide_eq_false (show ¬ b / 16 = j by omega)]
        simp
      · rw [decide_eq_false (show ¬ b / 16 < j by omega), decide_eq_true (show b / 16 < j + 1 by omega), decide_eq_true h, h, hf]
        simp [List.getD_eq_getElem?_getD, List.getElem?_drop]
      · rw [decide_eq_false (show ¬ b / 16 < j by omega), decide_eq_false (show ¬ b / 16 < j + 1 by omega), decide_eq_false (show ¬ b / 16 = j by omega)]
        simp
    · rw [List.filter_cons, if_neg hf, List.filter_nil, List.append_nil, ih]
      rcases Nat.lt_trichotomy (b / 16) j with h | h | h
      · rw [decide_eq_true h, decide_eq_true (show b / 16 < j + 1 by omega)]
      · rw [h, show f j = false by simpa using hf]; simp
      · rw [decide_eq_false (show ¬ b / 16 < j by omega), decide_eq_false (show ¬ b / 16 < j + 1 by omega)]
def cnt (q : List Bool) (i : Nat) : Nat := ((List.range i).filter fun i => q.getD i false).length
theorem cnt_succ (q : List Bool) (i : Nat) : cnt q (i + 1) = cnt q i + (q.getD i false).toNat := by
  unfold cnt
  rw [List.range_succ, List.filter_append, List.length_append]
  congr 1
  rw [List.filter_cons]
  cases q.getD i false <;> rfl
theorem cnt_le (q : List Bool) : ∀ i, i ≤ 16 → cnt q i ≤ (marksL q).length := by
  have mono : ∀ i k, cnt q i ≤ cnt q (i + k) := by
    intro i k
    induction k with
    | zero => exact Nat.le_refl _
    | succ k ih => rw [← Nat.add_assoc, cnt_succ]; omega
  intro i hi
  have := mono i (16 - i)
  rwa [show i + (16 - i) = 16 by omega] at this
theorem cnt_16 (q : List Bool) : cnt q 16 = (marksL q).length := rfl
def usedOf (l : List Bool) : Nat → Bool := usedT (marksL (l.take 16)) (l.drop 16)
theorem used_at {l : List Bool} {i k : Nat} (hi : i < 16) (hk : k < 16) (hl : 16 ≤ l.length) : usedOf l (16 * i + k) = (l.getD i false && l.getD (16 + 16 * cnt (l.take 16) i + k) false) := by
  unfold usedOf marksL
  rw [usedT_range, show (16 * i + k) / 16 = i by omega, show (16 * i + k) % 16 = k by omega, decide_eq_true hi, Bool.true_and]
  congr 1
  · simp [List.getD_eq_getElem?_getD, List.getElem?_take, hi]
  · simp [List.getD_eq_getElem?_getD, List.getElem?_drop, cnt, Nat.add_assoc]
def below (T : Nat → Bool) (b : Nat) : List UInt8 := ((List.range b).filter T).map UInt8.ofNat
theorem below_succ (T : Nat → Bool) (b : Nat) : below T (b + 1) = below T b ++ if T b = true then [UInt8.ofNat b] else [] := by
  unfold below
  rw [List.range_succ, List.filter_append, List.map_append]
  congr 1
  rw [List.filter_cons]
  split <;> rfl
theorem below_256 (T : Nat → Bool) : below T 256 = listed T := rfl
theorem below_len (T : Nat → Bool) (b : Nat) : (below T b).length ≤ b := by
  unfold below
  rw [List.length_map]
  exact Nat.le_trans (List.length_filter_le _ _) (by simp)
theorem below_none {T : Nat → Bool} {b : Nat} : ∀ {n : Nat}, (∀ k, k < n → T (b + k) = false) → below T (b + n) = below T b := by
  intro n
  induction n with
  | zero => intro _; rfl
  | succ n ih =>
    intro h
    rw [← Nat.add_assoc, below_succ, h n (by omega), ih fun k hk => h k (by omega)]
    simp
theorem mem_listed {T : Nat → Bool} {b : Nat} (hb : b < 256) : UInt8.ofNat b ∈ listed T ↔ T b = true := by
  unfold listed
  rw [List.mem_map]
  constructor
  · rintro ⟨x, hx, he⟩
    rw [List.mem_filter, List.mem_range] at hx
    have : x = b := by
      have := congrArg UInt8.toNat he
      rwa [UInt8.toNat_ofNat_of_lt' (by simpa using hx.1), UInt8.toNat_ofNat_of_lt' (by simpa using hb)] at this
    subst this; exact hx.2
  · intro h
    exact ⟨b, by rw [List.mem_filter, List.mem_range]; exact ⟨hb, h⟩, rfl⟩
theorem listed_listed (T : Nat → Bool) : listed (fun b => decide (UInt8.ofNat b ∈ listed T)) = listed T := by
  generalize hS : (fun b => decide (UInt8.ofNat b ∈ listed T)) = S
  unfold listed
  congr 1
  apply List.filter_congr
  intro b hb
  rw [List.mem_range] at hb
  have := mem_listed (T := T) hb
  rw [← hS]
  simp only
  cases hT : T b with
  | true => rw [decide_eq_true (this.2 hT)]
  | false => rw [decide_eq_false (fun h => by rw [this.1 h] at hT; cases hT)]
def valR (row : List Nat) : Nat × Nat := row.foldl (fun x c => (x.1 + x.2 * 2 ^ c, 2 * x.2)) (0, 1)
theorem valR_snoc (row : List Nat) (c : Nat) : valR (row ++ [c]) = ((valR row).1 + (valR row).2 * 2 ^ c, 2 * (valR row).2) := by simp [valR]
theorem snocRec {motive : List Nat → Prop} (l : List Nat) (nil : motive []) (snoc : ∀ t c, motive t → motive (t ++ [c])) : motive l := by
  have : ∀ n (l : List Nat), l.length = n → motive l := by
    intro n
    induction n with
    | zero => intro l h; rw [List.length_eq_zero_iff.1 h]; exact nil
    | succ n ih =>
      intro l h
      have hne : l ≠ [] := by rintro rfl; simp at h
      rw [← List.dropLast_concat_getLast hne]
      exact snoc _ _ (ih _ (by simp [h]))
  exact this _ l rfl
theorem valR_mono (row : List Nat) (t : List Nat) : (valR row).1 ≤ (valR (row ++ t)).1 ∧ (valR row).2 ≤ (valR (row ++ t)).2 := by
  refine snocRec (motive := fun t => (valR row).1 ≤ (valR (row ++ t)).1 ∧ (valR row).2 ≤ (valR (row ++ t)).2) t ?_ fun t c ih => ?_
  · simp
  · rw [← List.append_assoc, valR_snoc]
    constructor
    · exact Nat.le_trans ih.1 (Nat.le_add_right _ _)
    · simp only; omega
theorem valR_take (row : List Nat) (j : Nat) : (valR (row.take j)).1 ≤ (valR row).1 ∧ (valR (row.take j)).2 ≤ (valR row).2 := by
  have := valR_mono (row.take j) (row.drop j)
  rwa [List.take_append_drop] at this
theorem valR_pos (row : List Nat) : 1 ≤ (valR row).2 := by
  refine snocRec (motive := fun t => 1 ≤ (valR t).2) row (by simp [valR]) fun t c ih => ?_
  rw [valR_snoc]; simp only; omega
theorem valR_len (row : List Nat) : row.length ≤ (valR row).1 := by
  refine snocRec (motive := fun row => row.length ≤ (valR row).1) row (by simp [valR]) fun t c ih => ?_
  rw [valR_snoc, List.length_append, List.length_singleton]
  have h2 : 1 ≤ (valR t).2 * 2 ^ c := Nat.mul_pos (valR_pos t) (Nat.two_pow_pos _)
  simp only; omega
structure ZRow (z : ZS) (row : List Nat) : Prop where
  zeros : z.zeros = (valR row).1
  weight : z.weight = (valR row).2
  two : ∀ c ∈ row, c ≤ 1
theorem z0_row (n most : Nat) : ZRow (z0 n most) [] := ⟨rfl, rfl, fun c h => by cases h⟩
abbrev DRun (size : Nat) (l : List Bool) (d : DS) (k : Nat) : Prop := Run dstep DS.done (d0 size) l d k
abbrev PRun (l : List Bool) (p : PS) (k : Nat) : Prop := Run pstep PS.done p0 l p k
theorem DRun.ok {size : Nat} {l : List Bool} {d : DS} {k : Nat} (h : DRun size l d k) : d.Ok ∧ d.size = size := by
  obtain ⟨i, h⟩ := h
  induction h with
  | start => exact ⟨d0_ok size, rfl⟩
  | next h hd hs ih =>
    refine ⟨dstep_ok hs ih.1 hd, ?_⟩
    rw [← ih.2]
    unfold dstep turn at hs
    repeat' split at hs
    all_goals first
      | (cases hs; rfl)
      | cases hs
theorem PRun.ok {l : List Bool} {p : PS} {k : Nat} (h : PRun l p k) : p.Ok := by
  obtain ⟨i, h⟩ := h
  induction h with
  | start => exact p0_ok
  | next h hd hs ih => exact pstep_ok hs ih hd
theorem CRun.ok {size : Nat} {l : List Bool} {c : CS} {L : List Nat} {k : Nat} (h1 : 3 ≤ size) (h2 : size ≤ 258) (h : CRun size l c L k) : c.Ok ∧ c.size = size ∧ (∀ x ∈ L, x < size) := by
  obtain ⟨i, h⟩ := h
  have : ∀ {i : Nat} {x : CS × List Nat} {k : Nat}, RunN cstepL cdone (c0 size, []) l i x k → x.1.Ok ∧ x.1.size = size ∧ (∀ y ∈ x.2, y < size) := by
    intro i x k h
    induction h with
    | start => exact ⟨c0_ok h1 h2, rfl, fun y hy => by cases hy⟩
    | next h hd hs ih =>
      rename_i j x x' k n
      obtain ⟨c, L⟩ := x
      unfold cstepL at hs
      simp only at hs ih
      cases hc : cstep c (l.drop k) with
      | short => rw [hc] at hs; cases hs
      | bad e => rw [hc] at hs; cases hs
      | ok y n' =>
        obtain ⟨c', o⟩ := y
        rw [hc] at hs
        cases hs
        have h3 := cstep_ok hc ih.1
        refine ⟨h3.1, h3.2.1.trans ih.2.1, ?_⟩
        intro y hy
        simp only at hy
        rcases List.mem_append.1 hy with h4 | h4
        · exact ih.2.2 y h4
        · cases o with
          | none => cases h4
          | some s =>
            simp at h4
            subst h4
            have := h3.2.2 y rfl
            rw [ih.2.1] at this
            exact this
  exact this h
theorem picks_lift {size : Nat} {l : List Bool} {p : PS} {k : Nat} (h : PRun l p k) : CRun size l ⟨size, p, d0 size, [], 0, false⟩ [] k := by
  obtain ⟨i, h⟩ := h
  induction h with
  | start => exact .start
  | next h hd hs ih =>
    refine ih.next rfl ?_
    unfold cstepL cstep
    simp only [if_pos hd, hs, withPicks, Option.toList_none, List.append_nil]
theorem picks_stop {size : Nat} {l : List Bool} {p : PS} {k : Nat} (hd : p.done = false) : cstep ⟨size, p, d0 size, [], 0, false⟩ (l.drop k) = withPicks ⟨size, p, d0 size, [], 0, false⟩ (pstep p (l.drop k)) := by
  unfold cstep
  rw [if_pos hd]
def withL (c : CS) (d : DS) : CS := ⟨c.size, c.picks, d, c.codes, c.count, c.done⟩
def addC (c : CS) (t : List Nat) : CS := ⟨c.size, c.picks, d0 c.size, c.codes ++ [t], c.count, c.done⟩
theorem lens_step {c : CS} {d : DS} {q : List Bool} (hp : c.picks.done = true) (ht : c.codes.length < c.picks.t) : cstep (withL c d) q = withLens (withL c d) (dstep d q) := by
  unfold cstep withL
  simp only [hp, ht, if_true, Bool.true_eq_false, if_false]
theorem lens_lift {size : Nat} {l : List Bool} {c : CS} {L : List Nat} {k : Nat} (hp : c.picks.done = true) (ht : c.codes.length < c.picks.t) (hl : c.lens = d0 c.size) (hdn : c.done = false) (hsz : 3 ≤ c.size)
    (hr : CRun size l c L k) {d : DS} {k2 : Nat} (h : DRun c.size (l.drop k) d k2) :
    if d.done = true then
      if share d.lens = 1048576 then CRun size l (addC c d.lens) L (k + k2) else ∃ c' k', CRun size l c' L k' ∧ c'.done = false ∧ cstep c' (l.drop k') = .bad 22
    else CRun size l (withL c d) L (k + k2) := by
  obtain ⟨i, h⟩ := h
  induction h with
  | start =>
    rw [if_neg (by rw [d0_nd hsz]; simp)]
    have : withL c (d0 c.size) = c := by rw [← hl]; rfl
    rw [this]; exact hr
  | next h hd hs ih =>
    rename_i j s s' k2 n
    rw [if_neg (by rw [hd]; simp)] at ih
    rw [List.drop_drop] at hs
    have hst := lens_step (q := l.drop (k + k2)) (d := s) hp ht
    rw [hs] at hst
    unfold withLens at hst
    by_cases hd' : s'.done = true
    · rw [if_pos hd']
      simp only [hd', if_true] at hst
      by_cases hsh : share s'.lens = 1048576
      · rw [if_pos hsh]
        rw [if_pos hsh] at hst
        rw [← Nat.add_assoc]
        refine ih.next (step := cstepL) (done := cdone) hdn ?_
        unfold cstepL
        simp only [hst, Option.toList_none, List.append_nil]
        rfl
      · rw [if_neg hsh]
        rw [if_neg hsh] at hst
        exact ⟨_, _, ih, hdn, hst⟩
    · rw [if_neg hd']
      simp only [show s'.done = false by simpa using hd', Bool.false_eq_true, if_false] at hst
      rw [← Nat.add_assoc]
      refine ih.next (step := cstepL) (done := cdone) hdn ?_
      unfold cstepL
      simp only [hst, Option.toList_none, List.append_nil]
      rfl
theorem lens_stop {l : List Bool} {c : CS} {k k2 : Nat} {d : DS} (hp : c.picks.done = true) (ht : c.codes.length < c.picks.t) (hs : dstep d ((l.drop k).drop k2) = .short) : cstep (withL c d) (l.drop (k + k2)) = .short := by
  rw [lens_step hp ht, ← List.drop_drop, hs]; rfl
theorem lens_bad {l : List Bool} {c : CS} {k k2 e : Nat} {d : DS} (hp : c.picks.done = true) (ht : c.codes.length < c.picks.t) (hs : dstep d ((l.drop k).drop k2) = .bad e) : cstep (withL c d) (l.drop (k + k2)) = .bad e := by
  rw [lens_step hp ht, ← List.drop_drop, hs]; rfl
def readC (c : CS) (s : Nat) : CS := ⟨c.size, c.picks, c.lens, c.codes, c.count + 1, decide (s = c.size - 1)⟩
theorem sym_step {c : CS} {q : List Bool} (hp : c.picks.done = true) (ht : ¬ c.codes.length < c.picks.t) : cstep c q = if c.picks.picks.length ≤ c.count / 50 then .bad 25 else withSymbol c (getC c.table q) := by
  unfold cstep
  rw [if_neg (by rw [hp]; simp), if_neg ht]
theorem sym_next {size : Nat} {l : List Bool} {c : CS} {L : List Nat} {k s n : Nat} (hp : c.picks.done = true) (ht : ¬ c.codes.length < c.picks.t) (hdn : c.done = false) (hg : ¬ c.picks.picks.length ≤ c.count / 50)
    (hr : CRun size l c L k) (hs : getC c.table (l.drop k) = some (s, n)) : CRun size l (readC c s) (L ++ [s]) (k + n) := by
  refine hr.next (step := cstepL) (done := cdone) hdn ?_
  unfold cstepL
  simp only [sym_step hp ht, if_neg hg, hs, withSymbol, Option.toList_some]
  rfl
def Ends (size : Nat) (l : List Bool) (L : List Nat) (r : Res (Nat × List Nat)) : Prop :=
  ∃ c k, CRun size l c L k ∧ ((c.done = true ∧ r = .ok (c.picks.picks.length + c.size * c.codes.length, L) k) ∨ (c.done = false ∧ cstep c (l.drop k) = .short ∧ r = .short) ∨ ∃ e, c.done = false ∧ cstep c (l.drop k) = .bad e ∧ r = .bad e)
theorem cl_short {c : CS} {L : List Nat} {q : List Bool} (h : cstep c q = .short) : cstepL (c, L) q = .short := by unfold cstepL; simp only [h]
theorem cl_bad {c : CS} {L : List Nat} {q : List Bool} {e : Nat} (h : cstep c q = .bad e) : cstepL (c, L) q = .bad e := by unfold cstepL; simp only [h]
theorem ends_stop {l : List Bool} {c : CS} {L : List Nat} {k : Nat} {r : Res (Nat × List Nat)}
    (h : (c.done = true ∧ r = .ok (c.picks.picks.length + c.size * c.codes.length, L) k) ∨ (c.done = false ∧ cstep c (l.drop k) = .short ∧ r = .short) ∨ ∃ e, c.done = false ∧ cstep c (l.drop k) = .bad e ∧ r = .bad e) : Stop cstepL cdone l (c, L) k := by
  rcases h with h | h | ⟨e, h⟩
  · exact stop_done h.1
  · exact stop_short (cl_short h.2.1)
  · exact stop_bad (cl_bad h.2.1)
theorem Ends.det {size : Nat} {l : List Bool} {L L2 : List Nat} {r r2 : Res (Nat × List Nat)} (h : Ends size l L r) (h2 : Ends size l L2 r2) : L = L2 ∧ r = r2 := by
  obtain ⟨c, k, hr, h⟩ := h
  obtain ⟨c2, k2, hr2, h2⟩ := h2
  obtain ⟨he, rfl⟩ := hr.stop_eq (ends_stop h) hr2 (ends_stop h2)
  cases he
  refine ⟨rfl, ?_⟩
  rcases h with ⟨h1, rfl⟩ | ⟨h1, h3, rfl⟩ | ⟨e, h1, h3, rfl⟩ <;> rcases h2 with ⟨h4, rfl⟩ | ⟨h4, h6, rfl⟩ | ⟨e2, h4, h6, rfl⟩
  · rfl
  · rw [h1] at h4; cases h4
  · rw [h1] at h4; cases h4
  · rw [h1] at h4; cases h4
  · rfl
  · rw [h3] at h6; cases h6
  · rw [h1] at h4; cases h4
  · rw [h3] at h6; cases h6
  · rw [h3] at h6; cases h6; rfl
end Go.Q21
/- Codes of a row, places and symbols: what holds of them, plain. No program in sight. -/
set_option linter.unusedVariables false
set_option linter.unusedSimpArgs false
namespace Go.Q22
open Go.M01 Go.Mb Go.Mp Go.M10 Go.Mc Go.Mz Go.Mk Go.Q20 Go.Q21
structure Row1 (size : Nat) (done : Bool) (L : List Nat) : Prop where
  lt : ∀ x ∈ L, x < size
  ne : ∀ j, j + 1 < L.length → L[j]? ≠ some (size - 1)
  last : done = false → ∀ x ∈ L, x ≠ size - 1
  done : done = true → L[L.length - 1]? = some (size - 1) ∧ 0 < L.length
theorem row_of {size : Nat} {l : List Bool} {c : CS} {L : List Nat} {k : Nat} (h1 : 3 ≤ size) (h2 : size ≤ 258) (h : CRun size l c L k) : Row1 size c.done L := by
  obtain ⟨i, h⟩ := h
  have : ∀ {i : Nat} {x : CS × List Nat} {k : Nat}, RunN cstepL cdone (c0 size, []) l i x k → Row1 size x.1.done x.2 := by
    intro i x k h
    induction h with
    | start => exact ⟨fun x h => (by cases h), fun j h => (by simp at h), fun _ x h => (by cases h), fun h => (by cases h)⟩
    | next h hd hs ih =>
      rename_i j x x' k n
      have hok := CRun.ok h1 h2 ⟨j, (show RunN cstepL cdone (c0 size, []) l j (x.1, x.2) k from h)⟩
      obtain ⟨c, L⟩ := x
      unfold cdone at hd
      unfold cstepL at hs
      simp only at hs ih hok hd
      cases hc : cstep c (l.drop k) with
      | short => rw [hc] at hs; cases hs
      | bad e => rw [hc] at hs; cases hs
      | ok y n' =>
        obtain ⟨c', o⟩ := y
        rw [hc] at hs
        cases hs
        cases o with
        | none =>
          simp only [Option.toList_none, List.append_nil]
          rw [code_none hc]; exact ih
        | some s =>
          have h3 := (cstep_ok hc hok.1).2.2 s rfl
          rw [hok.2.1] at h3
          have hcd : c'.done = decide (s = size - 1) := by
            rw [← hok.2.1]
            unfold cstep at hc
            split at hc
            · unfold withPicks at hc
              split at hc <;> cases hc
            · split at hc
              · unfold withLens at hc
                repeat' split at hc
                all_goals cases hc
              · split at hc
                · cases hc
                · unfold withSymbol at hc
                  split at hc
                  · cases hc
                  · cases hc; rfl
          simp only [Option.toList_some]
          rw [hcd]
          have hall := ih.last hd
          refine ⟨fun x hx => ?_, fun j hj => ?_, fun hf x hx => ?_, fun ht => ?_⟩
          · rcases List.mem_append.1 hx with h | h
            · exact ih.lt x h
            · rw [List.mem_singleton] at h; subst h; exact h3
          · rw [List.length_append, List.length_singleton] at hj
            rw [List.getElem?_append_left (by omega)]
            intro he
            exact hall _ (List.mem_of_getElem? he) rfl
          · rcases List.mem_append.1 hx with h | h
            · exact hall x h
            · rw [List.mem_singleton] at h; subst h; simpa using hf
          · have : s = size - 1 := by simpa using ht
            refine ⟨?_, by simp⟩
            rw [List.length_append, List.length_singleton, Nat.add_sub_cancel, List.getElem?_append_right (Nat.le_refl _), Nat.sub_self, this]; rfl
  exact this h
structure ZAll (n room : Nat) (z : ZS) (pl : List Nat) : Prop where
  ok : z.Ok
  en : z.n = n
  em : z.most = room
  lt : ∀ p ∈ pl, p < n
  len : pl.length = z.told
theorem zput_all {n room c d : Nat} {p : Int} {z z' : ZS} {pl : List Nat} (hz : ZAll n room z pl) (hc : c ≤ n + 1) (h : zput z c = some (z', d, p)) : ZAll n room z' (pl ++ zone d p) ∧ z'.done = decide (c = n + 1) ∧ d ≤ room ∧ (p = -1 ∨ 1 ≤ p) := by
  have hok := zput_ok hz.ok h
  have hn := hz.en
  have hm := hz.em
  have h1 := hz.ok.n1
  have hsum := hz.ok.sum
  have hlen := hz.len
  unfold zput at h
  split at h
  · split at h
    · cases h
    · cases h
      refine ⟨⟨hok, hn, hm, fun q hq => ?_, ?_⟩, (decide_eq_false (by omega)).symm, by omega, .inl rfl⟩
      · simp [zone] at hq; exact hz.lt q hq
      · simp [zone]; exact hlen
  · split at h
    · rename_i hc2
      cases h
      refine ⟨⟨hok, hn, hm, fun q hq => ?_, ?_⟩, (decide_eq_true (by omega)).symm, by omega, .inl rfl⟩
      · rcases List.mem_append.1 hq with h | h
        · exact hz.lt q h
        · simp [zone] at h; omega
      · simp [zone]; omega
    · split at h
      · cases h
      · cases h
        rename_i hc1 hc2 hc3
        have hp : (0 : Int) < (c : Int) - 1 := by omega
        refine ⟨⟨hok, hn, hm, fun q hq => ?_, ?_⟩, (decide_eq_false (by omega)).symm, by omega, .inr (by omega)⟩
        · rcases List.mem_append.1 hq with h | h
          · exact hz.lt q h
          · rw [zone, if_pos hp] at h
            rcases List.mem_append.1 h with h | h
            · rw [List.mem_replicate] at h; omega
            · rw [List.mem_singleton] at h; omega
        · rw [zone, if_pos hp]
          simp only [List.length_append, List.length_replicate, List.length_singleton]; omega
theorem z0_all {n room : Nat} (h1 : 1 ≤ n) (h2 : n ≤ 256) (h3 : room ≤ 900000) : ZAll n room (z0 n room) [] := ⟨z0_ok h1 h2 h3, rfl, rfl, fun p h => (by cases h), rfl⟩
structure Upto (n room : Nat) (L : List Nat) (i : Nat) (z : ZS) (pl : List Nat) : Prop where
  all : ZAll n room z pl
  eq : zall (z0 n room) (L.take i) = some (z, pl)
  done : z.done = true ↔ 0 < i ∧ L[i - 1]? = some (n + 1)
theorem upto0 {n room : Nat} (L : List Nat) (h1 : 1 ≤ n) (h2 : n ≤ 256) (h3 : room ≤ 900000) : Upto n room L 0 (z0 n room) [] := ⟨z0_all h1 h2 h3, by simp [zall], ⟨fun h => (by cases h), fun h => absurd h.1 (Nat.lt_irrefl 0)⟩⟩
theorem upto_next {n room i c d : Nat} {p : Int} {L : List Nat} {z z' : ZS} {pl : List Nat} (h : Upto n room L i z pl) (hc : L[i]? = some c) (hl : c ≤ n + 1) (hz : zput z c = some (z', d, p)) : Upto n room L (i + 1) z' (pl ++ zone d p) := by
  have h1 := zput_all h.all hl hz
  refine ⟨h1.1, ?_, ?_⟩
  · rw [take_snoc hc, zall_snoc, h.eq]
    simp only [zstep, hz]
  · rw [h1.2.1, Nat.add_sub_cancel, hc, decide_eq_true_iff]
    exact ⟨fun h => ⟨by omega, by rw [h]⟩, fun h => by simpa using h.2⟩
theorem zall_none {n room : Nat} {z : ZS} {L : List Nat} {i : Nat} : zall z (L.take i) = none → zall z L = none := by
  intro h
  have : ∀ t : List Nat, t.foldl zstep none = none := by
    intro t
    induction t with
    | nil => rfl
    | cons x t ih => rw [List.foldl_cons]; exact ih
  unfold zall at h ⊢
  rw [← List.take_append_drop i L, List.foldl_append, h, this]
theorem upto_bad {n room i c : Nat} {L : List Nat} {z : ZS} {pl : List Nat} (h : Upto n room L i z pl) (hc : L[i]? = some c) (hz : zput z c = none) : zall (z0 n room) L = none := by
  refine zall_none (n := n) (room := room) (i := i + 1) ?_
  rw [take_snoc hc, zall_snoc, h.eq]
  simp only [zstep, hz]
theorem upto_all {n room : Nat} {L : List Nat} {z : ZS} {pl : List Nat} (h : Upto n room L L.length z pl) : zall (z0 n room) L = some (z, pl) := by
  have := h.eq
  rwa [List.take_length] at this
theorem upto_nd {n room i : Nat} {L : List Nat} {z : ZS} {pl : List Nat} {done : Bool} (h : Upto n room L i z pl) (hr : Row1 (n + 2) done L) (hi : i < L.length) : z.done = false := by
  cases hd : z.done with
  | false => rfl
  | true =>
    have := h.done.1 hd
    exact absurd this.2 (hr.ne (i - 1) (by omega))
theorem zput_row {z : ZS} {row : List Nat} {c : Nat} (hr : ZRow z row) (hc : c ≤ 1) : zput z c = if z.most < z.told + (valR (row ++ [c])).1 then none else some (⟨z.n, z.most, z.told, (valR (row ++ [c])).1, (valR (row ++ [c])).2, false⟩, 0, -1) := by
  unfold zput
  rw [if_pos hc, hr.zeros, hr.weight, valR_snoc, Nat.mul_comm (valR row).2 2, Nat.add_assoc]
theorem row_snoc {z : ZS} {row : List Nat} {c : Nat} (hr : ZRow z row) (hc : c ≤ 1) (n most told : Nat) (done : Bool) : ZRow ⟨n, most, told, (valR (row ++ [c])).1, (valR (row ++ [c])).2, done⟩ (row ++ [c]) :=
  ⟨rfl, rfl, fun x hx => by
    rcases List.mem_append.1 hx with h | h
    · exact hr.two x h
    · rw [List.mem_singleton] at h; omega⟩
theorem mall_len {o : List UInt8} : ∀ (pl : List Nat), (∀ p ∈ pl, p < o.length) → (mall o pl).1.length = o.length ∧ (mall o pl).2.length = pl.length := by
  intro pl
  refine snocRec (motive := fun pl => (∀ p ∈ pl, p < o.length) → (mall o pl).1.length = o.length ∧ (mall o pl).2.length = pl.length) pl (fun _ => ⟨rfl, rfl⟩) fun t c ih h => ?_
  have h1 := ih fun x hx => h x (List.mem_append_left _ hx)
  have h2 := h c (by simp)
  rw [mall_snoc, mstep]
  refine ⟨?_, ?_⟩
  · rw [frontB_len (by omega)]; exact h1.1
  · simp [h1.2]
end Go.Q22
/- Steps of a block: each reads a bit, or takes a byte in; and what the whole says. No program in sight. -/
set_option linter.unusedVariables false
set_option linter.unusedSimpArgs false
namespace Go.Q23
open Go.M01 Go.Mb Go.Mp Go.M10 Go.Mc Go.Mz Go.Mk Go.Q20 Go.Q21 Go.Q22
theorem pstep_pos {p p' : PS} {l : List Bool} {n : Nat} (h : pstep p l = .ok p' n) : 1 ≤ n := by
  unfold pstep at h
  repeat' split at h
  all_goals first
    | (cases h; omega)
    | cases h
theorem dstep_pos {p p' : DS} {l : List Bool} {n : Nat} (h : dstep p l = .ok p' n) : 1 ≤ n := by
  unfold dstep turn at h
  repeat' split at h
  all_goals first
    | (cases h; omega)
    | cases h
theorem cstep_pos {c c' : CS} {l : List Bool} {o : Option Nat} {n : Nat} (hc : c.Ok) (h : cstep c l = .ok (c', o) n) : 1 ≤ n := by
  unfold cstep at h
  split at h
  · unfold withPicks at h
    split at h
    · cases h
    · cases h
    · rename_i p k hp
      cases h
      exact pstep_pos hp
  · rename_i hd
    split at h
    · unfold withLens at h
      split at h
      · cases h
      · cases h
      · rename_i d k hdl
        repeat' split at h
        all_goals first
          | (cases h; exact dstep_pos hdl)
          | cases h
    · rename_i hlt
      split at h
      · cases h
      · rename_i hg
        unfold withSymbol at h
        split at h
        · cases h
        · rename_i s k hs
          cases h
          obtain ⟨x, h1, h2, h3, h4, h5⟩ := pick_lt hc (by simpa using hd) hlt hg
          exact (code_get h4 hs).2.2.1
theorem uread_pos {l : List Bool} {T : Nat → Bool} {n : Nat} (h : uread l = .ok T n) : 1 ≤ n ∧ n ≤ l.length ∧ listed T ≠ [] := by
  unfold uread at h
  split at h
  · cases h
  · split at h
    · cases h
    · split at h
      · cases h
      · cases h
        exact ⟨by omega, by omega, by assumption⟩
theorem bend_last {b b' : BS} {k k' : Nat} (h : bend b k = .ok b' k') : k' = k ∧ b'.last = b.last ∧ b'.room = b.room := by
  unfold bend at h
  repeat' split at h
  all_goals first
    | (cases h; exact ⟨rfl, rfl, rfl⟩)
    | cases h
theorem bstep_prog {b b' : BS} {l : List Bool} {n : Nat} (hb : b.Ok) (h : bstep b l = .ok b' n) : b'.room = b.room ∧ ((1 ≤ n ∧ b'.last = b.last) ∨ (n = 0 ∧ b'.last.length = b.last.length + 1)) := by
  unfold bstep at h
  split at h
  · unfold bhead at h
    split at h
    · cases h
    · split at h
      · cases h
      · have := bend_last h
        exact ⟨this.2.2, .inl ⟨by omega, this.2.1⟩⟩
  · split at h
    · unfold buse at h
      split at h
      · cases h
      · cases h
      · rename_i T k hu
        have := bend_last h
        exact ⟨this.2.2, .inl ⟨by have := uread_pos hu; omega, this.2.1⟩⟩
    · rename_i r hr
      split at h
      · unfold bnext at h
        have := bend_last h
        exact ⟨this.2.2, .inr ⟨this.1, by rw [this.2.1]; simp⟩⟩
      · unfold bsym at h
        have hco := (hb.some_ r hr).2.1.code
        split at h
        · cases h
        · cases h
        · rename_i c k hc
          have := bend_last h
          exact ⟨this.2.2, .inl ⟨by have := cstep_pos hco hc; omega, this.2.1⟩⟩
        · rename_i c s k hc
          unfold btold at h
          split at h
          · cases h
          · have := bend_last h
            exact ⟨this.2.2, .inl ⟨by have := cstep_pos hco hc; omega, this.2.1⟩⟩
theorem last_room {b : BS} (hb : b.Ok) : b.last.length ≤ b.room := by
  cases hr : b.row with
  | none => rw [(hb.none_ hr).1]; exact Nat.zero_le _
  | some r =>
    obtain ⟨h1, h2, h3, h4, h5⟩ := hb.some_ r hr
    have := h2.zeros.sum
    omega
section
variable {room : Nat} {l : List Bool}
theorem says_none {T : Nat → Bool} {n : Nat} {L : List Nat} {r : Res (Nat × List Nat)} (h : ¬ l.length < 57) (hb : l.getD 32 false = false) (hu : uread (l.drop 57) = .ok T n)
    (he : Q21.Ends ((listed T).length + 2) (l.drop (57 + n)) L r) (hz : zall (z0 (listed T).length room) L = none) : Says room l (.bad 25) := by
  obtain ⟨c, k, hr, he⟩ := he
  exact .codes h hb hu hr (ends_stop he) hz
theorem says_short {T : Nat → Bool} {n : Nat} {L : List Nat} (h : ¬ l.length < 57) (hb : l.getD 32 false = false) (hu : uread (l.drop 57) = .ok T n)
    (he : Q21.Ends ((listed T).length + 2) (l.drop (57 + n)) L .short) (hz : zall (z0 (listed T).length room) L ≠ none) : Says room l (.bad 3) := by
  obtain ⟨c, k, hr, he | he | ⟨e, he⟩⟩ := he
  · cases he.2
  · exact .cshort h hb hu hr he.1 he.2.1 hz
  · cases he.2.2
theorem says_bad {T : Nat → Bool} {n e : Nat} {L : List Nat} (h : ¬ l.length < 57) (hb : l.getD 32 false = false) (hu : uread (l.drop 57) = .ok T n)
    (he : Q21.Ends ((listed T).length + 2) (l.drop (57 + n)) L (.bad e)) (hz : zall (z0 (listed T).length room) L ≠ none) : Says room l (.bad e) := by
  obtain ⟨c, k, hr, he | he | ⟨e', he⟩⟩ := he
  · cases he.2
  · cases he.2.2
  · cases he.2.2
    exact .cbad h hb hu hr he.1 he.2.1 hz
theorem says_orig {T : Nat → Bool} {n k held : Nat} {L pl : List Nat} {z : ZS} (h : ¬ l.length < 57) (hb : l.getD 32 false = false) (hu : uread (l.drop 57) = .ok T n)
    (he : Q21.Ends ((listed T).length + 2) (l.drop (57 + n)) L (.ok (held, L) k)) (hz : zall (z0 (listed T).length room) L = some (z, pl)) (ho : (mall (listed T) pl).2.length ≤ valB ((l.drop 33).take 24)) : Says room l (.bad 23) := by
  obtain ⟨c, k, hr, he | he | ⟨e', he⟩⟩ := he
  · exact .orig h hb hu hr he.1 hz ho
  · cases he.2.2
  · cases he.2.2
theorem says_got {T : Nat → Bool} {n k held : Nat} {L pl : List Nat} {z : ZS} (h : ¬ l.length < 57) (hb : l.getD 32 false = false) (hu : uread (l.drop 57) = .ok T n)
    (he : Q21.Ends ((listed T).length + 2) (l.drop (57 + n)) L (.ok (held, L) k)) (hz : zall (z0 (listed T).length room) L = some (z, pl)) (ho : ¬ (mall (listed T) pl).2.length ≤ valB ((l.drop 33).take 24)) :
    Says room l (.got (mall (listed T) pl).2 (valB ((l.drop 33).take 24)) (valB (l.take 32)) (57 + n + k) (held + (mall (listed T) pl).2.length)) := by
  obtain ⟨c, k', hr, he | he | ⟨e', he⟩⟩ := he
  · obtain ⟨h1, h2⟩ := he
    cases h2
    exact .got h hb hu hr h1 hz ho
  · cases he.2.2
  · cases he.2.2
theorem ends_row {size : Nat} {L : List Nat} {r : Res (Nat × List Nat)} (h1 : 3 ≤ size) (h2 : size ≤ 258) (he : Q21.Ends size l L r) : ∃ d, Row1 size d L := by
  obtain ⟨c, k, hr, he⟩ := he
  exact ⟨_, row_of h1 h2 hr⟩
theorem ends_done {size k held : Nat} {L : List Nat} (h1 : 3 ≤ size) (h2 : size ≤ 258) (he : Q21.Ends size l L (.ok (held, L) k)) : Row1 size true L := by
  obtain ⟨c, k', hr, he | he | ⟨e', he⟩⟩ := he
  · have := row_of h1 h2 hr
    rwa [he.1] at this
  · cases he.2.2
  · cases he.2.2
theorem zall_lt {n : Nat} {done : Bool} {L : List Nat} {z : ZS} {pl : List Nat} (hr : Row1 (n + 2) done L) (h1 : 1 ≤ n) (h2 : n ≤ 256) (h3 : room ≤ 900000) (hz : zall (z0 n room) L = some (z, pl)) : ZAll n room z pl := by
  have key : ∀ i, i ≤ L.length → ∃ z' pl', Upto n room L i z' pl' := by
    intro i
    induction i with
    | zero => exact fun _ => ⟨_, _, upto0 L h1 h2 h3⟩
    | succ i ih =>
      intro hi
      obtain ⟨z', pl', hu⟩ := ih (by omega)
      have hlt : i < L.length := by omega
      have hg : L[i]? = some L[i] := List.getElem?_eq_getElem hlt
      have hc := hr.lt _ (List.getElem_mem hlt)
      cases hp : zput z' L[i] with
      | none => rw [upto_bad hu hg hp] at hz; cases hz
      | some y =>
        obtain ⟨z2, d, p⟩ := y
        exact ⟨_, _, upto_next hu hg (by omega) hp⟩
  obtain ⟨z', pl', hu⟩ := key L.length (Nat.le_refl _)
  have := upto_all hu
  rw [hz] at this
  cases this
  exact hu.all
end
end Go.Q23
/- Blocks read whole, and what is got of them. -/
set_option linter.unusedVariables false
set_option linter.unusedSimpArgs false
namespace Go.Proofs.YtoomfeeiehfpmaaGreatDoor
open Go Go.Vc
attribute [local irreducible] Go.Vc.Nc Go.Vc.Ld Go.Vc.LdA Go.Vc.St Go.Vc.StA Go.Vc.Fo Go.Vc.Iaa Go.Vc.Ias Go.Vc.Ixs Go.Vc.Ixa Go.Vc.Fd Go.Vc.FdA Go.Vc.Bp Go.Vc.Bb Go.Vc.Bn Go.Vc.Up Go.Vc.Ci Go.Vc.Lns Go.Vc.Lnl Go.Vc.Ex Go.Vc.Sst Go.Vc.Ssl Go.Vc.New Go.Vc.Vif Go.Vc.VJoin Go.Vc.VLoop Go.Vc.KE Go.Vc.Dr Go.Vc.Rk Go.Vc.Cl Go.Vc.Cx Go.Vc.Inv Go.Vc.Be Go.Vc.Cv Go.Vc.Cw Go.Vc.Mf Go.Vc.Sl Go.Vc.Lk Go.Vc.Bd Go.Vc.Bs Go.Vc.Ms Go.Vc.Mm Go.Vc.Mu Go.Vc.Me Go.Vc.Es Go.Vc.Rg Go.Vc.Nx Go.Vc.Ta Go.Vc.Ap Go.Vc.Usd Go.Vc.Ust Go.Vc.Cp Go.Vc.Ln Go.Vc.Bc Go.Vc.Bmin Go.Vc.Bmax Go.Vc.Bdel Go.Vc.Bclr Go.Vc.Pk
namespace B20
open Go.M01 Go.Mb Go.Mp Go.M10 Go.Mc Go.Mz Go.Mk Go.Q20 Go.Q23 Rb
variable {w : World} {L : List HProp} {K : Value → World → Prop} {b rb cb zb mb r : Nat} {B : List UInt8} {d at_ n k : Nat} {s : BS} {x : RS} {lv : Value}
abbrev tGt : Nat := 34
abbrev gotV (t : List UInt8) (o u : Nat) : List Value := [S_ t, nv o, uv u]
theorem got_zero : (zeroP Tryz.prog tGt).cells.toList = gotV [] 0 0 := by kernel_rfl
theorem r_cvb {t e d : TypeId} [hr : Bytes Tryz.prog t e d] (H : Holds w L) (i : Nat) {oa : Option Addr} {xs : List UInt8} {sp : List Value} {l c : Nat} {K : Value → Prop}
    (hi : L[i]? = some (slb bv e oa xs sp)) (hl : l = xs.length) (h : K (.string ⟨xs.toArray⟩)) : Cv Tryz.prog t d (.slice oa l c) w K := by
  have h0 : Cw Tryz.prog t d (.slice oa l c) w (fun v w' => v = .string ⟨xs.toArray⟩ ∧ w' = w) := r_cbs H i hi hl ⟨rfl, rfl⟩
  unfold Cw at h0
  obtain ⟨v, w', hr, rfl, rfl⟩ := h0
  unfold Cv
  exact ⟨_, hr, h⟩
theorem raw_cells2 (H : Holds w (BkR b s :: L)) : ∃ rv oa c L' sp, Holds w (blk b tBk (bkC rv (.slice oa s.last.length c) s) :: slb bv tB oa s.last sp :: L') ∧ (∀ w', Holds w' (blk b tBk (bkC rv (.slice oa s.last.length c) s) :: slb bv tB oa s.last sp :: L') → Holds w' (BkR b s :: L)) := by
  obtain ⟨hs, H⟩ := BkR_open H
  have back : ∀ {oa : Option Addr} {sp : List Value} {w' : World} {rv lv : Value} {L' : List HProp}, lv = .slice oa s.last.length (s.last.length + sp.length) → Holds w' (blk b tBk (bkC rv lv s) :: slb bv tB oa s.last sp :: L') → Holds w' (blk b tBk (bkC rv lv s) :: SL bv tB lv s.last :: L') := by
    intro oa sp w' rv lv L' he H'
    subst he
    exact H'.close 1 rfl
  cases hrow : s.row with
  | none =>
    obtain ⟨lv, H⟩ := Raw_openN hrow H
    obtain ⟨oa, sp, rfl, H1⟩ := H.open 1 rfl
    exact ⟨_, oa, _, L, sp, H1, fun w' H' => BkR_close hs (Raw_closeN hrow (back rfl H'))⟩
  | some x =>
    obtain ⟨rb, cb, zb, mb, lv, H⟩ := Raw_openS hrow H
    obtain ⟨oa, sp, rfl, H1⟩ := H.open 1 rfl
    exact ⟨_, oa, _, _, sp, H1, fun w' H' => BkR_close hs (Raw_closeS hrow (back rfl H'))⟩
theorem Got_done (H : Holds w (BkR b s :: L)) (hd : s.done = true) (k : ∀ w', Same w w' → Holds w' (BkR b s :: L) → K (.agg (gotV s.last s.frm s.sum).toArray) w') : Cl Tryz.prog F.block_Reader_Got #[pt b] w K := by
  refine Tie.block_Reader_Got ?_
  unfold Vcf.block_Reader_Got
  refine r_new H fun gb w1 S1 H1 => ?_
  rw [got_zero] at H1
  refine Done_spec H1.swap ?_
  rw [hd]
  refine r_notT (r_vf ?_)
  refine r_dr H1 fun w2 S2 H2 => ?_
  obtain ⟨rv, oa, c, L', sp, H3, hback⟩ := raw_cells2 H2.swap
  refine r_nc (r_fo0 (r_ld 0 H3 rfl rfl ?_))
  refine r_cvb H3 1 rfl rfl ?_
  refine r_nc (r_fo0 (r_ld 0 H3 rfl rfl ?_))
  refine r_nc (r_fo0 (r_ld 0 H3 rfl rfl ?_))
  refine r_bd (v := .agg (gotV s.last s.frm s.sum).toArray) (by kernel_rfl) ?_
  refine r_stA 0 H2 (vs := gotV s.last s.frm s.sum) rfl (Nat.le_refl 3) rfl rfl fun w4 S4 H4 => ?_
  replace H4 : Holds w4 (blk gb tGt (gotV s.last s.frm s.sum) :: BkR b s :: L) := H4
  refine r_ldA 0 H4 (gotV s.last s.frm s.sum) rfl rfl rfl ?_
  exact k _ ((S1.trans S2).trans S4) H4.drop
theorem Got_none (H : Holds w (BkR b s :: L)) (hd : s.done = false) (k : ∀ w', Same w w' → Holds w' (BkR b s :: L) → K (.agg (gotV [] 0 0).toArray) w') : Cl Tryz.prog F.block_Reader_Got #[pt b] w K := by
  refine Tie.block_Reader_Got ?_
  unfold Vcf.block_Reader_Got
  refine r_new H fun gb w1 S1 H1 => ?_
  rw [got_zero] at H1
  refine Done_spec H1.swap ?_
  rw [hd]
  refine r_notF (r_vt ?_)
  refine r_bd (v := .agg (gotV [] 0 0).toArray) (by kernel_rfl) ?_
  refine r_stA 0 H1 (vs := gotV [] 0 0) rfl (Nat.le_refl 3) rfl rfl fun w4 S4 H4 => ?_
  replace H4 : Holds w4 (blk gb tGt (gotV [] 0 0) :: BkR b s :: L) := H4
  refine r_ldA 0 H4 (gotV [] 0 0) rfl rfl rfl ?_
  exact k _ (S1.trans S4) H4.drop
def cellN (w : World) (b i : Nat) : Nat := match w.cell? ⟨b, i, none⟩ with
  | some (.int _ n) => n.toNat
  | some (.slice _ l _) => l
  | _ => 0
theorem at_of (H : Holds w (RdR r B d at_ :: L)) : cellN w r 2 = at_ := by
  obtain ⟨_, H⟩ := RdR_open H
  unfold cellN
  rw [H.cell 0 rfl 2]
  rfl
theorem last_of (H : Holds w (BkR b s :: L)) : cellN w b 5 = s.last.length := by
  obtain ⟨rv, oa, c, L', sp, H, _⟩ := raw_cells2 H
  unfold cellN
  rw [H.cell 0 rfl 5]
  rfl
theorem Read_spec {room : Nat} (H : Holds w (RdR r B d at_ :: L)) (h1 : 5 ≤ room) (h2 : room ≤ 900000)
    (kb : ∀ e, Q20.Comes room (rest B at_) (.bad e) → ∀ w', Same w w' → Holds w' (RdR r B d at_ :: L) → K (.tuple #[.agg (gotV [] 0 0).toArray, nv e]) w')
    (k : ∀ last o u n held, Q20.Comes room (rest B at_) (.got last o u n held) → ∀ w', Same w w' → Holds w' (RdR r B d (at_ + n) :: L) → K (.tuple #[.agg (gotV last o u).toArray, iv 0]) w') :
    Cl Tryz.prog F.block_Read #[pt r, nv room] w K := by
  refine Tie.block_Read ?_
  unfold Vcf.block_Read
  have hf := (RdR_open H).1
  refine r_new H fun gb w1 S1 H1 => ?_
  rw [got_zero] at H1
  refine r_bnSF (r_vf ?_)
  refine NewReader_spec H1 h1 h2 fun b w2 S2 H2 => ?_
  refine r_ex20 (r_ex21 ?_)
  refine r_neq (r_vfN rfl ?_)
  replace H2 : Holds w2 (BkR b (b0 room) :: RdR r B d at_ :: blk gb tGt (gotV [] 0 0) :: L) := (by have h_ := Holds.ord 3 [0, 2, 1] H2 rfl; exact h_)
  refine At_spec H2.drop ?_
  have S := S1.trans S2
  clear H H1 S1 S2
  refine r_loop0 (fun w' => ∃ s q, Run bstep BS.done (b0 room) (rest B at_) s q ∧ s.room = room ∧ Same w w' ∧ Holds w' (BkR b s :: RdR r B d (at_ + q) :: blk gb tGt (gotV [] 0 0) :: L))
    (fun w' => (8 * B.length - cellN w' r 2) + (room + 1 - cellN w' b 5)) ⟨b0 room, 0, .start, rfl, S, H2⟩ ?_
  clear H2 S
  rintro _ w3 ⟨s, q, hr, hroom, S, H⟩
  have hok := (BkR_open H).1
  have hlr := last_room hok
  have hm1 := at_of H.drop
  have hm2 := last_of H
  have hf2 := (RdR_open H.drop).1
  refine Done_spec H ?_
  cases hd : s.done with
  | true =>
    refine r_notT (r_vf ?_)
    refine Got_done H hd fun w4 S4 H4 => ?_
    refine r_stA 2 H4 (vs := gotV s.last s.frm s.sum) rfl (Nat.le_refl 3) rfl rfl fun w5 S5 H5 => ?_
    replace H5 : Holds w5 (BkR b s :: RdR r B d (at_ + q) :: blk gb tGt (gotV s.last s.frm s.sum) :: L) := H5
    refine r_ldA 2 H5 (gotV s.last s.frm s.sum) rfl rfl rfl ?_
    exact k _ _ _ _ _ ⟨s, q, hr, .inl ⟨hd, rfl⟩⟩ _ ((S.trans S4).trans S5) (Holds.dropAt (Holds.dropAt H5 2) 0)
  | false =>
    refine r_notF (r_vt ?_)
    refine Step_spec H hd fun e w4 S4 hA => ?_
    have hrd : (rest B at_).drop q = rest B (at_ + q) := rest_drop B at_ q
    cases hx : bstep s (rest B (at_ + q)) with
    | short =>
      rw [hx] at hA
      obtain ⟨rfl, H4⟩ := hA
      refine r_neq (r_vtN (by decide) ?_)
      refine Seek_spec (p := at_) H4.drop hf.1 hf.2.1 fun w5 S5 H5 => ?_
      refine r_bd (v := .agg (gotV [] 0 0).toArray) (by kernel_rfl) ?_
      refine r_stA 1 H5 (vs := gotV [] 0 0) rfl (Nat.le_refl 3) rfl rfl fun w6 S6 H6 => ?_
      replace H6 : Holds w6 (RdR r B d at_ :: blk gb tGt (gotV [] 0 0) :: L) := H6
      refine r_ldA 1 H6 (gotV [] 0 0) rfl rfl rfl ?_
      exact kb 3 ⟨s, q, hr, .inr (.inl ⟨hd, by rw [hrd]; exact hx, rfl⟩)⟩ _ (((S.trans S4).trans S5).trans S6) (Holds.dropAt H6 1)
    | bad c =>
      have hcb := bstep_bad hx
      rw [hx] at hA
      obtain ⟨rfl, q', H4⟩ := hA
      refine r_neq (r_vtN (by omega) ?_)
      refine Seek_spec (p := at_) H4.drop hf.1 hf.2.1 fun w5 S5 H5 => ?_
      refine r_bd (v := .agg (gotV [] 0 0).toArray) (by kernel_rfl) ?_
      refine r_stA 1 H5 (vs := gotV [] 0 0) rfl (Nat.le_refl 3) rfl rfl fun w6 S6 H6 => ?_
      replace H6 : Holds w6 (RdR r B d at_ :: blk gb tGt (gotV [] 0 0) :: L) := H6
      refine r_ldA 1 H6 (gotV [] 0 0) rfl rfl rfl ?_
      exact kb c ⟨s, q, hr, .inr (.inr ⟨c, hd, by rw [hrd]; exact hx, rfl⟩)⟩ _ (((S.trans S4).trans S5).trans S6) (Holds.dropAt H6 1)
    | ok s' n =>
      rw [hx] at hA
      obtain ⟨rfl, H4⟩ := hA
      refine r_neq (r_vfN rfl ?_)
      have hp := bstep_prog hok hx
      have hf4 := (RdR_open H4.drop).1
      have hm3 := at_of H4.drop
      have hm4 := last_of H4
      have hok4 := (BkR_open H4).1
      have hlr4 := last_room hok4
      refine r_ke ⟨⟨s', q + n, hr.next hd (by rw [hrd]; exact hx), by rw [hp.1]; exact hroom, S.trans S4, by rw [← Nat.add_assoc]; exact H4⟩, ?_⟩
      show (8 * B.length - cellN w4 r 2) + (room + 1 - cellN w4 b 5) < (8 * B.length - cellN w3 r 2) + (room + 1 - cellN w3 b 5)
      rw [hm1, hm2, hm3, hm4]
      rw [hp.1] at hlr4
      rcases hp.2 with ⟨h3, h4⟩ | ⟨h3, h4⟩
      · rw [h4]; omega
      · omega
end B20
end Go.Proofs.YtoomfeeiehfpmaaGreatDoor
/- Chapter 18: the inverter's methods, each once. -/
set_option linter.unusedVariables false
set_option linter.unusedSimpArgs false
namespace Go.Proofs.YtoomfeeiehfpmaaGreatDoor
open Go Go.Vc
attribute [local irreducible] Go.Vc.Nc Go.Vc.Ld Go.Vc.LdA Go.Vc.St Go.Vc.StA Go.Vc.Fo Go.Vc.Iaa Go.Vc.Ias Go.Vc.Ixs Go.Vc.Ixa Go.Vc.Fd Go.Vc.FdA Go.Vc.Bp Go.Vc.Bb Go.Vc.Bn Go.Vc.Up Go.Vc.Ci Go.Vc.Lns Go.Vc.Lnl Go.Vc.Ex Go.Vc.Sst Go.Vc.Ssl Go.Vc.New Go.Vc.Vif Go.Vc.VJoin Go.Vc.VLoop Go.Vc.KE Go.Vc.Dr Go.Vc.Rk Go.Vc.Cl Go.Vc.Cx Go.Vc.Inv Go.Vc.Be Go.Vc.Cv Go.Vc.Cw Go.Vc.Mf Go.Vc.Sl Go.Vc.Lk Go.Vc.Bd Go.Vc.Bs Go.Vc.Ms Go.Vc.Mm Go.Vc.Mu Go.Vc.Me Go.Vc.Es Go.Vc.Rg Go.Vc.Nx Go.Vc.Ta Go.Vc.Ap Go.Vc.Usd Go.Vc.Ust Go.Vc.Cp Go.Vc.Ln Go.Vc.Bc Go.Vc.Bmin Go.Vc.Bmax Go.Vc.Bdel Go.Vc.Bclr Go.Vc.Pk

instance : Row Tryz.prog 69 3 (.int .i64 0) := ⟨by kernel_rfl, ⟨Tryz.t3, by kernel_rfl, by kernel_rfl, by decide, by kernel_rfl⟩, rfl⟩
instance : Row Tryz.prog 63 5 (.int .u8 0) := ⟨by kernel_rfl, ⟨Tryz.t5, by kernel_rfl, by kernel_rfl, by decide, by kernel_rfl⟩, rfl⟩
instance : Bytes Tryz.prog 63 5 9 := ⟨by kernel_rfl, by kernel_rfl, by kernel_rfl⟩

namespace U18
open Go.M18
abbrev tI : Nat := 3
abbrev tB : Nat := 5

def invC (last : ByteArray) (next : List Nat) (links : Value) (at_ : Nat) (out : Value) (steps : Nat) : List Value :=
  .string last :: (next.map nv ++ [links, nv at_, out, nv steps])

section
variable {last : ByteArray} {next : List Nat} {links out : Value} {at_ steps : Nat} (hn : next.length = 256)
include hn
theorem c257 : (invC last next links at_ out steps)[257]? = some links := by simp [invC, hn]
theorem c258 : (invC last next links at_ out steps)[258]? = some (nv at_) := by simp [invC, hn]
theorem c259 : (invC last next links at_ out steps)[259]? = some out := by simp [invC, hn]
theorem c260 : (invC last next links at_ out steps)[260]? = some (nv steps) := by simp [invC, hn]
theorem cnx {j n : Nat} (h : next[j]? = some n) : (invC last next links at_ out steps)[1 + j]? = some (nv n) := by
  have hj : j < 256 := by rw [← hn]; exact (List.getElem?_eq_some_iff.1 h).1
  unfold invC
  rw [Nat.add_comm 1 j, List.getElem?_cons_succ, List.getElem?_append_left (by simpa [hn] using hj), List.getElem?_map, h]
  rfl
theorem clen : (invC last next links at_ out steps).length = 261 := by simp [invC, hn]
theorem s258 (n : Nat) : (invC last next links at_ out steps).set 258 (nv n) = invC last next links n out steps := by simp [invC, hn, List.set_append]
theorem s259 (v : Value) : (invC last next links at_ out steps).set 259 v = invC last next links at_ v steps := by simp [invC, hn, List.set_append]
theorem s260 (n : Nat) : (invC last next links at_ out steps).set 260 (nv n) = invC last next links at_ out n := by simp [invC, hn, List.set_append]
theorem snx {j : Nat} (n : Nat) (hj : j < 256) : (invC last next links at_ out steps).set (1 + j) (nv n) = invC last (next.set j n) links at_ out steps := by
  unfold invC
  rw [Nat.add_comm 1 j, List.set_cons_succ, List.set_append_left _ _ (by simpa [hn] using hj), List.map_set]
end

def InvR (b : Nat) (last : ByteArray) (o s k : Nat) : HProp := fun h => ∃ t lv ov, Sat [blk b t (invC last (nxL last.data.toList s) lv (atK last.data.toList o (s - 2 * last.size)) ov s),
  SL nv tI lv (lnS last.data.toList s), SL bv tB ov ((outK last.data.toList o (s - 2 * last.size)).drop k)] h
theorem InvR_open {b : Nat} {last : ByteArray} {o s k : Nat} {w : World} {L : List HProp} (H : Holds w (InvR b last o s k :: L)) :
    ∃ t lv ov, Holds w (blk b t (invC last (nxL last.data.toList s) lv (atK last.data.toList o (s - 2 * last.size)) ov s) :: SL nv tI lv (lnS last.data.toList s) ::
      SL bv tB ov ((outK last.data.toList o (s - 2 * last.size)).drop k) :: L) := by
  obtain ⟨t, H⟩ := Holds.ex H
  obtain ⟨lv, H⟩ := Holds.ex H
  obtain ⟨ov, H⟩ := Holds.ex H
  exact ⟨t, lv, ov, Holds.unpack H⟩
theorem InvR_close {b : Nat} {last : ByteArray} {o s k t : Nat} {lv ov : Value} {w : World} {L : List HProp} (H : Holds w (blk b t (invC last (nxL last.data.toList s) lv (atK last.data.toList o (s - 2 * last.size)) ov s) :: SL nv tI lv (lnS last.data.toList s) ::
      SL bv tB ov ((outK last.data.toList o (s - 2 * last.size)).drop k) :: L)) : Holds w (InvR b last o s k :: L) :=
  Holds.imp (Holds.pack (A := [_, _, _]) H) fun h hh => ⟨t, lv, ov, hh⟩

variable {w : World} {L : List HProp} {K : Value → World → Prop} {b : Nat}
theorem Done_raw {t : Nat} {last : ByteArray} {next : List Nat} {links out : Value} {at_ steps : Nat} (hn : next.length = 256)
    (H : Holds w (blk b t (invC last next links at_ out steps) :: L)) (hl : last.size ≤ 1000000)
    (k : ∀ w', Same w w' → Holds w' (blk b t (invC last next links at_ out steps) :: L) → K (.bool ((steps : Int) == 3 * (last.size : Int))) w') :
    Cl Tryz.prog F.unbwt_Inverter_Done #[.pointer (some ⟨b, 0, none⟩)] w K := by
  refine Tie.unbwt_Inverter_Done ?_
  unfold Vcf.unbwt_Inverter_Done
  have S := Same.refl w
  repeat (first | ((with_reducible apply r_ld 0 H); (exact rfl); (with_reducible exact (c260 hn))) | refine r_nc ?_ | refine r_fo0 ?_ | refine r_lns ?_ | refine r_eql ?_ | (with_reducible refine r_bnST ?_) | (with_reducible refine r_vt ?_) | (refine r_mul (by omega) (by omega) ?_) | (refine r_dr H ?_; clear H; intro _ S_ H; replace S := S.trans S_; clear S_) | refine r_ld 0 H rfl rfl ?_)
  exact k _ S H
theorem begins_raw {t : Nat} {last : ByteArray} {next : List Nat} {links out : Value} {at_ steps : Nat} (hn : next.length = 256)
    (H : Holds w (blk b t (invC last next links at_ out steps) :: L)) (hb : ∀ x ∈ next, x ≤ 4000000)
    (k : ∀ w', Same w w' → Holds w' (blk b t (invC last ((List.range 256).map (exB fun j => next.getD j 0)) links at_ out steps) :: L) → K (.tuple #[]) w') :
    Cl Tryz.prog F.unbwt_Inverter_begins #[.pointer (some ⟨b, 0, none⟩)] w K := by
  refine Tie.unbwt_Inverter_begins ?_
  unfold Vcf.unbwt_Inverter_begins
  have S := Same.refl w
  have hsub : ((invC last next links at_ out steps).drop 1).take 256 = next.map nv := by
    unfold invC
    rw [List.drop_succ_cons, List.drop_zero, List.take_append_of_le_length (by simp [hn]), List.take_of_length_le (by simp [hn])]
  repeat (first | refine r_ldA 0 H _ rfl hsub (by simp [hn]) ?_ | refine r_nc ?_ | refine r_fo0 ?_)
  have hex : ∀ j, j ≤ 256 → exB (fun j => next.getD j 0) j ≤ 4000000 * j := by
    intro j
    induction j with
    | zero => intro _; simp [exB]
    | succ j ih =>
      intro hj
      have hget : next[j]? = some (next.getD j 0) := by simp [List.getD, (by omega : j < next.length)]
      have h1 := hb (next.getD j 0) (List.mem_of_getElem? hget)
      have h2 := ih (by omega)
      simp only [exB]; omega
  refine r_loop2 (fun f x w' => ∃ j : Nat, j ≤ 256 ∧ x = nv j ∧ f = nv (exB (fun j => next.getD j 0) j) ∧ Same w w' ∧
      Holds w' (blk b t (invC last ((List.range j).map (exB fun j => next.getD j 0) ++ next.drop j) links at_ out steps) :: L))
    (fun _ x _ => 256 - (RowKit.intOf x).toNat) ⟨0, by omega, rfl, rfl, Same.refl w, by rw [List.range_zero, List.map_nil, List.nil_append, List.drop_zero]; exact H⟩ ?_
  rintro _ _ _ w1 ⟨j, hj, rfl, rfl, S, H⟩
  have hx := hex j hj
  have hlen : ((List.range j).map (exB fun j => next.getD j 0) ++ next.drop j).length = 256 := by simp [hn]; omega
  repeat (first | refine r_lss ?_)
  refine r_vif (fun h => ?_) fun h => ?_
  · have hlt : j < 256 := by have := of_decide_eq_true h; omega
    obtain ⟨x, hgd⟩ : ∃ x, next.getD j 0 = x := ⟨_, rfl⟩
    have hget : next[j]? = some x := by rw [← hgd, List.getD_eq_getElem?_getD, List.getElem?_eq_getElem (by omega)]; rfl
    have hb1 := hb _ (List.mem_of_getElem? hget)
    have hsucc : exB (fun j => next.getD j 0) (j + 1) = exB (fun j => next.getD j 0) j + x := by rw [exB, hgd]
    have h2 := snx (last := last) (links := links) (out := out) (at_ := at_) (steps := steps) hlen (exB (fun j => next.getD j 0) j) hlt
    have h3 := set_mid (exB fun j => next.getD j 0) next j (by omega)
    rw [h3] at h2
    generalize exB (fun j => next.getD j 0) j = y at *
    refine r_ixa1 (nv x) (by omega) (by omega) (by rw [Int.toNat_natCast, List.getElem?_map, hget]; rfl) ?_
    repeat (first | refine r_iaa (by omega) (by omega) ?_ | refine r_nc ?_ | refine r_fo0 ?_)
    refine r_st 0 H rfl (by rw [clen hlen]; simp; omega) rfl fun w2 S2 H2 => ?_
    have S3 := S.trans S2
    rw [Int.toNat_natCast, Nat.mul_one, List.set_cons_zero, h2] at H2
    repeat (first | refine r_ke ?_ | (refine r_add1N (by omega) ?_) | (refine r_addN (by omega) ?_))
    refine ⟨⟨j + 1, by omega, by simp [nv], by rw [hsucc], S3, H2⟩, ?_⟩
    simp [nv, RowKit.intOf]
    try omega
  · have hge : j = 256 := by have := of_decide_eq_false h; omega
    subst hge
    rw [List.drop_of_length_le (by omega), List.append_nil] at H
    exact k _ S H

theorem step_spec {last : ByteArray} {o s k : Nat} (H : Holds w (InvR b last o s k :: L)) (hs : s < 3 * last.size) (hl : last.size ≤ 1000000) (ho : o < last.size) (hk : k ≤ s - 2 * last.size)
    (post : ∀ w', Same w w' → Holds w' (InvR b last o (s + 1) k :: L) → K (.tuple #[]) w') :
    Cl Tryz.prog F.unbwt_Inverter_step #[.pointer (some ⟨b, 0, none⟩)] w K := by
  refine Tie.unbwt_Inverter_step ?_
  unfold Vcf.unbwt_Inverter_step
  obtain ⟨t, lv, ov, H⟩ := InvR_open H
  have S := Same.refl w
  have hll : last.data.toList.length = last.size := by simp
  have hn := nxL_len last.data.toList s
  have hn' := nxL_len last.data.toList (s + 1)
  obtain ⟨q, r, hqr, hr, hq⟩ : ∃ q r, s = q * last.size + r ∧ r < last.size ∧ (q = 0 ∨ q = 1 ∨ q = 2) :=
    ⟨s / last.size, s % last.size, by rw [Nat.mul_comm]; exact (Nat.div_add_mod s last.size).symm, Nat.mod_lt _ (by omega), by
      have := Nat.div_lt_of_lt_mul (show s < last.size * 3 by omega)
      generalize s / last.size = q at this; omega⟩
  have hQ : ((s : Nat) : Int).tdiv (last.size : Int) = (q : Int) := by
    rw [Int.tdiv_eq_ediv_of_nonneg (by omega), hqr]
    have : ((q * last.size + r : Nat) : Int) / (last.size : Int) = (((q * last.size + r) / last.size : Nat) : Int) := by simp
    rw [this, Nat.add_comm, Nat.add_mul_div_right _ _ (by omega), Nat.div_eq_of_lt hr, Nat.zero_add]
  have hR : ((s : Nat) : Int).tmod (last.size : Int) = (r : Int) := by
    rw [Int.tmod_eq_emod_of_nonneg (by omega), hqr]
    have : ((q * last.size + r : Nat) : Int) % (last.size : Int) = (((q * last.size + r) % last.size : Nat) : Int) := by simp
    rw [this, Nat.add_comm, Nat.add_mul_mod_self_right, Nat.mod_eq_of_lt hr]
  repeat (first | ((with_reducible apply r_ld 0 H); (exact rfl); (with_reducible exact (c260 hn))) | refine r_remE hR (by omega) ?_ | refine r_nc ?_ | refine r_fo0 ?_ | refine r_lns ?_ | refine r_ld 0 H rfl rfl ?_)
  refine r_join0 (fun w' => ∃ t lv ov, Same w w' ∧ Holds w' (blk b t (invC last (nxL last.data.toList (s + 1)) lv (atK last.data.toList o (s + 1 - 2 * last.size)) ov s) :: SL nv tI lv (lnS last.data.toList (s + 1)) ::
      SL bv tB ov ((outK last.data.toList o (s + 1 - 2 * last.size)).drop k) :: L)) ?_ ?_
  · rintro _ w1 ⟨t, lv, ov, S, H⟩
    repeat (first | ((with_reducible apply r_ld 0 H); (exact rfl); (with_reducible exact (c260 hn'))) | refine r_nc ?_ | refine r_fo0 ?_ | (refine r_add1N (by omega) ?_))
    refine r_st 0 H rfl (by rw [clen hn']; omega) rfl fun w2 S2 H2 => ?_
    rw [s260 hn', List.set_cons_zero] at H2
    exact post _ (S.trans S2) (InvR_close H2)
  have hbt := fun i => byte_lt last.data.toList i
  have hnx := fun c => nx_le last.data.toList s c
  repeat (first | ((with_reducible apply r_ld 0 H); (exact rfl); (with_reducible exact (c260 hn))) | refine r_quoE hQ (by omega) (by omega) (by omega) ?_ | refine r_nc ?_ | refine r_fo0 ?_ | refine r_eql ?_)
  rcases hq with rfl | rfl | rfl
  · -- counting
    have hrs : r = s := by omega
    subst hrs
    repeat (first | refine r_nc ?_ | refine r_fo0 ?_ | (refine r_ixsN (by omega) ?_) | (refine r_dr H ?_; clear H; intro _ S_ H; replace S := S.trans S_; clear S_) | refine r_ld 0 H rfl rfl ?_ | ((with_reducible refine r_vtE ?h ?_); (case h => omega)))
    have hc := hbt r
    have hnc := hnx (last.data.toList.getD r 0).toNat
    repeat (first | ((with_reducible apply r_ld 0 H); (exact rfl); (with_reducible exact (cnx hn (nxL_get _ _ _ hc)))) | refine r_nc ?_ | refine r_fo0 ?_ | (refine r_add1N (by omega) ?_) | (refine r_iaaN (by omega) ?_))
    refine r_st 0 H rfl (by rw [clen hn]; omega) rfl fun w2 S2 H2 => ?_
    rw [snx hn _ hc, List.set_cons_zero] at H2
    clear H
    have S := S.trans S2
    repeat (first | refine r_eql ?_ | (refine r_sub1N (by omega) (by omega) ?_))
    refine r_vif (fun h => ?_) fun h => ?_
    · have hlast : r + 1 = last.size := by have := of_decide_eq_true h; omega
      refine begins_raw (by rw [List.length_set]; exact hn) H2 ?_ fun w5 S5 H5 => ?_
      · intro x hx
        rcases List.mem_or_eq_of_mem_set hx with h1 | h1
        · obtain ⟨j, hj, hjx⟩ := List.getElem_of_mem h1
          have := nx_le last.data.toList r j
          simp [nxL] at hjx
          omega
        · omega
      · rw [nxL_begin _ _ (by omega)] at H5
        refine r_ke ⟨t, lv, ov, S.trans S5, ?_⟩
        rw [← lnS_low _ _ (by omega), show r + 1 - 2 * last.size = r - 2 * last.size by omega]
        exact H5
    · have hlast : ¬ r + 1 = last.size := by have := of_decide_eq_false h; omega
      rw [nxL_count _ _ (by omega)] at H2
      refine r_ke ⟨t, lv, ov, S, ?_⟩
      rw [← lnS_low _ _ (by omega), show r + 1 - 2 * last.size = r - 2 * last.size by omega]
      exact H2
  · -- linking
    have hrs : s - last.data.toList.length = r := by omega
    repeat (first | refine r_nc ?_ | refine r_fo0 ?_ | refine r_eql ?_ | (refine r_ixsN (by omega) ?_) | (refine r_dr H ?_; clear H; intro _ S_ H; replace S := S.trans S_; clear S_) | refine r_ld 0 H rfl rfl ?_ | ((with_reducible refine r_vtE ?h ?_); (case h => omega)) | ((with_reducible refine r_vfE ?h ?_); (case h => omega)))
    have hc := hbt r
    have hnp := nx_pos last.data.toList s (by omega)
    have hlk := lnS_link last.data.toList s (by omega) (by omega)
    have hnl := nxL_link last.data.toList s (by omega) (by omega)
    have hpl := pos_lt last.data.toList r (by omega)
    rw [hrs] at hnp hlk hnl
    obtain ⟨oa, sp, rfl, H⟩ := H.open 1 rfl
    rw [List.set_cons_succ, List.set_cons_zero] at H
    repeat (first | ((with_reducible apply r_ld 0 H); (exact rfl); (with_reducible exact (cnx hn (nxL_get _ _ _ hc)))) | (refine r_iaaN (by omega) ?_))
    rw [hnp]
    refine r_iasN 1 H rfl (by rw [lnS_len]; exact hpl) (Nat.le_refl _) ?_
    rintro b2 rfl
    refine r_stsl 1 H r rfl (by rw [lnS_len]; exact hpl) rfl rfl fun w2 S2 H2 => ?_
    clear H
    replace S := S.trans S2
    rw [List.set_cons_succ, List.set_cons_zero, hlk] at H2
    have H := H2
    clear H2
    repeat (first | ((with_reducible apply r_ld 0 H); (exact rfl); (with_reducible exact (cnx hn (nxL_get _ _ _ hc)))) | refine r_nc ?_ | refine r_fo0 ?_ | (refine r_add1N (by omega) ?_) | (refine r_iaaN (by omega) ?_) | (refine r_dr H ?_; clear H; intro _ S_ H; replace S := S.trans S_; clear S_))
    have hnc := hnx (last.data.toList.getD r 0).toNat
    repeat (first | fail)
    refine r_st 0 H rfl (by rw [clen hn]; omega) rfl fun w3 S3 H3 => ?_
    rw [snx hn _ hc, List.set_cons_zero, hnl] at H3
    have H4 := H3.close 1 rfl
    rw [List.set_cons_succ, List.set_cons_zero, lnS_len] at H4
    rw [lnS_len] at H4
    rw [show s + 1 - 2 * last.size = s - 2 * last.size by omega]
    exact r_ke ⟨t, _, ov, S.trans S3, H4⟩
  · -- following
    have hlS := lnS_high last.data.toList s (by omega)
    have hlS' := lnS_high last.data.toList (s + 1) (by omega)
    have hnS := nxL_high last.data.toList s (by omega)
    obtain ⟨m, hm⟩ : ∃ m, s - 2 * last.size = m := ⟨_, rfl⟩
    have hm' : s + 1 - 2 * last.size = m + 1 := by omega
    rw [hm, hlS] at H
    rw [hm] at hk
    rw [hm', hlS', ← hnS]
    have ha := atK_lt last.data.toList o (by omega) m
    have ha' := atK_lt last.data.toList o (by omega) (m + 1)
    have hll2 : (links last.data.toList).length = last.size := by rw [← hll]; exact lnk_len _ _
    obtain ⟨oa, sp, rfl, H⟩ := H.open 1 rfl
    rw [List.set_cons_succ, List.set_cons_zero] at H
    repeat (first | ((with_reducible apply r_ld 0 H); (exact rfl); (with_reducible exact (c257 hn))) | ((with_reducible apply r_ld 0 H); (exact rfl); (with_reducible exact (c258 hn))) | refine r_nc ?_ | refine r_fo0 ?_ | refine r_eql ?_ | (refine r_dr H ?_; clear H; intro _ S_ H; replace S := S.trans S_; clear S_) | ((with_reducible refine r_vfE ?h ?_); (case h => omega)))
    refine r_iasN 1 H rfl (by omega) (Nat.le_refl _) ?_
    rintro b2 rfl
    have hat : (links last.data.toList)[atK last.data.toList o m]? = some (atK last.data.toList o (m + 1)) := by
      rw [atK, List.getD_eq_getElem?_getD, List.getElem?_eq_getElem (by omega)]; rfl
    refine r_ldsl 1 H rfl hat ?_
    repeat (first | refine r_nc ?_ | refine r_fo0 ?_)
    refine r_st 0 H rfl (by rw [clen hn]; omega) rfl fun w2 S2 H2 => ?_
    rw [s258 hn, List.set_cons_zero] at H2
    clear H
    have H := H2
    clear H2
    replace S := S.trans S2
    obtain ⟨oa, sp, rfl, H⟩ := H.open 2 rfl
    rw [List.set_cons_succ, List.set_cons_succ, List.set_cons_zero] at H
    repeat (first | ((with_reducible apply r_ld 0 H); (exact rfl); (with_reducible exact (c258 hn))) | ((with_reducible apply r_ld 0 H); (exact rfl); (with_reducible exact (c259 hn))) | refine r_nc ?_ | refine r_fo0 ?_ | (refine r_ixsN (by omega) ?_) | (refine r_dr H ?_; clear H; intro _ S_ H; replace S := S.trans S_; clear S_) | refine r_ld 0 H rfl rfl ?_)
    have hol : (outK last.data.toList o m).length = m := outK_len _ _ _
    have hout : (outK last.data.toList o m).drop k ++ [last.data.toList.getD (atK last.data.toList o (m + 1)) 0] = (outK last.data.toList o (m + 1)).drop k := by
      rw [outK, List.drop_append_of_le_length (by omega)]
    refine r_bs1 H rfl fun b3 w3 S3 H3 => ?_
    replace S := S.trans S3
    refine r_rk (r_ld 1 H3 rfl (c259 hn) rfl) ?_
    refine r_ap (f := bv) (ys := [last.data.toList.getD (atK last.data.toList o (m + 1)) 0]) H3 3 0 rfl rfl rfl rfl rfl rfl (fun _ => rfl) (by simp; omega) (by simp) fun oa' sp' w4 S4 H4 => ?_
    replace S := S.trans S4
    rw [hout, List.set_cons_succ, List.set_cons_succ, List.set_cons_succ, List.set_cons_zero] at H4
    have hlen : ((outK last.data.toList o m).drop k).length + [last.data.toList.getD (atK last.data.toList o (m + 1)) 0].length = ((outK last.data.toList o (m + 1)).drop k).length := by
      rw [← hout, List.length_append]
    rw [hlen]
    clear H H3
    have H := H4.drop
    clear H4
    repeat (first | refine r_nc ?_ | refine r_fo0 ?_)
    refine r_st 0 H rfl (by rw [clen hn]; omega) rfl fun w5 S5 H5 => ?_
    rw [s259 hn, List.set_cons_zero] at H5
    have H6 := (H5.close 1 rfl)
    rw [List.set_cons_succ, List.set_cons_zero] at H6
    have H7 := (H6.close 2 rfl)
    rw [List.set_cons_succ, List.set_cons_succ, List.set_cons_zero] at H7
    exact r_ke ⟨t, _, _, S.trans S5, H7⟩

theorem Done_spec {last : ByteArray} {o s k : Nat} (H : Holds w (InvR b last o s k :: L)) (hl : last.size ≤ 1000000)
    (post : ∀ w', Same w w' → Holds w' (InvR b last o s k :: L) → K (.bool ((s : Int) == 3 * (last.size : Int))) w') :
    Cl Tryz.prog F.unbwt_Inverter_Done #[.pointer (some ⟨b, 0, none⟩)] w K := by
  obtain ⟨t, lv, ov, H⟩ := InvR_open H
  exact Done_raw (nxL_len _ _) H hl fun w' S H => post w' S (InvR_close H)
theorem InvR_cell {last : ByteArray} {o s k : Nat} (H : Holds w (InvR b last o s k :: L)) : w.cell? ⟨b, 260, none⟩ = some (nv s) := by
  obtain ⟨t, lv, ov, H⟩ := InvR_open H
  exact (H.cell 0 rfl 260).trans (c260 (nxL_len _ _))
theorem Step_spec {last : ByteArray} {o s k : Nat} {budget : Int} (H : Holds w (InvR b last o s k :: L)) (hs : s ≤ 3 * last.size) (hl : last.size ≤ 1000000) (ho : o < last.size) (hk : k ≤ s - 2 * last.size)
    (post : ∀ w', Same w w' → Holds w' (InvR b last o (s + min budget.toNat (3 * last.size - s)) k :: L) → K (nv (min budget.toNat (3 * last.size - s))) w') :
    Cl Tryz.prog F.unbwt_Inverter_Step #[.pointer (some ⟨b, 0, none⟩), .int .i64 budget] w K := by
  refine Tie.unbwt_Inverter_Step ?_
  unfold Vcf.unbwt_Inverter_Step
  have hn := nxL_len last.data.toList s
  have S := Same.refl w
  obtain ⟨t, lv, ov, H0⟩ := InvR_open H
  have H' := H
  clear H
  have H := H0
  repeat (first | ((with_reducible apply r_ld 0 H); (exact rfl); (with_reducible exact (c260 hn))) | refine r_nc ?_ | refine r_fo0 ?_ | (with_reducible refine r_bnSF ?_) | (with_reducible refine r_vf ?_))
  clear H H0
  refine r_loop0 (fun w' => ∃ s', s ≤ s' ∧ s' ≤ 3 * last.size ∧ s' - s ≤ budget.toNat ∧ Same w w' ∧ Holds w' (InvR b last o s' k :: L))
    (fun w' => match w'.cell? ⟨b, 260, none⟩ with | some (.int _ n) => 3 * last.size - n.toNat | _ => 0) ⟨s, by omega, hs, by omega, S, H'⟩ ?_
  rintro _ w1 ⟨s', h1, h2, h3, S, H⟩
  have hc := InvR_cell H
  refine r_join1 (fun x w' => ∃ c : Bool, x = .bool c ∧ (c = true ↔ s' < 3 * last.size ∧ ((s' - s : Nat) : Int) < budget) ∧ Same w w' ∧ Holds w' (InvR b last o s' k :: L)) ?_ ?_
  · rintro _ _ w2 ⟨c, rfl, hc2, S, H⟩
    refine r_vif (fun h => ?_) fun h => ?_
    · have h4 := hc2.1 h
      refine step_spec H h4.1 hl ho (by omega) fun w3 S3 H3 => r_ke ⟨⟨s' + 1, by omega, by omega, by omega, S.trans S3, H3⟩, ?_⟩
      rw [hc, InvR_cell H3]
      simp only [Int.toNat_natCast]
      omega
    · have h4 : ¬ (s' < 3 * last.size ∧ ((s' - s : Nat) : Int) < budget) := fun h5 => by rw [hc2.2 h5] at h; cases h
      obtain ⟨t, lv, ov, H0⟩ := InvR_open H
      have H' := H
      clear H
      have H := H0
      have hn := nxL_len last.data.toList s'
      repeat (first | ((with_reducible apply r_ld 0 H); (exact rfl); (with_reducible exact (c260 hn))) | refine r_nc ?_ | refine r_fo0 ?_ | (refine r_sub (by omega) (by omega) ?_))
      have e : s' - s = min budget.toNat (3 * last.size - s) := by omega
      have := post w2 S (by rw [← e, show s + (s' - s) = s' by omega]; exact H')
      rw [← e] at this
      rw [show ((s' : Int) - (s : Int)) = ((s' - s : Nat) : Int) by omega]
      exact this
  · refine Done_spec H hl fun w3 S3 H3 => ?_
    replace S := S.trans S3
    clear H
    repeat (first | refine r_not ?_)
    refine r_ifNE (fun h => ?_) fun h => ?_
    · obtain ⟨t, lv, ov, H0⟩ := InvR_open H3
      have H := H0
      have hn := nxL_len last.data.toList s'
      repeat (first | ((with_reducible apply r_ld 0 H); (exact rfl); (with_reducible exact (c260 hn))) | refine r_nc ?_ | refine r_fo0 ?_ | refine r_ke ?_ | refine r_lss ?_ | (refine r_sub (by omega) (by omega) ?_))
      refine ⟨_, rfl, ?_, S, H3⟩
      rw [decide_eq_true_iff]
      constructor
      · intro h; exact ⟨by omega, by omega⟩
      · intro h; omega
    · refine r_ke ⟨false, rfl, ?_, S, H3⟩
      constructor
      · intro h; cases h
      · intro h; omega
theorem New_spec {last : ByteArray} {origin : Int} (H : Holds w L)
    (p1 : last.size = 0 → K (.tuple #[.pointer none, .int .i64 1]) w)
    (p2 : 900000 < last.size → K (.tuple #[.pointer none, .int .i64 2]) w)
    (p3 : 0 < last.size → last.size ≤ 900000 → (origin < 0 ∨ (last.size : Int) ≤ origin) → K (.tuple #[.pointer none, .int .i64 23]) w)
    (p4 : ∀ (o : Nat) b w', origin = o → o < last.size → last.size ≤ 900000 → Same w w' → Holds w' (InvR b last o 0 0 :: L) → K (.tuple #[.pointer (some ⟨b, 0, none⟩), .int .i64 0]) w') :
    Cl Tryz.prog F.unbwt_New #[.string last, .int .i64 origin] w K := by
  refine Tie.unbwt_New ?_
  unfold Vcf.unbwt_New
  have S := Same.refl w
  repeat (first | refine r_seq0 ?_)
  refine r_ifD p1 fun h1 => ?_
  repeat (first | refine r_lns ?_ | refine r_gtr ?_)
  refine r_ifD (fun h => p2 (by omega)) fun h2 => ?_
  have hl : last.size ≤ 900000 := by omega
  refine r_join1 (fun x w' => w' = w ∧ ∃ c : Bool, x = .bool c ∧ (c = true ↔ origin < 0 ∨ (last.size : Int) ≤ origin)) ?_ ?_
  · rintro _ _ _ ⟨rfl, c, rfl, hc⟩
    refine r_vif (fun h => p3 (by omega) hl (hc.1 h)) fun h => ?_
    have h3 : ¬ (origin < 0 ∨ (last.size : Int) ≤ origin) := fun h5 => by rw [hc.2 h5] at h; cases h
    obtain ⟨o, rfl⟩ : ∃ o : Nat, origin = o := ⟨origin.toNat, by omega⟩
    repeat (first | refine r_lns ?_)
    refine r_ms H (f := nv) (x := 0) rfl (by omega) (by omega) fun b2 w2 S2 H2 => ?_
    rw [Int.toNat_natCast] at H2 ⊢
    refine r_bd (v := .agg (invC last (List.replicate 256 0) (.slice (some ⟨b2, 0, none⟩) last.size last.size) o (.slice none 0 0) 0).toArray) (by kernel_rfl) ?_
    refine r_new H2 fun b w3 S3 H3 => ?_
    have H4 := H3.close 1 (f := nv) (by rfl)
    rw [List.set_cons_succ, List.set_cons_zero, List.length_replicate, List.length_nil, Nat.add_zero] at H4
    have H5 := ((H4.nilSL bv tB).swap).front 2 rfl
    have hll : last.data.toList.length = last.size := by simp
    refine p4 o b w3 rfl (by omega) hl (S2.trans S3) (InvR_close (t := 215) (lv := .slice (some ⟨b2, 0, none⟩) last.size last.size) (ov := .slice none 0 0) ?_)
    have e1 : nxL last.data.toList 0 = List.replicate 256 0 := by
      unfold nxL
      rw [List.eq_replicate_iff]
      refine ⟨by simp, fun x hx => ?_⟩
      obtain ⟨y, _, rfl⟩ := List.mem_map.1 hx
      rw [nx_lo (by omega)]; simp [cntB]
    have e2 : lnS last.data.toList 0 = List.replicate last.size 0 := by
      unfold lnS; rw [show (0 - last.data.toList.length) = 0 by omega, Nat.zero_min, lnk, hll]
    rw [e1, e2, show 0 - 2 * last.size = 0 by omega]
    exact H5.swap
  · repeat (first | refine r_lss ?_)
    refine r_ifD (fun h => ?_) fun h => ?_
    · exact r_ke ⟨rfl, true, rfl, by simp; omega⟩
    · repeat (first | refine r_ke ?_ | refine r_lns ?_ | refine r_geq ?_)
      refine ⟨rfl, _, rfl, ?_⟩
      rw [decide_eq_true_iff]; omega
theorem Take_spec {last : ByteArray} {o s k : Nat} (H : Holds w (InvR b last o s k :: L))
    (post : ∀ w', Same w w' → Holds w' (InvR b last o s (s - 2 * last.size) :: L) → K (.string ⟨((outK last.data.toList o (s - 2 * last.size)).drop k).toArray⟩) w') :
    Cl Tryz.prog F.unbwt_Inverter_Take #[.pointer (some ⟨b, 0, none⟩)] w K := by
  refine Tie.unbwt_Inverter_Take ?_
  unfold Vcf.unbwt_Inverter_Take
  obtain ⟨t, lv, ov, H⟩ := InvR_open H
  have S := Same.refl w
  have hn := nxL_len last.data.toList s
  obtain ⟨oa, sp, rfl, H⟩ := H.open 2 rfl
  rw [List.set_cons_succ, List.set_cons_succ, List.set_cons_zero] at H
  repeat (first | ((with_reducible apply r_ld 0 H); (exact rfl); (with_reducible exact (c259 hn))) | refine r_cbs H 2 rfl rfl ?_ | refine r_nc ?_ | refine r_fo0 ?_ | (with_reducible refine r_bnSF ?_) | (with_reducible refine r_vf ?_))
  refine r_st 0 H rfl (by rw [clen hn]; omega) rfl fun w2 S2 H2 => ?_
  rw [s259 hn, List.set_cons_zero] at H2
  refine post w2 S2 (InvR_close (t := t) (lv := lv) (ov := .slice none 0 0) ?_)
  rw [List.drop_of_length_le (Nat.le_of_eq (outK_len _ _ _))]
  exact (((H2.dropAt 2).nilSL bv tB).front 2 rfl).front 2 rfl
theorem Of_spec {last : ByteArray} {origin : Int} (H : Holds w L)
    (p1 : last.size = 0 → K (.tuple #[.string ⟨#[]⟩, .int .i64 1]) w)
    (p2 : 900000 < last.size → K (.tuple #[.string ⟨#[]⟩, .int .i64 2]) w)
    (p3 : 0 < last.size → last.size ≤ 900000 → (origin < 0 ∨ (last.size : Int) ≤ origin) → K (.tuple #[.string ⟨#[]⟩, .int .i64 23]) w)
    (p4 : ∀ (o : Nat) w', origin = o → o < last.size → last.size ≤ 900000 → Same w w' → Holds w' L → K (.tuple #[.string ⟨(text last.data.toList o).toArray⟩, .int .i64 0]) w') :
    Cl Tryz.prog F.unbwt_Of #[.string last, .int .i64 origin] w K := by
  refine Tie.unbwt_Of ?_
  unfold Vcf.unbwt_Of
  refine New_spec H (fun h => ?_) (fun h => ?_) (fun h1 h2 h3 => ?_) fun o b w1 h1 h2 h3 S H1 => ?_
  · repeat (first | refine r_neq ?_ | (with_reducible refine r_ex20 ?_) | (with_reducible refine r_ex21 ?_) | ((with_reducible refine r_vtN ?h ?_); (case h => omega)))
    exact p1 h
  · repeat (first | refine r_neq ?_ | (with_reducible refine r_ex20 ?_) | (with_reducible refine r_ex21 ?_) | ((with_reducible refine r_vtN ?h ?_); (case h => omega)))
    exact p2 h
  · repeat (first | refine r_neq ?_ | (with_reducible refine r_ex20 ?_) | (with_reducible refine r_ex21 ?_) | ((with_reducible refine r_vtN ?h ?_); (case h => omega)))
    exact p3 h1 h2 h3
  · clear H
    have H := H1
    repeat (first | refine r_lns ?_ | refine r_neq ?_ | (with_reducible refine r_ex20 ?_) | (with_reducible refine r_ex21 ?_) | (refine r_mul (by omega) (by omega) ?_) | ((with_reducible refine r_vfN ?h ?_); (case h => omega)))
    refine Step_spec H (by omega) (by omega) h2 (by omega) fun w2 S2 H2 => ?_
    have e : min (3 * (last.size : Int)).toNat (3 * last.size - 0) = 3 * last.size := by omega
    rw [e, Nat.zero_add] at H2
    refine Take_spec H2 fun w3 S3 H3 => ?_
    have hll : last.data.toList.length = last.size := by simp
    have := p4 o w3 h1 h2 h3 ((S.trans S2).trans S3) H3.drop
    unfold text at this
    rw [hll] at this
    rw [show 3 * last.size - 2 * last.size = last.size by omega, List.drop_zero]
    exact this
end U18
end Go.Proofs.YtoomfeeiehfpmaaGreatDoor
/- Chapters 1, 5, 6: the document's bits, numbers, symbols and places, each function once. -/
set_option linter.unusedVariables false
set_option linter.unusedSimpArgs false
namespace Go.Proofs.YtoomfeeiehfpmaaGreatDoor
open Go Go.Vc
attribute [local irreducible] Go.Vc.Nc Go.Vc.Ld Go.Vc.LdA Go.Vc.St Go.Vc.StA Go.Vc.Fo Go.Vc.Iaa Go.Vc.Ias Go.Vc.Ixs Go.Vc.Ixa Go.Vc.Fd Go.Vc.FdA Go.Vc.Bp Go.Vc.Bb Go.Vc.Bn Go.Vc.Up Go.Vc.Ci Go.Vc.Lns Go.Vc.Lnl Go.Vc.Ex Go.Vc.Sst Go.Vc.Ssl Go.Vc.New Go.Vc.Vif Go.Vc.VJoin Go.Vc.VLoop Go.Vc.KE Go.Vc.Dr Go.Vc.Rk Go.Vc.Cl Go.Vc.Cx Go.Vc.Inv Go.Vc.Be Go.Vc.Cv Go.Vc.Cw Go.Vc.Mf Go.Vc.Sl Go.Vc.Lk Go.Vc.Bd Go.Vc.Bs Go.Vc.Ms Go.Vc.Mm Go.Vc.Mu Go.Vc.Me Go.Vc.Es Go.Vc.Rg Go.Vc.Nx Go.Vc.Ta Go.Vc.Ap Go.Vc.Usd Go.Vc.Ust Go.Vc.Cp Go.Vc.Ln Go.Vc.Bc Go.Vc.Bmin Go.Vc.Bmax Go.Vc.Bdel Go.Vc.Bclr Go.Vc.Pk
namespace P20
open Go.M01 Go.Mb Go.Mp Go.M10 Go.Mc Go.Mz Go.Mk Go.Q20 Go.Q21 Go.Q22
abbrev S_ (B : List UInt8) : Value := .string ⟨B.toArray⟩
abbrev pt (b : Nat) : Value := .pointer (some ⟨b, 0, none⟩)
abbrev tB : Nat := 5
abbrev tI : Nat := 3
variable {w : World} {L : List HProp} {K : Value → World → Prop}
theorem sz (t : List UInt8) : (⟨t.toArray⟩ : ByteArray).size = t.length := by show t.toArray.size = _; simp
theorem dl (t : List UInt8) : (⟨t.toArray⟩ : ByteArray).data.toList = t := by simp
theorem q_len {t : List UInt8} {K : Value → Prop} (h : K (nv t.length)) : Lns (S_ t) K := r_lns (by rw [sz]; exact h)
theorem q_ix {t : List UInt8} {k : IntKind} {m : Nat} {K : Value → Prop} (h1 : m < t.length) (h : K (bv (t.getD m 0))) : Ixs (S_ t) (.int k (m : Int)) K := r_ixsN (by rw [sz]; exact h1) (by rw [dl]; exact h)
theorem q_T {t : List UInt8} {k : IntKind} {m : Nat} {K : Value → Prop} (h1 : m ≤ t.length) (h : K (S_ (t.take m))) : Sst (S_ t) none (some (.int k (m : Int))) K := r_sstT (by rw [sz]; exact h1) (by rw [dl]; exact h)
theorem q_D {t : List UInt8} {k : IntKind} {m : Nat} {K : Value → Prop} (h1 : m ≤ t.length) (h : K (S_ (t.drop m))) : Sst (S_ t) (some (.int k (m : Int))) none K := r_sstD (by rw [sz]; exact h1) (by rw [dl]; exact h)
theorem ext_ {t : List UInt8} {a b : Nat} : (⟨t.toArray⟩ : ByteArray).extract a b = ⟨((t.take b).drop a).toArray⟩ := by
  apply ByteArray.ext
  rw [ByteArray.data_extract]
  simp [List.drop_take]
theorem q_M {t : List UInt8} {k k' : IntKind} {a b : Nat} {K : Value → Prop} (h1 : a ≤ b) (h2 : b ≤ t.length) (h : K (S_ ((t.take b).drop a))) : Sst (S_ t) (some (.int k (a : Int))) (some (.int k' (b : Int))) K :=
  r_sst ⟨k, rfl⟩ ⟨k', rfl⟩ h1 (by rw [sz]; exact h2) (by rw [ext_]; exact h)
theorem q_1 {t : List UInt8} {k k' : IntKind} {m : Nat} {K : Value → Prop} (h1 : m < t.length) (h : K (S_ [t.getD m 0])) : Sst (S_ t) (some (.int k (m : Int))) (some (.int k' ((m + 1 : Nat) : Int))) K :=
  r_sst1 (by rw [sz]; exact h1) (by rw [dl]; exact h)
theorem q_str (H : Holds w L) (c : UInt8) {t e d : TypeId} {z : Value} [hr : Row Tryz.prog t e z] [hb : Bytes Tryz.prog t e d] (h : ∀ w', Same w w' → Holds w' L → K (S_ [c]) w') : Bs Tryz.prog t 1 #[(0, bv c)] w fun y w2 => Cw Tryz.prog t d y w2 K := by
  refine r_bs1 H (by rfl) fun b w2 S2 H2 => ?_
  refine r_cbs (xs := [c]) (sp := []) (oa := some ⟨b, 0, none⟩) ((H2.imp fun h hh => (⟨rfl, rfl, hh⟩ : (slb bv e (some ⟨b, 0, none⟩) [c] []) h))) 0 rfl rfl ?_
  exact h w2 S2 H2.drop
theorem txt_at {l : List Bool} {m : Nat} (h : m < l.length) : (txt l).getD m 0 = chr (l.getD m false) := txt_getD l m h
theorem q_rem {k : IntKind} {s t : Nat} {K : Value → Prop} (ht : t ≠ 0) (h : K (.int k ((s % t : Nat) : Int))) : Bp .rem (.int k (s : Int)) (.int k (t : Int)) K :=
  r_bp (v := .int k ((s % t : Nat) : Int)) (by simp only [bp]; rw [if_pos ⟨trivial, by omega⟩, Int.tmod_eq_emod_of_nonneg (by omega)]; rfl) h
theorem q_quoU32 {s t : Nat} {K : Value → Prop} (hs : s < 4294967296) (ht : t ≠ 0) (h : K (uv (s / t))) : Bp .quo (uv s) (uv t) K :=
  r_bp (v := uv (s / t)) (by
    have h1 : s / t ≤ s := Nat.div_le_self _ _
    simp only [bp]
    rw [if_pos ⟨trivial, by omega⟩, Int.tdiv_eq_ediv_of_nonneg (by omega), wrapU32 (Int.ediv_nonneg (by omega) (by omega)) (by rw [← Int.natCast_ediv]; omega)]
    rfl) h
theorem Field_spec {v n : Nat} (hn : n ≤ 64) (hv : v < 4294967296) (k : K (S_ (txt (bitsOf v n))) w) : Cl Tryz.prog F.balerref01_Field #[uv v, nv n] w K := by
  refine Tie.balerref01_Field ?_
  unfold Vcf.balerref01_Field
  refine r_loop3 (fun x s i w' => ∃ j : Nat, j ≤ n ∧ i = nv j ∧ x = uv (v / 2 ^ j) ∧ s = S_ (txt (bitsOf v j)) ∧ w = w') (fun _ _ i _ => n - (RowKit.intOf i).toNat) ⟨0, by omega, rfl, by simp, rfl, rfl⟩ ?_
  rintro _ _ _ _ _ ⟨j, hj, rfl, rfl, rfl, rfl⟩
  have hd : v / 2 ^ j < 4294967296 := Nat.lt_of_le_of_lt (Nat.div_le_self _ _) hv
  repeat (first | refine r_lss ?_)
  refine r_ifD (fun h => ?_) fun h => ?_
  · have h2 : v / 2 ^ j % 2 = (v.testBit j).toNat := by have := bit_at v j; rwa [Nat.and_one_is_mod] at this
    have hb := Bool.toNat_le (v.testBit j)
    refine q_rem (t := 2) (by decide) (q_rem (t := 2) (by decide) ?_)
    rw [h2]
    refine r_addU32 (t := 1) (by omega) ?_
    refine q_1 (t := [48, 49]) (by simp; omega) ?_
    have e : [48, 49].getD (v.testBit j).toNat 0 = chr (v.testBit j) := by cases v.testBit j <;> rfl
    rw [e]
    refine r_catL (by simp [txt_len, bitsOf_len]; omega) ?_
    refine q_quoU32 (t := 2) hd (by decide) ?_
    repeat (first | refine r_ke ?_ | (refine r_add1N (by omega) ?_))
    refine ⟨⟨j + 1, by omega, rfl, by rw [Nat.div_div_eq_div_mul, Nat.pow_succ], by rw [bitsOf_succ]; rfl, rfl⟩, ?_⟩
    simp [nv, RowKit.intOf]
    omega
  · obtain rfl : j = n := by omega
    exact k
theorem Bits_spec {s : List UInt8} (hs : s.length ≤ 1000000) (k : K (S_ (txt (bitsL s))) w) : Cl Tryz.prog F.balerref01_Bits #[S_ s] w K := by
  refine Tie.balerref01_Bits ?_
  unfold Vcf.balerref01_Bits
  refine r_loop2 (fun o i w' => ∃ j : Nat, j ≤ s.length ∧ i = nv j ∧ o = S_ (txt (bitsL (s.take j))) ∧ w = w') (fun _ i _ => s.length - (RowKit.intOf i).toNat) ⟨0, by omega, rfl, rfl, rfl⟩ ?_
  rintro _ _ _ _ ⟨j, hj, rfl, rfl, rfl⟩
  refine q_len ?_
  repeat (first | refine r_lss ?_)
  refine r_ifD (fun h => ?_) fun h => ?_
  · have hlt : j < s.length := by omega
    refine q_ix hlt ?_
    have hc := (s.getD j 0).toNat_lt
    repeat (refine r_ciu32 (by omega) (by omega) ?_)
    refine Field_spec (n := 8) (by decide) (by omega) ?_
    refine r_catL (by have := bitsL_len (s.take j); simp [txt_len, bitsOf_len, this]; omega) ?_
    repeat (first | refine r_ke ?_ | (refine r_add1N (by omega) ?_))
    refine ⟨⟨j + 1, by omega, rfl, ?_, rfl⟩, ?_⟩
    · have hg : s[j]? = some (s.getD j 0) := by rw [List.getD_eq_getElem?_getD, List.getElem?_eq_getElem hlt]; rfl
      rw [take_snoc hg, bitsL_app, txt_app]
      simp [bitsL]
    · simp [nv, RowKit.intOf]
      omega
  · obtain rfl : j = s.length := by omega
    rw [List.take_length]
    exact k
theorem Number_spec {l : List Bool} (hl : l.length ≤ 32) (k : K (uv (valB l)) w) : Cl Tryz.prog F.balerref01_Number #[S_ (txt l)] w K := by
  refine Tie.balerref01_Number ?_
  unfold Vcf.balerref01_Number
  refine r_loop2 (fun x i w' => ∃ j : Nat, j ≤ l.length ∧ i = nv j ∧ x = uv (valB (l.take j)) ∧ w = w') (fun _ i _ => l.length - (RowKit.intOf i).toNat) ⟨0, by omega, rfl, rfl, rfl⟩ ?_
  rintro _ _ _ _ ⟨j, hj, rfl, rfl, rfl⟩
  refine q_len ?_
  rw [txt_len]
  repeat (first | refine r_lss ?_)
  refine r_ifD (fun h => ?_) fun h => ?_
  · have hlt : j < l.length := by omega
    have hv := valB_take_lt l j
    have hp : (2 : Nat) ^ j ≤ 2 ^ 31 := Nat.pow_le_pow_right (by omega) (by omega)
    have hx := valB_take_succ hlt
    have hx2 := valB_take_lt l (j + 1)
    have hp2 : (2 : Nat) ^ (j + 1) ≤ 2 ^ 32 := Nat.pow_le_pow_right (by omega) (by omega)
    refine r_mulU32 (s := 2) (by omega) ?_
    refine q_ix (by rw [txt_len]; exact hlt) ?_
    rw [txt_at hlt]
    have ec : (chr (l.getD j false)).toNat = 48 + (l.getD j false).toNat := by cases l.getD j false <;> rfl
    rw [show bv (chr (l.getD j false)) = .int .u8 ((48 + (l.getD j false).toNat : Nat) : Int) by rw [← ec]]
    have hb := Bool.toNat_le (l.getD j false)
    refine r_subU8 (t := 48) (by omega) (by omega) ?_
    rw [Nat.add_sub_cancel_left]
    refine r_ciu32 (by omega) (by omega) ?_
    refine r_addU32 (by omega) ?_
    rw [← hx]
    repeat (first | refine r_ke ?_ | (refine r_add1N (by omega) ?_))
    refine ⟨⟨j + 1, by omega, rfl, rfl, rfl⟩, ?_⟩
    simp [nv, RowKit.intOf]
    omega
  · obtain rfl : j = l.length := by omega
    rw [List.take_length]
    exact k
theorem There_spec {s : List UInt8} {b : Nat} (hs : s.length ≤ 1000000) (hb : b < 256) (k : K (.bool (decide (UInt8.ofNat b ∈ s))) w) : Cl Tryz.prog F.balerref05_There #[S_ s, nv b] w K := by
  refine Tie.balerref05_There ?_
  unfold Vcf.balerref05_There
  refine r_loop1 (fun i w' => ∃ j : Nat, j ≤ s.length ∧ i = nv j ∧ UInt8.ofNat b ∉ s.take j ∧ w = w') (fun i _ => s.length - (RowKit.intOf i).toNat) ⟨0, by omega, rfl, by simp, rfl⟩ ?_
  rintro _ _ _ ⟨j, hj, rfl, hno, rfl⟩
  refine q_len ?_
  repeat (first | refine r_lss ?_)
  refine r_ifD (fun h => ?_) fun h => ?_
  · have hlt : j < s.length := by omega
    have hg : s[j]? = some (s.getD j 0) := by rw [List.getD_eq_getElem?_getD, List.getElem?_eq_getElem hlt]; rfl
    refine q_ix hlt ?_
    have hc := (s.getD j 0).toNat_lt
    repeat (first | refine r_eql ?_ | (refine r_ci64 (by omega) (by omega) ?_))
    refine r_ifE (fun h2 => ?_) fun h2 => ?_
    · have hm : UInt8.ofNat b ∈ s := by
        have : s.getD j 0 = UInt8.ofNat b := by
          apply UInt8.toNat_inj.1
          rw [UInt8.toNat_ofNat_of_lt' (by simpa using hb)]; omega
        rw [← this]; exact List.mem_of_getElem? hg
      rw [decide_eq_true hm] at k
      exact k
    · repeat (first | refine r_ke ?_ | (refine r_add1N (by omega) ?_))
      refine ⟨⟨j + 1, by omega, rfl, ?_, rfl⟩, ?_⟩
      · rw [take_snoc hg]
        intro hm
        rcases List.mem_append.1 hm with h3 | h3
        · exact hno h3
        · rw [List.mem_singleton] at h3
          have := congrArg UInt8.toNat h3
          rw [UInt8.toNat_ofNat_of_lt' (by simpa using hb)] at this
          omega
      · simp [nv, RowKit.intOf]
        omega
  · obtain rfl : j = s.length := by omega
    rw [List.take_length] at hno
    rw [decide_eq_false hno] at k
    exact k
theorem bv_nat {j : Nat} (h : j < 256) : (Value.int .u8 (j : Int)) = bv (UInt8.ofNat j) := by
  show _ = Value.int .u8 ((UInt8.ofNat j).toNat : Int)
  rw [UInt8.toNat_ofNat_of_lt' (by simpa using h)]
theorem Symbols_spec {s : List UInt8} (H : Holds w L) (hs : s.length ≤ 1000000) (k : ∀ w', Same w w' → Holds w' L → K (S_ (listed fun b => decide (UInt8.ofNat b ∈ s))) w') : Cl Tryz.prog F.balerref05_Symbols #[S_ s] w K := by
  refine Tie.balerref05_Symbols ?_
  unfold Vcf.balerref05_Symbols
  refine r_loop2 (fun o i w' => ∃ j : Nat, j ≤ 256 ∧ i = nv j ∧ o = S_ (below (fun b => decide (UInt8.ofNat b ∈ s)) j) ∧ Same w w' ∧ Holds w' L) (fun _ i _ => 256 - (RowKit.intOf i).toNat) ⟨0, by omega, rfl, rfl, .refl w, H⟩ ?_
  clear H
  rintro _ _ _ w1 ⟨j, hj, rfl, rfl, S, H⟩
  repeat (first | refine r_lss ?_)
  refine r_ifD (fun h => ?_) fun h => ?_
  · have hlt : j < 256 := by omega
    have hbl := below_len (fun b => decide (UInt8.ofNat b ∈ s)) j
    refine There_spec hs hlt ?_
    refine r_vif (fun h2 => ?_) fun h2 => ?_
    · repeat (refine r_ciu8 (by omega) (by omega) ?_)
      rw [bv_nat hlt]
      refine q_str H (UInt8.ofNat j) fun w2 S2 H2 => ?_
      refine r_catL (by simp; omega) ?_
      repeat (first | refine r_ke ?_ | (refine r_add1N (by omega) ?_))
      refine ⟨⟨j + 1, by omega, rfl, ?_, S.trans S2, H2⟩, ?_⟩
      · rw [below_succ, if_pos h2]
      · simp [nv, RowKit.intOf]
        omega
    · repeat (first | refine r_ke ?_ | (refine r_add1N (by omega) ?_))
      refine ⟨⟨j + 1, by omega, rfl, ?_, S, H⟩, ?_⟩
      · rw [below_succ, if_neg (by rw [h2]; simp), List.append_nil]
      · simp [nv, RowKit.intOf]
        omega
  · obtain rfl : j = 256 := by omega
    exact k _ S H
theorem Is_spec {T : Nat → Bool} (H : Holds w L) (hne : listed T ≠ []) (k : ∀ w', Same w w' → Holds w' L → K (.bool true) w') : Cl Tryz.prog F.balerref05_Is #[S_ (listed T)] w K := by
  refine Tie.balerref05_Is ?_
  unfold Vcf.balerref05_Is
  have hl := listed_len T
  have h0 : 0 < (listed T).length := List.length_pos_iff.2 hne
  refine q_len ?_
  repeat (first | refine r_gtr ?_ | ((with_reducible refine r_vtD ?h ?_); (case h => omega)))
  refine Symbols_spec H (by omega) fun w2 S2 H2 => ?_
  rw [listed_listed]
  refine r_seqL ?_
  rw [decide_eq_true rfl]
  exact k _ S2 H2
theorem Touch_spec {o : List UInt8} {i : Nat} (H : Holds w L) (ho : o.length ≤ 1000000) (hi : i < o.length) (k : ∀ w', Same w w' → Holds w' L → K (S_ (frontB o i)) w') : Cl Tryz.prog F.balerref06_Touch #[S_ o, nv i] w K := by
  refine Tie.balerref06_Touch ?_
  unfold Vcf.balerref06_Touch
  have S := Same.refl w
  repeat (first | (refine r_add1N (by omega) ?_) | (refine r_dr H ?_; clear H; intro _ S_ H; replace S := S.trans S_; clear S_))
  refine q_1 hi ?_
  refine q_T (by omega) ?_
  refine r_catL (by simp; omega) ?_
  repeat (refine r_add1N (by omega) ?_)
  refine q_D (by omega) ?_
  refine r_catL (by simp; omega) ?_
  exact k _ S H
theorem Decode6_spec {T : Nat → Bool} {v : Value} {pl : List Nat} (H : Holds w (SL nv tI v pl :: L)) (hne : listed T ≠ []) (hp : ∀ p ∈ pl, p < (listed T).length) (hpl : pl.length ≤ 1000000)
    (k : ∀ w', Same w w' → Holds w' (SL nv tI v pl :: L) → K (.tuple #[S_ (mall (listed T) pl).2, iv 0]) w') : Cl Tryz.prog F.balerref06_Decode #[v, S_ (listed T)] w K := by
  refine Tie.balerref06_Decode ?_
  unfold Vcf.balerref06_Decode
  have hl := listed_len T
  refine Is_spec H hne fun w1 S1 H1 => ?_
  refine r_notT (r_vf ?_)
  refine r_lnS 0 H1 rfl ?_
  refine r_loop3 (fun o q i w' => ∃ j : Nat, j ≤ pl.length ∧ i = nv j ∧ o = S_ (mall (listed T) (pl.take j)).2 ∧ q = S_ (mall (listed T) (pl.take j)).1 ∧ Same w w' ∧ Holds w' (SL nv tI v pl :: L)) (fun _ _ i _ => pl.length - (RowKit.intOf i).toNat)
    ⟨0, by omega, rfl, rfl, rfl, S1, H1⟩ ?_
  clear H H1 S1
  rintro _ _ _ _ w1 ⟨j, hj, rfl, rfl, rfl, S, H⟩
  repeat (first | refine r_lss ?_)
  have hm := mall_len (o := listed T) (pl.take j) (fun p h => hp p (List.mem_of_mem_take h))
  refine r_ifD (fun h => ?_) fun h => ?_
  · have hlt : j < pl.length := by omega
    obtain ⟨p, hg⟩ : ∃ p, pl[j]? = some p := ⟨_, List.getElem?_eq_getElem hlt⟩
    have hpl := hp p (List.mem_of_getElem? hg)
    refine r_getS 0 H rfl hg ?_
    have e : (mall (listed T) (pl.take (j + 1))) = mstep (mall (listed T) (pl.take j)) p := by rw [take_snoc hg, mall_snoc]
    generalize mall (listed T) (pl.take j) = x at *
    obtain ⟨q, out⟩ := x
    simp only at hm ⊢
    have ho : out.length = j := by rw [hm.2, List.length_take]; omega
    refine r_join1 (fun y w' => w1 = w' ∧ y = .bool false) ?_ ?_
    · rintro _ _ _ ⟨rfl, rfl⟩
      refine r_vf ?_
      repeat (refine r_add1N (by omega) ?_)
      refine q_1 (by omega) ?_
      refine r_catL (by simp; omega) ?_
      refine Touch_spec H (by omega) (by omega) fun w2 S2 H2 => ?_
      repeat (first | refine r_ke ?_ | (refine r_add1N (by omega) ?_))
      refine ⟨⟨j + 1, by omega, rfl, by rw [e]; rfl, by rw [e]; rfl, S.trans S2, H2⟩, ?_⟩
      simp [nv, RowKit.intOf]
      omega
    · repeat (first | refine r_ke ?_ | refine r_lns ?_ | refine r_lss ?_ | refine r_geq ?_ | ((with_reducible refine r_vfD ?h ?_); (case h => omega)))
      exact ⟨rfl, by rw [sz, decide_eq_false (by omega)]⟩
  · obtain rfl : j = pl.length := by omega
    rw [List.take_length]
    exact k _ S H
end P20
end Go.Proofs.YtoomfeeiehfpmaaGreatDoor
/- Chapters 9, 10: whole codes, and symbols of bits, by the document. -/
set_option linter.unusedVariables false
set_option linter.unusedSimpArgs false
namespace Go.Proofs.YtoomfeeiehfpmaaGreatDoor
open Go Go.Vc
attribute [local irreducible] Go.Vc.Nc Go.Vc.Ld Go.Vc.LdA Go.Vc.St Go.Vc.StA Go.Vc.Fo Go.Vc.Iaa Go.Vc.Ias Go.Vc.Ixs Go.Vc.Ixa Go.Vc.Fd Go.Vc.FdA Go.Vc.Bp Go.Vc.Bb Go.Vc.Bn Go.Vc.Up Go.Vc.Ci Go.Vc.Lns Go.Vc.Lnl Go.Vc.Ex Go.Vc.Sst Go.Vc.Ssl Go.Vc.New Go.Vc.Vif Go.Vc.VJoin Go.Vc.VLoop Go.Vc.KE Go.Vc.Dr Go.Vc.Rk Go.Vc.Cl Go.Vc.Cx Go.Vc.Inv Go.Vc.Be Go.Vc.Cv Go.Vc.Cw Go.Vc.Mf Go.Vc.Sl Go.Vc.Lk Go.Vc.Bd Go.Vc.Bs Go.Vc.Ms Go.Vc.Mm Go.Vc.Mu Go.Vc.Me Go.Vc.Es Go.Vc.Rg Go.Vc.Nx Go.Vc.Ta Go.Vc.Ap Go.Vc.Usd Go.Vc.Ust Go.Vc.Cp Go.Vc.Ln Go.Vc.Bc Go.Vc.Bmin Go.Vc.Bmax Go.Vc.Bdel Go.Vc.Bclr Go.Vc.Pk
namespace P20
open Go.M01 Go.Mb Go.Mp Go.M10 Go.Mc Go.Mz Go.Mk Go.Q20 Go.Q21 Go.Q22
variable {w : World} {L : List HProp} {K : Value → World → Prop}
theorem share_snoc (t : List Nat) (x : Nat) : share (t ++ [x]) = share t + 2 ^ (20 - x) := by simp [share]
theorem share_le : ∀ t : List Nat, Sized t → share t ≤ t.length * 524288 := by
  intro t
  refine snocRec (motive := fun t => Sized t → share t ≤ t.length * 524288) t (fun _ => by simp [share]) fun t x ih h => ?_
  have h1 := ih fun y hy => h y (List.mem_append_left _ hy)
  have h2 := h x (by simp)
  rw [share_snoc, List.length_append, List.length_singleton, Nat.add_mul]
  have h3 : 2 ^ (20 - x) ≤ 2 ^ 19 := Nat.pow_le_pow_right (by omega) (by omega)
  omega
theorem May_spec {v : Value} {lens : List Nat} (H : Holds w (SL nv tI v lens :: L)) (hs : Sized lens) (hl : lens.length ≤ 1000) (k : K (.bool true) w) : Cl Tryz.prog F.balerref09_May #[v, iv 1, iv 20] w K := by
  refine Tie.balerref09_May ?_
  unfold Vcf.balerref09_May
  refine r_lnS 0 H rfl ?_
  refine r_loop1 (fun i w' => ∃ j : Nat, j ≤ lens.length ∧ i = nv j ∧ w = w') (fun i _ => lens.length - (RowKit.intOf i).toNat) ⟨0, by omega, rfl, rfl⟩ ?_
  rintro _ _ _ ⟨j, hj, rfl, rfl⟩
  repeat (first | refine r_lss ?_)
  refine r_ifD (fun h => ?_) fun h => ?_
  · have hlt : j < lens.length := by omega
    obtain ⟨x, hg⟩ : ∃ x, lens[j]? = some x := ⟨_, List.getElem?_eq_getElem hlt⟩
    have hx := hs x (List.mem_of_getElem? hg)
    refine r_getS 0 H rfl hg ?_
    refine r_join1 (fun y w' => w = w' ∧ y = .bool false) ?_ ?_
    · rintro _ _ _ ⟨rfl, rfl⟩
      refine r_vf ?_
      repeat (first | refine r_ke ?_ | (refine r_add1N (by omega) ?_))
      refine ⟨⟨j + 1, by omega, rfl, (by trivial)⟩, ?_⟩
      simp [nv, RowKit.intOf]
      omega
    · repeat (first | refine r_ke ?_ | refine r_lss ?_ | refine r_gtr ?_ | ((with_reducible refine r_vfD ?h ?_); (case h => omega)))
      exact ⟨rfl, by rw [decide_eq_false (by omega)]⟩
  · exact k
theorem Share_spec {v : Value} {lens : List Nat} (H : Holds w (SL nv tI v lens :: L)) (hs : Sized lens) (hl : lens.length ≤ 1000) (k : K (nv (share lens)) w) : Cl Tryz.prog F.balerref09_Share #[v] w K := by
  refine Tie.balerref09_Share ?_
  unfold Vcf.balerref09_Share
  refine r_lnS 0 H rfl ?_
  refine r_loop2 (fun n i w' => ∃ j : Nat, j ≤ lens.length ∧ i = nv j ∧ n = nv (share (lens.take j)) ∧ w = w') (fun _ i _ => lens.length - (RowKit.intOf i).toNat) ⟨0, by omega, rfl, rfl, rfl⟩ ?_
  rintro _ _ _ _ ⟨j, hj, rfl, rfl, rfl⟩
  repeat (first | refine r_lss ?_)
  refine r_ifD (fun h => ?_) fun h => ?_
  · have hlt : j < lens.length := by omega
    obtain ⟨x, hg⟩ : ∃ x, lens[j]? = some x := ⟨_, List.getElem?_eq_getElem hlt⟩
    have hx := hs x (List.mem_of_getElem? hg)
    have hle := share_le (lens.take j) fun y hy => hs y (List.mem_of_mem_take hy)
    rw [List.length_take] at hle
    refine r_getS 0 H rfl hg ?_
    repeat (refine r_sub (by omega) (by omega) ?_)
    refine r_loop2 (fun p i w' => ∃ m : Nat, m ≤ 20 - x ∧ i = nv m ∧ p = nv (2 ^ m) ∧ w = w') (fun _ i _ => 20 - x - (RowKit.intOf i).toNat) ⟨0, by omega, rfl, rfl, rfl⟩ ?_
    rintro _ _ _ _ ⟨m, hm, rfl, rfl, rfl⟩
    have hp : 2 ^ m ≤ 2 ^ 19 := Nat.pow_le_pow_right (by omega) (by omega)
    have hp2 := Nat.pow_succ 2 m
    have hsn := share_snoc (lens.take j) x
    rw [← take_snoc hg] at hsn
    refine r_lss (r_ifD (fun h2 => ?_) fun h2 => ?_)
    · generalize 2 ^ m = q at *
      repeat (first | refine r_ke ?_ | (refine r_add1N (by omega) ?_) | (refine r_mul (by omega) (by omega) ?_))
      refine ⟨⟨m + 1, by omega, rfl, by rw [hp2]; simp; omega, (by trivial)⟩, ?_⟩
      simp [nv, RowKit.intOf]
      omega
    · have : m = 20 - x := by omega
      rw [← this] at hsn
      generalize 2 ^ m = q at *
      repeat (first | refine r_ke ?_ | (refine r_add1N (by omega) ?_) | (refine r_addN (by omega) ?_))
      refine ⟨⟨j + 1, by omega, rfl, by rw [hsn], (by trivial)⟩, ?_⟩
      simp [nv, RowKit.intOf]
      omega
  · obtain rfl : j = lens.length := by omega
    rw [List.take_length]
    exact k
theorem Whole_spec {v : Value} {lens : List Nat} (H : Holds w (SL nv tI v lens :: L)) (hs : Sized lens) (hl : lens.length ≤ 1000) (k : K (.bool (decide (share lens = 1048576))) w) : Cl Tryz.prog F.balerref10_Whole #[v] w K := by
  refine Tie.balerref10_Whole ?_
  unfold Vcf.balerref10_Whole
  refine May_spec H hs hl ?_
  refine r_vt ?_
  refine Share_spec H hs hl ?_
  refine r_eql ?_
  have e : (((share lens : Nat) : Int) == 1048576) = decide (share lens = 1048576) := by rw [Bool.eq_iff_iff, beq_iff_eq, decide_eq_true_iff]; omega
  rw [e]; exact k
def szV : Value → Nat
  | .string b => b.size
  | _ => 0
theorem szV_S (t : List UInt8) : szV (S_ t) = t.length := sz t
theorem next_spec {code : List Bool} {n : Nat} (hc : code.length ≤ 1000) (hn : n ≤ 1000) (k : K (S_ (txt ((inc code).1 ++ List.replicate (n - code.length) false))) w) : Cl Tryz.prog F.balerref10_next #[S_ (txt code), nv n] w K := by
  refine Tie.balerref10_next ?_
  unfold Vcf.balerref10_next
  refine q_len ?_
  rw [txt_len]
  repeat (refine r_sub (by omega) (by omega) ?_)
  refine r_loop3 (fun o c i w' => ∃ j : Nat, j ≤ code.length ∧ i = iv ((code.length : Int) - 1 - j) ∧ o = S_ (txt (inc (code.drop (code.length - j))).1) ∧ c = .bool (inc (code.drop (code.length - j))).2 ∧ w = w') (fun _ _ i _ => (RowKit.intOf i + 1).toNat)
    ⟨0, by omega, by simp, by simp [inc, txt], by simp [inc], rfl⟩ ?_
  rintro _ _ _ _ _ ⟨j, hj, rfl, rfl, rfl, rfl⟩
  have hil := inc_len (code.drop (code.length - j))
  rw [List.length_drop] at hil
  refine r_geq (r_ifD (fun h => ?_) fun h => ?_)
  · have hlt : code.length - 1 - j < code.length := by omega
    rw [show (code.length : Int) - 1 - j = ((code.length - 1 - j : Nat) : Int) by omega]
    refine q_ix (by rw [txt_len]; exact hlt) ?_
    rw [txt_at hlt]
    have hg : code[code.length - 1 - j]? = some (code.getD (code.length - 1 - j) false) := by rw [List.getD_eq_getElem?_getD, List.getElem?_eq_getElem hlt]; rfl
    have hd : code.drop (code.length - (j + 1)) = code.getD (code.length - 1 - j) false :: code.drop (code.length - j) := by
      rw [show code.length - (j + 1) = code.length - 1 - j by omega, List.drop_eq_getElem_cons hlt, show code.length - 1 - j + 1 = code.length - j by omega]
      congr 1
      rw [List.getD_eq_getElem?_getD, List.getElem?_eq_getElem hlt]; rfl
    generalize code.getD (code.length - 1 - j) false = b at *
    refine r_eql ?_
    have eb : (((chr b).toNat : Int) == 49) = b := by cases b <;> rfl
    rw [eb]
    have hinc : inc (code.drop (code.length - (j + 1))) = ((b != (inc (code.drop (code.length - j))).2) :: (inc (code.drop (code.length - j))).1, (inc (code.drop (code.length - j))).2 && b) := by rw [hd]; rfl
    generalize inc (code.drop (code.length - j)) = x at *
    obtain ⟨o, c⟩ := x
    simp only at hil hinc ⊢
    refine r_join1 (fun y w' => w = w' ∧ y = S_ (txt ((b != c) :: o))) ?_ ?_
    · rintro _ _ _ ⟨rfl, rfl⟩
      refine r_vif (fun h2 => ?_) fun h2 => ?_
      · subst h2
        repeat (first | refine r_ke ?_ | (refine r_sub (by omega) (by omega) ?_))
        refine ⟨⟨j + 1, by omega, ?_, by rw [hinc], by rw [hinc]; simp, (by trivial)⟩, ?_⟩
        · congr 1; omega
        · simp [RowKit.intOf]
      · subst h2
        repeat (first | refine r_ke ?_ | (refine r_sub (by omega) (by omega) ?_))
        refine ⟨⟨j + 1, by omega, ?_, by rw [hinc], by rw [hinc]; simp, (by trivial)⟩, ?_⟩
        · congr 1; omega
        · simp [RowKit.intOf]
    · refine r_bb ?_
      cases b <;> cases c
      · refine r_vf ?_
        refine r_catL (xs := [48]) (by simp [txt_len]; omega) ?_
        repeat (first | refine r_ke ?_)
        exact ⟨rfl, rfl⟩
      · refine r_vt ?_
        refine r_catL (xs := [49]) (by simp [txt_len]; omega) ?_
        repeat (first | refine r_ke ?_)
        exact ⟨rfl, rfl⟩
      · refine r_vt ?_
        refine r_catL (xs := [49]) (by simp [txt_len]; omega) ?_
        repeat (first | refine r_ke ?_)
        exact ⟨rfl, rfl⟩
      · refine r_vf ?_
        refine r_catL (xs := [48]) (by simp [txt_len]; omega) ?_
        repeat (first | refine r_ke ?_)
        exact ⟨rfl, rfl⟩
  · obtain rfl : j = code.length := by omega
    rw [Nat.sub_self, List.drop_zero] at hil ⊢
    have hil := inc_len code
    refine r_loop1 (fun o w' => ∃ m : Nat, m ≤ n - code.length ∧ o = S_ (txt ((inc code).1 ++ List.replicate m false)) ∧ w = w') (fun o _ => n - szV o) ⟨0, by omega, by rw [List.replicate_zero, List.append_nil], rfl⟩ ?_
    rintro _ _ _ ⟨m, hm, rfl, rfl⟩
    refine q_len ?_
    rw [txt_len, List.length_append, List.length_replicate, hil]
    refine r_lss (r_ifD (fun h2 => ?_) fun h2 => ?_)
    · refine r_catL (ys := [48]) (by simp [txt_len, hil]; omega) ?_
      refine r_ke ?_
      refine ⟨⟨m + 1, by omega, ?_, rfl⟩, ?_⟩
      · rw [List.replicate_succ', ← List.append_assoc, txt_app (_ ++ _)]; rfl
      · show n - szV (S_ _) < n - szV (S_ _)
        rw [szV_S, szV_S, List.length_append, txt_len, List.length_append, hil, List.length_replicate, List.length_singleton]; omega
    · have : m = n - code.length := by omega
      subst this
      exact k
end P20
end Go.Proofs.YtoomfeeiehfpmaaGreatDoor
/- Chapter 10: the codes of lengths, and the symbol that bits begin with, by the document. -/
set_option linter.unusedVariables false
set_option linter.unusedSimpArgs false
namespace Go.Proofs.YtoomfeeiehfpmaaGreatDoor
open Go Go.Vc
attribute [local irreducible] Go.Vc.Nc Go.Vc.Ld Go.Vc.LdA Go.Vc.St Go.Vc.StA Go.Vc.Fo Go.Vc.Iaa Go.Vc.Ias Go.Vc.Ixs Go.Vc.Ixa Go.Vc.Fd Go.Vc.FdA Go.Vc.Bp Go.Vc.Bb Go.Vc.Bn Go.Vc.Up Go.Vc.Ci Go.Vc.Lns Go.Vc.Lnl Go.Vc.Ex Go.Vc.Sst Go.Vc.Ssl Go.Vc.New Go.Vc.Vif Go.Vc.VJoin Go.Vc.VLoop Go.Vc.KE Go.Vc.Dr Go.Vc.Rk Go.Vc.Cl Go.Vc.Cx Go.Vc.Inv Go.Vc.Be Go.Vc.Cv Go.Vc.Cw Go.Vc.Mf Go.Vc.Sl Go.Vc.Lk Go.Vc.Bd Go.Vc.Bs Go.Vc.Ms Go.Vc.Mm Go.Vc.Mu Go.Vc.Me Go.Vc.Es Go.Vc.Rg Go.Vc.Nx Go.Vc.Ta Go.Vc.Ap Go.Vc.Usd Go.Vc.Ust Go.Vc.Cp Go.Vc.Ln Go.Vc.Bc Go.Vc.Bmin Go.Vc.Bmax Go.Vc.Bdel Go.Vc.Bclr Go.Vc.Pk
namespace P20
open Go.M01 Go.Mb Go.Mp Go.M10 Go.Mc Go.Mz Go.Mk Go.Q20 Go.Q21 Go.Q22
variable {w : World} {L : List HProp} {K : Value → World → Prop}
abbrev tS : Nat := 9
instance rowS : Row Tryz.prog 149 tS (.string ⟨#[]⟩) := ⟨by kernel_rfl, ⟨Tryz.t9, by kernel_rfl, by kernel_rfl, by decide, by kernel_rfl⟩, rfl⟩
def outL (lens : List Nat) (n k : Nat) : List (List UInt8) := (List.range lens.length).map fun i => if lens.getD i 0 < n ∨ lens.getD i 0 = n ∧ i < k then txt (codeB lens i) else []
def codesL (lens : List Nat) : List (List UInt8) := (List.range lens.length).map fun i => txt (codeB lens i)
theorem outL_len (lens : List Nat) (n k : Nat) : (outL lens n k).length = lens.length := by simp [outL]
theorem outL_same {lens : List Nat} {n k : Nat} (h : lens.getD k 0 ≠ n) : outL lens n (k + 1) = outL lens n k := by
  unfold outL
  apply List.map_congr_left
  intro i hi
  by_cases h1 : lens.getD i 0 < n
  · rw [if_pos (.inl h1), if_pos (.inl h1)]
  · by_cases h2 : lens.getD i 0 = n
    · have : i ≠ k := by rintro rfl; exact h h2
      by_cases h3 : i < k
      · rw [if_pos (.inr ⟨h2, by omega⟩), if_pos (.inr ⟨h2, h3⟩)]
      · rw [if_neg (by omega), if_neg (by omega)]
    · rw [if_neg (by omega), if_neg (by omega)]
theorem outL_set {lens : List Nat} {n k : Nat} (h : lens.getD k 0 = n) (hk : k < lens.length) : outL lens n (k + 1) = (outL lens n k).set k (txt (codeB lens k)) := by
  apply List.ext_getElem
  · simp [outL]
  intro i h1 h2
  rw [List.getElem_set]
  simp only [outL, List.getElem_map, List.getElem_range]
  by_cases hik : k = i
  · subst hik
    rw [if_pos rfl, if_pos (.inr ⟨h, by omega⟩)]
  · rw [if_neg hik]
    by_cases h3 : lens.getD i 0 < n ∨ lens.getD i 0 = n ∧ i < k
    · rw [if_pos h3, if_pos (by omega)]
    · rw [if_neg h3, if_neg (by omega)]
theorem outL_up (lens : List Nat) (n : Nat) : outL lens (n + 1) 0 = outL lens n lens.length := by
  unfold outL
  apply List.map_congr_left
  intro i hi
  rw [List.mem_range] at hi
  by_cases h3 : lens.getD i 0 < n + 1
  · rw [if_pos (.inl h3), if_pos (by omega)]
  · rw [if_neg (by omega), if_neg (by omega)]
theorem outL_one {lens : List Nat} (hs : Sized lens) : outL lens 1 0 = List.replicate lens.length [] := by
  apply List.ext_getElem
  · simp [outL]
  intro i h1 h2
  have hi : i < lens.length := by simpa [outL] using h1
  have hx : 1 ≤ lens.getD i 0 := by
    rw [List.getD_eq_getElem?_getD, List.getElem?_eq_getElem hi]
    exact (hs _ (List.getElem_mem hi)).1
  simp only [outL, List.getElem_map, List.getElem_range, List.getElem_replicate]
  rw [if_neg (by omega)]
theorem outL_all {lens : List Nat} (hs : Sized lens) : outL lens 21 0 = codesL lens := by
  unfold outL codesL
  apply List.map_congr_left
  intro i hi
  rw [List.mem_range] at hi
  have hx : lens.getD i 0 ≤ 20 := by
    rw [List.getD_eq_getElem?_getD, List.getElem?_eq_getElem hi]
    exact (hs _ (List.getElem_mem hi)).2
  rw [if_pos (.inl (by omega))]
theorem txt_nil {l : List Bool} : txt l = [] ↔ l = [] := by simp [txt]
theorem Codes_spec {v : Value} {lens : List Nat} (H : Holds w (SL nv tI v lens :: L)) (hw : Whole lens) (hl : lens.length ≤ 1000)
    (k : ∀ cv w', Same w w' → Holds w' (SL S_ tS cv (codesL lens) :: SL nv tI v lens :: L) → K cv w') : Cl Tryz.prog F.balerref10_Codes #[v] w K := by
  refine Tie.balerref10_Codes ?_
  unfold Vcf.balerref10_Codes
  refine r_lnS 0 H rfl ?_
  refine r_ms (f := S_) (x := []) H rfl (by omega) (by omega) fun b w1 S1 H1 => ?_
  simp only [Int.toNat_natCast] at H1 ⊢
  generalize hcv : (Value.slice (some ⟨b, 0, none⟩) lens.length lens.length) = cv
  replace H1 : Holds w1 (SL S_ tS cv (outL lens 1 0) :: SL nv tI v lens :: L) := by
    rw [outL_one hw.sized]
    refine Holds.imp H1 fun h hh => ⟨some ⟨b, 0, none⟩, [], ?_, hh⟩
    rw [← hcv]; simp
  clear H hcv
  refine r_loop2 (fun c n w' => ∃ (m : Nat) (code : List Bool), 1 ≤ m ∧ m ≤ 21 ∧ n = nv m ∧ c = S_ (txt code) ∧ code.length ≤ 20 ∧ LastC code m (fst_ lens m) ∧ Same w w' ∧ Holds w' (SL S_ tS cv (outL lens m 0) :: SL nv tI v lens :: L))
    (fun _ n _ => 21 - (RowKit.intOf n).toNat) ⟨1, [], by omega, by omega, rfl, rfl, by simp, .inl ⟨rfl, rfl⟩, S1, H1⟩ ?_
  clear H1 S1
  rintro _ _ _ w2 ⟨m, code, hm1, hm, rfl, rfl, hcl, hlast, S, H⟩
  refine r_leq (r_ifD (fun h => ?_) fun h => ?_)
  · have hm20 : m ≤ 20 := by omega
    refine r_lnS 1 H rfl ?_
    refine r_loop2 (fun c i w' => ∃ (j : Nat) (code : List Bool), j ≤ lens.length ∧ i = nv j ∧ c = S_ (txt code) ∧ code.length ≤ 20 ∧ LastC code m (fst_ lens m + (lens.take j).count m) ∧ Same w w' ∧ Holds w' (SL S_ tS cv (outL lens m j) :: SL nv tI v lens :: L))
      (fun _ i _ => lens.length - (RowKit.intOf i).toNat) ⟨0, code, by omega, rfl, rfl, hcl, by simpa using hlast, S, H⟩ ?_
    clear S H hlast hcl
    rintro _ _ _ w3 ⟨j, code, hj, rfl, rfl, hcl, hlast, S, H⟩
    refine r_lss (r_ifD (fun h2 => ?_) fun h2 => ?_)
    · have hlt : j < lens.length := by omega
      have hg : lens[j]? = some (lens.getD j 0) := by rw [List.getD_eq_getElem?_getD, List.getElem?_eq_getElem hlt]; rfl
      refine r_getS 1 H rfl hg ?_
      refine r_neq ?_
      have htk : (lens.take (j + 1)).count m = (lens.take j).count m + if lens.getD j 0 = m then 1 else 0 := by
        rw [take_snoc hg, List.count_append, List.count_cons, List.count_nil]
        by_cases he : lens.getD j 0 = m
        · rw [if_pos (by simpa using he), if_pos he]
        · rw [if_neg (by simpa using he), if_neg he]
      refine r_ifN (fun h3 => ?_) fun h3 => ?_
      · have hne : lens.getD j 0 ≠ m := by omega
        rw [if_neg hne] at htk
        repeat (first | refine r_ke ?_ | (refine r_add1N (by omega) ?_))
        refine ⟨⟨j + 1, code, by omega, rfl, rfl, hcl, by rw [htk]; exact hlast, S, by rw [outL_same hne]; exact H⟩, ?_⟩
        simp [nv, RowKit.intOf]
        omega
      · have he : lens.getD j 0 = m := by omega
        rw [if_pos he] at htk
        have hcode : codeB lens j = bitsOf (fst_ lens m + (lens.take j).count m) m := by unfold codeB codeN; rw [he]
        have hlt2 := code_lt hw hlt
        rw [show codeN lens j = fst_ lens m + (lens.take j).count m by unfold codeN; rw [he], he] at hlt2
        have hnx := hlast.next hm1 hlt2
        refine r_join1 (fun c w' => w3 = w' ∧ c = S_ (txt (codeB lens j))) ?_ ?_
        · rintro _ _ _ ⟨rfl, rfl⟩
          refine r_setS 0 H (txt (codeB lens j)) rfl (by rw [outL_len]; exact hlt) rfl fun w4 S4 H4 => ?_
          replace H4 : Holds w4 (SL S_ tS cv ((outL lens m j).set j (txt (codeB lens j))) :: SL nv tI v lens :: L) := H4
          repeat (first | refine r_ke ?_ | (refine r_add1N (by omega) ?_))
          refine ⟨⟨j + 1, codeB lens j, by omega, rfl, rfl, by rw [hcode, bitsOf_len]; omega, ?_, S.trans S4, by rw [outL_set he hlt]; exact H4⟩, ?_⟩
          · rw [htk, hcode, ← hnx.1, ← Nat.add_assoc]; exact hnx.2
          · simp [nv, RowKit.intOf]
            omega
        · refine r_seqL (xs := txt code) (ys := []) ?_
          refine r_ifD (fun h4 => ?_) fun h4 => ?_
          · rw [txt_nil] at h4
            subst h4
            refine r_loop2 (fun c i w' => ∃ q : Nat, q ≤ m ∧ i = nv q ∧ c = S_ (txt (List.replicate q false)) ∧ w3 = w') (fun _ i _ => m - (RowKit.intOf i).toNat) ⟨0, by omega, rfl, rfl, rfl⟩ ?_
            rintro _ _ _ _ ⟨q, hq, rfl, rfl, rfl⟩
            refine r_lss (r_ifD (fun h5 => ?_) fun h5 => ?_)
            · refine r_catL (ys := [48]) (by simp [txt_len]; omega) ?_
              repeat (first | refine r_ke ?_ | (refine r_add1N (by omega) ?_))
              refine ⟨⟨q + 1, by omega, rfl, ?_, (by trivial)⟩, ?_⟩
              · rw [List.replicate_succ', txt_app]; rfl
              · simp [nv, RowKit.intOf]
                omega
            · have : q = m := by omega
              subst this
              repeat (first | refine r_ke ?_)
              refine ⟨rfl, ?_⟩
              rw [hcode, ← hnx.1]
              unfold nextB
              rw [if_pos rfl]
          · rw [txt_nil] at h4
            refine next_spec (by omega) (by omega) ?_
            repeat (first | refine r_ke ?_)
            refine ⟨rfl, ?_⟩
            rw [hcode, ← hnx.1]
            unfold nextB
            rw [if_neg h4]
    · obtain rfl : j = lens.length := by omega
      rw [List.take_length, ← nx_eq lens m hm1] at hlast
      repeat (first | refine r_ke ?_ | (refine r_add1N (by omega) ?_))
      refine ⟨⟨m + 1, code, by omega, by omega, rfl, rfl, hcl, ?_, S, by rw [outL_up]; exact H⟩, ?_⟩
      · rw [fst_, Nat.add_sub_cancel]; exact hlast.up
      · simp [nv, RowKit.intOf]
        omega
  · obtain rfl : m = 21 := by omega
    rw [outL_all hw.sized] at H
    exact k _ _ S H
theorem Begins_spec {s t : List UInt8} (k : K (.bool (decide (t.length ≤ s.length ∧ s.take t.length = t))) w) : Cl Tryz.prog F.balerref10_Begins #[S_ s, S_ t] w K := by
  refine Tie.balerref10_Begins ?_
  unfold Vcf.balerref10_Begins
  refine q_len (q_len ?_)
  refine r_geq (r_ifD (fun h => ?_) fun h => ?_)
  · refine q_len ?_
    refine q_T (by omega) ?_
    refine r_seqL ?_
    have e : decide (t.length ≤ s.length ∧ s.take t.length = t) = decide (s.take t.length = t) := by
      rw [Bool.eq_iff_iff, decide_eq_true_iff, decide_eq_true_iff]
      exact ⟨fun h => h.2, fun h2 => ⟨by omega, h2⟩⟩
    rw [← e]; exact k
  · rw [decide_eq_false (by omega)] at k
    exact k
theorem codeB_len (lens : List Nat) (i : Nat) : (codeB lens i).length = lens.getD i 0 := by rw [codeB, bitsOf_len]
theorem codesL_get {lens : List Nat} {i : Nat} (h : i < lens.length) : (codesL lens)[i]? = some (txt (codeB lens i)) := by simp [codesL, h]
theorem begins_eq {lens : List Nat} {l : List Bool} {i : Nat} : decide ((txt (codeB lens i)).length ≤ (txt l).length ∧ (txt l).take (txt (codeB lens i)).length = txt (codeB lens i)) = begins lens l i := by
  unfold begins
  rw [txt_len, txt_len, codeB_len, txt_take, Bool.eq_iff_iff, decide_eq_true_iff, decide_eq_true_iff]
  exact ⟨fun h => ⟨h.1, txt_inj h.2⟩, fun h => ⟨h.1, by rw [h.2]⟩⟩
theorem Get_spec {v : Value} {lens : List Nat} {l : List Bool} (H : Holds w (SL S_ tS v (codesL lens) :: L)) (hw : Whole lens) (hl : lens.length ≤ 1000)
    (kn : getC lens l = none → K (iv (-1)) w) (k : ∀ i, i < lens.length → getC lens l = some (i, lens.getD i 0) → K (nv i) w) : Cl Tryz.prog F.balerref10_Get #[v, S_ (txt l)] w K := by
  refine Tie.balerref10_Get ?_
  unfold Vcf.balerref10_Get
  have hcl : (codesL lens).length = lens.length := by simp [codesL]
  refine r_lnS 0 H rfl ?_
  rw [hcl]
  refine r_loop1 (fun i w' => ∃ j : Nat, j ≤ lens.length ∧ i = nv j ∧ (∀ m, m < j → begins lens l m = false) ∧ w = w') (fun i _ => lens.length - (RowKit.intOf i).toNat) ⟨0, by omega, rfl, fun m h => by omega, rfl⟩ ?_
  rintro _ _ _ ⟨j, hj, rfl, hno, rfl⟩
  refine r_lss (r_ifD (fun h => ?_) fun h => ?_)
  · have hlt : j < lens.length := by omega
    refine r_getS 0 H rfl (codesL_get hlt) ?_
    refine Begins_spec ?_
    rw [begins_eq]
    refine r_vif (fun h2 => ?_) fun h2 => ?_
    · exact k j hlt (begins_get hw hlt h2)
    · repeat (first | refine r_ke ?_ | (refine r_add1N (by omega) ?_))
      refine ⟨⟨j + 1, by omega, rfl, fun m hm => ?_, (by trivial)⟩, ?_⟩
      · rcases Nat.lt_or_ge m j with h3 | h3
        · exact hno m h3
        · rw [show m = j by omega]; exact h2
      · simp [nv, RowKit.intOf]
        omega
  · obtain rfl : j = lens.length := by omega
    exact kn (begins_none hw hno)
end P20
end Go.Proofs.YtoomfeeiehfpmaaGreatDoor
/- Chapters 5, 7: the symbols that bits tell, and rows of zeros, by the document. -/
set_option linter.unusedVariables false
set_option linter.unusedSimpArgs false
namespace Go.Proofs.YtoomfeeiehfpmaaGreatDoor
open Go Go.Vc
attribute [local irreducible] Go.Vc.Nc Go.Vc.Ld Go.Vc.LdA Go.Vc.St Go.Vc.StA Go.Vc.Fo Go.Vc.Iaa Go.Vc.Ias Go.Vc.Ixs Go.Vc.Ixa Go.Vc.Fd Go.Vc.FdA Go.Vc.Bp Go.Vc.Bb Go.Vc.Bn Go.Vc.Up Go.Vc.Ci Go.Vc.Lns Go.Vc.Lnl Go.Vc.Ex Go.Vc.Sst Go.Vc.Ssl Go.Vc.New Go.Vc.Vif Go.Vc.VJoin Go.Vc.VLoop Go.Vc.KE Go.Vc.Dr Go.Vc.Rk Go.Vc.Cl Go.Vc.Cx Go.Vc.Inv Go.Vc.Be Go.Vc.Cv Go.Vc.Cw Go.Vc.Mf Go.Vc.Sl Go.Vc.Lk Go.Vc.Bd Go.Vc.Bs Go.Vc.Ms Go.Vc.Mm Go.Vc.Mu Go.Vc.Me Go.Vc.Es Go.Vc.Rg Go.Vc.Nx Go.Vc.Ta Go.Vc.Ap Go.Vc.Usd Go.Vc.Ust Go.Vc.Cp Go.Vc.Ln Go.Vc.Bc Go.Vc.Bmin Go.Vc.Bmax Go.Vc.Bdel Go.Vc.Bclr Go.Vc.Pk
namespace P20
open Go.M01 Go.Mb Go.Mp Go.M10 Go.Mc Go.Mz Go.Mk Go.Q20 Go.Q21 Go.Q22
variable {w : World} {L : List HProp} {K : Value → World → Prop}
theorem q_ret {t : TypeId} {b n : Nat} {cs : List Value} {ps : Array (Nat × Value)} (i : Nat) (H : Holds w L) (vs : List Value) (hi : L[i]? = some (blk b t cs)) (hb : (Instr.build t ps).run Tryz.prog w = .ok (.agg vs.toArray) w)
    (hc : cs.length = n) (hn : vs.length = n) (hs : vs.all sg = true) (h : ∀ w', Same w w' → Holds w' (L.set i (blk b t vs)) → K (.agg vs.toArray) w') : Bd Tryz.prog t ps w fun x => StA n (pt b) x w fun w2 => LdA n (pt b) w2 fun y => K y w2 := by
  refine r_bd hb ?_
  refine r_stA i H (vs := vs) hi (by omega) hn hs fun w2 S2 H2 => ?_
  have hL : i < L.length := (List.getElem?_eq_some_iff.1 hi).1
  have e : setL cs 0 vs = vs := setL_all (by omega)
  rw [e] at H2
  refine r_ldA i H2 vs (by rw [List.getElem?_set_self hL]) (by rw [List.drop_zero, List.take_of_length_le (by omega)]) hn ?_
  exact h w2 S2 H2
where
  setL_all : ∀ {cs vs : List Value}, cs.length = vs.length → setL cs 0 vs = vs := by
    have key : ∀ (vs pre cs : List Value), cs.length = vs.length → setL (pre ++ cs) pre.length vs = pre ++ vs := by
      intro vs
      induction vs with
      | nil => intro pre cs h; rw [List.length_eq_zero_iff.1 h]; rfl
      | cons v vs ih =>
        intro pre cs h
        cases cs with
        | nil => cases h
        | cons c cs =>
          rw [setL]
          have e : (pre ++ c :: cs).set pre.length v = (pre ++ [v]) ++ cs := by simp
          rw [e]
          have := ih (pre ++ [v]) cs (by simpa using h)
          rw [List.length_append, List.length_singleton] at this
          rw [this]; simp
    intro cs vs h
    exact key vs [] cs h
abbrev tU : Nat := 86
theorem Read5_spec {l : List Bool} (H : Holds w L) (hl : l.length ≤ 1000000)
    (ks : uread l = .short → ∀ w', Same w w' → Holds w' L → K (.agg #[S_ [], iv 0, iv 3]) w')
    (kb : uread l = .bad 25 → ∀ w', Same w w' → Holds w' L → K (.agg #[S_ [], iv 0, iv 25]) w')
    (k : ∀ T n, uread l = .ok T n → listed T ≠ [] → ∀ w', Same w w' → Holds w' L → K (.agg #[S_ (listed T), nv n, iv 0]) w') : Cl Tryz.prog F.balerref05_Read #[S_ (txt l)] w K := by
  refine Tie.balerref05_Read ?_
  unfold Vcf.balerref05_Read
  refine r_new H fun rb w1 S1 H1 => ?_
  replace H1 : Holds w1 (blk rb tU [S_ [], iv 0, iv 0] :: L) := by
    have hz : (zeroP Tryz.prog tU).cells.toList = [S_ [], iv 0, iv 0] := by kernel_rfl
    rw [hz] at H1; exact H1
  clear H
  refine q_len ?_
  rw [txt_len]
  refine r_lss (r_ifD (fun h => ?_) fun h => ?_)
  · refine q_ret 0 H1 [S_ [], iv 0, iv 3] rfl (by kernel_rfl) rfl rfl rfl fun w2 S2 H2 => ?_
    exact ks (by unfold uread; rw [if_pos (by omega)]) _ (S1.trans S2) H2.drop
  · have h16 : 16 ≤ l.length := by omega
    have hu : uread l = if l.length < 16 + 16 * (marksL (l.take 16)).length then .short else if listed (usedOf l) = [] then .bad 25 else .ok (usedOf l) (16 + 16 * (marksL (l.take 16)).length) := by
      unfold uread usedOf; rw [if_neg (by omega)]
    rw [hu] at ks kb k
    clear hu
    refine r_loop3 (fun n o i w' => ∃ j : Nat, j ≤ 16 ∧ i = nv j ∧ n = nv (16 + 16 * cnt (l.take 16) j) ∧ 16 + 16 * cnt (l.take 16) j ≤ l.length ∧ o = S_ (below (usedOf l) (16 * j)) ∧ Same w w' ∧ Holds w' (blk rb tU [S_ [], iv 0, iv 0] :: L))
      (fun _ _ i _ => 16 - (RowKit.intOf i).toNat) ⟨0, by omega, rfl, rfl, by simp [cnt]; omega, rfl, S1, H1⟩ ?_
    clear H1 S1
    rintro _ _ _ _ w1 ⟨j, hj, rfl, rfl, hn, rfl, S, H⟩
    have hcl := cnt_le (l.take 16)
    have hml := marksL_len (l.take 16)
    have hcs := cnt_succ (l.take 16) j
    have hcj := hcl j hj
    refine r_lss (r_ifD (fun h => ?_) fun h => ?_)
    · have hj16 : j < 16 := by omega
      refine q_ix (by rw [txt_len]; omega) ?_
      rw [txt_at (by omega)]
      have hq : (l.take 16).getD j false = l.getD j false := by simp [List.getD_eq_getElem?_getD, List.getElem?_take, hj16]
      rw [hq] at hcs
      have hat := fun k (hk : k < 16) => used_at (l := l) hj16 hk h16
      refine r_neq ?_
      cases hb : l.getD j false with
      | false =>
        rw [hb] at hcs
        simp only [Bool.toNat_false, Nat.add_zero] at hcs
        refine r_vtN (by decide) ?_
        repeat (first | refine r_ke ?_ | (refine r_add1N (by omega) ?_))
        refine ⟨⟨j + 1, by omega, rfl, by rw [hcs], by rw [hcs]; exact hn, ?_, S, H⟩, ?_⟩
        · rw [show 16 * (j + 1) = 16 * j + 16 by omega, below_none fun k hk => by rw [hat k hk, hb]; rfl]
        · simp [nv, RowKit.intOf]
          omega
      | true =>
        rw [hb] at hcs
        simp only [Bool.toNat_true] at hcs
        have hc1 := hcl (j + 1) (by omega)
        refine r_vfN (by decide) ?_
        refine q_len ?_
        rw [txt_len]
        repeat (first | refine r_lss ?_ | (refine r_add (by omega) (by omega) ?_))
        refine r_ifD (fun h2 => ?_) fun h2 => ?_
        · refine q_ret 0 H [S_ [], iv 0, iv 3] rfl (by kernel_rfl) rfl rfl rfl fun w2 S2 H2 => ?_
          exact ks (if_pos (by omega)) _ (S.trans S2) H2.drop
        · refine r_loop2 (fun o i w' => ∃ m : Nat, m ≤ 16 ∧ i = nv m ∧ o = S_ (below (usedOf l) (16 * j + m)) ∧ Same w w' ∧ Holds w' (blk rb tU [S_ [], iv 0, iv 0] :: L))
            (fun _ i _ => 16 - (RowKit.intOf i).toNat) ⟨0, by omega, rfl, rfl, S, H⟩ ?_
          clear H S
          rintro _ _ _ w2 ⟨m, hm, rfl, rfl, S, H⟩
          have hbl := below_len (usedOf l) (16 * j + m)
          refine r_lss (r_ifD (fun h3 => ?_) fun h3 => ?_)
          · have hm16 : m < 16 := by omega
            repeat (refine r_addN (by omega) ?_)
            refine q_ix (by rw [txt_len]; omega) ?_
            rw [txt_at (by omega)]
            have hu := hat m hm16
            rw [hb, Bool.true_and] at hu
            refine r_eql ?_
            cases hb2 : l.getD (16 + 16 * cnt (l.take 16) j + m) false with
            | true =>
              rw [hb2] at hu
              refine r_vtE (by decide) ?_
              refine r_mulE ((16 * j : Nat) : Int) (by simp) (by omega) (by omega) ?_
              repeat (first | (refine r_ciu8 (by omega) (by omega) ?_) | (refine r_addN (by omega) ?_))
              rw [bv_nat (by omega)]
              refine q_str H (UInt8.ofNat (16 * j + m)) fun w3 S3 H3 => ?_
              refine r_catL (by simp; omega) ?_
              repeat (first | refine r_ke ?_ | (refine r_add1N (by omega) ?_))
              refine ⟨⟨m + 1, by omega, rfl, ?_, S.trans S3, H3⟩, ?_⟩
              · rw [← Nat.add_assoc, below_succ, if_pos hu]
              · simp [nv, RowKit.intOf]
                omega
            | false =>
              rw [hb2] at hu
              refine r_vfE (by decide) ?_
              repeat (first | refine r_ke ?_ | (refine r_add1N (by omega) ?_))
              refine ⟨⟨m + 1, by omega, rfl, ?_, S, H⟩, ?_⟩
              · rw [← Nat.add_assoc, below_succ, if_neg (by rw [hu]; simp), List.append_nil]
              · simp [nv, RowKit.intOf]
                omega
          · obtain rfl : m = 16 := by omega
            repeat (first | refine r_ke ?_ | (refine r_add1N (by omega) ?_) | (refine r_add (by omega) (by omega) ?_))
            refine ⟨⟨j + 1, by omega, rfl, by rw [hcs]; rfl, by omega, rfl, S, H⟩, ?_⟩
            simp [nv, RowKit.intOf]
            omega
    · obtain rfl : j = 16 := by omega
      rw [cnt_16] at hn hcj ⊢
      rw [if_neg (by omega)] at ks kb k
      rw [show 16 * 16 = 256 from rfl, below_256]
      refine r_seqL ?_
      refine r_ifD (fun h2 => ?_) fun h2 => ?_
      · refine q_ret 0 H [S_ [], iv 0, iv 25] rfl (by kernel_rfl) rfl rfl rfl fun w2 S2 H2 => ?_
        exact kb (if_pos h2) _ (S.trans S2) H2.drop
      · refine q_ret 0 H [S_ (listed (usedOf l)), nv (16 + 16 * (marksL (l.take 16)).length), iv 0] rfl (by kernel_rfl) rfl rfl rfl fun w2 S2 H2 => ?_
        exact k _ _ (if_neg h2) h2 _ (S.trans S2) H2.drop
abbrev tZr : Nat := 159
abbrev tZs : Nat := 161
theorem Value_spec {v : Value} {row : List Nat} (H : Holds w (SL nv tI v row :: L)) (h1 : ∀ c ∈ row, c ≤ 1) (h2 : (valR row).2 ≤ 2199023255552) (h3 : (valR row).1 ≤ 2199023255552) (k : K (nv (valR row).1) w) : Cl Tryz.prog F.balerref07_Value #[v] w K := by
  refine Tie.balerref07_Value ?_
  unfold Vcf.balerref07_Value
  have hrl := valR_len row
  refine r_lnS 0 H rfl ?_
  refine r_loop3 (fun m p i w' => ∃ j : Nat, j ≤ row.length ∧ i = nv j ∧ m = nv (valR (row.take j)).1 ∧ p = nv (valR (row.take j)).2 ∧ w = w') (fun _ _ i _ => row.length - (RowKit.intOf i).toNat) ⟨0, by omega, rfl, rfl, rfl, rfl⟩ ?_
  rintro _ _ _ _ _ ⟨j, hj, rfl, rfl, rfl, rfl⟩
  have ht := valR_take row j
  repeat (first | refine r_lss ?_)
  refine r_ifD (fun h => ?_) fun h => ?_
  · have hlt : j < row.length := by omega
    obtain ⟨c, hg⟩ : ∃ c, row[j]? = some c := ⟨_, List.getElem?_eq_getElem hlt⟩
    have hc := h1 c (List.mem_of_getElem? hg)
    refine r_getS 0 H rfl hg ?_
    repeat (first | refine r_gtr ?_ | (refine r_addN (by omega) ?_) | ((with_reducible refine r_vfD ?h ?_); (case h => omega)))
    have ht2 := valR_take row (j + 1)
    have e := valR_snoc (row.take j) c
    rw [← take_snoc hg] at e
    generalize hx : valR (row.take j) = x at *
    obtain ⟨m, p⟩ := x
    rw [e] at ht2
    simp only at ht ht2 ⊢
    have hc2 : c = 0 ∨ c = 1 := by omega
    have hcp : m + p * 2 ^ c = m + p + c * p := by rcases hc2 with rfl | rfl <;> simp <;> omega
    rw [hcp] at ht2 e
    have hcl : c * p ≤ p := by rcases hc2 with rfl | rfl <;> simp
    repeat (first | refine r_ke ?_ | (refine r_add1N (by omega) ?_) | (refine r_addN (by omega) ?_) | (refine r_mul (by omega) (by omega) ?_))
    refine ⟨⟨j + 1, by omega, rfl, by rw [e], by rw [e]; simp, trivial⟩, ?_⟩
    simp [nv, RowKit.intOf]
    omega
  · obtain rfl : j = row.length := by omega
    rw [List.take_length]
    exact k
end P20
end Go.Proofs.YtoomfeeiehfpmaaGreatDoor
/- Chapters 11, 13: lengths and picks of bits, by the document. -/
set_option linter.unusedVariables false
set_option linter.unusedSimpArgs false
namespace Go.Proofs.YtoomfeeiehfpmaaGreatDoor
open Go Go.Vc
attribute [local irreducible] Go.Vc.Nc Go.Vc.Ld Go.Vc.LdA Go.Vc.St Go.Vc.StA Go.Vc.Fo Go.Vc.Iaa Go.Vc.Ias Go.Vc.Ixs Go.Vc.Ixa Go.Vc.Fd Go.Vc.FdA Go.Vc.Bp Go.Vc.Bb Go.Vc.Bn Go.Vc.Up Go.Vc.Ci Go.Vc.Lns Go.Vc.Lnl Go.Vc.Ex Go.Vc.Sst Go.Vc.Ssl Go.Vc.New Go.Vc.Vif Go.Vc.VJoin Go.Vc.VLoop Go.Vc.KE Go.Vc.Dr Go.Vc.Rk Go.Vc.Cl Go.Vc.Cx Go.Vc.Inv Go.Vc.Be Go.Vc.Cv Go.Vc.Cw Go.Vc.Mf Go.Vc.Sl Go.Vc.Lk Go.Vc.Bd Go.Vc.Bs Go.Vc.Ms Go.Vc.Mm Go.Vc.Mu Go.Vc.Me Go.Vc.Es Go.Vc.Rg Go.Vc.Nx Go.Vc.Ta Go.Vc.Ap Go.Vc.Usd Go.Vc.Ust Go.Vc.Cp Go.Vc.Ln Go.Vc.Bc Go.Vc.Bmin Go.Vc.Bmax Go.Vc.Bdel Go.Vc.Bclr Go.Vc.Pk
namespace P20
open Go.M01 Go.Mb Go.Mp Go.M10 Go.Mc Go.Mz Go.Mk Go.Q20 Go.Q21 Go.Q22
variable {w : World} {L : List HProp} {K : Value → World → Prop}
abbrev nilV : Value := .slice none 0 0
theorem drop_cons {l : List Bool} {m : Nat} (h : m < l.length) : l.drop m = l.getD m false :: l.drop (m + 1) := by
  rw [List.drop_eq_getElem_cons h, List.getD_eq_getElem?_getD, List.getElem?_eq_getElem h]; rfl
theorem chr_48 (b : Bool) : (((chr b).toNat : Int) == 48) = !b := by cases b <;> rfl
theorem chr_49 (b : Bool) : (((chr b).toNat : Int) == 49) = b := by cases b <;> rfl
theorem SL_slice {α : Type} {f : α → Value} {e : TypeId} {v : Value} {xs : List α} (H : Holds w L) (i : Nat) (hi : L[i]? = some (SL f e v xs)) : ∃ oa l c, v = .slice oa l c := by
  obtain ⟨oa, sp, rfl, _⟩ := H.open i hi
  exact ⟨_, _, _, rfl⟩
abbrev tD : Nat := 210
theorem Read11_spec {l : List Bool} {size : Nat} (H : Holds w L) (hl : l.length ≤ 1000000) (h3 : 3 ≤ size) (h258 : size ≤ 258)
    (ks : ∀ d k, DRun size l d k → d.done = false → dstep d (l.drop k) = .short → ∀ w', Same w w' → Holds w' L → K (.agg #[nilV, iv 0, iv 3]) w')
    (kb : ∀ d k, DRun size l d k → d.done = false → dstep d (l.drop k) = .bad 22 → ∀ w', Same w w' → Holds w' L → K (.agg #[nilV, iv 0, iv 22]) w')
    (k : ∀ d k lv, DRun size l d k → d.done = true → k ≤ l.length → ∀ w', Same w w' → Holds w' (SL nv tI lv d.lens :: L) → K (.agg #[lv, nv k, iv 0]) w') : Cl Tryz.prog F.balerref11_Read #[S_ (txt l), nv size] w K := by
  refine Tie.balerref11_Read ?_
  unfold Vcf.balerref11_Read
  have hz : (zeroP Tryz.prog tD).cells.toList = [nilV, iv 0, iv 0] := by kernel_rfl
  refine r_new H fun rb w1 S1 H1 => ?_
  rw [hz] at H1
  clear H
  refine q_len ?_
  rw [txt_len]
  have hd0 : (d0 size).done = false := d0_nd h3
  refine r_lss (r_ifD (fun h => ?_) fun h => ?_)
  · refine q_ret 0 H1 [nilV, iv 0, iv 3] rfl (by kernel_rfl) rfl rfl rfl fun w2 S2 H2 => ?_
    refine ks _ _ .start hd0 ?_ _ (S1.trans S2) H2.drop
    unfold dstep
    rw [if_pos (show (d0 size).now = 0 from rfl), List.drop_zero, if_pos (by omega)]
  · refine q_T (m := 5) (by rw [txt_len]; omega) ?_
    rw [txt_take]
    refine Number_spec (by rw [List.length_take]; omega) ?_
    have hv := valB_take_lt l 5
    have hst : dstep (d0 size) (l.drop 0) = turn (d0 size) (valB (l.take 5)) 5 := by
      unfold dstep
      rw [if_pos (show (d0 size).now = 0 from rfl), List.drop_zero, if_neg (by omega)]
    generalize valB (l.take 5) = now0 at *
    refine r_ci64 (by omega) (by omega) ?_
    refine r_join1 (fun y w' => w1 = w' ∧ y = .bool (decide (now0 < 1 ∨ 20 < now0))) ?_ ?_
    rotate_left
    · refine r_lss (r_ifD (fun h2 => ?_) fun h2 => ?_)
      · repeat (first | refine r_ke ?_)
        exact ⟨rfl, by rw [decide_eq_true (by omega)]⟩
      · repeat (first | refine r_ke ?_ | refine r_gtr ?_)
        exact ⟨rfl, congrArg Value.bool (by rw [Bool.eq_iff_iff, decide_eq_true_iff, decide_eq_true_iff]; omega)⟩
    rintro _ _ _ ⟨rfl, rfl⟩
    refine r_ifD (fun h2 => ?_) fun h2 => ?_
    · refine q_ret 0 H1 [nilV, iv 0, iv 22] rfl (by kernel_rfl) rfl rfl rfl fun w2 S2 H2 => ?_
      refine kb _ _ .start hd0 ?_ _ (S1.trans S2) H2.drop
      rw [hst]; unfold turn; rw [if_pos (by omega)]
    · have hr0 : DRun size l ⟨size, now0, []⟩ 5 := by
        have := Run.start.next (step := dstep) (done := DS.done) (s0 := d0 size) (l := l) hd0 (hst.trans (by unfold turn; rw [if_neg (by omega)]))
        rw [Nat.zero_add] at this; exact this
      refine r_loop3 (fun n lv a w' => ∃ (now at_ : Nat) (lens : List Nat), n = nv now ∧ a = nv at_ ∧ 1 ≤ now ∧ now ≤ 20 ∧ at_ ≤ l.length ∧ DRun size l ⟨size, now, lens⟩ at_ ∧ Same w w' ∧ Holds w' (SL nv tI lv lens :: blk rb tD [nilV, iv 0, iv 0] :: L))
        (fun _ _ a _ => l.length + 1 - (RowKit.intOf a).toNat) ⟨now0, 5, [], rfl, rfl, by omega, by omega, by omega, hr0, S1, H1.nilSL nv tI⟩ ?_
      clear H1 S1 hst h h2 hr0 hv
      rintro _ _ lv _ w2 ⟨now, at_, lens, rfl, rfl, hn1, hn2, ha, hr, S, H⟩
      have hok := hr.ok.1.len
      simp only at hok
      refine r_lnS 0 H rfl ?_
      refine r_lss (r_ifD (fun h => ?_) fun h => ?_)
      · have hnd : DS.done ⟨size, now, lens⟩ = false := decide_eq_false (by simp only; omega)
        refine q_len ?_
        rw [txt_len]
        refine r_eql (r_ifE (fun h2 => ?_) fun h2 => ?_)
        · refine q_ret 1 H [nilV, iv 0, iv 3] rfl (by kernel_rfl) rfl rfl rfl fun w3 S3 H3 => ?_
          refine ks _ _ hr hnd ?_ _ (S.trans S3) (Holds.dropAt (Holds.dropAt H3 1) 0)
          unfold dstep
          rw [if_neg (by simp only; omega), List.drop_of_length_le (by omega)]
        · have hlt : at_ < l.length := by omega
          have hdr := drop_cons hlt
          refine q_ix (by rw [txt_len]; exact hlt) ?_
          rw [txt_at hlt]
          refine r_eql ?_
          rw [chr_48]
          cases hb : l.getD at_ false with
          | false =>
            rw [hb] at hdr
            refine r_vt ?_
            refine r_app1 H 0 rfl now (fun _ => rfl) (by omega) fun v3 w3 S3 H3 => ?_
            replace H3 : Holds w3 (SL nv tI v3 (lens ++ [now]) :: blk rb tD [nilV, iv 0, iv 0] :: L) := H3
            repeat (first | refine r_ke ?_ | (refine r_add1N (by omega) ?_))
            refine ⟨⟨now, at_ + 1, lens ++ [now], rfl, rfl, hn1, hn2, by omega, hr.next hnd ?_, S.trans S3, H3⟩, ?_⟩
            · rw [hdr]; unfold dstep; rw [if_neg (by simp only; omega)]
            · simp [nv, RowKit.intOf]
              omega
          | true =>
            rw [hb] at hdr
            refine r_vf ?_
            repeat (first | refine r_lns ?_ | refine r_eql ?_ | (refine r_add1N (by omega) ?_))
            rw [sz, txt_len]
            refine r_ifE (fun h4 => ?_) fun h4 => ?_
            · refine q_ret 1 H [nilV, iv 0, iv 3] rfl (by kernel_rfl) rfl rfl rfl fun w3 S3 H3 => ?_
              refine ks _ _ hr hnd ?_ _ (S.trans S3) (Holds.dropAt (Holds.dropAt H3 1) 0)
              rw [hdr, List.drop_of_length_le (by omega)]
              unfold dstep
              rw [if_neg (by simp only; omega)]
            · have hlt2 : at_ + 1 < l.length := by omega
              rw [drop_cons hlt2] at hdr
              have hst : dstep ⟨size, now, lens⟩ (l.drop at_) = turn ⟨size, now, lens⟩ ((now : Int) + 1 - 2 * (l.getD (at_ + 1) false).toNat) 2 := by
                rw [hdr]; unfold dstep; rw [if_neg (by simp only; omega)]
              refine r_join1 (fun y w' => w2 = w' ∧ y = iv ((now : Int) + 1 - 2 * (l.getD (at_ + 1) false).toNat)) ?_ ?_
              · generalize hnow : (now : Int) + 1 - 2 * (l.getD (at_ + 1) false).toNat = nw at *
                rintro _ _ _ ⟨rfl, rfl⟩
                have hb2 := Bool.toNat_le (l.getD (at_ + 1) false)
                refine r_join1 (fun y w' => w2 = w' ∧ y = .bool (decide (nw < 1 ∨ 20 < nw))) ?_ ?_
                rotate_left
                · refine r_lss (r_ifD (fun h2 => ?_) fun h2 => ?_)
                  · repeat (first | refine r_ke ?_)
                    exact ⟨rfl, by rw [decide_eq_true (by omega)]⟩
                  · repeat (first | refine r_ke ?_ | refine r_gtr ?_)
                    exact ⟨rfl, congrArg Value.bool (by rw [Bool.eq_iff_iff, decide_eq_true_iff, decide_eq_true_iff]; omega)⟩
                rintro _ _ _ ⟨rfl, rfl⟩
                refine r_ifD (fun h5 => ?_) fun h5 => ?_
                · refine q_ret 1 H [nilV, iv 0, iv 22] rfl (by kernel_rfl) rfl rfl rfl fun w3 S3 H3 => ?_
                  refine kb _ _ hr hnd ?_ _ (S.trans S3) (Holds.dropAt (Holds.dropAt H3 1) 0)
                  rw [hst]; unfold turn; rw [if_pos h5]
                · repeat (first | refine r_ke ?_ | (refine r_add (by omega) (by omega) ?_))
                  refine ⟨⟨nw.toNat, at_ + 2, lens, ?_, rfl, by omega, by omega, by omega, hr.next hnd (hst.trans (by unfold turn; rw [if_neg h5])), S, H⟩, ?_⟩
                  · exact congrArg (Value.int .i64) (by omega)
                  · simp [nv, RowKit.intOf]
                    omega
              · repeat (refine r_add1N (by omega) ?_)
                refine q_ix (by rw [txt_len]; exact hlt2) ?_
                rw [txt_at hlt2]
                refine r_eql ?_
                rw [chr_48]
                cases l.getD (at_ + 1) false with
                | false =>
                  refine r_vt ?_
                  repeat (first | refine r_ke ?_ | (refine r_add1N (by omega) ?_))
                  exact ⟨rfl, by simp⟩
                | true =>
                  refine r_vf ?_
                  repeat (first | refine r_ke ?_ | (refine r_sub1N (by omega) (by omega) ?_))
                  exact ⟨rfl, congrArg (Value.int .i64) (by simp; omega)⟩
      · have hdn : DS.done ⟨size, now, lens⟩ = true := decide_eq_true (by simp only; omega)
        obtain ⟨oa, c1, c2, rfl⟩ := SL_slice H 0 rfl
        refine q_ret 1 H [.slice oa c1 c2, nv at_, iv 0] rfl (by kernel_rfl) rfl rfl rfl fun w3 S3 H3 => ?_
        exact k _ _ _ hr hdn ha _ (S.trans S3) (Holds.dropAt H3 1)
theorem ones_spec {l : List Bool} (hl : l.length ≤ 1000000) (k : K (nv (lead l)) w) : Cl Tryz.prog F.balerref13_ones #[S_ (txt l)] w K := by
  refine Tie.balerref13_ones ?_
  unfold Vcf.balerref13_ones
  have hle := lead_le l
  refine r_loop1 (fun i w' => ∃ j : Nat, j ≤ lead l ∧ i = nv j ∧ w = w') (fun i _ => lead l - (RowKit.intOf i).toNat) ⟨0, by omega, rfl, rfl⟩ ?_
  rintro _ _ _ ⟨j, hj, rfl, rfl⟩
  refine r_join1 (fun y w' => w = w' ∧ y = .bool (decide (j < lead l))) ?_ ?_
  · rintro _ _ _ ⟨rfl, rfl⟩
    refine r_ifD (fun h => ?_) fun h => ?_
    · repeat (first | refine r_ke ?_ | (refine r_add1N (by omega) ?_))
      refine ⟨⟨j + 1, by omega, rfl, (by trivial)⟩, ?_⟩
      simp [nv, RowKit.intOf]
      omega
    · obtain rfl : j = lead l := by omega
      exact k
  · refine q_len ?_
    rw [txt_len]
    refine r_lss (r_ifD (fun h => ?_) fun h => ?_)
    · have hlt : j < l.length := by omega
      refine q_ix (by rw [txt_len]; exact hlt) ?_
      rw [txt_at hlt]
      refine r_eql ?_
      rw [chr_49]
      refine r_ke ⟨rfl, congrArg Value.bool ?_⟩
      rcases Nat.lt_or_ge j (lead l) with h2 | h2
      · have := lead_lt l j h2
        rw [decide_eq_true h2, List.getD_eq_getElem?_getD, this]; rfl
      · have : j = lead l := by omega
        subst this
        have := lead_at l hlt
        rw [decide_eq_false (by omega), List.getD_eq_getElem?_getD, this]; rfl
    · refine r_ke ⟨rfl, ?_⟩
      rw [decide_eq_false (by omega)]
def letters (o : List Nat) : List UInt8 := o.map fun x => UInt8.ofNat (48 + x)
theorem letters_front {o : List Nat} {i : Nat} (h : i < o.length) : frontB (letters o) i = letters (front o i) := by
  unfold frontB front letters
  rw [List.map_cons, List.map_append, List.map_take, List.map_drop]
  congr 1
  simp [List.getD_eq_getElem?_getD, h]
theorem letters_len (o : List Nat) : (letters o).length = o.length := by simp [letters]
theorem letters_at {o : List Nat} {i : Nat} (h : i < o.length) (h6 : o.getD i 0 < 6) : (((letters o).getD i 0).toNat : Int) = 48 + (o.getD i 0 : Nat) := by
  have : (letters o).getD i 0 = UInt8.ofNat (48 + o.getD i 0) := by simp [letters, List.getD_eq_getElem?_getD, h]
  rw [this, UInt8.toNat_ofNat_of_lt' (by simp only [UInt8.size]; omega)]; omega
abbrev tP : Nat := 152
theorem Read13_spec {l : List Bool} (H : Holds w L) (hl : l.length ≤ 1000000)
    (ks : ∀ p k, PRun l p k → p.done = false → pstep p (l.drop k) = .short → ∀ w', Same w w' → Holds w' L → K (.agg #[nilV, iv 0, iv 0, iv 0, iv 3]) w')
    (kb : ∀ p k, PRun l p k → p.done = false → pstep p (l.drop k) = .bad 25 → ∀ (to : Nat) w', Same w w' → Holds w' L → K (.agg #[nilV, iv 0, iv 0, nv to, iv 25]) w')
    (k : ∀ p k lv, PRun l p k → p.done = true → k ≤ l.length → ∀ w', Same w w' → Holds w' (SL nv tI lv p.picks :: L) → K (.agg #[lv, nv p.t, nv k, nv k, iv 0]) w') : Cl Tryz.prog F.balerref13_Read #[S_ (txt l)] w K := by
  refine Tie.balerref13_Read ?_
  unfold Vcf.balerref13_Read
  have hz : (zeroP Tryz.prog tP).cells.toList = [nilV, iv 0, iv 0, iv 0, iv 0] := by kernel_rfl
  refine r_new H fun rb w1 S1 H1 => ?_
  rw [hz] at H1
  clear H
  refine q_len ?_
  rw [txt_len]
  have hd0 : p0.done = false := rfl
  refine r_lss (r_ifD (fun h => ?_) fun h => ?_)
  · refine q_ret 0 H1 [nilV, iv 0, iv 0, iv 0, iv 3] rfl (by kernel_rfl) rfl rfl rfl fun w2 S2 H2 => ?_
    refine ks _ _ .start hd0 ?_ _ (S1.trans S2) H2.drop
    unfold pstep p0
    rw [if_pos rfl, List.drop_zero, if_pos (by omega)]
  · have h18 := valB_18 (l := l) (by omega)
    refine q_T (m := 3) (by rw [txt_len]; omega) ?_
    rw [txt_take]
    refine Number_spec (by rw [List.length_take]; omega) ?_
    have hv3 := valB_take_lt l 3
    have hv15 := valB_take_lt (l.drop 3) 15
    refine r_ci64 (by omega) (by omega) ?_
    refine q_M (a := 3) (b := 18) (by decide) (by rw [txt_len]; omega) ?_
    rw [txt_take, txt_drop, show (l.take 18).drop 3 = (l.drop 3).take 15 by rw [List.drop_take]]
    refine Number_spec (by rw [List.length_take]; omega) ?_
    refine r_ci64 (by omega) (by omega) ?_
    have hst : pstep p0 (l.drop 0) = if valB (l.take 3) < 2 ∨ 6 < valB (l.take 3) ∨ valB ((l.drop 3).take 15) = 0 then .bad 25 else .ok ⟨valB (l.take 3), valB ((l.drop 3).take 15), [0, 1, 2, 3, 4, 5], []⟩ 18 := by
      unfold pstep p0
      rw [if_pos rfl, List.drop_zero, if_neg (by omega), h18.1, h18.2]
    generalize valB (l.take 3) = t at *
    generalize valB ((l.drop 3).take 15) = count at *
    refine r_join1 (fun y w' => w1 = w' ∧ y = .bool (decide (t < 2 ∨ 6 < t ∨ count = 0))) ?_ ?_
    rotate_left
    · refine r_lss (r_ifD (fun h2 => ?_) fun h2 => ?_)
      · repeat (first | refine r_ke ?_)
        exact ⟨rfl, by rw [decide_eq_true (by omega)]⟩
      · refine r_gtr (r_ifD (fun h3 => ?_) fun h3 => ?_)
        · repeat (first | refine r_ke ?_)
          exact ⟨rfl, by rw [decide_eq_true (by omega)]⟩
        · exact r_eql (r_ke ⟨rfl, congrArg Value.bool (by rw [Bool.eq_iff_iff, beq_iff_eq, decide_eq_true_iff]; omega)⟩)
    rintro _ _ _ ⟨rfl, rfl⟩
    refine r_ifD (fun h2 => ?_) fun h2 => ?_
    · rw [if_pos h2] at hst
      refine q_ret 0 H1 [nilV, iv 0, iv 0, nv 18, iv 25] rfl (by kernel_rfl) rfl rfl rfl fun w2 S2 H2 => ?_
      exact kb _ _ .start hd0 hst 18 _ (S1.trans S2) H2.drop
    · rw [if_neg h2] at hst
      have hr0 : PRun l ⟨t, count, [0, 1, 2, 3, 4, 5], []⟩ 18 := by
        have := Run.start.next (step := pstep) (done := PS.done) (s0 := p0) (l := l) hd0 hst
        rw [Nat.zero_add] at this; exact this
      refine r_loop3 (fun o lv a w' => ∃ (at_ : Nat) (od ps : List Nat), o = S_ (letters od) ∧ a = nv at_ ∧ od.length = 6 ∧ (∀ x ∈ od, x < 6) ∧ at_ ≤ l.length ∧ PRun l ⟨t, count, od, ps⟩ at_ ∧ Same w w' ∧ Holds w' (SL nv tI lv ps :: blk rb tP [nilV, iv 0, iv 0, iv 0, iv 0] :: L))
        (fun _ _ a _ => l.length + 1 - (RowKit.intOf a).toNat) ⟨18, [0, 1, 2, 3, 4, 5], [], rfl, rfl, rfl, by decide, by omega, hr0, S1, H1.nilSL nv tI⟩ ?_
      clear H1 S1 hst h hr0
      rintro _ _ lv _ w2 ⟨at_, od, ps, rfl, rfl, ho6, holt, ha, hr, S, H⟩
      have hok := hr.ok.len
      simp only at hok
      have hdl : (l.drop at_).length = l.length - at_ := List.length_drop
      have hle := lead_le (l.drop at_)
      refine r_lnS 0 H rfl ?_
      refine r_lss (r_ifD (fun h => ?_) fun h => ?_)
      · have hnd : PS.done ⟨t, count, od, ps⟩ = false := decide_eq_false (by simp only; omega)
        have hst : pstep ⟨t, count, od, ps⟩ (l.drop at_) = if t ≤ lead (l.drop at_) then .bad 25 else if lead (l.drop at_) = (l.drop at_).length then .short else .ok ⟨t, count, front od (lead (l.drop at_)), ps ++ [od.getD (lead (l.drop at_)) 0]⟩ (lead (l.drop at_) + 1) := by
          unfold pstep; rw [if_neg (by simp only; omega)]
        refine q_D (by rw [txt_len]; exact ha) ?_
        rw [txt_drop]
        refine ones_spec (by omega) ?_
        generalize lead (l.drop at_) = n at *
        refine r_geq (r_ifD (fun h3 => ?_) fun h3 => ?_)
        · rw [if_pos (by omega)] at hst
          repeat (refine r_addN (by omega) ?_)
          refine q_ret 1 H [nilV, iv 0, iv 0, nv (at_ + t), iv 25] rfl (by kernel_rfl) rfl rfl rfl fun w3 S3 H3 => ?_
          exact kb _ _ hr hnd hst _ _ (S.trans S3) (Holds.dropAt (Holds.dropAt H3 1) 0)
        · rw [if_neg (by omega)] at hst
          repeat (first | refine r_lns ?_ | refine r_eql ?_ | (refine r_addN (by omega) ?_))
          rw [sz, txt_len]
          refine r_ifE (fun h4 => ?_) fun h4 => ?_
          · rw [if_pos (by omega)] at hst
            refine q_ret 1 H [nilV, iv 0, iv 0, iv 0, iv 3] rfl (by kernel_rfl) rfl rfl rfl fun w3 S3 H3 => ?_
            exact ks _ _ hr hnd hst _ (S.trans S3) (Holds.dropAt (Holds.dropAt H3 1) 0)
          · rw [if_neg (by omega)] at hst
            have hn6 : n < od.length := by omega
            have hx6 : od.getD n 0 < 6 := by
              rw [List.getD_eq_getElem?_getD, List.getElem?_eq_getElem hn6]
              exact holt _ (List.getElem_mem hn6)
            refine q_ix (by rw [letters_len]; exact hn6) ?_
            have hlt := letters_at hn6 hx6
            have hln := ((letters od).getD n 0).toNat_lt
            refine r_ci64 (by omega) (by omega) ?_
            refine r_sub (by omega) (by omega) ?_
            rw [show (((letters od).getD n 0).toNat : Int) - 48 = ((od.getD n 0 : Nat) : Int) by omega]
            refine r_app1 H 0 rfl (od.getD n 0) (fun _ => rfl) (by have := hr.ok.cnt; simp only at this; omega) fun v3 w3 S3 H3 => ?_
            replace H3 : Holds w3 (SL nv tI v3 (ps ++ [od.getD n 0]) :: blk rb tP [nilV, iv 0, iv 0, iv 0, iv 0] :: L) := H3
            refine Touch_spec H3 (by rw [letters_len]; omega) (by rw [letters_len]; exact hn6) fun w4 S4 H4 => ?_
            rw [letters_front hn6]
            repeat (first | refine r_ke ?_ | (refine r_add1N (by omega) ?_) | (refine r_addN (by omega) ?_))
            refine ⟨⟨at_ + n + 1, front od n, ps ++ [od.getD n 0], rfl, rfl, by rw [front_len hn6]; exact ho6, ?_, by omega, ?_, (S.trans S3).trans S4, H4⟩, ?_⟩
            · intro x hx
              unfold front at hx
              rcases List.mem_cons.1 hx with h | h
              · rw [h]; exact hx6
              · rcases List.mem_append.1 h with h | h
                · exact holt x (List.mem_of_mem_take h)
                · exact holt x (List.mem_of_mem_drop h)
            · rw [Nat.add_assoc]; exact hr.next hnd hst
            · simp [nv, RowKit.intOf]
              omega
      · have hdn : PS.done ⟨t, count, od, ps⟩ = true := decide_eq_true (by simp only; omega)
        obtain ⟨oa, c1, c2, rfl⟩ := SL_slice H 0 rfl
        refine q_ret 1 H [.slice oa c1 c2, nv t, nv at_, nv at_, iv 0] rfl (by kernel_rfl) rfl rfl rfl fun w3 S3 H3 => ?_
        exact k _ _ _ hr hdn ha _ (S.trans S3) (Holds.dropAt H3 1)
end P20
end Go.Proofs.YtoomfeeiehfpmaaGreatDoor
/- Chapter 14: the tables that bits tell, by the document. -/
set_option linter.unusedVariables false
set_option linter.unusedSimpArgs false
namespace Go.Proofs.YtoomfeeiehfpmaaGreatDoor
open Go Go.Vc
attribute [local irreducible] Go.Vc.Nc Go.Vc.Ld Go.Vc.LdA Go.Vc.St Go.Vc.StA Go.Vc.Fo Go.Vc.Iaa Go.Vc.Ias Go.Vc.Ixs Go.Vc.Ixa Go.Vc.Fd Go.Vc.FdA Go.Vc.Bp Go.Vc.Bb Go.Vc.Bn Go.Vc.Up Go.Vc.Ci Go.Vc.Lns Go.Vc.Lnl Go.Vc.Ex Go.Vc.Sst Go.Vc.Ssl Go.Vc.New Go.Vc.Vif Go.Vc.VJoin Go.Vc.VLoop Go.Vc.KE Go.Vc.Dr Go.Vc.Rk Go.Vc.Cl Go.Vc.Cx Go.Vc.Inv Go.Vc.Be Go.Vc.Cv Go.Vc.Cw Go.Vc.Mf Go.Vc.Sl Go.Vc.Lk Go.Vc.Bd Go.Vc.Bs Go.Vc.Ms Go.Vc.Mm Go.Vc.Mu Go.Vc.Me Go.Vc.Es Go.Vc.Rg Go.Vc.Nx Go.Vc.Ta Go.Vc.Ap Go.Vc.Usd Go.Vc.Ust Go.Vc.Cp Go.Vc.Ln Go.Vc.Bc Go.Vc.Bmin Go.Vc.Bmax Go.Vc.Bdel Go.Vc.Bclr Go.Vc.Pk
namespace P20
open Go.M01 Go.Mb Go.Mp Go.M10 Go.Mc Go.Mz Go.Mk Go.Q20 Go.Q21 Go.Q22
variable {w : World} {L : List HProp} {K : Value → World → Prop}
abbrev tSs : Nat := 149
abbrev Sv : Type := Option Addr × Nat × Nat
abbrev sv (x : Sv) : Value := .slice x.1 x.2.1 x.2.2
theorem sg_sv (x : Sv) : sg (sv x) = true := rfl
instance rowSs : Row Tryz.prog 147 tSs (.slice none 0 0) := ⟨by kernel_rfl, ⟨Tryz.t149, by kernel_rfl, by kernel_rfl, by decide, by kernel_rfl⟩, rfl⟩
def RowsC (vs : List Sv) (cs : List (List Nat)) : HProp := Sat ((vs.zip cs).map fun x => SL S_ tS (sv x.1) (codesL x.2))
theorem rows_get {vs : List Sv} {cs : List (List Nat)} {i : Nat} {b : Sv} {l : List Nat} (hb : vs[i]? = some b) (hc : cs[i]? = some l) : ∃ A, (∀ h, Sat (RowsC vs cs :: L) h → Sat (SL S_ tS (sv b) (codesL l) :: A) h) ∧ ∀ h, Sat (SL S_ tS (sv b) (codesL l) :: A) h → Sat (RowsC vs cs :: L) h := by
  have hz : ((vs.zip cs).map fun x => SL S_ tS (sv x.1) (codesL x.2))[i]? = some (SL S_ tS (sv b) (codesL l)) := by
    rw [List.getElem?_map, (List.getElem?_zip_eq_some (z := (b, l))).2 ⟨hb, hc⟩]; rfl
  have hlt : i < ((vs.zip cs).map fun x => SL S_ tS (sv x.1) (codesL x.2)).length := (List.getElem?_eq_some_iff.1 hz).1
  have hz2 : (((vs.zip cs).map fun x => SL S_ tS (sv x.1) (codesL x.2)) ++ L)[i]? = some (SL S_ tS (sv b) (codesL l)) := by rw [List.getElem?_append_left hlt]; exact hz
  refine ⟨(((vs.zip cs).map fun x => SL S_ tS (sv x.1) (codesL x.2)) ++ L).eraseIdx i, fun h H => Sat.pull i (Sat.unpack H) hz2, fun h H => ?_⟩
  have := Sat.push i hz2 H
  have e : (((vs.zip cs).map fun x => SL S_ tS (sv x.1) (codesL x.2)) ++ L).set i (SL S_ tS (sv b) (codesL l)) = ((vs.zip cs).map fun x => SL S_ tS (sv x.1) (codesL x.2)) ++ L := by
    have hl : i < (((vs.zip cs).map fun x => SL S_ tS (sv x.1) (codesL x.2)) ++ L).length := (List.getElem?_eq_some_iff.1 hz2).1
    have e1 : (((vs.zip cs).map fun x => SL S_ tS (sv x.1) (codesL x.2)) ++ L)[i] = _ := (List.getElem?_eq_some_iff.1 hz2).2
    rw [← e1, List.set_getElem_self]
  rw [e] at this
  exact Sat.pack this
theorem rows_add {vs : List Sv} {cs : List (List Nat)} {b : Sv} {l : List Nat} (hl : vs.length = cs.length) (H : Holds w (SL S_ tS (sv b) (codesL l) :: RowsC vs cs :: L)) : Holds w (RowsC (vs ++ [b]) (cs ++ [l]) :: L) := by
  have H2 := Holds.unpack (A := (vs.zip cs).map fun x => SL S_ tS (sv x.1) (codesL x.2)) H.swap
  unfold RowsC
  rw [List.zip_append hl, List.map_append]
  refine Holds.pack ?_
  rw [List.append_assoc]
  exact H2
theorem rows_nil (H : Holds w L) : Holds w (RowsC [] [] :: L) := Holds.pack (A := []) H
abbrev tTb : Nat := 155
structure Tab (size : Nat) (p : PS) (c : CS) (j : Nat) : Prop where
  picks : c.picks = p
  codes : c.codes.length = j
  lens : c.lens = d0 c.size
  count : c.count = 0
  done : c.done = false
  size : c.size = size
theorem tables_spec {l : List Bool} {kp size : Nat} {p : PS} (H : Holds w L) (hl : l.length ≤ 1000000) (h3 : 3 ≤ size) (h258 : size ≤ 258) (hp : p.done = true) (hpo : p.Ok) (hkp : kp ≤ l.length)
    (hr : CRun size l ⟨size, p, d0 size, [], 0, false⟩ [] kp)
    (ks : ∀ c k, CRun size l c [] k → c.done = false → cstep c (l.drop k) = .short → ∀ x w', Same w w' → Holds w' L → K (.agg #[sv x, iv 0, iv 3]) w')
    (kb : ∀ c k, CRun size l c [] k → c.done = false → cstep c (l.drop k) = .bad 22 → ∀ x w', Same w w' → Holds w' L → K (.agg #[sv x, iv 0, iv 22]) w')
    (k : ∀ c bits x vs, CRun size l c [] (kp + bits) → Tab size p c p.t → kp + bits ≤ l.length → vs.length = c.codes.length → ∀ w', Same w w' → Holds w' (SL sv tSs (sv x) vs :: RowsC vs c.codes :: L) → K (.agg #[sv x, nv bits, iv 0]) w') :
    Cl Tryz.prog F.balerref14_readTables #[S_ (txt (l.drop kp)), nv p.t, nv size] w K := by
  refine Tie.balerref14_readTables ?_
  unfold Vcf.balerref14_readTables
  have hz : (zeroP Tryz.prog tTb).cells.toList = [nilV, iv 0, iv 0] := by kernel_rfl
  have hzd : (zeroP Tryz.prog tD).cells.toList = [nilV, iv 0, iv 0] := by kernel_rfl
  have ht6 : p.t ≤ 6 := by
    rcases Nat.eq_zero_or_pos p.count with h | h
    · rw [(hpo.new h).1]; omega
    · exact (hpo.tbl h).2
  refine r_new H fun rb w1 S1 H1 => ?_
  rw [hz] at H1
  refine r_bd (v := .agg [nilV, iv 0, iv 0].toArray) (by kernel_rfl) ?_
  refine r_new H1 fun ob w2 S2 H2 => ?_
  rw [hz] at H2
  refine r_stA 0 H2 (vs := [nilV, iv 0, iv 0]) rfl (by simp) rfl rfl fun w3 S3 H3 => ?_
  replace H3 : Holds w3 (blk ob tTb [nilV, iv 0, iv 0] :: blk rb tTb [nilV, iv 0, iv 0] :: L) := H3
  refine r_loop1 (fun i w' => ∃ (j bits : Nat) (c : CS) (x : Sv) (vs : List Sv), j ≤ p.t ∧ i = nv j ∧ CRun size l c [] (kp + bits) ∧ Tab size p c j ∧ kp + bits ≤ l.length ∧ vs.length = c.codes.length ∧ Same w w' ∧
      Holds w' (SL sv tSs (sv x) vs :: RowsC vs c.codes :: blk ob tTb [sv x, nv bits, iv 0] :: blk rb tTb [nilV, iv 0, iv 0] :: L))
    (fun i _ => p.t - (RowKit.intOf i).toNat) ⟨0, 0, _, (none, 0, 0), [], by omega, rfl, hr, ⟨rfl, rfl, rfl, rfl, rfl, rfl⟩, hkp, rfl, (S1.trans S2).trans S3, (rows_nil H3).nilSL sv tSs⟩ ?_
  clear H H1 H2 H3 S1 S2 S3 hr
  rintro _ _ w4 ⟨j, bits, c, x, vs, hj, rfl, hr, hT, hkb, hvs, S, H⟩
  refine r_lss (r_ifD (fun h => ?_) fun h => ?_)
  · have hjt : j < p.t := by omega
    have hpd : c.picks.done = true := by rw [hT.picks]; exact hp
    have hct : c.codes.length < c.picks.t := by rw [hT.picks, hT.codes]; exact hjt
    have hdl : (l.drop kp).length = l.length - kp := List.length_drop
    refine r_fo0 (r_ld 2 H rfl rfl ?_)
    refine q_D (by rw [txt_len]; omega) ?_
    rw [txt_drop, List.drop_drop]
    have hl2 : (l.drop (kp + bits)).length = l.length - (kp + bits) := List.length_drop
    have lift := fun {d : DS} {k2 : Nat} (h : DRun c.size (l.drop (kp + bits)) d k2) => lens_lift hpd hct hT.lens hT.done (by rw [hT.size]; exact h3) hr h
    refine Read11_spec H (by omega) h3 h258 (fun d k2 hd hnd hst w5 S5 H5 => ?_) (fun d k2 hd hnd hst w5 S5 H5 => ?_) fun d k2 lv hd hdn hk2 w5 S5 H5 => ?_
    · have hlf := lift (by rw [hT.size]; exact hd)
      rw [if_neg (by rw [hnd]; simp)] at hlf
      refine r_new H5 fun gb w6 S6 H6 => ?_
      rw [hzd] at H6
      refine r_stA 0 H6 (vs := [nilV, iv 0, iv 3]) rfl (by simp) rfl rfl fun w7 S7 H7 => ?_
      replace H7 : Holds w7 (blk gb tD [nilV, iv 0, iv 3] :: SL sv tSs (sv x) vs :: RowsC vs c.codes :: blk ob tTb [sv x, nv bits, iv 0] :: blk rb tTb [nilV, iv 0, iv 0] :: L) := H7
      refine r_fo0 (r_ld 0 H7 rfl rfl ?_)
      refine r_neq (r_vtN (by decide) ?_)
      refine r_fo0 (r_ld 3 H7 rfl rfl ?_)
      refine r_fo0 (r_ld 0 H7 rfl rfl ?_)
      refine q_ret 4 H7 [sv x, iv 0, iv 3] rfl (by kernel_rfl) rfl rfl rfl fun w8 S8 H8 => ?_
      exact ks _ _ hlf hT.done (lens_stop hpd hct hst) x _ ((((S.trans S5).trans S6).trans S7).trans S8) (Holds.dropAt (Holds.dropAt (Holds.dropAt (Holds.dropAt (Holds.dropAt H8 4) 3) 2) 1) 0)
    · have hlf := lift (by rw [hT.size]; exact hd)
      rw [if_neg (by rw [hnd]; simp)] at hlf
      refine r_new H5 fun gb w6 S6 H6 => ?_
      rw [hzd] at H6
      refine r_stA 0 H6 (vs := [nilV, iv 0, iv 22]) rfl (by simp) rfl rfl fun w7 S7 H7 => ?_
      replace H7 : Holds w7 (blk gb tD [nilV, iv 0, iv 22] :: SL sv tSs (sv x) vs :: RowsC vs c.codes :: blk ob tTb [sv x, nv bits, iv 0] :: blk rb tTb [nilV, iv 0, iv 0] :: L) := H7
      refine r_fo0 (r_ld 0 H7 rfl rfl ?_)
      refine r_neq (r_vtN (by decide) ?_)
      refine r_fo0 (r_ld 3 H7 rfl rfl ?_)
      refine r_fo0 (r_ld 0 H7 rfl rfl ?_)
      refine q_ret 4 H7 [sv x, iv 0, iv 22] rfl (by kernel_rfl) rfl rfl rfl fun w8 S8 H8 => ?_
      exact kb _ _ hlf hT.done (lens_bad hpd hct hst) x _ ((((S.trans S5).trans S6).trans S7).trans S8) (Holds.dropAt (Holds.dropAt (Holds.dropAt (Holds.dropAt (Holds.dropAt H8 4) 3) 2) 1) 0)
    · have hlf := lift (by rw [hT.size]; exact hd)
      rw [if_pos hdn] at hlf
      have hdok := hd.ok
      have hdl2 : d.lens.length ≤ 258 := by have := hdok.1.len; rw [hdok.2] at this; omega
      obtain ⟨oa, c1, c2, rfl⟩ := SL_slice H5 0 rfl
      refine r_new H5 fun gb w6 S6 H6 => ?_
      rw [hzd] at H6
      refine r_stA 0 H6 (vs := [.slice oa c1 c2, nv k2, iv 0]) rfl (by simp) rfl rfl fun w7 S7 H7 => ?_
      replace H7 : Holds w7 (blk gb tD [.slice oa c1 c2, nv k2, iv 0] :: SL nv tI (.slice oa c1 c2) d.lens :: SL sv tSs (sv x) vs :: RowsC vs c.codes :: blk ob tTb [sv x, nv bits, iv 0] :: blk rb tTb [nilV, iv 0, iv 0] :: L) := H7
      replace S := ((S.trans S5).trans S6).trans S7
      clear H H5 H6 S5 S6 S7
      refine r_fo0 (r_ld 0 H7 rfl rfl ?_)
      refine r_neq (r_vfN rfl ?_)
      refine r_fo0 (r_ld 4 H7 rfl rfl ?_)
      refine r_fo0 (r_ld 0 H7 rfl rfl ?_)
      refine r_addN (by omega) ?_
      refine r_fo0 ?_
      refine r_st 4 H7 rfl (by simp) rfl fun w8 S8 H8 => ?_
      replace H8 : Holds w8 (blk gb tD [.slice oa c1 c2, nv k2, iv 0] :: SL nv tI (.slice oa c1 c2) d.lens :: SL sv tSs (sv x) vs :: RowsC vs c.codes :: blk ob tTb [sv x, nv (bits + k2), iv 0] :: blk rb tTb [nilV, iv 0, iv 0] :: L) := H8
      replace S := S.trans S8
      clear H7 S8
      refine r_fo0 (r_ld 0 H8 rfl rfl ?_)
      refine Whole_spec H8.drop hdok.1.all (by omega) ?_
      by_cases hsh : share d.lens = 1048576
      · rw [if_pos hsh] at hlf
        rw [decide_eq_true hsh]
        refine r_notT (r_vf ?_)
        refine r_dr H8 fun w9 S9 H9 => ?_
        refine r_fo0 (r_ld 4 H9 rfl rfl ?_)
        refine r_fo0 (r_ld 0 H9 rfl rfl ?_)
        have H10 : Holds w9 (SL nv tI (.slice oa c1 c2) d.lens :: SL sv tSs (sv x) vs :: RowsC vs c.codes :: blk ob tTb [sv x, nv (bits + k2), iv 0] :: blk rb tTb [nilV, iv 0, iv 0] :: L) := H9.drop
        refine Codes_spec H10 ⟨hdok.1.all, hsh⟩ (by omega) fun cv w10 S10 H11 => ?_
        obtain ⟨ca, e1, e2, rfl⟩ := SL_slice H11 0 rfl
        refine r_rk (r_ld 4 H11 rfl rfl rfl) ?_
        have hvl : vs.length ≤ 6 := by rw [hvs, hT.codes]; omega
        refine r_app1K (f := sv) H11 2 rfl (ca, e1, e2) sg_sv (by omega) (fun w' H' => r_ld 4 H' rfl rfl rfl) fun v' w11 S11 H12 => ?_
        obtain ⟨xa, x1, x2, rfl⟩ := SL_slice H12 2 rfl
        replace H12 : Holds w11 (SL S_ tS (sv (ca, e1, e2)) (codesL d.lens) :: SL nv tI (.slice oa c1 c2) d.lens :: SL sv tSs (sv (xa, x1, x2)) (vs ++ [(ca, e1, e2)]) :: RowsC vs c.codes :: blk ob tTb [sv x, nv (bits + k2), iv 0] :: blk rb tTb [nilV, iv 0, iv 0] :: L) := H12
        refine r_fo0 ?_
        refine r_st 4 H12 rfl (by simp) rfl fun w12 S12 H13 => ?_
        replace H13 : Holds w12 (SL S_ tS (sv (ca, e1, e2)) (codesL d.lens) :: SL nv tI (.slice oa c1 c2) d.lens :: SL sv tSs (sv (xa, x1, x2)) (vs ++ [(ca, e1, e2)]) :: RowsC vs c.codes :: blk ob tTb [sv (xa, x1, x2), nv (bits + k2), iv 0] :: blk rb tTb [nilV, iv 0, iv 0] :: L) := H13
        have H14 : Holds w12 (SL S_ tS (sv (ca, e1, e2)) (codesL d.lens) :: RowsC vs c.codes :: SL sv tSs (sv (xa, x1, x2)) (vs ++ [(ca, e1, e2)]) :: blk ob tTb [sv (xa, x1, x2), nv (bits + k2), iv 0] :: blk rb tTb [nilV, iv 0, iv 0] :: L) := (by have h_ := Holds.ord 6 [0, 3, 2, 4, 5] H13 rfl; exact h_)
        have H15 := rows_add hvs H14
        repeat (first | refine r_ke ?_ | (refine r_add1N (by omega) ?_))
        refine ⟨⟨j + 1, bits + k2, addC c d.lens, (xa, x1, x2), vs ++ [(ca, e1, e2)], by omega, rfl, by rw [← Nat.add_assoc]; exact hlf, ?_, by omega, ?_, (((S.trans S9).trans S10).trans S11).trans S12, H15.swap⟩, ?_⟩
        · exact ⟨hT.picks, by show (c.codes ++ [d.lens]).length = _; rw [List.length_append, hT.codes]; rfl, rfl, hT.count, hT.done, hT.size⟩
        · show (vs ++ [_]).length = (c.codes ++ [d.lens]).length
          rw [List.length_append, List.length_append, hvs]; rfl
        · simp [nv, RowKit.intOf]
          omega
      · rw [if_neg hsh] at hlf
        rw [decide_eq_false hsh]
        refine r_notF (r_vt ?_)
        obtain ⟨c', k', h1, h2, h3⟩ := hlf
        refine r_fo0 (r_ld 4 H8 rfl rfl ?_)
        refine q_ret 5 H8 [sv x, iv 0, iv 22] rfl (by kernel_rfl) rfl rfl rfl fun w9 S9 H9 => ?_
        exact kb _ _ h1 h2 h3 x _ (S.trans S9) (Holds.dropAt (Holds.dropAt (Holds.dropAt (Holds.dropAt (Holds.dropAt (Holds.dropAt H9 5) 4) 3) 2) 1) 0)
  · have hjt : j = p.t := by omega
    subst hjt
    refine r_ldA 2 H [sv x, nv bits, iv 0] rfl rfl rfl ?_
    refine r_stA 3 H (vs := [sv x, nv bits, iv 0]) rfl (by simp) rfl rfl fun w5 S5 H5 => ?_
    replace H5 : Holds w5 (SL sv tSs (sv x) vs :: RowsC vs c.codes :: blk ob tTb [sv x, nv bits, iv 0] :: blk rb tTb [sv x, nv bits, iv 0] :: L) := H5
    refine r_ldA 3 H5 [sv x, nv bits, iv 0] rfl rfl rfl ?_
    exact k _ _ x vs hr hT hkb hvs _ (S.trans S5) (Holds.dropAt (Holds.dropAt H5 3) 2)
end P20
end Go.Proofs.YtoomfeeiehfpmaaGreatDoor
/- Chapter 14: the symbols of a row, by the document. -/
set_option linter.unusedVariables false
set_option linter.unusedSimpArgs false
namespace Go.Proofs.YtoomfeeiehfpmaaGreatDoor
open Go Go.Vc
attribute [local irreducible] Go.Vc.Nc Go.Vc.Ld Go.Vc.LdA Go.Vc.St Go.Vc.StA Go.Vc.Fo Go.Vc.Iaa Go.Vc.Ias Go.Vc.Ixs Go.Vc.Ixa Go.Vc.Fd Go.Vc.FdA Go.Vc.Bp Go.Vc.Bb Go.Vc.Bn Go.Vc.Up Go.Vc.Ci Go.Vc.Lns Go.Vc.Lnl Go.Vc.Ex Go.Vc.Sst Go.Vc.Ssl Go.Vc.New Go.Vc.Vif Go.Vc.VJoin Go.Vc.VLoop Go.Vc.KE Go.Vc.Dr Go.Vc.Rk Go.Vc.Cl Go.Vc.Cx Go.Vc.Inv Go.Vc.Be Go.Vc.Cv Go.Vc.Cw Go.Vc.Mf Go.Vc.Sl Go.Vc.Lk Go.Vc.Bd Go.Vc.Bs Go.Vc.Ms Go.Vc.Mm Go.Vc.Mu Go.Vc.Me Go.Vc.Es Go.Vc.Rg Go.Vc.Nx Go.Vc.Ta Go.Vc.Ap Go.Vc.Usd Go.Vc.Ust Go.Vc.Cp Go.Vc.Ln Go.Vc.Bc Go.Vc.Bmin Go.Vc.Bmax Go.Vc.Bdel Go.Vc.Bclr Go.Vc.Pk
namespace P20
open Go.M01 Go.Mb Go.Mp Go.M10 Go.Mc Go.Mz Go.Mk Go.Q20 Go.Q21 Go.Q22 Go.Q23
variable {w : World} {L : List HProp} {K : Value → World → Prop}
abbrev tG : Nat := 89
structure Sy (size : Nat) (l : List Bool) (p : PS) (cs : List (List Nat)) (c : CS) (Lr : List Nat) (k : Nat) : Prop where
  run : CRun size l c Lr k
  picks : c.picks = p
  codes : c.codes = cs
  count : c.count = Lr.length
  done : c.done = false
  len : Lr.length ≤ k
  k : k ≤ l.length
section
variable {size k : Nat} {l : List Bool} {p : PS} {cs : List (List Nat)} {c : CS} {Lr : List Nat}
theorem sy_end (hs : Sy size l p cs c Lr k) (hp : p.done = true) (ht : cs.length = p.t) (hg : p.picks.length ≤ Lr.length / 50) : Q21.Ends size l Lr (.bad 25) :=
  ⟨c, k, hs.run, .inr (.inr ⟨25, hs.done, by rw [sym_step (by rw [hs.picks]; exact hp) (by rw [hs.codes, hs.picks]; omega), hs.picks, hs.count, if_pos hg], rfl⟩)⟩
theorem sy_pick (h3 : 3 ≤ size) (h258 : size ≤ 258) (hs : Sy size l p cs c Lr k) (hp : p.done = true) (ht : cs.length = p.t) (hg : ¬ p.picks.length ≤ Lr.length / 50) :
    ∃ x, p.picks[Lr.length / 50]? = some x ∧ x < cs.length ∧ cs[x]? = some c.table ∧ Whole c.table ∧ c.table.length = size := by
  have hok := CRun.ok h3 h258 hs.run
  have := pick_lt hok.1 (by rw [hs.picks]; exact hp) (by rw [hs.codes, hs.picks]; omega) (by rw [hs.picks, hs.count]; exact hg)
  rw [hs.picks, hs.count, hs.codes, hok.2.1] at this
  exact this
theorem sy_none (hs : Sy size l p cs c Lr k) (hp : p.done = true) (ht : cs.length = p.t) (hg : ¬ p.picks.length ≤ Lr.length / 50) (hn : getC c.table (l.drop k) = none) : Q21.Ends size l Lr .short :=
  ⟨c, k, hs.run, .inr (.inl ⟨hs.done, by rw [sym_step (by rw [hs.picks]; exact hp) (by rw [hs.codes, hs.picks]; omega), hs.picks, hs.count, if_neg hg, hn]; rfl, rfl⟩)⟩
theorem sy_next {i n : Nat} (hs : Sy size l p cs c Lr k) (hp : p.done = true) (ht : cs.length = p.t) (hg : ¬ p.picks.length ≤ Lr.length / 50) (hw : Whole c.table) (hget : getC c.table (l.drop k) = some (i, n)) :
    CRun size l (readC c i) (Lr ++ [i]) (k + n) ∧ 1 ≤ n ∧ k + n ≤ l.length := by
  have hc := code_get hw hget
  rw [List.length_drop] at hc
  have hk := hs.k
  exact ⟨sym_next (by rw [hs.picks]; exact hp) (by rw [hs.codes, hs.picks]; omega) hs.done (by rw [hs.picks, hs.count]; exact hg) hs.run hget, hc.2.2.1, by omega⟩
theorem sy_on {i n : Nat} (h3 : 3 ≤ size) (h258 : size ≤ 258) (hs : Sy size l p cs c Lr k) (hp : p.done = true) (ht : cs.length = p.t) (hg : ¬ p.picks.length ≤ Lr.length / 50) (hw : Whole c.table) (hget : getC c.table (l.drop k) = some (i, n)) (hi : i ≠ size - 1) :
    Sy size l p cs (readC c i) (Lr ++ [i]) (k + n) := by
  have h := sy_next hs hp ht hg hw hget
  have hok := CRun.ok h3 h258 hs.run
  refine ⟨h.1, hs.picks, hs.codes, ?_, ?_, ?_, h.2.2⟩
  · show c.count + 1 = _
    rw [hs.count, List.length_append]; rfl
  · show decide (i = c.size - 1) = false
    rw [hok.2.1]; exact decide_eq_false hi
  · have := hs.len
    rw [List.length_append, List.length_singleton]; omega
theorem sy_done {i n : Nat} (h3 : 3 ≤ size) (h258 : size ≤ 258) (hs : Sy size l p cs c Lr k) (hp : p.done = true) (ht : cs.length = p.t) (hg : ¬ p.picks.length ≤ Lr.length / 50) (hw : Whole c.table) (hget : getC c.table (l.drop k) = some (i, n)) (hi : i = size - 1) :
    Q21.Ends size l (Lr ++ [i]) (.ok (p.picks.length + p.t * size, Lr ++ [i]) (k + n)) := by
  have h := sy_next hs hp ht hg hw hget
  have hok := CRun.ok h3 h258 hs.run
  refine ⟨_, _, h.1, .inl ⟨?_, ?_⟩⟩
  · show decide (i = c.size - 1) = true
    rw [hok.2.1]; exact decide_eq_true hi
  · show _ = Res.ok (c.picks.picks.length + c.size * c.codes.length, Lr ++ [i]) (k + n)
    rw [hs.picks, hs.codes, hok.2.1, ht, Nat.mul_comm]
end
def TabJ (size : Nat) (l : List Bool) (kp : Nat) (p : PS) (B : List HProp) (w0 : World) (t : Value) (w' : World) : Prop := ∃ tb x, t = pt tb ∧ Same w0 w' ∧ (
  (Q21.Ends size l [] .short ∧ Holds w' (blk tb tTb [sv x, iv 0, iv 3] :: B)) ∨
  (Q21.Ends size l [] (.bad 22) ∧ Holds w' (blk tb tTb [sv x, iv 0, iv 22] :: B)) ∨
  ∃ c bits vs, Sy size l p c.codes c [] (kp + bits) ∧ c.codes.length = p.t ∧ vs.length = c.codes.length ∧ Holds w' (blk tb tTb [sv x, nv bits, iv 0] :: SL sv tSs (sv x) vs :: RowsC vs c.codes :: B))
theorem tab_sy {size kp bits : Nat} {l : List Bool} {p : PS} {c : CS} (hr : CRun size l c [] (kp + bits)) (hT : Tab size p c p.t) (hk : kp + bits ≤ l.length) : Sy size l p c.codes c [] (kp + bits) :=
  ⟨hr, hT.picks, rfl, hT.count, hT.done, Nat.zero_le _, hk⟩
theorem tabs_spec {l : List Bool} {kp size pb : Nat} {p : PS} {lv : Value} {Q : Value → World → Prop} (H : Holds w (SL nv tI lv p.picks :: blk pb tP [lv, nv p.t, nv kp, nv kp, iv 0] :: L)) (hl : l.length ≤ 1000000) (h3 : 3 ≤ size) (h258 : size ≤ 258) (hr : PRun l p kp) (hp : p.done = true) (hk : kp ≤ l.length)
    (post : ∀ t w', TabJ size l kp p (SL nv tI lv p.picks :: blk pb tP [lv, nv p.t, nv kp, nv kp, iv 0] :: L) w t w' → Q t w') :
    Dr w fun w10 =>
      (Fo 2 (pt pb) fun x_51 =>
      Ld x_51 w10 fun x_52 =>
      Sst (S_ (txt l)) (some x_52) none fun x_54 =>
      Fo 1 (pt pb) fun x_56 =>
      Ld x_56 w10 fun x_57 =>
      Cl Tryz.prog F.balerref14_readTables #[x_54, x_57, nv size] w10 fun x_59 w11 =>
      New (zeroP Tryz.prog tTb) tTb w11 fun t_60 w12 =>
      Rk (fun w K => Ld x_56 w fun x_58 => K x_58) x_57 w12 <|
      Rk (fun w K => Sst (S_ (txt l)) (some x_52) none fun x_55 => K x_55) x_54 w12 <|
      Rk (fun w K => Ld x_51 w fun x_53 => K x_53) x_52 w12 <|
      StA 3 t_60 x_59 w12 fun w13 => Q t_60 w13) ∧
      (Fo 2 (pt pb) fun x_61 =>
      Ld x_61 w10 fun x_62 =>
      Sst (S_ (txt l)) (some x_62) none fun x_64 =>
      Fo 1 (pt pb) fun x_66 =>
      Ld x_66 w10 fun x_67 =>
      New (zeroP Tryz.prog tTb) tTb w10 fun t_69 w14 =>
      Rk (fun w K => Ld x_66 w fun x_68 => K x_68) x_67 w14 <|
      Rk (fun w K => Sst (S_ (txt l)) (some x_62) none fun x_65 => K x_65) x_64 w14 <|
      Rk (fun w K => Ld x_61 w fun x_63 => K x_63) x_62 w14 <|
      Cl Tryz.prog F.balerref14_readTables #[x_64, x_67, nv size] w14 fun x_70 w15 =>
      StA 3 t_69 x_70 w15 fun w16 => Q t_69 w16) := by
  have hz : (zeroP Tryz.prog tTb).cells.toList = [nilV, iv 0, iv 0] := by kernel_rfl
  have hpo := hr.ok
  have hpl := picks_lift (size := size) hr
  have ends_s : ∀ {c k}, CRun size l c [] k → c.done = false → cstep c (l.drop k) = .short → Q21.Ends size l [] .short := fun h1 h2 h3 => ⟨_, _, h1, .inr (.inl ⟨h2, h3, rfl⟩)⟩
  have ends_b : ∀ {c k}, CRun size l c [] k → c.done = false → cstep c (l.drop k) = .bad 22 → Q21.Ends size l [] (.bad 22) := fun h1 h2 h3 => ⟨_, _, h1, .inr (.inr ⟨_, h2, h3, rfl⟩)⟩
  have cut : ∀ {k : IntKind} {K : Value → Prop}, K (S_ (txt (l.drop kp))) → Sst (S_ (txt l)) (some (.int k (kp : Int))) none K := fun h => q_D (by rw [txt_len]; exact hk) (by rw [txt_drop]; exact h)
  refine r_dr H fun w1 S1 H1 => ⟨?_, ?_⟩
  · refine r_fo0 (r_ld 1 H1 rfl rfl ?_)
    refine cut ?_
    refine r_fo0 (r_ld 1 H1 rfl rfl ?_)
    refine tables_spec H1 hl h3 h258 hp hpo hk hpl (fun c k h1 h2 h4 x w2 S2 H2 => ?_) (fun c k h1 h2 h4 x w2 S2 H2 => ?_) fun c bits x vs h1 hT hkb hvs w2 S2 H2 => ?_
    · refine r_new H2 fun tb w3 S3 H3 => ?_
      rw [hz] at H3
      refine r_rk (r_ld 2 H3 rfl rfl rfl) (r_rk (cut rfl) (r_rk (r_ld 2 H3 rfl rfl rfl) ?_))
      refine r_stA 0 H3 (vs := [sv x, iv 0, iv 3]) rfl (by simp) rfl rfl fun w4 S4 H4 => ?_
      exact post _ _ ⟨tb, x, rfl, ((S1.trans S2).trans S3).trans S4, .inl ⟨ends_s h1 h2 h4, H4⟩⟩
    · refine r_new H2 fun tb w3 S3 H3 => ?_
      rw [hz] at H3
      refine r_rk (r_ld 2 H3 rfl rfl rfl) (r_rk (cut rfl) (r_rk (r_ld 2 H3 rfl rfl rfl) ?_))
      refine r_stA 0 H3 (vs := [sv x, iv 0, iv 22]) rfl (by simp) rfl rfl fun w4 S4 H4 => ?_
      exact post _ _ ⟨tb, x, rfl, ((S1.trans S2).trans S3).trans S4, .inr (.inl ⟨ends_b h1 h2 h4, H4⟩)⟩
    · refine r_new H2 fun tb w3 S3 H3 => ?_
      rw [hz] at H3
      refine r_rk (r_ld 4 H3 rfl rfl rfl) (r_rk (cut rfl) (r_rk (r_ld 4 H3 rfl rfl rfl) ?_))
      refine r_stA 0 H3 (vs := [sv x, nv bits, iv 0]) rfl (by simp) rfl rfl fun w4 S4 H4 => ?_
      exact post _ _ ⟨tb, x, rfl, ((S1.trans S2).trans S3).trans S4, .inr (.inr ⟨c, bits, vs, tab_sy h1 hT hkb, hT.codes, hvs, H4⟩)⟩
  · refine r_fo0 (r_ld 1 H1 rfl rfl ?_)
    refine cut ?_
    refine r_fo0 (r_ld 1 H1 rfl rfl ?_)
    refine r_new H1 fun tb w3 S3 H3 => ?_
    rw [hz] at H3
    refine r_rk (r_ld 2 H3 rfl rfl rfl) (r_rk (cut rfl) (r_rk (r_ld 2 H3 rfl rfl rfl) ?_))
    refine tables_spec H3 hl h3 h258 hp hpo hk hpl (fun c k h1 h2 h4 x w2 S2 H2 => ?_) (fun c k h1 h2 h4 x w2 S2 H2 => ?_) fun c bits x vs h1 hT hkb hvs w2 S2 H2 => ?_
    · refine r_stA 0 H2 (vs := [sv x, iv 0, iv 3]) rfl (by simp) rfl rfl fun w4 S4 H4 => ?_
      exact post _ _ ⟨tb, x, rfl, ((S1.trans S3).trans S2).trans S4, .inl ⟨ends_s h1 h2 h4, H4⟩⟩
    · refine r_stA 0 H2 (vs := [sv x, iv 0, iv 22]) rfl (by simp) rfl rfl fun w4 S4 H4 => ?_
      exact post _ _ ⟨tb, x, rfl, ((S1.trans S3).trans S2).trans S4, .inr (.inl ⟨ends_b h1 h2 h4, H4⟩)⟩
    · refine r_stA 2 H2 (vs := [sv x, nv bits, iv 0]) rfl (by simp) rfl rfl fun w4 S4 H4 => ?_
      replace H4 : Holds w4 (SL sv tSs (sv x) vs :: RowsC vs c.codes :: blk tb tTb [sv x, nv bits, iv 0] :: SL nv tI lv p.picks :: blk pb tP [lv, nv p.t, nv kp, nv kp, iv 0] :: L) := H4
      exact post _ _ ⟨tb, x, rfl, ((S1.trans S3).trans S2).trans S4, .inr (.inr ⟨c, bits, vs, tab_sy h1 hT hkb, hT.codes, hvs, (by have h_ := Holds.ord 3 [2, 0, 1] H4 rfl; exact h_)⟩)⟩
theorem Read14_spec {l : List Bool} {size : Nat} (H : Holds w L) (hl : l.length ≤ 7999) (h3 : 3 ≤ size) (h258 : size ≤ 258)
    (ks : ∀ Lr, Q21.Ends size l Lr .short → ∀ w', Same w w' → Holds w' L → K (.agg #[nilV, iv 0, iv 0, iv 3]) w')
    (kb : ∀ Lr e, Q21.Ends size l Lr (.bad e) → (e = 22 ∨ e = 25) → ∀ w', Same w w' → Holds w' L → K (.agg #[nilV, iv 0, iv 0, nv e]) w')
    (k : ∀ Lr held n lv, Q21.Ends size l Lr (.ok (held, Lr) n) → Lr.length ≤ l.length → n ≤ l.length → held ≤ 1000000 → ∀ w', Same w w' → Holds w' (SL nv tI lv Lr :: L) → K (.agg #[lv, nv n, nv held, iv 0]) w') :
    Cl Tryz.prog F.balerref14_Read #[S_ (txt l), nv size, iv 8000] w K := by
  refine Tie.balerref14_Read ?_
  unfold Vcf.balerref14_Read
  have hzg : (zeroP Tryz.prog tG).cells.toList = [nilV, iv 0, iv 0, iv 0] := by kernel_rfl
  have hzp : (zeroP Tryz.prog tP).cells.toList = [nilV, iv 0, iv 0, iv 0, iv 0] := by kernel_rfl
  refine r_new H fun rb w1 S1 H1 => ?_
  rw [hzg] at H1
  clear H
  refine Read13_spec H1 (by omega) (fun p kp hr hnd hst w2 S2 H2 => ?_) (fun p kp hr hnd hst to w2 S2 H2 => ?_) fun p kp pv hr hp hk w2 S2 H2 => ?_
  · have hE : Q21.Ends size l [] .short := ⟨_, _, picks_lift hr, .inr (.inl ⟨rfl, by rw [picks_stop hnd, hst]; rfl, rfl⟩)⟩
    refine r_new H2 fun pb w3 S3 H3 => ?_
    rw [hzp] at H3
    refine r_stA 0 H3 (vs := [nilV, iv 0, iv 0, iv 0, iv 3]) rfl (by simp) rfl rfl fun w4 S4 H4 => ?_
    replace H4 : Holds w4 (blk pb tP [nilV, iv 0, iv 0, iv 0, iv 3] :: blk rb tG [nilV, iv 0, iv 0, iv 0] :: L) := H4
    refine r_fo0 (r_ld 0 H4 rfl rfl ?_)
    refine r_neq (r_vtN (by decide) ?_)
    refine r_fo0 (r_ld 0 H4 rfl rfl ?_)
    refine q_ret 1 H4 [nilV, iv 0, iv 0, iv 3] rfl (by kernel_rfl) rfl rfl rfl fun w5 S5 H5 => ?_
    exact ks [] hE _ ((((S1.trans S2).trans S3).trans S4).trans S5) (Holds.dropAt (Holds.dropAt H5 1) 0)
  · have hE : Q21.Ends size l [] (.bad 25) := ⟨_, _, picks_lift hr, .inr (.inr ⟨25, rfl, by rw [picks_stop hnd, hst]; rfl, rfl⟩)⟩
    refine r_new H2 fun pb w3 S3 H3 => ?_
    rw [hzp] at H3
    refine r_stA 0 H3 (vs := [nilV, iv 0, iv 0, nv to, iv 25]) rfl (by simp) rfl rfl fun w4 S4 H4 => ?_
    replace H4 : Holds w4 (blk pb tP [nilV, iv 0, iv 0, nv to, iv 25] :: blk rb tG [nilV, iv 0, iv 0, iv 0] :: L) := H4
    refine r_fo0 (r_ld 0 H4 rfl rfl ?_)
    refine r_neq (r_vtN (by decide) ?_)
    refine r_fo0 (r_ld 0 H4 rfl rfl ?_)
    refine q_ret 1 H4 [nilV, iv 0, iv 0, iv 25] rfl (by kernel_rfl) rfl rfl rfl fun w5 S5 H5 => ?_
    exact kb [] 25 hE (.inr rfl) _ ((((S1.trans S2).trans S3).trans S4).trans S5) (Holds.dropAt (Holds.dropAt H5 1) 0)
  obtain ⟨oa, c1, c2, rfl⟩ := SL_slice H2 0 rfl
  refine r_new H2 fun pb w3 S3 H3 => ?_
  rw [hzp] at H3
  refine r_stA 0 H3 (vs := [.slice oa c1 c2, nv p.t, nv kp, nv kp, iv 0]) rfl (by simp) rfl rfl fun w4 S4 H4 => ?_
  replace H4 : Holds w4 (blk pb tP [.slice oa c1 c2, nv p.t, nv kp, nv kp, iv 0] :: SL nv tI (.slice oa c1 c2) p.picks :: blk rb tG [nilV, iv 0, iv 0, iv 0] :: L) := H4
  replace S1 := ((S1.trans S2).trans S3).trans S4
  clear H1 H2 H3 S2 S3 S4
  have H := H4.swap
  clear H4
  refine r_fo0 (r_ld 1 H rfl rfl ?_)
  refine r_neq (r_vfN rfl ?_)
  refine r_join1 (TabJ size l kp p (SL nv tI (.slice oa c1 c2) p.picks :: blk pb tP [.slice oa c1 c2, nv p.t, nv kp, nv kp, iv 0] :: blk rb tG [nilV, iv 0, iv 0, iv 0] :: L) w4) ?_ ?_
  rotate_left
  · refine tabs_spec H (by omega) h3 h258 hr hp hk fun t w' hJ => ?_
    exact r_ke hJ
  clear H
  rintro _ _ w5 ⟨tb, x, rfl, S5, hJ⟩
  replace S1 := S1.trans S5
  clear S5
  rcases hJ with ⟨hE, H⟩ | ⟨hE, H⟩ | ⟨c0, bits, vs, hsy, hct, hvs, H⟩
  · refine r_fo0 (r_ld 0 H rfl rfl ?_)
    refine r_neq (r_vtN (by decide) ?_)
    refine r_fo0 (r_ld 0 H rfl rfl ?_)
    refine q_ret 3 H [nilV, iv 0, iv 0, iv 3] rfl (by kernel_rfl) rfl rfl rfl fun w6 S6 H6 => ?_
    exact ks [] hE _ (S1.trans S6) (Holds.dropAt (Holds.dropAt (Holds.dropAt (Holds.dropAt H6 3) 2) 1) 0)
  · refine r_fo0 (r_ld 0 H rfl rfl ?_)
    refine r_neq (r_vtN (by decide) ?_)
    refine r_fo0 (r_ld 0 H rfl rfl ?_)
    refine q_ret 3 H [nilV, iv 0, iv 0, iv 22] rfl (by kernel_rfl) rfl rfl rfl fun w6 S6 H6 => ?_
    exact kb [] 22 hE (.inl rfl) _ (S1.trans S6) (Holds.dropAt (Holds.dropAt (Holds.dropAt (Holds.dropAt H6 3) 2) 1) 0)
  have ht6 : p.t ≤ 6 := by
    rcases Nat.eq_zero_or_pos p.count with h | h
    · rw [(hr.ok.new h).1]; omega
    · exact (hr.ok.tbl h).2
  have hplen : p.picks.length ≤ 32767 := Nat.le_trans hr.ok.len hr.ok.cnt
  have hkb := hsy.k
  generalize hcs : c0.codes = cs at *
  refine r_fo0 (r_ld 0 H rfl rfl ?_)
  refine r_neq (r_vfN rfl ?_)
  refine r_fo0 (r_ld 4 H rfl rfl ?_)
  refine r_fo0 (r_ld 0 H rfl rfl ?_)
  refine r_addN (by omega) ?_
  refine r_loop2 (fun a lv w' => ∃ (q : Nat) (c : CS) (Lr : List Nat), a = nv q ∧ Sy size l p cs c Lr q ∧ Same w w' ∧ Holds w' (SL nv tI lv Lr :: blk tb tTb [sv x, nv bits, iv 0] :: SL sv tSs (sv x) vs :: RowsC vs cs :: SL nv tI (.slice oa c1 c2) p.picks :: blk pb tP [.slice oa c1 c2, nv p.t, nv kp, nv kp, iv 0] :: blk rb tG [nilV, iv 0, iv 0, iv 0] :: L))
    (fun a _ _ => l.length + 1 - (RowKit.intOf a).toNat) ⟨kp + bits, c0, [], rfl, hsy, S1, H.nilSL nv tI⟩ ?_
  clear H S1 hsy hcs
  rintro _ _ lv w6 ⟨q, c, Lr, rfl, hs, S, H⟩
  have hlen := hs.len
  have hq := hs.k
  have hdv : ((Lr.length : Nat) : Int).tdiv 50 = ((Lr.length / 50 : Nat) : Int) := by rw [Int.tdiv_eq_ediv_of_nonneg (by omega)]; simp
  refine r_lnS 0 H rfl ?_
  refine r_quoE hdv (by omega) (by omega) (by omega) ?_
  refine r_fo0 (r_ld 5 H rfl rfl ?_)
  refine r_lnS 4 H rfl ?_
  refine r_geq (r_ifD (fun hg => ?_) fun hg => ?_)
  · refine q_ret 6 H [nilV, iv 0, iv 0, iv 25] rfl (by kernel_rfl) rfl rfl rfl fun w7 S7 H7 => ?_
    exact kb Lr 25 (sy_end hs hp hct (by omega)) (.inr rfl) _ (S.trans S7) (Holds.dropAt (Holds.dropAt (Holds.dropAt (Holds.dropAt (Holds.dropAt (Holds.dropAt (Holds.dropAt H7 6) 5) 4) 3) 2) 1) 0)
  have hg2 : ¬ p.picks.length ≤ Lr.length / 50 := by omega
  obtain ⟨j, hj1, hj2, hj3, hw, hts⟩ := sy_pick h3 h258 hs hp hct hg2
  obtain ⟨b, hb⟩ : ∃ b, vs[j]? = some b := ⟨_, List.getElem?_eq_getElem (by omega)⟩
  refine r_dr H fun w7 S7 H7 => ?_
  replace S := S.trans S7
  clear H S7
  refine r_fo0 (r_ld 1 H7 rfl rfl ?_)
  refine r_fo0 (r_ld 5 H7 rfl rfl ?_)
  refine r_lnS 0 H7 rfl ?_
  refine r_quoE hdv (by omega) (by omega) (by omega) ?_
  refine r_getS 4 H7 rfl hj1 ?_
  refine r_getS 2 H7 rfl hb ?_
  refine q_D (by rw [txt_len]; exact hq) ?_
  rw [txt_drop]
  obtain ⟨A, hA1, hA2⟩ := rows_get (L := SL nv tI lv Lr :: blk tb tTb [sv x, nv bits, iv 0] :: SL sv tSs (sv x) vs :: SL nv tI (.slice oa c1 c2) p.picks :: blk pb tP [.slice oa c1 c2, nv p.t, nv kp, nv kp, iv 0] :: blk rb tG [nilV, iv 0, iv 0, iv 0] :: L) hb hj3
  have HA : Holds w7 (SL S_ tS (sv b) (codesL c.table) :: A) := hA1 _ (by have h_ := Holds.ord 4 [3, 0, 1, 2] H7 rfl; exact h_)
  refine Get_spec HA hw (by omega) (fun hn => ?_) fun i hi hgi => ?_
  · refine r_lss (r_vtD (by decide) ?_)
    refine q_ret 6 H7 [nilV, iv 0, iv 0, iv 3] rfl (by kernel_rfl) rfl rfl rfl fun w8 S8 H8 => ?_
    exact ks Lr (sy_none hs hp hct hg2 hn) _ (S.trans S8) (Holds.dropAt (Holds.dropAt (Holds.dropAt (Holds.dropAt (Holds.dropAt (Holds.dropAt (Holds.dropAt H8 6) 5) 4) 3) 2) 1) 0)
  have hnx := sy_next hs hp hct hg2 hw hgi
  refine r_lss (r_vfD (by omega) ?_)
  refine r_lnS 0 H7 rfl ?_
  refine r_eql (r_vfE (by omega) ?_)
  refine r_getS 0 HA rfl (codesL_get hi) ?_
  refine q_len ?_
  rw [txt_len, codeB_len]
  generalize hn : c.table.getD i 0 = n at *
  refine r_addN (by omega) ?_
  refine r_app1 H7 0 rfl i (fun _ => rfl) (by omega) fun v8 w8 S8 H8 => ?_
  replace H8 : Holds w8 (SL nv tI v8 (Lr ++ [i]) :: blk tb tTb [sv x, nv bits, iv 0] :: SL sv tSs (sv x) vs :: RowsC vs cs :: SL nv tI (.slice oa c1 c2) p.picks :: blk pb tP [.slice oa c1 c2, nv p.t, nv kp, nv kp, iv 0] :: blk rb tG [nilV, iv 0, iv 0, iv 0] :: L) := H8
  replace S := S.trans S8
  clear H7 HA S8 hA1 hA2
  refine r_sub1N (by omega) (by omega) ?_
  refine r_eql (r_ifE (fun he => ?_) fun he => ?_)
  · have hE := sy_done h3 h258 hs hp hct hg2 hw hgi (by omega)
    obtain ⟨va, v1, v2, rfl⟩ := SL_slice H8 0 rfl
    have hm : p.t * size ≤ 6 * 258 := Nat.mul_le_mul ht6 h258
    refine r_fo0 (r_ld 5 H8 rfl rfl ?_)
    refine r_lnS 4 H8 rfl ?_
    refine r_fo0 (r_ld 5 H8 rfl rfl ?_)
    refine r_mulE ((p.t * size : Nat) : Int) (by simp) (by omega) (by omega) ?_
    refine r_addN (by omega) ?_
    refine q_ret 6 H8 [.slice va v1 v2, nv (q + n), nv (p.picks.length + p.t * size), iv 0] rfl (by kernel_rfl) rfl rfl rfl fun w9 S9 H9 => ?_
    exact k _ _ _ _ hE (by rw [List.length_append, List.length_singleton]; omega) hnx.2.2 (by omega) _ (S.trans S9) (Holds.dropAt (Holds.dropAt (Holds.dropAt (Holds.dropAt (Holds.dropAt (Holds.dropAt H9 6) 5) 4) 3) 2) 1)
  · refine r_ke ⟨⟨q + n, _, Lr ++ [i], rfl, sy_on h3 h258 hs hp hct hg2 hw hgi (by omega), S, H8⟩, ?_⟩
    simp [nv, RowKit.intOf]
    omega
theorem Some_spec {l : List Bool} {size : Nat} (H : Holds w L) (hl : l.length ≤ 7999) (h3 : 3 ≤ size) (h258 : size ≤ 258)
    (k : ∀ Lr r lv, Q21.Ends size l Lr r → Lr.length ≤ l.length → ∀ w', Same w w' → Holds w' (SL nv tI lv Lr :: L) → K lv w') :
    Cl Tryz.prog F.balerref14_Some #[S_ (txt l), nv size] w K := by
  refine Tie.balerref14_Some ?_
  unfold Vcf.balerref14_Some
  have hzp : (zeroP Tryz.prog tP).cells.toList = [nilV, iv 0, iv 0, iv 0, iv 0] := by kernel_rfl
  have S1 := Same.refl w
  have H1 := H
  clear H
  refine Read13_spec H1 (by omega) (fun p kp hr hnd hst w2 S2 H2 => ?_) (fun p kp hr hnd hst to w2 S2 H2 => ?_) fun p kp pv hr hp hk w2 S2 H2 => ?_
  · have hE : Q21.Ends size l [] .short := ⟨_, _, picks_lift hr, .inr (.inl ⟨rfl, by rw [picks_stop hnd, hst]; rfl, rfl⟩)⟩
    refine r_new H2 fun pb w3 S3 H3 => ?_
    rw [hzp] at H3
    refine r_stA 0 H3 (vs := [nilV, iv 0, iv 0, iv 0, iv 3]) rfl (by simp) rfl rfl fun w4 S4 H4 => ?_
    replace H4 : Holds w4 (blk pb tP [nilV, iv 0, iv 0, iv 0, iv 3] :: L) := H4
    refine r_fo0 (r_ld 0 H4 rfl rfl ?_)
    refine r_neq (r_vtN (by decide) ?_)
    exact k [] _ _ hE (Nat.zero_le _) _ (((S1.trans S2).trans S3).trans S4) (H4.drop.nilSL nv tI)
  · have hE : Q21.Ends size l [] (.bad 25) := ⟨_, _, picks_lift hr, .inr (.inr ⟨25, rfl, by rw [picks_stop hnd, hst]; rfl, rfl⟩)⟩
    refine r_new H2 fun pb w3 S3 H3 => ?_
    rw [hzp] at H3
    refine r_stA 0 H3 (vs := [nilV, iv 0, iv 0, nv to, iv 25]) rfl (by simp) rfl rfl fun w4 S4 H4 => ?_
    replace H4 : Holds w4 (blk pb tP [nilV, iv 0, iv 0, nv to, iv 25] :: L) := H4
    refine r_fo0 (r_ld 0 H4 rfl rfl ?_)
    refine r_neq (r_vtN (by decide) ?_)
    exact k [] _ _ hE (Nat.zero_le _) _ (((S1.trans S2).trans S3).trans S4) (H4.drop.nilSL nv tI)
  obtain ⟨oa, c1, c2, rfl⟩ := SL_slice H2 0 rfl
  refine r_new H2 fun pb w3 S3 H3 => ?_
  rw [hzp] at H3
  refine r_stA 0 H3 (vs := [.slice oa c1 c2, nv p.t, nv kp, nv kp, iv 0]) rfl (by simp) rfl rfl fun w4 S4 H4 => ?_
  replace H4 : Holds w4 (blk pb tP [.slice oa c1 c2, nv p.t, nv kp, nv kp, iv 0] :: SL nv tI (.slice oa c1 c2) p.picks :: L) := H4
  replace S1 := ((S1.trans S2).trans S3).trans S4
  clear H1 H2 H3 S2 S3 S4
  have H := H4.swap
  clear H4
  refine r_fo0 (r_ld 1 H rfl rfl ?_)
  refine r_neq (r_vfN rfl ?_)
  refine r_join1 (TabJ size l kp p (SL nv tI (.slice oa c1 c2) p.picks :: blk pb tP [.slice oa c1 c2, nv p.t, nv kp, nv kp, iv 0] :: L) w4) ?_ ?_
  rotate_left
  · refine tabs_spec H (by omega) h3 h258 hr hp hk fun t w' hJ => ?_
    exact r_ke hJ
  clear H
  rintro _ _ w5 ⟨tb, x, rfl, S5, hJ⟩
  replace S1 := S1.trans S5
  clear S5
  rcases hJ with ⟨hE, H⟩ | ⟨hE, H⟩ | ⟨c0, bits, vs, hsy, hct, hvs, H⟩
  · refine r_fo0 (r_ld 0 H rfl rfl ?_)
    refine r_neq (r_vtN (by decide) ?_)
    exact k [] _ _ hE (Nat.zero_le _) _ S1 ((Holds.dropAt (Holds.dropAt (Holds.dropAt H 2) 1) 0).nilSL nv tI)
  · refine r_fo0 (r_ld 0 H rfl rfl ?_)
    refine r_neq (r_vtN (by decide) ?_)
    exact k [] _ _ hE (Nat.zero_le _) _ S1 ((Holds.dropAt (Holds.dropAt (Holds.dropAt H 2) 1) 0).nilSL nv tI)
  have ht6 : p.t ≤ 6 := by
    rcases Nat.eq_zero_or_pos p.count with h | h
    · rw [(hr.ok.new h).1]; omega
    · exact (hr.ok.tbl h).2
  have hplen : p.picks.length ≤ 32767 := Nat.le_trans hr.ok.len hr.ok.cnt
  have hkb := hsy.k
  generalize hcs : c0.codes = cs at *
  refine r_fo0 (r_ld 0 H rfl rfl ?_)
  refine r_neq (r_vfN rfl ?_)
  refine r_fo0 (r_ld 4 H rfl rfl ?_)
  refine r_fo0 (r_ld 0 H rfl rfl ?_)
  refine r_addN (by omega) ?_
  refine r_loop2 (fun a lv w' => ∃ (q : Nat) (c : CS) (Lr : List Nat), a = nv q ∧ Sy size l p cs c Lr q ∧ Same w w' ∧ Holds w' (SL nv tI lv Lr :: blk tb tTb [sv x, nv bits, iv 0] :: SL sv tSs (sv x) vs :: RowsC vs cs :: SL nv tI (.slice oa c1 c2) p.picks :: blk pb tP [.slice oa c1 c2, nv p.t, nv kp, nv kp, iv 0] :: L))
    (fun a _ _ => l.length + 1 - (RowKit.intOf a).toNat) ⟨kp + bits, c0, [], rfl, hsy, S1, H.nilSL nv tI⟩ ?_
  clear H S1 hsy hcs
  rintro _ _ lv w6 ⟨q, c, Lr, rfl, hs, S, H⟩
  have hlen := hs.len
  have hq := hs.k
  have hdv : ((Lr.length : Nat) : Int).tdiv 50 = ((Lr.length / 50 : Nat) : Int) := by rw [Int.tdiv_eq_ediv_of_nonneg (by omega)]; simp
  refine r_lnS 0 H rfl ?_
  refine r_quoE hdv (by omega) (by omega) (by omega) ?_
  refine r_fo0 (r_ld 5 H rfl rfl ?_)
  refine r_lnS 4 H rfl ?_
  refine r_lss (r_ifD (fun hg => ?_) fun hg => ?_)
  rotate_left
  · exact k Lr _ _ (sy_end hs hp hct (by omega)) (by omega) _ S (Holds.dropAt (Holds.dropAt (Holds.dropAt (Holds.dropAt (Holds.dropAt H 5) 4) 3) 2) 1)
  have hg2 : ¬ p.picks.length ≤ Lr.length / 50 := by omega
  obtain ⟨j, hj1, hj2, hj3, hw, hts⟩ := sy_pick h3 h258 hs hp hct hg2
  obtain ⟨b, hb⟩ : ∃ b, vs[j]? = some b := ⟨_, List.getElem?_eq_getElem (by omega)⟩
  refine r_dr H fun w7 S7 H7 => ?_
  replace S := S.trans S7
  clear H S7
  refine r_fo0 (r_ld 1 H7 rfl rfl ?_)
  refine r_fo0 (r_ld 5 H7 rfl rfl ?_)
  refine r_lnS 0 H7 rfl ?_
  refine r_quoE hdv (by omega) (by omega) (by omega) ?_
  refine r_getS 4 H7 rfl hj1 ?_
  refine r_getS 2 H7 rfl hb ?_
  refine q_D (by rw [txt_len]; exact hq) ?_
  rw [txt_drop]
  obtain ⟨A, hA1, hA2⟩ := rows_get (L := SL nv tI lv Lr :: blk tb tTb [sv x, nv bits, iv 0] :: SL sv tSs (sv x) vs :: SL nv tI (.slice oa c1 c2) p.picks :: blk pb tP [.slice oa c1 c2, nv p.t, nv kp, nv kp, iv 0] :: L) hb hj3
  have HA : Holds w7 (SL S_ tS (sv b) (codesL c.table) :: A) := hA1 _ (by have h_ := Holds.ord 4 [3, 0, 1, 2] H7 rfl; exact h_)
  refine Get_spec HA hw (by omega) (fun hn => ?_) fun i hi hgi => ?_
  · refine r_lss (r_vtD (by decide) ?_)
    exact k Lr _ _ (sy_none hs hp hct hg2 hn) (by omega) _ S (Holds.dropAt (Holds.dropAt (Holds.dropAt (Holds.dropAt (Holds.dropAt H7 5) 4) 3) 2) 1)
  have hnx := sy_next hs hp hct hg2 hw hgi
  refine r_lss (r_vfD (by omega) ?_)
  refine r_getS 0 HA rfl (codesL_get hi) ?_
  refine q_len ?_
  rw [txt_len, codeB_len]
  generalize hn : c.table.getD i 0 = n at *
  refine r_addN (by omega) ?_
  refine r_app1 H7 0 rfl i (fun _ => rfl) (by omega) fun v8 w8 S8 H8 => ?_
  replace H8 : Holds w8 (SL nv tI v8 (Lr ++ [i]) :: blk tb tTb [sv x, nv bits, iv 0] :: SL sv tSs (sv x) vs :: RowsC vs cs :: SL nv tI (.slice oa c1 c2) p.picks :: blk pb tP [.slice oa c1 c2, nv p.t, nv kp, nv kp, iv 0] :: L) := H8
  replace S := S.trans S8
  clear H7 HA S8 hA1 hA2
  refine r_sub1N (by omega) (by omega) ?_
  refine r_eql (r_ifE (fun he => ?_) fun he => ?_)
  · have hE := sy_done h3 h258 hs hp hct hg2 hw hgi (by omega)
    exact k _ _ _ hE (by rw [List.length_append, List.length_singleton]; omega) _ S (Holds.dropAt (Holds.dropAt (Holds.dropAt (Holds.dropAt (Holds.dropAt H8 5) 4) 3) 2) 1)
  · refine r_ke ⟨⟨q + n, _, Lr ++ [i], rfl, sy_on h3 h258 hs hp hct hg2 hw hgi (by omega), S, H8⟩, ?_⟩
    simp [nv, RowKit.intOf]
    omega
end P20
end Go.Proofs.YtoomfeeiehfpmaaGreatDoor
/- Chapter 7: the reader of zeros of the document, a code at a time, and rows of codes. -/
set_option linter.unusedVariables false
set_option linter.unusedSimpArgs false
namespace Go.Proofs.YtoomfeeiehfpmaaGreatDoor
open Go Go.Vc
attribute [local irreducible] Go.Vc.Nc Go.Vc.Ld Go.Vc.LdA Go.Vc.St Go.Vc.StA Go.Vc.Fo Go.Vc.Iaa Go.Vc.Ias Go.Vc.Ixs Go.Vc.Ixa Go.Vc.Fd Go.Vc.FdA Go.Vc.Bp Go.Vc.Bb Go.Vc.Bn Go.Vc.Up Go.Vc.Ci Go.Vc.Lns Go.Vc.Lnl Go.Vc.Ex Go.Vc.Sst Go.Vc.Ssl Go.Vc.New Go.Vc.Vif Go.Vc.VJoin Go.Vc.VLoop Go.Vc.KE Go.Vc.Dr Go.Vc.Rk Go.Vc.Cl Go.Vc.Cx Go.Vc.Inv Go.Vc.Be Go.Vc.Cv Go.Vc.Cw Go.Vc.Mf Go.Vc.Sl Go.Vc.Lk Go.Vc.Bd Go.Vc.Bs Go.Vc.Ms Go.Vc.Mm Go.Vc.Mu Go.Vc.Me Go.Vc.Es Go.Vc.Rg Go.Vc.Nx Go.Vc.Ta Go.Vc.Ap Go.Vc.Usd Go.Vc.Ust Go.Vc.Cp Go.Vc.Ln Go.Vc.Bc Go.Vc.Bmin Go.Vc.Bmax Go.Vc.Bdel Go.Vc.Bclr Go.Vc.Pk
namespace P20
open Go.M01 Go.Mb Go.Mp Go.M10 Go.Mc Go.Mz Go.Mk Go.Q20 Go.Q21 Go.Q22
variable {w : World} {L : List HProp} {K : Value → World → Prop}
abbrev zrL (z : ZS) (rv : Value) : List Value := [nv z.n, nv z.most, nv z.told, rv, .bool z.done]
theorem Count_spec {z : ZS} {rv : Value} {row : List Nat} (H : Holds w (SL nv tI rv row :: L)) (h1 : ∀ c ∈ row, c ≤ 1) (h2 : (valR row).2 ≤ 2199023255552) (h3 : (valR row).1 ≤ 2199023255552) (ht : z.told ≤ 2199023255552)
    (k : ∀ w', Same w w' → Holds w' (SL nv tI rv row :: L) → K (nv (z.told + (valR row).1)) w') : Cl Tryz.prog F.balerref07_Reader_Count #[.agg (zrL z rv).toArray] w K := by
  refine Tie.balerref07_Reader_Count ?_
  unfold Vcf.balerref07_Reader_Count
  refine r_new H fun b w1 S1 H1 => ?_
  replace H1 : Holds w1 (blk b tZr (zrL z rv) :: SL nv tI rv row :: L) := H1
  clear H
  have H := H1
  have S := S1
  clear H1 S1
  refine r_dr H fun w2 S2 H2 => ?_
  refine r_fo0 (r_ld 0 H2 rfl rfl ?_)
  refine r_fo0 (r_ld 0 H2 rfl rfl ?_)
  refine Value_spec H2.drop h1 h2 h3 ?_
  refine r_rk (r_ld 0 H2 rfl rfl rfl) ?_
  repeat (refine r_addN (by omega) ?_)
  exact k _ (S.trans S2) H2.drop
theorem Put_spec {z : ZS} {rv : Value} {row : List Nat} {c : Nat} (H : Holds w (SL nv tI rv row :: L)) (hz : z.Ok) (hr : ZRow z row) (hd : z.done = false) (hc : c ≤ z.n + 1)
    (kb : zput z c = none → ∀ vs w', Same w w' → Holds w' L → vs.length = 7 → vs.all sg = true → K (.agg (vs ++ [iv 2]).toArray) w')
    (k : ∀ z' d p row' rv', zput z c = some (z', d, p) → ZRow z' row' → ∀ w', Same w w' → Holds w' (SL nv tI rv' row' :: L) → K (.agg (zrL z' rv' ++ [nv d, iv p, iv 0]).toArray) w') :
    Cl Tryz.prog F.balerref07_Reader_Put #[.agg (zrL z rv).toArray, nv c] w K := by
  refine Tie.balerref07_Reader_Put ?_
  unfold Vcf.balerref07_Reader_Put
  obtain ⟨o1, o2, o3, o4, o5, o6⟩ := hz
  have hz0 := hr.zeros
  have hw0 := hr.weight
  have hrv := SL_sg H 0 rfl
  refine r_new H fun b w1 S1 H1 => ?_
  replace H1 : Holds w1 (blk b tZr (zrL z rv) :: SL nv tI rv row :: L) := H1
  refine r_new H1 fun rb w2 S2 H2 => ?_
  have hzz : (zeroP Tryz.prog tZs).cells.toList = [iv 0, iv 0, iv 0, .slice none 0 0, .bool false, iv 0, iv 0, iv 0] := by kernel_rfl
  rw [hzz] at H2
  have S := S1.trans S2
  clear H H1 S1 S2
  have H := H2
  clear H2
  refine r_fo0 (r_ld 1 H rfl rfl ?_)
  rw [hd]
  refine r_vf ?_
  refine r_join1 (fun y w' => w2 = w' ∧ y = .bool false) ?_ ?_
  rotate_left
  · repeat (first | refine r_ld 1 H rfl rfl ?_ | refine r_fo0 ?_ | refine r_ke ?_ | refine r_lss ?_ | refine r_gtr ?_ | (refine r_add1N (by omega) ?_) | ((with_reducible refine r_vfD ?h ?_); (case h => omega)))
    exact ⟨rfl, by rw [decide_eq_false (by omega)]⟩
  rintro _ _ _ ⟨rfl, rfl⟩
  refine r_vf ?_
  refine r_ldA 1 H (zrL z rv) rfl rfl rfl ?_
  refine r_new H fun nb w3 S3 H3 => ?_
  have hzr : (zeroP Tryz.prog tZr).cells.toList = [iv 0, iv 0, iv 0, .slice none 0 0, .bool false] := by kernel_rfl
  rw [hzr] at H3
  refine r_stA 0 H3 (vs := zrL z rv) rfl (by simp) rfl (by simp [sg]; exact hrv) fun w4 S4 H4 => ?_
  replace H4 : Holds w4 (blk nb tZr (zrL z rv) :: blk rb tZs [iv 0, iv 0, iv 0, .slice none 0 0, .bool false, iv 0, iv 0, iv 0] :: blk b tZr (zrL z rv) :: SL nv tI rv row :: L) := H4
  replace S := (S.trans S3).trans S4
  clear H H3 S3 S4
  have H := H4
  clear H4
  refine r_lss (r_ifD (fun h => ?_) fun h => ?_)
  · have hput := zput_row (c := c) hr (by omega)
    refine r_fo0 (r_ld 2 H rfl rfl ?_)
    have hrl := valR_len row
    refine r_apS (xs := ([] : List Nat)) (ys := row) (f := nv) (e := tI) (H.nilSL nv tI) 0 4 (by decide) rfl rfl (fun _ => rfl) (by simp; omega) fun v5 w5 S5 H5 => ?_
    rw [List.nil_append] at H5
    refine r_app1 H5 0 rfl c (fun _ => rfl) (by omega) fun v6 w6 S6 H6 => ?_
    replace H6 : Holds w6 (SL nv tI v6 (row ++ [c]) :: blk nb tZr (zrL z rv) :: blk rb tZs [iv 0, iv 0, iv 0, .slice none 0 0, .bool false, iv 0, iv 0, iv 0] :: blk b tZr (zrL z rv) :: SL nv tI rv row :: L) := H6
    have hv6 := SL_sg H6 0 rfl
    refine r_fo0 ?_
    refine r_st 1 H6 rfl (by simp) hv6 fun w7 S7 H7 => ?_
    replace H7 : Holds w7 (SL nv tI v6 (row ++ [c]) :: blk nb tZr (zrL z v6) :: blk rb tZs [iv 0, iv 0, iv 0, .slice none 0 0, .bool false, iv 0, iv 0, iv 0] :: blk b tZr (zrL z rv) :: SL nv tI rv row :: L) := H7
    replace S := ((S.trans S5).trans S6).trans S7
    clear H H5 H6 S5 S6 S7
    refine r_dr H7 fun w8 S8 H8 => ?_
    refine r_ldA 1 H8 (zrL z v6) rfl rfl rfl ?_
    have e := valR_snoc row c
    have hc2 : c = 0 ∨ c = 1 := by omega
    have hcp : (valR (row ++ [c])).1 ≤ 4000000 ∧ (valR (row ++ [c])).2 ≤ 4000000 := by
      rw [e]; rcases hc2 with rfl | rfl <;> simp <;> omega
    have hrow := row_snoc hr (show c ≤ 1 by omega) z.n z.most z.told false
    refine Count_spec H8 hrow.two (by omega) (by omega) (by omega) fun w9 S9 H9 => ?_
    replace S := (S.trans S8).trans S9
    refine r_fo0 (r_ld 3 H9 rfl rfl ?_)
    refine r_rk (r_ld 3 H8 rfl rfl rfl) ?_
    clear H8 H7 S8 S9
    refine r_gtr (r_ifD (fun h2 => ?_) fun h2 => ?_)
    · rw [if_pos (by omega)] at hput
      refine r_ldA 3 H9 (zrL z rv) rfl rfl rfl ?_
      refine q_ret 2 H9 (zrL z rv ++ [iv 0, iv 0, iv 2]) rfl (by kernel_rfl) rfl rfl (by simp [sg]; exact hrv) fun wa Sa Ha => ?_
      exact kb hput (zrL z rv ++ [iv 0, iv 0]) _ (S.trans Sa) (Holds.dropAt (Holds.dropAt (Holds.dropAt (Holds.dropAt (Holds.dropAt Ha 4) 3) 2) 1) 0) rfl (by simp [sg]; exact hrv)
    · rw [if_neg (by omega)] at hput
      refine r_ldA 1 H9 (zrL z v6) rfl rfl rfl ?_
      refine q_ret 2 H9 (zrL z v6 ++ [iv 0, iv (-1), iv 0]) rfl (by kernel_rfl) rfl rfl (by simp [sg]; exact hv6) fun wa Sa Ha => ?_
      have := k _ 0 (-1) _ v6 hput hrow _ (S.trans Sa) (Holds.dropAt (Holds.dropAt (Holds.dropAt (Holds.dropAt Ha 4) 3) 2) 1)
      unfold zrL at this ⊢
      rw [hd]
      exact this
  · have hput : zput z c = if c = z.n + 1 then some (⟨z.n, z.most, z.told + z.zeros, 0, 1, true⟩, z.zeros, -1) else if z.told + z.zeros = z.most then none else some (⟨z.n, z.most, z.told + 1 + z.zeros, 0, 1, false⟩, z.zeros, (c : Int) - 1) := by
      unfold zput; rw [if_neg (by omega)]
    refine r_fo0 (r_ld 2 H rfl rfl ?_)
    have H3 : Holds w4 (SL nv tI rv row :: blk nb tZr (zrL z rv) :: blk rb tZs [iv 0, iv 0, iv 0, .slice none 0 0, .bool false, iv 0, iv 0, iv 0] :: blk b tZr (zrL z rv) :: L) := (by have h_ := Holds.ord 4 [3, 0, 1, 2] H rfl; exact h_)
    refine Value_spec H3 hr.two (by omega) (by omega) ?_
    rw [← hz0]
    replace H := H3.drop
    clear H3
    refine r_fo0 (r_ld 2 H rfl rfl ?_)
    repeat (first | refine r_fo0 ?_ | (refine r_addN (by omega) ?_))
    refine r_st 0 H rfl (by simp) rfl fun w5 S5 H5 => ?_
    replace H5 : Holds w5 (blk nb tZr [nv z.n, nv z.most, nv (z.told + z.zeros), rv, .bool z.done] :: blk rb tZs [iv 0, iv 0, iv 0, .slice none 0 0, .bool false, iv 0, iv 0, iv 0] :: blk b tZr (zrL z rv) :: L) := H5
    refine r_fo0 ?_
    refine r_st 0 H5 rfl (by simp) rfl fun w6 S6 H6 => ?_
    replace H6 : Holds w6 (blk nb tZr [nv z.n, nv z.most, nv (z.told + z.zeros), .slice none 0 0, .bool z.done] :: blk rb tZs [iv 0, iv 0, iv 0, .slice none 0 0, .bool false, iv 0, iv 0, iv 0] :: blk b tZr (zrL z rv) :: L) := H6
    replace S := (S.trans S5).trans S6
    clear H H5 S5 S6
    have H := H6
    clear H6
    refine r_fo0 (r_ld 2 H rfl rfl ?_)
    repeat (first | refine r_eql ?_ | (refine r_add1N (by omega) ?_))
    refine r_ifE (fun h2 => ?_) fun h2 => ?_
    · rw [if_pos (by omega)] at hput
      repeat (first | refine r_fo0 ?_)
      refine r_st 0 H rfl (by simp) rfl fun w7 S7 H7 => ?_
      replace H7 : Holds w7 (blk nb tZr [nv z.n, nv z.most, nv (z.told + z.zeros), .slice none 0 0, .bool true] :: blk rb tZs [iv 0, iv 0, iv 0, .slice none 0 0, .bool false, iv 0, iv 0, iv 0] :: blk b tZr (zrL z rv) :: L) := H7
      refine r_ldA 0 H7 _ rfl rfl rfl ?_
      refine q_ret 1 H7 ([nv z.n, nv z.most, nv (z.told + z.zeros), .slice none 0 0, .bool true] ++ [nv z.zeros, iv (-1), iv 0]) rfl (by kernel_rfl) rfl rfl rfl fun wa Sa Ha => ?_
      exact k _ z.zeros (-1) [] (.slice none 0 0) hput ⟨rfl, rfl, fun x h => by cases h⟩ _ ((S.trans S7).trans Sa) ((Holds.dropAt (Holds.dropAt (Holds.dropAt Ha 2) 1) 0).nilSL nv tI)
    · rw [if_neg (by omega)] at hput
      refine r_fo0 (r_ld 0 H rfl rfl ?_)
      repeat (first | refine r_fo0 ?_ | (refine r_add1N (by omega) ?_))
      refine r_st 0 H rfl (by simp) rfl fun w7 S7 H7 => ?_
      replace H7 : Holds w7 (blk nb tZr [nv z.n, nv z.most, nv (z.told + z.zeros + 1), .slice none 0 0, .bool z.done] :: blk rb tZs [iv 0, iv 0, iv 0, .slice none 0 0, .bool false, iv 0, iv 0, iv 0] :: blk b tZr (zrL z rv) :: L) := H7
      refine r_fo0 (r_ld 0 H7 rfl rfl ?_)
      refine r_fo0 (r_ld 2 H7 rfl rfl ?_)
      replace S := S.trans S7
      refine r_gtr (r_ifD (fun h3 => ?_) fun h3 => ?_)
      · rw [if_pos (by omega)] at hput
        refine r_ldA 2 H7 (zrL z rv) rfl rfl rfl ?_
        refine q_ret 1 H7 (zrL z rv ++ [iv 0, iv 0, iv 2]) rfl (by kernel_rfl) rfl rfl (by simp [sg]; exact hrv) fun wa Sa Ha => ?_
        exact kb hput (zrL z rv ++ [iv 0, iv 0]) _ (S.trans Sa) (Holds.dropAt (Holds.dropAt (Holds.dropAt Ha 2) 1) 0) rfl (by simp [sg]; exact hrv)
      · rw [if_neg (by omega)] at hput
        refine r_ldA 0 H7 _ rfl rfl rfl ?_
        repeat (refine r_sub1N (by omega) (by omega) ?_)
        refine q_ret 1 H7 ([nv z.n, nv z.most, nv (z.told + z.zeros + 1), .slice none 0 0, .bool z.done] ++ [nv z.zeros, nv (c - 1), iv 0]) rfl (by kernel_rfl) rfl rfl rfl fun wa Sa Ha => ?_
        have := k _ z.zeros ((c : Int) - 1) [] (.slice none 0 0) hput ⟨rfl, rfl, fun x h => by cases h⟩ _ (S.trans Sa) ((Holds.dropAt (Holds.dropAt (Holds.dropAt Ha 2) 1) 0).nilSL nv tI)
        rw [hd]
        rw [show z.told + 1 + z.zeros = z.told + z.zeros + 1 by omega, show (c : Int) - 1 = ((c - 1 : Nat) : Int) by omega] at this
        exact this
end P20
end Go.Proofs.YtoomfeeiehfpmaaGreatDoor
