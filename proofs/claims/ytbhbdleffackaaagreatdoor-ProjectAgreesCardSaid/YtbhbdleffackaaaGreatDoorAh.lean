/- Chapter 46: whether two views agree, by the document; views told to the document; ProjectAgrees. -/
import Derived.Test.YtbhbdleffackaaaGreatDoorAg
set_option linter.unusedVariables false
set_option linter.unusedSimpArgs false
namespace Go.Proofs.YtbhbdleffackaaaGreatDoor
open Go Go.Vc
attribute [local irreducible] Go.Vc.Nc Go.Vc.Ld Go.Vc.LdA Go.Vc.St Go.Vc.StA Go.Vc.Fo Go.Vc.Iaa Go.Vc.Ias Go.Vc.Ixs Go.Vc.Ixa Go.Vc.Fd Go.Vc.FdA Go.Vc.Bp Go.Vc.Bb Go.Vc.Bn Go.Vc.Up Go.Vc.Ci Go.Vc.Lns Go.Vc.Lnl Go.Vc.Ex Go.Vc.Sst Go.Vc.Ssl Go.Vc.New Go.Vc.Vif Go.Vc.VJoin Go.Vc.VLoop Go.Vc.KE Go.Vc.Dr Go.Vc.Rk Go.Vc.Cl Go.Vc.Cx Go.Vc.Inv Go.Vc.Be Go.Vc.Cv Go.Vc.Cw Go.Vc.Mf Go.Vc.Sl Go.Vc.Lk Go.Vc.Bd Go.Vc.Bs Go.Vc.Ms Go.Vc.Mm Go.Vc.Mu Go.Vc.Me Go.Vc.Es Go.Vc.Rg Go.Vc.Nx Go.Vc.Ta Go.Vc.Ap Go.Vc.Usd Go.Vc.Ust Go.Vc.Cp Go.Vc.Ln Go.Vc.Bc Go.Vc.Bmin Go.Vc.Bmax Go.Vc.Bdel Go.Vc.Bclr Go.Vc.Pk
namespace A46
open S4r P46 O46
variable {w : World} {L : List HProp} {K : Value → World → Prop}
theorem rv_zero : (zeroP Tryz.prog tRV).cells.toList = cellsV none 0 0 none 0 0 := by kernel_rfl
theorem vi_zero : (zeroP Tryz.prog tVi).cells.toList = cellsV none 0 0 none 0 0 := by kernel_rfl
theorem has_spec {a : Option Addr} {xs : List En} {c : Nat} {id : Int} (hn : xs.length ≤ 1000) (H : Holds w L) (hT : EnIn L a xs)
    (k : ∀ w', Same w w' → Holds w' L → K (.bool (findE xs id).isSome) w') : Cl Tryz.prog F.balerref46_has #[.slice a xs.length c, iv id] w K := by
  refine Tie.balerref46_has ?_
  unfold Vcf.balerref46_has
  refine r_lnl ?_
  refine r_loopM (fun j y w' => ∃ q : Nat, j = xs.length - q ∧ q ≤ xs.length ∧ y = nv q ∧ (∀ (r : Nat) z, r < q → xs[r]? = some z → z.id ≠ id) ∧ Same w w' ∧ Holds w' L) xs.length
    ⟨0, rfl, Nat.zero_le _, rfl, fun r z h => absurd h (Nat.not_lt_zero _), .refl w, H⟩ ?_
  clear H
  rintro _ j _ w2 _ ⟨q, rfl, hq, rfl, hno, S, H⟩ hgo
  refine r_lss (r_ifD (fun h => ?_) fun h => ?_)
  · have hlt : q < xs.length := by omega
    have hx : xs[q]? = some xs[q] := List.getElem?_eq_getElem hlt
    generalize xs[q] = x at hx
    refine r_ldG hT H hx rfl hlt ?_
    refine r_new H fun eb w3 S3 H3 => ?_
    rw [re_zero] at H3
    refine r_stA 0 H3 (vs := cellsEn x) rfl (Nat.le_refl 4) rfl rfl fun w4 S4 H4 => ?_
    replace H4 : Holds w4 (blk eb tRE (cellsEn x) :: L) := H4
    refine r_fo0 (r_ld 0 H4 rfl rfl ?_)
    refine r_eql (r_ifE (fun he => ?_) fun he => ?_)
    · have := k w4 (S.trans (S3.trans S4)) H4.drop
      rw [findE_at hx he hno] at this
      exact this
    · refine r_add1N (by omega) (r_ke (hgo (xs.length - (q + 1)) _ _ (by omega) ⟨q + 1, rfl, by omega, rfl, fun r z hr hz => ?_, S.trans (S3.trans S4), H4.drop⟩))
      by_cases hrq : r < q
      · exact hno r z hrq hz
      · obtain rfl : r = q := by omega
        rw [hx] at hz
        obtain rfl := Option.some.inj hz
        exact he
  · obtain rfl : q = xs.length := by omega
    have := k w2 S H
    rw [findE_none fun r z hz => hno r z (List.getElem?_eq_some_iff.1 hz).1 hz] at this
    exact this
theorem Find_spec {a : Option Addr} {xs : List En} {c : Nat} {id : Int} (hn : xs.length ≤ 1000) (H : Holds w L) (hT : EnIn L a xs)
    (k : ∀ w', Same w w' → Holds w' L → K (.agg (cellsEn ((findE xs id).getD En1)).toArray) w') : Cl Tryz.prog F.balerref46_Find #[.slice a xs.length c, iv id] w K := by
  refine Tie.balerref46_Find ?_
  unfold Vcf.balerref46_Find
  refine r_new H fun ob w1 S1 H1 => ?_
  rw [re_zero] at H1
  refine r_lnl ?_
  refine r_loopM (fun j y w' => ∃ q : Nat, j = xs.length - q ∧ q ≤ xs.length ∧ y = nv q ∧ (∀ (r : Nat) z, r < q → xs[r]? = some z → z.id ≠ id) ∧ Same w w' ∧ Holds w' (blk ob tRE (cellsEn En0) :: L)) xs.length
    ⟨0, rfl, Nat.zero_le _, rfl, fun r z h => absurd h (Nat.not_lt_zero _), S1, H1⟩ ?_
  clear H H1 S1
  rintro _ j _ w2 _ ⟨q, rfl, hq, rfl, hno, S, H⟩ hgo
  refine r_lss (r_ifD (fun h => ?_) fun h => ?_)
  · have hlt : q < xs.length := by omega
    have hx : xs[q]? = some xs[q] := List.getElem?_eq_getElem hlt
    generalize xs[q] = x at hx
    refine r_ldG hT.up H hx rfl hlt ?_
    refine r_new H fun eb w3 S3 H3 => ?_
    rw [re_zero] at H3
    refine r_stA 0 H3 (vs := cellsEn x) rfl (Nat.le_refl 4) rfl rfl fun w4 S4 H4 => ?_
    replace H4 : Holds w4 (blk eb tRE (cellsEn x) :: blk ob tRE (cellsEn En0) :: L) := H4
    refine r_fo0 (r_ld 0 H4 rfl rfl ?_)
    refine r_eql (r_ifE (fun he => ?_) fun he => ?_)
    · refine r_ldA 0 H4 (cellsEn x) rfl rfl rfl ?_
      refine r_stA 1 H4 (vs := cellsEn x) rfl (Nat.le_refl 4) rfl rfl fun w5 S5 H5 => ?_
      refine r_ldA 1 H5 (cellsEn x) rfl rfl rfl ?_
      have := k w5 (S.trans (S3.trans (S4.trans S5))) H5.drop.drop
      rw [findE_at hx he hno] at this
      exact this
    · refine r_add1N (by omega) (r_ke (hgo (xs.length - (q + 1)) _ _ (by omega) ⟨q + 1, rfl, by omega, rfl, fun r z hr hz => ?_, S.trans (S3.trans S4), H4.drop⟩))
      by_cases hrq : r < q
      · exact hno r z hrq hz
      · obtain rfl : r = q := by omega
        rw [hx] at hz
        obtain rfl := Option.some.inj hz
        exact he
  · obtain rfl : q = xs.length := by omega
    refine r_bd (v := .agg (cellsEn En1).toArray) (by kernel_rfl) ?_
    refine r_stA 0 H (vs := cellsEn En1) rfl (Nat.le_refl 4) rfl rfl fun w5 S5 H5 => ?_
    refine r_ldA 0 H5 (cellsEn En1) rfl rfl rfl ?_
    have := k w5 (S.trans S5) H5.drop
    rw [findE_none fun r z hz => hno r z (List.getElem?_eq_some_iff.1 hz).1 hz] at this
    exact this
theorem RAgree_spec {a b a2 b2 : Option Addr} {xs ys : List En} {rs ts : List An} {c d c2 d2 : Nat} (hx : xs.length ≤ 1000) (hy : ys.length ≤ 1000) (hr3 : rs.length ≤ 1000) (H : Holds w L)
    (h1 : EnIn L a xs) (h2 : AnIn L b rs) (h3 : EnIn L a2 ys) (h4 : AnIn L b2 ts)
    (k1 : agr xs ys rs ts → ∀ w', Same w w' → Holds w' L → K (.bool true) w') (k2 : ¬ agr xs ys rs ts → ∀ w', Same w w' → Holds w' L → K (.bool false) w') :
    Cl Tryz.prog F.balerref46_Agree #[.agg (cellsV a xs.length c b rs.length d).toArray, .agg (cellsV a2 ys.length c2 b2 ts.length d2).toArray] w K := by
  refine Tie.balerref46_Agree ?_
  unfold Vcf.balerref46_Agree
  refine r_new H fun ab w1 S1 H1 => ?_
  replace H1 : Holds w1 (blk ab tRV (cellsV a xs.length c b rs.length d) :: L) := H1
  refine r_new H1 fun bb w2 S2 H2 => ?_
  replace H2 : Holds w2 (blk bb tRV (cellsV a2 ys.length c2 b2 ts.length d2) :: blk ab tRV (cellsV a xs.length c b rs.length d) :: L) := H2
  refine r_fo0 (r_ld 1 H2 rfl rfl (r_lnl ?_))
  refine r_loopM (fun j y w' => ∃ q : Nat, j = xs.length - q ∧ q ≤ xs.length ∧ y = nv q ∧ (∀ (r : Nat) z, r < q → xs[r]? = some z → atE xs ys z) ∧ Same w w' ∧ Holds w' (blk bb tRV (cellsV a2 ys.length c2 b2 ts.length d2) :: blk ab tRV (cellsV a xs.length c b rs.length d) :: L)) xs.length
    ⟨0, rfl, Nat.zero_le _, rfl, fun r z h => absurd h (Nat.not_lt_zero _), S1.trans S2, H2⟩ ?_
  clear H H1 H2 S1 S2
  rintro _ j _ w3 _ ⟨q, rfl, hq, rfl, hok, S, H⟩ hgo
  refine r_lss (r_ifD (fun h => ?_) fun h => ?_)
  · have hlt : q < xs.length := by omega
    have hx1 : xs[q]? = some xs[q] := List.getElem?_eq_getElem hlt
    generalize xs[q] = x at hx1
    refine r_ldG h1.up.up H hx1 rfl hlt ?_
    refine r_new H fun eb w4 S4 H4 => ?_
    rw [re_zero] at H4
    refine r_stA 0 H4 (vs := cellsEn x) rfl (Nat.le_refl 4) rfl rfl fun w5 S5 H5 => ?_
    replace H5 : Holds w5 (blk eb tRE (cellsEn x) :: blk bb tRV (cellsV a2 ys.length c2 b2 ts.length d2) :: blk ab tRV (cellsV a xs.length c b rs.length d) :: L) := H5
    have S' := S.trans (S4.trans S5)
    clear S S4 S5 H H4
    refine r_join1 (fun v w' => ∃ z : Bool, v = .bool z ∧ (z = true → ¬ atE xs ys x) ∧ (z = false → atE xs ys x) ∧ Same w w' ∧ Holds w' (blk eb tRE (cellsEn x) :: blk bb tRV (cellsV a2 ys.length c2 b2 ts.length d2) :: blk ab tRV (cellsV a xs.length c b rs.length d) :: L)) ?_ ?_
    rotate_left
    · refine r_dr H5 fun w6 S6 H6 => ?_
      refine r_fo0 (r_ld 1 H6 rfl rfl ?_)
      refine r_fo0 (r_ld 0 H6 rfl rfl ?_)
      refine has_spec (id := x.id) hy H6 h3.up.up.up fun w7 S7 H7 => ?_
      cases hz : findE ys x.id with
      | none =>
        refine r_vf (r_ke ⟨false, rfl, fun e => (by cases e), fun _ g hg => ?_, S'.trans (S6.trans S7), H7⟩)
        rw [hz] at hg
        cases hg
      | some z =>
        refine r_vt ?_
        obtain ⟨p, hp⟩ := findE_mem hx1
        refine r_fo0 (r_ld 1 H7 rfl rfl ?_)
        refine r_fo0 (r_ld 0 H7 rfl rfl ?_)
        refine Find_spec (id := x.id) hy H7 h3.up.up.up fun w8 S8 H8 => ?_
        refine r_fo0 (r_ld 2 H8 rfl rfl ?_)
        refine r_rk (r_ld 2 H7 rfl rfl rfl) ?_
        refine r_fo0 (r_ld 0 H8 rfl rfl ?_)
        refine r_rk (r_ld 0 H7 rfl rfl rfl) ?_
        refine Find_spec (id := x.id) hx H8 h1.up.up.up fun w9 S9 H9 => ?_
        rw [hz, hp]
        refine beE (by decide) (.inr rfl) ?_
        have Sz := S'.trans (S6.trans (S7.trans (S8.trans S9)))
        show KE _ _ _
        by_cases e : z = p
        · refine r_ke ⟨false, by show Value.bool (!decide (z = p)) = _; rw [decide_eq_true e]; rfl, fun e => (by cases e), fun _ g hg => ?_, Sz, H9⟩
          rw [hz] at hg
          obtain rfl := Option.some.inj hg
          rw [hp, e]
        · refine r_ke ⟨true, by show Value.bool (!decide (z = p)) = _; rw [decide_eq_false e]; rfl, fun _ g => e ?_, fun e => (by cases e), Sz, H9⟩
          have := g z hz
          rw [hp] at this
          exact (Option.some.inj this).symm
    clear H5 S'
    rintro _ _ w6 ⟨z, rfl, hz1, hz2, S6, H6⟩
    cases z with
    | true => exact r_vt (k2 (fun g => hz1 rfl (g.1 q x hx1)) _ S6 H6.drop.drop.drop)
    | false =>
      refine r_vf (r_add1N (by omega) (r_ke (hgo (xs.length - (q + 1)) _ _ (by omega) ⟨q + 1, rfl, by omega, rfl, fun r u hr hu => ?_, S6, H6.drop⟩)))
      by_cases hrq : r < q
      · exact hok r u hrq hu
      · obtain rfl : r = q := by omega
        rw [hx1] at hu
        obtain rfl := Option.some.inj hu
        exact hz2 rfl
  · obtain rfl : q = xs.length := by omega
    have hE : agrE xs ys := fun i x hi => hok i x (List.getElem?_eq_some_iff.1 hi).1 hi
    refine r_fo0 (r_ld 1 H rfl rfl (r_lnl ?_))
    refine r_loopM (fun j y w' => ∃ q : Nat, j = rs.length - q ∧ q ≤ rs.length ∧ y = nv q ∧ (∀ (r : Nat) u v, r < q → rs[r]? = some u → ts[r]? = some v → u = v) ∧ Same w w' ∧ Holds w' (blk bb tRV (cellsV a2 ys.length c2 b2 ts.length d2) :: blk ab tRV (cellsV a xs.length c b rs.length d) :: L)) rs.length
      ⟨0, rfl, Nat.zero_le _, rfl, fun r u v h => absurd h (Nat.not_lt_zero _), S, H⟩ ?_
    clear H S hgo hok
    rintro _ j _ w4 _ ⟨q, rfl, hq, rfl, hok, S, H⟩ hgo
    refine r_lss (r_ifD (fun h => ?_) fun h => ?_)
    · have hlt : q < rs.length := by omega
      have hx1 : rs[q]? = some rs[q] := List.getElem?_eq_getElem hlt
      generalize rs[q] = x at hx1
      refine r_ldG h2.up.up H hx1 rfl hlt ?_
      refine r_new H fun eb w5 S5 H5 => ?_
      rw [ra_zero] at H5
      refine r_stA 0 H5 (vs := cellsAn x) rfl (Nat.le_refl 4) rfl rfl fun w6 S6 H6 => ?_
      replace H6 : Holds w6 (blk eb tRA (cellsAn x) :: blk bb tRV (cellsV a2 ys.length c2 b2 ts.length d2) :: blk ab tRV (cellsV a xs.length c b rs.length d) :: L) := H6
      have S' := S.trans (S5.trans S6)
      clear S S5 S6 H H5
      refine r_join1 (fun v w' => ∃ z : Bool, v = .bool z ∧ (z = true → ∃ y, ts[q]? = some y ∧ x ≠ y) ∧ (z = false → ∀ y, ts[q]? = some y → x = y) ∧ Same w w' ∧ Holds w' (blk eb tRA (cellsAn x) :: blk bb tRV (cellsV a2 ys.length c2 b2 ts.length d2) :: blk ab tRV (cellsV a xs.length c b rs.length d) :: L)) ?_ ?_
      rotate_left
      · refine r_dr H6 fun w7 S7 H7 => ?_
        refine r_fo0 (r_ld 1 H7 rfl rfl (r_lnl ?_))
        refine r_lss (r_ifD (fun h6 => ?_) fun h6 => ?_)
        · have hlt2 : q < ts.length := by omega
          have hy1 : ts[q]? = some ts[q] := List.getElem?_eq_getElem hlt2
          generalize ts[q] = y at hy1
          refine r_ldA 0 H7 (cellsAn x) rfl rfl rfl ?_
          refine r_fo0 (r_ld 1 H7 rfl rfl ?_)
          refine r_ldG h4.up.up.up H7 hy1 rfl hlt2 ?_
          refine beA (by decide) (.inr rfl) ?_
          by_cases e : x = y
          · refine r_ke ⟨false, by rw [decide_eq_true e]; rfl, fun e => (by cases e), fun _ g hg => ?_, S'.trans S7, H7⟩
            rw [hy1] at hg
            obtain rfl := Option.some.inj hg
            exact e
          · exact r_ke ⟨true, by rw [decide_eq_false e]; rfl, fun _ => ⟨y, hy1, e⟩, fun e => (by cases e), S'.trans S7, H7⟩
        · refine r_ke ⟨false, rfl, fun e => (by cases e), fun _ g hg => ?_, S'.trans S7, H7⟩
          have := (List.getElem?_eq_some_iff.1 hg).1
          omega
      clear H6 S'
      rintro _ _ w7 ⟨z, rfl, hz1, hz2, S7, H7⟩
      cases z with
      | true =>
        obtain ⟨y, hy1, hne⟩ := hz1 rfl
        exact r_vt (k2 (fun g => hne (g.2 q x y hx1 hy1)) _ S7 H7.drop.drop.drop)
      | false =>
        refine r_vf (r_add1N (by omega) (r_ke (hgo (rs.length - (q + 1)) _ _ (by omega) ⟨q + 1, rfl, by omega, rfl, fun r u v hr hu hv => ?_, S7, H7.drop⟩)))
        by_cases hrq : r < q
        · exact hok r u v hrq hu hv
        · obtain rfl : r = q := by omega
          rw [hx1] at hu
          obtain rfl := Option.some.inj hu
          exact hz2 rfl v hv
    · obtain rfl : q = rs.length := by omega
      exact k1 ⟨hE, fun i x y hx1 hy1 => hok i x y (List.getElem?_eq_some_iff.1 hx1).1 hx1 hy1⟩ _ S H.drop.drop
theorem ref_spec {a b : Option Addr} {xs : List En} {rs : List An} {c d : Nat} (hx : xs.length ≤ 1000) (hr : rs.length ≤ 1000) (H : Holds w L) (h1 : EnIn L a xs) (h2 : AnIn L b rs)
    (k : ∀ u v w', Same w w' → Holds w' (RW cellsEn 4 tRE u xs :: RW cellsAn 4 tRA v rs :: L) → K (.agg #[u, v]) w') :
    Cl Tryz.prog F.balerlaw46_ref #[.agg (cellsV a xs.length c b rs.length d).toArray] w K := by
  refine Tie.balerlaw46_ref ?_
  unfold Vcf.balerlaw46_ref
  refine r_new H fun vb w1 S1 H1 => ?_
  replace H1 : Holds w1 (blk vb tVi (cellsV a xs.length c b rs.length d) :: L) := H1
  refine r_new H1 fun rb w2 S2 H2 => ?_
  rw [rv_zero] at H2
  refine r_bd (v := .agg (cellsV none 0 0 none 0 0).toArray) (by kernel_rfl) ?_
  refine r_new H2 fun ob w3 S3 H3 => ?_
  rw [rv_zero] at H3
  refine r_stA 0 H3 (vs := cellsV none 0 0 none 0 0) rfl (Nat.le_refl 2) rfl rfl fun w4 S4 H4 => ?_
  have H5 := (H4.nilRW cellsAn 4 tRA).nilRW cellsEn 4 tRE
  replace H5 : Holds w4 (RW cellsEn 4 tRE (.slice none 0 0) [] :: RW cellsAn 4 tRA (.slice none 0 0) [] :: blk ob tRV [.slice none 0 0, .slice none 0 0] :: blk rb tRV (cellsV none 0 0 none 0 0) :: blk vb tVi (cellsV a xs.length c b rs.length d) :: L) := H5
  have S := S1.trans (S2.trans (S3.trans S4))
  clear S1 S2 S3 S4 H H1 H2 H3 H4
  refine r_fo0 (r_ld 4 H5 rfl rfl (r_lnl ?_))
  refine r_loopM (fun j y w' => ∃ (q : Nat) (u : Value), j = xs.length - q ∧ q ≤ xs.length ∧ y = nv q ∧ Same w w' ∧ Holds w' (RW cellsEn 4 tRE u (xs.take q) :: RW cellsAn 4 tRA (.slice none 0 0) [] :: blk ob tRV [u, .slice none 0 0] :: blk rb tRV (cellsV none 0 0 none 0 0) :: blk vb tVi (cellsV a xs.length c b rs.length d) :: L)) xs.length
    ⟨0, .slice none 0 0, rfl, Nat.zero_le _, rfl, S, H5⟩ ?_
  clear H5 S
  rintro _ j _ w5 _ ⟨q, u, rfl, hq, rfl, S, H⟩ hgo
  refine r_lss (r_ifD (fun h => ?_) fun h => ?_)
  · have hlt : q < xs.length := by omega
    have hx1 : xs[q]? = some xs[q] := List.getElem?_eq_getElem hlt
    have htk : xs.take (q + 1) = xs.take q ++ [xs[q]] := by rw [List.take_add_one, hx1]; rfl
    generalize xs[q] = x at hx1 htk
    refine r_ldG h1.up.up.up.up.up H hx1 rfl hlt ?_
    refine r_new H fun eb w6 S6 H6 => ?_
    rw [en_zero] at H6
    refine r_stA 0 H6 (vs := cellsEn x) rfl (Nat.le_refl 4) rfl rfl fun w7 S7 H7 => ?_
    replace H7 : Holds w7 (blk eb tEn (cellsEn x) :: RW cellsEn 4 tRE u (xs.take q) :: RW cellsAn 4 tRA (.slice none 0 0) [] :: blk ob tRV [u, .slice none 0 0] :: blk rb tRV (cellsV none 0 0 none 0 0) :: blk vb tVi (cellsV a xs.length c b rs.length d) :: L) := H7
    refine r_fo0 (r_ld 3 H7 rfl rfl ?_)
    refine r_fo0 (r_ld 0 H7 rfl rfl ?_)
    refine r_fo0 (r_ld 0 H7 rfl rfl ?_)
    refine r_fo0 (r_ld 0 H7 rfl rfl ?_)
    refine r_fo0 (r_ld 0 H7 rfl rfl ?_)
    refine r_bd (v := .agg (cellsEn x).toArray) (by kernel_rfl) ?_
    refine r_appN H7 1 x rfl (by kernel_rfl) (fun y => rfl) en_sg (by rw [List.length_take]; omega) (by decide) fun u' w8 S8 H8 => ?_
    replace H8 : Holds w8 (blk eb tEn (cellsEn x) :: RW cellsEn 4 tRE u' (xs.take q ++ [x]) :: RW cellsAn 4 tRA (.slice none 0 0) [] :: blk ob tRV [u, .slice none 0 0] :: blk rb tRV (cellsV none 0 0 none 0 0) :: blk vb tVi (cellsV a xs.length c b rs.length d) :: L) := H8
    obtain ⟨oa, m, sp, rfl, _⟩ := H8.openRW 1 rfl
    refine r_fo0 ?_
    refine r_st 3 H8 rfl (by simp) rfl fun w9 S9 H9 => ?_
    refine r_add1N (by omega) (r_ke (hgo (xs.length - (q + 1)) _ _ (by omega) ⟨q + 1, .slice oa (xs.take q ++ [x]).length ((xs.take q ++ [x]).length + m), rfl, by omega, rfl, S.trans (S6.trans (S7.trans (S8.trans S9))), ?_⟩))
    rw [htk]
    exact H9.drop
  · obtain rfl : q = xs.length := by omega
    rw [List.take_length] at H
    clear hgo
    refine r_fo0 (r_ld 4 H rfl rfl (r_lnl ?_))
    refine r_loopM (fun j y w' => ∃ (q : Nat) (v : Value), j = rs.length - q ∧ q ≤ rs.length ∧ y = nv q ∧ Same w w' ∧ Holds w' (RW cellsEn 4 tRE u xs :: RW cellsAn 4 tRA v (rs.take q) :: blk ob tRV [u, v] :: blk rb tRV (cellsV none 0 0 none 0 0) :: blk vb tVi (cellsV a xs.length c b rs.length d) :: L)) rs.length
      ⟨0, .slice none 0 0, rfl, Nat.zero_le _, rfl, S, H⟩ ?_
    clear H S
    rintro _ j _ w5 _ ⟨q, v, rfl, hq, rfl, S, H⟩ hgo
    refine r_lss (r_ifD (fun h => ?_) fun h => ?_)
    · have hlt : q < rs.length := by omega
      have hx1 : rs[q]? = some rs[q] := List.getElem?_eq_getElem hlt
      have htk : rs.take (q + 1) = rs.take q ++ [rs[q]] := by rw [List.take_add_one, hx1]; rfl
      generalize rs[q] = x at hx1 htk
      refine r_ldG h2.up.up.up.up.up H hx1 rfl hlt ?_
      refine r_new H fun eb w6 S6 H6 => ?_
      rw [an_zero] at H6
      refine r_stA 0 H6 (vs := cellsAn x) rfl (Nat.le_refl 4) rfl rfl fun w7 S7 H7 => ?_
      replace H7 : Holds w7 (blk eb tAn (cellsAn x) :: RW cellsEn 4 tRE u xs :: RW cellsAn 4 tRA v (rs.take q) :: blk ob tRV [u, v] :: blk rb tRV (cellsV none 0 0 none 0 0) :: blk vb tVi (cellsV a xs.length c b rs.length d) :: L) := H7
      refine r_fo0 (r_ld 3 H7 rfl rfl ?_)
      refine r_fo0 (r_ld 0 H7 rfl rfl ?_)
      refine r_fo0 (r_ld 0 H7 rfl rfl ?_)
      refine r_fo0 (r_ld 0 H7 rfl rfl ?_)
      refine r_fo0 (r_ld 0 H7 rfl rfl ?_)
      refine r_bd (v := .agg (cellsAn x).toArray) (by kernel_rfl) ?_
      refine r_appN H7 2 x rfl (by kernel_rfl) (fun y => rfl) an_sg (by rw [List.length_take]; omega) (by decide) fun v' w8 S8 H8 => ?_
      replace H8 : Holds w8 (blk eb tAn (cellsAn x) :: RW cellsEn 4 tRE u xs :: RW cellsAn 4 tRA v' (rs.take q ++ [x]) :: blk ob tRV [u, v] :: blk rb tRV (cellsV none 0 0 none 0 0) :: blk vb tVi (cellsV a xs.length c b rs.length d) :: L) := H8
      obtain ⟨oa, m, sp, rfl, _⟩ := H8.openRW 2 rfl
      refine r_fo0 ?_
      refine r_st 3 H8 rfl (by simp) rfl fun w9 S9 H9 => ?_
      refine r_add1N (by omega) (r_ke (hgo (rs.length - (q + 1)) _ _ (by omega) ⟨q + 1, .slice oa (rs.take q ++ [x]).length ((rs.take q ++ [x]).length + m), rfl, by omega, rfl, S.trans (S6.trans (S7.trans (S8.trans S9))), ?_⟩))
      rw [htk]
      exact H9.drop
    · obtain rfl : q = rs.length := by omega
      rw [List.take_length] at H
      obtain ⟨oa, m, sp, rfl, _⟩ := H.openRW 0 rfl
      obtain ⟨oa2, m2, sp2, rfl, _⟩ := H.openRW 1 rfl
      refine r_ldA 2 H [.slice oa xs.length (xs.length + m), .slice oa2 rs.length (rs.length + m2)] rfl rfl rfl ?_
      refine r_stA 3 H (vs := [.slice oa xs.length (xs.length + m), .slice oa2 rs.length (rs.length + m2)]) rfl (Nat.le_refl 2) rfl rfl fun w6 S6 H6 => ?_
      refine r_ldA 3 H6 [.slice oa xs.length (xs.length + m), .slice oa2 rs.length (rs.length + m2)] rfl rfl rfl ?_
      exact k _ _ _ (S.trans S6) (Holds.dropAt (Holds.dropAt (Holds.dropAt H6 2) 2) 2)
/-- The law, where the closed test is true. -/
theorem Agrees_of (hb : ∀ {w : World} {L : List HProp} {K : Value → World → Prop}, Holds w L → (∀ w', Same w w' → Holds w' L → K (.bool true) w') → Cl Tryz.prog F.balerlaw46_bob #[] w K)
    (H : Holds w L) (a0 : Option Addr) (xs : List En) (c0 : Nat) (b0 : Option Addr) (rs : List An) (d0 : Nat) (a1 : Option Addr) (ys : List En) (c1 : Nat) (b1 : Option Addr) (ts : List An) (d1 : Nat) (m : An)
    (hv : (EnIn L a0 xs ∧ xs.length ≤ c0) ∧ AnIn L b0 rs ∧ rs.length ≤ d0) (hv2 : (EnIn L a1 ys ∧ ys.length ≤ c1) ∧ AnIn L b1 ts ∧ ts.length ≤ d1) (_ : True)
    (post : ∀ w', Same w w' → Holds w' L → K (.bool true) w') :
    Cl Tryz.prog F.balerlaw46_ProjectAgrees #[.agg (cellsV a0 xs.length c0 b0 rs.length d0).toArray, .agg (cellsV a1 ys.length c1 b1 ts.length d1).toArray, .agg (cellsAn m).toArray] w K := by
  obtain ⟨⟨h1, l1⟩, h2, l2⟩ := hv
  obtain ⟨⟨h3, l3⟩, h4, l4⟩ := hv2
  refine Tie.balerlaw46_ProjectAgrees ?_
  unfold Vcf.balerlaw46_ProjectAgrees
  refine r_new H fun ab w1 S1 H1 => ?_
  replace H1 : Holds w1 (blk ab tVi (cellsV a0 xs.length c0 b0 rs.length d0) :: L) := H1
  refine r_new H1 fun bb w2 S2 H2 => ?_
  replace H2 : Holds w2 (blk bb tVi (cellsV a1 ys.length c1 b1 ts.length d1) :: blk ab tVi (cellsV a0 xs.length c0 b0 rs.length d0) :: L) := H2
  refine r_new H2 fun mb w3 S3 H3 => ?_
  replace H3 : Holds w3 (blk mb tAn (cellsAn m) :: blk bb tVi (cellsV a1 ys.length c1 b1 ts.length d1) :: blk ab tVi (cellsV a0 xs.length c0 b0 rs.length d0) :: L) := H3
  have S := S1.trans (S2.trans S3)
  clear S1 S2 S3 H H1 H2
  refine r_join1 (fun v w' => w3 = w' ∧ ∃ z : Bool, v = .bool z ∧ (z = false → xs.length ≤ 20 ∧ ys.length ≤ 20 ∧ rs.length ≤ 20 ∧ ts.length ≤ 20)) ?_ ?_
  rotate_left
  · refine r_fo0 (r_ld 2 H3 rfl rfl (r_lnl (r_gtr (r_ifD (fun h => r_ke ⟨rfl, true, rfl, fun e => by cases e⟩) fun g1 => ?_))))
    refine r_fo0 (r_ld 1 H3 rfl rfl (r_lnl (r_gtr (r_ifD (fun h => r_ke ⟨rfl, true, rfl, fun e => by cases e⟩) fun g2 => ?_))))
    refine r_fo0 (r_ld 2 H3 rfl rfl (r_lnl (r_gtr (r_ifD (fun h => r_ke ⟨rfl, true, rfl, fun e => by cases e⟩) fun g3 => ?_))))
    refine r_fo0 (r_ld 1 H3 rfl rfl (r_lnl (r_gtr (r_ke ⟨rfl, _, rfl, fun e => ?_⟩))))
    have := of_decide_eq_false e
    omega
  rintro _ _ _ ⟨rfl, z, rfl, hz⟩
  cases z with
  | true => exact r_vt (hb H3 fun w4 S4 H4 => post w4 (S.trans S4) H4.drop.drop.drop)
  | false =>
    obtain ⟨g1, g2, g3, g4⟩ := hz rfl
    clear hz
    refine r_vf ?_
    refine r_fo0 (r_ld 2 H3 rfl rfl ?_)
    refine r_bd (v := .agg (cellsV a0 xs.length c0 none 0 0).toArray) (by kernel_rfl) ?_
    refine r_new H3 fun cb w4 S4 H4 => ?_
    rw [vi_zero] at H4
    refine r_stA 0 H4 (vs := cellsV a0 xs.length c0 none 0 0) rfl (Nat.le_refl 2) rfl rfl fun w5 S5 H5 => ?_
    replace H5 : Holds w5 (blk cb tVi (cellsV a0 xs.length c0 none 0 0) :: blk mb tAn (cellsAn m) :: blk bb tVi (cellsV a1 ys.length c1 b1 ts.length d1) :: blk ab tVi (cellsV a0 xs.length c0 b0 rs.length d0) :: L) := H5
    refine r_fo0 (r_ld 0 H5 rfl rfl ?_)
    refine r_fo0 (r_ld 3 H5 rfl rfl ?_)
    refine r_apF0 (e := tAn) H5 h2.up.up.up.up (fun y => rfl) (by omega) fun v w6 S6 H6 => ?_
    have S' := S.trans (S4.trans (S5.trans S6))
    clear S S4 S5 S6 H3 H4 H5
    obtain ⟨ov, mv, spv, rfl, _⟩ := H6.openRW 0 rfl
    refine r_fo0 ?_
    refine r_st 1 H6 rfl (by simp [cellsV]) rfl fun w7 S7 H7 => ?_
    replace H7 : Holds w7 (RW cellsAn 4 tAn (.slice ov rs.length (rs.length + mv)) rs :: blk cb tVi (cellsV a0 xs.length c0 ov rs.length (rs.length + mv)) :: blk mb tAn (cellsAn m) :: blk bb tVi (cellsV a1 ys.length c1 b1 ts.length d1) :: blk ab tVi (cellsV a0 xs.length c0 b0 rs.length d0) :: L) := H7
    refine r_fo0 (r_ld 1 H7 rfl rfl ?_)
    refine r_ldA 2 H7 (cellsAn m) rfl rfl rfl ?_
    refine r_appN H7 0 m rfl (by kernel_rfl) (fun y => rfl) an_sg (by omega) (by decide) fun v w8 S8 H8 => ?_
    obtain ⟨oc, mc, spc, rfl, _⟩ := H8.openRW 0 rfl
    refine r_fo0 ?_
    refine r_st 1 H8 rfl (by simp [cellsV]) rfl fun w9 S9 H9 => ?_
    replace H9 : Holds w9 (RW cellsAn 4 tAn (.slice oc (rs ++ [m]).length ((rs ++ [m]).length + mc)) (rs ++ [m]) :: blk cb tVi (cellsV a0 xs.length c0 oc (rs ++ [m]).length ((rs ++ [m]).length + mc)) :: blk mb tAn (cellsAn m) :: blk bb tVi (cellsV a1 ys.length c1 b1 ts.length d1) :: blk ab tVi (cellsV a0 xs.length c0 b0 rs.length d0) :: L) := H9
    have S := S'.trans (S7.trans (S8.trans S9))
    clear S' S7 S8 S9 H6 H7 H8
    have hlm : (rs ++ [m]).length = rs.length + 1 := by simp
    have hc : AnIn (RW cellsAn 4 tAn (.slice oc (rs ++ [m]).length ((rs ++ [m]).length + mc)) (rs ++ [m]) :: blk cb tVi (cellsV a0 xs.length c0 oc (rs ++ [m]).length ((rs ++ [m]).length + mc)) :: blk mb tAn (cellsAn m) :: blk bb tVi (cellsV a1 ys.length c1 b1 ts.length d1) :: blk ab tVi (cellsV a0 xs.length c0 b0 rs.length d0) :: L) oc (rs ++ [m]) := InG.own 0 rfl (fun y => rfl)
    have i1 := h1.up (Q := blk ab tVi (cellsV a0 xs.length c0 b0 rs.length d0)) |>.up (Q := blk bb tVi (cellsV a1 ys.length c1 b1 ts.length d1)) |>.up (Q := blk mb tAn (cellsAn m)) |>.up (Q := blk cb tVi (cellsV a0 xs.length c0 oc (rs ++ [m]).length ((rs ++ [m]).length + mc))) |>.up (Q := RW cellsAn 4 tAn (.slice oc (rs ++ [m]).length ((rs ++ [m]).length + mc)) (rs ++ [m]))
    have i2 := h2.up (Q := blk ab tVi (cellsV a0 xs.length c0 b0 rs.length d0)) |>.up (Q := blk bb tVi (cellsV a1 ys.length c1 b1 ts.length d1)) |>.up (Q := blk mb tAn (cellsAn m)) |>.up (Q := blk cb tVi (cellsV a0 xs.length c0 oc (rs ++ [m]).length ((rs ++ [m]).length + mc))) |>.up (Q := RW cellsAn 4 tAn (.slice oc (rs ++ [m]).length ((rs ++ [m]).length + mc)) (rs ++ [m]))
    have i3 := h3.up (Q := blk ab tVi (cellsV a0 xs.length c0 b0 rs.length d0)) |>.up (Q := blk bb tVi (cellsV a1 ys.length c1 b1 ts.length d1)) |>.up (Q := blk mb tAn (cellsAn m)) |>.up (Q := blk cb tVi (cellsV a0 xs.length c0 oc (rs ++ [m]).length ((rs ++ [m]).length + mc))) |>.up (Q := RW cellsAn 4 tAn (.slice oc (rs ++ [m]).length ((rs ++ [m]).length + mc)) (rs ++ [m]))
    have i4 := h4.up (Q := blk ab tVi (cellsV a0 xs.length c0 b0 rs.length d0)) |>.up (Q := blk bb tVi (cellsV a1 ys.length c1 b1 ts.length d1)) |>.up (Q := blk mb tAn (cellsAn m)) |>.up (Q := blk cb tVi (cellsV a0 xs.length c0 oc (rs ++ [m]).length ((rs ++ [m]).length + mc))) |>.up (Q := RW cellsAn 4 tAn (.slice oc (rs ++ [m]).length ((rs ++ [m]).length + mc)) (rs ++ [m]))
    have hdrop : ∀ w', Holds w' (RW cellsAn 4 tAn (.slice oc (rs ++ [m]).length ((rs ++ [m]).length + mc)) (rs ++ [m]) :: blk cb tVi (cellsV a0 xs.length c0 oc (rs ++ [m]).length ((rs ++ [m]).length + mc)) :: blk mb tAn (cellsAn m) :: blk bb tVi (cellsV a1 ys.length c1 b1 ts.length d1) :: blk ab tVi (cellsV a0 xs.length c0 b0 rs.length d0) :: L) → Holds w' L := fun w' H => H.drop.drop.drop.drop.drop
    have q1 : ∀ w', Holds w' (RW cellsAn 4 tAn (.slice oc (rs ++ [m]).length ((rs ++ [m]).length + mc)) (rs ++ [m]) :: blk cb tVi (cellsV a0 xs.length c0 oc (rs ++ [m]).length ((rs ++ [m]).length + mc)) :: blk mb tAn (cellsAn m) :: blk bb tVi (cellsV a1 ys.length c1 b1 ts.length d1) :: blk ab tVi (cellsV a0 xs.length c0 b0 rs.length d0) :: L) → ∀ {Kz : Value → Prop}, Kz (.agg (cellsV a0 xs.length c0 b0 rs.length d0).toArray) → LdA 2 (pt ab) w' Kz := fun w' Hz Kz kz => r_ldA 4 Hz (cellsV a0 xs.length c0 b0 rs.length d0) rfl rfl rfl kz
    have q2 : ∀ w', Holds w' (RW cellsAn 4 tAn (.slice oc (rs ++ [m]).length ((rs ++ [m]).length + mc)) (rs ++ [m]) :: blk cb tVi (cellsV a0 xs.length c0 oc (rs ++ [m]).length ((rs ++ [m]).length + mc)) :: blk mb tAn (cellsAn m) :: blk bb tVi (cellsV a1 ys.length c1 b1 ts.length d1) :: blk ab tVi (cellsV a0 xs.length c0 b0 rs.length d0) :: L) → ∀ {Kz : Value → Prop}, Kz (.agg (cellsV a1 ys.length c1 b1 ts.length d1).toArray) → LdA 2 (pt bb) w' Kz := fun w' Hz Kz kz => r_ldA 3 Hz (cellsV a1 ys.length c1 b1 ts.length d1) rfl rfl rfl kz
    have q3 : ∀ w', Holds w' (RW cellsAn 4 tAn (.slice oc (rs ++ [m]).length ((rs ++ [m]).length + mc)) (rs ++ [m]) :: blk cb tVi (cellsV a0 xs.length c0 oc (rs ++ [m]).length ((rs ++ [m]).length + mc)) :: blk mb tAn (cellsAn m) :: blk bb tVi (cellsV a1 ys.length c1 b1 ts.length d1) :: blk ab tVi (cellsV a0 xs.length c0 b0 rs.length d0) :: L) → ∀ {Kz : Value → Prop}, Kz (.agg (cellsV a0 xs.length c0 oc (rs ++ [m]).length ((rs ++ [m]).length + mc)).toArray) → LdA 2 (pt cb) w' Kz := fun w' Hz Kz kz => r_ldA 1 Hz (cellsV a0 xs.length c0 oc (rs ++ [m]).length ((rs ++ [m]).length + mc)) rfl rfl rfl kz
    generalize hM : (RW cellsAn 4 tAn (.slice oc (rs ++ [m]).length ((rs ++ [m]).length + mc)) (rs ++ [m]) :: blk cb tVi (cellsV a0 xs.length c0 oc (rs ++ [m]).length ((rs ++ [m]).length + mc)) :: blk mb tAn (cellsAn m) :: blk bb tVi (cellsV a1 ys.length c1 b1 ts.length d1) :: blk ab tVi (cellsV a0 xs.length c0 b0 rs.length d0) :: L) = M at *
    clear hM
    have tail : ∀ w', Same w w' → Holds w' M → (LdA 2 (pt ab) w' fun x_38 => LdA 2 (pt ab) w' fun x_40 => Cl Tryz.prog F.project_Agree #[x_38, x_40] w' fun x_42 w18 => Vif x_42 (LdA 2 (pt ab) w18 fun x_43 => LdA 2 (pt cb) w18 fun x_45 => Cl Tryz.prog F.project_Agree #[x_43, x_45] w18 fun x_47 w19 => Vif x_47 (LdA 2 (pt cb) w19 fun x_48 => LdA 2 (pt ab) w19 fun x_50 => Cl Tryz.prog F.project_Agree #[x_48, x_50] w19 fun x_52 w20 => Vif x_52 (Cl Tryz.prog F.balerlaw46_bob #[] w20 fun x_53 w21 => K x_53 w21) (K (.bool false) w20)) (K (.bool false) w19)) (K (.bool false) w18)) := by
      intro w' Sw Hw
      refine q1 _ Hw (q1 _ Hw ?_)
      refine PAgree_spec (by omega) (by omega) l2 l2 (by omega) Hw i1 i2 i1 i2 (fun _ wa Sa Ha => ?_) fun g => absurd ⟨agrE_self xs, agrA_self rs⟩ g
      refine r_vt (q1 _ Ha (q3 _ Ha ?_))
      refine PAgree_spec (by omega) (by omega) l2 (by omega) (by omega) Ha i1 i2 i1 hc (fun _ wb Sb Hb => ?_) fun g => absurd ⟨agrE_self xs, agrA_more rs m⟩ g
      refine r_vt (q3 _ Hb (q1 _ Hb ?_))
      refine PAgree_spec (by omega) (by omega) (by omega) l2 (by omega) Hb i1 hc i1 i2 (fun _ wc Sc Hc => ?_) fun g => absurd ⟨agrE_self xs, agrA_less rs m⟩ g
      exact r_vt (hb Hc fun wd Sd Hd => post wd (Sw.trans (Sa.trans (Sb.trans (Sc.trans Sd)))) (hdrop _ Hd))
    refine r_dr H9 fun wa Sa Ha => ?_
    refine q1 _ Ha (q2 _ Ha ?_)
    have docs : ∀ (z : Bool) w', (z = true ↔ agr xs ys rs ts) → Same w w' → Holds w' M → (LdA 2 (pt ab) w' fun x_27 => Rk (fun w K => LdA 2 (pt ab) w fun x_28 => K x_28) x_27 wa <| Cl Tryz.prog F.balerlaw46_ref #[x_27] w' fun x_30 w15 => LdA 2 (pt bb) w15 fun x_31 => Rk (fun w K => LdA 2 (pt bb) w fun x_32 => K x_32) x_31 w' <| Rk (fun w K => LdA 2 (pt bb) w fun x_33 => K x_33) x_31 wa <| Cl Tryz.prog F.balerlaw46_ref #[x_31] w15 fun x_35 w16 => Cl Tryz.prog F.balerref46_Agree #[x_30, x_35] w16 fun x_36 w17 => Bb false (.bool z) x_36 fun x_37 => Vif x_37 (LdA 2 (pt ab) w17 fun x_38 => LdA 2 (pt ab) w17 fun x_40 => Cl Tryz.prog F.project_Agree #[x_38, x_40] w17 fun x_42 w18 => Vif x_42 (LdA 2 (pt ab) w18 fun x_43 => LdA 2 (pt cb) w18 fun x_45 => Cl Tryz.prog F.project_Agree #[x_43, x_45] w18 fun x_47 w19 => Vif x_47 (LdA 2 (pt cb) w19 fun x_48 => LdA 2 (pt ab) w19 fun x_50 => Cl Tryz.prog F.project_Agree #[x_48, x_50] w19 fun x_52 w20 => Vif x_52 (Cl Tryz.prog F.balerlaw46_bob #[] w20 fun x_53 w21 => K x_53 w21) (K (.bool false) w20)) (K (.bool false) w19)) (K (.bool false) w18)) (K (.bool false) w17)) := by
      intro z w' hz Sw Hw
      refine q1 _ Hw ?_
      refine r_rk (q1 _ Ha rfl) ?_
      refine ref_spec (by omega) (by omega) Hw i1 i2 fun u v wb Sb Hb => ?_
      obtain ⟨ou, mu, spu, rfl, _⟩ := Hb.openRW 0 rfl
      obtain ⟨ov, mv, spv, rfl, _⟩ := Hb.openRW 1 rfl
      refine q2 _ Hb.drop.drop ?_
      refine r_rk (q2 _ Hw rfl) ?_
      refine r_rk (q2 _ Ha rfl) ?_
      refine ref_spec (by omega) (by omega) Hb i3.up.up i4.up.up fun u2 v2 wc Sc Hc => ?_
      obtain ⟨ou2, mu2, spu2, rfl, _⟩ := Hc.openRW 0 rfl
      obtain ⟨ov2, mv2, spv2, rfl, _⟩ := Hc.openRW 1 rfl
      have Sz := Sw.trans (Sb.trans Sc)
      refine RAgree_spec (c := xs.length + mu) (d := rs.length + mv) (c2 := ys.length + mu2) (d2 := ts.length + mv2) (by omega) (by omega) (by omega) Hc (InG.own 2 rfl (fun y => rfl)) (InG.own 3 rfl (fun y => rfl)) (InG.own 0 rfl (fun y => rfl)) (InG.own 1 rfl (fun y => rfl)) (fun g wd Sd Hd => ?_) fun g wd Sd Hd => ?_
      · obtain rfl := hz.2 g
        exact r_bb (r_vt (tail wd (Sz.trans Sd) Hd.drop.drop.drop.drop))
      · have hf : z = false := by cases z with
          | true => exact absurd (hz.1 rfl) g
          | false => rfl
        subst hf
        exact r_bb (r_vt (tail wd (Sz.trans Sd) Hd.drop.drop.drop.drop))
    refine PAgree_spec (by omega) (by omega) l2 l4 (by omega) Ha i1 i2 i3 i4 (fun g wb Sb Hb => ?_) fun g wb Sb Hb => ?_
    · exact docs true wb ⟨fun _ => g, fun _ => rfl⟩ (S.trans (Sa.trans Sb)) Hb
    · exact docs false wb ⟨fun e => (by cases e), fun e => absurd e g⟩ (S.trans (Sa.trans Sb)) Hb
end A46
end Go.Proofs.YtbhbdleffackaaaGreatDoor
