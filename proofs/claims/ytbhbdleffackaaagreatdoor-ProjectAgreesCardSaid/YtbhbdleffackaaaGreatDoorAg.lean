/- Chapter 46: whether two views agree, by the program and by the document. -/
import Derived.Test.YtbhbdleffackaaaGreatDoorA46
set_option linter.unusedVariables false
set_option linter.unusedSimpArgs false
namespace Go.Proofs.YtbhbdleffackaaaGreatDoor
open Go Go.Vc
attribute [local irreducible] Go.Vc.Nc Go.Vc.Ld Go.Vc.LdA Go.Vc.St Go.Vc.StA Go.Vc.Fo Go.Vc.Iaa Go.Vc.Ias Go.Vc.Ixs Go.Vc.Ixa Go.Vc.Fd Go.Vc.FdA Go.Vc.Bp Go.Vc.Bb Go.Vc.Bn Go.Vc.Up Go.Vc.Ci Go.Vc.Lns Go.Vc.Lnl Go.Vc.Ex Go.Vc.Sst Go.Vc.Ssl Go.Vc.New Go.Vc.Vif Go.Vc.VJoin Go.Vc.VLoop Go.Vc.KE Go.Vc.Dr Go.Vc.Rk Go.Vc.Cl Go.Vc.Cx Go.Vc.Inv Go.Vc.Be Go.Vc.Cv Go.Vc.Cw Go.Vc.Mf Go.Vc.Sl Go.Vc.Lk Go.Vc.Bd Go.Vc.Bs Go.Vc.Ms Go.Vc.Mm Go.Vc.Mu Go.Vc.Me Go.Vc.Es Go.Vc.Rg Go.Vc.Nx Go.Vc.Ta Go.Vc.Ap Go.Vc.Usd Go.Vc.Ust Go.Vc.Cp Go.Vc.Ln Go.Vc.Bc Go.Vc.Bmin Go.Vc.Bmax Go.Vc.Bdel Go.Vc.Bclr Go.Vc.Pk
namespace A46
open S4r P46 O46
variable {w : World} {L : List HProp} {K : Value → World → Prop}
abbrev tIn : Nat := 3
def En0 : En := ⟨0, false, ⟨#[]⟩, 0⟩
def En1 : En := ⟨-1, false, ⟨#[]⟩, 0⟩
def An0 : An := ⟨0, 0, ⟨#[]⟩, 0⟩
theorem en_zero : (zeroP Tryz.prog tEn).cells.toList = cellsEn En0 := by kernel_rfl
theorem re_zero : (zeroP Tryz.prog tRE).cells.toList = cellsEn En0 := by kernel_rfl
theorem an_zero : (zeroP Tryz.prog tAn).cells.toList = cellsAn An0 := by kernel_rfl
theorem ra_zero : (zeroP Tryz.prog tRA).cells.toList = cellsAn An0 := by kernel_rfl
theorem en_sg : ∀ y : En, ∀ u ∈ cellsEn y, sg u = true := by
  intro y u hu
  simp only [cellsEn, List.mem_cons, List.not_mem_nil, or_false] at hu
  rcases hu with rfl | rfl | rfl | rfl <;> rfl
theorem an_sg : ∀ y : An, ∀ u ∈ cellsAn y, sg u = true := by
  intro y u hu
  simp only [cellsAn, List.mem_cons, List.not_mem_nil, or_false] at hu
  rcases hu with rfl | rfl | rfl | rfl <;> rfl
instance rowAn : RowN Tryz.prog 23 tAn 4 := ⟨by kernel_rfl, ⟨Tryz.t28, .agg (cellsAn An0).toArray, by kernel_rfl, by kernel_rfl, by decide, by kernel_rfl, by kernel_rfl⟩⟩
instance rowRE : RowN Tryz.prog 32 tRE 4 := ⟨by kernel_rfl, ⟨Tryz.t61, .agg (cellsEn En0).toArray, by kernel_rfl, by kernel_rfl, by decide, by kernel_rfl, by kernel_rfl⟩⟩
instance rowRA : RowN Tryz.prog 33 tRA 4 := ⟨by kernel_rfl, ⟨Tryz.t64, .agg (cellsAn An0).toArray, by kernel_rfl, by kernel_rfl, by decide, by kernel_rfl, by kernel_rfl⟩⟩
theorem first1_spec {e : En} {id : Int} {b : Nat} (i : Nat) (H : Holds w L) (hi : L[i]? = some (blk b tIn [iv id])) (k : ∀ w', Same w w' → Holds w' L → K (.bool (e.id == id)) w') : Cl Tryz.prog F.project_View_first_1 #[.agg (cellsEn e).toArray, pt b] w K := by
  refine Tie.project_View_first_1 ?_
  unfold Vcf.project_View_first_1
  refine r_new H fun x w1 S1 H1 => ?_
  replace H1 : Holds w1 (blk x tEn (cellsEn e) :: L) := H1
  refine r_fo0 (r_ld 0 H1 rfl rfl ?_)
  refine r_ld (i + 1) H1 (by rw [List.getElem?_cons_succ]; exact hi) rfl ?_
  exact r_eql (k _ S1 H1.drop)
theorem Index_spec {a : Option Addr} {xs : List En} {c b : Nat} {id : Int} (i : Nat) (hn : xs.length ≤ 1000) (H : Holds w L) (hT : EnIn L a xs) (hi : L[i]? = some (blk b tIn [iv id]))
    (k1 : ∀ (q : Nat) x w', xs[q]? = some x → findE xs id = some x → Same w w' → Holds w' L → K (nv q) w') (k2 : ∀ w', findE xs id = none → Same w w' → Holds w' L → K (iv (-1)) w') :
    Cl Tryz.prog F.slices_IndexFunc_project_End_project_End #[.slice a xs.length c, .func (.func F.project_View_first_1) #[] #[pt b]] w K := by
  refine Tie.slices_IndexFunc_project_End_project_End ?_
  unfold Vcf.slices_IndexFunc_project_End_project_End
  refine r_lnl ?_
  refine r_loopM (fun j y w' => ∃ q : Nat, j = xs.length - q ∧ q ≤ xs.length ∧ y = nv q ∧ (∀ (r : Nat) z, r < q → xs[r]? = some z → z.id ≠ id) ∧ Same w w' ∧ Holds w' L) xs.length
    ⟨0, rfl, Nat.zero_le _, rfl, fun r z h => absurd h (Nat.not_lt_zero _), .refl w, H⟩ ?_
  clear H
  rintro _ j _ w2 _ ⟨q, rfl, hq, rfl, hno, S, H⟩ hgo
  refine r_lss (r_ifD (fun h => ?_) fun h => ?_)
  · have hlt : q < xs.length := by omega
    have hx : xs[q]? = some xs[q] := List.getElem?_eq_getElem hlt
    generalize xs[q] = x at hx
    refine r_ldG hT H hx rfl hlt ?_
    refine r_inv (f := F.project_View_first_1) (args := #[.agg (cellsEn x).toArray, pt b]) (by kernel_rfl) ?_
    refine first1_spec i H hi fun w3 S3 H3 => ?_
    refine r_ifE (fun he => ?_) fun he => ?_
    · exact k1 q x w3 hx (findE_at hx he hno) (S.trans S3) H3
    · refine r_add1N (by omega) (r_ke (hgo (xs.length - (q + 1)) _ _ (by omega) ⟨q + 1, rfl, by omega, rfl, fun r z hr hz => ?_, S.trans S3, H3⟩))
      by_cases hrq : r < q
      · exact hno r z hrq hz
      · obtain rfl : r = q := by omega
        rw [hx] at hz
        obtain rfl := Option.some.inj hz
        exact he
  · obtain rfl : q = xs.length := by omega
    refine k2 w2 (findE_none fun r z hz => hno r z (List.getElem?_eq_some_iff.1 hz).1 hz) S H
theorem first_spec {a b : Option Addr} {xs : List En} {c l2 c2 : Nat} {id : Int} (hn : xs.length ≤ 1000) (H : Holds w L) (hT : EnIn L a xs)
    (k1 : ∀ x w', findE xs id = some x → Same w w' → Holds w' L → K (.tuple #[.agg (cellsEn x).toArray, .bool true]) w') (k2 : ∀ w', findE xs id = none → Same w w' → Holds w' L → K (.tuple #[.agg (cellsEn En0).toArray, .bool false]) w') :
    Cl Tryz.prog F.project_View_first #[.agg (cellsV a xs.length c b l2 c2).toArray, iv id] w K := by
  refine Tie.project_View_first ?_
  unfold Vcf.project_View_first
  refine r_new H fun vb w1 S1 H1 => ?_
  replace H1 : Holds w1 (blk vb tVi (cellsV a xs.length c b l2 c2) :: L) := H1
  refine r_new H1 fun ib w2 S2 H2 => ?_
  replace H2 : Holds w2 (blk ib tIn [iv id] :: blk vb tVi (cellsV a xs.length c b l2 c2) :: L) := H2
  refine r_new H2 fun rb w3 S3 H3 => ?_
  rw [en_zero] at H3
  refine r_fo0 (r_ld 2 H3 rfl rfl ?_)
  refine r_mf (.func (.func F.project_View_first_1) #[] #[pt ib]) (by kernel_rfl) ?_
  have S := S1.trans (S2.trans S3)
  refine Index_spec 1 hn H3 hT.up.up.up rfl (fun q x w4 hq hf S4 H4 => ?_) fun w4 hf S4 H4 => ?_
  · refine r_lss (r_vfD (by omega) ?_)
    refine r_fo0 (r_ld 2 H4 rfl rfl ?_)
    refine r_ldG hT.up.up.up H4 hq rfl (List.getElem?_eq_some_iff.1 hq).1 ?_
    refine r_stA 0 H4 (vs := cellsEn x) rfl (Nat.le_refl 4) rfl rfl fun w5 S5 H5 => ?_
    refine r_ldA 0 H5 (cellsEn x) rfl rfl rfl ?_
    exact k1 x _ hf (S.trans (S4.trans S5)) H5.drop.drop.drop
  · refine r_lss (r_vtD (by decide) ?_)
    refine r_bd (v := .agg (cellsEn En0).toArray) (by kernel_rfl) ?_
    refine r_stA 0 H4 (vs := cellsEn En0) rfl (Nat.le_refl 4) rfl rfl fun w5 S5 H5 => ?_
    refine r_ldA 0 H5 (cellsEn En0) rfl rfl rfl ?_
    exact k2 _ hf (S.trans (S4.trans S5)) H5.drop.drop.drop
theorem Equal_spec {a b : Option Addr} {xs ys : List An} {n c d : Nat} (h1 : xs.length = n) (h2 : ys.length = n) (hn : n ≤ 1000) (H : Holds w L) (ha : AnIn L a xs) (hb : AnIn L b ys) (k : ∀ w', Same w w' → Holds w' L → K (.bool (decide (xs = ys))) w') :
    Cl Tryz.prog F.slices_Equal_proto_Answer_proto_Answer #[.slice a n c, .slice b n d] w K := by
  refine Tie.slices_Equal_proto_Answer_proto_Answer ?_
  unfold Vcf.slices_Equal_proto_Answer_proto_Answer
  refine r_lnl (r_lnl (r_neq (r_vfN rfl (r_lnl ?_))))
  refine r_loopM (fun j y w' => ∃ q : Nat, j = n - q ∧ q ≤ n ∧ y = nv q ∧ xs.take q = ys.take q ∧ Same w w' ∧ Holds w' L) n ⟨0, rfl, Nat.zero_le _, rfl, rfl, .refl w, H⟩ ?_
  clear H
  rintro _ j _ w2 _ ⟨q, rfl, hq, rfl, heq, S, H⟩ hgo
  refine r_lss (r_ifD (fun h => ?_) fun h => ?_)
  · have hlt : q < n := by omega
    have hx : xs[q]? = some xs[q] := List.getElem?_eq_getElem (by omega)
    have hy : ys[q]? = some ys[q] := List.getElem?_eq_getElem (by omega)
    generalize xs[q] = x at hx
    generalize ys[q] = y at hy
    refine r_dr H fun w3 S3 H3 => ?_
    refine r_ldG ha H3 hx rfl hlt ?_
    refine r_ldG hb H3 hy rfl hlt ?_
    refine beA (by decide) (.inl rfl) ?_
    by_cases e : x = y
    · rw [decide_eq_true e]
      refine r_vf (r_add1N (by omega) (r_ke (hgo (n - (q + 1)) _ _ (by omega) ⟨q + 1, rfl, by omega, rfl, ?_, S.trans S3, H3⟩)))
      rw [List.take_add_one, List.take_add_one, hx, hy, heq, e]
    · rw [decide_eq_false e]
      refine r_vt ?_
      have := k w3 (S.trans S3) H3
      rw [decide_eq_false (fun e2 => e (by rw [e2, hy] at hx; exact (Option.some.inj hx).symm))] at this
      exact this
  · obtain rfl : q = n := by omega
    have := k w2 S H
    rw [List.take_of_length_le (by omega), List.take_of_length_le (by omega)] at heq
    rw [decide_eq_true heq] at this
    exact this
theorem InG.take {α : Type} {F : α → List Value} {k : Nat} {a : Option Addr} {xs : List α} (h : InG F k L a xs) (n : Nat) : InG F k L a (xs.take n) := fun w' H i x hx => h w' H i x (by
  rw [List.getElem?_take] at hx
  split at hx
  · exact hx
  · cases hx)
theorem findE_mem {xs : List En} {q : Nat} {x : En} (h : xs[q]? = some x) : ∃ z, findE xs x.id = some z := by
  unfold findE
  cases hf : xs.find? fun e => decide (e.id = x.id) with
  | some z => exact ⟨z, rfl⟩
  | none =>
    rw [List.find?_eq_none] at hf
    have := hf x (List.mem_of_getElem? h)
    simp at this
def agr (us vs : List En) (rs ts : List An) : Prop := agrE us vs ∧ agrA rs ts
theorem agrA_take {rs ts : List An} {n : Nat} (h : n = min rs.length ts.length) : rs.take n = ts.take n ↔ agrA rs ts := by
  constructor
  · intro e i x y hx hy
    have h1 := (List.getElem?_eq_some_iff.1 hx).1
    have h2 := (List.getElem?_eq_some_iff.1 hy).1
    have e1 : (rs.take n)[i]? = (ts.take n)[i]? := by rw [e]
    rw [List.getElem?_take_of_lt (by omega), List.getElem?_take_of_lt (by omega), hx, hy] at e1
    exact Option.some.inj e1
  · intro g
    apply List.ext_getElem?
    intro i
    by_cases hi : i < n
    · rw [List.getElem?_take_of_lt hi, List.getElem?_take_of_lt hi, List.getElem?_eq_getElem (by omega), List.getElem?_eq_getElem (by omega)]
      exact congrArg some (g i _ _ (List.getElem?_eq_getElem (by omega)) (List.getElem?_eq_getElem (by omega)))
    · rw [List.getElem?_take_eq_none (by omega), List.getElem?_take_eq_none (by omega)]
def atE (us vs : List En) (x : En) : Prop := ∀ q, findE vs x.id = some q → findE us x.id = some q
theorem PAgree_spec {a b a2 b2 : Option Addr} {xs ys : List En} {rs ts : List An} {c d c2 d2 : Nat} (hx : xs.length ≤ 1000) (hy : ys.length ≤ 1000) (hr : rs.length ≤ d) (ht : ts.length ≤ d2) (hr3 : rs.length ≤ 1000) (H : Holds w L)
    (h1 : EnIn L a xs) (h2 : AnIn L b rs) (h3 : EnIn L a2 ys) (h4 : AnIn L b2 ts)
    (k1 : agr xs ys rs ts → ∀ w', Same w w' → Holds w' L → K (.bool true) w') (k2 : ¬ agr xs ys rs ts → ∀ w', Same w w' → Holds w' L → K (.bool false) w') :
    Cl Tryz.prog F.project_Agree #[.agg (cellsV a xs.length c b rs.length d).toArray, .agg (cellsV a2 ys.length c2 b2 ts.length d2).toArray] w K := by
  refine Tie.project_Agree ?_
  unfold Vcf.project_Agree
  refine r_new H fun ab w1 S1 H1 => ?_
  replace H1 : Holds w1 (blk ab tVi (cellsV a xs.length c b rs.length d) :: L) := H1
  refine r_new H1 fun bb w2 S2 H2 => ?_
  replace H2 : Holds w2 (blk bb tVi (cellsV a2 ys.length c2 b2 ts.length d2) :: blk ab tVi (cellsV a xs.length c b rs.length d) :: L) := H2
  refine r_fo0 (r_ld 1 H2 rfl rfl (r_lnl ?_))
  refine r_loopM (fun j y w' => ∃ q : Nat, j = xs.length - q ∧ q ≤ xs.length ∧ y = nv q ∧ (∀ (r : Nat) z, r < q → xs[r]? = some z → atE xs ys z) ∧ Same w w' ∧ Holds w' (blk bb tVi (cellsV a2 ys.length c2 b2 ts.length d2) :: blk ab tVi (cellsV a xs.length c b rs.length d) :: L)) xs.length
    ⟨0, rfl, Nat.zero_le _, rfl, fun r z h => absurd h (Nat.not_lt_zero _), S1.trans S2, H2⟩ ?_
  clear H H1 H2 S1 S2
  rintro _ j _ w3 _ ⟨q, rfl, hq, rfl, hok, S, H⟩ hgo
  refine r_lss (r_ifD (fun h => ?_) fun h => ?_)
  · have hlt : q < xs.length := by omega
    have hx1 : xs[q]? = some xs[q] := List.getElem?_eq_getElem hlt
    generalize xs[q] = x at hx1
    refine r_ldG h1.up.up H hx1 rfl hlt ?_
    refine r_new H fun eb w4 S4 H4 => ?_
    rw [en_zero] at H4
    refine r_stA 0 H4 (vs := cellsEn x) rfl (Nat.le_refl 4) rfl rfl fun w5 S5 H5 => ?_
    replace H5 : Holds w5 (blk eb tEn (cellsEn x) :: blk bb tVi (cellsV a2 ys.length c2 b2 ts.length d2) :: blk ab tVi (cellsV a xs.length c b rs.length d) :: L) := H5
    refine r_ldA 2 H5 (cellsV a xs.length c b rs.length d) rfl rfl rfl ?_
    refine r_fo0 (r_ld 0 H5 rfl rfl ?_)
    obtain ⟨p, hp⟩ := findE_mem hx1
    refine first_spec (id := x.id) hx H5 h1.up.up.up (fun p' w6 hp' S6 H6 => ?_) fun w6 hp' S6 H6 => by rw [hp] at hp'; cases hp'
    obtain rfl : p = p' := by rw [hp] at hp'; exact Option.some.inj hp'
    refine r_ex20 (r_ex21 ?_)
    refine r_new H6 fun pb w7 S7 H7 => ?_
    rw [en_zero] at H7
    refine r_stA 0 H7 (vs := cellsEn p) rfl (Nat.le_refl 4) rfl rfl fun w8 S8 H8 => ?_
    replace H8 : Holds w8 (blk pb tEn (cellsEn p) :: blk eb tEn (cellsEn x) :: blk bb tVi (cellsV a2 ys.length c2 b2 ts.length d2) :: blk ab tVi (cellsV a xs.length c b rs.length d) :: L) := H8
    refine r_ldA 2 H8 (cellsV a2 ys.length c2 b2 ts.length d2) rfl rfl rfl ?_
    refine r_fo0 (r_ld 1 H8 rfl rfl ?_)
    have S' := S.trans (S4.trans (S5.trans (S6.trans (S7.trans S8))))
    refine first_spec (id := x.id) hy H8 h3.up.up.up.up (fun z w9 hz S9 H9 => ?_) fun w9 hz S9 H9 => ?_
    · refine r_ex20 (r_ex21 ?_)
      refine r_new H9 fun qb wa Sa Ha => ?_
      rw [en_zero] at Ha
      refine r_stA 0 Ha (vs := cellsEn z) rfl (Nat.le_refl 4) rfl rfl fun wb Sb Hb => ?_
      replace Hb : Holds wb (blk qb tEn (cellsEn z) :: blk pb tEn (cellsEn p) :: blk eb tEn (cellsEn x) :: blk bb tVi (cellsV a2 ys.length c2 b2 ts.length d2) :: blk ab tVi (cellsV a xs.length c b rs.length d) :: L) := Hb
      have Sz := S'.trans (S9.trans (Sa.trans Sb))
      refine r_join1 (fun v w' => v = .bool (!decide (p = z)) ∧ wb = w') ?_ ?_
      rotate_left
      · refine r_vt ?_
        refine r_ldA 1 Hb (cellsEn p) rfl rfl rfl ?_
        refine r_ldA 0 Hb (cellsEn z) rfl rfl rfl ?_
        exact beE (by decide) (.inl rfl) (r_ke ⟨rfl, rfl⟩)
      rintro _ _ _ ⟨rfl, rfl⟩
      by_cases e : p = z
      · rw [decide_eq_true e]
        refine r_vf (r_add1N (by omega) (r_ke (hgo (xs.length - (q + 1)) _ _ (by omega) ⟨q + 1, rfl, by omega, rfl, fun r u hr hu => ?_, Sz, Hb.drop.drop.drop⟩)))
        by_cases hrq : r < q
        · exact hok r u hrq hu
        · obtain rfl : r = q := by omega
          rw [hx1] at hu
          obtain rfl := Option.some.inj hu
          intro g hg
          rw [hz] at hg
          obtain rfl := Option.some.inj hg
          rw [hp, e]
      · rw [decide_eq_false e]
        refine r_vt (k2 (fun g => e ?_) _ Sz Hb.drop.drop.drop.drop.drop)
        have := g.1 q x hx1 z hz
        rw [hp] at this
        exact Option.some.inj this
    · refine r_ex20 (r_ex21 ?_)
      refine r_new H9 fun qb wa Sa Ha => ?_
      rw [en_zero] at Ha
      refine r_stA 0 Ha (vs := cellsEn En0) rfl (Nat.le_refl 4) rfl rfl fun wb Sb Hb => ?_
      have Sz := S'.trans (S9.trans (Sa.trans Sb))
      refine r_join1 (fun v w' => v = .bool false ∧ wb = w') ?_ ?_
      rotate_left
      · exact r_vf (r_ke ⟨rfl, rfl⟩)
      rintro _ _ _ ⟨rfl, rfl⟩
      refine r_vf (r_add1N (by omega) (r_ke (hgo (xs.length - (q + 1)) _ _ (by omega) ⟨q + 1, rfl, by omega, rfl, fun r u hr hu => ?_, Sz, Hb.drop.drop.drop⟩)))
      by_cases hrq : r < q
      · exact hok r u hrq hu
      · obtain rfl : r = q := by omega
        rw [hx1] at hu
        obtain rfl := Option.some.inj hu
        intro g hg
        rw [hz] at hg
        cases hg
  · obtain rfl : q = xs.length := by omega
    have hE : agrE xs ys := fun i x hi => hok i x (List.getElem?_eq_some_iff.1 hi).1 hi
    refine r_fo0 (r_ld 1 H rfl rfl (r_lnl ?_))
    refine r_fo0 (r_ld 0 H rfl rfl (r_lnl ?_))
    refine r_min ?_
    rw [show min (rs.length : Int) (ts.length : Int) = ((min rs.length ts.length : Nat) : Int) by omega]
    refine r_dr H fun w4 S4 H4 => ?_
    refine r_fo0 (r_ld 1 H4 rfl rfl ?_)
    refine r_ssl0 (by omega) ?_
    refine r_fo0 (r_ld 0 H4 rfl rfl ?_)
    refine r_ssl0 (by omega) ?_
    refine Equal_spec (xs := rs.take (min rs.length ts.length)) (ys := ts.take (min rs.length ts.length)) (by rw [List.length_take]; omega) (by rw [List.length_take]; omega) (by omega) H4 (InG.take h2.up.up _) (InG.take h4.up.up _) fun w5 S5 H5 => ?_
    have Sz := S.trans (S4.trans S5)
    by_cases e : rs.take (min rs.length ts.length) = ts.take (min rs.length ts.length)
    · rw [decide_eq_true e]
      exact k1 ⟨hE, (agrA_take rfl).1 e⟩ _ Sz H5.drop.drop
    · rw [decide_eq_false e]
      exact k2 (fun g => e ((agrA_take rfl).2 g.2)) _ Sz H5.drop.drop
end A46
end Go.Proofs.YtbhbdleffackaaaGreatDoor
