/- Chapter 44: which reports are the same; the closed test by the evaluator. -/
import Derived.Test.YtdbdclmeiodghaaGreatDoorFm
import Derived.Test.YtdbdclmeiodghaaGreatDoorSt
import Derived.Test.YtdbdclmeiodghaaGreatDoorEB
import Derived.WideShapes
import Derived.Deep.SlicePairs
set_option linter.unusedVariables false
set_option linter.unusedSimpArgs false
namespace Go.Proofs.YtdbdclmeiodghaaGreatDoor
open Go Go.Vc
attribute [local irreducible] Go.Vc.Nc Go.Vc.Ld Go.Vc.LdA Go.Vc.St Go.Vc.StA Go.Vc.Fo Go.Vc.Iaa Go.Vc.Ias Go.Vc.Ixs Go.Vc.Ixa Go.Vc.Fd Go.Vc.FdA Go.Vc.Bp Go.Vc.Bb Go.Vc.Bn Go.Vc.Up Go.Vc.Ci Go.Vc.Lns Go.Vc.Lnl Go.Vc.Ex Go.Vc.Sst Go.Vc.Ssl Go.Vc.New Go.Vc.Vif Go.Vc.VJoin Go.Vc.VLoop Go.Vc.KE Go.Vc.Dr Go.Vc.Rk Go.Vc.Cl Go.Vc.Cx Go.Vc.Inv Go.Vc.Be Go.Vc.Cv Go.Vc.Cw Go.Vc.Mf Go.Vc.Sl Go.Vc.Lk Go.Vc.Bd Go.Vc.Bs Go.Vc.Ms Go.Vc.Mm Go.Vc.Mu Go.Vc.Me Go.Vc.Es Go.Vc.Rg Go.Vc.Nx Go.Vc.Ta Go.Vc.Ap Go.Vc.Usd Go.Vc.Ust Go.Vc.Cp Go.Vc.Ln Go.Vc.Bc Go.Vc.Bmin Go.Vc.Bmax Go.Vc.Bdel Go.Vc.Bclr Go.Vc.Pk
namespace X44
variable {w : World} {L : List HProp} {K : Value → World → Prop}
theorem mixed : Tryz.prog.follows .mixedOrders = true := by kernel_rfl
set_option maxRecDepth 1000000 in
theorem looks_true : Ev.isTrue (Ev.callF Tryz.prog (Ev.evF Tryz.prog 5000) F.balerlaw44_looks [] Ev.s0) = true := by kernel_rfl
theorem looks_spec (H : Holds w L) (post : ∀ w', Same w w' → Holds w' L → K (.bool true) w') : Cl Tryz.prog F.balerlaw44_looks #[] w K := Ev.cl_trueF mixed looks_true H post
abbrev tI : Nat := 3
abbrev tR : Nat := 34
abbrev tA : Nat := 100
/-- Rows of integers, wherever they lie. -/
def RowIn (L : List HProp) (a : Option Addr) (xs : List Int) : Prop := ∀ w', Holds w' L → ∀ (i : Nat) x, xs[i]? = some x → ∃ p : Addr, a = some p ∧ w'.cell? (p.add i) = some (iv x)
theorem RowIn.up {a : Option Addr} {xs : List Int} {Q : HProp} (h : RowIn L a xs) : RowIn (Q :: L) a xs := fun w' H => h w' H.drop
theorem RowIn.own {b : Nat} {t : TypeId} {xs : List Int} : RowIn (blk b t (xs.map iv) :: L) (some ⟨b, 0, none⟩) xs := fun w' H i x hx => by
  refine ⟨_, rfl, ?_⟩
  have hc : (xs.map iv)[i]? = some (iv x) := by rw [List.getElem?_map, hx]; rfl
  have hcell : w'.cell? ⟨b, i, none⟩ = some (iv x) := (H.cell 0 rfl i).trans hc
  have : ∀ n : Nat, (⟨b, 0, none⟩ : Addr).add n = ⟨b, n, none⟩ := fun n => by
    unfold Addr.add
    split
    · rename_i h; rw [h]
    · show (⟨b, 0 + n, none⟩ : Addr) = _; rw [Nat.zero_add]
  rw [this]
  exact hcell
theorem r_ldR {a : Option Addr} {xs : List Int} {x : Int} {i l c : Nat} {k : IntKind} {K : Value → Prop} (hT : RowIn L a xs) (H : Holds w L) (ht : xs[i]? = some x) (hi : i < l) (h : K (iv x)) :
    Ias 1 (.slice a l c) (.int k (i : Int)) fun y => Ld y w K := by
  obtain ⟨p, rfl, hc⟩ := hT w H i x ht
  refine r_iasP hi ?_
  rw [Nat.mul_one]
  exact r_ldP hc h
theorem take_next {xs : List Int} {i : Nat} {x : Int} (h : xs[i]? = some x) : xs.take (i + 1) = xs.take i ++ [x] := by rw [List.take_add_one, h]; rfl
theorem Ints_spec {a b : Option Addr} {xs ys : List Int} {c d : Nat} (hn : xs.length ≤ 1000) (H : Holds w L) (ha : RowIn L a xs) (hb : RowIn L b ys) (post : ∀ w', Same w w' → Holds w' L → K (.bool (decide (xs = ys))) w') :
    Cl Tryz.prog F.balerplain_Ints #[.slice a xs.length c, .slice b ys.length d] w K := by
  refine Tie.balerplain_Ints ?_
  unfold Vcf.balerplain_Ints
  repeat (first | refine r_nc ?_ | refine r_fo0 ?_ | refine r_fo ?_ | refine r_ke ?_ | refine r_lns ?_ | refine r_lnl ?_ | refine r_eql ?_ | refine r_neq ?_ | refine r_lss ?_ | refine r_leq ?_ | refine r_gtr ?_ | refine r_geq ?_ | refine r_seq0 ?_ | refine r_sne0 ?_ | refine r_seq ?_ | refine r_sne ?_ | (with_reducible refine r_notT ?_) | (with_reducible refine r_notF ?_) | refine r_not ?_ | (with_reducible refine r_bnST ?_) | (with_reducible refine r_bnSF ?_) | (with_reducible refine r_bnNT ?_) | (with_reducible refine r_bnNF ?_) | (with_reducible refine r_ex20 ?_) | (with_reducible refine r_ex21 ?_) | (with_reducible refine r_ex30 ?_) | (with_reducible refine r_ex31 ?_) | (with_reducible refine r_ex32 ?_) | (with_reducible refine r_vt ?_) | (with_reducible refine r_vf ?_) | refine r_bb ?_ | (with_reducible refine r_pkT ?_) | (with_reducible refine r_pkF ?_) | (with_reducible refine r_pkB ?_) | refine r_ex rfl ?_ | (refine r_ci64 (by omega) (by omega) ?_) | (refine r_ciu8 (by omega) (by omega) ?_) | (refine r_ciu32 (by omega) (by omega) ?_) | refine r_ci ?_ | (refine r_add1N (by omega) ?_) | (refine r_sub1N (by omega) (by omega) ?_) | (refine r_addN (by omega) ?_) | (refine r_add (by omega) (by omega) ?_) | (refine r_ixsN (by omega) ?_) | (refine r_iaaN (by omega) ?_) | (refine r_sub (by omega) (by omega) ?_) | (refine r_mul (by omega) (by omega) ?_) | (refine r_dr H ?_; clear H; intro _ S_ H; replace S := S.trans S_; clear S_) | refine r_ld 0 H rfl rfl ?_ | refine r_ld 1 H rfl rfl ?_ | refine r_ld 2 H rfl rfl ?_ | refine r_ld 3 H rfl rfl ?_ | refine r_ld 4 H rfl rfl ?_ | ((with_reducible refine r_vtD ?h ?_); (case h => omega)) | ((with_reducible refine r_vfD ?h ?_); (case h => omega)) | ((with_reducible refine r_vtE ?h ?_); (case h => omega)) | ((with_reducible refine r_vfE ?h ?_); (case h => omega)) | ((with_reducible refine r_vtN ?h ?_); (case h => omega)) | ((with_reducible refine r_vfN ?h ?_); (case h => omega)))
  refine r_ifN (fun h => ?_) fun h => ?_
  · have := post w (.refl w) H
    rw [decide_eq_false (fun e => h (by rw [e]))] at this
    exact this
  have hl : xs.length = ys.length := by omega
  repeat (first | refine r_nc ?_ | refine r_fo0 ?_ | refine r_fo ?_ | refine r_ke ?_ | refine r_lns ?_ | refine r_lnl ?_ | refine r_eql ?_ | refine r_neq ?_ | refine r_lss ?_ | refine r_leq ?_ | refine r_gtr ?_ | refine r_geq ?_ | refine r_seq0 ?_ | refine r_sne0 ?_ | refine r_seq ?_ | refine r_sne ?_ | (with_reducible refine r_notT ?_) | (with_reducible refine r_notF ?_) | refine r_not ?_ | (with_reducible refine r_bnST ?_) | (with_reducible refine r_bnSF ?_) | (with_reducible refine r_bnNT ?_) | (with_reducible refine r_bnNF ?_) | (with_reducible refine r_ex20 ?_) | (with_reducible refine r_ex21 ?_) | (with_reducible refine r_ex30 ?_) | (with_reducible refine r_ex31 ?_) | (with_reducible refine r_ex32 ?_) | (with_reducible refine r_vt ?_) | (with_reducible refine r_vf ?_) | refine r_bb ?_ | (with_reducible refine r_pkT ?_) | (with_reducible refine r_pkF ?_) | (with_reducible refine r_pkB ?_) | refine r_ex rfl ?_ | (refine r_ci64 (by omega) (by omega) ?_) | (refine r_ciu8 (by omega) (by omega) ?_) | (refine r_ciu32 (by omega) (by omega) ?_) | refine r_ci ?_ | (refine r_add1N (by omega) ?_) | (refine r_sub1N (by omega) (by omega) ?_) | (refine r_addN (by omega) ?_) | (refine r_add (by omega) (by omega) ?_) | (refine r_ixsN (by omega) ?_) | (refine r_iaaN (by omega) ?_) | (refine r_sub (by omega) (by omega) ?_) | (refine r_mul (by omega) (by omega) ?_) | (refine r_dr H ?_; clear H; intro _ S_ H; replace S := S.trans S_; clear S_) | refine r_ld 0 H rfl rfl ?_ | refine r_ld 1 H rfl rfl ?_ | refine r_ld 2 H rfl rfl ?_ | refine r_ld 3 H rfl rfl ?_ | refine r_ld 4 H rfl rfl ?_ | ((with_reducible refine r_vtD ?h ?_); (case h => omega)) | ((with_reducible refine r_vfD ?h ?_); (case h => omega)) | ((with_reducible refine r_vtE ?h ?_); (case h => omega)) | ((with_reducible refine r_vfE ?h ?_); (case h => omega)) | ((with_reducible refine r_vtN ?h ?_); (case h => omega)) | ((with_reducible refine r_vfN ?h ?_); (case h => omega)))
  refine r_loop1 (fun y w' => ∃ i : Nat, i ≤ xs.length ∧ y = nv i ∧ xs.take i = ys.take i ∧ Same w w' ∧ Holds w' L) (fun y _ => xs.length - (RowKit.intOf y).toNat) ⟨0, by omega, rfl, rfl, .refl w, H⟩ ?_
  clear H
  rintro _ _ w2 ⟨i, hi, rfl, he, S, H⟩
  repeat (first | refine r_nc ?_ | refine r_fo0 ?_ | refine r_fo ?_ | refine r_ke ?_ | refine r_lns ?_ | refine r_lnl ?_ | refine r_eql ?_ | refine r_neq ?_ | refine r_lss ?_ | refine r_leq ?_ | refine r_gtr ?_ | refine r_geq ?_ | refine r_seq0 ?_ | refine r_sne0 ?_ | refine r_seq ?_ | refine r_sne ?_ | (with_reducible refine r_notT ?_) | (with_reducible refine r_notF ?_) | refine r_not ?_ | (with_reducible refine r_bnST ?_) | (with_reducible refine r_bnSF ?_) | (with_reducible refine r_bnNT ?_) | (with_reducible refine r_bnNF ?_) | (with_reducible refine r_ex20 ?_) | (with_reducible refine r_ex21 ?_) | (with_reducible refine r_ex30 ?_) | (with_reducible refine r_ex31 ?_) | (with_reducible refine r_ex32 ?_) | (with_reducible refine r_vt ?_) | (with_reducible refine r_vf ?_) | refine r_bb ?_ | (with_reducible refine r_pkT ?_) | (with_reducible refine r_pkF ?_) | (with_reducible refine r_pkB ?_) | refine r_ex rfl ?_ | (refine r_ci64 (by omega) (by omega) ?_) | (refine r_ciu8 (by omega) (by omega) ?_) | (refine r_ciu32 (by omega) (by omega) ?_) | refine r_ci ?_ | (refine r_add1N (by omega) ?_) | (refine r_sub1N (by omega) (by omega) ?_) | (refine r_addN (by omega) ?_) | (refine r_add (by omega) (by omega) ?_) | (refine r_ixsN (by omega) ?_) | (refine r_iaaN (by omega) ?_) | (refine r_sub (by omega) (by omega) ?_) | (refine r_mul (by omega) (by omega) ?_) | (refine r_dr H ?_; clear H; intro _ S_ H; replace S := S.trans S_; clear S_) | refine r_ld 0 H rfl rfl ?_ | refine r_ld 1 H rfl rfl ?_ | refine r_ld 2 H rfl rfl ?_ | refine r_ld 3 H rfl rfl ?_ | refine r_ld 4 H rfl rfl ?_ | ((with_reducible refine r_vtD ?h ?_); (case h => omega)) | ((with_reducible refine r_vfD ?h ?_); (case h => omega)) | ((with_reducible refine r_vtE ?h ?_); (case h => omega)) | ((with_reducible refine r_vfE ?h ?_); (case h => omega)) | ((with_reducible refine r_vtN ?h ?_); (case h => omega)) | ((with_reducible refine r_vfN ?h ?_); (case h => omega)))
  refine r_ifD (fun h3 => ?_) fun h3 => ?_
  · have hlt : i < xs.length := by omega
    obtain ⟨x, hx⟩ : ∃ t, xs[i]? = some t := ⟨_, List.getElem?_eq_getElem hlt⟩
    obtain ⟨y, hy⟩ : ∃ t, ys[i]? = some t := ⟨_, List.getElem?_eq_getElem (by omega)⟩
    refine r_dr H fun w3 S3 H3 => ?_
    replace S := S.trans S3
    refine r_ldR ha H3 hx hlt ?_
    refine r_ldR hb H3 hy (by omega) ?_
    repeat (first | refine r_nc ?_ | refine r_fo0 ?_ | refine r_fo ?_ | refine r_ke ?_ | refine r_lns ?_ | refine r_lnl ?_ | refine r_eql ?_ | refine r_neq ?_ | refine r_lss ?_ | refine r_leq ?_ | refine r_gtr ?_ | refine r_geq ?_ | refine r_seq0 ?_ | refine r_sne0 ?_ | refine r_seq ?_ | refine r_sne ?_ | (with_reducible refine r_notT ?_) | (with_reducible refine r_notF ?_) | refine r_not ?_ | (with_reducible refine r_bnST ?_) | (with_reducible refine r_bnSF ?_) | (with_reducible refine r_bnNT ?_) | (with_reducible refine r_bnNF ?_) | (with_reducible refine r_ex20 ?_) | (with_reducible refine r_ex21 ?_) | (with_reducible refine r_ex30 ?_) | (with_reducible refine r_ex31 ?_) | (with_reducible refine r_ex32 ?_) | (with_reducible refine r_vt ?_) | (with_reducible refine r_vf ?_) | refine r_bb ?_ | (with_reducible refine r_pkT ?_) | (with_reducible refine r_pkF ?_) | (with_reducible refine r_pkB ?_) | refine r_ex rfl ?_ | (refine r_ci64 (by omega) (by omega) ?_) | (refine r_ciu8 (by omega) (by omega) ?_) | (refine r_ciu32 (by omega) (by omega) ?_) | refine r_ci ?_ | (refine r_add1N (by omega) ?_) | (refine r_sub1N (by omega) (by omega) ?_) | (refine r_addN (by omega) ?_) | (refine r_add (by omega) (by omega) ?_) | (refine r_ixsN (by omega) ?_) | (refine r_iaaN (by omega) ?_) | (refine r_sub (by omega) (by omega) ?_) | (refine r_mul (by omega) (by omega) ?_) | (refine r_dr H ?_; clear H; intro _ S_ H; replace S := S.trans S_; clear S_) | refine r_ld 0 H rfl rfl ?_ | refine r_ld 1 H rfl rfl ?_ | refine r_ld 2 H rfl rfl ?_ | refine r_ld 3 H rfl rfl ?_ | refine r_ld 4 H rfl rfl ?_ | ((with_reducible refine r_vtD ?h ?_); (case h => omega)) | ((with_reducible refine r_vfD ?h ?_); (case h => omega)) | ((with_reducible refine r_vtE ?h ?_); (case h => omega)) | ((with_reducible refine r_vfE ?h ?_); (case h => omega)) | ((with_reducible refine r_vtN ?h ?_); (case h => omega)) | ((with_reducible refine r_vfN ?h ?_); (case h => omega)))
    refine r_ifN (fun h4 => ?_) fun h4 => ?_
    · have := post w3 S H3
      rw [decide_eq_false (fun e => by rw [e, hy] at hx; exact h4 (Option.some.inj hx).symm)] at this
      exact this
    · subst h4
      repeat (first | refine r_nc ?_ | refine r_fo0 ?_ | refine r_fo ?_ | refine r_ke ?_ | refine r_lns ?_ | refine r_lnl ?_ | refine r_eql ?_ | refine r_neq ?_ | refine r_lss ?_ | refine r_leq ?_ | refine r_gtr ?_ | refine r_geq ?_ | refine r_seq0 ?_ | refine r_sne0 ?_ | refine r_seq ?_ | refine r_sne ?_ | (with_reducible refine r_notT ?_) | (with_reducible refine r_notF ?_) | refine r_not ?_ | (with_reducible refine r_bnST ?_) | (with_reducible refine r_bnSF ?_) | (with_reducible refine r_bnNT ?_) | (with_reducible refine r_bnNF ?_) | (with_reducible refine r_ex20 ?_) | (with_reducible refine r_ex21 ?_) | (with_reducible refine r_ex30 ?_) | (with_reducible refine r_ex31 ?_) | (with_reducible refine r_ex32 ?_) | (with_reducible refine r_vt ?_) | (with_reducible refine r_vf ?_) | refine r_bb ?_ | (with_reducible refine r_pkT ?_) | (with_reducible refine r_pkF ?_) | (with_reducible refine r_pkB ?_) | refine r_ex rfl ?_ | (refine r_ci64 (by omega) (by omega) ?_) | (refine r_ciu8 (by omega) (by omega) ?_) | (refine r_ciu32 (by omega) (by omega) ?_) | refine r_ci ?_ | (refine r_add1N (by omega) ?_) | (refine r_sub1N (by omega) (by omega) ?_) | (refine r_addN (by omega) ?_) | (refine r_add (by omega) (by omega) ?_) | (refine r_ixsN (by omega) ?_) | (refine r_iaaN (by omega) ?_) | (refine r_sub (by omega) (by omega) ?_) | (refine r_mul (by omega) (by omega) ?_) | (refine r_dr H ?_; clear H; intro _ S_ H; replace S := S.trans S_; clear S_) | refine r_ld 0 H rfl rfl ?_ | refine r_ld 1 H rfl rfl ?_ | refine r_ld 2 H rfl rfl ?_ | refine r_ld 3 H rfl rfl ?_ | refine r_ld 4 H rfl rfl ?_ | ((with_reducible refine r_vtD ?h ?_); (case h => omega)) | ((with_reducible refine r_vfD ?h ?_); (case h => omega)) | ((with_reducible refine r_vtE ?h ?_); (case h => omega)) | ((with_reducible refine r_vfE ?h ?_); (case h => omega)) | ((with_reducible refine r_vtN ?h ?_); (case h => omega)) | ((with_reducible refine r_vfN ?h ?_); (case h => omega)))
      refine ⟨⟨i + 1, by omega, rfl, by rw [take_next hx, take_next hy, he], S, H3⟩, ?_⟩
      show xs.length - (RowKit.intOf (nv (i + 1))).toNat < xs.length - (RowKit.intOf (nv i)).toNat
      simp only [RowKit.intOf, Int.toNat_natCast]
      omega
  · have hil : i = xs.length := by omega
    subst hil
    have e : xs = ys := by
      rw [List.take_length, hl, List.take_length] at he
      exact he
    have := post w2 S H
    rw [decide_eq_true e] at this
    exact this
theorem Equal_spec {a b : Option Addr} {xs ys : List Int} {c d : Nat} (hn : xs.length ≤ 1000) (H : Holds w L) (ha : RowIn L a xs) (hb : RowIn L b ys) (post : ∀ w', Same w w' → Holds w' L → K (.bool (decide (xs = ys))) w') :
    Cl Tryz.prog F.slices_Equal_int_int #[.slice a xs.length c, .slice b ys.length d] w K := by
  refine Tie.slices_Equal_int_int ?_
  unfold Vcf.slices_Equal_int_int
  repeat (first | refine r_nc ?_ | refine r_fo0 ?_ | refine r_fo ?_ | refine r_ke ?_ | refine r_lns ?_ | refine r_lnl ?_ | refine r_eql ?_ | refine r_neq ?_ | refine r_lss ?_ | refine r_leq ?_ | refine r_gtr ?_ | refine r_geq ?_ | refine r_seq0 ?_ | refine r_sne0 ?_ | refine r_seq ?_ | refine r_sne ?_ | (with_reducible refine r_notT ?_) | (with_reducible refine r_notF ?_) | refine r_not ?_ | (with_reducible refine r_bnST ?_) | (with_reducible refine r_bnSF ?_) | (with_reducible refine r_bnNT ?_) | (with_reducible refine r_bnNF ?_) | (with_reducible refine r_ex20 ?_) | (with_reducible refine r_ex21 ?_) | (with_reducible refine r_ex30 ?_) | (with_reducible refine r_ex31 ?_) | (with_reducible refine r_ex32 ?_) | (with_reducible refine r_vt ?_) | (with_reducible refine r_vf ?_) | refine r_bb ?_ | (with_reducible refine r_pkT ?_) | (with_reducible refine r_pkF ?_) | (with_reducible refine r_pkB ?_) | refine r_ex rfl ?_ | (refine r_ci64 (by omega) (by omega) ?_) | (refine r_ciu8 (by omega) (by omega) ?_) | (refine r_ciu32 (by omega) (by omega) ?_) | refine r_ci ?_ | (refine r_add1N (by omega) ?_) | (refine r_sub1N (by omega) (by omega) ?_) | (refine r_addN (by omega) ?_) | (refine r_add (by omega) (by omega) ?_) | (refine r_ixsN (by omega) ?_) | (refine r_iaaN (by omega) ?_) | (refine r_sub (by omega) (by omega) ?_) | (refine r_mul (by omega) (by omega) ?_) | (refine r_dr H ?_; clear H; intro _ S_ H; replace S := S.trans S_; clear S_) | refine r_ld 0 H rfl rfl ?_ | refine r_ld 1 H rfl rfl ?_ | refine r_ld 2 H rfl rfl ?_ | refine r_ld 3 H rfl rfl ?_ | refine r_ld 4 H rfl rfl ?_ | ((with_reducible refine r_vtD ?h ?_); (case h => omega)) | ((with_reducible refine r_vfD ?h ?_); (case h => omega)) | ((with_reducible refine r_vtE ?h ?_); (case h => omega)) | ((with_reducible refine r_vfE ?h ?_); (case h => omega)) | ((with_reducible refine r_vtN ?h ?_); (case h => omega)) | ((with_reducible refine r_vfN ?h ?_); (case h => omega)))
  refine r_ifN (fun h => ?_) fun h => ?_
  · have := post w (.refl w) H
    rw [decide_eq_false (fun e => h (by rw [e]))] at this
    exact this
  have hl : xs.length = ys.length := by omega
  repeat (first | refine r_nc ?_ | refine r_fo0 ?_ | refine r_fo ?_ | refine r_ke ?_ | refine r_lns ?_ | refine r_lnl ?_ | refine r_eql ?_ | refine r_neq ?_ | refine r_lss ?_ | refine r_leq ?_ | refine r_gtr ?_ | refine r_geq ?_ | refine r_seq0 ?_ | refine r_sne0 ?_ | refine r_seq ?_ | refine r_sne ?_ | (with_reducible refine r_notT ?_) | (with_reducible refine r_notF ?_) | refine r_not ?_ | (with_reducible refine r_bnST ?_) | (with_reducible refine r_bnSF ?_) | (with_reducible refine r_bnNT ?_) | (with_reducible refine r_bnNF ?_) | (with_reducible refine r_ex20 ?_) | (with_reducible refine r_ex21 ?_) | (with_reducible refine r_ex30 ?_) | (with_reducible refine r_ex31 ?_) | (with_reducible refine r_ex32 ?_) | (with_reducible refine r_vt ?_) | (with_reducible refine r_vf ?_) | refine r_bb ?_ | (with_reducible refine r_pkT ?_) | (with_reducible refine r_pkF ?_) | (with_reducible refine r_pkB ?_) | refine r_ex rfl ?_ | (refine r_ci64 (by omega) (by omega) ?_) | (refine r_ciu8 (by omega) (by omega) ?_) | (refine r_ciu32 (by omega) (by omega) ?_) | refine r_ci ?_ | (refine r_add1N (by omega) ?_) | (refine r_sub1N (by omega) (by omega) ?_) | (refine r_addN (by omega) ?_) | (refine r_add (by omega) (by omega) ?_) | (refine r_ixsN (by omega) ?_) | (refine r_iaaN (by omega) ?_) | (refine r_sub (by omega) (by omega) ?_) | (refine r_mul (by omega) (by omega) ?_) | (refine r_dr H ?_; clear H; intro _ S_ H; replace S := S.trans S_; clear S_) | refine r_ld 0 H rfl rfl ?_ | refine r_ld 1 H rfl rfl ?_ | refine r_ld 2 H rfl rfl ?_ | refine r_ld 3 H rfl rfl ?_ | refine r_ld 4 H rfl rfl ?_ | ((with_reducible refine r_vtD ?h ?_); (case h => omega)) | ((with_reducible refine r_vfD ?h ?_); (case h => omega)) | ((with_reducible refine r_vtE ?h ?_); (case h => omega)) | ((with_reducible refine r_vfE ?h ?_); (case h => omega)) | ((with_reducible refine r_vtN ?h ?_); (case h => omega)) | ((with_reducible refine r_vfN ?h ?_); (case h => omega)))
  refine r_loop1 (fun y w' => ∃ i : Nat, i ≤ xs.length ∧ y = nv i ∧ xs.take i = ys.take i ∧ Same w w' ∧ Holds w' L) (fun y _ => xs.length - (RowKit.intOf y).toNat) ⟨0, by omega, rfl, rfl, .refl w, H⟩ ?_
  clear H
  rintro _ _ w2 ⟨i, hi, rfl, he, S, H⟩
  repeat (first | refine r_nc ?_ | refine r_fo0 ?_ | refine r_fo ?_ | refine r_ke ?_ | refine r_lns ?_ | refine r_lnl ?_ | refine r_eql ?_ | refine r_neq ?_ | refine r_lss ?_ | refine r_leq ?_ | refine r_gtr ?_ | refine r_geq ?_ | refine r_seq0 ?_ | refine r_sne0 ?_ | refine r_seq ?_ | refine r_sne ?_ | (with_reducible refine r_notT ?_) | (with_reducible refine r_notF ?_) | refine r_not ?_ | (with_reducible refine r_bnST ?_) | (with_reducible refine r_bnSF ?_) | (with_reducible refine r_bnNT ?_) | (with_reducible refine r_bnNF ?_) | (with_reducible refine r_ex20 ?_) | (with_reducible refine r_ex21 ?_) | (with_reducible refine r_ex30 ?_) | (with_reducible refine r_ex31 ?_) | (with_reducible refine r_ex32 ?_) | (with_reducible refine r_vt ?_) | (with_reducible refine r_vf ?_) | refine r_bb ?_ | (with_reducible refine r_pkT ?_) | (with_reducible refine r_pkF ?_) | (with_reducible refine r_pkB ?_) | refine r_ex rfl ?_ | (refine r_ci64 (by omega) (by omega) ?_) | (refine r_ciu8 (by omega) (by omega) ?_) | (refine r_ciu32 (by omega) (by omega) ?_) | refine r_ci ?_ | (refine r_add1N (by omega) ?_) | (refine r_sub1N (by omega) (by omega) ?_) | (refine r_addN (by omega) ?_) | (refine r_add (by omega) (by omega) ?_) | (refine r_ixsN (by omega) ?_) | (refine r_iaaN (by omega) ?_) | (refine r_sub (by omega) (by omega) ?_) | (refine r_mul (by omega) (by omega) ?_) | (refine r_dr H ?_; clear H; intro _ S_ H; replace S := S.trans S_; clear S_) | refine r_ld 0 H rfl rfl ?_ | refine r_ld 1 H rfl rfl ?_ | refine r_ld 2 H rfl rfl ?_ | refine r_ld 3 H rfl rfl ?_ | refine r_ld 4 H rfl rfl ?_ | ((with_reducible refine r_vtD ?h ?_); (case h => omega)) | ((with_reducible refine r_vfD ?h ?_); (case h => omega)) | ((with_reducible refine r_vtE ?h ?_); (case h => omega)) | ((with_reducible refine r_vfE ?h ?_); (case h => omega)) | ((with_reducible refine r_vtN ?h ?_); (case h => omega)) | ((with_reducible refine r_vfN ?h ?_); (case h => omega)))
  refine r_ifD (fun h3 => ?_) fun h3 => ?_
  · have hlt : i < xs.length := by omega
    obtain ⟨x, hx⟩ : ∃ t, xs[i]? = some t := ⟨_, List.getElem?_eq_getElem hlt⟩
    obtain ⟨y, hy⟩ : ∃ t, ys[i]? = some t := ⟨_, List.getElem?_eq_getElem (by omega)⟩
    refine r_dr H fun w3 S3 H3 => ?_
    replace S := S.trans S3
    refine r_ldR ha H3 hx hlt ?_
    refine r_ldR hb H3 hy (by omega) ?_
    repeat (first | refine r_nc ?_ | refine r_fo0 ?_ | refine r_fo ?_ | refine r_ke ?_ | refine r_lns ?_ | refine r_lnl ?_ | refine r_eql ?_ | refine r_neq ?_ | refine r_lss ?_ | refine r_leq ?_ | refine r_gtr ?_ | refine r_geq ?_ | refine r_seq0 ?_ | refine r_sne0 ?_ | refine r_seq ?_ | refine r_sne ?_ | (with_reducible refine r_notT ?_) | (with_reducible refine r_notF ?_) | refine r_not ?_ | (with_reducible refine r_bnST ?_) | (with_reducible refine r_bnSF ?_) | (with_reducible refine r_bnNT ?_) | (with_reducible refine r_bnNF ?_) | (with_reducible refine r_ex20 ?_) | (with_reducible refine r_ex21 ?_) | (with_reducible refine r_ex30 ?_) | (with_reducible refine r_ex31 ?_) | (with_reducible refine r_ex32 ?_) | (with_reducible refine r_vt ?_) | (with_reducible refine r_vf ?_) | refine r_bb ?_ | (with_reducible refine r_pkT ?_) | (with_reducible refine r_pkF ?_) | (with_reducible refine r_pkB ?_) | refine r_ex rfl ?_ | (refine r_ci64 (by omega) (by omega) ?_) | (refine r_ciu8 (by omega) (by omega) ?_) | (refine r_ciu32 (by omega) (by omega) ?_) | refine r_ci ?_ | (refine r_add1N (by omega) ?_) | (refine r_sub1N (by omega) (by omega) ?_) | (refine r_addN (by omega) ?_) | (refine r_add (by omega) (by omega) ?_) | (refine r_ixsN (by omega) ?_) | (refine r_iaaN (by omega) ?_) | (refine r_sub (by omega) (by omega) ?_) | (refine r_mul (by omega) (by omega) ?_) | (refine r_dr H ?_; clear H; intro _ S_ H; replace S := S.trans S_; clear S_) | refine r_ld 0 H rfl rfl ?_ | refine r_ld 1 H rfl rfl ?_ | refine r_ld 2 H rfl rfl ?_ | refine r_ld 3 H rfl rfl ?_ | refine r_ld 4 H rfl rfl ?_ | ((with_reducible refine r_vtD ?h ?_); (case h => omega)) | ((with_reducible refine r_vfD ?h ?_); (case h => omega)) | ((with_reducible refine r_vtE ?h ?_); (case h => omega)) | ((with_reducible refine r_vfE ?h ?_); (case h => omega)) | ((with_reducible refine r_vtN ?h ?_); (case h => omega)) | ((with_reducible refine r_vfN ?h ?_); (case h => omega)))
    refine r_ifN (fun h4 => ?_) fun h4 => ?_
    · have := post w3 S H3
      rw [decide_eq_false (fun e => by rw [e, hy] at hx; exact h4 (Option.some.inj hx).symm)] at this
      exact this
    · subst h4
      repeat (first | refine r_nc ?_ | refine r_fo0 ?_ | refine r_fo ?_ | refine r_ke ?_ | refine r_lns ?_ | refine r_lnl ?_ | refine r_eql ?_ | refine r_neq ?_ | refine r_lss ?_ | refine r_leq ?_ | refine r_gtr ?_ | refine r_geq ?_ | refine r_seq0 ?_ | refine r_sne0 ?_ | refine r_seq ?_ | refine r_sne ?_ | (with_reducible refine r_notT ?_) | (with_reducible refine r_notF ?_) | refine r_not ?_ | (with_reducible refine r_bnST ?_) | (with_reducible refine r_bnSF ?_) | (with_reducible refine r_bnNT ?_) | (with_reducible refine r_bnNF ?_) | (with_reducible refine r_ex20 ?_) | (with_reducible refine r_ex21 ?_) | (with_reducible refine r_ex30 ?_) | (with_reducible refine r_ex31 ?_) | (with_reducible refine r_ex32 ?_) | (with_reducible refine r_vt ?_) | (with_reducible refine r_vf ?_) | refine r_bb ?_ | (with_reducible refine r_pkT ?_) | (with_reducible refine r_pkF ?_) | (with_reducible refine r_pkB ?_) | refine r_ex rfl ?_ | (refine r_ci64 (by omega) (by omega) ?_) | (refine r_ciu8 (by omega) (by omega) ?_) | (refine r_ciu32 (by omega) (by omega) ?_) | refine r_ci ?_ | (refine r_add1N (by omega) ?_) | (refine r_sub1N (by omega) (by omega) ?_) | (refine r_addN (by omega) ?_) | (refine r_add (by omega) (by omega) ?_) | (refine r_ixsN (by omega) ?_) | (refine r_iaaN (by omega) ?_) | (refine r_sub (by omega) (by omega) ?_) | (refine r_mul (by omega) (by omega) ?_) | (refine r_dr H ?_; clear H; intro _ S_ H; replace S := S.trans S_; clear S_) | refine r_ld 0 H rfl rfl ?_ | refine r_ld 1 H rfl rfl ?_ | refine r_ld 2 H rfl rfl ?_ | refine r_ld 3 H rfl rfl ?_ | refine r_ld 4 H rfl rfl ?_ | ((with_reducible refine r_vtD ?h ?_); (case h => omega)) | ((with_reducible refine r_vfD ?h ?_); (case h => omega)) | ((with_reducible refine r_vtE ?h ?_); (case h => omega)) | ((with_reducible refine r_vfE ?h ?_); (case h => omega)) | ((with_reducible refine r_vtN ?h ?_); (case h => omega)) | ((with_reducible refine r_vfN ?h ?_); (case h => omega)))
      refine ⟨⟨i + 1, by omega, rfl, by rw [take_next hx, take_next hy, he], S, H3⟩, ?_⟩
      show xs.length - (RowKit.intOf (nv (i + 1))).toNat < xs.length - (RowKit.intOf (nv i)).toNat
      simp only [RowKit.intOf, Int.toNat_natCast]
      omega
  · have hil : i = xs.length := by omega
    subst hil
    have e : xs = ys := by
      rw [List.take_length, hl, List.take_length] at he
      exact he
    have := post w2 S H
    rw [decide_eq_true e] at this
    exact this
/-! Reports. -/
structure Rp where
  me : Int
  ke : Int
  st : Int
  wi : Int
  jo : Int
  se : Int
  lo : Int
def cellsR (z : Rp) (a : Option Addr) (l c : Nat) : List Value := [iv z.me, iv z.ke, iv z.st, iv z.wi, iv z.jo, iv z.se, iv z.lo, .slice a l c]
def six (z : Rp) : List Int := [z.me, z.ke, z.st, z.wi, z.jo, z.se]
theorem six_cells (z : Rp) : (six z).map iv = [iv z.me, iv z.ke, iv z.st, iv z.wi, iv z.jo, iv z.se] := rfl
theorem counts_spec {z : Rp} {a : Option Addr} {l c : Nat} (H : Holds w L) (post : ∀ w', Same w w' → Holds w' L → K (.agg #[iv z.me, iv z.ke, iv z.st, iv z.wi, iv z.jo, iv z.se, iv z.lo]) w') :
    Cl Tryz.prog F.audit_Same_1 #[.agg (cellsR z a l c).toArray] w K := by
  refine Tie.audit_Same_1 ?_
  unfold Vcf.audit_Same_1
  have hz : (zeroP Tryz.prog tA).cells.toList = [iv 0, iv 0, iv 0, iv 0, iv 0, iv 0, iv 0] := by kernel_rfl
  refine r_new H fun b1 w1 S1 H1 => ?_
  replace H1 : Holds w1 (blk b1 tR (cellsR z a l c) :: L) := H1
  refine r_new H1 fun b2 w2 S2 H2 => ?_
  rw [hz] at H2
  have S := S1.trans S2
  clear H S1 S2 H1
  have H := H2
  clear H2
  repeat (first | refine r_nc ?_ | refine r_fo0 ?_ | refine r_fo ?_ | refine r_ke ?_ | refine r_lns ?_ | refine r_lnl ?_ | refine r_eql ?_ | refine r_neq ?_ | refine r_lss ?_ | refine r_leq ?_ | refine r_gtr ?_ | refine r_geq ?_ | refine r_seq0 ?_ | refine r_sne0 ?_ | refine r_seq ?_ | refine r_sne ?_ | (with_reducible refine r_notT ?_) | (with_reducible refine r_notF ?_) | refine r_not ?_ | (with_reducible refine r_bnST ?_) | (with_reducible refine r_bnSF ?_) | (with_reducible refine r_bnNT ?_) | (with_reducible refine r_bnNF ?_) | (with_reducible refine r_ex20 ?_) | (with_reducible refine r_ex21 ?_) | (with_reducible refine r_ex30 ?_) | (with_reducible refine r_ex31 ?_) | (with_reducible refine r_ex32 ?_) | (with_reducible refine r_vt ?_) | (with_reducible refine r_vf ?_) | refine r_bb ?_ | (with_reducible refine r_pkT ?_) | (with_reducible refine r_pkF ?_) | (with_reducible refine r_pkB ?_) | refine r_ex rfl ?_ | (refine r_ci64 (by omega) (by omega) ?_) | (refine r_ciu8 (by omega) (by omega) ?_) | (refine r_ciu32 (by omega) (by omega) ?_) | refine r_ci ?_ | (refine r_add1N (by omega) ?_) | (refine r_sub1N (by omega) (by omega) ?_) | (refine r_addN (by omega) ?_) | (refine r_add (by omega) (by omega) ?_) | (refine r_ixsN (by omega) ?_) | (refine r_iaaN (by omega) ?_) | (refine r_sub (by omega) (by omega) ?_) | (refine r_mul (by omega) (by omega) ?_) | (refine r_dr H ?_; clear H; intro _ S_ H; replace S := S.trans S_; clear S_) | refine r_ld 0 H rfl rfl ?_ | refine r_ld 1 H rfl rfl ?_ | refine r_ld 2 H rfl rfl ?_ | refine r_ld 3 H rfl rfl ?_ | refine r_ld 4 H rfl rfl ?_ | ((with_reducible refine r_vtD ?h ?_); (case h => omega)) | ((with_reducible refine r_vfD ?h ?_); (case h => omega)) | ((with_reducible refine r_vtE ?h ?_); (case h => omega)) | ((with_reducible refine r_vfE ?h ?_); (case h => omega)) | ((with_reducible refine r_vtN ?h ?_); (case h => omega)) | ((with_reducible refine r_vfN ?h ?_); (case h => omega)))
  refine r_bd (v := .agg #[iv z.me, iv z.ke, iv z.st, iv z.wi, iv z.jo, iv z.se, iv z.lo]) (by kernel_rfl) ?_
  refine r_stA 0 H (vs := [iv z.me, iv z.ke, iv z.st, iv z.wi, iv z.jo, iv z.se, iv z.lo]) rfl (Nat.le_refl 7) rfl rfl fun w3 S3 H3 => ?_
  replace H3 : Holds w3 (blk b2 tA [iv z.me, iv z.ke, iv z.st, iv z.wi, iv z.jo, iv z.se, iv z.lo] :: blk b1 tR (cellsR z a l c) :: L) := H3
  refine r_ldA 0 H3 [iv z.me, iv z.ke, iv z.st, iv z.wi, iv z.jo, iv z.se, iv z.lo] rfl rfl rfl ?_
  exact post _ (S.trans S3) H3.drop.drop
def seven (z : Rp) : List Int := [z.me, z.ke, z.st, z.wi, z.jo, z.se, z.lo]
abbrev X : Operand := .tmp 8
abbrev Y : Operand := .tmp 11
def two (v u : Value) : Operand → Value
  | .tmp 8 => v
  | _ => u
theorem be7 {z y : Rp} {K : Value → Prop} (h : K (.bool (decide (seven z = seven y)))) :
    Be Tryz.prog .eql tA X Y (.agg #[iv z.me, iv z.ke, iv z.st, iv z.wi, iv z.jo, iv z.se, iv z.lo]) (.agg #[iv y.me, iv y.ke, iv y.st, iv y.wi, iv y.jo, iv y.se, iv y.lo]) w K := by
  have hu : Tryz.prog.underlying tA = some (.array 7 tI) := by kernel_rfl
  have hi : Tryz.prog.underlying tI = some (.int .i64) := by kernel_rfl
  obtain ⟨inf, hinf, hsz⟩ : ∃ inf, Tryz.prog.info? tI = some inf ∧ inf.size = 1 := by
    cases h : Tryz.prog.info? tI with
    | none => exact absurd (show (Tryz.prog.info? tI).isSome = true by kernel_rfl) (by rw [h]; simp)
    | some i => exact ⟨i, rfl, by have : (Tryz.prog.info? tI).map (·.size) = some 1 := by kernel_rfl
                                  rw [h] at this; simpa using this⟩
  have hg : Ev.gdE Tryz.prog tA X Y (.g ((seven z).map (Ev.X.i .i64))) (.g ((seven y).map (Ev.X.i .i64))) = true := by
    have : Tryz.prog.eqGuardType Tryz.prog.depth tA = false := by kernel_rfl
    simp only [Ev.gdE, this]
  have part : ∀ (l : List Ev.X) (i : Nat), Ev.partX Tryz.prog tI l i = l[i]? := fun l i => by
    unfold Ev.partX
    rw [hi]
  have e1 : ∀ (d : Nat) (p q : Int), Ev.eqT Tryz.prog (d + 1) tI (.i .i64 p) (.i .i64 q) = some (p == q) := fun d p q => by
    simp only [Ev.eqT, hi, Ev.eq1, decide_true]
  have he : Ev.eqT Tryz.prog 20 tA (.g ((seven z).map (Ev.X.i .i64))) (.g ((seven y).map (Ev.X.i .i64))) = some (decide (seven z = seven y)) := by
    rw [Ev.eqT, hu]
    simp only [hinf, hsz]
    rw [show List.range 7 = [0, 1, 2, 3, 4, 5, 6] from rfl]
    rw [show (seven z).map (Ev.X.i .i64) = [.i .i64 z.me, .i .i64 z.ke, .i .i64 z.st, .i .i64 z.wi, .i .i64 z.jo, .i .i64 z.se, .i .i64 z.lo] from rfl, show (seven y).map (Ev.X.i .i64) = [.i .i64 y.me, .i .i64 y.ke, .i .i64 y.st, .i .i64 y.wi, .i .i64 y.jo, .i .i64 y.se, .i .i64 y.lo] from rfl]
    simp only [Ev.eqIs, part, List.getElem?_cons_zero, List.getElem?_cons_succ, Nat.mul_one, e1]
    have inj : seven z = seven y → z.me = y.me ∧ z.ke = y.ke ∧ z.st = y.st ∧ z.wi = y.wi ∧ z.jo = y.jo ∧ z.se = y.se ∧ z.lo = y.lo := fun e => by
      simpa [seven] using e
    by_cases h0 : z.me = y.me
    rotate_left
    · have b0 : (z.me == y.me) = false := by simpa using h0
      simp only [b0]
      rw [decide_eq_false fun e => h0 (inj e).1]
    have b0 : (z.me == y.me) = true := by simpa using h0
    simp only [b0]
    by_cases h1 : z.ke = y.ke
    rotate_left
    · have b1 : (z.ke == y.ke) = false := by simpa using h1
      simp only [b1]
      rw [decide_eq_false fun e => h1 (inj e).2.1]
    have b1 : (z.ke == y.ke) = true := by simpa using h1
    simp only [b1]
    by_cases h2 : z.st = y.st
    rotate_left
    · have b2 : (z.st == y.st) = false := by simpa using h2
      simp only [b2]
      rw [decide_eq_false fun e => h2 (inj e).2.2.1]
    have b2 : (z.st == y.st) = true := by simpa using h2
    simp only [b2]
    by_cases h3 : z.wi = y.wi
    rotate_left
    · have b3 : (z.wi == y.wi) = false := by simpa using h3
      simp only [b3]
      rw [decide_eq_false fun e => h3 (inj e).2.2.2.1]
    have b3 : (z.wi == y.wi) = true := by simpa using h3
    simp only [b3]
    by_cases h4 : z.jo = y.jo
    rotate_left
    · have b4 : (z.jo == y.jo) = false := by simpa using h4
      simp only [b4]
      rw [decide_eq_false fun e => h4 (inj e).2.2.2.2.1]
    have b4 : (z.jo == y.jo) = true := by simpa using h4
    simp only [b4]
    by_cases h5 : z.se = y.se
    rotate_left
    · have b5 : (z.se == y.se) = false := by simpa using h5
      simp only [b5]
      rw [decide_eq_false fun e => h5 (inj e).2.2.2.2.2.1]
    have b5 : (z.se == y.se) = true := by simpa using h5
    simp only [b5]
    by_cases h6 : z.lo = y.lo
    rotate_left
    · have b6 : (z.lo == y.lo) = false := by simpa using h6
      simp only [b6]
      rw [decide_eq_false fun e => h6 (inj e).2.2.2.2.2.2]
    have b6 : (z.lo == y.lo) = true := by simpa using h6
    simp only [b6]
    rw [decide_eq_true (show seven z = seven y by unfold seven; rw [h0, h1, h2, h3, h4, h5, h6])]
  have hx : Ev.beX Tryz.prog .eql tA X Y (some (.g ((seven z).map (Ev.X.i .i64)))) (some (.g ((seven y).map (Ev.X.i .i64)))) = some (.b (decide (seven z = seven y))) := by
    unfold Ev.beX
    simp only [hg, he]
  exact Ev.beX_ok (P := Tryz.prog) (σ := fun _ => none) (t := tA) (A := X) (B := Y) (f := two (.agg #[iv z.me, iv z.ke, iv z.st, iv z.wi, iv z.jo, iv z.se, iv z.lo]) (.agg #[iv y.me, iv y.ke, iv y.st, iv y.wi, iv y.jo, iv y.se, iv y.lo]))
    hu (fun k h => by cases h) (fun h => by cases h) (fun h => by cases h) (fun e h => by cases h) hx (fun a ha => by cases ha; rfl) (fun a ha => by cases ha; rfl) fun v hv => by
      obtain rfl := Option.some.inj hv
      exact h
theorem Same_spec {z y : Rp} {a b : Option Addr} {xs ys : List Int} {c d : Nat} (hn : xs.length ≤ 1000) (H : Holds w L) (ha : RowIn L a xs) (hb : RowIn L b ys) (post : ∀ w', Same w w' → Holds w' L → K (.bool (decide (seven z = seven y ∧ xs = ys))) w') :
    Cl Tryz.prog F.audit_Same #[.agg (cellsR z a xs.length c).toArray, .agg (cellsR y b ys.length d).toArray] w K := by
  refine Tie.audit_Same ?_
  unfold Vcf.audit_Same
  refine r_new H fun b1 w1 S1 H1 => ?_
  replace H1 : Holds w1 (blk b1 tR (cellsR z a xs.length c) :: L) := H1
  refine r_new H1 fun b2 w2 S2 H2 => ?_
  replace H2 : Holds w2 (blk b2 tR (cellsR y b ys.length d) :: blk b1 tR (cellsR z a xs.length c) :: L) := H2
  refine r_dr H2 fun w3 S3 H3 => ?_
  have S := (S1.trans S2).trans S3
  clear H S1 S2 S3 H1 H2
  refine r_ldA 1 H3 (cellsR z a xs.length c) rfl rfl rfl ?_
  refine r_inv (f := F.audit_Same_1) (args := #[.agg (cellsR z a xs.length c).toArray]) (by kernel_rfl) ?_
  refine counts_spec H3 fun w4 S4 H4 => ?_
  refine r_ldA 0 H4 (cellsR y b ys.length d) rfl rfl rfl ?_
  refine r_rk (r_ldA 0 H3 (cellsR y b ys.length d) rfl rfl rfl rfl) ?_
  refine r_inv (f := F.audit_Same_1) (args := #[.agg (cellsR y b ys.length d).toArray]) (by kernel_rfl) ?_
  refine counts_spec H4 fun w5 S5 H5 => ?_
  replace S := (S.trans S4).trans S5
  clear H3 H4 S4 S5
  have H := H5
  clear H5
  refine be7 ?_
  refine r_ifD (fun h => ?_) fun h => ?_
  · repeat (first | refine r_nc ?_ | refine r_fo0 ?_ | refine r_fo ?_ | refine r_ke ?_ | refine r_lns ?_ | refine r_lnl ?_ | refine r_eql ?_ | refine r_neq ?_ | refine r_lss ?_ | refine r_leq ?_ | refine r_gtr ?_ | refine r_geq ?_ | refine r_seq0 ?_ | refine r_sne0 ?_ | refine r_seq ?_ | refine r_sne ?_ | (with_reducible refine r_notT ?_) | (with_reducible refine r_notF ?_) | refine r_not ?_ | (with_reducible refine r_bnST ?_) | (with_reducible refine r_bnSF ?_) | (with_reducible refine r_bnNT ?_) | (with_reducible refine r_bnNF ?_) | (with_reducible refine r_ex20 ?_) | (with_reducible refine r_ex21 ?_) | (with_reducible refine r_ex30 ?_) | (with_reducible refine r_ex31 ?_) | (with_reducible refine r_ex32 ?_) | (with_reducible refine r_vt ?_) | (with_reducible refine r_vf ?_) | refine r_bb ?_ | (with_reducible refine r_pkT ?_) | (with_reducible refine r_pkF ?_) | (with_reducible refine r_pkB ?_) | refine r_ex rfl ?_ | (refine r_ci64 (by omega) (by omega) ?_) | (refine r_ciu8 (by omega) (by omega) ?_) | (refine r_ciu32 (by omega) (by omega) ?_) | refine r_ci ?_ | (refine r_add1N (by omega) ?_) | (refine r_sub1N (by omega) (by omega) ?_) | (refine r_addN (by omega) ?_) | (refine r_add (by omega) (by omega) ?_) | (refine r_ixsN (by omega) ?_) | (refine r_iaaN (by omega) ?_) | (refine r_sub (by omega) (by omega) ?_) | (refine r_mul (by omega) (by omega) ?_) | (refine r_dr H ?_; clear H; intro _ S_ H; replace S := S.trans S_; clear S_) | refine r_ld 0 H rfl rfl ?_ | refine r_ld 1 H rfl rfl ?_ | refine r_ld 2 H rfl rfl ?_ | refine r_ld 3 H rfl rfl ?_ | refine r_ld 4 H rfl rfl ?_ | ((with_reducible refine r_vtD ?h ?_); (case h => omega)) | ((with_reducible refine r_vfD ?h ?_); (case h => omega)) | ((with_reducible refine r_vtE ?h ?_); (case h => omega)) | ((with_reducible refine r_vfE ?h ?_); (case h => omega)) | ((with_reducible refine r_vtN ?h ?_); (case h => omega)) | ((with_reducible refine r_vfN ?h ?_); (case h => omega)))
    refine Equal_spec hn H ha.up.up hb.up.up fun w6 S6 H6 => ?_
    have := post w6 (S.trans S6) H6.drop.drop
    rw [show decide (seven z = seven y ∧ xs = ys) = decide (xs = ys) by rw [Bool.eq_iff_iff, decide_eq_true_iff, decide_eq_true_iff]; exact ⟨fun e => e.2, fun e => ⟨h, e⟩⟩] at this
    exact this
  · have := post w5 S H.drop.drop
    rw [decide_eq_false (fun e => h e.1)] at this
    exact this
theorem Clean_spec {z : Rp} {a : Option Addr} {l c : Nat} (H : Holds w L) (hb : ∀ x ∈ six z, 0 ≤ x ∧ x ≤ 1099511627776) (post : ∀ w', Same w w' → Holds w' L → K (.bool (z.me + z.ke + z.st + z.wi + z.jo + z.se == 0)) w') :
    Cl Tryz.prog F.audit_Report_Clean #[.agg (cellsR z a l c).toArray] w K := by
  refine Tie.audit_Report_Clean ?_
  unfold Vcf.audit_Report_Clean
  simp only [six, List.mem_cons, List.not_mem_nil, or_false, forall_eq_or_imp, forall_eq] at hb
  obtain ⟨⟨a1, a2⟩, ⟨b1, b2⟩, ⟨c1, c2⟩, ⟨d1, d2⟩, ⟨e1, e2⟩, f1, f2⟩ := hb
  refine r_new H fun b1 w1 S1 H1 => ?_
  replace H1 : Holds w1 (blk b1 tR (cellsR z a l c) :: L) := H1
  clear H
  have H := H1
  clear H1
  repeat (first | refine r_nc ?_ | refine r_fo0 ?_ | refine r_fo ?_ | refine r_ke ?_ | refine r_lns ?_ | refine r_lnl ?_ | refine r_eql ?_ | refine r_neq ?_ | refine r_lss ?_ | refine r_leq ?_ | refine r_gtr ?_ | refine r_geq ?_ | refine r_seq0 ?_ | refine r_sne0 ?_ | refine r_seq ?_ | refine r_sne ?_ | (with_reducible refine r_notT ?_) | (with_reducible refine r_notF ?_) | refine r_not ?_ | (with_reducible refine r_bnST ?_) | (with_reducible refine r_bnSF ?_) | (with_reducible refine r_bnNT ?_) | (with_reducible refine r_bnNF ?_) | (with_reducible refine r_ex20 ?_) | (with_reducible refine r_ex21 ?_) | (with_reducible refine r_ex30 ?_) | (with_reducible refine r_ex31 ?_) | (with_reducible refine r_ex32 ?_) | (with_reducible refine r_vt ?_) | (with_reducible refine r_vf ?_) | refine r_bb ?_ | (with_reducible refine r_pkT ?_) | (with_reducible refine r_pkF ?_) | (with_reducible refine r_pkB ?_) | refine r_ex rfl ?_ | (refine r_ci64 (by omega) (by omega) ?_) | (refine r_ciu8 (by omega) (by omega) ?_) | (refine r_ciu32 (by omega) (by omega) ?_) | refine r_ci ?_ | (refine r_add1N (by omega) ?_) | (refine r_sub1N (by omega) (by omega) ?_) | (refine r_addN (by omega) ?_) | (refine r_add (by omega) (by omega) ?_) | (refine r_ixsN (by omega) ?_) | (refine r_iaaN (by omega) ?_) | (refine r_sub (by omega) (by omega) ?_) | (refine r_mul (by omega) (by omega) ?_) | (refine r_dr H ?_; clear H; intro _ S_ H; replace S := S.trans S_; clear S_) | refine r_ld 0 H rfl rfl ?_ | refine r_ld 1 H rfl rfl ?_ | refine r_ld 2 H rfl rfl ?_ | refine r_ld 3 H rfl rfl ?_ | refine r_ld 4 H rfl rfl ?_ | ((with_reducible refine r_vtD ?h ?_); (case h => omega)) | ((with_reducible refine r_vfD ?h ?_); (case h => omega)) | ((with_reducible refine r_vtE ?h ?_); (case h => omega)) | ((with_reducible refine r_vfE ?h ?_); (case h => omega)) | ((with_reducible refine r_vtN ?h ?_); (case h => omega)) | ((with_reducible refine r_vfN ?h ?_); (case h => omega)))
  exact post w1 S1 H.drop
theorem AuditSame_spec {z y : Rp} {a b : Option Addr} {xs ys : List Int} {c d : Nat} (H : Holds w L) (ha : RowIn L a xs) (hb : RowIn L b ys) (post : ∀ w', Same w w' → Holds w' L → K (.bool true) w') :
    Cl Tryz.prog F.balerlaw44_AuditSame #[.agg (cellsR z a xs.length c).toArray, .agg (cellsR y b ys.length d).toArray] w K := by
  refine Tie.balerlaw44_AuditSame ?_
  unfold Vcf.balerlaw44_AuditSame
  refine r_new H fun b1 w1 S1 H1 => ?_
  replace H1 : Holds w1 (blk b1 tR (cellsR z a xs.length c) :: L) := H1
  refine r_new H1 fun b2 w2 S2 H2 => ?_
  replace H2 : Holds w2 (blk b2 tR (cellsR y b ys.length d) :: blk b1 tR (cellsR z a xs.length c) :: L) := H2
  have S := S1.trans S2
  clear H S1 S2 H1
  have H := H2
  clear H2
  have done : ∀ w', Same w w' → Holds w' (blk b2 tR (cellsR y b ys.length d) :: blk b1 tR (cellsR z a xs.length c) :: L) → Cl Tryz.prog F.balerlaw44_looks #[] w' K := fun w' S' H' =>
    looks_spec H'.drop.drop fun w3 S3 H3 => post w3 (S'.trans S3) H3
  refine r_join1 (fun x w' => w2 = w' ∧ x = .bool (decide (30 < xs.length ∨ 30 < ys.length))) ?_ ?_
  rotate_left
  · repeat (first | refine r_nc ?_ | refine r_fo0 ?_ | refine r_fo ?_ | refine r_ke ?_ | refine r_lns ?_ | refine r_lnl ?_ | refine r_eql ?_ | refine r_neq ?_ | refine r_lss ?_ | refine r_leq ?_ | refine r_gtr ?_ | refine r_geq ?_ | refine r_seq0 ?_ | refine r_sne0 ?_ | refine r_seq ?_ | refine r_sne ?_ | (with_reducible refine r_notT ?_) | (with_reducible refine r_notF ?_) | refine r_not ?_ | (with_reducible refine r_bnST ?_) | (with_reducible refine r_bnSF ?_) | (with_reducible refine r_bnNT ?_) | (with_reducible refine r_bnNF ?_) | (with_reducible refine r_ex20 ?_) | (with_reducible refine r_ex21 ?_) | (with_reducible refine r_ex30 ?_) | (with_reducible refine r_ex31 ?_) | (with_reducible refine r_ex32 ?_) | (with_reducible refine r_vt ?_) | (with_reducible refine r_vf ?_) | refine r_bb ?_ | (with_reducible refine r_pkT ?_) | (with_reducible refine r_pkF ?_) | (with_reducible refine r_pkB ?_) | refine r_ex rfl ?_ | (refine r_ci64 (by omega) (by omega) ?_) | (refine r_ciu8 (by omega) (by omega) ?_) | (refine r_ciu32 (by omega) (by omega) ?_) | refine r_ci ?_ | (refine r_add1N (by omega) ?_) | (refine r_sub1N (by omega) (by omega) ?_) | (refine r_addN (by omega) ?_) | (refine r_add (by omega) (by omega) ?_) | (refine r_ixsN (by omega) ?_) | (refine r_iaaN (by omega) ?_) | (refine r_sub (by omega) (by omega) ?_) | (refine r_mul (by omega) (by omega) ?_) | (refine r_dr H ?_; clear H; intro _ S_ H; replace S := S.trans S_; clear S_) | refine r_ld 0 H rfl rfl ?_ | refine r_ld 1 H rfl rfl ?_ | refine r_ld 2 H rfl rfl ?_ | refine r_ld 3 H rfl rfl ?_ | refine r_ld 4 H rfl rfl ?_ | ((with_reducible refine r_vtD ?h ?_); (case h => omega)) | ((with_reducible refine r_vfD ?h ?_); (case h => omega)) | ((with_reducible refine r_vtE ?h ?_); (case h => omega)) | ((with_reducible refine r_vfE ?h ?_); (case h => omega)) | ((with_reducible refine r_vtN ?h ?_); (case h => omega)) | ((with_reducible refine r_vfN ?h ?_); (case h => omega)))
    refine r_ifD (fun h => ?_) fun h => ?_
    · refine r_ke ⟨rfl, ?_⟩
      rw [decide_eq_true (.inl (by omega))]
    · repeat (first | refine r_nc ?_ | refine r_fo0 ?_ | refine r_fo ?_ | refine r_ke ?_ | refine r_lns ?_ | refine r_lnl ?_ | refine r_eql ?_ | refine r_neq ?_ | refine r_lss ?_ | refine r_leq ?_ | refine r_gtr ?_ | refine r_geq ?_ | refine r_seq0 ?_ | refine r_sne0 ?_ | refine r_seq ?_ | refine r_sne ?_ | (with_reducible refine r_notT ?_) | (with_reducible refine r_notF ?_) | refine r_not ?_ | (with_reducible refine r_bnST ?_) | (with_reducible refine r_bnSF ?_) | (with_reducible refine r_bnNT ?_) | (with_reducible refine r_bnNF ?_) | (with_reducible refine r_ex20 ?_) | (with_reducible refine r_ex21 ?_) | (with_reducible refine r_ex30 ?_) | (with_reducible refine r_ex31 ?_) | (with_reducible refine r_ex32 ?_) | (with_reducible refine r_vt ?_) | (with_reducible refine r_vf ?_) | refine r_bb ?_ | (with_reducible refine r_pkT ?_) | (with_reducible refine r_pkF ?_) | (with_reducible refine r_pkB ?_) | refine r_ex rfl ?_ | (refine r_ci64 (by omega) (by omega) ?_) | (refine r_ciu8 (by omega) (by omega) ?_) | (refine r_ciu32 (by omega) (by omega) ?_) | refine r_ci ?_ | (refine r_add1N (by omega) ?_) | (refine r_sub1N (by omega) (by omega) ?_) | (refine r_addN (by omega) ?_) | (refine r_add (by omega) (by omega) ?_) | (refine r_ixsN (by omega) ?_) | (refine r_iaaN (by omega) ?_) | (refine r_sub (by omega) (by omega) ?_) | (refine r_mul (by omega) (by omega) ?_) | (refine r_dr H ?_; clear H; intro _ S_ H; replace S := S.trans S_; clear S_) | refine r_ld 0 H rfl rfl ?_ | refine r_ld 1 H rfl rfl ?_ | refine r_ld 2 H rfl rfl ?_ | refine r_ld 3 H rfl rfl ?_ | refine r_ld 4 H rfl rfl ?_ | ((with_reducible refine r_vtD ?h ?_); (case h => omega)) | ((with_reducible refine r_vfD ?h ?_); (case h => omega)) | ((with_reducible refine r_vtE ?h ?_); (case h => omega)) | ((with_reducible refine r_vfE ?h ?_); (case h => omega)) | ((with_reducible refine r_vtN ?h ?_); (case h => omega)) | ((with_reducible refine r_vfN ?h ?_); (case h => omega)))
      refine ⟨rfl, congrArg Value.bool ?_⟩
      rw [Bool.eq_iff_iff, decide_eq_true_iff, decide_eq_true_iff]
      omega
  rintro _ _ _ ⟨rfl, rfl⟩
  refine r_ifD (fun h => done _ S H) fun h => ?_
  repeat (first | refine r_nc ?_ | refine r_fo0 ?_ | refine r_fo ?_ | refine r_ke ?_ | refine r_lns ?_ | refine r_lnl ?_ | refine r_eql ?_ | refine r_neq ?_ | refine r_lss ?_ | refine r_leq ?_ | refine r_gtr ?_ | refine r_geq ?_ | refine r_seq0 ?_ | refine r_sne0 ?_ | refine r_seq ?_ | refine r_sne ?_ | (with_reducible refine r_notT ?_) | (with_reducible refine r_notF ?_) | refine r_not ?_ | (with_reducible refine r_bnST ?_) | (with_reducible refine r_bnSF ?_) | (with_reducible refine r_bnNT ?_) | (with_reducible refine r_bnNF ?_) | (with_reducible refine r_ex20 ?_) | (with_reducible refine r_ex21 ?_) | (with_reducible refine r_ex30 ?_) | (with_reducible refine r_ex31 ?_) | (with_reducible refine r_ex32 ?_) | (with_reducible refine r_vt ?_) | (with_reducible refine r_vf ?_) | refine r_bb ?_ | (with_reducible refine r_pkT ?_) | (with_reducible refine r_pkF ?_) | (with_reducible refine r_pkB ?_) | refine r_ex rfl ?_ | (refine r_ci64 (by omega) (by omega) ?_) | (refine r_ciu8 (by omega) (by omega) ?_) | (refine r_ciu32 (by omega) (by omega) ?_) | refine r_ci ?_ | (refine r_add1N (by omega) ?_) | (refine r_sub1N (by omega) (by omega) ?_) | (refine r_addN (by omega) ?_) | (refine r_add (by omega) (by omega) ?_) | (refine r_ixsN (by omega) ?_) | (refine r_iaaN (by omega) ?_) | (refine r_sub (by omega) (by omega) ?_) | (refine r_mul (by omega) (by omega) ?_) | (refine r_dr H ?_; clear H; intro _ S_ H; replace S := S.trans S_; clear S_) | refine r_ld 0 H rfl rfl ?_ | refine r_ld 1 H rfl rfl ?_ | refine r_ld 2 H rfl rfl ?_ | refine r_ld 3 H rfl rfl ?_ | refine r_ld 4 H rfl rfl ?_ | ((with_reducible refine r_vtD ?h ?_); (case h => omega)) | ((with_reducible refine r_vfD ?h ?_); (case h => omega)) | ((with_reducible refine r_vtE ?h ?_); (case h => omega)) | ((with_reducible refine r_vfE ?h ?_); (case h => omega)) | ((with_reducible refine r_vtN ?h ?_); (case h => omega)) | ((with_reducible refine r_vfN ?h ?_); (case h => omega)))
  refine r_bsK ((six z).map iv) H (e := tI) (by kernel_rfl) fun b5 w5 S5 H5 => ?_
  have S6 := S.trans S5
  clear H S5
  have hlen : (six z).length = 6 := rfl
  refine r_lnl ?_
  refine r_loop2 (fun x k w' => ∃ i : Nat, i ≤ 6 ∧ k = nv i ∧ x = .bool (decide (∀ v ∈ (six z).take i, v = 0)) ∧ (∀ v ∈ (six z).take i, 0 ≤ v ∧ v ≤ 1099511627776) ∧ Same w w' ∧ Holds w' (blk b5 tI ((six z).map iv) :: blk b2 tR (cellsR y b ys.length d) :: blk b1 tR (cellsR z a xs.length c) :: L))
    (fun _ k _ => 6 - (RowKit.intOf k).toNat) ⟨0, by omega, rfl, rfl, (fun v hv => by cases hv), S6, H5⟩ ?_
  clear H5 S6 S
  rintro _ _ _ w6 ⟨i, hi, rfl, rfl, hr, S, H⟩
  repeat (first | refine r_nc ?_ | refine r_fo0 ?_ | refine r_fo ?_ | refine r_ke ?_ | refine r_lns ?_ | refine r_lnl ?_ | refine r_eql ?_ | refine r_neq ?_ | refine r_lss ?_ | refine r_leq ?_ | refine r_gtr ?_ | refine r_geq ?_ | refine r_seq0 ?_ | refine r_sne0 ?_ | refine r_seq ?_ | refine r_sne ?_ | (with_reducible refine r_notT ?_) | (with_reducible refine r_notF ?_) | refine r_not ?_ | (with_reducible refine r_bnST ?_) | (with_reducible refine r_bnSF ?_) | (with_reducible refine r_bnNT ?_) | (with_reducible refine r_bnNF ?_) | (with_reducible refine r_ex20 ?_) | (with_reducible refine r_ex21 ?_) | (with_reducible refine r_ex30 ?_) | (with_reducible refine r_ex31 ?_) | (with_reducible refine r_ex32 ?_) | (with_reducible refine r_vt ?_) | (with_reducible refine r_vf ?_) | refine r_bb ?_ | (with_reducible refine r_pkT ?_) | (with_reducible refine r_pkF ?_) | (with_reducible refine r_pkB ?_) | refine r_ex rfl ?_ | (refine r_ci64 (by omega) (by omega) ?_) | (refine r_ciu8 (by omega) (by omega) ?_) | (refine r_ciu32 (by omega) (by omega) ?_) | refine r_ci ?_ | (refine r_add1N (by omega) ?_) | (refine r_sub1N (by omega) (by omega) ?_) | (refine r_addN (by omega) ?_) | (refine r_add (by omega) (by omega) ?_) | (refine r_ixsN (by omega) ?_) | (refine r_iaaN (by omega) ?_) | (refine r_sub (by omega) (by omega) ?_) | (refine r_mul (by omega) (by omega) ?_) | (refine r_dr H ?_; clear H; intro _ S_ H; replace S := S.trans S_; clear S_) | refine r_ld 0 H rfl rfl ?_ | refine r_ld 1 H rfl rfl ?_ | refine r_ld 2 H rfl rfl ?_ | refine r_ld 3 H rfl rfl ?_ | refine r_ld 4 H rfl rfl ?_ | ((with_reducible refine r_vtD ?h ?_); (case h => omega)) | ((with_reducible refine r_vfD ?h ?_); (case h => omega)) | ((with_reducible refine r_vtE ?h ?_); (case h => omega)) | ((with_reducible refine r_vfE ?h ?_); (case h => omega)) | ((with_reducible refine r_vtN ?h ?_); (case h => omega)) | ((with_reducible refine r_vfN ?h ?_); (case h => omega)))
  refine r_ifD (fun h3 => ?_) fun h3 => ?_
  · have hlt : i < (six z).length := by rw [hlen]; omega
    obtain ⟨x, hx⟩ : ∃ t, (six z)[i]? = some t := ⟨_, List.getElem?_eq_getElem hlt⟩
    refine r_ldR RowIn.own H hx (by omega) ?_
    refine r_join1 (fun v w' => w6 = w' ∧ v = .bool (decide (x < 0 ∨ 1099511627776 < x))) ?_ ?_
    rotate_left
    · repeat (first | refine r_nc ?_ | refine r_fo0 ?_ | refine r_fo ?_ | refine r_ke ?_ | refine r_lns ?_ | refine r_lnl ?_ | refine r_eql ?_ | refine r_neq ?_ | refine r_lss ?_ | refine r_leq ?_ | refine r_gtr ?_ | refine r_geq ?_ | refine r_seq0 ?_ | refine r_sne0 ?_ | refine r_seq ?_ | refine r_sne ?_ | (with_reducible refine r_notT ?_) | (with_reducible refine r_notF ?_) | refine r_not ?_ | (with_reducible refine r_bnST ?_) | (with_reducible refine r_bnSF ?_) | (with_reducible refine r_bnNT ?_) | (with_reducible refine r_bnNF ?_) | (with_reducible refine r_ex20 ?_) | (with_reducible refine r_ex21 ?_) | (with_reducible refine r_ex30 ?_) | (with_reducible refine r_ex31 ?_) | (with_reducible refine r_ex32 ?_) | (with_reducible refine r_vt ?_) | (with_reducible refine r_vf ?_) | refine r_bb ?_ | (with_reducible refine r_pkT ?_) | (with_reducible refine r_pkF ?_) | (with_reducible refine r_pkB ?_) | refine r_ex rfl ?_ | (refine r_ci64 (by omega) (by omega) ?_) | (refine r_ciu8 (by omega) (by omega) ?_) | (refine r_ciu32 (by omega) (by omega) ?_) | refine r_ci ?_ | (refine r_add1N (by omega) ?_) | (refine r_sub1N (by omega) (by omega) ?_) | (refine r_addN (by omega) ?_) | (refine r_add (by omega) (by omega) ?_) | (refine r_ixsN (by omega) ?_) | (refine r_iaaN (by omega) ?_) | (refine r_sub (by omega) (by omega) ?_) | (refine r_mul (by omega) (by omega) ?_) | (refine r_dr H ?_; clear H; intro _ S_ H; replace S := S.trans S_; clear S_) | refine r_ld 0 H rfl rfl ?_ | refine r_ld 1 H rfl rfl ?_ | refine r_ld 2 H rfl rfl ?_ | refine r_ld 3 H rfl rfl ?_ | refine r_ld 4 H rfl rfl ?_ | ((with_reducible refine r_vtD ?h ?_); (case h => omega)) | ((with_reducible refine r_vfD ?h ?_); (case h => omega)) | ((with_reducible refine r_vtE ?h ?_); (case h => omega)) | ((with_reducible refine r_vfE ?h ?_); (case h => omega)) | ((with_reducible refine r_vtN ?h ?_); (case h => omega)) | ((with_reducible refine r_vfN ?h ?_); (case h => omega)))
      refine r_ifD (fun h => ?_) fun h => ?_
      · refine r_ke ⟨rfl, ?_⟩
        rw [decide_eq_true (.inl h)]
      · repeat (first | refine r_nc ?_ | refine r_fo0 ?_ | refine r_fo ?_ | refine r_ke ?_ | refine r_lns ?_ | refine r_lnl ?_ | refine r_eql ?_ | refine r_neq ?_ | refine r_lss ?_ | refine r_leq ?_ | refine r_gtr ?_ | refine r_geq ?_ | refine r_seq0 ?_ | refine r_sne0 ?_ | refine r_seq ?_ | refine r_sne ?_ | (with_reducible refine r_notT ?_) | (with_reducible refine r_notF ?_) | refine r_not ?_ | (with_reducible refine r_bnST ?_) | (with_reducible refine r_bnSF ?_) | (with_reducible refine r_bnNT ?_) | (with_reducible refine r_bnNF ?_) | (with_reducible refine r_ex20 ?_) | (with_reducible refine r_ex21 ?_) | (with_reducible refine r_ex30 ?_) | (with_reducible refine r_ex31 ?_) | (with_reducible refine r_ex32 ?_) | (with_reducible refine r_vt ?_) | (with_reducible refine r_vf ?_) | refine r_bb ?_ | (with_reducible refine r_pkT ?_) | (with_reducible refine r_pkF ?_) | (with_reducible refine r_pkB ?_) | refine r_ex rfl ?_ | (refine r_ci64 (by omega) (by omega) ?_) | (refine r_ciu8 (by omega) (by omega) ?_) | (refine r_ciu32 (by omega) (by omega) ?_) | refine r_ci ?_ | (refine r_add1N (by omega) ?_) | (refine r_sub1N (by omega) (by omega) ?_) | (refine r_addN (by omega) ?_) | (refine r_add (by omega) (by omega) ?_) | (refine r_ixsN (by omega) ?_) | (refine r_iaaN (by omega) ?_) | (refine r_sub (by omega) (by omega) ?_) | (refine r_mul (by omega) (by omega) ?_) | (refine r_dr H ?_; clear H; intro _ S_ H; replace S := S.trans S_; clear S_) | refine r_ld 0 H rfl rfl ?_ | refine r_ld 1 H rfl rfl ?_ | refine r_ld 2 H rfl rfl ?_ | refine r_ld 3 H rfl rfl ?_ | refine r_ld 4 H rfl rfl ?_ | ((with_reducible refine r_vtD ?h ?_); (case h => omega)) | ((with_reducible refine r_vfD ?h ?_); (case h => omega)) | ((with_reducible refine r_vtE ?h ?_); (case h => omega)) | ((with_reducible refine r_vfE ?h ?_); (case h => omega)) | ((with_reducible refine r_vtN ?h ?_); (case h => omega)) | ((with_reducible refine r_vfN ?h ?_); (case h => omega)))
        refine ⟨rfl, congrArg Value.bool ?_⟩
        rw [Bool.eq_iff_iff, decide_eq_true_iff, decide_eq_true_iff]
        omega
    rintro _ _ _ ⟨rfl, rfl⟩
    refine r_ifD (fun h => done _ S H.drop) fun h => ?_
    have hr2 : ∀ v ∈ (six z).take (i + 1), 0 ≤ v ∧ v ≤ 1099511627776 := by
      rw [take_next hx]
      intro v hv
      rcases List.mem_append.1 hv with hv | hv
      · exact hr v hv
      · rw [List.mem_singleton.1 hv]; omega
    have hm : 6 - (RowKit.intOf (nv (i + 1))).toNat < 6 - (RowKit.intOf (nv i)).toNat := by
      simp only [RowKit.intOf, Int.toNat_natCast]
      omega
    refine r_ifD (fun hz => ?_) fun hz => ?_
    · repeat (first | refine r_nc ?_ | refine r_fo0 ?_ | refine r_fo ?_ | refine r_ke ?_ | refine r_lns ?_ | refine r_lnl ?_ | refine r_eql ?_ | refine r_neq ?_ | refine r_lss ?_ | refine r_leq ?_ | refine r_gtr ?_ | refine r_geq ?_ | refine r_seq0 ?_ | refine r_sne0 ?_ | refine r_seq ?_ | refine r_sne ?_ | (with_reducible refine r_notT ?_) | (with_reducible refine r_notF ?_) | refine r_not ?_ | (with_reducible refine r_bnST ?_) | (with_reducible refine r_bnSF ?_) | (with_reducible refine r_bnNT ?_) | (with_reducible refine r_bnNF ?_) | (with_reducible refine r_ex20 ?_) | (with_reducible refine r_ex21 ?_) | (with_reducible refine r_ex30 ?_) | (with_reducible refine r_ex31 ?_) | (with_reducible refine r_ex32 ?_) | (with_reducible refine r_vt ?_) | (with_reducible refine r_vf ?_) | refine r_bb ?_ | (with_reducible refine r_pkT ?_) | (with_reducible refine r_pkF ?_) | (with_reducible refine r_pkB ?_) | refine r_ex rfl ?_ | (refine r_ci64 (by omega) (by omega) ?_) | (refine r_ciu8 (by omega) (by omega) ?_) | (refine r_ciu32 (by omega) (by omega) ?_) | refine r_ci ?_ | (refine r_add1N (by omega) ?_) | (refine r_sub1N (by omega) (by omega) ?_) | (refine r_addN (by omega) ?_) | (refine r_add (by omega) (by omega) ?_) | (refine r_ixsN (by omega) ?_) | (refine r_iaaN (by omega) ?_) | (refine r_sub (by omega) (by omega) ?_) | (refine r_mul (by omega) (by omega) ?_) | (refine r_dr H ?_; clear H; intro _ S_ H; replace S := S.trans S_; clear S_) | refine r_ld 0 H rfl rfl ?_ | refine r_ld 1 H rfl rfl ?_ | refine r_ld 2 H rfl rfl ?_ | refine r_ld 3 H rfl rfl ?_ | refine r_ld 4 H rfl rfl ?_ | ((with_reducible refine r_vtD ?h ?_); (case h => omega)) | ((with_reducible refine r_vfD ?h ?_); (case h => omega)) | ((with_reducible refine r_vtE ?h ?_); (case h => omega)) | ((with_reducible refine r_vfE ?h ?_); (case h => omega)) | ((with_reducible refine r_vtN ?h ?_); (case h => omega)) | ((with_reducible refine r_vfN ?h ?_); (case h => omega)))
      refine ⟨⟨i + 1, by omega, rfl, ?_, hr2, S, H⟩, hm⟩
      refine congrArg Value.bool ?_
      rw [take_next hx, Bool.eq_iff_iff, beq_iff_eq, decide_eq_true_iff]
      constructor
      · intro e v hv
        rcases List.mem_append.1 hv with hv | hv
        · exact hz v hv
        · rw [List.mem_singleton.1 hv]; exact e
      · intro e
        exact e x (List.mem_append_right _ (List.mem_singleton.2 rfl))
    · repeat (first | refine r_nc ?_ | refine r_fo0 ?_ | refine r_fo ?_ | refine r_ke ?_ | refine r_lns ?_ | refine r_lnl ?_ | refine r_eql ?_ | refine r_neq ?_ | refine r_lss ?_ | refine r_leq ?_ | refine r_gtr ?_ | refine r_geq ?_ | refine r_seq0 ?_ | refine r_sne0 ?_ | refine r_seq ?_ | refine r_sne ?_ | (with_reducible refine r_notT ?_) | (with_reducible refine r_notF ?_) | refine r_not ?_ | (with_reducible refine r_bnST ?_) | (with_reducible refine r_bnSF ?_) | (with_reducible refine r_bnNT ?_) | (with_reducible refine r_bnNF ?_) | (with_reducible refine r_ex20 ?_) | (with_reducible refine r_ex21 ?_) | (with_reducible refine r_ex30 ?_) | (with_reducible refine r_ex31 ?_) | (with_reducible refine r_ex32 ?_) | (with_reducible refine r_vt ?_) | (with_reducible refine r_vf ?_) | refine r_bb ?_ | (with_reducible refine r_pkT ?_) | (with_reducible refine r_pkF ?_) | (with_reducible refine r_pkB ?_) | refine r_ex rfl ?_ | (refine r_ci64 (by omega) (by omega) ?_) | (refine r_ciu8 (by omega) (by omega) ?_) | (refine r_ciu32 (by omega) (by omega) ?_) | refine r_ci ?_ | (refine r_add1N (by omega) ?_) | (refine r_sub1N (by omega) (by omega) ?_) | (refine r_addN (by omega) ?_) | (refine r_add (by omega) (by omega) ?_) | (refine r_ixsN (by omega) ?_) | (refine r_iaaN (by omega) ?_) | (refine r_sub (by omega) (by omega) ?_) | (refine r_mul (by omega) (by omega) ?_) | (refine r_dr H ?_; clear H; intro _ S_ H; replace S := S.trans S_; clear S_) | refine r_ld 0 H rfl rfl ?_ | refine r_ld 1 H rfl rfl ?_ | refine r_ld 2 H rfl rfl ?_ | refine r_ld 3 H rfl rfl ?_ | refine r_ld 4 H rfl rfl ?_ | ((with_reducible refine r_vtD ?h ?_); (case h => omega)) | ((with_reducible refine r_vfD ?h ?_); (case h => omega)) | ((with_reducible refine r_vtE ?h ?_); (case h => omega)) | ((with_reducible refine r_vfE ?h ?_); (case h => omega)) | ((with_reducible refine r_vtN ?h ?_); (case h => omega)) | ((with_reducible refine r_vfN ?h ?_); (case h => omega)))
      refine ⟨⟨i + 1, by omega, rfl, ?_, hr2, S, H⟩, hm⟩
      refine congrArg Value.bool ?_
      rw [take_next hx]
      symm
      rw [decide_eq_false_iff_not]
      exact fun e => hz fun v hv => e v (List.mem_append_left _ hv)
  have hi6 : i = 6 := by omega
  subst hi6
  rw [show (six z).take 6 = six z from rfl] at hr
  repeat (first | refine r_nc ?_ | refine r_fo0 ?_ | refine r_fo ?_ | refine r_ke ?_ | refine r_lns ?_ | refine r_lnl ?_ | refine r_eql ?_ | refine r_neq ?_ | refine r_lss ?_ | refine r_leq ?_ | refine r_gtr ?_ | refine r_geq ?_ | refine r_seq0 ?_ | refine r_sne0 ?_ | refine r_seq ?_ | refine r_sne ?_ | (with_reducible refine r_notT ?_) | (with_reducible refine r_notF ?_) | refine r_not ?_ | (with_reducible refine r_bnST ?_) | (with_reducible refine r_bnSF ?_) | (with_reducible refine r_bnNT ?_) | (with_reducible refine r_bnNF ?_) | (with_reducible refine r_ex20 ?_) | (with_reducible refine r_ex21 ?_) | (with_reducible refine r_ex30 ?_) | (with_reducible refine r_ex31 ?_) | (with_reducible refine r_ex32 ?_) | (with_reducible refine r_vt ?_) | (with_reducible refine r_vf ?_) | refine r_bb ?_ | (with_reducible refine r_pkT ?_) | (with_reducible refine r_pkF ?_) | (with_reducible refine r_pkB ?_) | refine r_ex rfl ?_ | (refine r_ci64 (by omega) (by omega) ?_) | (refine r_ciu8 (by omega) (by omega) ?_) | (refine r_ciu32 (by omega) (by omega) ?_) | refine r_ci ?_ | (refine r_add1N (by omega) ?_) | (refine r_sub1N (by omega) (by omega) ?_) | (refine r_addN (by omega) ?_) | (refine r_add (by omega) (by omega) ?_) | (refine r_ixsN (by omega) ?_) | (refine r_iaaN (by omega) ?_) | (refine r_sub (by omega) (by omega) ?_) | (refine r_mul (by omega) (by omega) ?_) | (refine r_dr H ?_; clear H; intro _ S_ H; replace S := S.trans S_; clear S_) | refine r_ld 0 H rfl rfl ?_ | refine r_ld 1 H rfl rfl ?_ | refine r_ld 2 H rfl rfl ?_ | refine r_ld 3 H rfl rfl ?_ | refine r_ld 4 H rfl rfl ?_ | ((with_reducible refine r_vtD ?h ?_); (case h => omega)) | ((with_reducible refine r_vfD ?h ?_); (case h => omega)) | ((with_reducible refine r_vtE ?h ?_); (case h => omega)) | ((with_reducible refine r_vfE ?h ?_); (case h => omega)) | ((with_reducible refine r_vtN ?h ?_); (case h => omega)) | ((with_reducible refine r_vfN ?h ?_); (case h => omega)))
  refine r_bsK ((six y).map iv) H (e := tI) (by kernel_rfl) fun b7 w7 S7 H7 => ?_
  replace S := S.trans S7
  clear H S7
  have H := H7
  clear H7
  refine r_join1 (fun v w' => Same w w' ∧ Holds w' (blk b7 tI ((six y).map iv) :: blk b5 tI ((six z).map iv) :: blk b2 tR (cellsR y b ys.length d) :: blk b1 tR (cellsR z a xs.length c) :: L) ∧ v = .bool (decide (seven z = seven y ∧ xs = ys))) ?_ ?_
  rotate_left
  · have hs : seven z = seven y ↔ six z = six y ∧ z.lo = y.lo := by
      simp only [seven, six, List.cons.injEq, and_true, and_assoc]
    refine Ints_spec (xs := six z) (ys := six y) (by rw [hlen]; omega) H RowIn.own.up RowIn.own fun w8 S8 H8 => ?_
    replace S := S.trans S8
    clear H S8
    have H := H8
    clear H8
    refine r_ifD (fun h => ?_) fun h => ?_
    · repeat (first | refine r_nc ?_ | refine r_fo0 ?_ | refine r_fo ?_ | refine r_ke ?_ | refine r_lns ?_ | refine r_lnl ?_ | refine r_eql ?_ | refine r_neq ?_ | refine r_lss ?_ | refine r_leq ?_ | refine r_gtr ?_ | refine r_geq ?_ | refine r_seq0 ?_ | refine r_sne0 ?_ | refine r_seq ?_ | refine r_sne ?_ | (with_reducible refine r_notT ?_) | (with_reducible refine r_notF ?_) | refine r_not ?_ | (with_reducible refine r_bnST ?_) | (with_reducible refine r_bnSF ?_) | (with_reducible refine r_bnNT ?_) | (with_reducible refine r_bnNF ?_) | (with_reducible refine r_ex20 ?_) | (with_reducible refine r_ex21 ?_) | (with_reducible refine r_ex30 ?_) | (with_reducible refine r_ex31 ?_) | (with_reducible refine r_ex32 ?_) | (with_reducible refine r_vt ?_) | (with_reducible refine r_vf ?_) | refine r_bb ?_ | (with_reducible refine r_pkT ?_) | (with_reducible refine r_pkF ?_) | (with_reducible refine r_pkB ?_) | refine r_ex rfl ?_ | (refine r_ci64 (by omega) (by omega) ?_) | (refine r_ciu8 (by omega) (by omega) ?_) | (refine r_ciu32 (by omega) (by omega) ?_) | refine r_ci ?_ | (refine r_add1N (by omega) ?_) | (refine r_sub1N (by omega) (by omega) ?_) | (refine r_addN (by omega) ?_) | (refine r_add (by omega) (by omega) ?_) | (refine r_ixsN (by omega) ?_) | (refine r_iaaN (by omega) ?_) | (refine r_sub (by omega) (by omega) ?_) | (refine r_mul (by omega) (by omega) ?_) | (refine r_dr H ?_; clear H; intro _ S_ H; replace S := S.trans S_; clear S_) | refine r_ld 0 H rfl rfl ?_ | refine r_ld 1 H rfl rfl ?_ | refine r_ld 2 H rfl rfl ?_ | refine r_ld 3 H rfl rfl ?_ | refine r_ld 4 H rfl rfl ?_ | ((with_reducible refine r_vtD ?h ?_); (case h => omega)) | ((with_reducible refine r_vfD ?h ?_); (case h => omega)) | ((with_reducible refine r_vtE ?h ?_); (case h => omega)) | ((with_reducible refine r_vfE ?h ?_); (case h => omega)) | ((with_reducible refine r_vtN ?h ?_); (case h => omega)) | ((with_reducible refine r_vfN ?h ?_); (case h => omega)))
      refine r_ifE (fun h2 => ?_) fun h2 => ?_
      · repeat (first | refine r_nc ?_ | refine r_fo0 ?_ | refine r_fo ?_ | refine r_ke ?_ | refine r_lns ?_ | refine r_lnl ?_ | refine r_eql ?_ | refine r_neq ?_ | refine r_lss ?_ | refine r_leq ?_ | refine r_gtr ?_ | refine r_geq ?_ | refine r_seq0 ?_ | refine r_sne0 ?_ | refine r_seq ?_ | refine r_sne ?_ | (with_reducible refine r_notT ?_) | (with_reducible refine r_notF ?_) | refine r_not ?_ | (with_reducible refine r_bnST ?_) | (with_reducible refine r_bnSF ?_) | (with_reducible refine r_bnNT ?_) | (with_reducible refine r_bnNF ?_) | (with_reducible refine r_ex20 ?_) | (with_reducible refine r_ex21 ?_) | (with_reducible refine r_ex30 ?_) | (with_reducible refine r_ex31 ?_) | (with_reducible refine r_ex32 ?_) | (with_reducible refine r_vt ?_) | (with_reducible refine r_vf ?_) | refine r_bb ?_ | (with_reducible refine r_pkT ?_) | (with_reducible refine r_pkF ?_) | (with_reducible refine r_pkB ?_) | refine r_ex rfl ?_ | (refine r_ci64 (by omega) (by omega) ?_) | (refine r_ciu8 (by omega) (by omega) ?_) | (refine r_ciu32 (by omega) (by omega) ?_) | refine r_ci ?_ | (refine r_add1N (by omega) ?_) | (refine r_sub1N (by omega) (by omega) ?_) | (refine r_addN (by omega) ?_) | (refine r_add (by omega) (by omega) ?_) | (refine r_ixsN (by omega) ?_) | (refine r_iaaN (by omega) ?_) | (refine r_sub (by omega) (by omega) ?_) | (refine r_mul (by omega) (by omega) ?_) | (refine r_dr H ?_; clear H; intro _ S_ H; replace S := S.trans S_; clear S_) | refine r_ld 0 H rfl rfl ?_ | refine r_ld 1 H rfl rfl ?_ | refine r_ld 2 H rfl rfl ?_ | refine r_ld 3 H rfl rfl ?_ | refine r_ld 4 H rfl rfl ?_ | ((with_reducible refine r_vtD ?h ?_); (case h => omega)) | ((with_reducible refine r_vfD ?h ?_); (case h => omega)) | ((with_reducible refine r_vtE ?h ?_); (case h => omega)) | ((with_reducible refine r_vfE ?h ?_); (case h => omega)) | ((with_reducible refine r_vtN ?h ?_); (case h => omega)) | ((with_reducible refine r_vfN ?h ?_); (case h => omega)))
        refine Ints_spec (by omega) H ha.up.up.up.up hb.up.up.up.up fun w9 S9 H9 => ?_
        refine r_ke ⟨S.trans S9, H9, congrArg Value.bool ?_⟩
        rw [Bool.eq_iff_iff, decide_eq_true_iff, decide_eq_true_iff]
        exact ⟨fun e => ⟨hs.2 ⟨h, h2⟩, e⟩, fun e => e.2⟩
      · refine r_ke ⟨S, H, ?_⟩
        rw [decide_eq_false (fun e => h2 (hs.1 e.1).2)]
    · refine r_ke ⟨S, H, ?_⟩
      rw [decide_eq_false (fun e => h (hs.1 e.1).1)]
  clear H S
  rintro _ _ w8 ⟨S, H, rfl⟩
  refine r_ldA 3 H (cellsR z a xs.length c) rfl rfl rfl ?_
  refine r_ldA 2 H (cellsR y b ys.length d) rfl rfl rfl ?_
  refine Same_spec (by omega) H ha.up.up.up.up hb.up.up.up.up fun w9 S9 H9 => ?_
  refine r_bb ?_
  simp only [beq_self_eq_true, Bool.false_eq_true, if_false]
  refine r_vt ?_
  refine r_ldA 3 H9 (cellsR z a xs.length c) rfl rfl rfl ?_
  refine r_ldA 3 H9 (cellsR z a xs.length c) rfl rfl rfl ?_
  refine Same_spec (by omega) H9 ha.up.up.up.up ha.up.up.up.up fun w10 S10 H10 => ?_
  rw [decide_eq_true ⟨rfl, rfl⟩]
  refine r_vt ?_
  refine r_ldA 3 H10 (cellsR z a xs.length c) rfl rfl rfl ?_
  refine Clean_spec H10 hr fun w11 S11 H11 => ?_
  refine r_bb ?_
  have hcl : (z.me + z.ke + z.st + z.wi + z.jo + z.se == 0) = decide (∀ v ∈ six z, v = 0) := by
    rw [Bool.eq_iff_iff, beq_iff_eq, decide_eq_true_iff]
    simp only [six, List.mem_cons, List.not_mem_nil, or_false, forall_eq_or_imp, forall_eq] at hr ⊢
    omega
  rw [show (six z).take 6 = six z from rfl, hcl]
  simp only [beq_self_eq_true, Bool.false_eq_true, if_false]
  refine r_vt ?_
  exact done w11 (((S.trans S9).trans S10).trans S11) H11.drop.drop
theorem AuditSame_law (H : Holds w L) (a0 : Option Addr) (xs0 : List Int) (c0 : Nat) (z0 : Rp) (a1 : Option Addr) (xs1 : List Int) (c1 : Nat) (z1 : Rp) (h0 : RowIn L a0 xs0) (h1 : RowIn L a1 xs1) (post : ∀ w', Same w w' → Holds w' L → K (.bool true) w') :
    Cl Tryz.prog F.balerlaw44_AuditSame #[.agg (cellsR z0 a0 xs0.length c0).toArray, .agg (cellsR z1 a1 xs1.length c1).toArray] w K := AuditSame_spec H h0 h1 post
/-! The opener. -/
theorem cell_of {H : Type} {enc : TypeId × Value → H} {P : Program} {w : World} {base : Nat} {spare : Nat → Bool} {held : Bool} {t : TypeId} {fs : Array Field} {fuel : Nat} {cs : List Value} {x : DataW H × List MemPlace}
    (ht : P.underlying t = some (.struct fs)) (h : DataW.trod enc P w base spare held fuel t cs = some x) (i : Nat) (f : Field) (hi : fs[i]? = some f) (ho : f.offset = i) (hc : P.cellsOf f.type = 1) (hl : i < P.cellsOf t) :
    ∃ c y n, cs[i]? = some c ∧ DataW.trod enc P w base spare held n f.type [c] = some y := by
  obtain ⟨xs, n, _, _, hlen, hxl, hf⟩ := DataW.trod_struct ht h
  have h1 := hf i f hi
  rw [ho, hc] at h1
  have hlt : i < xs.length := by
    rw [hxl]; exact (Array.getElem?_eq_some_iff.1 hi).1
  have hcl : i < cs.length := by omega
  refine ⟨cs[i], xs[i], n, List.getElem?_eq_getElem hcl, ?_⟩
  rw [List.getElem?_eq_getElem hlt] at h1
  rw [← h1]
  congr 1
  rw [List.drop_eq_getElem_cons hcl]
  rfl
theorem list8 {α : Type} {l : List α} {a b c d e f g h : α} (hl : l.length = 8) (h0 : l[0]? = some a) (h1 : l[1]? = some b) (h2 : l[2]? = some c) (h3 : l[3]? = some d) (h4 : l[4]? = some e) (h5 : l[5]? = some f) (h6 : l[6]? = some g) (h7 : l[7]? = some h) : l = [a, b, c, d, e, f, g, h] := by
  match l, hl with
  | [x0, x1, x2, x3, x4, x5, x6, x7], _ => simp at h0 h1 h2 h3 h4 h5 h6 h7; simp [h0, h1, h2, h3, h4, h5, h6, h7]
set_option maxRecDepth 100000 in
theorem report_open {H : Type} {enc : TypeId × Value → H} {W : World} {base : Nat} {v : Value} {d : DataW H} {ps : List MemPlace} (hval : Value.okWide Tryz.prog W .any base tR v)
    (h : DataW.Trod enc Tryz.prog W 0 (fun _ => true) true tR v d ps) : ∃ (a : Option Addr) (xs : List Int) (c : Nat) (z : Rp), v = .agg (cellsR z a xs.length c).toArray ∧ RowIn [whole W] a xs := by
  have hu := Tryz.underlying34
  obtain ⟨⟨cs⟩, rfl, hsz⟩ := WideShapes.okWide_struct hu hval
  obtain ⟨fuel, h⟩ := h
  replace h : DataW.trod enc Tryz.prog W 0 (fun _ => true) true fuel tR cs = some (d, ps) := h
  obtain ⟨_, _, _, _, hlen, _, _⟩ := DataW.trod_struct hu h
  obtain ⟨c0, y0, n0, e0, h0⟩ := cell_of hu h 0 _ rfl rfl (by kernel_rfl) (of_decide_eq_true (by kernel_rfl))
  obtain ⟨c1, y1, n1, e1, h1⟩ := cell_of hu h 1 _ rfl rfl (by kernel_rfl) (of_decide_eq_true (by kernel_rfl))
  obtain ⟨c2, y2, n2, e2, h2⟩ := cell_of hu h 2 _ rfl rfl (by kernel_rfl) (of_decide_eq_true (by kernel_rfl))
  obtain ⟨c3, y3, n3, e3, h3⟩ := cell_of hu h 3 _ rfl rfl (by kernel_rfl) (of_decide_eq_true (by kernel_rfl))
  obtain ⟨c4, y4, n4, e4, h4⟩ := cell_of hu h 4 _ rfl rfl (by kernel_rfl) (of_decide_eq_true (by kernel_rfl))
  obtain ⟨c5, y5, n5, e5, h5⟩ := cell_of hu h 5 _ rfl rfl (by kernel_rfl) (of_decide_eq_true (by kernel_rfl))
  obtain ⟨c6, y6, n6, e6, h6⟩ := cell_of hu h 6 _ rfl rfl (by kernel_rfl) (of_decide_eq_true (by kernel_rfl))
  obtain ⟨c7, y7, n7, e7, h7⟩ := cell_of hu h 7 _ rfl rfl (by kernel_rfl) (of_decide_eq_true (by kernel_rfl))
  obtain ⟨z0, g0, _⟩ := DataW.trod_int Tryz.underlying3 h0
  obtain ⟨z1, g1, _⟩ := DataW.trod_int Tryz.underlying3 h1
  obtain ⟨z2, g2, _⟩ := DataW.trod_int Tryz.underlying3 h2
  obtain ⟨z3, g3, _⟩ := DataW.trod_int Tryz.underlying3 h3
  obtain ⟨z4, g4, _⟩ := DataW.trod_int Tryz.underlying3 h4
  obtain ⟨z5, g5, _⟩ := DataW.trod_int Tryz.underlying3 h5
  obtain ⟨z6, g6, _⟩ := DataW.trod_int Tryz.underlying3 h6
  simp only [List.cons.injEq, and_true] at g0 g1 g2 g3 g4 g5 g6
  subst g0 g1 g2 g3 g4 g5 g6
  have fin : ∀ (a : Option Addr) (l c : Nat), c7 = .slice a l c → cs = cellsR ⟨z0, z1, z2, z3, z4, z5, z6⟩ a l c := fun a l c e => by
    subst e
    exact list8 (hlen.trans (by kernel_rfl)) e0 e1 e2 e3 e4 e5 e6 e7
  rcases Deep.open_slice Tryz.underlying32 h7 with ⟨g0, _⟩ | ⟨a, len, cap, m, n, D, Pl, g0, _, hlc, _, hm, _, hall⟩
  · simp only [List.cons.injEq, and_true] at g0
    refine ⟨none, [], 0, ⟨z0, z1, z2, z3, z4, z5, z6⟩, by rw [fin _ _ _ g0]; rfl, ?_⟩
    intro w' H' i t hi
    simp at hi
  · simp only [List.cons.injEq, and_true] at g0
    have h1 : Tryz.prog.cellsOf tI = 1 := by kernel_rfl
    have hlm : len ≤ m := by rw [hm]; split <;> omega
    have each : ∀ i, i < m → ∃ t : Int, W.cell? (a.add i) = some (iv t) := by
      intro i hi
      obtain ⟨cs', hc1, hc2⟩ := hall i hi
      obtain ⟨t, gt, _⟩ := DataW.trod_int Tryz.underlying3 hc2
      rw [h1, Nat.mul_one] at hc1
      obtain ⟨_, _, hc3⟩ := World.cells?_some hc1
      refine ⟨t, ?_⟩
      have := hc3 0 (by omega)
      rw [show ∀ p : Addr, p.add 0 = p from fun p => by unfold Addr.add; simp] at this
      rw [this, gt]
      rfl
    obtain ⟨f, hf⟩ := Deep.choose_lt each
    refine ⟨some a, (List.range len).map f, cap, ⟨z0, z1, z2, z3, z4, z5, z6⟩, by rw [fin _ _ _ g0]; simp, ?_⟩
    intro w' H' i t hi
    rw [List.getElem?_map] at hi
    by_cases hil : i < len
    · rw [List.getElem?_range hil] at hi
      simp only [Option.map_some, Option.some.injEq] at hi
      subst hi
      refine ⟨a, rfl, ?_⟩
      have h7 := hf i (by omega)
      obtain ⟨g, hg, hgs, _⟩ := H'
      unfold World.cell? at h7 ⊢
      cases hb : W.heap[(a.add i).block]? with
      | none => rw [hb] at h7; cases h7
      | some o =>
        rw [hb] at h7
        have := hgs _ _ (hg _ _ hb)
        rw [show w'.heap[(a.add i).block]? = some o from this]
        exact h7
    · rw [List.getElem?_eq_none (by simpa using hil)] at hi
      cases hi
end X44
end Go.Proofs.YtdbdclmeiodghaaGreatDoor
