/- What is common: types of rows; slices.Clone. -/
import Derived.Test.YtkjelcjffbcenaaGreatDoorSu
import Derived.Test.YtkjelcjffbcenaaGreatDoorFm
set_option linter.unusedVariables false
set_option linter.unusedSimpArgs false
namespace Go.Proofs.YtkjelcjffbcenaaGreatDoor
open Go Go.Vc
attribute [local irreducible] Go.Vc.Nc Go.Vc.Ld Go.Vc.LdA Go.Vc.St Go.Vc.StA Go.Vc.Fo Go.Vc.Iaa Go.Vc.Ias Go.Vc.Ixs Go.Vc.Ixa Go.Vc.Fd Go.Vc.FdA Go.Vc.Bp Go.Vc.Bb Go.Vc.Bn Go.Vc.Up Go.Vc.Ci Go.Vc.Lns Go.Vc.Lnl Go.Vc.Ex Go.Vc.Sst Go.Vc.Ssl Go.Vc.New Go.Vc.Vif Go.Vc.VJoin Go.Vc.VLoop Go.Vc.KE Go.Vc.Dr Go.Vc.Rk Go.Vc.Cl Go.Vc.Cx Go.Vc.Inv Go.Vc.Be Go.Vc.Cv Go.Vc.Cw Go.Vc.Mf Go.Vc.Sl Go.Vc.Lk Go.Vc.Bd Go.Vc.Bs Go.Vc.Ms Go.Vc.Mm Go.Vc.Mu Go.Vc.Me Go.Vc.Es Go.Vc.Rg Go.Vc.Nx Go.Vc.Ta Go.Vc.Ap Go.Vc.Usd Go.Vc.Ust Go.Vc.Cp Go.Vc.Ln Go.Vc.Bc Go.Vc.Bmin Go.Vc.Bmax Go.Vc.Bdel Go.Vc.Bclr Go.Vc.Pk
instance rowI : Row Tryz.prog 62 3 (.int .i64 0) := ⟨by kernel_rfl, ⟨Tryz.t3, by kernel_rfl, by kernel_rfl, by decide, by kernel_rfl⟩, rfl⟩
instance rowB : Row Tryz.prog 92 5 (.int .u8 0) := ⟨by kernel_rfl, ⟨Tryz.t5, by kernel_rfl, by kernel_rfl, by decide, by kernel_rfl⟩, rfl⟩
instance bytesB : Bytes Tryz.prog 92 5 9 := ⟨by kernel_rfl, by kernel_rfl, by kernel_rfl⟩
abbrev tI : Nat := 3
abbrev tB : Nat := 5
abbrev pt (b : Nat) : Value := .pointer (some ⟨b, 0, none⟩)
section
variable {w : World} {L : List HProp} {K : Value → World → Prop}
theorem sg_nv (n : Nat) : sg (nv n) = true := rfl
theorem eq_nilI (oa : Option Addr) (l c : Nat) {K : Value → Prop} (k : K (.bool oa.isNone)) : Be Tryz.prog .eql 62 (.tmp 3) (.const (.slice none 0 0)) (.slice oa l c) (.slice none 0 0) w K := by
  cases oa with
  | none => exact r_be (v := .bool true) (by kernel_rfl) k
  | some a => exact r_be (v := .bool false) (by kernel_rfl) k
theorem Clone_spec (H : Holds w L) (j : Nat) {v : Value} {xs : List Nat} (hj : L[j]? = some (SL nv tI v xs)) (hn : xs.length ≤ 1000000000) (k : ∀ v' w', Same w w' → Holds w' (SL nv tI v' xs :: L) → K v' w') : Cl Tryz.prog F.slices_Clone_int_int #[v] w K := by
  refine Tie.slices_Clone_int_int ?_
  unfold Vcf.slices_Clone_int_int
  have H0 := H
  obtain ⟨oa, sp, rfl, H1⟩ := H0.open j hj
  refine eq_nilI _ _ _ ?_
  cases oa with
  | none =>
    obtain ⟨g, ⟨h2, _⟩, _⟩ := H1.front j (set_get hj)
    subst h2
    exact r_vt (k _ _ (.refl _) (H.nilSL nv tI))
  | some a =>
    refine r_vf ?_
    refine r_bsK (e := tI) [] H (by kernel_rfl) fun b w1 S1 H1 => ?_
    have H2 := SL_of_blk (f := nv) 0 [] H1 rfl
    rw [List.set_cons_zero] at H2
    refine r_apS (xs := []) H2 0 (j + 1) (by omega) rfl (by rw [List.getElem?_cons_succ]; exact hj) sg_nv (by simp only [List.length_nil]; omega) fun v' w2 S2 H3 => ?_
    rw [List.set_cons_zero, List.nil_append] at H3
    exact k _ _ (S1.trans S2) H3
end
end Go.Proofs.YtkjelcjffbcenaaGreatDoor
