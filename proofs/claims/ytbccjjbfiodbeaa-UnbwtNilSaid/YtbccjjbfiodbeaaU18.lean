/- Chapter 18: the inverter's methods, each once. -/
import Derived.Test.YtbccjjbfiodbeaaSq
import Derived.Test.YtbccjjbfiodbeaaFm
import Derived.Test.YtbccjjbfiodbeaaM18
set_option linter.unusedVariables false
set_option linter.unusedSimpArgs false
namespace Go.Proofs.Ytbccjjbfiodbeaa
open Go Go.Vc
attribute [local irreducible] Go.Vc.Nc Go.Vc.Ld Go.Vc.LdA Go.Vc.St Go.Vc.StA Go.Vc.Fo Go.Vc.Iaa Go.Vc.Ias Go.Vc.Ixs Go.Vc.Ixa Go.Vc.Fd Go.Vc.FdA Go.Vc.Bp Go.Vc.Bb Go.Vc.Bn Go.Vc.Up Go.Vc.Ci Go.Vc.Lns Go.Vc.Lnl Go.Vc.Ex Go.Vc.Sst Go.Vc.Ssl Go.Vc.New Go.Vc.Vif Go.Vc.VJoin Go.Vc.VLoop Go.Vc.KE Go.Vc.Dr Go.Vc.Rk Go.Vc.Cl Go.Vc.Inv Go.Vc.Be Go.Vc.Cv Go.Vc.Cw Go.Vc.Mf Go.Vc.Sl Go.Vc.Lk Go.Vc.Bd Go.Vc.Bs Go.Vc.Ms Go.Vc.Mm Go.Vc.Mu Go.Vc.Me Go.Vc.Es Go.Vc.Rg Go.Vc.Nx Go.Vc.Ta Go.Vc.Ap Go.Vc.Cp Go.Vc.Ln Go.Vc.Bc Go.Vc.Bmin Go.Vc.Bmax Go.Vc.Bdel Go.Vc.Bclr

instance : Row Try.prog 37 3 (.int .i64 0) := ⟨by kernel_rfl, ⟨Try.t3, by kernel_rfl, by kernel_rfl, by decide, by kernel_rfl⟩, rfl⟩
instance : Row Try.prog 34 5 (.int .u8 0) := ⟨by kernel_rfl, ⟨Try.t5, by kernel_rfl, by kernel_rfl, by decide, by kernel_rfl⟩, rfl⟩
instance : Bytes Try.prog 34 5 9 := ⟨by kernel_rfl, by kernel_rfl, by kernel_rfl⟩

namespace U18
open Go.M18
abbrev tI : Nat := 3
abbrev tB : Nat := 5

def invC (last : ByteArray) (next : List Nat) (links : Value) (at_ : Nat) (out : Value) (steps : Nat) : List Value :=
  .string last :: (next.map nv ++ [links, nv at_, out, nv steps])

section
variable {last : ByteArray} {next : List Nat} {links out : Value} {at_ steps : Nat} (hn : next.length = 256)
include hn
theorem c257 : (invC last next links at_ out steps)[257]? = some links := by simp [invC, hn]
theorem c258 : (invC last next links at_ out steps)[258]? = some (nv at_) := by simp [invC, hn]
theorem c259 : (invC last next links at_ out steps)[259]? = some out := by simp [invC, hn]
theorem c260 : (invC last next links at_ out steps)[260]? = some (nv steps) := by simp [invC, hn]
theorem cnx {j n : Nat} (h : next[j]? = some n) : (invC last next links at_ out steps)[1 + j]? = some (nv n) := by
  have hj : j < 256 := by rw [← hn]; exact (List.getElem?_eq_some_iff.1 h).1
  unfold invC
  rw [Nat.add_comm 1 j, List.getElem?_cons_succ, List.getElem?_append_left (by simpa [hn] using hj), List.getElem?_map, h]
  rfl
theorem clen : (invC last next links at_ out steps).length = 261 := by simp [invC, hn]
theorem s257 (v : Value) : (invC last next links at_ out steps).set 257 v = invC last next v at_ out steps := by simp [invC, hn, List.set_append]
theorem s258 (n : Nat) : (invC last next links at_ out steps).set 258 (nv n) = invC last next links n out steps := by simp [invC, hn, List.set_append]
theorem s259 (v : Value) : (invC last next links at_ out steps).set 259 v = invC last next links at_ v steps := by simp [invC, hn, List.set_append]
theorem s260 (n : Nat) : (invC last next links at_ out steps).set 260 (nv n) = invC last next links at_ out n := by simp [invC, hn, List.set_append]
theorem snx {j : Nat} (n : Nat) (hj : j < 256) : (invC last next links at_ out steps).set (1 + j) (nv n) = invC last (next.set j n) links at_ out steps := by
  unfold invC
  rw [Nat.add_comm 1 j, List.set_cons_succ, List.set_append_left _ _ (by simpa [hn] using hj), List.map_set]
end

/-- An inverter behind s steps; k bytes of what was told have been taken. -/
def InvR (b : Nat) (last : ByteArray) (o s k : Nat) : HProp := fun h => ∃ t lv ov, Sat [blk b t (invC last (nxL last.data.toList s) lv (atK last.data.toList o (s - 2 * last.size)) ov s),
  SL nv tI lv (lnS last.data.toList s), SL bv tB ov ((outK last.data.toList o (s - 2 * last.size)).drop k)] h
theorem InvR_open {b : Nat} {last : ByteArray} {o s k : Nat} {w : World} {L : List HProp} (H : Holds w (InvR b last o s k :: L)) :
    ∃ t lv ov, Holds w (blk b t (invC last (nxL last.data.toList s) lv (atK last.data.toList o (s - 2 * last.size)) ov s) :: SL nv tI lv (lnS last.data.toList s) ::
      SL bv tB ov ((outK last.data.toList o (s - 2 * last.size)).drop k) :: L) := by
  obtain ⟨t, H⟩ := Holds.ex H
  obtain ⟨lv, H⟩ := Holds.ex H
  obtain ⟨ov, H⟩ := Holds.ex H
  exact ⟨t, lv, ov, Holds.unpack H⟩
theorem InvR_close {b : Nat} {last : ByteArray} {o s k t : Nat} {lv ov : Value} {w : World} {L : List HProp} (H : Holds w (blk b t (invC last (nxL last.data.toList s) lv (atK last.data.toList o (s - 2 * last.size)) ov s) :: SL nv tI lv (lnS last.data.toList s) ::
      SL bv tB ov ((outK last.data.toList o (s - 2 * last.size)).drop k) :: L)) : Holds w (InvR b last o s k :: L) :=
  Holds.imp (Holds.pack (A := [_, _, _]) H) fun h hh => ⟨t, lv, ov, hh⟩

variable {w : World} {L : List HProp} {K : Value → World → Prop} {b : Nat}
theorem Done_raw {t : Nat} {last : ByteArray} {next : List Nat} {links out : Value} {at_ steps : Nat} (hn : next.length = 256)
    (H : Holds w (blk b t (invC last next links at_ out steps) :: L)) (hl : last.size ≤ 1000000)
    (k : ∀ w', Same w w' → Holds w' (blk b t (invC last next links at_ out steps) :: L) → K (.bool ((steps : Int) == 3 * (last.size : Int))) w') :
    Cl Try.prog F.unbwt_Inverter_Done #[.pointer (some ⟨b, 0, none⟩)] w K := by
  refine Tie.unbwt_Inverter_Done ?_
  unfold Vcf.unbwt_Inverter_Done
  have S := Same.refl w
  repeat (first | ((with_reducible apply r_ld 0 H); (exact rfl); (with_reducible exact (c260 hn))) | refine r_nc ?_ | refine r_fo0 ?_ | refine r_fo ?_ | refine r_ke ?_ | refine r_lns ?_ | refine r_lnl ?_ | refine r_eql ?_ | refine r_neq ?_ | refine r_lss ?_ | refine r_leq ?_ | refine r_gtr ?_ | refine r_geq ?_ | refine r_seq0 ?_ | refine r_sne0 ?_ | refine r_seq ?_ | refine r_sne ?_ | (with_reducible refine r_notT ?_) | (with_reducible refine r_notF ?_) | refine r_not ?_ | (with_reducible refine r_bnST ?_) | (with_reducible refine r_bnSF ?_) | (with_reducible refine r_bnNT ?_) | (with_reducible refine r_bnNF ?_) | (with_reducible refine r_ex20 ?_) | (with_reducible refine r_ex21 ?_) | (with_reducible refine r_ex30 ?_) | (with_reducible refine r_ex31 ?_) | (with_reducible refine r_ex32 ?_) | (with_reducible refine r_vt ?_) | (with_reducible refine r_vf ?_) | refine r_bb ?_ | refine r_ex rfl ?_ | refine r_ci ?_ | (refine r_add1N (by omega) ?_) | (refine r_sub1N (by omega) (by omega) ?_) | (refine r_addN (by omega) ?_) | (refine r_add (by omega) (by omega) ?_) | (refine r_ixsN (by omega) ?_) | (refine r_iaaN (by omega) ?_) | (refine r_sub (by omega) (by omega) ?_) | (refine r_mul (by omega) (by omega) ?_) | (refine r_dr H ?_; clear H; intro _ S_ H; replace S := S.trans S_; clear S_) | refine r_ld 0 H rfl rfl ?_ | refine r_ld 1 H rfl rfl ?_ | refine r_ld 2 H rfl rfl ?_ | refine r_ld 3 H rfl rfl ?_ | refine r_ld 4 H rfl rfl ?_ | ((with_reducible refine r_vtD ?h ?_); (case h => omega)) | ((with_reducible refine r_vfD ?h ?_); (case h => omega)) | ((with_reducible refine r_vtE ?h ?_); (case h => omega)) | ((with_reducible refine r_vfE ?h ?_); (case h => omega)) | ((with_reducible refine r_vtN ?h ?_); (case h => omega)) | ((with_reducible refine r_vfN ?h ?_); (case h => omega)))
  exact k _ S H
theorem Waiting_raw {t : Nat} {last : ByteArray} {next : List Nat} {links : Value} {a : Option Addr} {l c : Nat} {at_ steps : Nat} (hn : next.length = 256)
    (H : Holds w (blk b t (invC last next links at_ (.slice a l c) steps) :: L))
    (k : K (.int .i64 l) w) :
    Cl Try.prog F.unbwt_Inverter_Waiting #[.pointer (some ⟨b, 0, none⟩)] w K := by
  refine Tie.unbwt_Inverter_Waiting ?_
  unfold Vcf.unbwt_Inverter_Waiting
  repeat (first | ((with_reducible apply r_ld 0 H); (exact rfl); (with_reducible exact (c259 hn))) | refine r_nc ?_ | refine r_fo0 ?_ | refine r_fo ?_ | refine r_ke ?_ | refine r_lns ?_ | refine r_lnl ?_ | refine r_eql ?_ | refine r_neq ?_ | refine r_lss ?_ | refine r_leq ?_ | refine r_gtr ?_ | refine r_geq ?_ | refine r_seq0 ?_ | refine r_sne0 ?_ | refine r_seq ?_ | refine r_sne ?_ | (with_reducible refine r_notT ?_) | (with_reducible refine r_notF ?_) | refine r_not ?_ | (with_reducible refine r_bnST ?_) | (with_reducible refine r_bnSF ?_) | (with_reducible refine r_bnNT ?_) | (with_reducible refine r_bnNF ?_) | (with_reducible refine r_ex20 ?_) | (with_reducible refine r_ex21 ?_) | (with_reducible refine r_ex30 ?_) | (with_reducible refine r_ex31 ?_) | (with_reducible refine r_ex32 ?_) | (with_reducible refine r_vt ?_) | (with_reducible refine r_vf ?_) | refine r_bb ?_ | refine r_ex rfl ?_ | refine r_ci ?_ | (refine r_add1N (by omega) ?_) | (refine r_sub1N (by omega) (by omega) ?_) | (refine r_addN (by omega) ?_) | (refine r_add (by omega) (by omega) ?_) | (refine r_ixsN (by omega) ?_) | (refine r_iaaN (by omega) ?_) | (refine r_sub (by omega) (by omega) ?_) | (refine r_mul (by omega) (by omega) ?_) | (refine r_dr H ?_; clear H; intro _ S_ H; replace S := S.trans S_; clear S_) | refine r_ld 0 H rfl rfl ?_ | refine r_ld 1 H rfl rfl ?_ | refine r_ld 2 H rfl rfl ?_ | refine r_ld 3 H rfl rfl ?_ | refine r_ld 4 H rfl rfl ?_ | ((with_reducible refine r_vtD ?h ?_); (case h => omega)) | ((with_reducible refine r_vfD ?h ?_); (case h => omega)) | ((with_reducible refine r_vtE ?h ?_); (case h => omega)) | ((with_reducible refine r_vfE ?h ?_); (case h => omega)) | ((with_reducible refine r_vtN ?h ?_); (case h => omega)) | ((with_reducible refine r_vfN ?h ?_); (case h => omega)))
  exact k
theorem Steps_raw {t : Nat} {last : ByteArray} {next : List Nat} {links out : Value} {at_ steps : Nat} (hn : next.length = 256)
    (H : Holds w (blk b t (invC last next links at_ out steps) :: L)) (k : K (nv steps) w) :
    Cl Try.prog F.unbwt_Inverter_Steps #[.pointer (some ⟨b, 0, none⟩)] w K := by
  refine Tie.unbwt_Inverter_Steps ?_
  unfold Vcf.unbwt_Inverter_Steps
  repeat (first | ((with_reducible apply r_ld 0 H); (exact rfl); (with_reducible exact (c260 hn))) | refine r_nc ?_ | refine r_fo0 ?_ | refine r_fo ?_ | refine r_ke ?_ | refine r_lns ?_ | refine r_lnl ?_ | refine r_eql ?_ | refine r_neq ?_ | refine r_lss ?_ | refine r_leq ?_ | refine r_gtr ?_ | refine r_geq ?_ | refine r_seq0 ?_ | refine r_sne0 ?_ | refine r_seq ?_ | refine r_sne ?_ | (with_reducible refine r_notT ?_) | (with_reducible refine r_notF ?_) | refine r_not ?_ | (with_reducible refine r_bnST ?_) | (with_reducible refine r_bnSF ?_) | (with_reducible refine r_bnNT ?_) | (with_reducible refine r_bnNF ?_) | (with_reducible refine r_ex20 ?_) | (with_reducible refine r_ex21 ?_) | (with_reducible refine r_ex30 ?_) | (with_reducible refine r_ex31 ?_) | (with_reducible refine r_ex32 ?_) | (with_reducible refine r_vt ?_) | (with_reducible refine r_vf ?_) | refine r_bb ?_ | refine r_ex rfl ?_ | refine r_ci ?_ | (refine r_add1N (by omega) ?_) | (refine r_sub1N (by omega) (by omega) ?_) | (refine r_addN (by omega) ?_) | (refine r_add (by omega) (by omega) ?_) | (refine r_ixsN (by omega) ?_) | (refine r_iaaN (by omega) ?_) | (refine r_sub (by omega) (by omega) ?_) | (refine r_mul (by omega) (by omega) ?_) | (refine r_dr H ?_; clear H; intro _ S_ H; replace S := S.trans S_; clear S_) | refine r_ld 0 H rfl rfl ?_ | refine r_ld 1 H rfl rfl ?_ | refine r_ld 2 H rfl rfl ?_ | refine r_ld 3 H rfl rfl ?_ | refine r_ld 4 H rfl rfl ?_ | ((with_reducible refine r_vtD ?h ?_); (case h => omega)) | ((with_reducible refine r_vfD ?h ?_); (case h => omega)) | ((with_reducible refine r_vtE ?h ?_); (case h => omega)) | ((with_reducible refine r_vfE ?h ?_); (case h => omega)) | ((with_reducible refine r_vtN ?h ?_); (case h => omega)) | ((with_reducible refine r_vfN ?h ?_); (case h => omega)))
  exact k
theorem Held_raw {t : Nat} {last : ByteArray} {next : List Nat} {links : Value} {a : Option Addr} {l c : Nat} {at_ steps : Nat} (hn : next.length = 256)
    (H : Holds w (blk b t (invC last next links at_ (.slice a l c) steps) :: L)) (hl : last.size ≤ 1000000) (hl2 : l ≤ 1000000)
    (k : ∀ w', Same w w' → Holds w' (blk b t (invC last next links at_ (.slice a l c) steps) :: L) → K (.int .i64 (2 * (last.size : Int) + l)) w') :
    Cl Try.prog F.unbwt_Inverter_Held #[.pointer (some ⟨b, 0, none⟩)] w K := by
  refine Tie.unbwt_Inverter_Held ?_
  unfold Vcf.unbwt_Inverter_Held
  have S := Same.refl w
  repeat (first | ((with_reducible apply r_ld 0 H); (exact rfl); (with_reducible exact (c259 hn))) | refine r_nc ?_ | refine r_fo0 ?_ | refine r_fo ?_ | refine r_ke ?_ | refine r_lns ?_ | refine r_lnl ?_ | refine r_eql ?_ | refine r_neq ?_ | refine r_lss ?_ | refine r_leq ?_ | refine r_gtr ?_ | refine r_geq ?_ | refine r_seq0 ?_ | refine r_sne0 ?_ | refine r_seq ?_ | refine r_sne ?_ | (with_reducible refine r_notT ?_) | (with_reducible refine r_notF ?_) | refine r_not ?_ | (with_reducible refine r_bnST ?_) | (with_reducible refine r_bnSF ?_) | (with_reducible refine r_bnNT ?_) | (with_reducible refine r_bnNF ?_) | (with_reducible refine r_ex20 ?_) | (with_reducible refine r_ex21 ?_) | (with_reducible refine r_ex30 ?_) | (with_reducible refine r_ex31 ?_) | (with_reducible refine r_ex32 ?_) | (with_reducible refine r_vt ?_) | (with_reducible refine r_vf ?_) | refine r_bb ?_ | refine r_ex rfl ?_ | refine r_ci ?_ | (refine r_add1N (by omega) ?_) | (refine r_sub1N (by omega) (by omega) ?_) | (refine r_addN (by omega) ?_) | (refine r_add (by omega) (by omega) ?_) | (refine r_ixsN (by omega) ?_) | (refine r_iaaN (by omega) ?_) | (refine r_sub (by omega) (by omega) ?_) | (refine r_mul (by omega) (by omega) ?_) | (refine r_dr H ?_; clear H; intro _ S_ H; replace S := S.trans S_; clear S_) | refine r_ld 0 H rfl rfl ?_ | refine r_ld 1 H rfl rfl ?_ | refine r_ld 2 H rfl rfl ?_ | refine r_ld 3 H rfl rfl ?_ | refine r_ld 4 H rfl rfl ?_ | ((with_reducible refine r_vtD ?h ?_); (case h => omega)) | ((with_reducible refine r_vfD ?h ?_); (case h => omega)) | ((with_reducible refine r_vtE ?h ?_); (case h => omega)) | ((with_reducible refine r_vfE ?h ?_); (case h => omega)) | ((with_reducible refine r_vtN ?h ?_); (case h => omega)) | ((with_reducible refine r_vfN ?h ?_); (case h => omega)))
  exact k _ S H
theorem begins_raw {t : Nat} {last : ByteArray} {next : List Nat} {links out : Value} {at_ steps : Nat} (hn : next.length = 256)
    (H : Holds w (blk b t (invC last next links at_ out steps) :: L)) (hb : ∀ x ∈ next, x ≤ 4000000)
    (k : ∀ w', Same w w' → Holds w' (blk b t (invC last ((List.range 256).map (exB fun j => next.getD j 0)) links at_ out steps) :: L) → K (.tuple #[]) w') :
    Cl Try.prog F.unbwt_Inverter_begins #[.pointer (some ⟨b, 0, none⟩)] w K := by
  refine Tie.unbwt_Inverter_begins ?_
  unfold Vcf.unbwt_Inverter_begins
  have S := Same.refl w
  have hsub : ((invC last next links at_ out steps).drop 1).take 256 = next.map nv := by
    unfold invC
    rw [List.drop_succ_cons, List.drop_zero, List.take_append_of_le_length (by simp [hn]), List.take_of_length_le (by simp [hn])]
  repeat (first | refine r_ldA 0 H _ rfl hsub (by simp [hn]) ?_ | refine r_nc ?_ | refine r_fo0 ?_ | refine r_fo ?_ | refine r_ke ?_ | refine r_lns ?_ | refine r_lnl ?_ | refine r_eql ?_ | refine r_neq ?_ | refine r_lss ?_ | refine r_leq ?_ | refine r_gtr ?_ | refine r_geq ?_ | refine r_seq0 ?_ | refine r_sne0 ?_ | refine r_seq ?_ | refine r_sne ?_ | (with_reducible refine r_notT ?_) | (with_reducible refine r_notF ?_) | refine r_not ?_ | (with_reducible refine r_bnST ?_) | (with_reducible refine r_bnSF ?_) | (with_reducible refine r_bnNT ?_) | (with_reducible refine r_bnNF ?_) | (with_reducible refine r_ex20 ?_) | (with_reducible refine r_ex21 ?_) | (with_reducible refine r_ex30 ?_) | (with_reducible refine r_ex31 ?_) | (with_reducible refine r_ex32 ?_) | (with_reducible refine r_vt ?_) | (with_reducible refine r_vf ?_) | refine r_bb ?_ | refine r_ex rfl ?_ | refine r_ci ?_ | (refine r_add1N (by omega) ?_) | (refine r_sub1N (by omega) (by omega) ?_) | (refine r_addN (by omega) ?_) | (refine r_add (by omega) (by omega) ?_) | (refine r_ixsN (by omega) ?_) | (refine r_iaaN (by omega) ?_) | (refine r_sub (by omega) (by omega) ?_) | (refine r_mul (by omega) (by omega) ?_) | (refine r_dr H ?_; clear H; intro _ S_ H; replace S := S.trans S_; clear S_) | refine r_ld 0 H rfl rfl ?_ | refine r_ld 1 H rfl rfl ?_ | refine r_ld 2 H rfl rfl ?_ | refine r_ld 3 H rfl rfl ?_ | refine r_ld 4 H rfl rfl ?_ | ((with_reducible refine r_vtD ?h ?_); (case h => omega)) | ((with_reducible refine r_vfD ?h ?_); (case h => omega)) | ((with_reducible refine r_vtE ?h ?_); (case h => omega)) | ((with_reducible refine r_vfE ?h ?_); (case h => omega)) | ((with_reducible refine r_vtN ?h ?_); (case h => omega)) | ((with_reducible refine r_vfN ?h ?_); (case h => omega)))
  have hex : ∀ j, j ≤ 256 → exB (fun j => next.getD j 0) j ≤ 4000000 * j := by
    intro j
    induction j with
    | zero => intro _; simp [exB]
    | succ j ih =>
      intro hj
      have hget : next[j]? = some (next.getD j 0) := by simp [List.getD, (by omega : j < next.length)]
      have h1 := hb (next.getD j 0) (List.mem_of_getElem? hget)
      have h2 := ih (by omega)
      simp only [exB]; omega
  refine r_loop2 (fun f x w' => ∃ j : Nat, j ≤ 256 ∧ x = nv j ∧ f = nv (exB (fun j => next.getD j 0) j) ∧ Same w w' ∧
      Holds w' (blk b t (invC last ((List.range j).map (exB fun j => next.getD j 0) ++ next.drop j) links at_ out steps) :: L))
    (fun _ x _ => 256 - (RowKit.intOf x).toNat) ⟨0, by omega, rfl, rfl, Same.refl w, by rw [List.range_zero, List.map_nil, List.nil_append, List.drop_zero]; exact H⟩ ?_
  rintro _ _ _ w1 ⟨j, hj, rfl, rfl, S, H⟩
  have hx := hex j hj
  have hlen : ((List.range j).map (exB fun j => next.getD j 0) ++ next.drop j).length = 256 := by simp [hn]; omega
  repeat (first | refine r_nc ?_ | refine r_fo0 ?_ | refine r_fo ?_ | refine r_ke ?_ | refine r_lns ?_ | refine r_lnl ?_ | refine r_eql ?_ | refine r_neq ?_ | refine r_lss ?_ | refine r_leq ?_ | refine r_gtr ?_ | refine r_geq ?_ | refine r_seq0 ?_ | refine r_sne0 ?_ | refine r_seq ?_ | refine r_sne ?_ | (with_reducible refine r_notT ?_) | (with_reducible refine r_notF ?_) | refine r_not ?_ | (with_reducible refine r_bnST ?_) | (with_reducible refine r_bnSF ?_) | (with_reducible refine r_bnNT ?_) | (with_reducible refine r_bnNF ?_) | (with_reducible refine r_ex20 ?_) | (with_reducible refine r_ex21 ?_) | (with_reducible refine r_ex30 ?_) | (with_reducible refine r_ex31 ?_) | (with_reducible refine r_ex32 ?_) | (with_reducible refine r_vt ?_) | (with_reducible refine r_vf ?_) | refine r_bb ?_ | refine r_ex rfl ?_ | refine r_ci ?_ | (refine r_add1N (by omega) ?_) | (refine r_sub1N (by omega) (by omega) ?_) | (refine r_addN (by omega) ?_) | (refine r_add (by omega) (by omega) ?_) | (refine r_ixsN (by omega) ?_) | (refine r_iaaN (by omega) ?_) | (refine r_sub (by omega) (by omega) ?_) | (refine r_mul (by omega) (by omega) ?_) | (refine r_dr H ?_; clear H; intro _ S_ H; replace S := S.trans S_; clear S_) | refine r_ld 0 H rfl rfl ?_ | refine r_ld 1 H rfl rfl ?_ | refine r_ld 2 H rfl rfl ?_ | refine r_ld 3 H rfl rfl ?_ | refine r_ld 4 H rfl rfl ?_ | ((with_reducible refine r_vtD ?h ?_); (case h => omega)) | ((with_reducible refine r_vfD ?h ?_); (case h => omega)) | ((with_reducible refine r_vtE ?h ?_); (case h => omega)) | ((with_reducible refine r_vfE ?h ?_); (case h => omega)) | ((with_reducible refine r_vtN ?h ?_); (case h => omega)) | ((with_reducible refine r_vfN ?h ?_); (case h => omega)))
  refine r_vif (fun h => ?_) fun h => ?_
  · have hlt : j < 256 := by have := of_decide_eq_true h; omega
    obtain ⟨x, hgd⟩ : ∃ x, next.getD j 0 = x := ⟨_, rfl⟩
    have hget : next[j]? = some x := by rw [← hgd, List.getD_eq_getElem?_getD, List.getElem?_eq_getElem (by omega)]; rfl
    have hb1 := hb _ (List.mem_of_getElem? hget)
    have hsucc : exB (fun j => next.getD j 0) (j + 1) = exB (fun j => next.getD j 0) j + x := by rw [exB, hgd]
    have h2 := snx (last := last) (links := links) (out := out) (at_ := at_) (steps := steps) hlen (exB (fun j => next.getD j 0) j) hlt
    have h3 := set_mid (exB fun j => next.getD j 0) next j (by omega)
    rw [h3] at h2
    generalize exB (fun j => next.getD j 0) j = y at *
    refine r_ixa1 (nv x) (by omega) (by omega) (by rw [Int.toNat_natCast, List.getElem?_map, hget]; rfl) ?_
    repeat (first | refine r_iaa (by omega) (by omega) ?_ | refine r_nc ?_ | refine r_fo0 ?_ | refine r_fo ?_ | refine r_ke ?_ | refine r_lns ?_ | refine r_lnl ?_ | refine r_eql ?_ | refine r_neq ?_ | refine r_lss ?_ | refine r_leq ?_ | refine r_gtr ?_ | refine r_geq ?_ | refine r_seq0 ?_ | refine r_sne0 ?_ | refine r_seq ?_ | refine r_sne ?_ | (with_reducible refine r_notT ?_) | (with_reducible refine r_notF ?_) | refine r_not ?_ | (with_reducible refine r_bnST ?_) | (with_reducible refine r_bnSF ?_) | (with_reducible refine r_bnNT ?_) | (with_reducible refine r_bnNF ?_) | (with_reducible refine r_ex20 ?_) | (with_reducible refine r_ex21 ?_) | (with_reducible refine r_ex30 ?_) | (with_reducible refine r_ex31 ?_) | (with_reducible refine r_ex32 ?_) | (with_reducible refine r_vt ?_) | (with_reducible refine r_vf ?_) | refine r_bb ?_ | refine r_ex rfl ?_ | refine r_ci ?_ | (refine r_add1N (by omega) ?_) | (refine r_sub1N (by omega) (by omega) ?_) | (refine r_addN (by omega) ?_) | (refine r_add (by omega) (by omega) ?_) | (refine r_ixsN (by omega) ?_) | (refine r_iaaN (by omega) ?_) | (refine r_sub (by omega) (by omega) ?_) | (refine r_mul (by omega) (by omega) ?_) | (refine r_dr H ?_; clear H; intro _ S_ H; replace S := S.trans S_; clear S_) | refine r_ld 0 H rfl rfl ?_ | refine r_ld 1 H rfl rfl ?_ | refine r_ld 2 H rfl rfl ?_ | refine r_ld 3 H rfl rfl ?_ | refine r_ld 4 H rfl rfl ?_ | ((with_reducible refine r_vtD ?h ?_); (case h => omega)) | ((with_reducible refine r_vfD ?h ?_); (case h => omega)) | ((with_reducible refine r_vtE ?h ?_); (case h => omega)) | ((with_reducible refine r_vfE ?h ?_); (case h => omega)) | ((with_reducible refine r_vtN ?h ?_); (case h => omega)) | ((with_reducible refine r_vfN ?h ?_); (case h => omega)))
    refine r_st 0 H rfl (by rw [clen hlen]; simp; omega) rfl fun w2 S2 H2 => ?_
    have S3 := S.trans S2
    rw [Int.toNat_natCast, Nat.mul_one, List.set_cons_zero, h2] at H2
    repeat (first | refine r_nc ?_ | refine r_fo0 ?_ | refine r_fo ?_ | refine r_ke ?_ | refine r_lns ?_ | refine r_lnl ?_ | refine r_eql ?_ | refine r_neq ?_ | refine r_lss ?_ | refine r_leq ?_ | refine r_gtr ?_ | refine r_geq ?_ | refine r_seq0 ?_ | refine r_sne0 ?_ | refine r_seq ?_ | refine r_sne ?_ | (with_reducible refine r_notT ?_) | (with_reducible refine r_notF ?_) | refine r_not ?_ | (with_reducible refine r_bnST ?_) | (with_reducible refine r_bnSF ?_) | (with_reducible refine r_bnNT ?_) | (with_reducible refine r_bnNF ?_) | (with_reducible refine r_ex20 ?_) | (with_reducible refine r_ex21 ?_) | (with_reducible refine r_ex30 ?_) | (with_reducible refine r_ex31 ?_) | (with_reducible refine r_ex32 ?_) | (with_reducible refine r_vt ?_) | (with_reducible refine r_vf ?_) | refine r_bb ?_ | refine r_ex rfl ?_ | refine r_ci ?_ | (refine r_add1N (by omega) ?_) | (refine r_sub1N (by omega) (by omega) ?_) | (refine r_addN (by omega) ?_) | (refine r_add (by omega) (by omega) ?_) | (refine r_ixsN (by omega) ?_) | (refine r_iaaN (by omega) ?_) | (refine r_sub (by omega) (by omega) ?_) | (refine r_mul (by omega) (by omega) ?_) | (refine r_dr H ?_; clear H; intro _ S_ H; replace S := S.trans S_; clear S_) | refine r_ld 0 H rfl rfl ?_ | refine r_ld 1 H rfl rfl ?_ | refine r_ld 2 H rfl rfl ?_ | refine r_ld 3 H rfl rfl ?_ | refine r_ld 4 H rfl rfl ?_ | ((with_reducible refine r_vtD ?h ?_); (case h => omega)) | ((with_reducible refine r_vfD ?h ?_); (case h => omega)) | ((with_reducible refine r_vtE ?h ?_); (case h => omega)) | ((with_reducible refine r_vfE ?h ?_); (case h => omega)) | ((with_reducible refine r_vtN ?h ?_); (case h => omega)) | ((with_reducible refine r_vfN ?h ?_); (case h => omega)))
    refine ⟨⟨j + 1, by omega, by simp [nv], by rw [hsucc], S3, H2⟩, ?_⟩
    simp [nv, RowKit.intOf]
    try omega
  · have hge : j = 256 := by have := of_decide_eq_false h; omega
    subst hge
    rw [List.drop_of_length_le (by omega), List.append_nil] at H
    exact k _ S H

theorem step_spec {last : ByteArray} {o s k : Nat} (H : Holds w (InvR b last o s k :: L)) (hs : s < 3 * last.size) (hl : last.size ≤ 1000000) (ho : o < last.size) (hk : k ≤ s - 2 * last.size)
    (post : ∀ w', Same w w' → Holds w' (InvR b last o (s + 1) k :: L) → K (.tuple #[]) w') :
    Cl Try.prog F.unbwt_Inverter_step #[.pointer (some ⟨b, 0, none⟩)] w K := by
  refine Tie.unbwt_Inverter_step ?_
  unfold Vcf.unbwt_Inverter_step
  obtain ⟨t, lv, ov, H⟩ := InvR_open H
  have S := Same.refl w
  have hll : last.data.toList.length = last.size := by simp
  have hn := nxL_len last.data.toList s
  have hn' := nxL_len last.data.toList (s + 1)
  obtain ⟨q, r, hqr, hr, hq⟩ : ∃ q r, s = q * last.size + r ∧ r < last.size ∧ (q = 0 ∨ q = 1 ∨ q = 2) :=
    ⟨s / last.size, s % last.size, by rw [Nat.mul_comm]; exact (Nat.div_add_mod s last.size).symm, Nat.mod_lt _ (by omega), by
      have := Nat.div_lt_of_lt_mul (show s < last.size * 3 by omega)
      generalize s / last.size = q at this; omega⟩
  have hQ : ((s : Nat) : Int).tdiv (last.size : Int) = (q : Int) := by
    rw [Int.tdiv_eq_ediv_of_nonneg (by omega), hqr]
    have : ((q * last.size + r : Nat) : Int) / (last.size : Int) = (((q * last.size + r) / last.size : Nat) : Int) := by simp
    rw [this, Nat.add_comm, Nat.add_mul_div_right _ _ (by omega), Nat.div_eq_of_lt hr, Nat.zero_add]
  have hR : ((s : Nat) : Int).tmod (last.size : Int) = (r : Int) := by
    rw [Int.tmod_eq_emod_of_nonneg (by omega), hqr]
    have : ((q * last.size + r : Nat) : Int) % (last.size : Int) = (((q * last.size + r) % last.size : Nat) : Int) := by simp
    rw [this, Nat.add_comm, Nat.add_mul_mod_self_right, Nat.mod_eq_of_lt hr]
  repeat (first | ((with_reducible apply r_ld 0 H); (exact rfl); (with_reducible exact (c260 hn))) | refine r_remE hR (by omega) ?_ | refine r_nc ?_ | refine r_fo0 ?_ | refine r_fo ?_ | refine r_ke ?_ | refine r_lns ?_ | refine r_lnl ?_ | refine r_eql ?_ | refine r_neq ?_ | refine r_lss ?_ | refine r_leq ?_ | refine r_gtr ?_ | refine r_geq ?_ | refine r_seq0 ?_ | refine r_sne0 ?_ | refine r_seq ?_ | refine r_sne ?_ | (with_reducible refine r_notT ?_) | (with_reducible refine r_notF ?_) | refine r_not ?_ | (with_reducible refine r_bnST ?_) | (with_reducible refine r_bnSF ?_) | (with_reducible refine r_bnNT ?_) | (with_reducible refine r_bnNF ?_) | (with_reducible refine r_ex20 ?_) | (with_reducible refine r_ex21 ?_) | (with_reducible refine r_ex30 ?_) | (with_reducible refine r_ex31 ?_) | (with_reducible refine r_ex32 ?_) | (with_reducible refine r_vt ?_) | (with_reducible refine r_vf ?_) | refine r_bb ?_ | refine r_ex rfl ?_ | refine r_ci ?_ | (refine r_add1N (by omega) ?_) | (refine r_sub1N (by omega) (by omega) ?_) | (refine r_addN (by omega) ?_) | (refine r_add (by omega) (by omega) ?_) | (refine r_ixsN (by omega) ?_) | (refine r_iaaN (by omega) ?_) | (refine r_sub (by omega) (by omega) ?_) | (refine r_mul (by omega) (by omega) ?_) | (refine r_dr H ?_; clear H; intro _ S_ H; replace S := S.trans S_; clear S_) | refine r_ld 0 H rfl rfl ?_ | refine r_ld 1 H rfl rfl ?_ | refine r_ld 2 H rfl rfl ?_ | refine r_ld 3 H rfl rfl ?_ | refine r_ld 4 H rfl rfl ?_ | ((with_reducible refine r_vtD ?h ?_); (case h => omega)) | ((with_reducible refine r_vfD ?h ?_); (case h => omega)) | ((with_reducible refine r_vtE ?h ?_); (case h => omega)) | ((with_reducible refine r_vfE ?h ?_); (case h => omega)) | ((with_reducible refine r_vtN ?h ?_); (case h => omega)) | ((with_reducible refine r_vfN ?h ?_); (case h => omega)))
  refine r_join0 (fun w' => ∃ t lv ov, Same w w' ∧ Holds w' (blk b t (invC last (nxL last.data.toList (s + 1)) lv (atK last.data.toList o (s + 1 - 2 * last.size)) ov s) :: SL nv tI lv (lnS last.data.toList (s + 1)) ::
      SL bv tB ov ((outK last.data.toList o (s + 1 - 2 * last.size)).drop k) :: L)) ?_ ?_
  · rintro _ w1 ⟨t, lv, ov, S, H⟩
    repeat (first | ((with_reducible apply r_ld 0 H); (exact rfl); (with_reducible exact (c260 hn'))) | refine r_nc ?_ | refine r_fo0 ?_ | refine r_fo ?_ | refine r_ke ?_ | refine r_lns ?_ | refine r_lnl ?_ | refine r_eql ?_ | refine r_neq ?_ | refine r_lss ?_ | refine r_leq ?_ | refine r_gtr ?_ | refine r_geq ?_ | refine r_seq0 ?_ | refine r_sne0 ?_ | refine r_seq ?_ | refine r_sne ?_ | (with_reducible refine r_notT ?_) | (with_reducible refine r_notF ?_) | refine r_not ?_ | (with_reducible refine r_bnST ?_) | (with_reducible refine r_bnSF ?_) | (with_reducible refine r_bnNT ?_) | (with_reducible refine r_bnNF ?_) | (with_reducible refine r_ex20 ?_) | (with_reducible refine r_ex21 ?_) | (with_reducible refine r_ex30 ?_) | (with_reducible refine r_ex31 ?_) | (with_reducible refine r_ex32 ?_) | (with_reducible refine r_vt ?_) | (with_reducible refine r_vf ?_) | refine r_bb ?_ | refine r_ex rfl ?_ | refine r_ci ?_ | (refine r_add1N (by omega) ?_) | (refine r_sub1N (by omega) (by omega) ?_) | (refine r_addN (by omega) ?_) | (refine r_add (by omega) (by omega) ?_) | (refine r_ixsN (by omega) ?_) | (refine r_iaaN (by omega) ?_) | (refine r_sub (by omega) (by omega) ?_) | (refine r_mul (by omega) (by omega) ?_) | (refine r_dr H ?_; clear H; intro _ S_ H; replace S := S.trans S_; clear S_) | refine r_ld 0 H rfl rfl ?_ | refine r_ld 1 H rfl rfl ?_ | refine r_ld 2 H rfl rfl ?_ | refine r_ld 3 H rfl rfl ?_ | refine r_ld 4 H rfl rfl ?_ | ((with_reducible refine r_vtD ?h ?_); (case h => omega)) | ((with_reducible refine r_vfD ?h ?_); (case h => omega)) | ((with_reducible refine r_vtE ?h ?_); (case h => omega)) | ((with_reducible refine r_vfE ?h ?_); (case h => omega)) | ((with_reducible refine r_vtN ?h ?_); (case h => omega)) | ((with_reducible refine r_vfN ?h ?_); (case h => omega)))
    refine r_st 0 H rfl (by rw [clen hn']; omega) rfl fun w2 S2 H2 => ?_
    rw [s260 hn', List.set_cons_zero] at H2
    exact post _ (S.trans S2) (InvR_close H2)
  have hbt := fun i => byte_lt last.data.toList i
  have hnx := fun c => nx_le last.data.toList s c
  repeat (first | ((with_reducible apply r_ld 0 H); (exact rfl); (with_reducible exact (c260 hn))) | refine r_quoE hQ (by omega) (by omega) (by omega) ?_ | refine r_nc ?_ | refine r_fo0 ?_ | refine r_fo ?_ | refine r_ke ?_ | refine r_lns ?_ | refine r_lnl ?_ | refine r_eql ?_ | refine r_neq ?_ | refine r_lss ?_ | refine r_leq ?_ | refine r_gtr ?_ | refine r_geq ?_ | refine r_seq0 ?_ | refine r_sne0 ?_ | refine r_seq ?_ | refine r_sne ?_ | (with_reducible refine r_notT ?_) | (with_reducible refine r_notF ?_) | refine r_not ?_ | (with_reducible refine r_bnST ?_) | (with_reducible refine r_bnSF ?_) | (with_reducible refine r_bnNT ?_) | (with_reducible refine r_bnNF ?_) | (with_reducible refine r_ex20 ?_) | (with_reducible refine r_ex21 ?_) | (with_reducible refine r_ex30 ?_) | (with_reducible refine r_ex31 ?_) | (with_reducible refine r_ex32 ?_) | (with_reducible refine r_vt ?_) | (with_reducible refine r_vf ?_) | refine r_bb ?_ | refine r_ex rfl ?_ | refine r_ci ?_ | (refine r_add1N (by omega) ?_) | (refine r_sub1N (by omega) (by omega) ?_) | (refine r_addN (by omega) ?_) | (refine r_add (by omega) (by omega) ?_) | (refine r_ixsN (by omega) ?_) | (refine r_iaaN (by omega) ?_) | (refine r_sub (by omega) (by omega) ?_) | (refine r_mul (by omega) (by omega) ?_) | (refine r_dr H ?_; clear H; intro _ S_ H; replace S := S.trans S_; clear S_) | refine r_ld 0 H rfl rfl ?_ | refine r_ld 1 H rfl rfl ?_ | refine r_ld 2 H rfl rfl ?_ | refine r_ld 3 H rfl rfl ?_ | refine r_ld 4 H rfl rfl ?_ | ((with_reducible refine r_vtD ?h ?_); (case h => omega)) | ((with_reducible refine r_vfD ?h ?_); (case h => omega)) | ((with_reducible refine r_vtE ?h ?_); (case h => omega)) | ((with_reducible refine r_vfE ?h ?_); (case h => omega)) | ((with_reducible refine r_vtN ?h ?_); (case h => omega)) | ((with_reducible refine r_vfN ?h ?_); (case h => omega)))
  rcases hq with rfl | rfl | rfl
  · -- counting
    have hrs : r = s := by omega
    subst hrs
    repeat (first | refine r_nc ?_ | refine r_fo0 ?_ | refine r_fo ?_ | refine r_ke ?_ | refine r_lns ?_ | refine r_lnl ?_ | refine r_eql ?_ | refine r_neq ?_ | refine r_lss ?_ | refine r_leq ?_ | refine r_gtr ?_ | refine r_geq ?_ | refine r_seq0 ?_ | refine r_sne0 ?_ | refine r_seq ?_ | refine r_sne ?_ | (with_reducible refine r_notT ?_) | (with_reducible refine r_notF ?_) | refine r_not ?_ | (with_reducible refine r_bnST ?_) | (with_reducible refine r_bnSF ?_) | (with_reducible refine r_bnNT ?_) | (with_reducible refine r_bnNF ?_) | (with_reducible refine r_ex20 ?_) | (with_reducible refine r_ex21 ?_) | (with_reducible refine r_ex30 ?_) | (with_reducible refine r_ex31 ?_) | (with_reducible refine r_ex32 ?_) | (with_reducible refine r_vt ?_) | (with_reducible refine r_vf ?_) | refine r_bb ?_ | refine r_ex rfl ?_ | refine r_ci ?_ | (refine r_add1N (by omega) ?_) | (refine r_sub1N (by omega) (by omega) ?_) | (refine r_addN (by omega) ?_) | (refine r_add (by omega) (by omega) ?_) | (refine r_ixsN (by omega) ?_) | (refine r_iaaN (by omega) ?_) | (refine r_sub (by omega) (by omega) ?_) | (refine r_mul (by omega) (by omega) ?_) | (refine r_dr H ?_; clear H; intro _ S_ H; replace S := S.trans S_; clear S_) | refine r_ld 0 H rfl rfl ?_ | refine r_ld 1 H rfl rfl ?_ | refine r_ld 2 H rfl rfl ?_ | refine r_ld 3 H rfl rfl ?_ | refine r_ld 4 H rfl rfl ?_ | ((with_reducible refine r_vtD ?h ?_); (case h => omega)) | ((with_reducible refine r_vfD ?h ?_); (case h => omega)) | ((with_reducible refine r_vtE ?h ?_); (case h => omega)) | ((with_reducible refine r_vfE ?h ?_); (case h => omega)) | ((with_reducible refine r_vtN ?h ?_); (case h => omega)) | ((with_reducible refine r_vfN ?h ?_); (case h => omega)))
    have hc := hbt r
    have hnc := hnx (last.data.toList.getD r 0).toNat
    repeat (first | ((with_reducible apply r_ld 0 H); (exact rfl); (with_reducible exact (cnx hn (nxL_get _ _ _ hc)))) | refine r_nc ?_ | refine r_fo0 ?_ | refine r_fo ?_ | refine r_ke ?_ | refine r_lns ?_ | refine r_lnl ?_ | refine r_eql ?_ | refine r_neq ?_ | refine r_lss ?_ | refine r_leq ?_ | refine r_gtr ?_ | refine r_geq ?_ | refine r_seq0 ?_ | refine r_sne0 ?_ | refine r_seq ?_ | refine r_sne ?_ | (with_reducible refine r_notT ?_) | (with_reducible refine r_notF ?_) | refine r_not ?_ | (with_reducible refine r_bnST ?_) | (with_reducible refine r_bnSF ?_) | (with_reducible refine r_bnNT ?_) | (with_reducible refine r_bnNF ?_) | (with_reducible refine r_ex20 ?_) | (with_reducible refine r_ex21 ?_) | (with_reducible refine r_ex30 ?_) | (with_reducible refine r_ex31 ?_) | (with_reducible refine r_ex32 ?_) | (with_reducible refine r_vt ?_) | (with_reducible refine r_vf ?_) | refine r_bb ?_ | refine r_ex rfl ?_ | refine r_ci ?_ | (refine r_add1N (by omega) ?_) | (refine r_sub1N (by omega) (by omega) ?_) | (refine r_addN (by omega) ?_) | (refine r_add (by omega) (by omega) ?_) | (refine r_ixsN (by omega) ?_) | (refine r_iaaN (by omega) ?_) | (refine r_sub (by omega) (by omega) ?_) | (refine r_mul (by omega) (by omega) ?_) | (refine r_dr H ?_; clear H; intro _ S_ H; replace S := S.trans S_; clear S_) | refine r_ld 0 H rfl rfl ?_ | refine r_ld 1 H rfl rfl ?_ | refine r_ld 2 H rfl rfl ?_ | refine r_ld 3 H rfl rfl ?_ | refine r_ld 4 H rfl rfl ?_ | ((with_reducible refine r_vtD ?h ?_); (case h => omega)) | ((with_reducible refine r_vfD ?h ?_); (case h => omega)) | ((with_reducible refine r_vtE ?h ?_); (case h => omega)) | ((with_reducible refine r_vfE ?h ?_); (case h => omega)) | ((with_reducible refine r_vtN ?h ?_); (case h => omega)) | ((with_reducible refine r_vfN ?h ?_); (case h => omega)))
    refine r_st 0 H rfl (by rw [clen hn]; omega) rfl fun w2 S2 H2 => ?_
    rw [snx hn _ hc, List.set_cons_zero] at H2
    clear H
    have S := S.trans S2
    repeat (first | refine r_nc ?_ | refine r_fo0 ?_ | refine r_fo ?_ | refine r_ke ?_ | refine r_lns ?_ | refine r_lnl ?_ | refine r_eql ?_ | refine r_neq ?_ | refine r_lss ?_ | refine r_leq ?_ | refine r_gtr ?_ | refine r_geq ?_ | refine r_seq0 ?_ | refine r_sne0 ?_ | refine r_seq ?_ | refine r_sne ?_ | (with_reducible refine r_notT ?_) | (with_reducible refine r_notF ?_) | refine r_not ?_ | (with_reducible refine r_bnST ?_) | (with_reducible refine r_bnSF ?_) | (with_reducible refine r_bnNT ?_) | (with_reducible refine r_bnNF ?_) | (with_reducible refine r_ex20 ?_) | (with_reducible refine r_ex21 ?_) | (with_reducible refine r_ex30 ?_) | (with_reducible refine r_ex31 ?_) | (with_reducible refine r_ex32 ?_) | (with_reducible refine r_vt ?_) | (with_reducible refine r_vf ?_) | refine r_bb ?_ | refine r_ex rfl ?_ | refine r_ci ?_ | (refine r_add1N (by omega) ?_) | (refine r_sub1N (by omega) (by omega) ?_) | (refine r_addN (by omega) ?_) | (refine r_add (by omega) (by omega) ?_) | (refine r_ixsN (by omega) ?_) | (refine r_iaaN (by omega) ?_) | (refine r_sub (by omega) (by omega) ?_) | (refine r_mul (by omega) (by omega) ?_) | (refine r_dr H ?_; clear H; intro _ S_ H; replace S := S.trans S_; clear S_) | refine r_ld 0 H rfl rfl ?_ | refine r_ld 1 H rfl rfl ?_ | refine r_ld 2 H rfl rfl ?_ | refine r_ld 3 H rfl rfl ?_ | refine r_ld 4 H rfl rfl ?_ | ((with_reducible refine r_vtD ?h ?_); (case h => omega)) | ((with_reducible refine r_vfD ?h ?_); (case h => omega)) | ((with_reducible refine r_vtE ?h ?_); (case h => omega)) | ((with_reducible refine r_vfE ?h ?_); (case h => omega)) | ((with_reducible refine r_vtN ?h ?_); (case h => omega)) | ((with_reducible refine r_vfN ?h ?_); (case h => omega)))
    refine r_vif (fun h => ?_) fun h => ?_
    · have hlast : r + 1 = last.size := by have := of_decide_eq_true h; omega
      refine begins_raw (by rw [List.length_set]; exact hn) H2 ?_ fun w5 S5 H5 => ?_
      · intro x hx
        rcases List.mem_or_eq_of_mem_set hx with h1 | h1
        · obtain ⟨j, hj, hjx⟩ := List.getElem_of_mem h1
          have := nx_le last.data.toList r j
          simp [nxL] at hjx
          omega
        · omega
      · rw [nxL_begin _ _ (by omega)] at H5
        refine r_ke ⟨t, lv, ov, S.trans S5, ?_⟩
        rw [← lnS_low _ _ (by omega), show r + 1 - 2 * last.size = r - 2 * last.size by omega]
        exact H5
    · have hlast : ¬ r + 1 = last.size := by have := of_decide_eq_false h; omega
      rw [nxL_count _ _ (by omega)] at H2
      refine r_ke ⟨t, lv, ov, S, ?_⟩
      rw [← lnS_low _ _ (by omega), show r + 1 - 2 * last.size = r - 2 * last.size by omega]
      exact H2
  · -- linking
    have hrs : s - last.data.toList.length = r := by omega
    repeat (first | refine r_nc ?_ | refine r_fo0 ?_ | refine r_fo ?_ | refine r_ke ?_ | refine r_lns ?_ | refine r_lnl ?_ | refine r_eql ?_ | refine r_neq ?_ | refine r_lss ?_ | refine r_leq ?_ | refine r_gtr ?_ | refine r_geq ?_ | refine r_seq0 ?_ | refine r_sne0 ?_ | refine r_seq ?_ | refine r_sne ?_ | (with_reducible refine r_notT ?_) | (with_reducible refine r_notF ?_) | refine r_not ?_ | (with_reducible refine r_bnST ?_) | (with_reducible refine r_bnSF ?_) | (with_reducible refine r_bnNT ?_) | (with_reducible refine r_bnNF ?_) | (with_reducible refine r_ex20 ?_) | (with_reducible refine r_ex21 ?_) | (with_reducible refine r_ex30 ?_) | (with_reducible refine r_ex31 ?_) | (with_reducible refine r_ex32 ?_) | (with_reducible refine r_vt ?_) | (with_reducible refine r_vf ?_) | refine r_bb ?_ | refine r_ex rfl ?_ | refine r_ci ?_ | (refine r_add1N (by omega) ?_) | (refine r_sub1N (by omega) (by omega) ?_) | (refine r_addN (by omega) ?_) | (refine r_add (by omega) (by omega) ?_) | (refine r_ixsN (by omega) ?_) | (refine r_iaaN (by omega) ?_) | (refine r_sub (by omega) (by omega) ?_) | (refine r_mul (by omega) (by omega) ?_) | (refine r_dr H ?_; clear H; intro _ S_ H; replace S := S.trans S_; clear S_) | refine r_ld 0 H rfl rfl ?_ | refine r_ld 1 H rfl rfl ?_ | refine r_ld 2 H rfl rfl ?_ | refine r_ld 3 H rfl rfl ?_ | refine r_ld 4 H rfl rfl ?_ | ((with_reducible refine r_vtD ?h ?_); (case h => omega)) | ((with_reducible refine r_vfD ?h ?_); (case h => omega)) | ((with_reducible refine r_vtE ?h ?_); (case h => omega)) | ((with_reducible refine r_vfE ?h ?_); (case h => omega)) | ((with_reducible refine r_vtN ?h ?_); (case h => omega)) | ((with_reducible refine r_vfN ?h ?_); (case h => omega)))
    have hc := hbt r
    have hnp := nx_pos last.data.toList s (by omega)
    have hlk := lnS_link last.data.toList s (by omega) (by omega)
    have hnl := nxL_link last.data.toList s (by omega) (by omega)
    have hpl := pos_lt last.data.toList r (by omega)
    rw [hrs] at hnp hlk hnl
    obtain ⟨oa, sp, rfl, H⟩ := H.open 1 rfl
    rw [List.set_cons_succ, List.set_cons_zero] at H
    repeat (first | ((with_reducible apply r_ld 0 H); (exact rfl); (with_reducible exact (cnx hn (nxL_get _ _ _ hc)))) | ((with_reducible apply r_ld 0 H); (exact rfl); (with_reducible exact (c257 hn))) | refine r_nc ?_ | refine r_fo0 ?_ | refine r_fo ?_ | refine r_ke ?_ | refine r_lns ?_ | refine r_lnl ?_ | refine r_eql ?_ | refine r_neq ?_ | refine r_lss ?_ | refine r_leq ?_ | refine r_gtr ?_ | refine r_geq ?_ | refine r_seq0 ?_ | refine r_sne0 ?_ | refine r_seq ?_ | refine r_sne ?_ | (with_reducible refine r_notT ?_) | (with_reducible refine r_notF ?_) | refine r_not ?_ | (with_reducible refine r_bnST ?_) | (with_reducible refine r_bnSF ?_) | (with_reducible refine r_bnNT ?_) | (with_reducible refine r_bnNF ?_) | (with_reducible refine r_ex20 ?_) | (with_reducible refine r_ex21 ?_) | (with_reducible refine r_ex30 ?_) | (with_reducible refine r_ex31 ?_) | (with_reducible refine r_ex32 ?_) | (with_reducible refine r_vt ?_) | (with_reducible refine r_vf ?_) | refine r_bb ?_ | refine r_ex rfl ?_ | refine r_ci ?_ | (refine r_add1N (by omega) ?_) | (refine r_sub1N (by omega) (by omega) ?_) | (refine r_addN (by omega) ?_) | (refine r_add (by omega) (by omega) ?_) | (refine r_ixsN (by omega) ?_) | (refine r_iaaN (by omega) ?_) | (refine r_sub (by omega) (by omega) ?_) | (refine r_mul (by omega) (by omega) ?_) | (refine r_dr H ?_; clear H; intro _ S_ H; replace S := S.trans S_; clear S_) | refine r_ld 0 H rfl rfl ?_ | refine r_ld 1 H rfl rfl ?_ | refine r_ld 2 H rfl rfl ?_ | refine r_ld 3 H rfl rfl ?_ | refine r_ld 4 H rfl rfl ?_ | ((with_reducible refine r_vtD ?h ?_); (case h => omega)) | ((with_reducible refine r_vfD ?h ?_); (case h => omega)) | ((with_reducible refine r_vtE ?h ?_); (case h => omega)) | ((with_reducible refine r_vfE ?h ?_); (case h => omega)) | ((with_reducible refine r_vtN ?h ?_); (case h => omega)) | ((with_reducible refine r_vfN ?h ?_); (case h => omega)))
    rw [hnp]
    refine r_iasN 1 H rfl (by rw [lnS_len]; exact hpl) (Nat.le_refl _) ?_
    rintro b2 rfl
    refine r_stsl 1 H r rfl (by rw [lnS_len]; exact hpl) rfl rfl fun w2 S2 H2 => ?_
    clear H
    replace S := S.trans S2
    rw [List.set_cons_succ, List.set_cons_zero, hlk] at H2
    have H := H2
    clear H2
    repeat (first | ((with_reducible apply r_ld 0 H); (exact rfl); (with_reducible exact (cnx hn (nxL_get _ _ _ hc)))) | refine r_nc ?_ | refine r_fo0 ?_ | refine r_fo ?_ | refine r_ke ?_ | refine r_lns ?_ | refine r_lnl ?_ | refine r_eql ?_ | refine r_neq ?_ | refine r_lss ?_ | refine r_leq ?_ | refine r_gtr ?_ | refine r_geq ?_ | refine r_seq0 ?_ | refine r_sne0 ?_ | refine r_seq ?_ | refine r_sne ?_ | (with_reducible refine r_notT ?_) | (with_reducible refine r_notF ?_) | refine r_not ?_ | (with_reducible refine r_bnST ?_) | (with_reducible refine r_bnSF ?_) | (with_reducible refine r_bnNT ?_) | (with_reducible refine r_bnNF ?_) | (with_reducible refine r_ex20 ?_) | (with_reducible refine r_ex21 ?_) | (with_reducible refine r_ex30 ?_) | (with_reducible refine r_ex31 ?_) | (with_reducible refine r_ex32 ?_) | (with_reducible refine r_vt ?_) | (with_reducible refine r_vf ?_) | refine r_bb ?_ | refine r_ex rfl ?_ | refine r_ci ?_ | (refine r_add1N (by omega) ?_) | (refine r_sub1N (by omega) (by omega) ?_) | (refine r_addN (by omega) ?_) | (refine r_add (by omega) (by omega) ?_) | (refine r_ixsN (by omega) ?_) | (refine r_iaaN (by omega) ?_) | (refine r_sub (by omega) (by omega) ?_) | (refine r_mul (by omega) (by omega) ?_) | (refine r_dr H ?_; clear H; intro _ S_ H; replace S := S.trans S_; clear S_) | refine r_ld 0 H rfl rfl ?_ | refine r_ld 1 H rfl rfl ?_ | refine r_ld 2 H rfl rfl ?_ | refine r_ld 3 H rfl rfl ?_ | refine r_ld 4 H rfl rfl ?_ | ((with_reducible refine r_vtD ?h ?_); (case h => omega)) | ((with_reducible refine r_vfD ?h ?_); (case h => omega)) | ((with_reducible refine r_vtE ?h ?_); (case h => omega)) | ((with_reducible refine r_vfE ?h ?_); (case h => omega)) | ((with_reducible refine r_vtN ?h ?_); (case h => omega)) | ((with_reducible refine r_vfN ?h ?_); (case h => omega)))
    have hnc := hnx (last.data.toList.getD r 0).toNat
    repeat (first | ((with_reducible apply r_ld 0 H); (exact rfl); (with_reducible exact (cnx hn (nxL_get _ _ _ hc)))) | refine r_nc ?_ | refine r_fo0 ?_ | refine r_fo ?_ | refine r_ke ?_ | refine r_lns ?_ | refine r_lnl ?_ | refine r_eql ?_ | refine r_neq ?_ | refine r_lss ?_ | refine r_leq ?_ | refine r_gtr ?_ | refine r_geq ?_ | refine r_seq0 ?_ | refine r_sne0 ?_ | refine r_seq ?_ | refine r_sne ?_ | (with_reducible refine r_notT ?_) | (with_reducible refine r_notF ?_) | refine r_not ?_ | (with_reducible refine r_bnST ?_) | (with_reducible refine r_bnSF ?_) | (with_reducible refine r_bnNT ?_) | (with_reducible refine r_bnNF ?_) | (with_reducible refine r_ex20 ?_) | (with_reducible refine r_ex21 ?_) | (with_reducible refine r_ex30 ?_) | (with_reducible refine r_ex31 ?_) | (with_reducible refine r_ex32 ?_) | (with_reducible refine r_vt ?_) | (with_reducible refine r_vf ?_) | refine r_bb ?_ | refine r_ex rfl ?_ | refine r_ci ?_ | (refine r_add1N (by omega) ?_) | (refine r_sub1N (by omega) (by omega) ?_) | (refine r_addN (by omega) ?_) | (refine r_add (by omega) (by omega) ?_) | (refine r_ixsN (by omega) ?_) | (refine r_iaaN (by omega) ?_) | (refine r_sub (by omega) (by omega) ?_) | (refine r_mul (by omega) (by omega) ?_) | (refine r_dr H ?_; clear H; intro _ S_ H; replace S := S.trans S_; clear S_) | refine r_ld 0 H rfl rfl ?_ | refine r_ld 1 H rfl rfl ?_ | refine r_ld 2 H rfl rfl ?_ | refine r_ld 3 H rfl rfl ?_ | refine r_ld 4 H rfl rfl ?_ | ((with_reducible refine r_vtD ?h ?_); (case h => omega)) | ((with_reducible refine r_vfD ?h ?_); (case h => omega)) | ((with_reducible refine r_vtE ?h ?_); (case h => omega)) | ((with_reducible refine r_vfE ?h ?_); (case h => omega)) | ((with_reducible refine r_vtN ?h ?_); (case h => omega)) | ((with_reducible refine r_vfN ?h ?_); (case h => omega)))
    refine r_st 0 H rfl (by rw [clen hn]; omega) rfl fun w3 S3 H3 => ?_
    rw [snx hn _ hc, List.set_cons_zero, hnl] at H3
    have H4 := H3.close 1 rfl
    rw [List.set_cons_succ, List.set_cons_zero, lnS_len] at H4
    rw [lnS_len] at H4
    rw [show s + 1 - 2 * last.size = s - 2 * last.size by omega]
    exact r_ke ⟨t, _, ov, S.trans S3, H4⟩
  · -- following
    have hlS := lnS_high last.data.toList s (by omega)
    have hlS' := lnS_high last.data.toList (s + 1) (by omega)
    have hnS := nxL_high last.data.toList s (by omega)
    obtain ⟨m, hm⟩ : ∃ m, s - 2 * last.size = m := ⟨_, rfl⟩
    have hm' : s + 1 - 2 * last.size = m + 1 := by omega
    rw [hm, hlS] at H
    rw [hm] at hk
    rw [hm', hlS', ← hnS]
    have ha := atK_lt last.data.toList o (by omega) m
    have ha' := atK_lt last.data.toList o (by omega) (m + 1)
    have hll2 : (links last.data.toList).length = last.size := by rw [← hll]; exact lnk_len _ _
    obtain ⟨oa, sp, rfl, H⟩ := H.open 1 rfl
    rw [List.set_cons_succ, List.set_cons_zero] at H
    repeat (first | ((with_reducible apply r_ld 0 H); (exact rfl); (with_reducible exact (c257 hn))) | ((with_reducible apply r_ld 0 H); (exact rfl); (with_reducible exact (c258 hn))) | refine r_nc ?_ | refine r_fo0 ?_ | refine r_fo ?_ | refine r_ke ?_ | refine r_lns ?_ | refine r_lnl ?_ | refine r_eql ?_ | refine r_neq ?_ | refine r_lss ?_ | refine r_leq ?_ | refine r_gtr ?_ | refine r_geq ?_ | refine r_seq0 ?_ | refine r_sne0 ?_ | refine r_seq ?_ | refine r_sne ?_ | (with_reducible refine r_notT ?_) | (with_reducible refine r_notF ?_) | refine r_not ?_ | (with_reducible refine r_bnST ?_) | (with_reducible refine r_bnSF ?_) | (with_reducible refine r_bnNT ?_) | (with_reducible refine r_bnNF ?_) | (with_reducible refine r_ex20 ?_) | (with_reducible refine r_ex21 ?_) | (with_reducible refine r_ex30 ?_) | (with_reducible refine r_ex31 ?_) | (with_reducible refine r_ex32 ?_) | (with_reducible refine r_vt ?_) | (with_reducible refine r_vf ?_) | refine r_bb ?_ | refine r_ex rfl ?_ | refine r_ci ?_ | (refine r_add1N (by omega) ?_) | (refine r_sub1N (by omega) (by omega) ?_) | (refine r_addN (by omega) ?_) | (refine r_add (by omega) (by omega) ?_) | (refine r_ixsN (by omega) ?_) | (refine r_iaaN (by omega) ?_) | (refine r_sub (by omega) (by omega) ?_) | (refine r_mul (by omega) (by omega) ?_) | (refine r_dr H ?_; clear H; intro _ S_ H; replace S := S.trans S_; clear S_) | refine r_ld 0 H rfl rfl ?_ | refine r_ld 1 H rfl rfl ?_ | refine r_ld 2 H rfl rfl ?_ | refine r_ld 3 H rfl rfl ?_ | refine r_ld 4 H rfl rfl ?_ | ((with_reducible refine r_vtD ?h ?_); (case h => omega)) | ((with_reducible refine r_vfD ?h ?_); (case h => omega)) | ((with_reducible refine r_vtE ?h ?_); (case h => omega)) | ((with_reducible refine r_vfE ?h ?_); (case h => omega)) | ((with_reducible refine r_vtN ?h ?_); (case h => omega)) | ((with_reducible refine r_vfN ?h ?_); (case h => omega)))
    refine r_iasN 1 H rfl (by omega) (Nat.le_refl _) ?_
    rintro b2 rfl
    have hat : (links last.data.toList)[atK last.data.toList o m]? = some (atK last.data.toList o (m + 1)) := by
      rw [atK, List.getD_eq_getElem?_getD, List.getElem?_eq_getElem (by omega)]; rfl
    refine r_ldsl 1 H rfl hat ?_
    repeat (first | refine r_nc ?_ | refine r_fo0 ?_ | refine r_fo ?_ | refine r_ke ?_ | refine r_lns ?_ | refine r_lnl ?_ | refine r_eql ?_ | refine r_neq ?_ | refine r_lss ?_ | refine r_leq ?_ | refine r_gtr ?_ | refine r_geq ?_ | refine r_seq0 ?_ | refine r_sne0 ?_ | refine r_seq ?_ | refine r_sne ?_ | (with_reducible refine r_notT ?_) | (with_reducible refine r_notF ?_) | refine r_not ?_ | (with_reducible refine r_bnST ?_) | (with_reducible refine r_bnSF ?_) | (with_reducible refine r_bnNT ?_) | (with_reducible refine r_bnNF ?_) | (with_reducible refine r_ex20 ?_) | (with_reducible refine r_ex21 ?_) | (with_reducible refine r_ex30 ?_) | (with_reducible refine r_ex31 ?_) | (with_reducible refine r_ex32 ?_) | (with_reducible refine r_vt ?_) | (with_reducible refine r_vf ?_) | refine r_bb ?_ | refine r_ex rfl ?_ | refine r_ci ?_ | (refine r_add1N (by omega) ?_) | (refine r_sub1N (by omega) (by omega) ?_) | (refine r_addN (by omega) ?_) | (refine r_add (by omega) (by omega) ?_) | (refine r_ixsN (by omega) ?_) | (refine r_iaaN (by omega) ?_) | (refine r_sub (by omega) (by omega) ?_) | (refine r_mul (by omega) (by omega) ?_) | (refine r_dr H ?_; clear H; intro _ S_ H; replace S := S.trans S_; clear S_) | refine r_ld 0 H rfl rfl ?_ | refine r_ld 1 H rfl rfl ?_ | refine r_ld 2 H rfl rfl ?_ | refine r_ld 3 H rfl rfl ?_ | refine r_ld 4 H rfl rfl ?_ | ((with_reducible refine r_vtD ?h ?_); (case h => omega)) | ((with_reducible refine r_vfD ?h ?_); (case h => omega)) | ((with_reducible refine r_vtE ?h ?_); (case h => omega)) | ((with_reducible refine r_vfE ?h ?_); (case h => omega)) | ((with_reducible refine r_vtN ?h ?_); (case h => omega)) | ((with_reducible refine r_vfN ?h ?_); (case h => omega)))
    refine r_st 0 H rfl (by rw [clen hn]; omega) rfl fun w2 S2 H2 => ?_
    rw [s258 hn, List.set_cons_zero] at H2
    clear H
    have H := H2
    clear H2
    replace S := S.trans S2
    obtain ⟨oa, sp, rfl, H⟩ := H.open 2 rfl
    rw [List.set_cons_succ, List.set_cons_succ, List.set_cons_zero] at H
    repeat (first | ((with_reducible apply r_ld 0 H); (exact rfl); (with_reducible exact (c258 hn))) | ((with_reducible apply r_ld 0 H); (exact rfl); (with_reducible exact (c259 hn))) | refine r_nc ?_ | refine r_fo0 ?_ | refine r_fo ?_ | refine r_ke ?_ | refine r_lns ?_ | refine r_lnl ?_ | refine r_eql ?_ | refine r_neq ?_ | refine r_lss ?_ | refine r_leq ?_ | refine r_gtr ?_ | refine r_geq ?_ | refine r_seq0 ?_ | refine r_sne0 ?_ | refine r_seq ?_ | refine r_sne ?_ | (with_reducible refine r_notT ?_) | (with_reducible refine r_notF ?_) | refine r_not ?_ | (with_reducible refine r_bnST ?_) | (with_reducible refine r_bnSF ?_) | (with_reducible refine r_bnNT ?_) | (with_reducible refine r_bnNF ?_) | (with_reducible refine r_ex20 ?_) | (with_reducible refine r_ex21 ?_) | (with_reducible refine r_ex30 ?_) | (with_reducible refine r_ex31 ?_) | (with_reducible refine r_ex32 ?_) | (with_reducible refine r_vt ?_) | (with_reducible refine r_vf ?_) | refine r_bb ?_ | refine r_ex rfl ?_ | refine r_ci ?_ | (refine r_add1N (by omega) ?_) | (refine r_sub1N (by omega) (by omega) ?_) | (refine r_addN (by omega) ?_) | (refine r_add (by omega) (by omega) ?_) | (refine r_ixsN (by omega) ?_) | (refine r_iaaN (by omega) ?_) | (refine r_sub (by omega) (by omega) ?_) | (refine r_mul (by omega) (by omega) ?_) | (refine r_dr H ?_; clear H; intro _ S_ H; replace S := S.trans S_; clear S_) | refine r_ld 0 H rfl rfl ?_ | refine r_ld 1 H rfl rfl ?_ | refine r_ld 2 H rfl rfl ?_ | refine r_ld 3 H rfl rfl ?_ | refine r_ld 4 H rfl rfl ?_ | ((with_reducible refine r_vtD ?h ?_); (case h => omega)) | ((with_reducible refine r_vfD ?h ?_); (case h => omega)) | ((with_reducible refine r_vtE ?h ?_); (case h => omega)) | ((with_reducible refine r_vfE ?h ?_); (case h => omega)) | ((with_reducible refine r_vtN ?h ?_); (case h => omega)) | ((with_reducible refine r_vfN ?h ?_); (case h => omega)))
    have hol : (outK last.data.toList o m).length = m := outK_len _ _ _
    have hout : (outK last.data.toList o m).drop k ++ [last.data.toList.getD (atK last.data.toList o (m + 1)) 0] = (outK last.data.toList o (m + 1)).drop k := by
      rw [outK, List.drop_append_of_le_length (by omega)]
    refine r_bs1 H rfl fun b3 w3 S3 H3 => ?_
    replace S := S.trans S3
    refine r_rk (r_ld 1 H3 rfl (c259 hn) rfl) ?_
    refine r_ap (f := bv) (ys := [last.data.toList.getD (atK last.data.toList o (m + 1)) 0]) H3 3 0 rfl rfl rfl rfl rfl rfl (fun _ => rfl) (by simp; omega) (by simp) fun oa' sp' w4 S4 H4 => ?_
    replace S := S.trans S4
    rw [hout, List.set_cons_succ, List.set_cons_succ, List.set_cons_succ, List.set_cons_zero] at H4
    have hlen : ((outK last.data.toList o m).drop k).length + [last.data.toList.getD (atK last.data.toList o (m + 1)) 0].length = ((outK last.data.toList o (m + 1)).drop k).length := by
      rw [← hout, List.length_append]
    rw [hlen]
    clear H H3
    have H := H4.drop
    clear H4
    repeat (first | refine r_nc ?_ | refine r_fo0 ?_ | refine r_fo ?_ | refine r_ke ?_ | refine r_lns ?_ | refine r_lnl ?_ | refine r_eql ?_ | refine r_neq ?_ | refine r_lss ?_ | refine r_leq ?_ | refine r_gtr ?_ | refine r_geq ?_ | refine r_seq0 ?_ | refine r_sne0 ?_ | refine r_seq ?_ | refine r_sne ?_ | (with_reducible refine r_notT ?_) | (with_reducible refine r_notF ?_) | refine r_not ?_ | (with_reducible refine r_bnST ?_) | (with_reducible refine r_bnSF ?_) | (with_reducible refine r_bnNT ?_) | (with_reducible refine r_bnNF ?_) | (with_reducible refine r_ex20 ?_) | (with_reducible refine r_ex21 ?_) | (with_reducible refine r_ex30 ?_) | (with_reducible refine r_ex31 ?_) | (with_reducible refine r_ex32 ?_) | (with_reducible refine r_vt ?_) | (with_reducible refine r_vf ?_) | refine r_bb ?_ | refine r_ex rfl ?_ | refine r_ci ?_ | (refine r_add1N (by omega) ?_) | (refine r_sub1N (by omega) (by omega) ?_) | (refine r_addN (by omega) ?_) | (refine r_add (by omega) (by omega) ?_) | (refine r_ixsN (by omega) ?_) | (refine r_iaaN (by omega) ?_) | (refine r_sub (by omega) (by omega) ?_) | (refine r_mul (by omega) (by omega) ?_) | (refine r_dr H ?_; clear H; intro _ S_ H; replace S := S.trans S_; clear S_) | refine r_ld 0 H rfl rfl ?_ | refine r_ld 1 H rfl rfl ?_ | refine r_ld 2 H rfl rfl ?_ | refine r_ld 3 H rfl rfl ?_ | refine r_ld 4 H rfl rfl ?_ | ((with_reducible refine r_vtD ?h ?_); (case h => omega)) | ((with_reducible refine r_vfD ?h ?_); (case h => omega)) | ((with_reducible refine r_vtE ?h ?_); (case h => omega)) | ((with_reducible refine r_vfE ?h ?_); (case h => omega)) | ((with_reducible refine r_vtN ?h ?_); (case h => omega)) | ((with_reducible refine r_vfN ?h ?_); (case h => omega)))
    refine r_st 0 H rfl (by rw [clen hn]; omega) rfl fun w5 S5 H5 => ?_
    rw [s259 hn, List.set_cons_zero] at H5
    have H6 := (H5.close 1 rfl)
    rw [List.set_cons_succ, List.set_cons_zero] at H6
    have H7 := (H6.close 2 rfl)
    rw [List.set_cons_succ, List.set_cons_succ, List.set_cons_zero] at H7
    exact r_ke ⟨t, _, _, S.trans S5, H7⟩

theorem Done_spec {last : ByteArray} {o s k : Nat} (H : Holds w (InvR b last o s k :: L)) (hl : last.size ≤ 1000000)
    (post : ∀ w', Same w w' → Holds w' (InvR b last o s k :: L) → K (.bool ((s : Int) == 3 * (last.size : Int))) w') :
    Cl Try.prog F.unbwt_Inverter_Done #[.pointer (some ⟨b, 0, none⟩)] w K := by
  obtain ⟨t, lv, ov, H⟩ := InvR_open H
  exact Done_raw (nxL_len _ _) H hl fun w' S H => post w' S (InvR_close H)
theorem InvR_cell {last : ByteArray} {o s k : Nat} (H : Holds w (InvR b last o s k :: L)) : w.cell? ⟨b, 260, none⟩ = some (nv s) := by
  obtain ⟨t, lv, ov, H⟩ := InvR_open H
  exact (H.cell 0 rfl 260).trans (c260 (nxL_len _ _))
theorem Step_spec {last : ByteArray} {o s k : Nat} {budget : Int} (H : Holds w (InvR b last o s k :: L)) (hs : s ≤ 3 * last.size) (hl : last.size ≤ 1000000) (ho : o < last.size) (hk : k ≤ s - 2 * last.size)
    (post : ∀ w', Same w w' → Holds w' (InvR b last o (s + min budget.toNat (3 * last.size - s)) k :: L) → K (nv (min budget.toNat (3 * last.size - s))) w') :
    Cl Try.prog F.unbwt_Inverter_Step #[.pointer (some ⟨b, 0, none⟩), .int .i64 budget] w K := by
  refine Tie.unbwt_Inverter_Step ?_
  unfold Vcf.unbwt_Inverter_Step
  have hn := nxL_len last.data.toList s
  have S := Same.refl w
  obtain ⟨t, lv, ov, H0⟩ := InvR_open H
  have H' := H
  clear H
  have H := H0
  repeat (first | ((with_reducible apply r_ld 0 H); (exact rfl); (with_reducible exact (c260 hn))) | refine r_nc ?_ | refine r_fo0 ?_ | refine r_fo ?_ | refine r_ke ?_ | refine r_lns ?_ | refine r_lnl ?_ | refine r_eql ?_ | refine r_neq ?_ | refine r_lss ?_ | refine r_leq ?_ | refine r_gtr ?_ | refine r_geq ?_ | refine r_seq0 ?_ | refine r_sne0 ?_ | refine r_seq ?_ | refine r_sne ?_ | (with_reducible refine r_notT ?_) | (with_reducible refine r_notF ?_) | refine r_not ?_ | (with_reducible refine r_bnST ?_) | (with_reducible refine r_bnSF ?_) | (with_reducible refine r_bnNT ?_) | (with_reducible refine r_bnNF ?_) | (with_reducible refine r_ex20 ?_) | (with_reducible refine r_ex21 ?_) | (with_reducible refine r_ex30 ?_) | (with_reducible refine r_ex31 ?_) | (with_reducible refine r_ex32 ?_) | (with_reducible refine r_vt ?_) | (with_reducible refine r_vf ?_) | refine r_bb ?_ | refine r_ex rfl ?_ | refine r_ci ?_ | (refine r_add1N (by omega) ?_) | (refine r_sub1N (by omega) (by omega) ?_) | (refine r_addN (by omega) ?_) | (refine r_add (by omega) (by omega) ?_) | (refine r_ixsN (by omega) ?_) | (refine r_iaaN (by omega) ?_) | (refine r_sub (by omega) (by omega) ?_) | (refine r_mul (by omega) (by omega) ?_) | (refine r_dr H ?_; clear H; intro _ S_ H; replace S := S.trans S_; clear S_) | refine r_ld 0 H rfl rfl ?_ | refine r_ld 1 H rfl rfl ?_ | refine r_ld 2 H rfl rfl ?_ | refine r_ld 3 H rfl rfl ?_ | refine r_ld 4 H rfl rfl ?_ | ((with_reducible refine r_vtD ?h ?_); (case h => omega)) | ((with_reducible refine r_vfD ?h ?_); (case h => omega)) | ((with_reducible refine r_vtE ?h ?_); (case h => omega)) | ((with_reducible refine r_vfE ?h ?_); (case h => omega)) | ((with_reducible refine r_vtN ?h ?_); (case h => omega)) | ((with_reducible refine r_vfN ?h ?_); (case h => omega)))
  clear H H0
  refine r_loop0 (fun w' => ∃ s', s ≤ s' ∧ s' ≤ 3 * last.size ∧ s' - s ≤ budget.toNat ∧ Same w w' ∧ Holds w' (InvR b last o s' k :: L))
    (fun w' => match w'.cell? ⟨b, 260, none⟩ with | some (.int _ n) => 3 * last.size - n.toNat | _ => 0) ⟨s, by omega, hs, by omega, S, H'⟩ ?_
  rintro _ w1 ⟨s', h1, h2, h3, S, H⟩
  have hc := InvR_cell H
  refine r_join1 (fun x w' => ∃ c : Bool, x = .bool c ∧ (c = true ↔ s' < 3 * last.size ∧ ((s' - s : Nat) : Int) < budget) ∧ Same w w' ∧ Holds w' (InvR b last o s' k :: L)) ?_ ?_
  · rintro _ _ w2 ⟨c, rfl, hc2, S, H⟩
    refine r_vif (fun h => ?_) fun h => ?_
    · have h4 := hc2.1 h
      refine step_spec H h4.1 hl ho (by omega) fun w3 S3 H3 => r_ke ⟨⟨s' + 1, by omega, by omega, by omega, S.trans S3, H3⟩, ?_⟩
      rw [hc, InvR_cell H3]
      simp only [Int.toNat_natCast]
      omega
    · have h4 : ¬ (s' < 3 * last.size ∧ ((s' - s : Nat) : Int) < budget) := fun h5 => by rw [hc2.2 h5] at h; cases h
      obtain ⟨t, lv, ov, H0⟩ := InvR_open H
      have H' := H
      clear H
      have H := H0
      have hn := nxL_len last.data.toList s'
      repeat (first | ((with_reducible apply r_ld 0 H); (exact rfl); (with_reducible exact (c260 hn))) | refine r_nc ?_ | refine r_fo0 ?_ | refine r_fo ?_ | refine r_ke ?_ | refine r_lns ?_ | refine r_lnl ?_ | refine r_eql ?_ | refine r_neq ?_ | refine r_lss ?_ | refine r_leq ?_ | refine r_gtr ?_ | refine r_geq ?_ | refine r_seq0 ?_ | refine r_sne0 ?_ | refine r_seq ?_ | refine r_sne ?_ | (with_reducible refine r_notT ?_) | (with_reducible refine r_notF ?_) | refine r_not ?_ | (with_reducible refine r_bnST ?_) | (with_reducible refine r_bnSF ?_) | (with_reducible refine r_bnNT ?_) | (with_reducible refine r_bnNF ?_) | (with_reducible refine r_ex20 ?_) | (with_reducible refine r_ex21 ?_) | (with_reducible refine r_ex30 ?_) | (with_reducible refine r_ex31 ?_) | (with_reducible refine r_ex32 ?_) | (with_reducible refine r_vt ?_) | (with_reducible refine r_vf ?_) | refine r_bb ?_ | refine r_ex rfl ?_ | refine r_ci ?_ | (refine r_add1N (by omega) ?_) | (refine r_sub1N (by omega) (by omega) ?_) | (refine r_addN (by omega) ?_) | (refine r_add (by omega) (by omega) ?_) | (refine r_ixsN (by omega) ?_) | (refine r_iaaN (by omega) ?_) | (refine r_sub (by omega) (by omega) ?_) | (refine r_mul (by omega) (by omega) ?_) | (refine r_dr H ?_; clear H; intro _ S_ H; replace S := S.trans S_; clear S_) | refine r_ld 0 H rfl rfl ?_ | refine r_ld 1 H rfl rfl ?_ | refine r_ld 2 H rfl rfl ?_ | refine r_ld 3 H rfl rfl ?_ | refine r_ld 4 H rfl rfl ?_ | ((with_reducible refine r_vtD ?h ?_); (case h => omega)) | ((with_reducible refine r_vfD ?h ?_); (case h => omega)) | ((with_reducible refine r_vtE ?h ?_); (case h => omega)) | ((with_reducible refine r_vfE ?h ?_); (case h => omega)) | ((with_reducible refine r_vtN ?h ?_); (case h => omega)) | ((with_reducible refine r_vfN ?h ?_); (case h => omega)))
      have e : s' - s = min budget.toNat (3 * last.size - s) := by omega
      have := post w2 S (by rw [← e, show s + (s' - s) = s' by omega]; exact H')
      rw [← e] at this
      rw [show ((s' : Int) - (s : Int)) = ((s' - s : Nat) : Int) by omega]
      exact this
  · refine Done_spec H hl fun w3 S3 H3 => ?_
    replace S := S.trans S3
    clear H
    repeat (first | refine r_nc ?_ | refine r_fo0 ?_ | refine r_fo ?_ | refine r_ke ?_ | refine r_lns ?_ | refine r_lnl ?_ | refine r_eql ?_ | refine r_neq ?_ | refine r_lss ?_ | refine r_leq ?_ | refine r_gtr ?_ | refine r_geq ?_ | refine r_seq0 ?_ | refine r_sne0 ?_ | refine r_seq ?_ | refine r_sne ?_ | (with_reducible refine r_notT ?_) | (with_reducible refine r_notF ?_) | refine r_not ?_ | (with_reducible refine r_bnST ?_) | (with_reducible refine r_bnSF ?_) | (with_reducible refine r_bnNT ?_) | (with_reducible refine r_bnNF ?_) | (with_reducible refine r_ex20 ?_) | (with_reducible refine r_ex21 ?_) | (with_reducible refine r_ex30 ?_) | (with_reducible refine r_ex31 ?_) | (with_reducible refine r_ex32 ?_) | (with_reducible refine r_vt ?_) | (with_reducible refine r_vf ?_) | refine r_bb ?_ | refine r_ex rfl ?_ | refine r_ci ?_ | (refine r_add1N (by omega) ?_) | (refine r_sub1N (by omega) (by omega) ?_) | (refine r_addN (by omega) ?_) | (refine r_add (by omega) (by omega) ?_) | (refine r_ixsN (by omega) ?_) | (refine r_iaaN (by omega) ?_) | (refine r_sub (by omega) (by omega) ?_) | (refine r_mul (by omega) (by omega) ?_) | (refine r_dr H ?_; clear H; intro _ S_ H; replace S := S.trans S_; clear S_) | refine r_ld 0 H rfl rfl ?_ | refine r_ld 1 H rfl rfl ?_ | refine r_ld 2 H rfl rfl ?_ | refine r_ld 3 H rfl rfl ?_ | refine r_ld 4 H rfl rfl ?_ | ((with_reducible refine r_vtD ?h ?_); (case h => omega)) | ((with_reducible refine r_vfD ?h ?_); (case h => omega)) | ((with_reducible refine r_vtE ?h ?_); (case h => omega)) | ((with_reducible refine r_vfE ?h ?_); (case h => omega)) | ((with_reducible refine r_vtN ?h ?_); (case h => omega)) | ((with_reducible refine r_vfN ?h ?_); (case h => omega)))
    refine r_ifNE (fun h => ?_) fun h => ?_
    · obtain ⟨t, lv, ov, H0⟩ := InvR_open H3
      have H := H0
      have hn := nxL_len last.data.toList s'
      repeat (first | ((with_reducible apply r_ld 0 H); (exact rfl); (with_reducible exact (c260 hn))) | refine r_nc ?_ | refine r_fo0 ?_ | refine r_fo ?_ | refine r_ke ?_ | refine r_lns ?_ | refine r_lnl ?_ | refine r_eql ?_ | refine r_neq ?_ | refine r_lss ?_ | refine r_leq ?_ | refine r_gtr ?_ | refine r_geq ?_ | refine r_seq0 ?_ | refine r_sne0 ?_ | refine r_seq ?_ | refine r_sne ?_ | (with_reducible refine r_notT ?_) | (with_reducible refine r_notF ?_) | refine r_not ?_ | (with_reducible refine r_bnST ?_) | (with_reducible refine r_bnSF ?_) | (with_reducible refine r_bnNT ?_) | (with_reducible refine r_bnNF ?_) | (with_reducible refine r_ex20 ?_) | (with_reducible refine r_ex21 ?_) | (with_reducible refine r_ex30 ?_) | (with_reducible refine r_ex31 ?_) | (with_reducible refine r_ex32 ?_) | (with_reducible refine r_vt ?_) | (with_reducible refine r_vf ?_) | refine r_bb ?_ | refine r_ex rfl ?_ | refine r_ci ?_ | (refine r_add1N (by omega) ?_) | (refine r_sub1N (by omega) (by omega) ?_) | (refine r_addN (by omega) ?_) | (refine r_add (by omega) (by omega) ?_) | (refine r_ixsN (by omega) ?_) | (refine r_iaaN (by omega) ?_) | (refine r_sub (by omega) (by omega) ?_) | (refine r_mul (by omega) (by omega) ?_) | (refine r_dr H ?_; clear H; intro _ S_ H; replace S := S.trans S_; clear S_) | refine r_ld 0 H rfl rfl ?_ | refine r_ld 1 H rfl rfl ?_ | refine r_ld 2 H rfl rfl ?_ | refine r_ld 3 H rfl rfl ?_ | refine r_ld 4 H rfl rfl ?_ | ((with_reducible refine r_vtD ?h ?_); (case h => omega)) | ((with_reducible refine r_vfD ?h ?_); (case h => omega)) | ((with_reducible refine r_vtE ?h ?_); (case h => omega)) | ((with_reducible refine r_vfE ?h ?_); (case h => omega)) | ((with_reducible refine r_vtN ?h ?_); (case h => omega)) | ((with_reducible refine r_vfN ?h ?_); (case h => omega)))
      refine ⟨_, rfl, ?_, S, H3⟩
      rw [decide_eq_true_iff]
      constructor
      · intro h; exact ⟨by omega, by omega⟩
      · intro h; omega
    · refine r_ke ⟨false, rfl, ?_, S, H3⟩
      constructor
      · intro h; cases h
      · intro h; omega
/-- The first state. -/
theorem New_spec {last : ByteArray} {origin : Int} (H : Holds w L)
    (p1 : last.size = 0 → K (.tuple #[.pointer none, .int .i64 1]) w)
    (p2 : 900000 < last.size → K (.tuple #[.pointer none, .int .i64 2]) w)
    (p3 : 0 < last.size → last.size ≤ 900000 → (origin < 0 ∨ (last.size : Int) ≤ origin) → K (.tuple #[.pointer none, .int .i64 23]) w)
    (p4 : ∀ (o : Nat) b w', origin = o → o < last.size → last.size ≤ 900000 → Same w w' → Holds w' (InvR b last o 0 0 :: L) → K (.tuple #[.pointer (some ⟨b, 0, none⟩), .int .i64 0]) w') :
    Cl Try.prog F.unbwt_New #[.string last, .int .i64 origin] w K := by
  refine Tie.unbwt_New ?_
  unfold Vcf.unbwt_New
  have S := Same.refl w
  repeat (first | refine r_nc ?_ | refine r_fo0 ?_ | refine r_fo ?_ | refine r_ke ?_ | refine r_lns ?_ | refine r_lnl ?_ | refine r_eql ?_ | refine r_neq ?_ | refine r_lss ?_ | refine r_leq ?_ | refine r_gtr ?_ | refine r_geq ?_ | refine r_seq0 ?_ | refine r_sne0 ?_ | refine r_seq ?_ | refine r_sne ?_ | (with_reducible refine r_notT ?_) | (with_reducible refine r_notF ?_) | refine r_not ?_ | (with_reducible refine r_bnST ?_) | (with_reducible refine r_bnSF ?_) | (with_reducible refine r_bnNT ?_) | (with_reducible refine r_bnNF ?_) | (with_reducible refine r_ex20 ?_) | (with_reducible refine r_ex21 ?_) | (with_reducible refine r_ex30 ?_) | (with_reducible refine r_ex31 ?_) | (with_reducible refine r_ex32 ?_) | (with_reducible refine r_vt ?_) | (with_reducible refine r_vf ?_) | refine r_bb ?_ | refine r_ex rfl ?_ | refine r_ci ?_ | (refine r_add1N (by omega) ?_) | (refine r_sub1N (by omega) (by omega) ?_) | (refine r_addN (by omega) ?_) | (refine r_add (by omega) (by omega) ?_) | (refine r_ixsN (by omega) ?_) | (refine r_iaaN (by omega) ?_) | (refine r_sub (by omega) (by omega) ?_) | (refine r_mul (by omega) (by omega) ?_) | (refine r_dr H ?_; clear H; intro _ S_ H; replace S := S.trans S_; clear S_) | refine r_ld 0 H rfl rfl ?_ | refine r_ld 1 H rfl rfl ?_ | refine r_ld 2 H rfl rfl ?_ | refine r_ld 3 H rfl rfl ?_ | refine r_ld 4 H rfl rfl ?_ | ((with_reducible refine r_vtD ?h ?_); (case h => omega)) | ((with_reducible refine r_vfD ?h ?_); (case h => omega)) | ((with_reducible refine r_vtE ?h ?_); (case h => omega)) | ((with_reducible refine r_vfE ?h ?_); (case h => omega)) | ((with_reducible refine r_vtN ?h ?_); (case h => omega)) | ((with_reducible refine r_vfN ?h ?_); (case h => omega)))
  refine r_ifD p1 fun h1 => ?_
  repeat (first | refine r_nc ?_ | refine r_fo0 ?_ | refine r_fo ?_ | refine r_ke ?_ | refine r_lns ?_ | refine r_lnl ?_ | refine r_eql ?_ | refine r_neq ?_ | refine r_lss ?_ | refine r_leq ?_ | refine r_gtr ?_ | refine r_geq ?_ | refine r_seq0 ?_ | refine r_sne0 ?_ | refine r_seq ?_ | refine r_sne ?_ | (with_reducible refine r_notT ?_) | (with_reducible refine r_notF ?_) | refine r_not ?_ | (with_reducible refine r_bnST ?_) | (with_reducible refine r_bnSF ?_) | (with_reducible refine r_bnNT ?_) | (with_reducible refine r_bnNF ?_) | (with_reducible refine r_ex20 ?_) | (with_reducible refine r_ex21 ?_) | (with_reducible refine r_ex30 ?_) | (with_reducible refine r_ex31 ?_) | (with_reducible refine r_ex32 ?_) | (with_reducible refine r_vt ?_) | (with_reducible refine r_vf ?_) | refine r_bb ?_ | refine r_ex rfl ?_ | refine r_ci ?_ | (refine r_add1N (by omega) ?_) | (refine r_sub1N (by omega) (by omega) ?_) | (refine r_addN (by omega) ?_) | (refine r_add (by omega) (by omega) ?_) | (refine r_ixsN (by omega) ?_) | (refine r_iaaN (by omega) ?_) | (refine r_sub (by omega) (by omega) ?_) | (refine r_mul (by omega) (by omega) ?_) | (refine r_dr H ?_; clear H; intro _ S_ H; replace S := S.trans S_; clear S_) | refine r_ld 0 H rfl rfl ?_ | refine r_ld 1 H rfl rfl ?_ | refine r_ld 2 H rfl rfl ?_ | refine r_ld 3 H rfl rfl ?_ | refine r_ld 4 H rfl rfl ?_ | ((with_reducible refine r_vtD ?h ?_); (case h => omega)) | ((with_reducible refine r_vfD ?h ?_); (case h => omega)) | ((with_reducible refine r_vtE ?h ?_); (case h => omega)) | ((with_reducible refine r_vfE ?h ?_); (case h => omega)) | ((with_reducible refine r_vtN ?h ?_); (case h => omega)) | ((with_reducible refine r_vfN ?h ?_); (case h => omega)))
  refine r_ifD (fun h => p2 (by omega)) fun h2 => ?_
  have hl : last.size ≤ 900000 := by omega
  refine r_join1 (fun x w' => w' = w ∧ ∃ c : Bool, x = .bool c ∧ (c = true ↔ origin < 0 ∨ (last.size : Int) ≤ origin)) ?_ ?_
  · rintro _ _ _ ⟨rfl, c, rfl, hc⟩
    refine r_vif (fun h => p3 (by omega) hl (hc.1 h)) fun h => ?_
    have h3 : ¬ (origin < 0 ∨ (last.size : Int) ≤ origin) := fun h5 => by rw [hc.2 h5] at h; cases h
    obtain ⟨o, rfl⟩ : ∃ o : Nat, origin = o := ⟨origin.toNat, by omega⟩
    repeat (first | refine r_nc ?_ | refine r_fo0 ?_ | refine r_fo ?_ | refine r_ke ?_ | refine r_lns ?_ | refine r_lnl ?_ | refine r_eql ?_ | refine r_neq ?_ | refine r_lss ?_ | refine r_leq ?_ | refine r_gtr ?_ | refine r_geq ?_ | refine r_seq0 ?_ | refine r_sne0 ?_ | refine r_seq ?_ | refine r_sne ?_ | (with_reducible refine r_notT ?_) | (with_reducible refine r_notF ?_) | refine r_not ?_ | (with_reducible refine r_bnST ?_) | (with_reducible refine r_bnSF ?_) | (with_reducible refine r_bnNT ?_) | (with_reducible refine r_bnNF ?_) | (with_reducible refine r_ex20 ?_) | (with_reducible refine r_ex21 ?_) | (with_reducible refine r_ex30 ?_) | (with_reducible refine r_ex31 ?_) | (with_reducible refine r_ex32 ?_) | (with_reducible refine r_vt ?_) | (with_reducible refine r_vf ?_) | refine r_bb ?_ | refine r_ex rfl ?_ | refine r_ci ?_ | (refine r_add1N (by omega) ?_) | (refine r_sub1N (by omega) (by omega) ?_) | (refine r_addN (by omega) ?_) | (refine r_add (by omega) (by omega) ?_) | (refine r_ixsN (by omega) ?_) | (refine r_iaaN (by omega) ?_) | (refine r_sub (by omega) (by omega) ?_) | (refine r_mul (by omega) (by omega) ?_) | (refine r_dr H ?_; clear H; intro _ S_ H; replace S := S.trans S_; clear S_) | refine r_ld 0 H rfl rfl ?_ | refine r_ld 1 H rfl rfl ?_ | refine r_ld 2 H rfl rfl ?_ | refine r_ld 3 H rfl rfl ?_ | refine r_ld 4 H rfl rfl ?_ | ((with_reducible refine r_vtD ?h ?_); (case h => omega)) | ((with_reducible refine r_vfD ?h ?_); (case h => omega)) | ((with_reducible refine r_vtE ?h ?_); (case h => omega)) | ((with_reducible refine r_vfE ?h ?_); (case h => omega)) | ((with_reducible refine r_vtN ?h ?_); (case h => omega)) | ((with_reducible refine r_vfN ?h ?_); (case h => omega)))
    refine r_ms H (f := nv) (x := 0) rfl (by omega) (by omega) fun b2 w2 S2 H2 => ?_
    rw [Int.toNat_natCast] at H2 ⊢
    refine r_bd (v := .agg (invC last (List.replicate 256 0) (.slice (some ⟨b2, 0, none⟩) last.size last.size) o (.slice none 0 0) 0).toArray) (by kernel_rfl) ?_
    refine r_new H2 fun b w3 S3 H3 => ?_
    have H4 := H3.close 1 (f := nv) (by rfl)
    rw [List.set_cons_succ, List.set_cons_zero, List.length_replicate, List.length_nil, Nat.add_zero] at H4
    have H5 := ((H4.nilSL bv tB).swap).front 2 rfl
    have hll : last.data.toList.length = last.size := by simp
    refine p4 o b w3 rfl (by omega) hl (S2.trans S3) (InvR_close (t := 53) (lv := .slice (some ⟨b2, 0, none⟩) last.size last.size) (ov := .slice none 0 0) ?_)
    have e1 : nxL last.data.toList 0 = List.replicate 256 0 := by
      unfold nxL
      rw [List.eq_replicate_iff]
      refine ⟨by simp, fun x hx => ?_⟩
      obtain ⟨y, _, rfl⟩ := List.mem_map.1 hx
      rw [nx_lo (by omega)]; simp [cntB]
    have e2 : lnS last.data.toList 0 = List.replicate last.size 0 := by
      unfold lnS; rw [show (0 - last.data.toList.length) = 0 by omega, Nat.zero_min, lnk, hll]
    rw [e1, e2, show 0 - 2 * last.size = 0 by omega]
    exact H5.swap
  · repeat (first | refine r_nc ?_ | refine r_fo0 ?_ | refine r_fo ?_ | refine r_ke ?_ | refine r_lns ?_ | refine r_lnl ?_ | refine r_eql ?_ | refine r_neq ?_ | refine r_lss ?_ | refine r_leq ?_ | refine r_gtr ?_ | refine r_geq ?_ | refine r_seq0 ?_ | refine r_sne0 ?_ | refine r_seq ?_ | refine r_sne ?_ | (with_reducible refine r_notT ?_) | (with_reducible refine r_notF ?_) | refine r_not ?_ | (with_reducible refine r_bnST ?_) | (with_reducible refine r_bnSF ?_) | (with_reducible refine r_bnNT ?_) | (with_reducible refine r_bnNF ?_) | (with_reducible refine r_ex20 ?_) | (with_reducible refine r_ex21 ?_) | (with_reducible refine r_ex30 ?_) | (with_reducible refine r_ex31 ?_) | (with_reducible refine r_ex32 ?_) | (with_reducible refine r_vt ?_) | (with_reducible refine r_vf ?_) | refine r_bb ?_ | refine r_ex rfl ?_ | refine r_ci ?_ | (refine r_add1N (by omega) ?_) | (refine r_sub1N (by omega) (by omega) ?_) | (refine r_addN (by omega) ?_) | (refine r_add (by omega) (by omega) ?_) | (refine r_ixsN (by omega) ?_) | (refine r_iaaN (by omega) ?_) | (refine r_sub (by omega) (by omega) ?_) | (refine r_mul (by omega) (by omega) ?_) | (refine r_dr H ?_; clear H; intro _ S_ H; replace S := S.trans S_; clear S_) | refine r_ld 0 H rfl rfl ?_ | refine r_ld 1 H rfl rfl ?_ | refine r_ld 2 H rfl rfl ?_ | refine r_ld 3 H rfl rfl ?_ | refine r_ld 4 H rfl rfl ?_ | ((with_reducible refine r_vtD ?h ?_); (case h => omega)) | ((with_reducible refine r_vfD ?h ?_); (case h => omega)) | ((with_reducible refine r_vtE ?h ?_); (case h => omega)) | ((with_reducible refine r_vfE ?h ?_); (case h => omega)) | ((with_reducible refine r_vtN ?h ?_); (case h => omega)) | ((with_reducible refine r_vfN ?h ?_); (case h => omega)))
    refine r_ifD (fun h => ?_) fun h => ?_
    · exact r_ke ⟨rfl, true, rfl, by simp; omega⟩
    · repeat (first | refine r_nc ?_ | refine r_fo0 ?_ | refine r_fo ?_ | refine r_ke ?_ | refine r_lns ?_ | refine r_lnl ?_ | refine r_eql ?_ | refine r_neq ?_ | refine r_lss ?_ | refine r_leq ?_ | refine r_gtr ?_ | refine r_geq ?_ | refine r_seq0 ?_ | refine r_sne0 ?_ | refine r_seq ?_ | refine r_sne ?_ | (with_reducible refine r_notT ?_) | (with_reducible refine r_notF ?_) | refine r_not ?_ | (with_reducible refine r_bnST ?_) | (with_reducible refine r_bnSF ?_) | (with_reducible refine r_bnNT ?_) | (with_reducible refine r_bnNF ?_) | (with_reducible refine r_ex20 ?_) | (with_reducible refine r_ex21 ?_) | (with_reducible refine r_ex30 ?_) | (with_reducible refine r_ex31 ?_) | (with_reducible refine r_ex32 ?_) | (with_reducible refine r_vt ?_) | (with_reducible refine r_vf ?_) | refine r_bb ?_ | refine r_ex rfl ?_ | refine r_ci ?_ | (refine r_add1N (by omega) ?_) | (refine r_sub1N (by omega) (by omega) ?_) | (refine r_addN (by omega) ?_) | (refine r_add (by omega) (by omega) ?_) | (refine r_ixsN (by omega) ?_) | (refine r_iaaN (by omega) ?_) | (refine r_sub (by omega) (by omega) ?_) | (refine r_mul (by omega) (by omega) ?_) | (refine r_dr H ?_; clear H; intro _ S_ H; replace S := S.trans S_; clear S_) | refine r_ld 0 H rfl rfl ?_ | refine r_ld 1 H rfl rfl ?_ | refine r_ld 2 H rfl rfl ?_ | refine r_ld 3 H rfl rfl ?_ | refine r_ld 4 H rfl rfl ?_ | ((with_reducible refine r_vtD ?h ?_); (case h => omega)) | ((with_reducible refine r_vfD ?h ?_); (case h => omega)) | ((with_reducible refine r_vtE ?h ?_); (case h => omega)) | ((with_reducible refine r_vfE ?h ?_); (case h => omega)) | ((with_reducible refine r_vtN ?h ?_); (case h => omega)) | ((with_reducible refine r_vfN ?h ?_); (case h => omega)))
      refine ⟨rfl, _, rfl, ?_⟩
      rw [decide_eq_true_iff]; omega
theorem Take_spec {last : ByteArray} {o s k : Nat} (H : Holds w (InvR b last o s k :: L))
    (post : ∀ w', Same w w' → Holds w' (InvR b last o s (s - 2 * last.size) :: L) → K (.string ⟨((outK last.data.toList o (s - 2 * last.size)).drop k).toArray⟩) w') :
    Cl Try.prog F.unbwt_Inverter_Take #[.pointer (some ⟨b, 0, none⟩)] w K := by
  refine Tie.unbwt_Inverter_Take ?_
  unfold Vcf.unbwt_Inverter_Take
  obtain ⟨t, lv, ov, H⟩ := InvR_open H
  have S := Same.refl w
  have hn := nxL_len last.data.toList s
  obtain ⟨oa, sp, rfl, H⟩ := H.open 2 rfl
  rw [List.set_cons_succ, List.set_cons_succ, List.set_cons_zero] at H
  repeat (first | ((with_reducible apply r_ld 0 H); (exact rfl); (with_reducible exact (c259 hn))) | refine r_cbs H 2 rfl rfl ?_ | refine r_nc ?_ | refine r_fo0 ?_ | refine r_fo ?_ | refine r_ke ?_ | refine r_lns ?_ | refine r_lnl ?_ | refine r_eql ?_ | refine r_neq ?_ | refine r_lss ?_ | refine r_leq ?_ | refine r_gtr ?_ | refine r_geq ?_ | refine r_seq0 ?_ | refine r_sne0 ?_ | refine r_seq ?_ | refine r_sne ?_ | (with_reducible refine r_notT ?_) | (with_reducible refine r_notF ?_) | refine r_not ?_ | (with_reducible refine r_bnST ?_) | (with_reducible refine r_bnSF ?_) | (with_reducible refine r_bnNT ?_) | (with_reducible refine r_bnNF ?_) | (with_reducible refine r_ex20 ?_) | (with_reducible refine r_ex21 ?_) | (with_reducible refine r_ex30 ?_) | (with_reducible refine r_ex31 ?_) | (with_reducible refine r_ex32 ?_) | (with_reducible refine r_vt ?_) | (with_reducible refine r_vf ?_) | refine r_bb ?_ | refine r_ex rfl ?_ | refine r_ci ?_ | (refine r_add1N (by omega) ?_) | (refine r_sub1N (by omega) (by omega) ?_) | (refine r_addN (by omega) ?_) | (refine r_add (by omega) (by omega) ?_) | (refine r_ixsN (by omega) ?_) | (refine r_iaaN (by omega) ?_) | (refine r_sub (by omega) (by omega) ?_) | (refine r_mul (by omega) (by omega) ?_) | (refine r_dr H ?_; clear H; intro _ S_ H; replace S := S.trans S_; clear S_) | refine r_ld 0 H rfl rfl ?_ | refine r_ld 1 H rfl rfl ?_ | refine r_ld 2 H rfl rfl ?_ | refine r_ld 3 H rfl rfl ?_ | refine r_ld 4 H rfl rfl ?_ | ((with_reducible refine r_vtD ?h ?_); (case h => omega)) | ((with_reducible refine r_vfD ?h ?_); (case h => omega)) | ((with_reducible refine r_vtE ?h ?_); (case h => omega)) | ((with_reducible refine r_vfE ?h ?_); (case h => omega)) | ((with_reducible refine r_vtN ?h ?_); (case h => omega)) | ((with_reducible refine r_vfN ?h ?_); (case h => omega)))
  refine r_st 0 H rfl (by rw [clen hn]; omega) rfl fun w2 S2 H2 => ?_
  rw [s259 hn, List.set_cons_zero] at H2
  refine post w2 S2 (InvR_close (t := t) (lv := lv) (ov := .slice none 0 0) ?_)
  rw [List.drop_of_length_le (Nat.le_of_eq (outK_len _ _ _))]
  exact (((H2.dropAt 2).nilSL bv tB).front 2 rfl).front 2 rfl
theorem Of_spec {last : ByteArray} {origin : Int} (H : Holds w L)
    (p1 : last.size = 0 → K (.tuple #[.string ⟨#[]⟩, .int .i64 1]) w)
    (p2 : 900000 < last.size → K (.tuple #[.string ⟨#[]⟩, .int .i64 2]) w)
    (p3 : 0 < last.size → last.size ≤ 900000 → (origin < 0 ∨ (last.size : Int) ≤ origin) → K (.tuple #[.string ⟨#[]⟩, .int .i64 23]) w)
    (p4 : ∀ (o : Nat) w', origin = o → o < last.size → last.size ≤ 900000 → Same w w' → Holds w' L → K (.tuple #[.string ⟨(text last.data.toList o).toArray⟩, .int .i64 0]) w') :
    Cl Try.prog F.unbwt_Of #[.string last, .int .i64 origin] w K := by
  refine Tie.unbwt_Of ?_
  unfold Vcf.unbwt_Of
  refine New_spec H (fun h => ?_) (fun h => ?_) (fun h1 h2 h3 => ?_) fun o b w1 h1 h2 h3 S H1 => ?_
  · repeat (first | refine r_nc ?_ | refine r_fo0 ?_ | refine r_fo ?_ | refine r_ke ?_ | refine r_lns ?_ | refine r_lnl ?_ | refine r_eql ?_ | refine r_neq ?_ | refine r_lss ?_ | refine r_leq ?_ | refine r_gtr ?_ | refine r_geq ?_ | refine r_seq0 ?_ | refine r_sne0 ?_ | refine r_seq ?_ | refine r_sne ?_ | (with_reducible refine r_notT ?_) | (with_reducible refine r_notF ?_) | refine r_not ?_ | (with_reducible refine r_bnST ?_) | (with_reducible refine r_bnSF ?_) | (with_reducible refine r_bnNT ?_) | (with_reducible refine r_bnNF ?_) | (with_reducible refine r_ex20 ?_) | (with_reducible refine r_ex21 ?_) | (with_reducible refine r_ex30 ?_) | (with_reducible refine r_ex31 ?_) | (with_reducible refine r_ex32 ?_) | (with_reducible refine r_vt ?_) | (with_reducible refine r_vf ?_) | refine r_bb ?_ | refine r_ex rfl ?_ | refine r_ci ?_ | (refine r_add1N (by omega) ?_) | (refine r_sub1N (by omega) (by omega) ?_) | (refine r_addN (by omega) ?_) | (refine r_add (by omega) (by omega) ?_) | (refine r_ixsN (by omega) ?_) | (refine r_iaaN (by omega) ?_) | (refine r_sub (by omega) (by omega) ?_) | (refine r_mul (by omega) (by omega) ?_) | (refine r_dr H ?_; clear H; intro _ S_ H; replace S := S.trans S_; clear S_) | refine r_ld 0 H rfl rfl ?_ | refine r_ld 1 H rfl rfl ?_ | refine r_ld 2 H rfl rfl ?_ | refine r_ld 3 H rfl rfl ?_ | refine r_ld 4 H rfl rfl ?_ | ((with_reducible refine r_vtD ?h ?_); (case h => omega)) | ((with_reducible refine r_vfD ?h ?_); (case h => omega)) | ((with_reducible refine r_vtE ?h ?_); (case h => omega)) | ((with_reducible refine r_vfE ?h ?_); (case h => omega)) | ((with_reducible refine r_vtN ?h ?_); (case h => omega)) | ((with_reducible refine r_vfN ?h ?_); (case h => omega)))
    exact p1 h
  · repeat (first | refine r_nc ?_ | refine r_fo0 ?_ | refine r_fo ?_ | refine r_ke ?_ | refine r_lns ?_ | refine r_lnl ?_ | refine r_eql ?_ | refine r_neq ?_ | refine r_lss ?_ | refine r_leq ?_ | refine r_gtr ?_ | refine r_geq ?_ | refine r_seq0 ?_ | refine r_sne0 ?_ | refine r_seq ?_ | refine r_sne ?_ | (with_reducible refine r_notT ?_) | (with_reducible refine r_notF ?_) | refine r_not ?_ | (with_reducible refine r_bnST ?_) | (with_reducible refine r_bnSF ?_) | (with_reducible refine r_bnNT ?_) | (with_reducible refine r_bnNF ?_) | (with_reducible refine r_ex20 ?_) | (with_reducible refine r_ex21 ?_) | (with_reducible refine r_ex30 ?_) | (with_reducible refine r_ex31 ?_) | (with_reducible refine r_ex32 ?_) | (with_reducible refine r_vt ?_) | (with_reducible refine r_vf ?_) | refine r_bb ?_ | refine r_ex rfl ?_ | refine r_ci ?_ | (refine r_add1N (by omega) ?_) | (refine r_sub1N (by omega) (by omega) ?_) | (refine r_addN (by omega) ?_) | (refine r_add (by omega) (by omega) ?_) | (refine r_ixsN (by omega) ?_) | (refine r_iaaN (by omega) ?_) | (refine r_sub (by omega) (by omega) ?_) | (refine r_mul (by omega) (by omega) ?_) | (refine r_dr H ?_; clear H; intro _ S_ H; replace S := S.trans S_; clear S_) | refine r_ld 0 H rfl rfl ?_ | refine r_ld 1 H rfl rfl ?_ | refine r_ld 2 H rfl rfl ?_ | refine r_ld 3 H rfl rfl ?_ | refine r_ld 4 H rfl rfl ?_ | ((with_reducible refine r_vtD ?h ?_); (case h => omega)) | ((with_reducible refine r_vfD ?h ?_); (case h => omega)) | ((with_reducible refine r_vtE ?h ?_); (case h => omega)) | ((with_reducible refine r_vfE ?h ?_); (case h => omega)) | ((with_reducible refine r_vtN ?h ?_); (case h => omega)) | ((with_reducible refine r_vfN ?h ?_); (case h => omega)))
    exact p2 h
  · repeat (first | refine r_nc ?_ | refine r_fo0 ?_ | refine r_fo ?_ | refine r_ke ?_ | refine r_lns ?_ | refine r_lnl ?_ | refine r_eql ?_ | refine r_neq ?_ | refine r_lss ?_ | refine r_leq ?_ | refine r_gtr ?_ | refine r_geq ?_ | refine r_seq0 ?_ | refine r_sne0 ?_ | refine r_seq ?_ | refine r_sne ?_ | (with_reducible refine r_notT ?_) | (with_reducible refine r_notF ?_) | refine r_not ?_ | (with_reducible refine r_bnST ?_) | (with_reducible refine r_bnSF ?_) | (with_reducible refine r_bnNT ?_) | (with_reducible refine r_bnNF ?_) | (with_reducible refine r_ex20 ?_) | (with_reducible refine r_ex21 ?_) | (with_reducible refine r_ex30 ?_) | (with_reducible refine r_ex31 ?_) | (with_reducible refine r_ex32 ?_) | (with_reducible refine r_vt ?_) | (with_reducible refine r_vf ?_) | refine r_bb ?_ | refine r_ex rfl ?_ | refine r_ci ?_ | (refine r_add1N (by omega) ?_) | (refine r_sub1N (by omega) (by omega) ?_) | (refine r_addN (by omega) ?_) | (refine r_add (by omega) (by omega) ?_) | (refine r_ixsN (by omega) ?_) | (refine r_iaaN (by omega) ?_) | (refine r_sub (by omega) (by omega) ?_) | (refine r_mul (by omega) (by omega) ?_) | (refine r_dr H ?_; clear H; intro _ S_ H; replace S := S.trans S_; clear S_) | refine r_ld 0 H rfl rfl ?_ | refine r_ld 1 H rfl rfl ?_ | refine r_ld 2 H rfl rfl ?_ | refine r_ld 3 H rfl rfl ?_ | refine r_ld 4 H rfl rfl ?_ | ((with_reducible refine r_vtD ?h ?_); (case h => omega)) | ((with_reducible refine r_vfD ?h ?_); (case h => omega)) | ((with_reducible refine r_vtE ?h ?_); (case h => omega)) | ((with_reducible refine r_vfE ?h ?_); (case h => omega)) | ((with_reducible refine r_vtN ?h ?_); (case h => omega)) | ((with_reducible refine r_vfN ?h ?_); (case h => omega)))
    exact p3 h1 h2 h3
  · clear H
    have H := H1
    repeat (first | refine r_nc ?_ | refine r_fo0 ?_ | refine r_fo ?_ | refine r_ke ?_ | refine r_lns ?_ | refine r_lnl ?_ | refine r_eql ?_ | refine r_neq ?_ | refine r_lss ?_ | refine r_leq ?_ | refine r_gtr ?_ | refine r_geq ?_ | refine r_seq0 ?_ | refine r_sne0 ?_ | refine r_seq ?_ | refine r_sne ?_ | (with_reducible refine r_notT ?_) | (with_reducible refine r_notF ?_) | refine r_not ?_ | (with_reducible refine r_bnST ?_) | (with_reducible refine r_bnSF ?_) | (with_reducible refine r_bnNT ?_) | (with_reducible refine r_bnNF ?_) | (with_reducible refine r_ex20 ?_) | (with_reducible refine r_ex21 ?_) | (with_reducible refine r_ex30 ?_) | (with_reducible refine r_ex31 ?_) | (with_reducible refine r_ex32 ?_) | (with_reducible refine r_vt ?_) | (with_reducible refine r_vf ?_) | refine r_bb ?_ | refine r_ex rfl ?_ | refine r_ci ?_ | (refine r_add1N (by omega) ?_) | (refine r_sub1N (by omega) (by omega) ?_) | (refine r_addN (by omega) ?_) | (refine r_add (by omega) (by omega) ?_) | (refine r_ixsN (by omega) ?_) | (refine r_iaaN (by omega) ?_) | (refine r_sub (by omega) (by omega) ?_) | (refine r_mul (by omega) (by omega) ?_) | (refine r_dr H ?_; clear H; intro _ S_ H; replace S := S.trans S_; clear S_) | refine r_ld 0 H rfl rfl ?_ | refine r_ld 1 H rfl rfl ?_ | refine r_ld 2 H rfl rfl ?_ | refine r_ld 3 H rfl rfl ?_ | refine r_ld 4 H rfl rfl ?_ | ((with_reducible refine r_vtD ?h ?_); (case h => omega)) | ((with_reducible refine r_vfD ?h ?_); (case h => omega)) | ((with_reducible refine r_vtE ?h ?_); (case h => omega)) | ((with_reducible refine r_vfE ?h ?_); (case h => omega)) | ((with_reducible refine r_vtN ?h ?_); (case h => omega)) | ((with_reducible refine r_vfN ?h ?_); (case h => omega)))
    refine Step_spec H (by omega) (by omega) h2 (by omega) fun w2 S2 H2 => ?_
    have e : min (3 * (last.size : Int)).toNat (3 * last.size - 0) = 3 * last.size := by omega
    rw [e, Nat.zero_add] at H2
    refine Take_spec H2 fun w3 S3 H3 => ?_
    have hll : last.data.toList.length = last.size := by simp
    have := p4 o w3 h1 h2 h3 ((S.trans S2).trans S3) H3.drop
    unfold text at this
    rw [hll] at this
    rw [show 3 * last.size - 2 * last.size = last.size by omega, List.drop_zero]
    exact this
end U18
end Go.Proofs.Ytbccjjbfiodbeaa
