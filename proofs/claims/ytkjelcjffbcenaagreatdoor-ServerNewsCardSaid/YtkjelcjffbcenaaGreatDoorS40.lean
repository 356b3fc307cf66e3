/- Chapter 40: a fresh server's parts. -/
import Derived.Test.YtkjelcjffbcenaaGreatDoorJ33
import Derived.Test.YtkjelcjffbcenaaGreatDoorJ34
import Derived.Test.YtkjelcjffbcenaaGreatDoorCl
import Derived.Test.YtkjelcjffbcenaaGreatDoorEB
set_option linter.unusedVariables false
set_option linter.unusedSimpArgs false
set_option maxRecDepth 1000000
namespace Go.Proofs.YtkjelcjffbcenaaGreatDoor
open Go Go.Vc
namespace S40
open Go.M31 J30 J31 J32 J34
/-! Rules. -/
section
variable {α : Type} {P : Program} {w : World} {L : List HProp}
theorem flatL_in {F : α → List Value} {k : Nat} (hF : ∀ x, (F x).length = k) : ∀ (xs : List α) (q : Nat) (u : Value), (flatL F xs)[q]? = some u → ∃ i j x, xs[i]? = some x ∧ (F x)[j]? = some u ∧ q = i * k + j
  | [], q, u, h => by simp [flatL] at h
  | y :: r, q, u, h => by
    rw [flatL] at h
    rcases Nat.lt_or_ge q (F y).length with h1 | h1
    · rw [List.getElem?_append_left h1] at h
      exact ⟨0, q, y, rfl, h, by omega⟩
    · rw [List.getElem?_append_right h1] at h
      obtain ⟨i, j, x, h2, h3, h4⟩ := flatL_in hF r _ u h
      refine ⟨i + 1, j, x, by simpa using h2, h3, ?_⟩
      rw [hF] at h1 h4
      rw [Nat.add_mul]; omega
theorem r_apF {t e : TypeId} {k : Nat} [hr : RowN P t e k] (H : Holds w L) {F : α → List Value} {ys : List α} {a : Option Addr} {b c' : Nat} {ty : TypeId} {K : Value → World → Prop} (hT : InG F k L a ys) (hF : ∀ y, (F y).length = k) (hn : 0 < ys.length) (hs : ys.length ≤ 1000)
    (h : ∀ b' cap w', Same w w' → Holds w' L → K (.slice (some ⟨b', 0, none⟩) ys.length cap) w') : Ap P #[t, t] ty #[.slice (some ⟨b, 0, none⟩) 0 0, .slice a ys.length c'] w K := by
  obtain ⟨inf, z, hinf, hsz, hby, hzz, hzk⟩ := hr.inf
  obtain ⟨p, rfl, _⟩ := hT w H 0 ys[0] (List.getElem?_eq_getElem hn)
  have hlen := flatL_len (k := k) hF
  have hnews : ∀ q u, (flatL F ys)[q]? = some u → w.cell? (p.add q) = some u := by
    intro q u hu
    obtain ⟨i, j, x, h1, h2, rfl⟩ := flatL_in hF ys q u hu
    obtain ⟨p', hp, h3⟩ := hT w H i x h1
    obtain rfl := Option.some.inj hp
    rw [← Addr.add_add]
    exact h3 j u h2
  have hmul : ys.length * inf.bytes ≤ 140737488355328 := Nat.le_trans (Nat.mul_le_mul_left _ hby) (by omega)
  have hrun := run_append_grow (P := P) w t ty e inf z hr.und hinf hzz ⟨b, 0, none⟩ 0 0 [] (by simp) (fun j v hv => by simp at hv) p ys.length c' (flatL F ys) (by rw [hlen, hsz]) hnews (by omega) (by omega) (growslice_fits (by omega) (by rw [Nat.zero_add]; exact hmul))
  rw [Nat.zero_add] at hrun
  exact ⟨_, _, hrun, h _ _ _ ((Same.drew w).trans (.alloc _ _)) ((H.same (w' := w.drew) rfl).alloc _).drop⟩
theorem r_mm {t : TypeId} (H : Holds w L) {K : Value → World → Prop} (h : ∀ b w', Same w w' → Holds w' (blkO b (.map #[] 0) :: L) → K (.map (some b)) w') : Mm P t none w K :=
  ⟨.map (some w.heap.size), w.alloc (.map #[] 0), rfl, h _ _ (.alloc _ _) (H.alloc _)⟩
theorem r_lk0 {t kt et b : Nat} {k k' : IntKind} {n : Int} {z : Value} {c : Nat} (i : Nat) (H : Holds w L) (ht : P.underlying t = some (.map kt et)) (hk : P.underlying kt = some (.int k')) (hz : (zeroValue et).run P w = .ok z w) (hi : L[i]? = some (blkO b (.map #[] c)))
    {K : Value → Prop} (hK : K z) : Lk P t (.map (some b)) (.int k n) false w K := by
  have ho := H.obj i hi
  refine ⟨z, ?_, hK⟩
  have hck : ∀ b, (Instr.checkKey b 10000 kt (.int k n)).run P w = .ok () w := fun b => Ev.checkKey_ok (σ := fun _ => none) (k := .i k n) hk rfl rfl b 9999 w
  have hfk : (Instr.findKey kt (.int k n) []).run P w = .ok none w := Ev.mfindKey hk rfl
  unfold Instr.lookup
  rw [Sem.run_bind, run_underlying ht]
  simp only [Result.andThen_ok, Sem.run_bind, Sem.run_pure, Ev.mgetObj ho, hck, List.toList_toArray, hfk, hz]
  rfl
end
attribute [local irreducible] Go.Vc.Nc Go.Vc.Ld Go.Vc.LdA Go.Vc.St Go.Vc.StA Go.Vc.Fo Go.Vc.Iaa Go.Vc.Ias Go.Vc.Ixs Go.Vc.Ixa Go.Vc.Fd Go.Vc.FdA Go.Vc.Bp Go.Vc.Bb Go.Vc.Bn Go.Vc.Up Go.Vc.Ci Go.Vc.Lns Go.Vc.Lnl Go.Vc.Ex Go.Vc.Sst Go.Vc.Ssl Go.Vc.New Go.Vc.Vif Go.Vc.VJoin Go.Vc.VLoop Go.Vc.KE Go.Vc.Dr Go.Vc.Rk Go.Vc.Cl Go.Vc.Cx Go.Vc.Inv Go.Vc.Be Go.Vc.Cv Go.Vc.Cw Go.Vc.Mf Go.Vc.Sl Go.Vc.Lk Go.Vc.Bd Go.Vc.Bs Go.Vc.Ms Go.Vc.Mm Go.Vc.Mu Go.Vc.Me Go.Vc.Es Go.Vc.Rg Go.Vc.Nx Go.Vc.Ta Go.Vc.Ap Go.Vc.Usd Go.Vc.Ust Go.Vc.Cp Go.Vc.Ln Go.Vc.Bc Go.Vc.Bmin Go.Vc.Bmax Go.Vc.Bdel Go.Vc.Bclr Go.Vc.Pk
variable {w : World} {L : List HProp} {K : Value → World → Prop}
/-! Parts. -/
abbrev tT' : Nat := 22
set_option maxRecDepth 1000000 in
instance : RowN Tryz.prog 22 tT 5 := ⟨Tryz.underlying22, _, _, rfl, rfl, by decide, rfl, rfl⟩
set_option maxRecDepth 1000000 in
instance : RowN Tryz.prog 133 137 3 := ⟨Tryz.underlying133, _, _, rfl, rfl, by decide, rfl, rfl⟩
instance rowP : Row Tryz.prog 143 146 (.pointer none) := ⟨by kernel_rfl, ⟨Tryz.t146, by kernel_rfl, by kernel_rfl, by decide, by kernel_rfl⟩, rfl⟩
theorem each_spec {f : FuncId} {g : Tn → Nat} {a : Option Addr} {ts : List Tn} {c : Nat} (H : Holds w L) (hT : TsIn L a ts) (hl : ts.length ≤ 1000)
    (hf : ∀ (t : Tn) (w : World) (L : List HProp) (K : Value → World → Prop), t ∈ ts → Holds w L → (∀ w', Same w w' → Holds w' L → K (nv (g t)) w') → Cl Tryz.prog f #[.agg (cellsT t).toArray] w K)
    (hi : ∀ (t : Tn) (w : World), (do let d ← Deferred.ofValue (.func (.func f) #[] #[]) #[.agg (cellsT t).toArray]; invoke d.target d.args : Sem Next).run Tryz.prog w = .ok (.enter f #[.agg (cellsT t).toArray]) w)
    (post : ∀ v w', Same w w' → Holds w' (SL nv tI v (ts.map g) :: L) → K v w') : Cl Tryz.prog F.server_each #[.slice a ts.length c, .func (.func f) #[] #[]] w K := by
  refine Tie.server_each ?_
  unfold Vcf.server_each
  have hzT : (zeroP Tryz.prog tT).cells.toList = [.string ⟨#[]⟩, .string ⟨#[]⟩, iv 0, iv 0, iv 0] := by kernel_rfl
  repeat (first | refine r_nc ?_ | refine r_fo0 ?_ | refine r_fo ?_ | refine r_ke ?_ | refine r_lns ?_ | refine r_lnl ?_ | refine r_eql ?_ | refine r_neq ?_ | refine r_lss ?_ | refine r_leq ?_ | refine r_gtr ?_ | refine r_geq ?_ | refine r_seq0 ?_ | refine r_sne0 ?_ | refine r_seq ?_ | refine r_sne ?_ | (with_reducible refine r_notT ?_) | (with_reducible refine r_notF ?_) | refine r_not ?_ | (with_reducible refine r_bnST ?_) | (with_reducible refine r_bnSF ?_) | (with_reducible refine r_bnNT ?_) | (with_reducible refine r_bnNF ?_) | (with_reducible refine r_ex20 ?_) | (with_reducible refine r_ex21 ?_) | (with_reducible refine r_ex30 ?_) | (with_reducible refine r_ex31 ?_) | (with_reducible refine r_ex32 ?_) | (with_reducible refine r_vt ?_) | (with_reducible refine r_vf ?_) | refine r_bb ?_ | (with_reducible refine r_pkT ?_) | (with_reducible refine r_pkF ?_) | (with_reducible refine r_pkB ?_) | refine r_ex rfl ?_ | (refine r_ci64 (by omega) (by omega) ?_) | (refine r_ciu8 (by omega) (by omega) ?_) | (refine r_ciu32 (by omega) (by omega) ?_) | refine r_ci ?_ | (refine r_add1N (by omega) ?_) | (refine r_sub1N (by omega) (by omega) ?_) | (refine r_addN (by omega) ?_) | (refine r_add (by omega) (by omega) ?_) | (refine r_ixsN (by omega) ?_) | (refine r_iaaN (by omega) ?_) | (refine r_sub (by omega) (by omega) ?_) | (refine r_mul (by omega) (by omega) ?_) | (refine r_dr H ?_; clear H; intro _ S_ H; replace S := S.trans S_; clear S_) | refine r_ld 0 H rfl rfl ?_ | refine r_ld 1 H rfl rfl ?_ | refine r_ld 2 H rfl rfl ?_ | refine r_ld 3 H rfl rfl ?_ | refine r_ld 4 H rfl rfl ?_ | ((with_reducible refine r_vtD ?h ?_); (case h => omega)) | ((with_reducible refine r_vfD ?h ?_); (case h => omega)) | ((with_reducible refine r_vtE ?h ?_); (case h => omega)) | ((with_reducible refine r_vfE ?h ?_); (case h => omega)) | ((with_reducible refine r_vtN ?h ?_); (case h => omega)) | ((with_reducible refine r_vfN ?h ?_); (case h => omega)))
  refine r_loop2 (fun o x w' => ∃ i : Nat, i ≤ ts.length ∧ x = nv i ∧ Same w w' ∧ Holds w' (SL nv tI o ((ts.take i).map g) :: L)) (fun _ x _ => ts.length - (RowKit.intOf x).toNat) ⟨0, by omega, rfl, .refl w, H.nilSL nv tI⟩ ?_
  clear H
  rintro _ v _ w2 ⟨i, hil, rfl, S, H⟩
  repeat (first | refine r_nc ?_ | refine r_fo0 ?_ | refine r_fo ?_ | refine r_ke ?_ | refine r_lns ?_ | refine r_lnl ?_ | refine r_eql ?_ | refine r_neq ?_ | refine r_lss ?_ | refine r_leq ?_ | refine r_gtr ?_ | refine r_geq ?_ | refine r_seq0 ?_ | refine r_sne0 ?_ | refine r_seq ?_ | refine r_sne ?_ | (with_reducible refine r_notT ?_) | (with_reducible refine r_notF ?_) | refine r_not ?_ | (with_reducible refine r_bnST ?_) | (with_reducible refine r_bnSF ?_) | (with_reducible refine r_bnNT ?_) | (with_reducible refine r_bnNF ?_) | (with_reducible refine r_ex20 ?_) | (with_reducible refine r_ex21 ?_) | (with_reducible refine r_ex30 ?_) | (with_reducible refine r_ex31 ?_) | (with_reducible refine r_ex32 ?_) | (with_reducible refine r_vt ?_) | (with_reducible refine r_vf ?_) | refine r_bb ?_ | (with_reducible refine r_pkT ?_) | (with_reducible refine r_pkF ?_) | (with_reducible refine r_pkB ?_) | refine r_ex rfl ?_ | (refine r_ci64 (by omega) (by omega) ?_) | (refine r_ciu8 (by omega) (by omega) ?_) | (refine r_ciu32 (by omega) (by omega) ?_) | refine r_ci ?_ | (refine r_add1N (by omega) ?_) | (refine r_sub1N (by omega) (by omega) ?_) | (refine r_addN (by omega) ?_) | (refine r_add (by omega) (by omega) ?_) | (refine r_ixsN (by omega) ?_) | (refine r_iaaN (by omega) ?_) | (refine r_sub (by omega) (by omega) ?_) | (refine r_mul (by omega) (by omega) ?_) | (refine r_dr H ?_; clear H; intro _ S_ H; replace S := S.trans S_; clear S_) | refine r_ld 0 H rfl rfl ?_ | refine r_ld 1 H rfl rfl ?_ | refine r_ld 2 H rfl rfl ?_ | refine r_ld 3 H rfl rfl ?_ | refine r_ld 4 H rfl rfl ?_ | ((with_reducible refine r_vtD ?h ?_); (case h => omega)) | ((with_reducible refine r_vfD ?h ?_); (case h => omega)) | ((with_reducible refine r_vtE ?h ?_); (case h => omega)) | ((with_reducible refine r_vfE ?h ?_); (case h => omega)) | ((with_reducible refine r_vtN ?h ?_); (case h => omega)) | ((with_reducible refine r_vfN ?h ?_); (case h => omega)))
  refine r_ifD (fun h => ?_) fun h => ?_
  · have hlt : i < ts.length := by omega
    obtain ⟨t, ht⟩ : ∃ t, ts[i]? = some t := ⟨_, List.getElem?_eq_getElem hlt⟩
    refine r_ldT hT.up H ht hlt ?_
    refine r_new H fun bt w3 S3 H3 => ?_
    rw [hzT] at H3
    refine r_stA 0 H3 (vs := cellsT t) rfl (Nat.le_refl 5) rfl (cellsT_sg t) fun w4 S4 H4 => ?_
    replace H4 : Holds w4 (blk bt tT (cellsT t) :: SL nv tI v ((ts.take i).map g) :: L) := H4
    replace S := (S.trans S3).trans S4
    clear H H3 S3 S4
    have H := H4
    clear H4
    refine r_ldA 0 H (cellsT t) rfl rfl rfl ?_
    refine r_inv (f := f) (args := #[.agg (cellsT t).toArray]) (hi t _) (hf t _ _ _ (List.mem_of_getElem? ht) H fun w5 S5 H5 => ?_)
    refine r_app1 (f := nv) H5.drop 0 rfl (g t) (fun _ => rfl) (by simp; omega) fun v2 w6 S6 H6 => ?_
    rw [List.set_cons_zero] at H6
    repeat (first | refine r_nc ?_ | refine r_fo0 ?_ | refine r_fo ?_ | refine r_ke ?_ | refine r_lns ?_ | refine r_lnl ?_ | refine r_eql ?_ | refine r_neq ?_ | refine r_lss ?_ | refine r_leq ?_ | refine r_gtr ?_ | refine r_geq ?_ | refine r_seq0 ?_ | refine r_sne0 ?_ | refine r_seq ?_ | refine r_sne ?_ | (with_reducible refine r_notT ?_) | (with_reducible refine r_notF ?_) | refine r_not ?_ | (with_reducible refine r_bnST ?_) | (with_reducible refine r_bnSF ?_) | (with_reducible refine r_bnNT ?_) | (with_reducible refine r_bnNF ?_) | (with_reducible refine r_ex20 ?_) | (with_reducible refine r_ex21 ?_) | (with_reducible refine r_ex30 ?_) | (with_reducible refine r_ex31 ?_) | (with_reducible refine r_ex32 ?_) | (with_reducible refine r_vt ?_) | (with_reducible refine r_vf ?_) | refine r_bb ?_ | (with_reducible refine r_pkT ?_) | (with_reducible refine r_pkF ?_) | (with_reducible refine r_pkB ?_) | refine r_ex rfl ?_ | (refine r_ci64 (by omega) (by omega) ?_) | (refine r_ciu8 (by omega) (by omega) ?_) | (refine r_ciu32 (by omega) (by omega) ?_) | refine r_ci ?_ | (refine r_add1N (by omega) ?_) | (refine r_sub1N (by omega) (by omega) ?_) | (refine r_addN (by omega) ?_) | (refine r_add (by omega) (by omega) ?_) | (refine r_ixsN (by omega) ?_) | (refine r_iaaN (by omega) ?_) | (refine r_sub (by omega) (by omega) ?_) | (refine r_mul (by omega) (by omega) ?_) | (refine r_dr H ?_; clear H; intro _ S_ H; replace S := S.trans S_; clear S_) | refine r_ld 0 H rfl rfl ?_ | refine r_ld 1 H rfl rfl ?_ | refine r_ld 2 H rfl rfl ?_ | refine r_ld 3 H rfl rfl ?_ | refine r_ld 4 H rfl rfl ?_ | ((with_reducible refine r_vtD ?h ?_); (case h => omega)) | ((with_reducible refine r_vfD ?h ?_); (case h => omega)) | ((with_reducible refine r_vtE ?h ?_); (case h => omega)) | ((with_reducible refine r_vfE ?h ?_); (case h => omega)) | ((with_reducible refine r_vtN ?h ?_); (case h => omega)) | ((with_reducible refine r_vfN ?h ?_); (case h => omega)))
    refine ⟨⟨i + 1, by omega, rfl, (S.trans S5).trans S6, ?_⟩, ?_⟩
    · rw [List.take_add_one, ht]
      simpa using H6
    · simp [nv, RowKit.intOf]
      omega
  · obtain rfl : i = ts.length := by omega
    rw [List.take_length] at H
    exact post _ _ S H
theorem none_spec {f : FuncId} {xs : List Nat} (j : Nat) {v : Value} (H : Holds w L) (hj : L[j]? = some (SL nv tI v xs)) (hl : xs.length ≤ 1000)
    (hf : ∀ (x : Nat) (w : World) (K : Value → World → Prop), x ∈ xs → K (.bool false) w → Cl Tryz.prog f #[nv x] w K)
    (hi : ∀ (x : Nat) (w : World), (do let d ← Deferred.ofValue (.func (.func f) #[] #[]) #[nv x]; invoke d.target d.args : Sem Next).run Tryz.prog w = .ok (.enter f #[nv x]) w)
    (post : K (.bool false) w) : Cl Tryz.prog F.slices_ContainsFunc_int_int #[v, .func (.func f) #[] #[]] w K := by
  refine Tie.slices_ContainsFunc_int_int ?_
  unfold Vcf.slices_ContainsFunc_int_int
  refine Tie.slices_IndexFunc_int_int ?_
  unfold Vcf.slices_IndexFunc_int_int
  have H0 := H
  obtain ⟨oa, sp, rfl, H1⟩ := H0.open j hj
  have hj1 := set_get (Q := slb nv tI oa xs sp) hj
  repeat (first | refine r_nc ?_ | refine r_fo0 ?_ | refine r_fo ?_ | refine r_ke ?_ | refine r_lns ?_ | refine r_lnl ?_ | refine r_eql ?_ | refine r_neq ?_ | refine r_lss ?_ | refine r_leq ?_ | refine r_gtr ?_ | refine r_geq ?_ | refine r_seq0 ?_ | refine r_sne0 ?_ | refine r_seq ?_ | refine r_sne ?_ | (with_reducible refine r_notT ?_) | (with_reducible refine r_notF ?_) | refine r_not ?_ | (with_reducible refine r_bnST ?_) | (with_reducible refine r_bnSF ?_) | (with_reducible refine r_bnNT ?_) | (with_reducible refine r_bnNF ?_) | (with_reducible refine r_ex20 ?_) | (with_reducible refine r_ex21 ?_) | (with_reducible refine r_ex30 ?_) | (with_reducible refine r_ex31 ?_) | (with_reducible refine r_ex32 ?_) | (with_reducible refine r_vt ?_) | (with_reducible refine r_vf ?_) | refine r_bb ?_ | (with_reducible refine r_pkT ?_) | (with_reducible refine r_pkF ?_) | (with_reducible refine r_pkB ?_) | refine r_ex rfl ?_ | (refine r_ci64 (by omega) (by omega) ?_) | (refine r_ciu8 (by omega) (by omega) ?_) | (refine r_ciu32 (by omega) (by omega) ?_) | refine r_ci ?_ | (refine r_add1N (by omega) ?_) | (refine r_sub1N (by omega) (by omega) ?_) | (refine r_addN (by omega) ?_) | (refine r_add (by omega) (by omega) ?_) | (refine r_ixsN (by omega) ?_) | (refine r_iaaN (by omega) ?_) | (refine r_sub (by omega) (by omega) ?_) | (refine r_mul (by omega) (by omega) ?_) | (refine r_dr H ?_; clear H; intro _ S_ H; replace S := S.trans S_; clear S_) | refine r_ld 0 H rfl rfl ?_ | refine r_ld 1 H rfl rfl ?_ | refine r_ld 2 H rfl rfl ?_ | refine r_ld 3 H rfl rfl ?_ | refine r_ld 4 H rfl rfl ?_ | ((with_reducible refine r_vtD ?h ?_); (case h => omega)) | ((with_reducible refine r_vfD ?h ?_); (case h => omega)) | ((with_reducible refine r_vtE ?h ?_); (case h => omega)) | ((with_reducible refine r_vfE ?h ?_); (case h => omega)) | ((with_reducible refine r_vtN ?h ?_); (case h => omega)) | ((with_reducible refine r_vfN ?h ?_); (case h => omega)))
  refine r_loop1 (fun x w' => ∃ i : Nat, i ≤ xs.length ∧ x = nv i ∧ w = w') (fun x _ => xs.length - (RowKit.intOf x).toNat) ⟨0, by omega, rfl, rfl⟩ ?_
  rintro _ _ _ ⟨i, hil, rfl, rfl⟩
  repeat (first | refine r_nc ?_ | refine r_fo0 ?_ | refine r_fo ?_ | refine r_ke ?_ | refine r_lns ?_ | refine r_lnl ?_ | refine r_eql ?_ | refine r_neq ?_ | refine r_lss ?_ | refine r_leq ?_ | refine r_gtr ?_ | refine r_geq ?_ | refine r_seq0 ?_ | refine r_sne0 ?_ | refine r_seq ?_ | refine r_sne ?_ | (with_reducible refine r_notT ?_) | (with_reducible refine r_notF ?_) | refine r_not ?_ | (with_reducible refine r_bnST ?_) | (with_reducible refine r_bnSF ?_) | (with_reducible refine r_bnNT ?_) | (with_reducible refine r_bnNF ?_) | (with_reducible refine r_ex20 ?_) | (with_reducible refine r_ex21 ?_) | (with_reducible refine r_ex30 ?_) | (with_reducible refine r_ex31 ?_) | (with_reducible refine r_ex32 ?_) | (with_reducible refine r_vt ?_) | (with_reducible refine r_vf ?_) | refine r_bb ?_ | (with_reducible refine r_pkT ?_) | (with_reducible refine r_pkF ?_) | (with_reducible refine r_pkB ?_) | refine r_ex rfl ?_ | (refine r_ci64 (by omega) (by omega) ?_) | (refine r_ciu8 (by omega) (by omega) ?_) | (refine r_ciu32 (by omega) (by omega) ?_) | refine r_ci ?_ | (refine r_add1N (by omega) ?_) | (refine r_sub1N (by omega) (by omega) ?_) | (refine r_addN (by omega) ?_) | (refine r_add (by omega) (by omega) ?_) | (refine r_ixsN (by omega) ?_) | (refine r_iaaN (by omega) ?_) | (refine r_sub (by omega) (by omega) ?_) | (refine r_mul (by omega) (by omega) ?_) | (refine r_dr H ?_; clear H; intro _ S_ H; replace S := S.trans S_; clear S_) | refine r_ld 0 H rfl rfl ?_ | refine r_ld 1 H rfl rfl ?_ | refine r_ld 2 H rfl rfl ?_ | refine r_ld 3 H rfl rfl ?_ | refine r_ld 4 H rfl rfl ?_ | ((with_reducible refine r_vtD ?h ?_); (case h => omega)) | ((with_reducible refine r_vfD ?h ?_); (case h => omega)) | ((with_reducible refine r_vtE ?h ?_); (case h => omega)) | ((with_reducible refine r_vfE ?h ?_); (case h => omega)) | ((with_reducible refine r_vtN ?h ?_); (case h => omega)) | ((with_reducible refine r_vfN ?h ?_); (case h => omega)))
  refine r_ifD (fun h4 => ?_) fun h4 => ?_
  · have hlt : i < xs.length := by omega
    obtain ⟨x, hx⟩ : ∃ x, xs[i]? = some x := ⟨_, List.getElem?_eq_getElem hlt⟩
    refine r_iasN j H1 hj1 hlt (Nat.le_refl _) ?_
    rintro b2 rfl
    refine r_ldsl j H1 hj1 hx ?_
    refine r_inv (f := f) (args := #[nv x]) (hi x _) (hf x _ _ (List.mem_of_getElem? hx) ?_)
    repeat (first | refine r_nc ?_ | refine r_fo0 ?_ | refine r_fo ?_ | refine r_ke ?_ | refine r_lns ?_ | refine r_lnl ?_ | refine r_eql ?_ | refine r_neq ?_ | refine r_lss ?_ | refine r_leq ?_ | refine r_gtr ?_ | refine r_geq ?_ | refine r_seq0 ?_ | refine r_sne0 ?_ | refine r_seq ?_ | refine r_sne ?_ | (with_reducible refine r_notT ?_) | (with_reducible refine r_notF ?_) | refine r_not ?_ | (with_reducible refine r_bnST ?_) | (with_reducible refine r_bnSF ?_) | (with_reducible refine r_bnNT ?_) | (with_reducible refine r_bnNF ?_) | (with_reducible refine r_ex20 ?_) | (with_reducible refine r_ex21 ?_) | (with_reducible refine r_ex30 ?_) | (with_reducible refine r_ex31 ?_) | (with_reducible refine r_ex32 ?_) | (with_reducible refine r_vt ?_) | (with_reducible refine r_vf ?_) | refine r_bb ?_ | (with_reducible refine r_pkT ?_) | (with_reducible refine r_pkF ?_) | (with_reducible refine r_pkB ?_) | refine r_ex rfl ?_ | (refine r_ci64 (by omega) (by omega) ?_) | (refine r_ciu8 (by omega) (by omega) ?_) | (refine r_ciu32 (by omega) (by omega) ?_) | refine r_ci ?_ | (refine r_add1N (by omega) ?_) | (refine r_sub1N (by omega) (by omega) ?_) | (refine r_addN (by omega) ?_) | (refine r_add (by omega) (by omega) ?_) | (refine r_ixsN (by omega) ?_) | (refine r_iaaN (by omega) ?_) | (refine r_sub (by omega) (by omega) ?_) | (refine r_mul (by omega) (by omega) ?_) | (refine r_dr H ?_; clear H; intro _ S_ H; replace S := S.trans S_; clear S_) | refine r_ld 0 H rfl rfl ?_ | refine r_ld 1 H rfl rfl ?_ | refine r_ld 2 H rfl rfl ?_ | refine r_ld 3 H rfl rfl ?_ | refine r_ld 4 H rfl rfl ?_ | ((with_reducible refine r_vtD ?h ?_); (case h => omega)) | ((with_reducible refine r_vfD ?h ?_); (case h => omega)) | ((with_reducible refine r_vtE ?h ?_); (case h => omega)) | ((with_reducible refine r_vfE ?h ?_); (case h => omega)) | ((with_reducible refine r_vtN ?h ?_); (case h => omega)) | ((with_reducible refine r_vfN ?h ?_); (case h => omega)))
    refine ⟨⟨i + 1, by omega, rfl, rfl⟩, ?_⟩
    simp [nv, RowKit.intOf]
    omega
  · repeat (first | refine r_nc ?_ | refine r_fo0 ?_ | refine r_fo ?_ | refine r_ke ?_ | refine r_lns ?_ | refine r_lnl ?_ | refine r_eql ?_ | refine r_neq ?_ | refine r_lss ?_ | refine r_leq ?_ | refine r_gtr ?_ | refine r_geq ?_ | refine r_seq0 ?_ | refine r_sne0 ?_ | refine r_seq ?_ | refine r_sne ?_ | (with_reducible refine r_notT ?_) | (with_reducible refine r_notF ?_) | refine r_not ?_ | (with_reducible refine r_bnST ?_) | (with_reducible refine r_bnSF ?_) | (with_reducible refine r_bnNT ?_) | (with_reducible refine r_bnNF ?_) | (with_reducible refine r_ex20 ?_) | (with_reducible refine r_ex21 ?_) | (with_reducible refine r_ex30 ?_) | (with_reducible refine r_ex31 ?_) | (with_reducible refine r_ex32 ?_) | (with_reducible refine r_vt ?_) | (with_reducible refine r_vf ?_) | refine r_bb ?_ | (with_reducible refine r_pkT ?_) | (with_reducible refine r_pkF ?_) | (with_reducible refine r_pkB ?_) | refine r_ex rfl ?_ | (refine r_ci64 (by omega) (by omega) ?_) | (refine r_ciu8 (by omega) (by omega) ?_) | (refine r_ciu32 (by omega) (by omega) ?_) | refine r_ci ?_ | (refine r_add1N (by omega) ?_) | (refine r_sub1N (by omega) (by omega) ?_) | (refine r_addN (by omega) ?_) | (refine r_add (by omega) (by omega) ?_) | (refine r_ixsN (by omega) ?_) | (refine r_iaaN (by omega) ?_) | (refine r_sub (by omega) (by omega) ?_) | (refine r_mul (by omega) (by omega) ?_) | (refine r_dr H ?_; clear H; intro _ S_ H; replace S := S.trans S_; clear S_) | refine r_ld 0 H rfl rfl ?_ | refine r_ld 1 H rfl rfl ?_ | refine r_ld 2 H rfl rfl ?_ | refine r_ld 3 H rfl rfl ?_ | refine r_ld 4 H rfl rfl ?_ | ((with_reducible refine r_vtD ?h ?_); (case h => omega)) | ((with_reducible refine r_vfD ?h ?_); (case h => omega)) | ((with_reducible refine r_vtE ?h ?_); (case h => omega)) | ((with_reducible refine r_vfE ?h ?_); (case h => omega)) | ((with_reducible refine r_vtN ?h ?_); (case h => omega)) | ((with_reducible refine r_vfN ?h ?_); (case h => omega)))
    exact post
end S40
end Go.Proofs.YtkjelcjffbcenaaGreatDoor
