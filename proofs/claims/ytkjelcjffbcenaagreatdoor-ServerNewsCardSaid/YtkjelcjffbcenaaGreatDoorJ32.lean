/- Chapter 32: the document's answer on configurations, exactly. -/
import Derived.Test.YtkjelcjffbcenaaGreatDoorJ31
set_option linter.unusedVariables false
set_option linter.unusedSimpArgs false
namespace Go.Proofs.YtkjelcjffbcenaaGreatDoor
open Go Go.Vc
attribute [local irreducible] Go.Vc.Nc Go.Vc.Ld Go.Vc.LdA Go.Vc.St Go.Vc.StA Go.Vc.Fo Go.Vc.Iaa Go.Vc.Ias Go.Vc.Ixs Go.Vc.Ixa Go.Vc.Fd Go.Vc.FdA Go.Vc.Bp Go.Vc.Bb Go.Vc.Bn Go.Vc.Up Go.Vc.Ci Go.Vc.Lns Go.Vc.Lnl Go.Vc.Ex Go.Vc.Sst Go.Vc.Ssl Go.Vc.New Go.Vc.Vif Go.Vc.VJoin Go.Vc.VLoop Go.Vc.KE Go.Vc.Dr Go.Vc.Rk Go.Vc.Cl Go.Vc.Cx Go.Vc.Inv Go.Vc.Be Go.Vc.Cv Go.Vc.Cw Go.Vc.Mf Go.Vc.Sl Go.Vc.Lk Go.Vc.Bd Go.Vc.Bs Go.Vc.Ms Go.Vc.Mm Go.Vc.Mu Go.Vc.Me Go.Vc.Es Go.Vc.Rg Go.Vc.Nx Go.Vc.Ta Go.Vc.Ap Go.Vc.Usd Go.Vc.Ust Go.Vc.Cp Go.Vc.Ln Go.Vc.Bc Go.Vc.Bmin Go.Vc.Bmax Go.Vc.Bdel Go.Vc.Bclr Go.Vc.Pk
namespace J32
open Go.M31 J31
variable {w : World} {L : List HProp} {K : Value → World → Prop}
/-- A tenant, and what it holds in memory. -/
structure Tn where
  nm : ByteArray
  tk : ByteArray
  me : Int
  st : Int
  qu : Int
def cellsT (t : Tn) : List Value := [.string t.nm, .string t.tk, iv t.me, iv t.st, iv t.qu]
def TsIn (L : List HProp) (a : Option Addr) (ts : List Tn) : Prop :=
  ∀ w', Holds w' L → ∀ i t, ts[i]? = some t → ∃ p : Addr, a = some p ∧ ∀ j v, (cellsT t)[j]? = some v → w'.cell? ((p.add (i * 5)).add j) = some v
theorem TsIn.up {a : Option Addr} {ts : List Tn} {Q : HProp} (h : TsIn L a ts) : TsIn (Q :: L) a ts := fun w' H => h w' H.drop
theorem r_ldT {a : Option Addr} {ts : List Tn} {t : Tn} {i l c : Nat} {k : IntKind} {K : Value → Prop} (hT : TsIn L a ts) (H : Holds w L) (ht : ts[i]? = some t) (hi : i < l) (h : K (.agg (cellsT t).toArray)) :
    Ias 5 (.slice a l c) (.int k (i : Int)) fun y => LdA 5 y w K := by
  obtain ⟨p, rfl, hc⟩ := hT w H i t ht
  refine r_iasP hi ?_
  refine r_ldAP (cs := (cellsT t).toArray) rfl (fun j v hv => hc j v (by simpa using hv)) h
theorem cellsT_sg (t : Tn) : (cellsT t).all sg = true := rfl
def okT (t : Tn) : Prop := word t.nm.data.toList ∧ word t.tk.data.toList ∧ 0 ≤ t.me ∧ t.me ≤ 1099511627776 ∧ 1 ≤ t.st ∧ t.st ≤ 1099511627776 ∧ 1 ≤ t.qu ∧ t.qu ≤ 1099511627776
def szT (t : Tn) : Prop := t.nm.size ≤ 1000 ∧ t.tk.size ≤ 1000
def apartT (t u : Tn) : Prop := ¬ t.nm = u.nm ∧ ¬ t.tk = u.tk
def goodTs (ts : List Tn) : Prop := (∀ (i : Nat) t, ts[i]? = some t → okT t) ∧ (∀ (i : Nat) t (j : Nat) u, ts[i]? = some t → ts[j]? = some u → j < i → apartT u t) ∧ 0 < ts.length ∧ ts.length ≤ 16
/-- All is well with the first of them. -/
def okTo (ts : List Tn) (i : Nat) : Prop := (∀ q t, q < i → ts[q]? = some t → okT t) ∧ (∀ q t j u, q < i → ts[q]? = some t → ts[j]? = some u → j < q → apartT u t)
/-- Which error a table has. -/
def Chk (ts : List Tn) (e : Int) : Prop :=
  (ts.length = 0 ∧ e = 6) ∨ (16 < ts.length ∧ e = 2) ∨ (0 < ts.length ∧ ts.length ≤ 16 ∧ ∃ i t, ts[i]? = some t ∧ okTo ts i ∧ ((¬ okT t ∧ e = 1) ∨ (okT t ∧ (∃ j u, j < i ∧ ts[j]? = some u ∧ ¬ apartT u t) ∧ e = 8))) ∨ (goodTs ts ∧ e = 0)
theorem Chk_at {ts : List Tn} {i i' : Nat} {t t' : Tn} (h1 : ts[i]? = some t) (h2 : ts[i']? = some t') (h3 : okTo ts i') (hlt : i < i') (h4 : ¬ okT t ∨ ∃ j u, j < i ∧ ts[j]? = some u ∧ ¬ apartT u t) : False := by
  rcases h4 with h4 | ⟨j, u, hj, hu, ha⟩
  · exact h4 (h3.1 i t hlt h1)
  · exact ha (h3.2 i t j u hlt h1 hu hj)
theorem Chk_one {ts : List Tn} {e e' : Int} (h : Chk ts e) (h' : Chk ts e') : e = e' := by
  rcases h with ⟨a1, a2⟩ | ⟨a1, a2⟩ | ⟨a0, a1, i, t, a2, a3, a4⟩ | ⟨⟨g1, g2, g3, g4⟩, a2⟩ <;>
    rcases h' with ⟨b1, b2⟩ | ⟨b1, b2⟩ | ⟨b0, b1, i', t', b2, b3, b4⟩ | ⟨⟨k1, k2, k3, k4⟩, b2⟩ <;> try omega
  · have w1 : ¬ okT t ∨ ∃ j u, j < i ∧ ts[j]? = some u ∧ ¬ apartT u t := by
      rcases a4 with a4 | a4
      · exact .inl a4.1
      · exact .inr a4.2.1
    have w2 : ¬ okT t' ∨ ∃ j u, j < i' ∧ ts[j]? = some u ∧ ¬ apartT u t' := by
      rcases b4 with b4 | b4
      · exact .inl b4.1
      · exact .inr b4.2.1
    rcases Nat.lt_trichotomy i i' with hlt | rfl | hlt
    · exact (Chk_at a2 b2 b3 hlt w1).elim
    · rw [a2] at b2
      obtain rfl := Option.some.inj b2
      rcases a4 with a4 | a4 <;> rcases b4 with b4 | b4
      · omega
      · exact (a4.1 b4.1).elim
      · exact (b4.1 a4.1).elim
      · omega
    · exact (Chk_at b2 a2 a3 hlt w2).elim
  · rcases a4 with a4 | ⟨a4, ⟨j, u, hj, hu, ha⟩, _⟩
    · exact (a4.1 (k1 i t a2)).elim
    · exact (ha (k2 i t j u a2 hu hj)).elim
  · rcases b4 with b4 | ⟨b4, ⟨j, u, hj, hu, ha⟩, _⟩
    · exact (b4.1 (g1 i' t' b2)).elim
    · exact (ha (g2 i' t' j u b2 hu hj)).elim
theorem most_spec {n l : Int} (post : K (.bool (decide (l ≤ n ∧ n ≤ 1099511627776))) w) : Cl Tryz.prog F.balerref32_most #[iv n, iv l] w K := by
  refine Tie.balerref32_most ?_
  unfold Vcf.balerref32_most
  repeat (first | refine r_nc ?_ | refine r_fo0 ?_ | refine r_fo ?_ | refine r_ke ?_ | refine r_lns ?_ | refine r_lnl ?_ | refine r_eql ?_ | refine r_neq ?_ | refine r_lss ?_ | refine r_leq ?_ | refine r_gtr ?_ | refine r_geq ?_ | refine r_seq0 ?_ | refine r_sne0 ?_ | refine r_seq ?_ | refine r_sne ?_ | (with_reducible refine r_notT ?_) | (with_reducible refine r_notF ?_) | refine r_not ?_ | (with_reducible refine r_bnST ?_) | (with_reducible refine r_bnSF ?_) | (with_reducible refine r_bnNT ?_) | (with_reducible refine r_bnNF ?_) | (with_reducible refine r_ex20 ?_) | (with_reducible refine r_ex21 ?_) | (with_reducible refine r_ex30 ?_) | (with_reducible refine r_ex31 ?_) | (with_reducible refine r_ex32 ?_) | (with_reducible refine r_vt ?_) | (with_reducible refine r_vf ?_) | refine r_bb ?_ | (with_reducible refine r_pkT ?_) | (with_reducible refine r_pkF ?_) | (with_reducible refine r_pkB ?_) | refine r_ex rfl ?_ | (refine r_ci64 (by omega) (by omega) ?_) | (refine r_ciu8 (by omega) (by omega) ?_) | (refine r_ciu32 (by omega) (by omega) ?_) | refine r_ci ?_ | (refine r_add1N (by omega) ?_) | (refine r_sub1N (by omega) (by omega) ?_) | (refine r_addN (by omega) ?_) | (refine r_add (by omega) (by omega) ?_) | (refine r_ixsN (by omega) ?_) | (refine r_iaaN (by omega) ?_) | (refine r_sub (by omega) (by omega) ?_) | (refine r_mul (by omega) (by omega) ?_) | (refine r_dr H ?_; clear H; intro _ S_ H; replace S := S.trans S_; clear S_) | refine r_ld 0 H rfl rfl ?_ | refine r_ld 1 H rfl rfl ?_ | refine r_ld 2 H rfl rfl ?_ | refine r_ld 3 H rfl rfl ?_ | refine r_ld 4 H rfl rfl ?_ | ((with_reducible refine r_vtD ?h ?_); (case h => omega)) | ((with_reducible refine r_vfD ?h ?_); (case h => omega)) | ((with_reducible refine r_vtE ?h ?_); (case h => omega)) | ((with_reducible refine r_vfE ?h ?_); (case h => omega)) | ((with_reducible refine r_vtN ?h ?_); (case h => omega)) | ((with_reducible refine r_vfN ?h ?_); (case h => omega)))
  refine r_ifD (fun h => ?_) fun h => ?_
  · repeat (first | refine r_nc ?_ | refine r_fo0 ?_ | refine r_fo ?_ | refine r_ke ?_ | refine r_lns ?_ | refine r_lnl ?_ | refine r_eql ?_ | refine r_neq ?_ | refine r_lss ?_ | refine r_leq ?_ | refine r_gtr ?_ | refine r_geq ?_ | refine r_seq0 ?_ | refine r_sne0 ?_ | refine r_seq ?_ | refine r_sne ?_ | (with_reducible refine r_notT ?_) | (with_reducible refine r_notF ?_) | refine r_not ?_ | (with_reducible refine r_bnST ?_) | (with_reducible refine r_bnSF ?_) | (with_reducible refine r_bnNT ?_) | (with_reducible refine r_bnNF ?_) | (with_reducible refine r_ex20 ?_) | (with_reducible refine r_ex21 ?_) | (with_reducible refine r_ex30 ?_) | (with_reducible refine r_ex31 ?_) | (with_reducible refine r_ex32 ?_) | (with_reducible refine r_vt ?_) | (with_reducible refine r_vf ?_) | refine r_bb ?_ | (with_reducible refine r_pkT ?_) | (with_reducible refine r_pkF ?_) | (with_reducible refine r_pkB ?_) | refine r_ex rfl ?_ | (refine r_ci64 (by omega) (by omega) ?_) | (refine r_ciu8 (by omega) (by omega) ?_) | (refine r_ciu32 (by omega) (by omega) ?_) | refine r_ci ?_ | (refine r_add1N (by omega) ?_) | (refine r_sub1N (by omega) (by omega) ?_) | (refine r_addN (by omega) ?_) | (refine r_add (by omega) (by omega) ?_) | (refine r_ixsN (by omega) ?_) | (refine r_iaaN (by omega) ?_) | (refine r_sub (by omega) (by omega) ?_) | (refine r_mul (by omega) (by omega) ?_) | (refine r_dr H ?_; clear H; intro _ S_ H; replace S := S.trans S_; clear S_) | refine r_ld 0 H rfl rfl ?_ | refine r_ld 1 H rfl rfl ?_ | refine r_ld 2 H rfl rfl ?_ | refine r_ld 3 H rfl rfl ?_ | refine r_ld 4 H rfl rfl ?_ | ((with_reducible refine r_vtD ?h ?_); (case h => omega)) | ((with_reducible refine r_vfD ?h ?_); (case h => omega)) | ((with_reducible refine r_vtE ?h ?_); (case h => omega)) | ((with_reducible refine r_vfE ?h ?_); (case h => omega)) | ((with_reducible refine r_vtN ?h ?_); (case h => omega)) | ((with_reducible refine r_vfN ?h ?_); (case h => omega)))
    rw [show decide (n ≤ 1099511627776) = decide (l ≤ n ∧ n ≤ 1099511627776) by rw [Bool.eq_iff_iff, decide_eq_true_iff, decide_eq_true_iff]; omega]
    exact post
  · rw [decide_eq_false (by omega)] at post
    exact post
theorem May_spec {t : Tn} (H : Holds w L) (hs : szT t) (post : ∀ b w', Same w w' → Holds w' L → (b = true ↔ okT t) → K (.bool b) w') : Cl Tryz.prog F.balerref32_May #[.agg (cellsT t).toArray] w K := by
  refine Tie.balerref32_May ?_
  unfold Vcf.balerref32_May
  refine r_new H fun bt w1 S1 H1 => ?_
  replace H1 : Holds w1 (blk bt tT (cellsT t) :: L) := H1
  have S := S1
  clear H S1
  have H := H1
  clear H1
  unfold szT at hs
  repeat (first | refine r_nc ?_ | refine r_fo0 ?_ | refine r_fo ?_ | refine r_ke ?_ | refine r_lns ?_ | refine r_lnl ?_ | refine r_eql ?_ | refine r_neq ?_ | refine r_lss ?_ | refine r_leq ?_ | refine r_gtr ?_ | refine r_geq ?_ | refine r_seq0 ?_ | refine r_sne0 ?_ | refine r_seq ?_ | refine r_sne ?_ | (with_reducible refine r_notT ?_) | (with_reducible refine r_notF ?_) | refine r_not ?_ | (with_reducible refine r_bnST ?_) | (with_reducible refine r_bnSF ?_) | (with_reducible refine r_bnNT ?_) | (with_reducible refine r_bnNF ?_) | (with_reducible refine r_ex20 ?_) | (with_reducible refine r_ex21 ?_) | (with_reducible refine r_ex30 ?_) | (with_reducible refine r_ex31 ?_) | (with_reducible refine r_ex32 ?_) | (with_reducible refine r_vt ?_) | (with_reducible refine r_vf ?_) | refine r_bb ?_ | (with_reducible refine r_pkT ?_) | (with_reducible refine r_pkF ?_) | (with_reducible refine r_pkB ?_) | refine r_ex rfl ?_ | (refine r_ci64 (by omega) (by omega) ?_) | (refine r_ciu8 (by omega) (by omega) ?_) | (refine r_ciu32 (by omega) (by omega) ?_) | refine r_ci ?_ | (refine r_add1N (by omega) ?_) | (refine r_sub1N (by omega) (by omega) ?_) | (refine r_addN (by omega) ?_) | (refine r_add (by omega) (by omega) ?_) | (refine r_ixsN (by omega) ?_) | (refine r_iaaN (by omega) ?_) | (refine r_sub (by omega) (by omega) ?_) | (refine r_mul (by omega) (by omega) ?_) | (refine r_dr H ?_; clear H; intro _ S_ H; replace S := S.trans S_; clear S_) | refine r_ld 0 H rfl rfl ?_ | refine r_ld 1 H rfl rfl ?_ | refine r_ld 2 H rfl rfl ?_ | refine r_ld 3 H rfl rfl ?_ | refine r_ld 4 H rfl rfl ?_ | ((with_reducible refine r_vtD ?h ?_); (case h => omega)) | ((with_reducible refine r_vfD ?h ?_); (case h => omega)) | ((with_reducible refine r_vtE ?h ?_); (case h => omega)) | ((with_reducible refine r_vfE ?h ?_); (case h => omega)) | ((with_reducible refine r_vtN ?h ?_); (case h => omega)) | ((with_reducible refine r_vfN ?h ?_); (case h => omega)))
  refine Word_spec H (by omega) fun b1 w2 S2 H2 h1 => ?_
  replace S := S.trans S2
  clear H S2
  have H := H2
  clear H2
  refine r_vif (fun hb => ?_) fun hb => post _ _ S H.drop ⟨fun e => (by cases e), fun o => by rw [h1.2 o.1] at hb; cases hb⟩
  have g1 := h1.1 hb
  repeat (first | refine r_nc ?_ | refine r_fo0 ?_ | refine r_fo ?_ | refine r_ke ?_ | refine r_lns ?_ | refine r_lnl ?_ | refine r_eql ?_ | refine r_neq ?_ | refine r_lss ?_ | refine r_leq ?_ | refine r_gtr ?_ | refine r_geq ?_ | refine r_seq0 ?_ | refine r_sne0 ?_ | refine r_seq ?_ | refine r_sne ?_ | (with_reducible refine r_notT ?_) | (with_reducible refine r_notF ?_) | refine r_not ?_ | (with_reducible refine r_bnST ?_) | (with_reducible refine r_bnSF ?_) | (with_reducible refine r_bnNT ?_) | (with_reducible refine r_bnNF ?_) | (with_reducible refine r_ex20 ?_) | (with_reducible refine r_ex21 ?_) | (with_reducible refine r_ex30 ?_) | (with_reducible refine r_ex31 ?_) | (with_reducible refine r_ex32 ?_) | (with_reducible refine r_vt ?_) | (with_reducible refine r_vf ?_) | refine r_bb ?_ | (with_reducible refine r_pkT ?_) | (with_reducible refine r_pkF ?_) | (with_reducible refine r_pkB ?_) | refine r_ex rfl ?_ | (refine r_ci64 (by omega) (by omega) ?_) | (refine r_ciu8 (by omega) (by omega) ?_) | (refine r_ciu32 (by omega) (by omega) ?_) | refine r_ci ?_ | (refine r_add1N (by omega) ?_) | (refine r_sub1N (by omega) (by omega) ?_) | (refine r_addN (by omega) ?_) | (refine r_add (by omega) (by omega) ?_) | (refine r_ixsN (by omega) ?_) | (refine r_iaaN (by omega) ?_) | (refine r_sub (by omega) (by omega) ?_) | (refine r_mul (by omega) (by omega) ?_) | (refine r_dr H ?_; clear H; intro _ S_ H; replace S := S.trans S_; clear S_) | refine r_ld 0 H rfl rfl ?_ | refine r_ld 1 H rfl rfl ?_ | refine r_ld 2 H rfl rfl ?_ | refine r_ld 3 H rfl rfl ?_ | refine r_ld 4 H rfl rfl ?_ | ((with_reducible refine r_vtD ?h ?_); (case h => omega)) | ((with_reducible refine r_vfD ?h ?_); (case h => omega)) | ((with_reducible refine r_vtE ?h ?_); (case h => omega)) | ((with_reducible refine r_vfE ?h ?_); (case h => omega)) | ((with_reducible refine r_vtN ?h ?_); (case h => omega)) | ((with_reducible refine r_vfN ?h ?_); (case h => omega)))
  refine Word_spec H (by omega) fun b2 w2 S2 H2 h2 => ?_
  replace S := S.trans S2
  clear H S2
  have H := H2
  clear H2
  refine r_vif (fun hb => ?_) fun hb => post _ _ S H.drop ⟨fun e => (by cases e), fun o => by rw [h2.2 o.2.1] at hb; cases hb⟩
  have g2 := h2.1 hb
  repeat (first | refine r_nc ?_ | refine r_fo0 ?_ | refine r_fo ?_ | refine r_ke ?_ | refine r_lns ?_ | refine r_lnl ?_ | refine r_eql ?_ | refine r_neq ?_ | refine r_lss ?_ | refine r_leq ?_ | refine r_gtr ?_ | refine r_geq ?_ | refine r_seq0 ?_ | refine r_sne0 ?_ | refine r_seq ?_ | refine r_sne ?_ | (with_reducible refine r_notT ?_) | (with_reducible refine r_notF ?_) | refine r_not ?_ | (with_reducible refine r_bnST ?_) | (with_reducible refine r_bnSF ?_) | (with_reducible refine r_bnNT ?_) | (with_reducible refine r_bnNF ?_) | (with_reducible refine r_ex20 ?_) | (with_reducible refine r_ex21 ?_) | (with_reducible refine r_ex30 ?_) | (with_reducible refine r_ex31 ?_) | (with_reducible refine r_ex32 ?_) | (with_reducible refine r_vt ?_) | (with_reducible refine r_vf ?_) | refine r_bb ?_ | (with_reducible refine r_pkT ?_) | (with_reducible refine r_pkF ?_) | (with_reducible refine r_pkB ?_) | refine r_ex rfl ?_ | (refine r_ci64 (by omega) (by omega) ?_) | (refine r_ciu8 (by omega) (by omega) ?_) | (refine r_ciu32 (by omega) (by omega) ?_) | refine r_ci ?_ | (refine r_add1N (by omega) ?_) | (refine r_sub1N (by omega) (by omega) ?_) | (refine r_addN (by omega) ?_) | (refine r_add (by omega) (by omega) ?_) | (refine r_ixsN (by omega) ?_) | (refine r_iaaN (by omega) ?_) | (refine r_sub (by omega) (by omega) ?_) | (refine r_mul (by omega) (by omega) ?_) | (refine r_dr H ?_; clear H; intro _ S_ H; replace S := S.trans S_; clear S_) | refine r_ld 0 H rfl rfl ?_ | refine r_ld 1 H rfl rfl ?_ | refine r_ld 2 H rfl rfl ?_ | refine r_ld 3 H rfl rfl ?_ | refine r_ld 4 H rfl rfl ?_ | ((with_reducible refine r_vtD ?h ?_); (case h => omega)) | ((with_reducible refine r_vfD ?h ?_); (case h => omega)) | ((with_reducible refine r_vtE ?h ?_); (case h => omega)) | ((with_reducible refine r_vfE ?h ?_); (case h => omega)) | ((with_reducible refine r_vtN ?h ?_); (case h => omega)) | ((with_reducible refine r_vfN ?h ?_); (case h => omega)))
  refine most_spec ?_
  refine r_ifD (fun h3 => ?_) fun h3 => post _ _ S H.drop ⟨fun e => (by cases e), fun o => absurd ⟨o.2.2.1, o.2.2.2.1⟩ h3⟩
  repeat (first | refine r_nc ?_ | refine r_fo0 ?_ | refine r_fo ?_ | refine r_ke ?_ | refine r_lns ?_ | refine r_lnl ?_ | refine r_eql ?_ | refine r_neq ?_ | refine r_lss ?_ | refine r_leq ?_ | refine r_gtr ?_ | refine r_geq ?_ | refine r_seq0 ?_ | refine r_sne0 ?_ | refine r_seq ?_ | refine r_sne ?_ | (with_reducible refine r_notT ?_) | (with_reducible refine r_notF ?_) | refine r_not ?_ | (with_reducible refine r_bnST ?_) | (with_reducible refine r_bnSF ?_) | (with_reducible refine r_bnNT ?_) | (with_reducible refine r_bnNF ?_) | (with_reducible refine r_ex20 ?_) | (with_reducible refine r_ex21 ?_) | (with_reducible refine r_ex30 ?_) | (with_reducible refine r_ex31 ?_) | (with_reducible refine r_ex32 ?_) | (with_reducible refine r_vt ?_) | (with_reducible refine r_vf ?_) | refine r_bb ?_ | (with_reducible refine r_pkT ?_) | (with_reducible refine r_pkF ?_) | (with_reducible refine r_pkB ?_) | refine r_ex rfl ?_ | (refine r_ci64 (by omega) (by omega) ?_) | (refine r_ciu8 (by omega) (by omega) ?_) | (refine r_ciu32 (by omega) (by omega) ?_) | refine r_ci ?_ | (refine r_add1N (by omega) ?_) | (refine r_sub1N (by omega) (by omega) ?_) | (refine r_addN (by omega) ?_) | (refine r_add (by omega) (by omega) ?_) | (refine r_ixsN (by omega) ?_) | (refine r_iaaN (by omega) ?_) | (refine r_sub (by omega) (by omega) ?_) | (refine r_mul (by omega) (by omega) ?_) | (refine r_dr H ?_; clear H; intro _ S_ H; replace S := S.trans S_; clear S_) | refine r_ld 0 H rfl rfl ?_ | refine r_ld 1 H rfl rfl ?_ | refine r_ld 2 H rfl rfl ?_ | refine r_ld 3 H rfl rfl ?_ | refine r_ld 4 H rfl rfl ?_ | ((with_reducible refine r_vtD ?h ?_); (case h => omega)) | ((with_reducible refine r_vfD ?h ?_); (case h => omega)) | ((with_reducible refine r_vtE ?h ?_); (case h => omega)) | ((with_reducible refine r_vfE ?h ?_); (case h => omega)) | ((with_reducible refine r_vtN ?h ?_); (case h => omega)) | ((with_reducible refine r_vfN ?h ?_); (case h => omega)))
  refine most_spec ?_
  refine r_ifD (fun h4 => ?_) fun h4 => post _ _ S H.drop ⟨fun e => (by cases e), fun o => absurd ⟨o.2.2.2.2.1, o.2.2.2.2.2.1⟩ h4⟩
  repeat (first | refine r_nc ?_ | refine r_fo0 ?_ | refine r_fo ?_ | refine r_ke ?_ | refine r_lns ?_ | refine r_lnl ?_ | refine r_eql ?_ | refine r_neq ?_ | refine r_lss ?_ | refine r_leq ?_ | refine r_gtr ?_ | refine r_geq ?_ | refine r_seq0 ?_ | refine r_sne0 ?_ | refine r_seq ?_ | refine r_sne ?_ | (with_reducible refine r_notT ?_) | (with_reducible refine r_notF ?_) | refine r_not ?_ | (with_reducible refine r_bnST ?_) | (with_reducible refine r_bnSF ?_) | (with_reducible refine r_bnNT ?_) | (with_reducible refine r_bnNF ?_) | (with_reducible refine r_ex20 ?_) | (with_reducible refine r_ex21 ?_) | (with_reducible refine r_ex30 ?_) | (with_reducible refine r_ex31 ?_) | (with_reducible refine r_ex32 ?_) | (with_reducible refine r_vt ?_) | (with_reducible refine r_vf ?_) | refine r_bb ?_ | (with_reducible refine r_pkT ?_) | (with_reducible refine r_pkF ?_) | (with_reducible refine r_pkB ?_) | refine r_ex rfl ?_ | (refine r_ci64 (by omega) (by omega) ?_) | (refine r_ciu8 (by omega) (by omega) ?_) | (refine r_ciu32 (by omega) (by omega) ?_) | refine r_ci ?_ | (refine r_add1N (by omega) ?_) | (refine r_sub1N (by omega) (by omega) ?_) | (refine r_addN (by omega) ?_) | (refine r_add (by omega) (by omega) ?_) | (refine r_ixsN (by omega) ?_) | (refine r_iaaN (by omega) ?_) | (refine r_sub (by omega) (by omega) ?_) | (refine r_mul (by omega) (by omega) ?_) | (refine r_dr H ?_; clear H; intro _ S_ H; replace S := S.trans S_; clear S_) | refine r_ld 0 H rfl rfl ?_ | refine r_ld 1 H rfl rfl ?_ | refine r_ld 2 H rfl rfl ?_ | refine r_ld 3 H rfl rfl ?_ | refine r_ld 4 H rfl rfl ?_ | ((with_reducible refine r_vtD ?h ?_); (case h => omega)) | ((with_reducible refine r_vfD ?h ?_); (case h => omega)) | ((with_reducible refine r_vtE ?h ?_); (case h => omega)) | ((with_reducible refine r_vfE ?h ?_); (case h => omega)) | ((with_reducible refine r_vtN ?h ?_); (case h => omega)) | ((with_reducible refine r_vfN ?h ?_); (case h => omega)))
  refine most_spec ?_
  refine post _ _ S H.drop ⟨fun e => ?_, fun o => decide_eq_true ⟨o.2.2.2.2.2.2.1, o.2.2.2.2.2.2.2⟩⟩
  have h5 := of_decide_eq_true e
  exact ⟨g1, g2, h3.1, h3.2, h4.1, h4.2, h5.1, h5.2⟩
abbrev tW : Nat := 76
theorem Check_spec {a : Option Addr} {ts : List Tn} {c : Nat} (H : Holds w L) (hT : TsIn L a ts) (hs : ∀ t ∈ ts, szT t) (hc : ts.length ≤ c)
    (post : ∀ at_ e w', Same w w' → Holds w' L → Chk ts e → K (.agg #[iv at_, iv e]) w') :
    Cl Tryz.prog F.balerref32_Check #[.slice a ts.length c] w K := by
  refine Tie.balerref32_Check ?_
  unfold Vcf.balerref32_Check
  have hz : (zeroP Tryz.prog tW).cells.toList = [iv 0, iv 0] := by kernel_rfl
  have hzT : (zeroP Tryz.prog tT).cells.toList = [.string ⟨#[]⟩, .string ⟨#[]⟩, iv 0, iv 0, iv 0] := by kernel_rfl
  refine r_new H fun bx w1 S1 H1 => ?_
  rw [hz] at H1
  have S := S1
  clear H S1
  have H := H1
  clear H1
  have out : ∀ (x y : Int) (w2 : World), Same w w2 → Holds w2 (blk bx tW [iv 0, iv 0] :: L) → Chk ts y →
      Bd Tryz.prog tW #[(0, iv x), (1, iv y)] w2 fun v => StA 2 (.pointer (some ⟨bx, 0, none⟩)) v w2 fun w3 => LdA 2 (.pointer (some ⟨bx, 0, none⟩)) w3 fun u => K u w3 := by
    intro x y w2 S2 H2 hg
    refine r_bd (v := .agg #[iv x, iv y]) (by kernel_rfl) ?_
    refine r_stA 0 H2 (vs := [iv x, iv y]) rfl (Nat.le_refl 2) rfl rfl fun w3 S3 H3 => ?_
    replace H3 : Holds w3 (blk bx tW [iv x, iv y] :: L) := H3
    refine r_ldA 0 H3 [iv x, iv y] rfl rfl rfl ?_
    exact post _ _ _ (S2.trans S3) H3.drop hg
  repeat (first | refine r_nc ?_ | refine r_fo0 ?_ | refine r_fo ?_ | refine r_ke ?_ | refine r_lns ?_ | refine r_lnl ?_ | refine r_eql ?_ | refine r_neq ?_ | refine r_lss ?_ | refine r_leq ?_ | refine r_gtr ?_ | refine r_geq ?_ | refine r_seq0 ?_ | refine r_sne0 ?_ | refine r_seq ?_ | refine r_sne ?_ | (with_reducible refine r_notT ?_) | (with_reducible refine r_notF ?_) | refine r_not ?_ | (with_reducible refine r_bnST ?_) | (with_reducible refine r_bnSF ?_) | (with_reducible refine r_bnNT ?_) | (with_reducible refine r_bnNF ?_) | (with_reducible refine r_ex20 ?_) | (with_reducible refine r_ex21 ?_) | (with_reducible refine r_ex30 ?_) | (with_reducible refine r_ex31 ?_) | (with_reducible refine r_ex32 ?_) | (with_reducible refine r_vt ?_) | (with_reducible refine r_vf ?_) | refine r_bb ?_ | (with_reducible refine r_pkT ?_) | (with_reducible refine r_pkF ?_) | (with_reducible refine r_pkB ?_) | refine r_ex rfl ?_ | (refine r_ci64 (by omega) (by omega) ?_) | (refine r_ciu8 (by omega) (by omega) ?_) | (refine r_ciu32 (by omega) (by omega) ?_) | refine r_ci ?_ | (refine r_add1N (by omega) ?_) | (refine r_sub1N (by omega) (by omega) ?_) | (refine r_addN (by omega) ?_) | (refine r_add (by omega) (by omega) ?_) | (refine r_ixsN (by omega) ?_) | (refine r_iaaN (by omega) ?_) | (refine r_sub (by omega) (by omega) ?_) | (refine r_mul (by omega) (by omega) ?_) | (refine r_dr H ?_; clear H; intro _ S_ H; replace S := S.trans S_; clear S_) | refine r_ld 0 H rfl rfl ?_ | refine r_ld 1 H rfl rfl ?_ | refine r_ld 2 H rfl rfl ?_ | refine r_ld 3 H rfl rfl ?_ | refine r_ld 4 H rfl rfl ?_ | ((with_reducible refine r_vtD ?h ?_); (case h => omega)) | ((with_reducible refine r_vfD ?h ?_); (case h => omega)) | ((with_reducible refine r_vtE ?h ?_); (case h => omega)) | ((with_reducible refine r_vfE ?h ?_); (case h => omega)) | ((with_reducible refine r_vtN ?h ?_); (case h => omega)) | ((with_reducible refine r_vfN ?h ?_); (case h => omega)))
  refine r_ifE (fun h => ?_) fun h => ?_
  · exact out (-1) 6 _ S H (.inl ⟨by omega, rfl⟩)
  repeat (first | refine r_nc ?_ | refine r_fo0 ?_ | refine r_fo ?_ | refine r_ke ?_ | refine r_lns ?_ | refine r_lnl ?_ | refine r_eql ?_ | refine r_neq ?_ | refine r_lss ?_ | refine r_leq ?_ | refine r_gtr ?_ | refine r_geq ?_ | refine r_seq0 ?_ | refine r_sne0 ?_ | refine r_seq ?_ | refine r_sne ?_ | (with_reducible refine r_notT ?_) | (with_reducible refine r_notF ?_) | refine r_not ?_ | (with_reducible refine r_bnST ?_) | (with_reducible refine r_bnSF ?_) | (with_reducible refine r_bnNT ?_) | (with_reducible refine r_bnNF ?_) | (with_reducible refine r_ex20 ?_) | (with_reducible refine r_ex21 ?_) | (with_reducible refine r_ex30 ?_) | (with_reducible refine r_ex31 ?_) | (with_reducible refine r_ex32 ?_) | (with_reducible refine r_vt ?_) | (with_reducible refine r_vf ?_) | refine r_bb ?_ | (with_reducible refine r_pkT ?_) | (with_reducible refine r_pkF ?_) | (with_reducible refine r_pkB ?_) | refine r_ex rfl ?_ | (refine r_ci64 (by omega) (by omega) ?_) | (refine r_ciu8 (by omega) (by omega) ?_) | (refine r_ciu32 (by omega) (by omega) ?_) | refine r_ci ?_ | (refine r_add1N (by omega) ?_) | (refine r_sub1N (by omega) (by omega) ?_) | (refine r_addN (by omega) ?_) | (refine r_add (by omega) (by omega) ?_) | (refine r_ixsN (by omega) ?_) | (refine r_iaaN (by omega) ?_) | (refine r_sub (by omega) (by omega) ?_) | (refine r_mul (by omega) (by omega) ?_) | (refine r_dr H ?_; clear H; intro _ S_ H; replace S := S.trans S_; clear S_) | refine r_ld 0 H rfl rfl ?_ | refine r_ld 1 H rfl rfl ?_ | refine r_ld 2 H rfl rfl ?_ | refine r_ld 3 H rfl rfl ?_ | refine r_ld 4 H rfl rfl ?_ | ((with_reducible refine r_vtD ?h ?_); (case h => omega)) | ((with_reducible refine r_vfD ?h ?_); (case h => omega)) | ((with_reducible refine r_vtE ?h ?_); (case h => omega)) | ((with_reducible refine r_vfE ?h ?_); (case h => omega)) | ((with_reducible refine r_vtN ?h ?_); (case h => omega)) | ((with_reducible refine r_vfN ?h ?_); (case h => omega)))
  refine r_ifD (fun h2 => ?_) fun h2 => ?_
  · exact out 16 2 _ S H (.inr (.inl ⟨by omega, rfl⟩))
  repeat (first | refine r_nc ?_ | refine r_fo0 ?_ | refine r_fo ?_ | refine r_ke ?_ | refine r_lns ?_ | refine r_lnl ?_ | refine r_eql ?_ | refine r_neq ?_ | refine r_lss ?_ | refine r_leq ?_ | refine r_gtr ?_ | refine r_geq ?_ | refine r_seq0 ?_ | refine r_sne0 ?_ | refine r_seq ?_ | refine r_sne ?_ | (with_reducible refine r_notT ?_) | (with_reducible refine r_notF ?_) | refine r_not ?_ | (with_reducible refine r_bnST ?_) | (with_reducible refine r_bnSF ?_) | (with_reducible refine r_bnNT ?_) | (with_reducible refine r_bnNF ?_) | (with_reducible refine r_ex20 ?_) | (with_reducible refine r_ex21 ?_) | (with_reducible refine r_ex30 ?_) | (with_reducible refine r_ex31 ?_) | (with_reducible refine r_ex32 ?_) | (with_reducible refine r_vt ?_) | (with_reducible refine r_vf ?_) | refine r_bb ?_ | (with_reducible refine r_pkT ?_) | (with_reducible refine r_pkF ?_) | (with_reducible refine r_pkB ?_) | refine r_ex rfl ?_ | (refine r_ci64 (by omega) (by omega) ?_) | (refine r_ciu8 (by omega) (by omega) ?_) | (refine r_ciu32 (by omega) (by omega) ?_) | refine r_ci ?_ | (refine r_add1N (by omega) ?_) | (refine r_sub1N (by omega) (by omega) ?_) | (refine r_addN (by omega) ?_) | (refine r_add (by omega) (by omega) ?_) | (refine r_ixsN (by omega) ?_) | (refine r_iaaN (by omega) ?_) | (refine r_sub (by omega) (by omega) ?_) | (refine r_mul (by omega) (by omega) ?_) | (refine r_dr H ?_; clear H; intro _ S_ H; replace S := S.trans S_; clear S_) | refine r_ld 0 H rfl rfl ?_ | refine r_ld 1 H rfl rfl ?_ | refine r_ld 2 H rfl rfl ?_ | refine r_ld 3 H rfl rfl ?_ | refine r_ld 4 H rfl rfl ?_ | ((with_reducible refine r_vtD ?h ?_); (case h => omega)) | ((with_reducible refine r_vfD ?h ?_); (case h => omega)) | ((with_reducible refine r_vtE ?h ?_); (case h => omega)) | ((with_reducible refine r_vfE ?h ?_); (case h => omega)) | ((with_reducible refine r_vtN ?h ?_); (case h => omega)) | ((with_reducible refine r_vfN ?h ?_); (case h => omega)))
  refine r_loop1 (fun x w' => ∃ i : Nat, i ≤ ts.length ∧ x = nv i ∧ okTo ts i ∧ Same w w' ∧ Holds w' (blk bx tW [iv 0, iv 0] :: L))
    (fun x _ => ts.length - (RowKit.intOf x).toNat) ⟨0, by omega, rfl, ⟨fun q t hq => by omega, fun q t j u hq => by omega⟩, S, H⟩ ?_
  clear H S
  rintro _ _ w2 ⟨i, hi, rfl, g12, S, H⟩
  repeat (first | refine r_nc ?_ | refine r_fo0 ?_ | refine r_fo ?_ | refine r_ke ?_ | refine r_lns ?_ | refine r_lnl ?_ | refine r_eql ?_ | refine r_neq ?_ | refine r_lss ?_ | refine r_leq ?_ | refine r_gtr ?_ | refine r_geq ?_ | refine r_seq0 ?_ | refine r_sne0 ?_ | refine r_seq ?_ | refine r_sne ?_ | (with_reducible refine r_notT ?_) | (with_reducible refine r_notF ?_) | refine r_not ?_ | (with_reducible refine r_bnST ?_) | (with_reducible refine r_bnSF ?_) | (with_reducible refine r_bnNT ?_) | (with_reducible refine r_bnNF ?_) | (with_reducible refine r_ex20 ?_) | (with_reducible refine r_ex21 ?_) | (with_reducible refine r_ex30 ?_) | (with_reducible refine r_ex31 ?_) | (with_reducible refine r_ex32 ?_) | (with_reducible refine r_vt ?_) | (with_reducible refine r_vf ?_) | refine r_bb ?_ | (with_reducible refine r_pkT ?_) | (with_reducible refine r_pkF ?_) | (with_reducible refine r_pkB ?_) | refine r_ex rfl ?_ | (refine r_ci64 (by omega) (by omega) ?_) | (refine r_ciu8 (by omega) (by omega) ?_) | (refine r_ciu32 (by omega) (by omega) ?_) | refine r_ci ?_ | (refine r_add1N (by omega) ?_) | (refine r_sub1N (by omega) (by omega) ?_) | (refine r_addN (by omega) ?_) | (refine r_add (by omega) (by omega) ?_) | (refine r_ixsN (by omega) ?_) | (refine r_iaaN (by omega) ?_) | (refine r_sub (by omega) (by omega) ?_) | (refine r_mul (by omega) (by omega) ?_) | (refine r_dr H ?_; clear H; intro _ S_ H; replace S := S.trans S_; clear S_) | refine r_ld 0 H rfl rfl ?_ | refine r_ld 1 H rfl rfl ?_ | refine r_ld 2 H rfl rfl ?_ | refine r_ld 3 H rfl rfl ?_ | refine r_ld 4 H rfl rfl ?_ | ((with_reducible refine r_vtD ?h ?_); (case h => omega)) | ((with_reducible refine r_vfD ?h ?_); (case h => omega)) | ((with_reducible refine r_vtE ?h ?_); (case h => omega)) | ((with_reducible refine r_vfE ?h ?_); (case h => omega)) | ((with_reducible refine r_vtN ?h ?_); (case h => omega)) | ((with_reducible refine r_vfN ?h ?_); (case h => omega)))
  refine r_ifD (fun h3 => ?_) fun h3 => ?_
  · have hlt : i < ts.length := by omega
    obtain ⟨t, ht⟩ : ∃ t, ts[i]? = some t := ⟨_, List.getElem?_eq_getElem hlt⟩
    have hst := hs t (List.mem_of_getElem? ht)
    refine r_ldT hT.up H ht hlt ?_
    refine r_new H fun bt w3 S3 H3 => ?_
    rw [hzT] at H3
    refine r_stA 0 H3 (vs := cellsT t) rfl (Nat.le_refl 5) rfl (cellsT_sg t) fun w4 S4 H4 => ?_
    replace H4 : Holds w4 (blk bt tT (cellsT t) :: blk bx tW [iv 0, iv 0] :: L) := H4
    replace S := (S.trans S3).trans S4
    clear H H3 S3 S4
    have H := H4
    clear H4
    refine r_ldA 0 H (cellsT t) rfl rfl rfl ?_
    refine May_spec H hst fun b w3 S3 H3 hb => ?_
    replace S := S.trans S3
    clear H S3
    have H := H3
    clear H3
    repeat (first | refine r_nc ?_ | refine r_fo0 ?_ | refine r_fo ?_ | refine r_ke ?_ | refine r_lns ?_ | refine r_lnl ?_ | refine r_eql ?_ | refine r_neq ?_ | refine r_lss ?_ | refine r_leq ?_ | refine r_gtr ?_ | refine r_geq ?_ | refine r_seq0 ?_ | refine r_sne0 ?_ | refine r_seq ?_ | refine r_sne ?_ | (with_reducible refine r_notT ?_) | (with_reducible refine r_notF ?_) | refine r_not ?_ | (with_reducible refine r_bnST ?_) | (with_reducible refine r_bnSF ?_) | (with_reducible refine r_bnNT ?_) | (with_reducible refine r_bnNF ?_) | (with_reducible refine r_ex20 ?_) | (with_reducible refine r_ex21 ?_) | (with_reducible refine r_ex30 ?_) | (with_reducible refine r_ex31 ?_) | (with_reducible refine r_ex32 ?_) | (with_reducible refine r_vt ?_) | (with_reducible refine r_vf ?_) | refine r_bb ?_ | (with_reducible refine r_pkT ?_) | (with_reducible refine r_pkF ?_) | (with_reducible refine r_pkB ?_) | refine r_ex rfl ?_ | (refine r_ci64 (by omega) (by omega) ?_) | (refine r_ciu8 (by omega) (by omega) ?_) | (refine r_ciu32 (by omega) (by omega) ?_) | refine r_ci ?_ | (refine r_add1N (by omega) ?_) | (refine r_sub1N (by omega) (by omega) ?_) | (refine r_addN (by omega) ?_) | (refine r_add (by omega) (by omega) ?_) | (refine r_ixsN (by omega) ?_) | (refine r_iaaN (by omega) ?_) | (refine r_sub (by omega) (by omega) ?_) | (refine r_mul (by omega) (by omega) ?_) | (refine r_dr H ?_; clear H; intro _ S_ H; replace S := S.trans S_; clear S_) | refine r_ld 0 H rfl rfl ?_ | refine r_ld 1 H rfl rfl ?_ | refine r_ld 2 H rfl rfl ?_ | refine r_ld 3 H rfl rfl ?_ | refine r_ld 4 H rfl rfl ?_ | ((with_reducible refine r_vtD ?h ?_); (case h => omega)) | ((with_reducible refine r_vfD ?h ?_); (case h => omega)) | ((with_reducible refine r_vtE ?h ?_); (case h => omega)) | ((with_reducible refine r_vfE ?h ?_); (case h => omega)) | ((with_reducible refine r_vtN ?h ?_); (case h => omega)) | ((with_reducible refine r_vfN ?h ?_); (case h => omega)))
    refine r_vif (fun hn => ?_) fun hn => ?_
    · have hno : ¬ okT t := fun o => by rw [hb.2 o] at hn; cases hn
      have := out i 1 w3 S H.drop (.inr (.inr (.inl ⟨by omega, by omega, i, t, ht, g12, .inl ⟨hno, rfl⟩⟩)))
      exact this
    · have okt := hb.1 (by simpa using hn)
      refine r_ssl0 (by omega) ?_
      repeat (first | refine r_nc ?_ | refine r_fo0 ?_ | refine r_fo ?_ | refine r_ke ?_ | refine r_lns ?_ | refine r_lnl ?_ | refine r_eql ?_ | refine r_neq ?_ | refine r_lss ?_ | refine r_leq ?_ | refine r_gtr ?_ | refine r_geq ?_ | refine r_seq0 ?_ | refine r_sne0 ?_ | refine r_seq ?_ | refine r_sne ?_ | (with_reducible refine r_notT ?_) | (with_reducible refine r_notF ?_) | refine r_not ?_ | (with_reducible refine r_bnST ?_) | (with_reducible refine r_bnSF ?_) | (with_reducible refine r_bnNT ?_) | (with_reducible refine r_bnNF ?_) | (with_reducible refine r_ex20 ?_) | (with_reducible refine r_ex21 ?_) | (with_reducible refine r_ex30 ?_) | (with_reducible refine r_ex31 ?_) | (with_reducible refine r_ex32 ?_) | (with_reducible refine r_vt ?_) | (with_reducible refine r_vf ?_) | refine r_bb ?_ | (with_reducible refine r_pkT ?_) | (with_reducible refine r_pkF ?_) | (with_reducible refine r_pkB ?_) | refine r_ex rfl ?_ | (refine r_ci64 (by omega) (by omega) ?_) | (refine r_ciu8 (by omega) (by omega) ?_) | (refine r_ciu32 (by omega) (by omega) ?_) | refine r_ci ?_ | (refine r_add1N (by omega) ?_) | (refine r_sub1N (by omega) (by omega) ?_) | (refine r_addN (by omega) ?_) | (refine r_add (by omega) (by omega) ?_) | (refine r_ixsN (by omega) ?_) | (refine r_iaaN (by omega) ?_) | (refine r_sub (by omega) (by omega) ?_) | (refine r_mul (by omega) (by omega) ?_) | (refine r_dr H ?_; clear H; intro _ S_ H; replace S := S.trans S_; clear S_) | refine r_ld 0 H rfl rfl ?_ | refine r_ld 1 H rfl rfl ?_ | refine r_ld 2 H rfl rfl ?_ | refine r_ld 3 H rfl rfl ?_ | refine r_ld 4 H rfl rfl ?_ | ((with_reducible refine r_vtD ?h ?_); (case h => omega)) | ((with_reducible refine r_vfD ?h ?_); (case h => omega)) | ((with_reducible refine r_vtE ?h ?_); (case h => omega)) | ((with_reducible refine r_vfE ?h ?_); (case h => omega)) | ((with_reducible refine r_vtN ?h ?_); (case h => omega)) | ((with_reducible refine r_vfN ?h ?_); (case h => omega)))
      refine r_loop1 (fun x w' => ∃ j : Nat, j ≤ i ∧ x = nv j ∧ (∀ q u, q < j → ts[q]? = some u → apartT u t) ∧ Same w w' ∧ Holds w' (blk bt tT (cellsT t) :: blk bx tW [iv 0, iv 0] :: L))
        (fun x _ => i - (RowKit.intOf x).toNat) ⟨0, by omega, rfl, fun q t hq => by omega, S, H⟩ ?_
      clear H S
      rintro _ _ w4 ⟨j, hj, rfl, g3, S, H⟩
      repeat (first | refine r_nc ?_ | refine r_fo0 ?_ | refine r_fo ?_ | refine r_ke ?_ | refine r_lns ?_ | refine r_lnl ?_ | refine r_eql ?_ | refine r_neq ?_ | refine r_lss ?_ | refine r_leq ?_ | refine r_gtr ?_ | refine r_geq ?_ | refine r_seq0 ?_ | refine r_sne0 ?_ | refine r_seq ?_ | refine r_sne ?_ | (with_reducible refine r_notT ?_) | (with_reducible refine r_notF ?_) | refine r_not ?_ | (with_reducible refine r_bnST ?_) | (with_reducible refine r_bnSF ?_) | (with_reducible refine r_bnNT ?_) | (with_reducible refine r_bnNF ?_) | (with_reducible refine r_ex20 ?_) | (with_reducible refine r_ex21 ?_) | (with_reducible refine r_ex30 ?_) | (with_reducible refine r_ex31 ?_) | (with_reducible refine r_ex32 ?_) | (with_reducible refine r_vt ?_) | (with_reducible refine r_vf ?_) | refine r_bb ?_ | (with_reducible refine r_pkT ?_) | (with_reducible refine r_pkF ?_) | (with_reducible refine r_pkB ?_) | refine r_ex rfl ?_ | (refine r_ci64 (by omega) (by omega) ?_) | (refine r_ciu8 (by omega) (by omega) ?_) | (refine r_ciu32 (by omega) (by omega) ?_) | refine r_ci ?_ | (refine r_add1N (by omega) ?_) | (refine r_sub1N (by omega) (by omega) ?_) | (refine r_addN (by omega) ?_) | (refine r_add (by omega) (by omega) ?_) | (refine r_ixsN (by omega) ?_) | (refine r_iaaN (by omega) ?_) | (refine r_sub (by omega) (by omega) ?_) | (refine r_mul (by omega) (by omega) ?_) | (refine r_dr H ?_; clear H; intro _ S_ H; replace S := S.trans S_; clear S_) | refine r_ld 0 H rfl rfl ?_ | refine r_ld 1 H rfl rfl ?_ | refine r_ld 2 H rfl rfl ?_ | refine r_ld 3 H rfl rfl ?_ | refine r_ld 4 H rfl rfl ?_ | ((with_reducible refine r_vtD ?h ?_); (case h => omega)) | ((with_reducible refine r_vfD ?h ?_); (case h => omega)) | ((with_reducible refine r_vtE ?h ?_); (case h => omega)) | ((with_reducible refine r_vfE ?h ?_); (case h => omega)) | ((with_reducible refine r_vtN ?h ?_); (case h => omega)) | ((with_reducible refine r_vfN ?h ?_); (case h => omega)))
      refine r_ifD (fun h4 => ?_) fun h4 => ?_
      · have hjl : j < ts.length := by omega
        obtain ⟨u, hu⟩ : ∃ u, ts[j]? = some u := ⟨_, List.getElem?_eq_getElem hjl⟩
        refine r_ldT hT.up.up H hu (by omega) ?_
        refine r_new H fun bu w5 S5 H5 => ?_
        rw [hzT] at H5
        refine r_stA 0 H5 (vs := cellsT u) rfl (Nat.le_refl 5) rfl (cellsT_sg u) fun w6 S6 H6 => ?_
        replace H6 : Holds w6 (blk bu tT (cellsT u) :: blk bt tT (cellsT t) :: blk bx tW [iv 0, iv 0] :: L) := H6
        replace S := (S.trans S5).trans S6
        clear H H5 S5 S6
        have H := H6
        clear H6
        refine r_join1 (fun x w' => w6 = w' ∧ ∃ b : Bool, x = .bool b ∧ (b = false ↔ apartT u t)) ?_ ?_
        · rintro _ _ _ ⟨rfl, b, rfl, hap⟩
          refine r_vif (fun e => ?_) fun e => ?_
          · have := out i 8 w6 S H.drop.drop (.inr (.inr (.inl ⟨by omega, by omega, i, t, ht, g12, .inr ⟨okt, ⟨j, u, by omega, hu, fun ha => by rw [hap.2 ha] at e; cases e⟩, rfl⟩⟩)))
            exact this
          · repeat (first | refine r_nc ?_ | refine r_fo0 ?_ | refine r_fo ?_ | refine r_ke ?_ | refine r_lns ?_ | refine r_lnl ?_ | refine r_eql ?_ | refine r_neq ?_ | refine r_lss ?_ | refine r_leq ?_ | refine r_gtr ?_ | refine r_geq ?_ | refine r_seq0 ?_ | refine r_sne0 ?_ | refine r_seq ?_ | refine r_sne ?_ | (with_reducible refine r_notT ?_) | (with_reducible refine r_notF ?_) | refine r_not ?_ | (with_reducible refine r_bnST ?_) | (with_reducible refine r_bnSF ?_) | (with_reducible refine r_bnNT ?_) | (with_reducible refine r_bnNF ?_) | (with_reducible refine r_ex20 ?_) | (with_reducible refine r_ex21 ?_) | (with_reducible refine r_ex30 ?_) | (with_reducible refine r_ex31 ?_) | (with_reducible refine r_ex32 ?_) | (with_reducible refine r_vt ?_) | (with_reducible refine r_vf ?_) | refine r_bb ?_ | (with_reducible refine r_pkT ?_) | (with_reducible refine r_pkF ?_) | (with_reducible refine r_pkB ?_) | refine r_ex rfl ?_ | (refine r_ci64 (by omega) (by omega) ?_) | (refine r_ciu8 (by omega) (by omega) ?_) | (refine r_ciu32 (by omega) (by omega) ?_) | refine r_ci ?_ | (refine r_add1N (by omega) ?_) | (refine r_sub1N (by omega) (by omega) ?_) | (refine r_addN (by omega) ?_) | (refine r_add (by omega) (by omega) ?_) | (refine r_ixsN (by omega) ?_) | (refine r_iaaN (by omega) ?_) | (refine r_sub (by omega) (by omega) ?_) | (refine r_mul (by omega) (by omega) ?_) | (refine r_dr H ?_; clear H; intro _ S_ H; replace S := S.trans S_; clear S_) | refine r_ld 0 H rfl rfl ?_ | refine r_ld 1 H rfl rfl ?_ | refine r_ld 2 H rfl rfl ?_ | refine r_ld 3 H rfl rfl ?_ | refine r_ld 4 H rfl rfl ?_ | ((with_reducible refine r_vtD ?h ?_); (case h => omega)) | ((with_reducible refine r_vfD ?h ?_); (case h => omega)) | ((with_reducible refine r_vtE ?h ?_); (case h => omega)) | ((with_reducible refine r_vfE ?h ?_); (case h => omega)) | ((with_reducible refine r_vtN ?h ?_); (case h => omega)) | ((with_reducible refine r_vfN ?h ?_); (case h => omega)))
            refine ⟨⟨j + 1, by omega, rfl, fun q v hq hv => ?_, S, H.drop⟩, ?_⟩
            · rcases Nat.lt_or_ge q j with h5 | h5
              · exact g3 q v h5 hv
              · obtain rfl : q = j := by omega
                rw [hu] at hv
                obtain rfl := Option.some.inj hv
                exact hap.1 e
            · simp [nv, RowKit.intOf]
              omega
        · repeat (first | refine r_nc ?_ | refine r_fo0 ?_ | refine r_fo ?_ | refine r_ke ?_ | refine r_lns ?_ | refine r_lnl ?_ | refine r_eql ?_ | refine r_neq ?_ | refine r_lss ?_ | refine r_leq ?_ | refine r_gtr ?_ | refine r_geq ?_ | refine r_seq0 ?_ | refine r_sne0 ?_ | refine r_seq ?_ | refine r_sne ?_ | (with_reducible refine r_notT ?_) | (with_reducible refine r_notF ?_) | refine r_not ?_ | (with_reducible refine r_bnST ?_) | (with_reducible refine r_bnSF ?_) | (with_reducible refine r_bnNT ?_) | (with_reducible refine r_bnNF ?_) | (with_reducible refine r_ex20 ?_) | (with_reducible refine r_ex21 ?_) | (with_reducible refine r_ex30 ?_) | (with_reducible refine r_ex31 ?_) | (with_reducible refine r_ex32 ?_) | (with_reducible refine r_vt ?_) | (with_reducible refine r_vf ?_) | refine r_bb ?_ | (with_reducible refine r_pkT ?_) | (with_reducible refine r_pkF ?_) | (with_reducible refine r_pkB ?_) | refine r_ex rfl ?_ | (refine r_ci64 (by omega) (by omega) ?_) | (refine r_ciu8 (by omega) (by omega) ?_) | (refine r_ciu32 (by omega) (by omega) ?_) | refine r_ci ?_ | (refine r_add1N (by omega) ?_) | (refine r_sub1N (by omega) (by omega) ?_) | (refine r_addN (by omega) ?_) | (refine r_add (by omega) (by omega) ?_) | (refine r_ixsN (by omega) ?_) | (refine r_iaaN (by omega) ?_) | (refine r_sub (by omega) (by omega) ?_) | (refine r_mul (by omega) (by omega) ?_) | (refine r_dr H ?_; clear H; intro _ S_ H; replace S := S.trans S_; clear S_) | refine r_ld 0 H rfl rfl ?_ | refine r_ld 1 H rfl rfl ?_ | refine r_ld 2 H rfl rfl ?_ | refine r_ld 3 H rfl rfl ?_ | refine r_ld 4 H rfl rfl ?_ | ((with_reducible refine r_vtD ?h ?_); (case h => omega)) | ((with_reducible refine r_vfD ?h ?_); (case h => omega)) | ((with_reducible refine r_vtE ?h ?_); (case h => omega)) | ((with_reducible refine r_vfE ?h ?_); (case h => omega)) | ((with_reducible refine r_vtN ?h ?_); (case h => omega)) | ((with_reducible refine r_vfN ?h ?_); (case h => omega)))
          refine r_ifD (fun h5 => r_ke ⟨rfl, true, rfl, ⟨fun e => (by cases e), fun ha => absurd h5 ha.1⟩⟩) fun h5 => ?_
          repeat (first | refine r_nc ?_ | refine r_fo0 ?_ | refine r_fo ?_ | refine r_ke ?_ | refine r_lns ?_ | refine r_lnl ?_ | refine r_eql ?_ | refine r_neq ?_ | refine r_lss ?_ | refine r_leq ?_ | refine r_gtr ?_ | refine r_geq ?_ | refine r_seq0 ?_ | refine r_sne0 ?_ | refine r_seq ?_ | refine r_sne ?_ | (with_reducible refine r_notT ?_) | (with_reducible refine r_notF ?_) | refine r_not ?_ | (with_reducible refine r_bnST ?_) | (with_reducible refine r_bnSF ?_) | (with_reducible refine r_bnNT ?_) | (with_reducible refine r_bnNF ?_) | (with_reducible refine r_ex20 ?_) | (with_reducible refine r_ex21 ?_) | (with_reducible refine r_ex30 ?_) | (with_reducible refine r_ex31 ?_) | (with_reducible refine r_ex32 ?_) | (with_reducible refine r_vt ?_) | (with_reducible refine r_vf ?_) | refine r_bb ?_ | (with_reducible refine r_pkT ?_) | (with_reducible refine r_pkF ?_) | (with_reducible refine r_pkB ?_) | refine r_ex rfl ?_ | (refine r_ci64 (by omega) (by omega) ?_) | (refine r_ciu8 (by omega) (by omega) ?_) | (refine r_ciu32 (by omega) (by omega) ?_) | refine r_ci ?_ | (refine r_add1N (by omega) ?_) | (refine r_sub1N (by omega) (by omega) ?_) | (refine r_addN (by omega) ?_) | (refine r_add (by omega) (by omega) ?_) | (refine r_ixsN (by omega) ?_) | (refine r_iaaN (by omega) ?_) | (refine r_sub (by omega) (by omega) ?_) | (refine r_mul (by omega) (by omega) ?_) | (refine r_dr H ?_; clear H; intro _ S_ H; replace S := S.trans S_; clear S_) | refine r_ld 0 H rfl rfl ?_ | refine r_ld 1 H rfl rfl ?_ | refine r_ld 2 H rfl rfl ?_ | refine r_ld 3 H rfl rfl ?_ | refine r_ld 4 H rfl rfl ?_ | ((with_reducible refine r_vtD ?h ?_); (case h => omega)) | ((with_reducible refine r_vfD ?h ?_); (case h => omega)) | ((with_reducible refine r_vtE ?h ?_); (case h => omega)) | ((with_reducible refine r_vfE ?h ?_); (case h => omega)) | ((with_reducible refine r_vtN ?h ?_); (case h => omega)) | ((with_reducible refine r_vfN ?h ?_); (case h => omega)))
          exact ⟨rfl, _, rfl, ⟨fun e => ⟨h5, of_decide_eq_false e⟩, fun ha => decide_eq_false ha.2⟩⟩
      · obtain rfl : j = i := by omega
        repeat (first | refine r_nc ?_ | refine r_fo0 ?_ | refine r_fo ?_ | refine r_ke ?_ | refine r_lns ?_ | refine r_lnl ?_ | refine r_eql ?_ | refine r_neq ?_ | refine r_lss ?_ | refine r_leq ?_ | refine r_gtr ?_ | refine r_geq ?_ | refine r_seq0 ?_ | refine r_sne0 ?_ | refine r_seq ?_ | refine r_sne ?_ | (with_reducible refine r_notT ?_) | (with_reducible refine r_notF ?_) | refine r_not ?_ | (with_reducible refine r_bnST ?_) | (with_reducible refine r_bnSF ?_) | (with_reducible refine r_bnNT ?_) | (with_reducible refine r_bnNF ?_) | (with_reducible refine r_ex20 ?_) | (with_reducible refine r_ex21 ?_) | (with_reducible refine r_ex30 ?_) | (with_reducible refine r_ex31 ?_) | (with_reducible refine r_ex32 ?_) | (with_reducible refine r_vt ?_) | (with_reducible refine r_vf ?_) | refine r_bb ?_ | (with_reducible refine r_pkT ?_) | (with_reducible refine r_pkF ?_) | (with_reducible refine r_pkB ?_) | refine r_ex rfl ?_ | (refine r_ci64 (by omega) (by omega) ?_) | (refine r_ciu8 (by omega) (by omega) ?_) | (refine r_ciu32 (by omega) (by omega) ?_) | refine r_ci ?_ | (refine r_add1N (by omega) ?_) | (refine r_sub1N (by omega) (by omega) ?_) | (refine r_addN (by omega) ?_) | (refine r_add (by omega) (by omega) ?_) | (refine r_ixsN (by omega) ?_) | (refine r_iaaN (by omega) ?_) | (refine r_sub (by omega) (by omega) ?_) | (refine r_mul (by omega) (by omega) ?_) | (refine r_dr H ?_; clear H; intro _ S_ H; replace S := S.trans S_; clear S_) | refine r_ld 0 H rfl rfl ?_ | refine r_ld 1 H rfl rfl ?_ | refine r_ld 2 H rfl rfl ?_ | refine r_ld 3 H rfl rfl ?_ | refine r_ld 4 H rfl rfl ?_ | ((with_reducible refine r_vtD ?h ?_); (case h => omega)) | ((with_reducible refine r_vfD ?h ?_); (case h => omega)) | ((with_reducible refine r_vtE ?h ?_); (case h => omega)) | ((with_reducible refine r_vfE ?h ?_); (case h => omega)) | ((with_reducible refine r_vtN ?h ?_); (case h => omega)) | ((with_reducible refine r_vfN ?h ?_); (case h => omega)))
        refine ⟨⟨j + 1, by omega, rfl, ⟨fun q v hq hv => ?_, fun q v p u hq hv hu hp => ?_⟩, S, H.drop⟩, ?_⟩
        · rcases Nat.lt_or_ge q j with h5 | h5
          · exact g12.1 q v h5 hv
          · obtain rfl : q = j := by omega
            rw [ht] at hv
            obtain rfl := Option.some.inj hv
            exact okt
        · rcases Nat.lt_or_ge q j with h5 | h5
          · exact g12.2 q v p u h5 hv hu hp
          · obtain rfl : q = j := by omega
            rw [ht] at hv
            obtain rfl := Option.some.inj hv
            exact g3 p u hp hu
        · simp [nv, RowKit.intOf]
          omega
  · obtain rfl : i = ts.length := by omega
    refine out (-1) 0 _ S H (.inr (.inr (.inr ⟨⟨fun q t hq => g12.1 q t (List.getElem?_eq_some_iff.1 hq).1 hq, fun q t j u hq hu hj => g12.2 q t j u (List.getElem?_eq_some_iff.1 hq).1 hq hu hj, by omega, by omega⟩, rfl⟩)))
structure Cn where
  un : Int
  wi : Int
  bu : Int
  sp : Int
  jo : Int
  ch : Int
def cellsC (a : Option Addr) (l c : Nat) (n : Cn) : List Value := [.slice a l c, iv n.un, iv n.wi, iv n.bu, iv n.sp, iv n.jo, iv n.ch]
def okC (n : Cn) : Prop := 24 ≤ n.un ∧ n.un ≤ 100000 ∧ 64 ≤ n.wi ∧ n.wi ≤ 1048576 ∧ 1 ≤ n.bu ∧ n.bu ≤ 1099511627776 ∧ 1 ≤ n.sp ∧ n.sp ≤ 1048576 ∧ 1 ≤ n.jo ∧ n.jo ≤ 64 ∧ 1 ≤ n.ch ∧ n.ch ≤ 4096
/-- Which error a configuration has. -/
def ChkC (ts : List Tn) (n : Cn) (e : Int) : Prop := (Chk ts e ∧ e ≠ 0) ∨ (Chk ts 0 ∧ ¬ okC n ∧ e = 1) ∨ (Chk ts 0 ∧ okC n ∧ e = 0)
theorem ChkC_one {ts : List Tn} {n : Cn} {e e' : Int} (h : ChkC ts n e) (h' : ChkC ts n e') : e = e' := by
  rcases h with ⟨a1, a2⟩ | ⟨a1, a2, a3⟩ | ⟨a1, a2, a3⟩ <;> rcases h' with ⟨b1, b2⟩ | ⟨b1, b2, b3⟩ | ⟨b1, b2, b3⟩
  · exact Chk_one a1 b1
  · exact (a2 (Chk_one a1 b1)).elim
  · exact (a2 (Chk_one a1 b1)).elim
  · exact (b2 (Chk_one b1 a1)).elim
  · omega
  · exact (a2 b2).elim
  · exact (b2 (Chk_one b1 a1)).elim
  · exact (b2 a2).elim
  · omega
theorem ChkC_zero {ts : List Tn} {n : Cn} (h : ChkC ts n 0) : goodTs ts ∧ okC n := by
  rcases h with ⟨a1, a2⟩ | ⟨a1, a2, a3⟩ | ⟨a1, a2, a3⟩
  · exact absurd rfl a2
  · cases a3
  · rcases a1 with ⟨_, b2⟩ | ⟨_, b2⟩ | ⟨_, _, i, t, _, _, b4⟩ | ⟨g, _⟩
    · cases b2
    · cases b2
    · rcases b4 with ⟨_, b4⟩ | ⟨_, _, b4⟩ <;> cases b4
    · exact ⟨g, a2⟩
theorem Config_spec {a : Option Addr} {ts : List Tn} {c : Nat} {n : Cn} (H : Holds w L) (hT : TsIn L a ts) (hs : ∀ t ∈ ts, szT t) (hc : ts.length ≤ c)
    (post : ∀ e w', Same w w' → Holds w' L → ChkC ts n e → K (iv e) w') :
    Cl Tryz.prog F.balerref32_Config #[.agg (cellsC a ts.length c n).toArray] w K := by
  refine Tie.balerref32_Config ?_
  unfold Vcf.balerref32_Config
  have hz : (zeroP Tryz.prog tW).cells.toList = [iv 0, iv 0] := by kernel_rfl
  refine r_new H fun bc w1 S1 H1 => ?_
  replace H1 : Holds w1 (blk bc tC (cellsC a ts.length c n) :: L) := H1
  refine r_fo0 ?_
  refine r_ld 0 H1 rfl rfl ?_
  refine Check_spec H1 hT.up hs hc fun at_ e w2 S2 H2 hg => ?_
  refine r_new H2 fun bw w3 S3 H3 => ?_
  rw [hz] at H3
  refine r_stA 0 H3 (vs := [iv at_, iv e]) rfl (Nat.le_refl 2) rfl rfl fun w4 S4 H4 => ?_
  replace H4 : Holds w4 (blk bw tW [iv at_, iv e] :: blk bc tC (cellsC a ts.length c n) :: L) := H4
  have S := ((S1.trans S2).trans S3).trans S4
  clear H H1 H2 H3 S1 S2 S3 S4
  have H := H4
  clear H4
  repeat (first | refine r_nc ?_ | refine r_fo0 ?_ | refine r_fo ?_ | refine r_ke ?_ | refine r_lns ?_ | refine r_lnl ?_ | refine r_eql ?_ | refine r_neq ?_ | refine r_lss ?_ | refine r_leq ?_ | refine r_gtr ?_ | refine r_geq ?_ | refine r_seq0 ?_ | refine r_sne0 ?_ | refine r_seq ?_ | refine r_sne ?_ | (with_reducible refine r_notT ?_) | (with_reducible refine r_notF ?_) | refine r_not ?_ | (with_reducible refine r_bnST ?_) | (with_reducible refine r_bnSF ?_) | (with_reducible refine r_bnNT ?_) | (with_reducible refine r_bnNF ?_) | (with_reducible refine r_ex20 ?_) | (with_reducible refine r_ex21 ?_) | (with_reducible refine r_ex30 ?_) | (with_reducible refine r_ex31 ?_) | (with_reducible refine r_ex32 ?_) | (with_reducible refine r_vt ?_) | (with_reducible refine r_vf ?_) | refine r_bb ?_ | (with_reducible refine r_pkT ?_) | (with_reducible refine r_pkF ?_) | (with_reducible refine r_pkB ?_) | refine r_ex rfl ?_ | (refine r_ci64 (by omega) (by omega) ?_) | (refine r_ciu8 (by omega) (by omega) ?_) | (refine r_ciu32 (by omega) (by omega) ?_) | refine r_ci ?_ | (refine r_add1N (by omega) ?_) | (refine r_sub1N (by omega) (by omega) ?_) | (refine r_addN (by omega) ?_) | (refine r_add (by omega) (by omega) ?_) | (refine r_ixsN (by omega) ?_) | (refine r_iaaN (by omega) ?_) | (refine r_sub (by omega) (by omega) ?_) | (refine r_mul (by omega) (by omega) ?_) | (refine r_dr H ?_; clear H; intro _ S_ H; replace S := S.trans S_; clear S_) | refine r_ld 0 H rfl rfl ?_ | refine r_ld 1 H rfl rfl ?_ | refine r_ld 2 H rfl rfl ?_ | refine r_ld 3 H rfl rfl ?_ | refine r_ld 4 H rfl rfl ?_ | ((with_reducible refine r_vtD ?h ?_); (case h => omega)) | ((with_reducible refine r_vfD ?h ?_); (case h => omega)) | ((with_reducible refine r_vtE ?h ?_); (case h => omega)) | ((with_reducible refine r_vfE ?h ?_); (case h => omega)) | ((with_reducible refine r_vtN ?h ?_); (case h => omega)) | ((with_reducible refine r_vfN ?h ?_); (case h => omega)))
  refine r_ifN (fun h => ?_) fun h => ?_
  · repeat (first | refine r_nc ?_ | refine r_fo0 ?_ | refine r_fo ?_ | refine r_ke ?_ | refine r_lns ?_ | refine r_lnl ?_ | refine r_eql ?_ | refine r_neq ?_ | refine r_lss ?_ | refine r_leq ?_ | refine r_gtr ?_ | refine r_geq ?_ | refine r_seq0 ?_ | refine r_sne0 ?_ | refine r_seq ?_ | refine r_sne ?_ | (with_reducible refine r_notT ?_) | (with_reducible refine r_notF ?_) | refine r_not ?_ | (with_reducible refine r_bnST ?_) | (with_reducible refine r_bnSF ?_) | (with_reducible refine r_bnNT ?_) | (with_reducible refine r_bnNF ?_) | (with_reducible refine r_ex20 ?_) | (with_reducible refine r_ex21 ?_) | (with_reducible refine r_ex30 ?_) | (with_reducible refine r_ex31 ?_) | (with_reducible refine r_ex32 ?_) | (with_reducible refine r_vt ?_) | (with_reducible refine r_vf ?_) | refine r_bb ?_ | (with_reducible refine r_pkT ?_) | (with_reducible refine r_pkF ?_) | (with_reducible refine r_pkB ?_) | refine r_ex rfl ?_ | (refine r_ci64 (by omega) (by omega) ?_) | (refine r_ciu8 (by omega) (by omega) ?_) | (refine r_ciu32 (by omega) (by omega) ?_) | refine r_ci ?_ | (refine r_add1N (by omega) ?_) | (refine r_sub1N (by omega) (by omega) ?_) | (refine r_addN (by omega) ?_) | (refine r_add (by omega) (by omega) ?_) | (refine r_ixsN (by omega) ?_) | (refine r_iaaN (by omega) ?_) | (refine r_sub (by omega) (by omega) ?_) | (refine r_mul (by omega) (by omega) ?_) | (refine r_dr H ?_; clear H; intro _ S_ H; replace S := S.trans S_; clear S_) | refine r_ld 0 H rfl rfl ?_ | refine r_ld 1 H rfl rfl ?_ | refine r_ld 2 H rfl rfl ?_ | refine r_ld 3 H rfl rfl ?_ | refine r_ld 4 H rfl rfl ?_ | ((with_reducible refine r_vtD ?h ?_); (case h => omega)) | ((with_reducible refine r_vfD ?h ?_); (case h => omega)) | ((with_reducible refine r_vtE ?h ?_); (case h => omega)) | ((with_reducible refine r_vfE ?h ?_); (case h => omega)) | ((with_reducible refine r_vtN ?h ?_); (case h => omega)) | ((with_reducible refine r_vfN ?h ?_); (case h => omega)))
    exact post e _ S H.drop.drop (.inl ⟨hg, h⟩)
  have hg0 : Chk ts 0 := by rw [← h]; exact hg
  have no : ¬ okC n → K (iv 1) w4 := fun hno => post 1 w4 S H.drop.drop (.inr (.inl ⟨hg0, hno, rfl⟩))
  unfold okC at no
  have ld1 : ∀ (i : Nat) (v : Value) (X : Value → Prop), (cellsC a ts.length c n)[i]? = some v → X v → Fo i (.pointer (some ⟨bc, 0, none⟩)) fun y => Ld y w4 X := by
    intro i v X hv hx
    refine r_fo0 ?_
    exact r_ld 1 H rfl hv hx
  refine ld1 1 _ _ rfl ?_
  refine r_lss ?_
  refine r_ifD (fun _ => no (by omega)) fun a1 => ?_
  refine ld1 1 _ _ rfl ?_
  refine r_gtr ?_
  refine r_ifD (fun _ => no (by omega)) fun a2 => ?_
  refine ld1 2 _ _ rfl ?_
  refine r_lss ?_
  refine r_ifD (fun _ => no (by omega)) fun a3 => ?_
  refine ld1 2 _ _ rfl ?_
  refine r_gtr ?_
  refine r_ifD (fun _ => no (by omega)) fun a4 => ?_
  refine ld1 3 _ _ rfl ?_
  refine most_spec ?_
  refine r_not ?_
  refine r_vif (fun a5 => no fun o => absurd a5 (by simp [o.2.2.2.2.1, o.2.2.2.2.2.1])) fun a5 => ?_
  have a5' : 1 ≤ n.bu ∧ n.bu ≤ 1099511627776 := by simpa using a5
  refine ld1 4 _ _ rfl ?_
  refine r_lss ?_
  refine r_ifD (fun _ => no (by omega)) fun a6 => ?_
  refine ld1 4 _ _ rfl ?_
  refine r_gtr ?_
  refine r_ifD (fun _ => no (by omega)) fun a7 => ?_
  refine ld1 5 _ _ rfl ?_
  refine r_lss ?_
  refine r_ifD (fun _ => no (by omega)) fun a8 => ?_
  refine ld1 5 _ _ rfl ?_
  refine r_gtr ?_
  refine r_ifD (fun _ => no (by omega)) fun a9 => ?_
  refine ld1 6 _ _ rfl ?_
  refine r_lss ?_
  refine r_ifD (fun _ => no (by omega)) fun a10 => ?_
  refine ld1 6 _ _ rfl ?_
  refine r_gtr ?_
  refine r_ifD (fun _ => no (by omega)) fun a11 => ?_
  exact post 0 _ S H.drop.drop (.inr (.inr ⟨hg0, by unfold okC; omega, rfl⟩))
end J32
end Go.Proofs.YtkjelcjffbcenaaGreatDoor
