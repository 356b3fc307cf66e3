/- Chapters 35, 36: requests, and a connection at which nobody is logged in, by the program. -/
import Derived.Test.YtbhbdleffackaaaGreatDoorFr
import Derived.Test.YtbhbdleffackaaaGreatDoorS4r
set_option linter.unusedVariables false
set_option linter.unusedSimpArgs false
namespace Go.Proofs.YtbhbdleffackaaaGreatDoor
open Go Go.Vc
attribute [local irreducible] Go.Vc.Nc Go.Vc.Ld Go.Vc.LdA Go.Vc.St Go.Vc.StA Go.Vc.Fo Go.Vc.Iaa Go.Vc.Ias Go.Vc.Ixs Go.Vc.Ixa Go.Vc.Fd Go.Vc.FdA Go.Vc.Bp Go.Vc.Bb Go.Vc.Bn Go.Vc.Up Go.Vc.Ci Go.Vc.Lns Go.Vc.Lnl Go.Vc.Ex Go.Vc.Sst Go.Vc.Ssl Go.Vc.New Go.Vc.Vif Go.Vc.VJoin Go.Vc.VLoop Go.Vc.KE Go.Vc.Dr Go.Vc.Rk Go.Vc.Cl Go.Vc.Cx Go.Vc.Inv Go.Vc.Be Go.Vc.Cv Go.Vc.Cw Go.Vc.Mf Go.Vc.Sl Go.Vc.Lk Go.Vc.Bd Go.Vc.Bs Go.Vc.Ms Go.Vc.Mm Go.Vc.Mu Go.Vc.Me Go.Vc.Es Go.Vc.Rg Go.Vc.Nx Go.Vc.Ta Go.Vc.Ap Go.Vc.Usd Go.Vc.Ust Go.Vc.Cp Go.Vc.Ln Go.Vc.Bc Go.Vc.Bmin Go.Vc.Bmax Go.Vc.Bdel Go.Vc.Bclr Go.Vc.Pk
namespace F33
open Go.M31 J30 J31 J32
variable {w : World} {L : List HProp} {K : Value → World → Prop}
abbrev tRq : Nat := 222
abbrev tAc : Nat := 122
theorem rq_zero : (zeroP Tryz.prog tRq).cells.toList = [iv 0, iv 0, S_ [], S_ [], iv 0, iv 0, iv 0] := by kernel_rfl
def zAct : List Value := [iv 0, iv 0, iv 0, iv 0, iv 0, iv 0, S_ [], iv 0]
theorem ac_zero : (zeroP Tryz.prog tAc).cells.toList = zAct := by kernel_rfl
theorem q_eqs {t u : List UInt8} {K : Value → Prop} (h : K (.bool (decide (t = u)))) : Bp .eql (S_ t) (S_ u) K := by
  refine r_seq ?_
  have e : decide ((⟨t.toArray⟩ : ByteArray) = ⟨u.toArray⟩) = decide (t = u) := by
    rw [Bool.eq_iff_iff, decide_eq_true_iff, decide_eq_true_iff]
    constructor
    · intro h
      have := congrArg (fun b : ByteArray => b.data.toList) h
      simpa using this
    · rintro rfl; rfl
  rw [e]
  exact h
theorem kind_spec {s : List UInt8} (H : Holds w L) (k : ∀ (a b : Int) w', Same w w' → Holds w' L → K (.tuple #[iv a, iv b]) w') : Cl Tryz.prog F.proto_kind #[S_ s] w K := by
  refine Tie.proto_kind ?_
  unfold Vcf.proto_kind
  refine q_eqs (r_ifD (fun h => k 2 0 w (.refl _) H) fun h => ?_)
  refine q_eqs (r_ifD (fun h => k 3 0 w (.refl _) H) fun h => ?_)
  refine r_join1 (fun v w' => w = w' ∧ ∃ c : Bool, v = .bool c ∧ (c = true → s.length = 2 ∧ 49 ≤ (s.getD 1 0).toNat)) ?_ ?_
  rotate_left
  · refine q_len (r_eql (r_ifE (fun h2 => ?_) fun h2 => r_ke ⟨rfl, false, rfl, fun e => by cases e⟩))
    refine q_ix (m := 0) (by omega) (r_eql (r_ifE (fun h3 => ?_) fun h3 => r_ke ⟨rfl, false, rfl, fun e => by cases e⟩))
    refine q_ix (m := 1) (by omega) (r_geq (r_ifD (fun h4 => ?_) fun h4 => r_ke ⟨rfl, false, rfl, fun e => by cases e⟩))
    exact q_ix (m := 1) (by omega) (r_leq (r_ke ⟨rfl, _, rfl, fun _ => ⟨by omega, by omega⟩⟩))
  rintro _ _ _ ⟨rfl, c, rfl, hc⟩
  refine r_vif (fun h2 => ?_) fun h2 => k 0 0 w (.refl _) H
  obtain ⟨h3, h4⟩ := hc h2
  have hb := (s.getD 1 0).toNat_lt
  refine r_dr H fun w1 S1 H1 => ?_
  refine q_ix (m := 1) (by omega) ?_
  refine r_bpK (.int .u8 (((s.getD 1 0).toNat - 48 : Nat) : Int)) ?_ ?_
  · simp only [bp, if_true]
    congr 2
    show (((s.getD 1 0).toNat : Int) - 48) % 256 = _
    omega
  · exact r_ci64 (by omega) (by omega) (k 1 _ w1 S1 H1)
/-- A frame that logs in, by its token. -/
def logs (f : Fr) : Prop := f.ty = 1 ∧ f.jb = 0 ∧ word f.da
theorem whole_spec {f : Fr} (H : Holds w L) (h1 : f.jb ≤ 4294967295) (h2 : f.da.length ≤ 65536) (k : ∀ w', Same w w' → Holds w' L → K (.bool true) w') : Cl Tryz.prog F.proto_whole #[.agg (cellsF f).toArray] w K := by
  refine Tie.proto_whole ?_
  unfold Vcf.proto_whole
  refine r_new H fun b w1 S1 H1 => ?_
  replace H1 : Holds w1 (blk b tFr (cellsF f) :: L) := H1
  refine r_fo0 (r_ld 0 H1 rfl rfl (r_geq (r_vtD (by omega) ?_)))
  refine r_fo0 (r_ld 0 H1 rfl rfl (r_leq (r_vtD (by omega) ?_)))
  refine r_fo0 (r_ld 0 H1 rfl rfl (q_len (r_leq ?_)))
  rw [decide_eq_true (by omega)]
  exact k _ S1 H1.drop
theorem Read_spec {z : Bool} {f : Fr} (H : Holds w L) (hT : J33.TabZ z L) (hA : J33.Asc z f.da) (h1 : f.jb ≤ 4294967295) (h2 : f.da.length ≤ 65536)
    (k1 : logs f → ∀ w', Same w w' → Holds w' L → K (.tuple #[.agg #[nv 1, nv f.jb, S_ f.da, S_ [], iv 0, iv 0, iv 0], iv 0]) w')
    (k2 : ¬ logs f → ∀ (a b c d e g h : Value) (r : Int) w', [a, b, c, d, e, g, h].all sg = true → (r ≠ 0 ∨ ∃ t : Nat, a = nv t ∧ t ≠ 1) → Same w w' → Holds w' L → K (.tuple #[.agg #[a, b, c, d, e, g, h], iv r]) w') :
    Cl Tryz.prog F.proto_Read #[.agg (cellsF f).toArray] w K := by
  refine Tie.proto_Read ?_
  unfold Vcf.proto_Read
  refine r_new H fun fb w1 S1 H1 => ?_
  replace H1 : Holds w1 (blk fb tFr (cellsF f) :: L) := H1
  refine r_new H1 fun ob w2 S2 H2 => ?_
  rw [rq_zero] at H2
  refine r_fo0 (r_ld 1 H2 rfl rfl (r_fo0 (r_ld 1 H2 rfl rfl ?_)))
  refine r_bd (v := .agg #[nv f.ty, nv f.jb, S_ [], S_ [], iv 0, iv 0, iv 0]) (by kernel_rfl) ?_
  refine r_new H2 fun rb w3 S3 H3 => ?_
  rw [rq_zero] at H3
  refine r_stA 0 H3 (vs := [nv f.ty, nv f.jb, S_ [], S_ [], iv 0, iv 0, iv 0]) rfl (Nat.le_refl 7) rfl rfl fun w4 S4 H4 => ?_
  replace H4 : Holds w4 (blk rb tRq [nv f.ty, nv f.jb, S_ [], S_ [], iv 0, iv 0, iv 0] :: blk ob tRq [iv 0, iv 0, S_ [], S_ [], iv 0, iv 0, iv 0] :: blk fb tFr (cellsF f) :: L) := H4
  refine r_ldA 2 H4 (cellsF f) rfl rfl rfl ?_
  refine whole_spec H4 h1 h2 fun w5 S5 H5 => ?_
  have S := S1.trans (S2.trans (S3.trans (S4.trans S5)))
  clear S1 S2 S3 S4 S5 H H1 H2 H3 H4
  refine r_join1 (fun v w' => ∃ (z : Bool) (c d e g h : Value), v = .bool z ∧ [c, d, e, g, h].all sg = true ∧ (f.ty = 1 → (z = true ↔ logs f) ∧ c = S_ f.da ∧ d = S_ [] ∧ e = iv 0 ∧ g = iv 0 ∧ h = iv 0) ∧ Same w w' ∧
      Holds w' (blk rb tRq [nv f.ty, nv f.jb, c, d, e, g, h] :: blk ob tRq [iv 0, iv 0, S_ [], S_ [], iv 0, iv 0, iv 0] :: blk fb tFr (cellsF f) :: L)) ?_ ?_
  rotate_left
  · refine r_fo0 (r_ld 2 H5 rfl rfl ?_)
    refine r_eql (r_ifE (fun g1 => ?_) fun g1 => ?_)
    · have t1 : f.ty = 1 := by omega
      refine r_fo0 (r_ld 2 H5 rfl rfl (r_fo0 (r_st 0 H5 rfl (by simp) rfl fun w6 S6 H6 => ?_)))
      replace H6 : Holds w6 (blk rb tRq [nv f.ty, nv f.jb, S_ f.da, S_ [], iv 0, iv 0, iv 0] :: blk ob tRq [iv 0, iv 0, S_ [], S_ [], iv 0, iv 0, iv 0] :: blk fb tFr (cellsF f) :: L) := H6
      refine r_vt (r_fo0 (r_ld 2 H6 rfl rfl (r_eql (r_ifE (fun g2 => ?_) fun g2 => ?_))))
      · refine r_fo0 (r_ld 2 H6 rfl rfl ?_)
        refine J33.IsZ_spec H6 hT.up.up.up (by rw [dl]; exact hA) (by rw [sz]; omega) fun z w7 S7 H7 hz => ?_
        rw [dl] at hz
        exact r_ke ⟨z, _, _, _, _, _, rfl, rfl, fun _ => ⟨hz.trans ⟨fun q => ⟨t1, by omega, q⟩, fun q => q.2.2⟩, rfl, rfl, rfl, rfl, rfl⟩, S.trans (S6.trans S7), H7⟩
      · exact r_ke ⟨false, _, _, _, _, _, rfl, rfl, fun _ => ⟨⟨fun q => (by cases q), fun q => absurd q.2.1 (by omega)⟩, rfl, rfl, rfl, rfl, rfl⟩, S.trans S6, H6⟩
    have t1 : f.ty ≠ 1 := by omega
    refine r_eql (r_ifE (fun g2 => ?_) fun g2 => ?_)
    · refine r_fo0 (r_ld 2 H5 rfl rfl ?_)
      refine kind_spec H5 fun x y w6 S6 H6 => ?_
      refine r_ex20 (r_ex21 (r_fo0 (r_st 0 H6 rfl (by simp) rfl fun w7 S7 H7 => ?_)))
      refine r_fo0 (r_st 0 H7 rfl (by simp) rfl fun w8 S8 H8 => ?_)
      replace H8 : Holds w8 (blk rb tRq [nv f.ty, nv f.jb, S_ [], S_ [], iv x, iv y, iv 0] :: blk ob tRq [iv 0, iv 0, S_ [], S_ [], iv 0, iv 0, iv 0] :: blk fb tFr (cellsF f) :: L) := H8
      exact r_vt (r_neq (r_ke ⟨_, _, _, _, _, _, rfl, rfl, fun q => absurd q t1, S.trans (S6.trans (S7.trans S8)), H8⟩))
    refine r_eql (r_ifE (fun g3 => ?_) fun g3 => ?_)
    · refine r_fo0 (r_ld 2 H5 rfl rfl (r_fo0 (r_st 0 H5 rfl (by simp) rfl fun w6 S6 H6 => ?_)))
      replace H6 : Holds w6 (blk rb tRq [nv f.ty, nv f.jb, S_ [], S_ f.da, iv 0, iv 0, iv 0] :: blk ob tRq [iv 0, iv 0, S_ [], S_ [], iv 0, iv 0, iv 0] :: blk fb tFr (cellsF f) :: L) := H6
      exact r_ke ⟨true, _, _, _, _, _, rfl, rfl, fun q => absurd q t1, S.trans S6, H6⟩
    refine r_join1 (fun v w' => w5 = w' ∧ ∃ z : Bool, v = .bool z) ?_ ?_
    rotate_left
    · exact r_eql (r_ifE (fun _ => r_ke ⟨rfl, _, rfl⟩) fun _ => r_eql (r_ke ⟨rfl, _, rfl⟩))
    rintro _ _ _ ⟨rfl, z, rfl⟩
    refine r_vif (fun _ => ?_) fun _ => ?_
    · exact r_vt (r_fo0 (r_ld 2 H5 rfl rfl (r_seq0 (r_ke ⟨_, _, _, _, _, _, rfl, rfl, fun q => absurd q t1, S, H5⟩))))
    refine r_eql (r_ifE (fun g4 => ?_) fun g4 => ?_)
    · refine r_fo0 (r_ld 2 H5 rfl rfl ?_)
      refine r_cl (K := fun v w' => w5 = w' ∧ ∃ x y : Int, v = .tuple #[iv x, iv y]) (Number_spec (fun _ => ⟨rfl, _, _, rfl⟩) fun _ => ⟨rfl, _, _, rfl⟩) ?_
      rintro _ _ ⟨rfl, x, y, rfl⟩
      refine r_ex20 (r_ex21 (r_fo0 (r_st 0 H5 rfl (by simp) rfl fun w7 S7 H7 => ?_)))
      replace H7 : Holds w7 (blk rb tRq [nv f.ty, nv f.jb, S_ [], S_ [], iv 0, iv 0, iv x] :: blk ob tRq [iv 0, iv 0, S_ [], S_ [], iv 0, iv 0, iv 0] :: blk fb tFr (cellsF f) :: L) := H7
      exact r_vt (r_eql (r_ke ⟨_, _, _, _, _, _, rfl, rfl, fun q => absurd q t1, S.trans S7, H7⟩))
    refine r_eql (r_ifE (fun g5 => ?_) fun g5 => r_ke ⟨false, _, _, _, _, _, rfl, rfl, fun q => absurd q t1, S, H5⟩)
    refine r_vt (r_fo0 (r_ld 2 H5 rfl rfl (r_eql (r_ifE (fun g6 => ?_) fun g6 => r_ke ⟨false, _, _, _, _, _, rfl, rfl, fun q => absurd q t1, S, H5⟩))))
    exact r_fo0 (r_ld 2 H5 rfl rfl (r_seq0 (r_ke ⟨_, _, _, _, _, _, rfl, rfl, fun q => absurd q t1, S, H5⟩)))
  clear H5 S
  rintro _ _ w6 ⟨z, c, d, e, g, h, rfl, hsg, hz, S, H6⟩
  refine r_not (r_vif (fun q => ?_) fun q => ?_)
  · have q' : z = false := by simpa using q
    refine r_bd (v := .agg #[iv 0, iv 0, S_ [], S_ [], iv 0, iv 0, iv 0]) (by kernel_rfl) ?_
    refine r_stA 1 H6 (vs := [iv 0, iv 0, S_ [], S_ [], iv 0, iv 0, iv 0]) rfl (Nat.le_refl 7) rfl rfl fun w7 S7 H7 => ?_
    refine r_ldA 1 H7 [iv 0, iv 0, S_ [], S_ [], iv 0, iv 0, iv 0] rfl rfl rfl ?_
    refine k2 (fun hl => ?_) _ _ _ _ _ _ _ 35 w7 rfl (.inl (by decide)) (S.trans S7) H7.drop.drop.drop
    have := (hz hl.1).1.2 hl
    rw [q'] at this
    cases this
  · have q' : z = true := by simpa using q
    refine r_ldA 0 H6 [nv f.ty, nv f.jb, c, d, e, g, h] rfl rfl rfl ?_
    refine r_stA 1 H6 (vs := [nv f.ty, nv f.jb, c, d, e, g, h]) rfl (Nat.le_refl 7) rfl hsg fun w7 S7 H7 => ?_
    refine r_ldA 1 H7 [nv f.ty, nv f.jb, c, d, e, g, h] rfl rfl rfl ?_
    by_cases t1 : f.ty = 1
    · obtain ⟨e1, rfl, rfl, rfl, rfl, rfl⟩ := hz t1
      have := k1 (e1.1 q') w7 (S.trans S7) H7.drop.drop.drop
      rw [← t1] at this
      exact this
    · exact k2 (fun hl => t1 hl.1) _ _ _ _ _ _ _ 0 w7 hsg (.inr ⟨f.ty, rfl, t1⟩) (S.trans S7) H7.drop.drop.drop
end F33
end Go.Proofs.YtbhbdleffackaaaGreatDoor
