/- Chapters 36, 43: a connection until somebody logs in; who logs in by a stream, by the program. -/
import Derived.Test.YtbhbdleffackaaaGreatDoorCo
import Derived.Test.YtbhbdleffackaaaGreatDoorRf
set_option linter.unusedVariables false
set_option linter.unusedSimpArgs false
namespace Go.Proofs.YtbhbdleffackaaaGreatDoor
open Go Go.Vc
attribute [local irreducible] Go.Vc.Nc Go.Vc.Ld Go.Vc.LdA Go.Vc.St Go.Vc.StA Go.Vc.Fo Go.Vc.Iaa Go.Vc.Ias Go.Vc.Ixs Go.Vc.Ixa Go.Vc.Fd Go.Vc.FdA Go.Vc.Bp Go.Vc.Bb Go.Vc.Bn Go.Vc.Up Go.Vc.Ci Go.Vc.Lns Go.Vc.Lnl Go.Vc.Ex Go.Vc.Sst Go.Vc.Ssl Go.Vc.New Go.Vc.Vif Go.Vc.VJoin Go.Vc.VLoop Go.Vc.KE Go.Vc.Dr Go.Vc.Rk Go.Vc.Cl Go.Vc.Cx Go.Vc.Inv Go.Vc.Be Go.Vc.Cv Go.Vc.Cw Go.Vc.Mf Go.Vc.Sl Go.Vc.Lk Go.Vc.Bd Go.Vc.Bs Go.Vc.Ms Go.Vc.Mm Go.Vc.Mu Go.Vc.Me Go.Vc.Es Go.Vc.Rg Go.Vc.Nx Go.Vc.Ta Go.Vc.Ap Go.Vc.Usd Go.Vc.Ust Go.Vc.Cp Go.Vc.Ln Go.Vc.Bc Go.Vc.Bmin Go.Vc.Bmax Go.Vc.Bdel Go.Vc.Bclr Go.Vc.Pk
namespace F33
open Go.M31 J30 J31 J32
variable {w : World} {L : List HProp} {K : Value → World → Prop} {cb : Nat} {v m : Value} {ts : List Tn} {f : Fr}
abbrev tCo : Nat := 216
set_option maxRecDepth 1000000 in
instance rowTn : RowN Tryz.prog 41 tT 5 := ⟨Tryz.underlying41, _, _, rfl, rfl, by decide, rfl, rfl⟩
theorem CloneT_spec {a : Option Addr} {c : Nat} (H : Holds w L) (hT : TsIn L a ts) (hl : ts.length ≤ 1000) (h0 : 0 < ts.length) (k : ∀ v w', Same w w' → Holds w' (RW cellsT 5 tT v ts :: L) → K v w') :
    Cl Tryz.prog F.slices_Clone_api_Tenant_api_Tenant #[.slice a ts.length c] w K := by
  refine Tie.slices_Clone_api_Tenant_api_Tenant ?_
  unfold Vcf.slices_Clone_api_Tenant_api_Tenant
  obtain ⟨p, rfl, _⟩ := hT w H 0 ts[0] (List.getElem?_eq_getElem h0)
  refine r_be (v := .bool false) (by kernel_rfl) (r_vf ?_)
  refine r_bsK (e := tT) [] H (by kernel_rfl) fun bz w1 S1 H1 => ?_
  have hT1 : S4r.InG cellsT 5 (blk bz tT [] :: L) (some p) ts := hT.up
  refine r_apG (F := cellsT) (k := 5) (e := tT) H1 hT1 (fun _ => rfl) h0 hl fun v w2 S2 H2 => ?_
  exact k v w2 (S1.trans S2) (Holds.dropAt H2 1)
theorem CNew_spec {z : Bool} {a : Option Addr} {c : Nat} (H : Holds w L) (hT : TsIn L a ts) (hU : J33.TabZ z L) (hA : ∀ t ∈ ts, J33.AscT z t) (hs : ∀ t ∈ ts, szT t) (hc : ts.length ≤ c) (hok : goodTs ts)
    (k : ∀ cb v m w', Same w w' → Holds w' (blk cb tCo [v, iv (-1), m] :: RW cellsT 5 tT v ts :: L) → K (.tuple #[pt cb, iv 0]) w') : Cl Tryz.prog F.conn_New #[.slice a ts.length c] w K := by
  refine Tie.conn_New ?_
  unfold Vcf.conn_New
  refine J33.CheckZ_spec H hT hU hA hs hc fun x e w1 S1 H1 hch => ?_
  obtain rfl : e = 0 := Chk_one hch (.inr (.inr (.inr ⟨hok, rfl⟩)))
  refine r_ex20 (r_ex21 (r_neq (r_vfN rfl ?_)))
  have h3 := hok.2.2
  refine CloneT_spec H1 hT (by omega) h3.1 fun v w2 S2 H2 => ?_
  refine r_mmN H2 fun mb w3 S3 H3 => ?_
  obtain ⟨oa, q, sp, rfl, _⟩ := H2.openRW 0 rfl
  refine r_bd (v := .agg #[.slice oa ts.length (ts.length + q), iv (-1), .map (some mb)]) (by kernel_rfl) ?_
  refine r_new H3 fun cb w4 S4 H4 => ?_
  exact k cb _ _ w4 (S1.trans (S2.trans (S3.trans S4))) (Holds.dropAt H4 1)
def actL (i : Nat) : List Value := [iv 2, iv 0, nv i, iv 0, iv 0, iv 0, S_ [], iv 0]
def actR (jb : Nat) (e : Int) : List Value := [iv 1, nv jb, iv 0, iv 0, iv 0, iv 0, S_ [], iv e]
theorem refuse_spec {jb : Nat} {e : Int} (H : Holds w L) (k : ∀ w', Same w w' → Holds w' L → K (.agg (actR jb e).toArray) w') : Cl Tryz.prog F.conn_refuse #[nv jb, iv e] w K := by
  refine Tie.conn_refuse ?_
  unfold Vcf.conn_refuse
  refine r_new H fun b w1 S1 H1 => ?_
  rw [ac_zero] at H1
  refine r_bd (v := .agg (actR jb e).toArray) (by kernel_rfl) ?_
  refine r_stA 0 H1 (vs := actR jb e) rfl (Nat.le_refl 8) rfl rfl fun w2 S2 H2 => ?_
  refine r_ldA 0 H2 (actR jb e) rfl rfl rfl ?_
  exact k _ (S1.trans S2) H2.drop
theorem login_spec {z : Bool} (H : Holds w (blk cb tCo [v, iv (-1), m] :: RW cellsT 5 tT v ts :: L)) (hU : J33.TabZ z L) (hA : J33.Asc z f.da) (h1 : f.jb ≤ 4294967295) (h2 : f.da.length ≤ 65536) (hl : ts.length ≤ 1000) (hs : ∀ t ∈ ts, szT t)
    (k1 : logs f → ∀ i w', First ts f.da i → Same w w' → Holds w' (blk cb tCo [v, nv i, m] :: RW cellsT 5 tT v ts :: L) → K (.agg (actL i).toArray) w')
    (k2 : ¬ logs f ∨ Nobody ts f.da → ∀ e w', Same w w' → Holds w' (blk cb tCo [v, iv (-1), m] :: RW cellsT 5 tT v ts :: L) → K (.agg (actR f.jb e).toArray) w') :
    Cl Tryz.prog F.conn_Conn_login #[pt cb, .agg (cellsF f).toArray] w K := by
  refine Tie.conn_Conn_login ?_
  unfold Vcf.conn_Conn_login
  refine r_new H fun fb w1 S1 H1 => ?_
  replace H1 : Holds w1 (blk fb tFr (cellsF f) :: blk cb tCo [v, iv (-1), m] :: RW cellsT 5 tT v ts :: L) := H1
  refine r_new H1 fun ob w2 S2 H2 => ?_
  rw [ac_zero] at H2
  refine r_ldA 1 H2 (cellsF f) rfl rfl rfl ?_
  have S := S1.trans S2
  clear S1 S2 H H1
  have no : ∀ (e : Int) (rb : Nat) (rc : List Value) w', (¬ logs f ∨ Nobody ts f.da) → Same w w' → Holds w' (blk rb tRq rc :: blk ob tAc zAct :: blk fb tFr (cellsF f) :: blk cb tCo [v, iv (-1), m] :: RW cellsT 5 tT v ts :: L) →
      Fo 1 (pt fb) fun x_9 => Ld x_9 w' fun x_10 => Cl Tryz.prog F.conn_refuse #[x_10, iv e] w' fun x_11 w7 => StA 8 (pt ob) x_11 w7 fun w8 => LdA 8 (pt ob) w8 fun x_12 => K x_12 w8 := by
    intro e rb rc w' hno Sz Hz
    refine r_fo0 (r_ld 2 Hz rfl rfl ?_)
    refine refuse_spec Hz fun w7 S7 H7 => ?_
    refine r_stA 1 H7 (vs := actR f.jb e) rfl (Nat.le_refl 8) rfl rfl fun w8 S8 H8 => ?_
    refine r_ldA 1 H8 (actR f.jb e) rfl rfl rfl ?_
    exact k2 hno e w8 (Sz.trans (S7.trans S8)) H8.drop.drop.drop
  refine Read_spec H2 hU.up.up.up.up hA h1 h2 (fun hlg w3 S3 H3 => ?_) fun hlg a b c d e g h r w3 hsg hr S3 H3 => ?_
  · refine r_ex20 (r_ex21 ?_)
    refine r_new H3 fun rb w4 S4 H4 => ?_
    rw [rq_zero] at H4
    refine r_stA 0 H4 (vs := [nv 1, nv f.jb, S_ f.da, S_ [], iv 0, iv 0, iv 0]) rfl (Nat.le_refl 7) rfl rfl fun w5 S5 H5 => ?_
    replace H5 : Holds w5 (blk rb tRq [nv 1, nv f.jb, S_ f.da, S_ [], iv 0, iv 0, iv 0] :: blk ob tAc zAct :: blk fb tFr (cellsF f) :: blk cb tCo [v, iv (-1), m] :: RW cellsT 5 tT v ts :: L) := H5
    have S' := S.trans (S3.trans (S4.trans S5))
    refine r_join1 (fun x w' => w5 = w' ∧ x = .bool false) ?_ ?_
    rotate_left
    · refine r_neq (r_vfN rfl (r_fo0 (r_ld 0 H5 rfl rfl (r_neq (r_ke ⟨rfl, rfl⟩)))))
    rintro _ _ _ ⟨rfl, rfl⟩
    refine r_vf (r_dr H5 fun w6 S6 H6 => ?_)
    obtain ⟨oa, q, sp, rfl, _⟩ := H6.openRW 4 rfl
    refine r_nc (r_fo0 (r_ld 3 H6 rfl rfl (r_fo0 (r_ld 0 H6 rfl rfl ?_))))
    have hT : TsIn (blk rb tRq [nv 1, nv f.jb, S_ f.da, S_ [], iv 0, iv 0, iv 0] :: blk ob tAc zAct :: blk fb tFr (cellsF f) :: blk cb tCo [.slice oa ts.length (ts.length + q), iv (-1), m] :: RW cellsT 5 tT (.slice oa ts.length (ts.length + q)) ts :: L) oa ts := S4r.InG.own 4 rfl (fun _ => rfl)
    refine Find_spec H6 hT hl hs (fun i w7 hi S7 H7 => ?_) fun w7 hno S7 H7 => ?_
    · refine r_ex20 (r_ex21 (r_neq (r_vfN rfl ?_)))
      refine r_nc (r_fo0 (r_st 3 H7 rfl (by simp) rfl fun w8 S8 H8 => ?_))
      replace H8 : Holds w8 (blk rb tRq [nv 1, nv f.jb, S_ f.da, S_ [], iv 0, iv 0, iv 0] :: blk ob tAc zAct :: blk fb tFr (cellsF f) :: blk cb tCo [.slice oa ts.length (ts.length + q), nv i, m] :: RW cellsT 5 tT (.slice oa ts.length (ts.length + q)) ts :: L) := H8
      refine r_bd (v := .agg (actL i).toArray) (by kernel_rfl) ?_
      refine r_stA 1 H8 (vs := actL i) rfl (Nat.le_refl 8) rfl rfl fun w9 S9 H9 => ?_
      refine r_ldA 1 H9 (actL i) rfl rfl rfl ?_
      exact k1 hlg i w9 hi (S'.trans (S6.trans (S7.trans (S8.trans S9)))) H9.drop.drop.drop
    · refine r_ex20 (r_ex21 (r_neq (r_vtN (by decide) ?_)))
      exact no 30 rb _ w7 (.inr hno) (S'.trans (S6.trans S7)) H7
  · refine r_ex20 (r_ex21 ?_)
    refine r_new H3 fun rb w4 S4 H4 => ?_
    rw [rq_zero] at H4
    refine r_stA 0 H4 (vs := [a, b, c, d, e, g, h]) rfl (Nat.le_refl 7) rfl hsg fun w5 S5 H5 => ?_
    replace H5 : Holds w5 (blk rb tRq [a, b, c, d, e, g, h] :: blk ob tAc zAct :: blk fb tFr (cellsF f) :: blk cb tCo [v, iv (-1), m] :: RW cellsT 5 tT v ts :: L) := H5
    have S' := S.trans (S3.trans (S4.trans S5))
    refine r_join1 (fun x w' => w5 = w' ∧ x = .bool true) ?_ ?_
    rotate_left
    · refine r_neq (r_ifN (fun _ => r_ke ⟨rfl, rfl⟩) fun h0 => ?_)
      rcases hr with hr | ⟨t, rfl, ht⟩
      · exact absurd h0 hr
      · refine r_fo0 (r_ld 0 H5 rfl rfl (r_neq (r_ke ⟨rfl, congrArg Value.bool ?_⟩)))
        rw [bne_iff_ne]
        omega
    rintro _ _ _ ⟨rfl, rfl⟩
    exact r_vt (no 30 rb _ w5 (.inl hlg) S' H5)
theorem Step_spec {z : Bool} (H : Holds w (blk cb tCo [v, iv (-1), m] :: RW cellsT 5 tT v ts :: L)) (hU : J33.TabZ z L) (hA : J33.Asc z f.da) (h1 : f.jb ≤ 4294967295) (h2 : f.da.length ≤ 65536) (hl : ts.length ≤ 1000) (hs : ∀ t ∈ ts, szT t)
    (k1 : logs f → ∀ i w', First ts f.da i → Same w w' → Holds w' (blk cb tCo [v, nv i, m] :: RW cellsT 5 tT v ts :: L) → K (.tuple #[.agg (actL i).toArray, iv 0]) w')
    (k2 : ¬ logs f ∨ Nobody ts f.da → ∀ e w', Same w w' → Holds w' (blk cb tCo [v, iv (-1), m] :: RW cellsT 5 tT v ts :: L) → K (.tuple #[.agg (actR f.jb e).toArray, iv 0]) w') :
    Cl Tryz.prog F.conn_Conn_Step #[pt cb, .agg (cellsF f).toArray] w K := by
  refine Tie.conn_Conn_Step ?_
  unfold Vcf.conn_Conn_Step
  refine r_new H fun fb w1 S1 H1 => ?_
  replace H1 : Holds w1 (blk fb tFr (cellsF f) :: blk cb tCo [v, iv (-1), m] :: RW cellsT 5 tT v ts :: L) := H1
  refine r_new H1 fun ob w2 S2 H2 => ?_
  rw [ac_zero] at H2
  refine r_bnSF (r_vf (r_nc (r_fo0 (r_ld 2 H2 rfl rfl (r_eql (r_vtE rfl ?_))))))
  refine r_ldA 1 H2 (cellsF f) rfl rfl rfl ?_
  have H3 : Holds w2 (blk cb tCo [v, iv (-1), m] :: RW cellsT 5 tT v ts :: blk ob tAc zAct :: blk fb tFr (cellsF f) :: L) := by have h_ := Holds.ord 4 [2, 3, 0, 1] H2 rfl; exact h_
  refine login_spec H3 hU.up.up hA h1 h2 hl hs (fun hlg i w3 hi S3 H4 => ?_) fun hno e w3 S3 H4 => ?_
  · refine r_stA 2 H4 (vs := actL i) rfl (Nat.le_refl 8) rfl rfl fun w4 S4 H5 => ?_
    refine r_ldA 2 H5 (actL i) rfl rfl rfl ?_
    exact k1 hlg i w4 hi (S1.trans (S2.trans (S3.trans S4))) (Holds.dropAt (Holds.dropAt H5 2) 2)
  · refine r_stA 2 H4 (vs := actR f.jb e) rfl (Nat.le_refl 8) rfl rfl fun w4 S4 H5 => ?_
    refine r_ldA 2 H5 (actR f.jb e) rfl rfl rfl ?_
    exact k2 hno e w4 (S1.trans (S2.trans (S3.trans S4))) (Holds.dropAt (Holds.dropAt H5 2) 2)
end F33
end Go.Proofs.YtbhbdleffackaaaGreatDoor
/- wanted: Vcf.oracle_Tenant Vcf.oracle_acts Vcf.oracle_acts_1 -/
