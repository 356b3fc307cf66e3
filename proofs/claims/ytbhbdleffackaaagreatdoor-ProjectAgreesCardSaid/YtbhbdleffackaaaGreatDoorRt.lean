/- Chapter 43: oracle.Tenant, by the program. -/
import Derived.Test.YtbhbdleffackaaaGreatDoorRg
set_option linter.unusedVariables false
set_option linter.unusedSimpArgs false
namespace Go.Proofs.YtbhbdleffackaaaGreatDoor
open Go Go.Vc
attribute [local irreducible] Go.Vc.Nc Go.Vc.Ld Go.Vc.LdA Go.Vc.St Go.Vc.StA Go.Vc.Fo Go.Vc.Iaa Go.Vc.Ias Go.Vc.Ixs Go.Vc.Ixa Go.Vc.Fd Go.Vc.FdA Go.Vc.Bp Go.Vc.Bb Go.Vc.Bn Go.Vc.Up Go.Vc.Ci Go.Vc.Lns Go.Vc.Lnl Go.Vc.Ex Go.Vc.Sst Go.Vc.Ssl Go.Vc.New Go.Vc.Vif Go.Vc.VJoin Go.Vc.VLoop Go.Vc.KE Go.Vc.Dr Go.Vc.Rk Go.Vc.Cl Go.Vc.Cx Go.Vc.Inv Go.Vc.Be Go.Vc.Cv Go.Vc.Cw Go.Vc.Mf Go.Vc.Sl Go.Vc.Lk Go.Vc.Bd Go.Vc.Bs Go.Vc.Ms Go.Vc.Mm Go.Vc.Mu Go.Vc.Me Go.Vc.Es Go.Vc.Rg Go.Vc.Nx Go.Vc.Ta Go.Vc.Ap Go.Vc.Usd Go.Vc.Ust Go.Vc.Cp Go.Vc.Ln Go.Vc.Bc Go.Vc.Bmin Go.Vc.Bmax Go.Vc.Bdel Go.Vc.Bclr Go.Vc.Pk
namespace F33
open Go.M31 J30 J31 J32
variable {w : World} {L : List HProp} {K : Value → World → Prop} {ts : List Tn}
abbrev tIn : Nat := 3
abbrev tEr : Nat := 26
def whoI : Option Nat → Int
  | none => -1
  | some i => (i : Int)
theorem acts_spec {a : Option Addr} {c : Nat} {n : Cn} {s : List UInt8} (H : Holds w L)
    (k : ∀ cb sb w', Same w w' → Holds w' (blk cb tC (cellsC a ts.length c n) :: blk sb tSt [S_ s] :: L) → K (.func (.func F.oracle_acts_1) #[] #[pt cb, pt sb]) w') :
    Cl Tryz.prog F.oracle_acts #[.agg (cellsC a ts.length c n).toArray, S_ s] w K := by
  refine Tie.oracle_acts ?_
  unfold Vcf.oracle_acts
  refine r_new H fun cb w1 S1 H1 => ?_
  replace H1 : Holds w1 (blk cb tC (cellsC a ts.length c n) :: L) := H1
  refine r_new H1 fun sb w2 S2 H2 => ?_
  replace H2 : Holds w2 (blk sb tSt [S_ s] :: blk cb tC (cellsC a ts.length c n) :: L) := H2
  refine r_mf (.func (.func F.oracle_acts_1) #[] #[pt cb, pt sb]) (by kernel_rfl) ?_
  exact k cb sb w2 (S1.trans S2) H2.swap
set_option maxRecDepth 1000000 in
theorem TenantZ_spec {z : Bool} {a : Option Addr} {c : Nat} {n : Cn} {s : List UInt8} (H : Holds w L) (hT : TsIn L a ts) (hU : J33.TabZ z L) (hA : ∀ t ∈ ts, J33.AscT z t) (hAs : J33.Asc z s) (hs : ∀ t ∈ ts, szT t) (hc : ts.length ≤ c) (hl : s.length ≤ 65536)
    (k0 : ∀ e w', ChkC ts n e → e ≠ 0 → Same w w' → Holds w' L → K (.tuple #[iv 0, iv e]) w')
    (k1 : ChkC ts n 0 → ∀ r w', TnR ts s r → Same w w' → Holds w' L → K (.tuple #[iv (whoI r), iv 0]) w') :
    Cl Tryz.prog F.oracle_Tenant #[.agg (cellsC a ts.length c n).toArray, S_ s] w K := by
  refine Tie.oracle_Tenant ?_
  unfold Vcf.oracle_Tenant
  refine r_new H fun ca w1 S1 H1 => ?_
  replace H1 : Holds w1 (blk ca tC (cellsC a ts.length c n) :: L) := H1
  refine r_new H1 fun xa w2 S2 H2 => ?_
  replace H2 : Holds w2 (blk xa tIn [iv 0] :: blk ca tC (cellsC a ts.length c n) :: L) := H2
  refine r_new H2 fun xe w3 S3 H3 => ?_
  replace H3 : Holds w3 (blk xe tEr [iv 0] :: blk xa tIn [iv 0] :: blk ca tC (cellsC a ts.length c n) :: L) := H3
  refine r_ldA 2 H3 (cellsC a ts.length c n) rfl rfl rfl ?_
  refine J33.ConfigZ_spec H3 hT.up.up.up hU.up.up.up hA hs hc fun e w4 S4 H4 hch => ?_
  have S := S1.trans (S2.trans (S3.trans S4))
  clear S1 S2 S3 S4 H H1 H2 H3
  refine r_neq (r_ifN (fun he => ?_) fun he => ?_)
  · refine r_st 1 H4 rfl (by simp) rfl fun w5 S5 H5 => ?_
    refine r_st 0 H5 rfl (by simp) rfl fun w6 S6 H6 => ?_
    replace H6 : Holds w6 (blk xe tEr [iv e] :: blk xa tIn [iv 0] :: blk ca tC (cellsC a ts.length c n) :: L) := H6
    refine r_ld 1 H6 rfl rfl (r_ld 0 H6 rfl rfl ?_)
    exact k0 e w6 hch he (S.trans (S5.trans S6)) H6.drop.drop.drop
  subst he
  have hok : goodTs ts := by
    rcases hch with ⟨_, h⟩ | ⟨_, _, h⟩ | ⟨h, _⟩
    · exact absurd rfl h
    · cases h
    · rcases h with ⟨_, h⟩ | ⟨_, h⟩ | ⟨_, _, _, _, _, _, h⟩ | ⟨h, _⟩
      · cases h
      · cases h
      · rcases h with ⟨_, h⟩ | ⟨_, _, h⟩ <;> cases h
      · exact h
  refine r_ldA 2 H4 (cellsC a ts.length c n) rfl rfl rfl ?_
  refine acts_spec H4 fun cb sb w7 S7 H7 => ?_
  replace S := S.trans S7
  clear S7 H4
  unfold RgF
  intro rc hrdy hpend Yd
  refine ⟨F.oracle_acts_1, #[yv (w7.heap.size + 1), pt cb, pt sb], by kernel_rfl, ?_⟩
  have H8 := (H7.alloc (.deferred (some []))).alloc (.loop rc)
  have hsz : (w7.alloc (.deferred (some []))).heap.size = w7.heap.size + 1 := by
    show (w7.heap.push _).size = _
    simp
  rw [hsz] at H8
  generalize hD : w7.heap.size = D at *
  generalize hW : (w7.alloc (.deferred (some []))).alloc (.loop rc) = w8 at *
  have S8 : Same w7 w8 := by rw [← hW]; exact (Same.alloc _ _).trans (.alloc _ _)
  have H9 : Holds w8 (blk cb tC (cellsC a ts.length c n) :: blk sb tSt [S_ s] :: blkO (D + 1) (.loop rc) :: blkO D (.deferred (some [])) :: blk xe tEr [iv 0] :: blk xa tIn [iv 0] :: blk ca tC (cellsC a ts.length c n) :: L) := by
    have h_ := Holds.ord 4 [2, 3, 0, 1] H8 rfl; exact h_
  clear H7 H8 hW hsz
  -- a round
  have rnd : ∀ (wh : Int) (jb tn e : Value) (M : List HProp) (W : World) (R : Bool → World → Prop), [iv wh, jb, tn, iv 0, iv 0, iv 0, S_ [], e].all sg = true → Holds W (M ++ (blkO (D + 1) (.loop rc) :: blkO D (.deferred (some [])) :: blk xe tEr [iv 0] :: blk xa tIn [iv 0] :: blk ca tC (cellsC a ts.length c n) :: L)) →
      (wh ≠ 2 → ∀ W', Same W W' → Holds W' (M ++ (blkO (D + 1) (.loop rc) :: blkO D (.deferred (some [])) :: blk xe tEr [iv 0] :: blk xa tIn [iv 0] :: blk ca tC (cellsC a ts.length c n) :: L)) → R true W') →
      (wh = 2 → sg tn = true → ∀ W', Same W W' → Holds W' (M ++ (blkO (D + 1) (.loop { rc with state := .done, pending := some .ret }) :: blkO D (.deferred (some [])) :: blk xe tEr [iv 0] :: blk xa tIn [tn] :: blk ca tC (cellsC a ts.length c n) :: L)) → R false W') →
      YdTo Tryz.prog (D + 1) (.agg #[iv wh, jb, tn, iv 0, iv 0, iv 0, S_ [], e]) W R := by
    intro wh jb tn e M W R hsg HW r1 r2
    have hrec := HW.obj _ (app_get (i := 0) rfl)
    refine Yd _ W R hrec ?_
    refine r_new HW fun nb W1 T1 G1 => ?_
    rw [ac_zero] at G1
    refine r_stA 0 G1 (vs := [iv wh, jb, tn, iv 0, iv 0, iv 0, S_ [], e]) rfl (Nat.le_refl 8) rfl hsg fun W2 T2 G2 => ?_
    replace G2 : Holds W2 ((blk nb tAc [iv wh, jb, tn, iv 0, iv 0, iv 0, S_ [], e] :: M) ++ (blkO (D + 1) (.loop rc) :: blkO D (.deferred (some [])) :: blk xe tEr [iv 0] :: blk xa tIn [iv 0] :: blk ca tC (cellsC a ts.length c n) :: L)) := G2
    refine ⟨G2.obj _ (app_get (i := 0) rfl), ?_⟩
    have G3 := Holds.putR 0 (.loop { rc with state := .busy }) G2 rfl
    replace G3 : Holds (W2.putObj (D + 1) (.loop { rc with state := .busy })) ((blk nb tAc [iv wh, jb, tn, iv 0, iv 0, iv 0, S_ [], e] :: M) ++ (blkO (D + 1) (.loop { rc with state := .busy }) :: blkO D (.deferred (some [])) :: blk xe tEr [iv 0] :: blk xa tIn [iv 0] :: blk ca tC (cellsC a ts.length c n) :: L)) := G3
    have T3 : Same W (W2.putObj (D + 1) (.loop { rc with state := .busy })) := T1.trans (T2.trans same_put)
    generalize W2.putObj (D + 1) (.loop { rc with state := .busy }) = W3 at *
    clear G1 G2 T1 T2
    refine r_fo0 (r_ld 0 G3 rfl rfl (r_eql (r_ifE (fun h2 => ?_) fun h2 => ?_)))
    · refine r_fo0 (r_ld 0 G3 rfl rfl ?_)
      have htn : sg tn = true := by
        simp only [List.all_cons, List.all_nil, Bool.and_true, Bool.and_eq_true] at hsg
        exact hsg.2.2.1
      refine r_st _ G3 (app_get (i := 3) rfl) (by simp) htn fun W4 T4 G4 => ?_
      rw [app_set] at G4
      replace G4 : Holds W4 ((blk nb tAc [iv wh, jb, tn, iv 0, iv 0, iv 0, S_ [], e] :: M) ++ (blkO (D + 1) (.loop { rc with state := .busy }) :: blkO D (.deferred (some [])) :: blk xe tEr [iv 0] :: blk xa tIn [tn] :: blk ca tC (cellsC a ts.length c n) :: L)) := G4
      refine r_st _ G4 (app_get (i := 2) rfl) (by simp) rfl fun W5 T5 G5 => ?_
      rw [app_set] at G5
      replace G5 : Holds W5 ((blk nb tAc [iv wh, jb, tn, iv 0, iv 0, iv 0, S_ [], e] :: M) ++ (blkO (D + 1) (.loop { rc with state := .busy }) :: blkO D (.deferred (some [])) :: blk xe tEr [iv 0] :: blk xa tIn [tn] :: blk ca tC (cellsC a ts.length c n) :: L)) := G5
      refine ⟨G5.obj _ (app_get (i := 0) rfl), ?_⟩
      have G6 := Holds.putR 0 (.loop { rc with state := .done, pending := some .ret }) G5 rfl
      exact r2 h2 htn _ (T3.trans (T4.trans (T5.trans same_put))) (Holds.drop G6)
    · refine ⟨G3.obj _ (app_get (i := 0) rfl), ?_⟩
      have G6 := Holds.putR 0 (.loop rc) G3 rfl
      exact r1 h2 _ (T3.trans same_put) (Holds.drop G6)
  have tail : ∀ (x : Value) (W : World) (rc' : Loop), sg x = true → Same w W → Holds W (blkO (D + 1) (.loop rc') :: blkO D (.deferred (some [])) :: blk xe tEr [iv 0] :: blk xa tIn [x] :: blk ca tC (cellsC a ts.length c n) :: L) →
      (∀ W', Same w W' → Holds W' L → K (.tuple #[x, iv 0]) W') → TkM W (fun w21 => Ld (pt xa) w21 fun x_20 => Ld (pt xe) w21 fun x_21 => K (.tuple #[x_20, x_21]) w21) [D] := by
    intro x W rc' hx T G kk
    refine ⟨G.obj 1 rfl, ?_⟩
    have G2 := Holds.putR (M := []) 1 (.deferred none) G rfl
    refine r_ld 3 G2 rfl rfl (r_ld 2 G2 rfl rfl ?_)
    exact kk _ (T.trans same_put) G2.drop.drop.drop.drop.drop
  have Sz := S.trans S8
  refine (cl_calls (acts1_spec (ts := ts) (Lx := fun i => blkO (D + 1) (.loop { rc with state := .done, pending := some .ret }) :: blkO D (.deferred (some [])) :: blk xe tEr [iv 0] :: blk xa tIn [nv i] :: blk ca tC (cellsC a ts.length c n) :: L)
    (K := fun _ w' => ∃ r, TnR ts s r ∧ Same w8 w' ∧ Holds w' (match r with
      | none => blkO (D + 1) (.loop rc) :: blkO D (.deferred (some [])) :: blk xe tEr [iv 0] :: blk xa tIn [iv 0] :: blk ca tC (cellsC a ts.length c n) :: L
      | some i => blkO (D + 1) (.loop { rc with state := .done, pending := some .ret }) :: blkO D (.deferred (some [])) :: blk xe tEr [iv 0] :: blk xa tIn [nv i] :: blk ca tC (cellsC a ts.length c n) :: L))
    H9 hT.up.up.up.up.up hU.up.up.up.up.up hA hAs hs hc hok hl
    (fun jb e M W R HW kr => rnd 1 (nv jb) (iv 0) (iv e) M W R rfl HW (fun _ => kr) fun h => absurd h (by decide))
    (fun i M W R HW kr => rnd 2 (iv 0) (nv i) (iv 0) M W R rfl HW (fun h => absurd rfl h) fun _ _ => kr)
    fun r w' h1 h2 h3 => ⟨r, h1, h2, h3⟩)).mono ?_
  rintro e w9 ⟨v, rfl, r, hr, S9, G⟩
  refine ⟨⟨_, rfl⟩, ?_⟩
  cases r with
  | none =>
    refine .inl ⟨G.obj 0 rfl, ?_⟩
    have G2 := Holds.putR (M := []) 0 (.loop { rc with state := .exhausted }) G rfl
    refine r_st 3 G2 rfl (by simp) rfl fun wa Sa Ga => ?_
    refine r_st 2 Ga rfl (by simp) rfl fun wb Sb Gb => ?_
    exact tail (iv (-1)) wb _ rfl (Sz.trans (S9.trans (same_put.trans (Sa.trans Sb)))) Gb fun W' T' G' => k1 hch none W' hr T' G'
  | some i =>
    refine .inr (.inl ⟨G.obj 0 rfl, ?_⟩)
    have G2 := Holds.putR (M := []) 0 (.loop { rc with state := .exhausted, pending := some .ret }) G rfl
    exact tail (nv i) _ _ rfl (Sz.trans (S9.trans same_put)) G2 fun W' T' G' => k1 hch (some i) W' hr T' G'
end F33
end Go.Proofs.YtbhbdleffackaaaGreatDoor
