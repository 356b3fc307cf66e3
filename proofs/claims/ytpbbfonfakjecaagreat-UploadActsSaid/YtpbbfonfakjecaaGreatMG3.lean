/- Several texts in one: Kf, Kg, Kh. -/
import Derived.Test.YtpbbfonfakjecaaGreatMG2
import Derived.Lib.SmallJoins
set_option linter.unusedVariables false
set_option linter.unusedSimpArgs false
namespace Go.Proofs.YtpbbfonfakjecaaGreat
open Go Go.Vc
attribute [local irreducible] Vc.Nc Vc.Ld Vc.LdA Vc.St Vc.StA Vc.Fo Vc.Iaa Vc.Ias Vc.Ixs Vc.Ixa Vc.Fd Vc.FdA Vc.Bp Vc.Bb Vc.Bn Vc.Up Vc.Ci Vc.Lns Vc.Lnl Vc.Ex Vc.Sst Vc.Ssl Vc.New Vc.Vif Vc.VJoin Vc.VLoop Vc.KE Vc.Dr Vc.Rk Vc.Cl Vc.Cx Vc.Inv Vc.Be Vc.Cv Vc.Cw Vc.Mf Vc.Sl Vc.Lk Vc.Bd Vc.Bs Vc.Ms Vc.Mm Vc.Mu Vc.Me Vc.Es Vc.Rg Vc.Nx Vc.Ta Vc.Ap Vc.Usd Vc.Ust Vc.Cp Vc.Ln Vc.Bc Vc.Bmin Vc.Bmax Vc.Bdel Vc.Bclr Vc.Pk
namespace K25
open Go.M01 Go.Mb Go.M02 Go.M03 P20 K24
variable {w : World} {L : List HProp} {K : Value → World → Prop} {b : Nat}
abbrev tTs : Nat := 93
theorem bv_nat {n : Nat} (h : n < 256) : (.int .u8 (n : Int) : Value) = bv (UInt8.ofNat n) := by
 show _ = Value.int .u8 ((UInt8.ofNat n).toNat : Int); rw [UInt8.toNat_ofNat', Nat.mod_eq_of_lt h]
theorem Digits_spec : ∀ (n : Nat) {w : World} {L : List HProp} {K : Value → World → Prop}, n ≤ 1000000000000 → Holds w L → (∀ (t : List UInt8) w', t.length ≤ n + 1 → Same w w' → Holds w' L → K (S_ t) w') → Cl Tryz.prog F.tester_Digits #[nv n] w K := by
 intro n
 induction n using Nat.strongRecOn with
 | ind n ih =>
   intro w L K hn H k; refine Tie.tester_Digits ?_; unfold Vcf.tester_Digits; refine r_lss (r_ifD (fun h => ?_) fun h => ?_)
   · refine r_max ?_; rw [show max (n : Int) 0 = (n : Int) by omega]; refine r_addN (a := 48) (b := n) (by omega) (r_ciu8 (by omega) (by omega) ?_); rw [bv_nat (n := 48 + n) (by omega)]; refine q_str H _ fun w1 S1 H1 => ?_; exact k _ w1 (by simp) S1 H1
   · refine r_dr H fun w1 S1 H1 => ?_; refine r_quo (by omega) (by decide) (by omega) (r_rem (by omega) (by decide) ?_); rw [show (n : Int) / 10 = ((n / 10 : Nat) : Int) by omega, show (n : Int) % 10 = ((n % 10 : Nat) : Int) by omega]; refine r_addN (a := 48) (b := n % 10) (by omega) (r_ciu8 (by omega) (by omega) ⟨?_, ?_⟩)
     · refine ih (n / 10) (by omega) (by omega) H1 fun t w2 ht S2 H2 => ?_; rw [bv_nat (n := 48 + n % 10) (by omega)]; refine r_bs1 H2 rfl fun b3 w3 S3 H3 => ?_; refine B20.r_cvb (sp := []) (xs := [UInt8.ofNat (48 + n % 10)]) (oa := some ⟨b3, 0, none⟩) ((H3.imp fun h hh => (⟨rfl, rfl, hh⟩ : (slb bv tB (some ⟨b3, 0, none⟩) [UInt8.ofNat (48 + n % 10)] []) h))) 0 rfl rfl ?_; refine r_catL (by simp; omega) ?_; exact k _ w3 (by simp; omega) (S1.trans (S2.trans S3)) H3.drop
     · rw [bv_nat (n := 48 + n % 10) (by omega)]; refine r_bs1 H1 rfl fun b2 w2 S2 H2 => ?_; have H3 : Holds w2 (slb bv tB (some ⟨b2, 0, none⟩) [UInt8.ofNat (48 + n % 10)] [] :: L) := H2.imp fun h hh => (⟨rfl, rfl, hh⟩ : (slb bv tB (some ⟨b2, 0, none⟩) [UInt8.ofNat (48 + n % 10)] []) h); refine B20.r_cvb (sp := []) (xs := [UInt8.ofNat (48 + n % 10)]) H3 0 rfl rfl ?_; refine ih (n / 10) (by omega) (by omega) H3 fun t w3 ht S3 H4 => ?_; refine r_rk (B20.r_cvb (sp := []) (xs := [UInt8.ofNat (48 + n % 10)]) H4 0 rfl rfl rfl) ?_; refine r_catL (by simp; omega) ?_; exact k _ w3 (by simp; omega) (S1.trans (S2.trans S3)) H4.drop
structure Tz where
 c : Nat
 ans : List UInt8
 told : Bool
 x : Xz
def TzOk (t : Tz) (g f : Nat) : Prop := XzOk t.x g f ∧ t.c + t.x.out.length ≤ 251 * g
def TzR (b : Nat) (t : Tz) : HProp := fun h => ∃ bx, Sat [blk b tTs [pt bx, nv t.c, S_ t.ans, .bool t.told], XzR bx t.x] h
theorem TzR_open {t : Tz} (H : Holds w (TzR b t :: L)) : ∃ bx, Holds w (blk b tTs [pt bx, nv t.c, S_ t.ans, .bool t.told] :: XzR bx t.x :: L) := by
 obtain ⟨bx, H⟩ := Holds.ex H; exact ⟨bx, Holds.unpack (A := [_, _]) H⟩
theorem TzR_close {t : Tz} {bx : Nat} (H : Holds w (blk b tTs [pt bx, nv t.c, S_ t.ans, .bool t.told] :: XzR bx t.x :: L)) : Holds w (TzR b t :: L) :=
 Holds.imp (Holds.pack (A := [_, _]) H) fun h hh => ⟨bx, hh⟩
theorem Done_spec {t : Tz} (H : Holds w (TzR b t :: L)) (k : K (.bool t.x.dn) w) : Cl Tryz.prog F.tester_Tester_Done #[pt b] w K := by
 refine Tie.tester_Tester_Done ?_; unfold Vcf.tester_Tester_Done; obtain ⟨bx, H1⟩ := TzR_open H; exact r_bnST (r_vt (r_nc (r_fo0 (r_fo0 (r_ld 0 H1 rfl rfl (K24.Done_spec H1.swap k))))))
theorem Feed_spec {t : Tz} {g f : Nat} {s : List UInt8} (H : Holds w (TzR b t :: L)) (ht : TzOk t g f) (hs : s.length ≤ 1000000) (hf : f ≤ 100000000)
   (k : ∀ n t' w', n ≤ s.length → TzOk t' g (f + n) → t'.x.dn = t.x.dn → Same w w' → Holds w' (TzR b t' :: L) → K (nv n) w') : Cl Tryz.prog F.tester_Tester_Feed #[pt b, S_ s] w K := by
 refine Tie.tester_Tester_Feed ?_; unfold Vcf.tester_Tester_Feed; obtain ⟨bx, H1⟩ := TzR_open H; refine r_bnSF (r_vf (r_nc (r_fo0 (r_fo0 (r_ld 0 H1 rfl rfl ?_))))); refine K24.Feed_spec H1.swap ht.1 hs hf fun n x' w2 h1 h2 h3 h4 S2 H2 => ?_; exact k n { t with x := x' } w2 h1 ⟨h2, by have := ht.2; show t.c + x'.out.length ≤ _; rw [h4]; exact this⟩ h3 S2 (TzR_close (t := { t with x := x' }) H2.swap)
theorem End_spec {t : Tz} {g f : Nat} (H : Holds w (TzR b t :: L)) (ht : TzOk t g f) (k : ∀ v t' w', TzOk t' g f → t'.x.dn = t.x.dn → Same w w' → Holds w' (TzR b t' :: L) → K v w') : Cl Tryz.prog F.tester_Tester_End #[pt b] w K := by
 refine Tie.tester_Tester_End ?_; unfold Vcf.tester_Tester_End; obtain ⟨bx, H1⟩ := TzR_open H; refine r_bnSF (r_vf (r_nc (r_fo0 (r_fo0 (r_ld 0 H1 rfl rfl ?_))))); refine K24.End_spec H1.swap ht.1 fun v x' w2 h2 h3 h4 S2 H2 => ?_; exact k v { t with x := x' } w2 ⟨h2, by have := ht.2; show t.c + x'.out.length ≤ _; rw [h4]; exact this⟩ h3 S2 (TzR_close (t := { t with x := x' }) H2.swap)
theorem Stopped_spec {t : Tz} (H : Holds w (TzR b t :: L)) (k : ∀ w', Same w w' → Holds w' (TzR b t :: L) → K (.bool (stpX t.x)) w') : Cl Tryz.prog F.tester_Tester_Stopped #[pt b] w K := by
 refine Tie.tester_Tester_Stopped ?_; unfold Vcf.tester_Tester_Stopped; obtain ⟨bx, H1⟩ := TzR_open H; refine r_bnSF (r_vf (r_nc (r_fo0 (r_fo0 (r_ld 0 H1 rfl rfl ?_))))); exact K24.Stopped_spec H1.swap fun w2 S2 H2 => k w2 S2 (TzR_close H2.swap)
theorem forget_spec {t : Tz} {g f : Nat} (H : Holds w (TzR b t :: L)) (ht : TzOk t g f) (hg : g ≤ 1000000000) (k : ∀ w', Same w w' → Holds w' (TzR b { t with c := t.c + t.x.out.length, x := { t.x with out := [] } } :: L) → K (.tuple #[]) w') : Cl Tryz.prog F.tester_counted_forget #[pt b] w K := by
 refine Tie.tester_counted_forget ?_; unfold Vcf.tester_counted_forget; obtain ⟨bx, H1⟩ := TzR_open H; have h2 := ht.2; have hou := ht.1.ou; refine r_dr H1 fun w2 S2 H2 => ?_; refine r_nc (r_fo0 (r_ld 0 H2 rfl rfl (r_nc (r_fo0 (r_ld 0 H2 rfl rfl (r_nc (r_fo0 (r_ld 0 H2 rfl rfl ?_)))))))); refine K24.Waiting_spec H2.swap ?_; refine r_rk (r_ld 0 H2 rfl rfl rfl) (r_rk (r_ld 0 H2 rfl rfl rfl) ?_); refine K24.Take_spec H2.swap (by omega) fun w3 S3 H3 => ?_; refine r_rk (r_ld 1 H3 rfl rfl rfl) (q_len (r_addN (by omega) ?_)); refine r_nc (r_fo0 (r_st 1 H3 rfl (by simp) rfl fun w4 S4 H4 => ?_)); exact k w4 (S2.trans (S3.trans S4)) (TzR_close (t := { t with c := t.c + t.x.out.length, x := { t.x with out := [] } }) (bx := bx) H4.swap)
theorem tell_spec {t : Tz} {g f : Nat} (H : Holds w (TzR b t :: L)) (ht : TzOk t g f) (hg : g ≤ 1000000000) (k : ∀ t' w', t'.x = t.x → t'.c = t.c → Same w w' → Holds w' (TzR b t' :: L) → K (.tuple #[]) w') : Cl Tryz.prog F.tester_Tester_tell #[pt b] w K := by
 refine Tie.tester_Tester_tell ?_; unfold Vcf.tester_Tester_tell; obtain ⟨bx, H1⟩ := TzR_open H; have h2 := ht.2; refine r_join1 (fun y w' => w = w' ∧ ∃ c : Bool, y = .bool c) ?_ ?_
 rotate_left
 · refine r_nc (r_fo0 (r_fo0 (r_ld 0 H1 rfl rfl ?_))); refine K24.Done_spec H1.swap ?_
   cases t.x.dn with
   | false => exact r_vf (r_ke ⟨rfl, _, rfl⟩)
   | true =>
     refine r_vt (r_nc (r_fo0 (r_fo0 (r_ld 0 H1 rfl rfl ?_)))); refine K24.Err_spec H1.swap (r_eql ?_)
     cases (t.x.wr == 0) with
     | false => exact r_vf (r_ke ⟨rfl, _, rfl⟩)
     | true => exact r_vt (r_nc (r_fo0 (r_ld 0 H1 rfl rfl (r_not (r_ke ⟨rfl, _, rfl⟩)))))
 rintro _ _ _ ⟨rfl, c, rfl⟩
 cases c with
 | false => exact r_vf (k t w rfl rfl (.refl _) H)
 | true =>
   refine r_vt (r_nc (r_fo0 (r_st 0 H1 rfl (by simp) rfl fun w2 S2 H2 => ?_))); refine r_nc (r_fo0 (r_fo0 (r_ld 0 H2 rfl rfl ?_))); refine Digits_spec t.c (by omega) H2 fun a w3 ha S3 H3 => ?_; refine r_nc (r_fo0 (r_st 0 H3 rfl (by simp) rfl fun w4 S4 H4 => ?_)); exact k { t with ans := a, told := true } w4 rfl rfl (S2.trans (S3.trans S4)) (TzR_close (t := { t with ans := a, told := true }) (bx := bx) H4)
theorem Step_spec {t : Tz} {g f q : Nat} (H : Holds w (TzR b t :: L)) (ht : TzOk t g f) (hf : f ≤ 100000000) (hq : q ≤ 1000000) (hg : g ≤ 100000000)
   (k : ∀ t' m w', m ≤ q → TzOk t' (g + m) f → Same w w' → Holds w' (TzR b t' :: L) → K (nv m) w') : Cl Tryz.prog F.tester_Tester_Step #[pt b, nv q] w K := by
 refine Tie.tester_Tester_Step ?_; unfold Vcf.tester_Tester_Step; refine r_bnSF (r_vf ?_); refine r_loop1n (fun j y w' => ∃ m t', j = 2 * (q - m) + (if stpX t'.x = true then 0 else 1) ∧ m ≤ q ∧ y = nv m ∧ TzOk t' (g + m) f ∧ Same w w' ∧ Holds w' (TzR b t' :: L)) (2 * q + (if stpX t.x = true then 0 else 1)) ⟨0, t, rfl, Nat.zero_le _, rfl, ht, .refl _, H⟩ ?_; clear H ht; rintro _ j _ w1 _ ⟨m, t1, rfl, hm, rfl, ht1, S1, H1⟩ hgo; refine r_join1 (fun y w' => ∃ c : Bool, y = .bool c ∧ (c = true → m < q ∧ stpX t1.x = false) ∧ Same w w' ∧ Holds w' (TzR b t1 :: L)) ?_ ?_
 rotate_left
 · refine r_lss (r_ifD (fun h => ?_) fun h => ?_)
   · exact Stopped_spec H1 fun w2 S2 H2 => r_not (r_ke ⟨!stpX t1.x, rfl, fun e => ⟨by omega, by simpa using e⟩, S1.trans S2, H2⟩)
   · exact r_ke ⟨false, rfl, (fun e => by cases e), S1, H1⟩
 rintro _ _ w2 ⟨c, rfl, hc, S2, H2⟩
 cases c with
 | false =>
   refine r_vf ?_; refine tell_spec H2 ht1 (by omega) fun t' w3 h1 h2 S3 H3 => ?_; exact k t' m w3 hm (by unfold TzOk; rw [h1, h2]; exact ht1) (S2.trans S3) H3
 | true =>
   obtain ⟨hlt, hst⟩ := hc rfl; obtain ⟨bx, H3⟩ := TzR_open H2; refine r_vt (r_nc (r_fo0 (r_fo0 (r_ld 0 H3 rfl rfl (r_sub (by omega) (by omega) ?_))))); rw [show (q : Int) - (m : Int) = ((q - m : Nat) : Int) by omega]; refine K24.Step_spec H3.swap ht1.1 hf (by omega) (by omega) fun x' r w3 hr hx' hou h0 S3 H4 => ?_; refine r_addN (by omega) ?_; rw [Nat.add_assoc] at hx'
   have hT : ∀ (cc : Nat) (x2 : Xz), XzOk x2 (g + (m + r)) f → cc + x2.out.length = t1.c + x'.out.length → TzOk { t1 with c := cc, x := x2 } (g + (m + r)) f := by
     intro cc x2 h1 h2; refine ⟨h1, ?_⟩; have h3 := ht1.2; show cc + x2.out.length ≤ 251 * (g + (m + r)); rw [h2, ← Nat.add_assoc g, Nat.mul_add]; omega
   have hj : ∀ x2 : Xz, (r = 0 → stpX x2 = true) → 2 * (q - (m + r)) + (if stpX x2 = true then 0 else 1) < 2 * (q - m) + (if stpX t1.x = true then 0 else 1) := by
     intro x2 h2; rw [if_neg (show ¬ stpX t1.x = true by rw [hst]; decide)]
     by_cases hr0 : r = 0
     · rw [if_pos (h2 hr0), hr0]; omega
     · split <;> omega
   have hs0 : ∀ x2 : Xz, x2.op = x'.op → x2.sh = x'.sh → x2.dn = x'.dn → r = 0 → stpX x2 = true := by
     intro x2 e1 e2 e3 e4; obtain ⟨h5, h6⟩ := h0 e4 hst (by omega); unfold stpX; rw [e1, if_pos h5, e2, h6, Bool.or_true]
   have H5 : Holds w3 (TzR b { t1 with x := x' } :: L) := TzR_close (t := { t1 with x := x' }) (bx := bx) H4.swap; have ht' := hT t1.c x' hx' rfl; refine r_join1 (fun y w' => w3 = w' ∧ ∃ c : Bool, y = .bool c) ?_ ?_
   · rintro _ _ _ ⟨rfl, c, rfl⟩
     cases c with
     | false => exact r_vf (r_ke (hgo _ _ _ (hj x' (hs0 x' rfl rfl rfl)) ⟨m + r, { t1 with x := x' }, rfl, by omega, rfl, ht', S2.trans S3, H5⟩))
     | true =>
       refine r_vt (r_nc (r_fo0 ?_)); refine forget_spec H5 ht' (by omega) fun w4 S4 H6 => ?_; refine r_ke (hgo _ _ _ (hj { x' with out := [] } (hs0 _ rfl rfl rfl)) ⟨m + r, { t1 with c := t1.c + x'.out.length, x := { x' with out := [] } }, rfl, by omega, rfl, ?_, S2.trans (S3.trans S4), H6⟩); exact hT _ { x' with out := [] } ⟨hx'.wi, hx'.bl, hx'.hd, Nat.zero_le _, hx'.od, hx'.os, hx'.st⟩ rfl
   · obtain ⟨bx2, H6⟩ := TzR_open H5; refine r_nc (r_fo0 (r_fo0 (r_ld 0 H6 rfl rfl ?_))); refine K24.Waiting_spec H6.swap (r_geq (r_ifD (fun h => ?_) fun h => ?_))
     · exact r_ke ⟨rfl, true, rfl⟩
     · refine r_nc (r_fo0 (r_fo0 (r_ld 0 H6 rfl rfl ?_))); exact K24.Done_spec H6.swap (r_ke ⟨rfl, _, rfl⟩)
end K25
namespace K26
open Go.M01 Go.Mb Go.M02 Go.M03 P20
variable {w : World} {L : List HProp} {K : Value → World → Prop} {b j : Nat} {d : Bool} {g f : Nat}
abbrev tPp : Nat := 59
abbrev tXp : Nat := 62
abbrev tTp : Nat := 65
abbrev tJob : Nat := 56
abbrev tFlow : Nat := 46
def PrA (b : Nat) (d : Bool) (g : Nat) : HProp := fun h => ∃ z : P23.Pz, (P23.PzOk z g ∧ z.out ≠ [] ∧ z.dn = false ∧ d = false) ∧ P23.PzR b z h
def ExA (b : Nat) (d : Bool) (g f : Nat) : HProp := fun h => ∃ x : K24.Xz, (K24.XzOk x g f ∧ d = x.dn) ∧ K24.XzR b x h
def TsA (b : Nat) (d : Bool) (g f : Nat) : HProp := fun h => ∃ t : K25.Tz, (K25.TzOk t g f ∧ d = t.x.dn) ∧ K25.TzR b t h
theorem PrA_open (H : Holds w (PrA b d g :: L)) : ∃ z : P23.Pz, P23.PzOk z g ∧ z.out ≠ [] ∧ z.dn = false ∧ d = false ∧ Holds w (P23.PzR b z :: L) := by
 obtain ⟨z, H⟩ := Holds.ex H; obtain ⟨h, H⟩ := Holds.pure H; exact ⟨z, h.1, h.2.1, h.2.2.1, h.2.2.2, H⟩
theorem PrA_close {z : P23.Pz} (h1 : P23.PzOk z g) (h2 : z.out ≠ []) (h3 : z.dn = false) (H : Holds w (P23.PzR b z :: L)) : Holds w (PrA b false g :: L) := Holds.imp H fun _ hh => ⟨z, ⟨h1, h2, h3, rfl⟩, hh⟩
theorem ExA_open (H : Holds w (ExA b d g f :: L)) : ∃ x : K24.Xz, K24.XzOk x g f ∧ d = x.dn ∧ Holds w (K24.XzR b x :: L) := by
 obtain ⟨x, H⟩ := Holds.ex H; obtain ⟨h, H⟩ := Holds.pure H; exact ⟨x, h.1, h.2, H⟩
theorem ExA_close {x : K24.Xz} (h1 : K24.XzOk x g f) (h2 : d = x.dn) (H : Holds w (K24.XzR b x :: L)) : Holds w (ExA b d g f :: L) := Holds.imp H fun _ hh => ⟨x, ⟨h1, h2⟩, hh⟩
theorem TsA_open (H : Holds w (TsA b d g f :: L)) : ∃ t : K25.Tz, K25.TzOk t g f ∧ d = t.x.dn ∧ Holds w (K25.TzR b t :: L) := by
 obtain ⟨x, H⟩ := Holds.ex H; obtain ⟨h, H⟩ := Holds.pure H; exact ⟨x, h.1, h.2, H⟩
theorem TsA_close {t : K25.Tz} (h1 : K25.TzOk t g f) (h2 : d = t.x.dn) (H : Holds w (K25.TzR b t :: L)) : Holds w (TsA b d g f :: L) := Holds.imp H fun _ hh => ⟨t, ⟨h1, h2⟩, hh⟩
theorem TzOk.mono {t : K25.Tz} {g' f' : Nat} (h : K25.TzOk t g f) (hg : g ≤ g') (hf : f ≤ f') : K25.TzOk t g' f' := ⟨h.1.mono hg hf, Nat.le_trans h.2 (Nat.mul_le_mul_left _ hg)⟩
def MaA (k b : Nat) (d : Bool) (g f : Nat) : HProp := if k = 1 then PrA b d g else if k = 2 then ExA b d g f else TsA b d g f
def tM (k : Nat) : Nat := if k = 1 then tPp else if k = 2 then tXp else tTp
def Kd (k : Nat) : Prop := k = 1 ∨ k = 2 ∨ k = 3
def JobA (j : Nat) (d : Bool) (g f : Nat) : HProp := fun h => ∃ k bm, Kd k ∧ Sat [blk j tJob [nv k, .iface (tM k) (pt bm)], MaA k bm d g f] h
theorem JobA_open (H : Holds w (JobA j d g f :: L)) : ∃ k bm, Kd k ∧ Holds w (blk j tJob [nv k, .iface (tM k) (pt bm)] :: MaA k bm d g f :: L) := by
 obtain ⟨k, H⟩ := Holds.ex H; obtain ⟨bm, H⟩ := Holds.ex H; obtain ⟨hk, H⟩ := Holds.pure H; exact ⟨k, bm, hk, Holds.unpack (A := [_, _]) H⟩
theorem JobA_close {k bm : Nat} (hk : Kd k) (H : Holds w (blk j tJob [nv k, .iface (tM k) (pt bm)] :: MaA k bm d g f :: L)) : Holds w (JobA j d g f :: L) :=
 Holds.imp (Holds.pack (A := [_, _]) H) fun h hh => ⟨k, bm, hk, hh⟩
theorem JDone_spec (H : Holds w (JobA j d g f :: L)) (post : K (.bool d) w) : Cl Tryz.prog F.job_Job_Done #[pt j] w K := by
 refine Tie.job_Job_Done ?_; unfold Vcf.job_Job_Done; obtain ⟨k, bm, hk, H0⟩ := JobA_open H; refine r_bnST (r_vt (r_nc (r_fo0 (r_ld 0 H0 rfl rfl ?_)))); rcases hk with rfl | rfl | rfl
 · refine r_inv (f := F.press_Press_Done) (args := #[pt bm]) (by kernel_rfl) ?_; obtain ⟨z, h1, h2, h3, rfl, H1⟩ := PrA_open H0.swap; refine P23.Done_spec H1 ?_; rw [h3]; exact post
 · refine r_inv (f := F.unpress_Expander_Done) (args := #[pt bm]) (by kernel_rfl) ?_; obtain ⟨x, h1, rfl, H1⟩ := ExA_open H0.swap; exact K24.Done_spec H1 post
 · refine r_inv (f := F.tester_Tester_Done) (args := #[pt bm]) (by kernel_rfl) ?_; obtain ⟨t, h1, rfl, H1⟩ := TsA_open H0.swap; exact K25.Done_spec H1 post
theorem JFeed_spec {s : List UInt8} (H : Holds w (JobA j d g f :: L)) (hs : s.length ≤ 1000000) (hf : f ≤ 100000000) (post : ∀ n w', n ≤ s.length → Same w w' → Holds w' (JobA j d g (f + n) :: L) → K (nv n) w') : Cl Tryz.prog F.job_Job_Feed #[pt j, S_ s] w K := by
 refine Tie.job_Job_Feed ?_; unfold Vcf.job_Job_Feed; refine r_join1 (fun x w' => w = w' ∧ x = .bool d) ?_ ?_
 rotate_left
 · exact r_bnSF (r_vf (JDone_spec H (r_ke ⟨rfl, rfl⟩)))
 rintro _ _ _ ⟨rfl, rfl⟩
 cases d with
 | true => exact r_vt (post 0 w (Nat.zero_le _) (.refl _) H)
 | false =>
   obtain ⟨k, bm, hk, H0⟩ := JobA_open H; refine r_vf (r_nc (r_fo0 (r_ld 0 H0 rfl rfl ?_))); rcases hk with rfl | rfl | rfl
   · refine r_inv (f := F.press_Press_Feed) (args := #[pt bm, S_ s]) (by kernel_rfl) ?_; obtain ⟨z, h1, h2, h3, _, H1⟩ := PrA_open H0.swap; refine P23.Feed_spec H1 h1 (by omega) fun n z' w2 hn hz hk S2 H2 => ?_; exact post n w2 hn S2 (JobA_close (k := 1) (.inl rfl) (PrA_close hz (by rw [hk.1]; exact h2) (hk.2.1.trans h3) H2).swap)
   · refine r_inv (f := F.unpress_Expander_Feed) (args := #[pt bm, S_ s]) (by kernel_rfl) ?_; obtain ⟨x, h1, hd, H1⟩ := ExA_open H0.swap; refine K24.Feed_spec H1 h1 hs hf fun n x' w2 hn hx e _ S2 H2 => ?_; exact post n w2 hn S2 (JobA_close (k := 2) (.inr (.inl rfl)) (ExA_close hx (hd.trans e.symm) H2).swap)
   · refine r_inv (f := F.tester_Tester_Feed) (args := #[pt bm, S_ s]) (by kernel_rfl) ?_; obtain ⟨t, h1, hd, H1⟩ := TsA_open H0.swap; refine K25.Feed_spec H1 h1 hs hf fun n t' w2 hn hx e S2 H2 => ?_; exact post n w2 hn S2 (JobA_close (k := 3) (.inr (.inr rfl)) (TsA_close hx (hd.trans e.symm) H2).swap)
theorem JEnd_spec (H : Holds w (JobA j d g f :: L)) (post : ∀ v w', Same w w' → Holds w' (JobA j d g f :: L) → K v w') : Cl Tryz.prog F.job_Job_End #[pt j] w K := by
 refine Tie.job_Job_End ?_; unfold Vcf.job_Job_End; obtain ⟨k, bm, hk, H0⟩ := JobA_open H; refine r_bnSF (r_vf (r_nc (r_fo0 (r_ld 0 H0 rfl rfl ?_)))); rcases hk with rfl | rfl | rfl
 · refine r_inv (f := F.press_Press_End) (args := #[pt bm]) (by kernel_rfl) ?_; obtain ⟨z, h1, h2, h3, rfl, H1⟩ := PrA_open H0.swap; refine P23.End_spec H1 h1 fun v z' w2 hz hk S2 H2 => ?_; exact post v w2 S2 (JobA_close (k := 1) (.inl rfl) (PrA_close hz (by rw [hk.1]; exact h2) (hk.2.1.trans h3) H2).swap)
 · refine r_inv (f := F.unpress_Expander_End) (args := #[pt bm]) (by kernel_rfl) ?_; obtain ⟨x, h1, hd, H1⟩ := ExA_open H0.swap; refine K24.End_spec H1 h1 fun v x' w2 hx e _ S2 H2 => ?_; exact post v w2 S2 (JobA_close (k := 2) (.inr (.inl rfl)) (ExA_close hx (hd.trans e.symm) H2).swap)
 · refine r_inv (f := F.tester_Tester_End) (args := #[pt bm]) (by kernel_rfl) ?_; obtain ⟨t, h1, hd, H1⟩ := TsA_open H0.swap; refine K25.End_spec H1 h1 fun v t' w2 hx e S2 H2 => ?_; exact post v w2 S2 (JobA_close (k := 3) (.inr (.inr rfl)) (TsA_close hx (hd.trans e.symm) H2).swap)
theorem JStep_spec {q : Nat} (H : Holds w (JobA j d g f :: L)) (hq : q ≤ 1000000) (hg : g ≤ 100000000) (hf : f ≤ 100000000) (post : ∀ v d' w', Same w w' → Holds w' (JobA j d' (g + q) f :: L) → K v w') : Cl Tryz.prog F.job_Job_Step #[pt j, nv q] w K := by
 refine Tie.job_Job_Step ?_; unfold Vcf.job_Job_Step; obtain ⟨k, bm, hk, H0⟩ := JobA_open H; refine r_bnSF (r_vf (r_nc (r_fo0 (r_ld 0 H0 rfl rfl ?_)))); rcases hk with rfl | rfl | rfl
 · refine r_inv (f := F.press_Press_Step) (args := #[pt bm, nv q]) (by kernel_rfl) ?_; obtain ⟨z, h1, h2, h3, rfl, H1⟩ := PrA_open H0.swap; refine P23.Step_spec H1 h1 h2 h3 hq (by omega) fun z' m w2 hm hz ho hd S2 H2 => ?_; exact post _ _ w2 S2 (JobA_close (k := 1) (.inl rfl) (PrA_close (hz.mono (by omega)) (by rw [ho]; exact h2) hd H2).swap)
 · refine r_inv (f := F.unpress_Expander_Step) (args := #[pt bm, nv q]) (by kernel_rfl) ?_; obtain ⟨x, h1, hd, H1⟩ := ExA_open H0.swap; refine K24.Step_spec H1 h1 hf hq (by omega) fun x' m w2 hm hx _ _ S2 H2 => ?_; exact post _ _ w2 S2 (JobA_close (k := 2) (.inr (.inl rfl)) (ExA_close (hx.mono (by omega) (Nat.le_refl f)) rfl H2).swap)
 · refine r_inv (f := F.tester_Tester_Step) (args := #[pt bm, nv q]) (by kernel_rfl) ?_; obtain ⟨t, h1, hd, H1⟩ := TsA_open H0.swap; refine K25.Step_spec H1 h1 hf hq hg fun t' m w2 hm hx S2 H2 => ?_; exact post _ _ w2 S2 (JobA_close (k := 3) (.inr (.inr rfl)) (TsA_close (TzOk.mono hx (by omega) (Nat.le_refl f)) rfl H2).swap)
theorem head_ne {lv : Nat} : wholeB (U38.headB lv) ≠ [] := fun e => by
 have h := congrArg List.length e; rw [wholeB_len, U38.headB_len] at h; cases h
theorem PNew_spec {lv unit win : Nat} (H : Holds w L) (h1 : 1 ≤ lv) (h2 : lv ≤ 9) (h3 : 24 ≤ unit) (h4 : unit ≤ 200) (h5 : 64 ≤ win) (h6 : win ≤ 1048576)
   (post : ∀ b w', Same w w' → Holds w' (PrA b false 0 :: L) → K (.tuple #[pt b, iv 0]) w') : Cl Tryz.prog F.press_New #[nv lv, nv unit, nv win] w K := by
 refine U38.pressNew_spec H h1 h2 h3 (by omega) h5 h6 fun b w1 S1 H1 => ?_; obtain ⟨bs, bt, bw, H2⟩ := U38.PrR0_open H1; obtain ⟨b1, b2, H3⟩ := U38.SplR0_open (Holds.front H2 1 rfl); have hm1 : 1 * 24 ≤ lv * unit := Nat.mul_le_mul h1 h3; have hm2 : lv * unit ≤ 9 * 200 := Nat.mul_le_mul h2 h4
 have H4 : Holds w1 (R3b.SumR b1 (crcF 4294967295 []) :: blk bs tSp (spC (.slice none 0 0) b1 0 (lv * unit - 19) b2) :: blk b2 tPk (Fpc (0, 0)) :: (blk b P23.tPr (P23.cellsPz ⟨win, [], false, lv * unit - 19, false, [], none, 0, 0, U38.headB lv, 4, wholeB (U38.headB lv), false, 0, 0⟩ bs (.slice none 0 0) (.pointer none) bt) :: blk bt P23.tSt (P23.stC bw 0 false) :: W01.WrR bw (U38.headB lv) 4 :: L)) :=
   R3b.SumR_close (by decide) (by have h_ := Holds.ord 6 [1, 0, 2, 3, 4, 5] H3 rfl; exact h_)
 have H5 : Holds w1 (SpL bs (.slice none 0 0) b1 b2 (lv * unit - 19) [] [] (0, 0) (blk b P23.tPr (P23.cellsPz ⟨win, [], false, lv * unit - 19, false, [], none, 0, 0, U38.headB lv, 4, wholeB (U38.headB lv), false, 0, 0⟩ bs (.slice none 0 0) (.pointer none) bt) :: blk bt P23.tSt (P23.stC bw 0 false) :: W01.WrR bw (U38.headB lv) 4 :: L)) := by
   have h_ := Holds.ord 4 [2, 0, 1, 3] (H4.nilSL bv tB) rfl; exact h_
 have H6 := SpR_close (x := (0, 0)) ⟨Nat.zero_le _, Nat.zero_le _, by decide⟩ H5; have H7 := H6.nilRO Fsb 3 tSb
 have hz : P23.PzOk ⟨win, [], false, lv * unit - 19, false, [], none, 0, 0, U38.headB lv, 4, wholeB (U38.headB lv), false, 0, 0⟩ 0 := by
   refine ⟨h6, Nat.zero_le _, ⟨by show 5 ≤ lv * unit - 19; omega, by show lv * unit - 19 ≤ 3000; omega⟩, (fun x hx => by cases hx), ⟨Nat.zero_le _, fun _ => Nat.zero_le _⟩, (fun h => absurd rfl h), (fun x r h => by cases h), fun _ => rfl, by show 0 < 4294967296; decide, ?_, ?_, Nat.zero_le _, Nat.zero_le _, fun h => by cases h⟩
   · show (U38.headB lv).length ≤ 1000 + 260000 * 0; rw [U38.headB_len]; decide
   · show 4 ≤ (U38.headB lv).length / 8; rw [U38.headB_len]; decide
 refine post b w1 S1 (PrA_close hz head_ne rfl (P23.Pz_closeN (sp := bs) (bv := .slice none 0 0) (wt := bt) (wb := bw) rfl ?_)); have h_ := Holds.ord 5 [2, 1, 0, 3, 4] H7 rfl; exact h_
theorem XNew_spec {unit win : Nat} (H : Holds w L) (h3 : 24 ≤ unit) (h4 : unit ≤ 100000) (h5 : 64 ≤ win) (h6 : win ≤ 1048576)
   (post : ∀ b x w', K24.XzOk x 0 0 → x.dn = false → x.out = [] → Same w w' → Holds w' (K24.XzR b x :: L) → K (.tuple #[pt b, iv 0]) w') : Cl Tryz.prog F.unpress_New #[nv unit, nv win, iv 4096] w K := by
 refine Tie.unpress_New ?_; unfold Vcf.unpress_New; refine U22.New_spec H h3 h4 fun ub w1 S1 H1 => ?_; refine r_ex20 (r_ex21 ?_); refine r_join1 (fun x w' => w1 = w' ∧ x = .bool false) ?_ ?_
 rotate_left
 · repeat (first | refine r_nc ?_ | refine r_fo0 ?_ | refine r_fo ?_ | refine r_ke ?_ | refine r_lns ?_ | refine r_lnl ?_ | refine r_eql ?_ | refine r_neq ?_ | refine r_lss ?_ | refine r_leq ?_ | refine r_gtr ?_ | refine r_geq ?_ | refine r_seq0 ?_ | refine r_sne0 ?_ | refine r_seq ?_ | refine r_sne ?_ | (with_reducible refine r_notT ?_) | (with_reducible refine r_notF ?_) | refine r_not ?_ | (with_reducible refine r_bnST ?_) | (with_reducible refine r_bnSF ?_) | (with_reducible refine r_bnNT ?_) | (with_reducible refine r_bnNF ?_) | (with_reducible refine r_ex20 ?_) | (with_reducible refine r_ex21 ?_) | (with_reducible refine r_ex30 ?_) | (with_reducible refine r_ex31 ?_) | (with_reducible refine r_ex32 ?_) | (with_reducible refine r_vt ?_) | (with_reducible refine r_vf ?_) | refine r_bb ?_ | (with_reducible refine r_pkT ?_) | (with_reducible refine r_pkF ?_) | (with_reducible refine r_pkB ?_) | refine r_ex rfl ?_ | (refine r_ci64 (by omega) (by omega) ?_) | (refine r_ciu8 (by omega) (by omega) ?_) | (refine r_ciu32 (by omega) (by omega) ?_) | refine r_ci ?_ | (refine r_add1N (by omega) ?_) | (refine r_sub1N (by omega) (by omega) ?_) | (refine r_addN (by omega) ?_) | (refine r_add (by omega) (by omega) ?_) | (refine r_ixsN (by omega) ?_) | (refine r_iaaN (by omega) ?_) | (refine r_sub (by omega) (by omega) ?_) | (refine r_mul (by omega) (by omega) ?_) | (refine r_dr H ?_; clear H; intro _ S_ H; replace S := S.trans S_; clear S_) | refine r_ld 0 H rfl rfl ?_ | refine r_ld 1 H rfl rfl ?_ | refine r_ld 2 H rfl rfl ?_ | refine r_ld 3 H rfl rfl ?_ | refine r_ld 4 H rfl rfl ?_ | ((with_reducible refine r_vtD ?h ?_); (case h => omega)) | ((with_reducible refine r_vfD ?h ?_); (case h => omega)) | ((with_reducible refine r_vtE ?h ?_); (case h => omega)) | ((with_reducible refine r_vfE ?h ?_); (case h => omega)) | ((with_reducible refine r_vtN ?h ?_); (case h => omega)) | ((with_reducible refine r_vfN ?h ?_); (case h => omega)))
   refine Tie.unpress_may ?_; unfold Vcf.unpress_may
   repeat (first | refine r_nc ?_ | refine r_fo0 ?_ | refine r_fo ?_ | refine r_ke ?_ | refine r_lns ?_ | refine r_lnl ?_ | refine r_eql ?_ | refine r_neq ?_ | refine r_lss ?_ | refine r_leq ?_ | refine r_gtr ?_ | refine r_geq ?_ | refine r_seq0 ?_ | refine r_sne0 ?_ | refine r_seq ?_ | refine r_sne ?_ | (with_reducible refine r_notT ?_) | (with_reducible refine r_notF ?_) | refine r_not ?_ | (with_reducible refine r_bnST ?_) | (with_reducible refine r_bnSF ?_) | (with_reducible refine r_bnNT ?_) | (with_reducible refine r_bnNF ?_) | (with_reducible refine r_ex20 ?_) | (with_reducible refine r_ex21 ?_) | (with_reducible refine r_ex30 ?_) | (with_reducible refine r_ex31 ?_) | (with_reducible refine r_ex32 ?_) | (with_reducible refine r_vt ?_) | (with_reducible refine r_vf ?_) | refine r_bb ?_ | (with_reducible refine r_pkT ?_) | (with_reducible refine r_pkF ?_) | (with_reducible refine r_pkB ?_) | refine r_ex rfl ?_ | (refine r_ci64 (by omega) (by omega) ?_) | (refine r_ciu8 (by omega) (by omega) ?_) | (refine r_ciu32 (by omega) (by omega) ?_) | refine r_ci ?_ | (refine r_add1N (by omega) ?_) | (refine r_sub1N (by omega) (by omega) ?_) | (refine r_addN (by omega) ?_) | (refine r_add (by omega) (by omega) ?_) | (refine r_ixsN (by omega) ?_) | (refine r_iaaN (by omega) ?_) | (refine r_sub (by omega) (by omega) ?_) | (refine r_mul (by omega) (by omega) ?_) | (refine r_dr H ?_; clear H; intro _ S_ H; replace S := S.trans S_; clear S_) | refine r_ld 0 H rfl rfl ?_ | refine r_ld 1 H rfl rfl ?_ | refine r_ld 2 H rfl rfl ?_ | refine r_ld 3 H rfl rfl ?_ | refine r_ld 4 H rfl rfl ?_ | ((with_reducible refine r_vtD ?h ?_); (case h => omega)) | ((with_reducible refine r_vfD ?h ?_); (case h => omega)) | ((with_reducible refine r_vtE ?h ?_); (case h => omega)) | ((with_reducible refine r_vfE ?h ?_); (case h => omega)) | ((with_reducible refine r_vtN ?h ?_); (case h => omega)) | ((with_reducible refine r_vfN ?h ?_); (case h => omega)))
   exact ⟨rfl, rfl⟩
 rintro _ _ _ ⟨rfl, rfl⟩; refine r_vf ?_; refine Rb.NewReader_spec (B := []) H1 (Nat.zero_le _) fun rb w2 S2 H2 => ?_; refine r_bd (v := .agg (K24.cellsX ⟨win, false, [], 0, 0, Go.Q24.u0 unit, none, false, [], false, 0, 0⟩ rb ub (.pointer none) (.slice none 0 0)).toArray) (by kernel_rfl) ?_; refine r_new H2 fun b w3 S3 H3 => ?_; have H4 := H3.nilOB tB; refine post b ⟨win, false, [], 0, 0, Go.Q24.u0 unit, none, false, [], false, 0, 0⟩ w3 ⟨h6, Nat.zero_le _, Nat.zero_le _, Nat.zero_le _, (fun h => by cases h), (fun o h => by cases h), Nat.zero_le _⟩ rfl rfl (S1.trans (S2.trans S3)) (K24.Xz_closeN (rb := rb) (ub := ub) (ov := .slice none 0 0) rfl rfl ?_); exact H4.swap
theorem TNew_spec {unit win : Nat} (H : Holds w L) (h3 : 24 ≤ unit) (h4 : unit ≤ 100000) (h5 : 64 ≤ win) (h6 : win ≤ 1048576)
   (post : ∀ b w', Same w w' → Holds w' (TsA b false 0 0 :: L) → K (.tuple #[pt b, iv 0]) w') : Cl Tryz.prog F.tester_New #[nv unit, nv win] w K := by
 refine Tie.tester_New ?_; unfold Vcf.tester_New; refine XNew_spec H h3 h4 h5 h6 fun bx x w1 hx hd ho S1 H1 => ?_; refine r_ex20 (r_ex21 (r_neq (r_vfN rfl ?_))); refine r_bd (v := .agg #[pt bx, iv 0]) (by kernel_rfl) ?_; refine r_bd (v := .agg #[pt bx, iv 0, S_ [], .bool false]) (by kernel_rfl) ?_; refine r_new H1 fun b w3 S3 H3 => ?_; refine post b _ (S1.trans S3) (TsA_close (t := ⟨0, [], false, x⟩) ⟨hx, ?_⟩ hd.symm (K25.TzR_close (bx := bx) H3)); show 0 + x.out.length ≤ 251 * 0; rw [ho]; decide
theorem JNew_spec {k lv unit win : Nat} (H : Holds w L) (hk : k = 1 ∧ 1 ≤ lv ∧ lv ≤ 9 ∨ k = 2 ∨ k = 3) (h3 : 24 ≤ unit) (h4 : unit ≤ 200) (h5 : 64 ≤ win) (h6 : win ≤ 1048576) {lvv : Value} (hl : k = 1 → lvv = nv lv)
   (post : ∀ j w', Same w w' → Holds w' (JobA j false 0 0 :: L) → K (.tuple #[pt j, iv 0]) w') : Cl Tryz.prog F.job_New #[nv k, lvv, nv unit, nv win] w K := by
 refine Tie.job_New ?_; unfold Vcf.job_New
 have fin : ∀ bm w', Kd k → Same w w' → Holds w' (MaA k bm false 0 0 :: L) → Bd Tryz.prog tJob #[(0, nv k), (1, .iface (tM k) (pt bm))] w' fun x_5 => New x_5 tJob w' fun x_6 w2 => K (.tuple #[x_6, iv 0]) w2 := by
   intro bm w' hk S' H'; refine r_bd (v := .agg #[nv k, .iface (tM k) (pt bm)]) (by kernel_rfl) ?_; refine r_new H' fun b w2 S2 H2 => ?_; exact post b _ (S'.trans S2) (JobA_close hk H2)
 refine Tie.job_machineOf ?_; unfold Vcf.job_machineOf; rcases hk with ⟨rfl, h1, h2⟩ | rfl | rfl
 · obtain rfl := hl rfl; refine r_eql (r_vtE rfl ?_); refine PNew_spec H h1 h2 h3 h4 h5 h6 fun bm w1 S1 H1 => ?_; refine r_ex20 (r_ex21 (r_ex20 (r_ex21 (r_neq (r_vfN rfl ?_))))); exact fin bm w1 (.inl rfl) S1 H1
 · refine r_eql (r_vfE (by decide) (r_eql (r_vtE rfl ?_))); refine XNew_spec H h3 (by omega) h5 h6 fun bm x w1 hx hd ho S1 H1 => ?_; refine r_ex20 (r_ex21 (r_ex20 (r_ex21 (r_neq (r_vfN rfl ?_))))); exact fin bm w1 (.inr (.inl rfl)) S1 (ExA_close hx hd.symm H1)
 · refine r_eql (r_vfE (by decide) (r_eql (r_vfE (by decide) (r_eql (r_vtE rfl ?_))))); refine TNew_spec H h3 (by omega) h5 h6 fun bm w1 S1 H1 => ?_; refine r_ex20 (r_ex21 (r_ex20 (r_ex21 (r_neq (r_vfN rfl ?_))))); exact fin bm w1 (.inr (.inr rfl)) S1 H1
def flC (j : Nat) (R : List UInt8) (en : Bool) (tk : Nat) : List Value := [pt j, S_ R, .bool en, nv tk]
theorem FNew_spec (H : Holds w L) (k : ∀ b w', Same w w' → Holds w' (blk b tFlow (flC j [] false 0) :: L) → K (.tuple #[pt b, iv 0]) w') : Cl Tryz.prog F.upload_New #[pt j] w K := by
 refine Tie.upload_New ?_; unfold Vcf.upload_New; refine r_bnSF (r_vf ?_); refine r_bd (v := .agg (flC j [] false 0).toArray) (by kernel_rfl) ?_; refine r_new H fun b w2 S2 H2 => ?_; exact k b w2 S2 H2
theorem FNewNil_spec (k : K (.tuple #[.pointer none, iv 7]) w) : Cl Tryz.prog F.upload_New #[.pointer none] w K := by
 refine Tie.upload_New ?_; unfold Vcf.upload_New; exact r_bnNT (r_vt k)
variable {R : List UInt8} {en : Bool} {tk : Nat}
theorem FRest_spec (H : Holds w (blk b tFlow (flC j R en tk) :: L)) (k : K (nv R.length) w) : Cl Tryz.prog F.upload_Flow_Rest #[pt b] w K := by
 refine Tie.upload_Flow_Rest ?_; unfold Vcf.upload_Flow_Rest; exact r_bnSF (r_vf (r_nc (r_fo0 (r_ld 0 H rfl rfl (q_len k)))))
theorem FEnded_spec (H : Holds w (blk b tFlow (flC j R en tk) :: L)) (k : K (.bool en) w) : Cl Tryz.prog F.upload_Flow_Ended #[pt b] w K := by
 refine Tie.upload_Flow_Ended ?_; unfold Vcf.upload_Flow_Ended; exact r_bnST (r_vt (r_nc (r_fo0 (r_ld 0 H rfl rfl k))))
theorem FTaken_spec (H : Holds w (blk b tFlow (flC j R en tk) :: L)) (k : K (nv tk) w) : Cl Tryz.prog F.upload_Flow_Taken #[pt b] w K := by
 refine Tie.upload_Flow_Taken ?_; unfold Vcf.upload_Flow_Taken; exact r_bnSF (r_vf (r_nc (r_fo0 (r_ld 0 H rfl rfl k))))
def Mvd (b j : Nat) (d : Bool) (g f : Nat) (R : List UInt8) (en : Bool) (tk : Nat) (L : List HProp) (v : Value) (w : World) : Prop :=
 ∃ n f', n ≤ R.length ∧ (d = true → n = R.length) ∧ f' ≤ f + n ∧ v = nv n ∧ Holds w (blk b tFlow (flC j (R.drop n) en (if d = true then tk else tk + n)) :: JobA j d g f' :: L)
theorem FMove_spec (H : Holds w (blk b tFlow (flC j R en tk) :: JobA j d g f :: L)) (hR : R.length ≤ 1000000) (hf : f ≤ 100000000) (ht : tk ≤ 100000000) (k : ∀ v w', Same w w' → Mvd b j d g f R en tk L v w' → K v w') : Cl Tryz.prog F.upload_Flow_Move #[pt b] w K := by
 refine Tie.upload_Flow_Move ?_; unfold Vcf.upload_Flow_Move; refine r_bnSF (r_vf (r_nc (r_fo0 (r_ld 0 H rfl rfl (q_len (r_nc (r_fo0 (r_ld 0 H rfl rfl ?_)))))))); refine JDone_spec H.swap ?_
 cases d with
 | true =>
   refine r_vt (r_nc (r_fo0 (r_st 0 H rfl (by simp [flC]) rfl fun w2 S2 H2 => ?_))); refine k _ w2 S2 ⟨R.length, f, Nat.le_refl _, fun _ => rfl, Nat.le_add_right _ _, rfl, ?_⟩; rw [List.drop_length]; exact H2
 | false =>
   refine r_vf (r_dr H fun w2 S2 H2 => ?_); refine r_nc (r_fo0 (r_ld 0 H2 rfl rfl (r_nc (r_fo0 (r_ld 0 H2 rfl rfl ?_))))); refine JFeed_spec H2.swap hR hf fun n w3 hn S3 H3 => ?_; have H4 := H3.swap; refine r_nc (r_fo0 (r_ld 0 H4 rfl rfl (q_D hn ?_))); refine r_nc (r_fo0 (r_st 0 H4 rfl (by simp [flC]) rfl fun w5 S5 H5 => ?_)); refine r_nc (r_fo0 (r_ld 0 H5 rfl rfl (r_addN (by omega) ?_))); refine r_nc (r_fo0 (r_st 0 H5 rfl (by simp [flC]) rfl fun w6 S6 H6 => ?_)); replace H6 : Holds w6 (blk b tFlow (flC j (R.drop n) en (tk + n)) :: JobA j false g (f + n) :: L) := H6; have S := S2.trans (S3.trans (S5.trans S6)); refine r_join1 (fun x w' => w6 = w' ∧ ∃ c : Bool, x = .bool c) ?_ ?_
   rotate_left
   · refine r_nc (r_fo0 (r_ld 0 H6 rfl rfl ?_))
     cases en with
     | false => exact r_vf (r_ke ⟨rfl, _, rfl⟩)
     | true => exact r_vt (r_nc (r_fo0 (r_ld 0 H6 rfl rfl (r_seqL (r_ke ⟨rfl, _, rfl⟩)))))
   rintro _ _ _ ⟨rfl, c, rfl⟩
   cases c with
   | false => exact r_vf (k _ w6 S ⟨n, f + n, hn, (fun e => by cases e), Nat.le_refl _, rfl, H6⟩)
   | true =>
     refine r_vt (r_nc (r_fo0 (r_ld 0 H6 rfl rfl ?_))); refine JEnd_spec H6.swap fun v w7 S7 H7 => ?_; exact k _ w7 (S.trans S7) ⟨n, f + n, hn, (fun e => by cases e), Nat.le_refl _, rfl, H7.swap⟩
theorem FPut_spec {s : List UInt8} (H : Holds w (blk b tFlow (flC j R en tk) :: JobA j d g f :: L)) (hs : s.length ≤ 65536) (hf : f ≤ 100000000) (ht : tk ≤ 100000000)
   (k1 : en = true → K (iv 32) w) (k2 : en = false → R ≠ [] → K (iv 34) w)
   (k3 : ∀ v w', en = false → R = [] → Same w w' → Mvd b j d g f s en tk L v w' → K (iv 0) w') : Cl Tryz.prog F.upload_Flow_Put #[pt b, S_ s] w K := by
 refine Tie.upload_Flow_Put ?_; unfold Vcf.upload_Flow_Put; refine r_bnSF (r_vf (r_nc (r_fo0 (r_ld 0 H rfl rfl ?_))))
 cases en with
 | true => exact r_vt (k1 rfl)
 | false =>
   refine r_vf (r_nc (r_fo0 (r_ld 0 H rfl rfl (P23.q_sne (r_ifD (fun h => k2 rfl h) fun h => ?_))))); have hR : R = [] := Classical.not_not.1 h; refine q_len (r_gtr (r_vfD (by omega) ?_)); refine r_nc (r_fo0 (r_st 0 H rfl (by simp [flC]) rfl fun w2 S2 H2 => ?_)); replace H2 : Holds w2 (blk b tFlow (flC j s false tk) :: JobA j d g f :: L) := H2; refine FMove_spec H2 (by omega) hf ht fun v w3 S3 hm => ?_; exact k3 v w3 rfl hR (S2.trans S3) hm
theorem FEnd_spec (H : Holds w (blk b tFlow (flC j R en tk) :: JobA j d g f :: L)) (hR : R.length ≤ 1000000) (hf : f ≤ 100000000) (ht : tk ≤ 100000000)
   (k1 : en = true → K (iv 32) w) (k3 : ∀ v w', en = false → Same w w' → Mvd b j d g f R true tk L v w' → K (iv 0) w') : Cl Tryz.prog F.upload_Flow_End #[pt b] w K := by
 refine Tie.upload_Flow_End ?_; unfold Vcf.upload_Flow_End; refine r_bnSF (r_vf (r_nc (r_fo0 (r_ld 0 H rfl rfl ?_))))
 cases en with
 | true => exact r_vt (k1 rfl)
 | false =>
   refine r_vf (r_nc (r_fo0 (r_st 0 H rfl (by simp [flC]) rfl fun w2 S2 H2 => ?_))); replace H2 : Holds w2 (blk b tFlow (flC j R true tk) :: JobA j d g f :: L) := H2; refine FMove_spec H2 hR hf ht fun v w3 S3 hm => ?_; exact k3 v w3 rfl (S2.trans S3) hm
end K26
end Go.Proofs.YtpbbfonfakjecaaGreat
set_option maxRecDepth 1000000
namespace Go.Proofs.YtpbbfonfakjecaaGreat
open Go Go.Vc
attribute [local irreducible] Vc.Nc Vc.Ld Vc.LdA Vc.St Vc.StA Vc.Fo Vc.Iaa Vc.Ias Vc.Ixs Vc.Ixa Vc.Fd Vc.FdA Vc.Bp Vc.Bb Vc.Bn Vc.Up Vc.Ci Vc.Lns Vc.Lnl Vc.Ex Vc.Sst Vc.Ssl Vc.New Vc.Vif Vc.VJoin Vc.VLoop Vc.KE Vc.Dr Vc.Rk Vc.Cl Vc.Cx Vc.Inv Vc.Be Vc.Cv Vc.Cw Vc.Mf Vc.Sl Vc.Lk Vc.Bd Vc.Bs Vc.Ms Vc.Mm Vc.Mu Vc.Me Vc.Es Vc.Rg Vc.Nx Vc.Ta Vc.Ap Vc.Usd Vc.Ust Vc.Cp Vc.Ln Vc.Bc Vc.Bmin Vc.Bmax Vc.Bdel Vc.Bclr Vc.Pk
namespace K38
open P20 K26
variable {w : World} {L : List HProp} {K : Value → World → Prop} {b j : Nat} {d : Bool} {g f : Nat}
theorem Level_spec {n : Int} (k : K (.bool (decide (1 ≤ n ∧ n ≤ 9))) w) : Cl Tryz.prog F.balerref21_Level #[iv n] w K := by
 refine Tie.balerref21_Level ?_; unfold Vcf.balerref21_Level; refine r_geq (r_ifD (fun h => r_leq ?_) fun h => ?_)
 · rw [show decide (n ≤ 9) = decide (1 ≤ n ∧ n ≤ 9) from decide_eq_decide.2 ⟨fun e => ⟨h, e⟩, fun e => e.2⟩]; exact k
 · rw [decide_eq_false (fun e => h e.1)] at k; exact k
theorem Unit_spec {n : Int} (k : K (.bool (decide (24 ≤ n ∧ n ≤ 100000))) w) : Cl Tryz.prog F.balerref21_Unit #[iv n] w K := by
 refine Tie.balerref21_Unit ?_; unfold Vcf.balerref21_Unit; refine r_geq (r_ifD (fun h => r_leq ?_) fun h => ?_)
 · rw [show decide (n ≤ 100000) = decide (24 ≤ n ∧ n ≤ 100000) from decide_eq_decide.2 ⟨fun e => ⟨h, e⟩, fun e => e.2⟩]; exact k
 · rw [decide_eq_false (fun e => h e.1)] at k; exact k
theorem May24_spec {u n : Int} (k : K (.bool (decide ((24 ≤ u ∧ u ≤ 100000) ∧ 64 ≤ n ∧ n ≤ 1048576))) w) : Cl Tryz.prog F.balerref24_May #[iv u, iv n, iv 4096] w K := by
 refine Tie.balerref24_May ?_; unfold Vcf.balerref24_May; refine Unit_spec (r_ifD (fun h1 => r_geq (r_ifD (fun h2 => r_leq (r_ifD (fun h3 => ?_) fun h3 => ?_)) fun h2 => ?_)) fun h1 => ?_)
 · rw [decide_eq_true ⟨h1, h2, h3⟩] at k; exact r_geq (r_vtD (by decide) (r_leq k))
 · rw [decide_eq_false (fun e => h3 e.2.2)] at k; exact k
 · rw [decide_eq_false (fun e => h2 e.2.1)] at k; exact k
 · rw [decide_eq_false (fun e => h1 e.1)] at k; exact k
theorem May23_spec {l u n : Int} (k : K (.bool (decide ((1 ≤ l ∧ l ≤ 9) ∧ (24 ≤ u ∧ u ≤ 100000) ∧ 64 ≤ n ∧ n ≤ 1048576))) w) : Cl Tryz.prog F.balerref23_May #[iv l, iv u, iv n] w K := by
 refine Tie.balerref23_May ?_; unfold Vcf.balerref23_May; refine Level_spec (r_ifD (fun h0 => ?_) fun h0 => ?_)
 · refine Unit_spec (r_ifD (fun h1 => r_geq (r_ifD (fun h2 => r_leq ?_) fun h2 => ?_)) fun h1 => ?_)
   · rw [show decide (n ≤ 1048576) = decide ((1 ≤ l ∧ l ≤ 9) ∧ (24 ≤ u ∧ u ≤ 100000) ∧ 64 ≤ n ∧ n ≤ 1048576) from decide_eq_decide.2 ⟨fun e => ⟨h0, h1, h2, e⟩, fun e => e.2.2.2⟩]; exact k
   · rw [decide_eq_false (fun e => h2 e.2.2.1)] at k; exact k
   · rw [decide_eq_false (fun e => h1 e.2.1)] at k; exact k
 · rw [decide_eq_false (fun e => h0 e.1)] at k; exact k
def MayP (k l u n : Int) : Prop := (k = 1 ∧ 1 ≤ l ∧ l ≤ 9 ∨ k = 2 ∨ k = 3) ∧ (24 ≤ u ∧ u ≤ 100000) ∧ 64 ≤ n ∧ n ≤ 1048576
theorem May_spec {k l u n : Int} (post : ∀ c : Bool, (c = true → MayP k l u n) → K (.bool c) w) : Cl Tryz.prog F.balerref26_May #[iv k, iv l, iv u, iv n] w K := by
 refine Tie.balerref26_May ?_; unfold Vcf.balerref26_May; refine r_eql (r_ifE (fun h1 => ?_) fun h1 => r_eql (r_ifE (fun h2 => ?_) fun h2 => r_eql (r_ifE (fun h3 => ?_) fun h3 => ?_)))
 · refine May23_spec (post _ fun e => ?_); have := of_decide_eq_true e; exact ⟨.inl ⟨h1, this.1⟩, this.2⟩
 · refine May24_spec (post _ fun e => ?_); exact ⟨.inr (.inl h2), of_decide_eq_true e⟩
 · refine May24_spec (post _ fun e => ?_); exact ⟨.inr (.inr h3), of_decide_eq_true e⟩
 · exact post false fun e => by cases e
theorem make_spec {k l u n : Int} (H : Holds w L) (kN : ∀ w', Same w w' → Holds w' L → K (.pointer none) w') (kJ : ∀ j w', Same w w' → Holds w' (JobA j false 0 0 :: L) → K (pt j) w') :
   Cl Tryz.prog F.balerlaw38_Setup_make #[.agg #[iv k, iv l, iv u, iv n]] w K := by
 refine Tie.balerlaw38_Setup_make ?_; unfold Vcf.balerlaw38_Setup_make; refine r_new H fun s w1 S1 H1 => ?_; replace H1 : Holds w1 (blk s 24 [iv k, iv l, iv u, iv n] :: L) := H1; refine r_join1 (fun x w' => w1 = w' ∧ ∃ c : Bool, x = .bool c ∧ (c = false → MayP k l u n ∧ u ≤ 200)) ?_ ?_
 rotate_left
 · refine r_fo0 (r_ld 0 H1 rfl rfl (r_fo0 (r_ld 0 H1 rfl rfl (r_fo0 (r_ld 0 H1 rfl rfl (r_fo0 (r_ld 0 H1 rfl rfl ?_))))))); refine May_spec fun c hc => ?_
   cases c with
   | false => exact r_notF (r_vt (r_ke ⟨rfl, true, rfl, fun e => by cases e⟩))
   | true =>
     refine r_notT (r_vf (r_fo0 (r_ld 0 H1 rfl rfl (r_gtr (r_ke ⟨rfl, _, rfl, fun e => ⟨hc rfl, ?_⟩⟩))))); have := of_decide_eq_false e; omega
 rintro _ _ _ ⟨rfl, c, rfl, hc⟩
 cases c with
 | true => exact r_vt (kN w1 S1 H1.drop)
 | false =>
   obtain ⟨⟨hk, ⟨h3, _⟩, h5, h6⟩, h4⟩ := hc rfl; refine r_vf (r_fo0 (r_ld 0 H1 rfl rfl (r_fo0 (r_ld 0 H1 rfl rfl (r_fo0 (r_ld 0 H1 rfl rfl (r_fo0 (r_ld 0 H1 rfl rfl ?_))))))))
   have e1 : iv k = nv k.toNat := by
     show Value.int .i64 k = .int .i64 ((k.toNat : Nat) : Int)
     congr 1
     omega
   have e3 : iv u = nv u.toNat := by
     show Value.int .i64 u = .int .i64 ((u.toNat : Nat) : Int)
     congr 1
     omega
   have e4 : iv n = nv n.toNat := by
     show Value.int .i64 n = .int .i64 ((n.toNat : Nat) : Int)
     congr 1
     omega
   rw [e1, e3, e4]; refine JNew_spec (k := k.toNat) (lv := l.toNat) (unit := u.toNat) (win := n.toNat) H1 (by omega) (by omega) (by omega) (by omega) (by omega) (fun e => ?_) fun j w2 S2 H2 => ?_
   · show Value.int .i64 l = .int .i64 ((l.toNat : Nat) : Int)
     congr 1
     omega
   · refine r_ex20 (r_ex21 ?_); exact kJ j w2 (S1.trans S2) (Holds.dropAt H2 1)
abbrev tSn : Nat := 34
abbrev tAc : Nat := 36
def snC (T R : List UInt8) (en ok : Bool) : List Value := [S_ T, S_ R, .bool en, .bool ok]
theorem sn_zero : (zeroP Tryz.prog tSn).cells.toList = snC [] [] false false := by kernel_rfl
theorem moved_spec {T R : List UInt8} {en ok en2 done : Bool} {n tk : Nat} (H : Holds w (blk b tFlow (flC j (R.drop n) en2 tk) :: L)) (hn : n ≤ R.length) (hd : done = true → n = R.length) (hR : R.length ≤ 1000000) (hT : T.length ≤ 1000000)
   (k : ∀ w', Same w w' → Holds w' (blk b tFlow (flC j (R.drop n) en2 tk) :: L) → K (.agg (snC (if done = true then T else T ++ R.take n) (R.drop n) en ok).toArray) w') : Cl Tryz.prog F.balerlaw38_seen_moved #[.agg (snC T R en ok).toArray, pt b, .bool done] w K := by
 refine Tie.balerlaw38_seen_moved ?_; unfold Vcf.balerlaw38_seen_moved; refine r_new H fun x w1 S1 H1 => ?_; refine r_new H1 fun y w2 S2 H2 => ?_; rw [sn_zero] at H2; replace H2 : Holds w2 (blk y tSn (snC [] [] false false) :: blk x tSn (snC T R en ok) :: blk b tFlow (flC j (R.drop n) en2 tk) :: L) := H2; refine r_dr H2 fun w3 S3 H3 => ?_; refine r_fo0 (r_ld 1 H3 rfl rfl (q_len ?_)); refine FRest_spec (by have h_ := Holds.front H3 2 rfl; exact h_) ?_; refine r_rk (q_len rfl) (r_rk (r_ld 1 H3 rfl rfl rfl) ?_); have hl : (R.drop n).length = R.length - n := List.length_drop ..; refine r_sub (by omega) (by omega) ?_; rw [show (R.length : Int) - ((R.drop n).length : Int) = (n : Int) by omega]; have S := S1.trans (S2.trans S3); refine r_join1 (fun v w' => w3 = w' ∧ v = .bool false) ?_ ?_
 rotate_left
 · refine r_lss (r_vfD (by omega) (r_fo0 (r_ld 1 H3 rfl rfl (q_len (r_gtr (r_ke ⟨rfl, ?_⟩)))))); rw [decide_eq_false (by omega)]
 rintro _ _ _ ⟨rfl, rfl⟩; refine r_vf ?_; refine r_join0 (fun w' => Same w w' ∧ Holds w' (blk y tSn (snC [] [] false false) :: blk x tSn (snC (if done = true then T else T ++ R.take n) R en ok) :: blk b tFlow (flC j (R.drop n) en2 tk) :: L)) ?_ ?_
 · rintro _ w4 ⟨S4, H4⟩; refine r_fo0 (r_ld 1 H4 rfl rfl (q_D hn ?_)); refine r_fo0 (r_st 1 H4 rfl (by simp [snC]) rfl fun w5 S5 H5 => ?_); refine r_ldA 1 H5 (snC (if done = true then T else T ++ R.take n) (R.drop n) en ok) rfl rfl rfl ?_; refine r_stA 0 H5 (vs := snC (if done = true then T else T ++ R.take n) (R.drop n) en ok) rfl (Nat.le_refl 4) rfl rfl fun w6 S6 H6 => ?_; refine r_ldA 0 H6 (snC (if done = true then T else T ++ R.take n) (R.drop n) en ok) rfl rfl rfl ?_; exact k w6 (S4.trans (S5.trans S6)) H6.drop.drop
 · cases done with
   | false =>
     refine r_notF (r_vt (r_dr H3 fun w4 S4 H4 => ?_)); refine r_fo0 (r_ld 1 H4 rfl rfl (r_fo0 (r_ld 1 H4 rfl rfl (q_T hn (r_catL (by rw [List.length_take]; omega) ?_))))); refine r_fo0 (r_st 1 H4 rfl (by simp [snC]) rfl fun w5 S5 H5 => ?_); exact r_ke ⟨S.trans (S4.trans S5), H5⟩
   | true =>
     refine r_notT (r_vf ?_); refine FRest_spec (by have h_ := Holds.front H3 2 rfl; exact h_) (r_neq (r_vfN ?_ ?_))
     · have := hd rfl; omega
     · exact r_ke ⟨S, H3⟩
structure Ac where
 k : Int
 n : Int
 t : List UInt8
instance : Inhabited Ac := ⟨⟨0, 0, []⟩⟩
def cellsAc (a : Ac) : List Value := [iv a.k, iv a.n, S_ a.t]
theorem act_spec {T R : List UInt8} {en : Bool} {a : Ac} (H : Holds w (blk b tFlow (flC j R en T.length) :: JobA j d g f :: L)) (hT : T.length ≤ 100000) (hR : R.length ≤ 300) (ha : a.t.length ≤ 300) (hg : g ≤ 1000000) (hf : f ≤ 1000000)
   (k : ∀ (T' R' : List UInt8) en' d' g' f' w', T'.length ≤ T.length + 300 → R'.length ≤ 300 → g' ≤ g + 1000 → f' ≤ f + 300 → Same w w' → Holds w' (blk b tFlow (flC j R' en' T'.length) :: JobA j d' g' f' :: L) → K (.agg (snC T' R' en' true).toArray) w') :
   Cl Tryz.prog F.balerlaw38_seen_act #[.agg (snC T R en true).toArray, pt b, pt j, .agg (cellsAc a).toArray] w K := by
 refine Tie.balerlaw38_seen_act ?_; unfold Vcf.balerlaw38_seen_act; refine r_new H fun x w1 S1 H1 => ?_; refine r_new H1 fun y w2 S2 H2 => ?_; refine r_new H2 fun z w3 S3 H3 => ?_; rw [sn_zero] at H3; have S : Same w w3 := S1.trans (S2.trans S3); replace H3 : Holds w3 (blk z tSn (snC [] [] false false) :: blk y tAc (cellsAc a) :: blk x tSn (snC T R en true) :: blk b tFlow (flC j R en T.length) :: JobA j d g f :: L) := H3; clear H H1 H2 S1 S2 S3; refine JDone_spec (by have h_ := Holds.front H3 4 rfl; exact h_) ?_
 have H4 : Holds w3 (blk b tFlow (flC j R en T.length) :: JobA j d g f :: blk z tSn (snC [] [] false false) :: blk y tAc (cellsAc a) :: blk x tSn (snC T R en true) :: L) := by
   have h_ := Holds.ord 5 [3, 4, 0, 1, 2] H3 rfl; exact h_
 -- the end of an act
 have fin : ∀ (T' R' : List UInt8) (en' d' : Bool) (g' f' : Nat) w4, T'.length ≤ T.length + 300 → R'.length ≤ 300 → g' ≤ g + 1000 → f' ≤ f + 300 → Same w w4 →
     Holds w4 (blk b tFlow (flC j R' en' T'.length) :: JobA j d' g' f' :: blk z tSn (snC [] [] false false) :: blk y tAc (cellsAc a) :: blk x tSn (snC T R en true) :: L) →
     ∀ (xv : List Value), xv = snC T' R' en' true → StA 4 (pt z) (.agg xv.toArray) w4 fun w5 => LdA 4 (pt z) w5 fun x_95 => K x_95 w5 := by
   intro T' R' en' d' g' f' w4 h1 h2 h3 h4 S4 H5 xv hxv; subst hxv; refine r_stA 2 H5 (vs := snC T' R' en' true) rfl (Nat.le_refl 4) rfl rfl fun w6 S6 H6 => ?_; refine r_ldA 2 H6 (snC T' R' en' true) rfl rfl rfl ?_; refine k T' R' en' d' g' f' w6 h1 h2 h3 h4 (S4.trans S6) ?_; exact Holds.dropAt (Holds.dropAt (Holds.dropAt H6 2) 2) 2
 -- behind a flow that moved
 have mv : ∀ (R0 : List UInt8) (en' : Bool) (n f' : Nat) w5, R0.length ≤ 300 → n ≤ R0.length → (d = true → n = R0.length) → f' ≤ f + n → Same w w5 →
     Holds w5 (blk b tFlow (flC j (R0.drop n) en' (if d = true then T.length else T.length + n)) :: JobA j d g f' :: blk z tSn (snC [] [] false false) :: blk y tAc (cellsAc a) :: blk x tSn (snC T R0 en' true) :: L) →
     LdA 4 (pt x) w5 fun x_35 => Cl Tryz.prog F.balerlaw38_seen_moved #[x_35, pt b, .bool d] w5 fun x_36 w15 => StA 4 (pt z) x_36 w15 fun w16 => LdA 4 (pt z) w16 fun x_37 => K x_37 w16 := by
   intro R0 en' n f' w5 hR0 hn hd hf' S5 H5; refine r_ldA 4 H5 (snC T R0 en' true) rfl rfl rfl ?_; refine moved_spec (R := R0) (n := n) H5 hn hd (by omega) (by omega) fun w6 S6 H6 => ?_
   have hl : (if d = true then T else T ++ R0.take n).length = if d = true then T.length else T.length + n := by
     split
     · rfl
     · rw [List.length_append, List.length_take, Nat.min_eq_left hn]
   have hl2 : (if d = true then T else T ++ R0.take n).length ≤ T.length + 300 := by
     rw [hl]
     split <;> omega
   refine r_stA 2 H6 (vs := snC (if d = true then T else T ++ R0.take n) (R0.drop n) en' true) rfl (Nat.le_refl 4) rfl rfl fun w7 S7 H7 => ?_; refine r_ldA 2 H7 (snC (if d = true then T else T ++ R0.take n) (R0.drop n) en' true) rfl rfl rfl ?_; refine k _ (R0.drop n) en' d g f' w7 hl2 (by rw [List.length_drop]; omega) (by omega) (by omega) (S5.trans (S6.trans S7)) ?_; rw [hl]; exact Holds.dropAt (Holds.dropAt (Holds.dropAt H7 2) 2) 2
 refine r_fo0 (r_ld 1 H3 rfl rfl (r_eql (r_ifE (fun h0 => ?_) fun h0 => ?_)))
 · -- Put
   refine r_fo0 (r_ld 1 H3 rfl rfl ?_); refine FPut_spec H4 (by omega) (by omega) (by omega) (fun he => ?_) (fun he hne => ?_) fun v w4 he hre S4 hm => ?_
   · subst he; refine r_join1 (fun v w' => w3 = w' ∧ v = .bool true) ?_ ?_
     rotate_left
     · exact r_fo0 (r_ld 2 H3 rfl rfl (r_vt (r_ke ⟨rfl, rfl⟩)))
     rintro _ _ _ ⟨rfl, rfl⟩; refine r_vt (r_fo0 (r_ld 2 H3 rfl rfl (r_vt (r_eql (r_fo0 (r_ld 2 H3 rfl rfl (r_bb ?_))))))); refine r_vt (r_eql (r_fo0 (r_ld 2 H3 rfl rfl (r_notT (r_bb ?_))))); refine r_fo0 (r_st 4 H4 rfl (by simp [snC]) rfl fun w5 S5 H5 => ?_); refine r_ldA 4 H5 (snC T R true true) rfl rfl rfl ?_; exact fin T R true d g f w5 (by omega) hR (by omega) (by omega) (S.trans S5) H5 _ rfl
   · subst he; refine r_join1 (fun v w' => w3 = w' ∧ v = .bool true) ?_ ?_
     rotate_left
     · refine r_fo0 (r_ld 2 H3 rfl rfl (r_vf (r_fo0 (r_ld 2 H3 rfl rfl (P23.q_sne (r_ke ⟨rfl, ?_⟩)))))); rw [decide_eq_true hne]
     rintro _ _ _ ⟨rfl, rfl⟩; refine r_vt (r_fo0 (r_ld 2 H3 rfl rfl (r_vt (r_eql (r_fo0 (r_ld 2 H3 rfl rfl (r_bb ?_))))))); refine r_vt (r_eql (r_fo0 (r_ld 2 H3 rfl rfl (r_notF (r_bb ?_))))); refine r_fo0 (r_st 4 H4 rfl (by simp [snC]) rfl fun w5 S5 H5 => ?_); refine r_ldA 4 H5 (snC T R false true) rfl rfl rfl ?_; exact fin T R false d g f w5 (by omega) hR (by omega) (by omega) (S.trans S5) H5 _ rfl
   · subst he; subst hre; obtain ⟨n, f', hn, hd, hf', rfl, H5⟩ := hm; refine r_join1 (fun v w' => w4 = w' ∧ v = .bool false) ?_ ?_
     rotate_left
     · refine r_fo0 (r_ld 4 H5 rfl rfl (r_vf (r_fo0 (r_ld 4 H5 rfl rfl (P23.q_sne (r_ke ⟨rfl, ?_⟩)))))); rw [decide_eq_false (fun h => h rfl)]
     rintro _ _ _ ⟨rfl, rfl⟩; refine r_vf ?_; refine r_join0 (fun w' => Same w4 w' ∧ Holds w' (blk b tFlow (flC j (a.t.drop n) false (if d = true then T.length else T.length + n)) :: JobA j d g f' :: blk z tSn (snC [] [] false false) :: blk y tAc (cellsAc a) :: blk x tSn (snC T [] false true) :: L)) ?_ ?_
     rotate_left
     · refine r_fo0 (r_ld 4 H5 rfl rfl (r_vt (r_eql (r_fo0 ?_)))); refine r_st 4 H5 rfl (by simp [snC]) rfl fun w5 S5 H6 => ?_; exact r_ke ⟨S5, H6⟩
     rintro _ w5 ⟨S5, H6⟩; refine r_fo0 (r_ld 3 H6 rfl rfl (r_fo0 ?_)); refine r_st 4 H6 rfl (by simp [snC]) rfl fun w6 S6 H7 => ?_; exact mv a.t false n f' w6 ha hn hd hf' (S.trans (S4.trans (S5.trans S6))) H7
 refine r_eql (r_ifE (fun h1 => ?_) fun h1 => ?_)
 · -- End
   refine FEnd_spec H4 (by omega) (by omega) (by omega) (fun he => ?_) fun v w4 he S4 hm => ?_
   · subst he; refine r_fo0 (r_ld 2 H3 rfl rfl (r_vt (r_fo0 (r_ld 2 H3 rfl rfl (r_vt (r_eql (r_fo0 ?_))))))); refine r_st 4 H4 rfl (by simp [snC]) rfl fun w5 S5 H5 => ?_; refine r_ldA 4 H5 (snC T R true true) rfl rfl rfl ?_; exact fin T R true d g f w5 (by omega) hR (by omega) (by omega) (S.trans S5) H5 _ rfl
   · subst he; obtain ⟨n, f', hn, hd, hf', rfl, H5⟩ := hm; refine r_fo0 (r_ld 4 H5 rfl rfl (r_vf ?_)); refine r_join0 (fun w' => Same w4 w' ∧ Holds w' (blk b tFlow (flC j (R.drop n) true (if d = true then T.length else T.length + n)) :: JobA j d g f' :: blk z tSn (snC [] [] false false) :: blk y tAc (cellsAc a) :: blk x tSn (snC T R false true) :: L)) ?_ ?_
     rotate_left
     · refine r_fo0 (r_ld 4 H5 rfl rfl (r_vt (r_eql (r_fo0 ?_)))); refine r_st 4 H5 rfl (by simp [snC]) rfl fun w5 S5 H6 => ?_; exact r_ke ⟨S5, H6⟩
     rintro _ w5 ⟨S5, H6⟩; refine r_fo0 ?_; refine r_st 4 H6 rfl (by simp [snC]) rfl fun w6 S6 H7 => ?_; exact mv R true n f' w6 hR hn hd hf' (S.trans (S4.trans (S5.trans S6))) H7
 refine r_eql (r_ifE (fun h2 => ?_) fun h2 => ?_)
 · -- Move
   refine FRest_spec H4 ?_; refine FMove_spec H4 (by omega) (by omega) (by omega) fun v w4 S4 hm => ?_; obtain ⟨n, f', hn, hd, hf', rfl, H5⟩ := hm; refine r_fo0 (r_ld 4 H5 rfl rfl (r_vt ?_)); refine FRest_spec H5 ?_; have hl : (R.drop n).length = R.length - n := List.length_drop ..; refine r_sub (by omega) (by omega) (r_eql (r_fo0 ?_)); rw [show ((n : Int) == (R.length : Int) - ((R.drop n).length : Int)) = true from beq_iff_eq.2 (by omega)]; refine r_st 4 H5 rfl (by simp [snC]) rfl fun w5 S5 H6 => ?_; exact mv R en n f' w5 hR hn hd hf' (S.trans (S4.trans S5)) H6
 · -- steps
   refine r_fo0 (r_ld 1 H3 rfl rfl (r_max (r_min ?_)))
   have e : iv (min (max a.n 0) 1000) = nv (min (max a.n 0) 1000).toNat := by
     show Value.int .i64 _ = .int .i64 (((min (max a.n 0) 1000).toNat : Nat) : Int)
     congr 1
     omega
   have hq : (min (max a.n 0) 1000).toNat ≤ 1000 := by omega
   show Cl Tryz.prog F.job_Job_Step #[pt j, iv (min (max a.n 0) 1000)] w3 _; rw [e]; refine JStep_spec (by have h_ := Holds.front H3 4 rfl; exact h_) (by omega) (by omega) (by omega) fun v d' w4 S4 H5 => ?_
   have H6 : Holds w4 (blk b tFlow (flC j R en T.length) :: JobA j d' (g + (min (max a.n 0) 1000).toNat) f :: blk z tSn (snC [] [] false false) :: blk y tAc (cellsAc a) :: blk x tSn (snC T R en true) :: L) := by
     have h_ := Holds.ord 5 [4, 0, 1, 2, 3] H5 rfl; exact h_
   refine r_ldA 4 H6 (snC T R en true) rfl rfl rfl ?_; exact fin T R en d' _ f w4 (by omega) hR (by omega) (by omega) (S.trans S4) H6 _ rfl
abbrev AcIn := S4r.InG cellsAc 3
theorem hundred_spec (H : Holds w L) (post : ∀ w', Same w w' → Holds w' L → K (.bool true) w') : Cl Tryz.prog F.balerlaw38_hundred #[] w K := V38.hundred_spec H post
theorem UploadActs_spec (H : Holds w L) (k l u n : Int) (a : Option Addr) (us : List Ac) (c : Nat) (h0 : True) (h1 : AcIn L a us ∧ us.length ≤ c) (post : ∀ w', Same w w' → Holds w' L → K (.bool true) w') :
   Cl Tryz.prog F.balerlaw38_UploadActs #[.agg #[iv k, iv l, iv u, iv n], .slice a us.length c] w K := by
 refine Tie.balerlaw38_UploadActs ?_; unfold Vcf.balerlaw38_UploadActs; refine r_new H fun s w1 S1 H1 => ?_; replace H1 : Holds w1 (blk s 24 [iv k, iv l, iv u, iv n] :: L) := H1; refine r_ldA 0 H1 [iv k, iv l, iv u, iv n] rfl rfl rfl ?_; refine make_spec H1 (fun w2 S2 H2 => ?_) fun j w2 S2 H2 => ?_
 · -- no job
   refine r_lnl (r_gtr (r_ifD (fun h => ?_) fun h => ?_))
   · exact hundred_spec H2 fun w3 S3 H3 => post w3 (S1.trans (S2.trans S3)) H3.drop
   · refine FNewNil_spec (r_ex20 (r_ex21 (r_bnNT (r_vt (r_eql (r_vtE rfl (r_bnNT (r_vt ?_)))))))); exact hundred_spec H2 fun w3 S3 H3 => post w3 (S1.trans (S2.trans S3)) H3.drop
 · refine r_lnl (r_gtr (r_ifD (fun h => ?_) fun h => ?_))
   · exact hundred_spec H2 fun w3 S3 H3 => post w3 (S1.trans (S2.trans S3)) H3.drop.drop
   have h40 : us.length ≤ 40 := by omega
   replace H2 := Holds.dropAt H2 1; refine FNew_spec H2 fun b w3 S3 H3 => ?_; refine r_ex20 (r_ex21 (r_bnSF (r_vf ?_))); refine r_bd (v := .agg (snC [] [] false true).toArray) (by kernel_rfl) ?_; refine r_new H3 fun x w4 S4 H4 => ?_; rw [sn_zero] at H4; refine r_stA 0 H4 (vs := snC [] [] false true) rfl (Nat.le_refl 4) rfl rfl fun w5 S5 H5 => ?_; replace H5 : Holds w5 (blk x tSn (snC [] [] false true) :: blk b tFlow (flC j [] false 0) :: JobA j false 0 0 :: L) := H5; refine r_lnl ?_; have S := S1.trans (S2.trans (S3.trans (S4.trans S5)))
   refine r_loop1n (fun jn y w' => ∃ i T R en d g f, jn = us.length - i ∧ i ≤ us.length ∧ y = nv i ∧ R.length ≤ 300 ∧ T.length ≤ 300 * i ∧ g ≤ 1000 * i ∧ f ≤ 300 * i ∧ Same w w' ∧ Holds w' (blk x tSn (snC T R en true) :: blk b tFlow (flC j R en T.length) :: JobA j d g f :: L))
     us.length ⟨0, [], [], false, false, 0, 0, rfl, Nat.zero_le _, rfl, Nat.zero_le _, Nat.zero_le _, Nat.zero_le _, Nat.zero_le _, S, H5⟩ ?_
   clear H H1 H2 H3 H4 H5 S1 S2 S3 S4 S5 S; rintro _ jn _ w6 _ ⟨i, T, R, en, d, g, f, rfl, hi, rfl, hR, hT, hg, hf, S6, H6⟩ hgo; refine r_lss (r_ifD (fun hlt => ?_) fun hlt => ?_)
   · have hil : i < us.length := by omega
     have hx : us[i]? = some us[i] := List.getElem?_eq_getElem hil; generalize us[i] = ac at hx; refine S4r.r_ldG (h1.1.up.up.up) H6 hx rfl hil ?_; refine r_new H6 fun y w7 S7 H7 => ?_; refine r_stA 0 H7 (vs := cellsAc ac) rfl (by show 0 + 3 ≤ _; decide) rfl rfl fun w8 S8 H8 => ?_; replace H8 : Holds w8 (blk y tAc (cellsAc ac) :: blk x tSn (snC T R en true) :: blk b tFlow (flC j R en T.length) :: JobA j d g f :: L) := H8; refine r_fo0 (r_ld 0 H8 rfl rfl (q_len (r_gtr (r_ifD (fun h3 => ?_) fun h3 => ?_))))
     · exact hundred_spec H8 fun w9 S9 H9 => post w9 (S6.trans (S7.trans (S8.trans S9))) H9.drop.drop.drop.drop
     refine r_ldA 1 H8 (snC T R en true) rfl rfl rfl ?_; refine r_ldA 0 H8 (cellsAc ac) rfl rfl rfl ?_
     have H9 : Holds w8 (blk b tFlow (flC j R en T.length) :: JobA j d g f :: blk y tAc (cellsAc ac) :: blk x tSn (snC T R en true) :: L) := by
       have h_ := Holds.ord 4 [2, 3, 0, 1] H8 rfl; exact h_
     refine act_spec H9 (by omega) hR (by omega) (by omega) (by omega) fun T' R' en' d' g' f' w9 q1 q2 q3 q4 S9 Ha => ?_; refine r_stA 3 Ha (vs := snC T' R' en' true) rfl (Nat.le_refl 4) rfl rfl fun w10 S10 Hb => ?_
     have Hc : Holds w10 (blk x tSn (snC T' R' en' true) :: blk b tFlow (flC j R' en' T'.length) :: JobA j d' g' f' :: L) := by
       have h_ := Holds.ord 4 [3, 0, 1] Hb rfl; exact h_
     have S := S6.trans (S7.trans (S8.trans (S9.trans S10))); refine r_join1 (fun v w' => v = .bool false ∧ Same w w' ∧ Holds w' (blk x tSn (snC T' R' en' true) :: blk b tFlow (flC j R' en' T'.length) :: JobA j d' g' f' :: L)) ?_ ?_
     · rintro _ _ w11 ⟨rfl, S11, Hd⟩; refine r_vf (r_add1N (by omega) (r_ke (hgo (us.length - (i + 1)) _ _ (by omega) ⟨i + 1, T', R', en', d', g', f', rfl, hil, rfl, q2, by omega, by omega, by omega, S11, Hd⟩)))
     · refine r_dr Hc fun w11 S11 Hd => ?_; refine r_fo0 (r_ld 0 Hd rfl rfl (r_notT (r_vf ?_))); refine FRest_spec Hd.drop ?_; refine r_fo0 (r_ld 0 Hd rfl rfl (r_rk (r_ld 0 Hd rfl rfl rfl) (q_len (r_rk (q_len rfl) (r_neq (r_vfN rfl ?_)))))); refine FTaken_spec Hd.drop ?_; refine r_fo0 (r_ld 0 Hd rfl rfl (r_rk (r_ld 0 Hd rfl rfl rfl) (q_len (r_rk (q_len rfl) (r_neq (r_vfN rfl ?_)))))); refine FEnded_spec Hd.drop ?_; refine r_fo0 (r_ld 0 Hd rfl rfl (r_rk (r_ld 0 Hd rfl rfl rfl) (r_bb ?_))); refine r_ke ⟨?_, S.trans S11, Hd⟩
       cases en' <;> rfl
   · refine r_dr H6 fun w7 S7 H7 => ?_; refine r_eql (r_vtE rfl ?_); refine FEnded_spec H7.drop ?_; refine r_fo0 (r_ld 0 H7 rfl rfl (r_rk (r_ld 0 H7 rfl rfl rfl) (r_bb ?_)))
     have e : (if (false : Bool) = true then !(en == en) else en == en) = true := by cases en <;> rfl
     rw [e]; refine r_vt ?_; exact hundred_spec H7 fun w9 S9 H9 => post w9 (S6.trans (S7.trans S9)) H9.drop.drop.drop
theorem setup_open {H : Type} {enc : TypeId × Value → H} {W : World} {base : Nat} {v : Value} {d : DataW H} {ps : List MemPlace} (hval : Value.okWide Tryz.prog W .any base 24 v)
   (h : DataW.Trod enc Tryz.prog W 0 (fun _ => true) true 24 v d ps) : ∃ k l u n : Int, v = .agg #[iv k, iv l, iv u, iv n] ∧ True := by
 obtain ⟨v0, v1, v2, v3, y0, y1, y2, y3, n, rfl, _, _, h0, h1, h2, h3⟩ := Joins.open_agg4 Tryz.underlying24 (by kernel_rfl) (by kernel_rfl) hval h; obtain ⟨n0, e0, _⟩ := DataW.trod_int Tryz.underlying22 h0; obtain ⟨n1, e1, _⟩ := DataW.trod_int Tryz.underlying3 h1; obtain ⟨n2, e2, _⟩ := DataW.trod_int Tryz.underlying3 h2; obtain ⟨n3, e3, _⟩ := DataW.trod_int Tryz.underlying3 h3
 have f0 : v0 = iv n0 := by simpa using e0
 have f1 : v1 = iv n1 := by simpa using e1
 have f2 : v2 = iv n2 := by simpa using e2
 have f3 : v3 = iv n3 := by simpa using e3
 exact ⟨n0, n1, n2, n3, by rw [f0, f1, f2, f3], trivial⟩
theorem act_open {H : Type} {enc : TypeId × Value → H} {W : World} {base : Nat} {spare : Nat → Bool} {held : Bool} {fuel : Nat} {cs : List Value} {x : DataW H × List MemPlace} (h : DataW.trod enc Tryz.prog W base spare held fuel tAc cs = some x) : ∃ u : Ac, cs = cellsAc u := by
 have hu := Tryz.underlying36; obtain ⟨_, _, _, _, hlen, _, _⟩ := DataW.trod_struct hu h; obtain ⟨c0, y0, n0, e0, h0⟩ := Jg.cell_of hu h 0 _ rfl 0 rfl (by kernel_rfl) (of_decide_eq_true (by kernel_rfl)); obtain ⟨c1, y1, n1, e1, h1⟩ := Jg.cell_of hu h 1 _ rfl 1 rfl (by kernel_rfl) (of_decide_eq_true (by kernel_rfl)); obtain ⟨c2, y2, n2, e2, h2⟩ := Jg.cell_of hu h 2 _ rfl 2 rfl (by kernel_rfl) (of_decide_eq_true (by kernel_rfl)); obtain ⟨z0, g0, _⟩ := DataW.trod_int Tryz.underlying3 h0; obtain ⟨z1, g1, _⟩ := DataW.trod_int Tryz.underlying3 h1; obtain ⟨s2, g2, _⟩ := DataW.trod_string Tryz.underlying9 h2; simp only [List.cons.injEq, and_true] at g0 g1 g2; subst g0 g1 g2; obtain ⟨t2, rfl⟩ : ∃ t : List UInt8, s2 = ⟨t.toArray⟩ := ⟨_, ba_list s2⟩; exact ⟨⟨z0, z1, t2⟩, Jg.list3 (hlen.trans (by kernel_rfl)) e0 e1 e2⟩
theorem acts_open {H : Type} {enc : TypeId × Value → H} {W : World} {base : Nat} {v : Value} {d : DataW H} {ps : List MemPlace} (hval : Value.okWide Tryz.prog W .any base 25 v)
   (h : DataW.Trod enc Tryz.prog W 0 (fun _ => true) true 25 v d ps) : ∃ (a : Option Addr) (us : List Ac) (c : Nat), v = .slice a us.length c ∧ AcIn [whole W] a us ∧ us.length ≤ c := by
 obtain ⟨a, l, c, rfl⟩ := WideShapes.okWide_slice Tryz.underlying25 hval; obtain ⟨fuel, hf⟩ := h; obtain ⟨a', us, c', g0, hc, hin⟩ := Jg.slice_open cellsAc 3 Tryz.underlying25 (by kernel_rfl) (fun _ => rfl) (fun h => act_open h) hf; exact ⟨a', us, c', g0, hin, hc⟩
end K38
end Go.Proofs.YtpbbfonfakjecaaGreat
