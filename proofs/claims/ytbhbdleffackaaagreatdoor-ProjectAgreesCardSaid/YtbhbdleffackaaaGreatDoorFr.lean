/- Chapters 33, 34: frames and a parser, by the program. -/
import Derived.Test.YtbhbdleffackaaaGreatDoorJ33
import Derived.Test.YtbhbdleffackaaaGreatDoorSu
set_option linter.unusedVariables false
set_option linter.unusedSimpArgs false
namespace Go.Proofs.YtbhbdleffackaaaGreatDoor
open Go Go.Vc
attribute [local irreducible] Go.Vc.Nc Go.Vc.Ld Go.Vc.LdA Go.Vc.St Go.Vc.StA Go.Vc.Fo Go.Vc.Iaa Go.Vc.Ias Go.Vc.Ixs Go.Vc.Ixa Go.Vc.Fd Go.Vc.FdA Go.Vc.Bp Go.Vc.Bb Go.Vc.Bn Go.Vc.Up Go.Vc.Ci Go.Vc.Lns Go.Vc.Lnl Go.Vc.Ex Go.Vc.Sst Go.Vc.Ssl Go.Vc.New Go.Vc.Vif Go.Vc.VJoin Go.Vc.VLoop Go.Vc.KE Go.Vc.Dr Go.Vc.Rk Go.Vc.Cl Go.Vc.Cx Go.Vc.Inv Go.Vc.Be Go.Vc.Cv Go.Vc.Cw Go.Vc.Mf Go.Vc.Sl Go.Vc.Lk Go.Vc.Bd Go.Vc.Bs Go.Vc.Ms Go.Vc.Mm Go.Vc.Mu Go.Vc.Me Go.Vc.Es Go.Vc.Rg Go.Vc.Nx Go.Vc.Ta Go.Vc.Ap Go.Vc.Usd Go.Vc.Ust Go.Vc.Cp Go.Vc.Ln Go.Vc.Bc Go.Vc.Bmin Go.Vc.Bmax Go.Vc.Bdel Go.Vc.Bclr Go.Vc.Pk
namespace F33
variable {w : World} {L : List HProp} {K : Value → World → Prop}
abbrev pt (b : Nat) : Value := .pointer (some ⟨b, 0, none⟩)
abbrev S_ (B : List UInt8) : Value := .string ⟨B.toArray⟩
abbrev tFr : Nat := 71
abbrev tPa : Nat := 218
theorem sz (t : List UInt8) : (⟨t.toArray⟩ : ByteArray).size = t.length := by show t.toArray.size = _; simp
theorem dl (t : List UInt8) : (⟨t.toArray⟩ : ByteArray).data.toList = t := by simp
theorem q_len {t : List UInt8} {K : Value → Prop} (h : K (nv t.length)) : Lns (S_ t) K := r_lns (by rw [sz]; exact h)
theorem q_ix {t : List UInt8} {k : IntKind} {m : Nat} {K : Value → Prop} (h1 : m < t.length) (h : K (.int .u8 ((t.getD m 0).toNat : Int))) : Ixs (S_ t) (.int k (m : Int)) K := r_ixsN (by rw [sz]; exact h1) (by rw [dl]; exact h)
theorem ext_ {t : List UInt8} {a b : Nat} : (⟨t.toArray⟩ : ByteArray).extract a b = ⟨((t.take b).drop a).toArray⟩ := by
  have h1 : (⟨t.toArray⟩ : ByteArray).extract a b = ⟨t.toArray.extract a b⟩ := by simp [ByteArray.extract, ByteArray.copySlice]
  rw [h1]
  congr 1
  apply Array.ext'
  simp [Array.toList_extract, List.extract_eq_take_drop, List.drop_take]
theorem q_T {t : List UInt8} {k : IntKind} {m : Nat} {K : Value → Prop} (h1 : m ≤ t.length) (h : K (S_ (t.take m))) : Sst (S_ t) none (some (.int k (m : Int))) K := r_sstT (by rw [sz]; exact h1) (by rw [dl]; exact h)
theorem q_D {t : List UInt8} {k : IntKind} {m : Nat} {K : Value → Prop} (h1 : m ≤ t.length) (h : K (S_ (t.drop m))) : Sst (S_ t) (some (.int k (m : Int))) none K := r_sstD (by rw [sz]; exact h1) (by rw [dl]; exact h)
theorem q_DT {t : List UInt8} {k k' : IntKind} {a b : Nat} {K : Value → Prop} (h1 : a ≤ b) (h2 : b ≤ t.length) (h : K (S_ ((t.take b).drop a))) : Sst (S_ t) (some (.int k (a : Int))) (some (.int k' (b : Int))) K :=
  r_sst ⟨k, rfl⟩ ⟨k', rfl⟩ h1 (by rw [sz]; exact h2) (by rw [ext_]; exact h)
def num4 (s : List UInt8) : Nat := ((s.getD 0 0).toNat * 256 + (s.getD 1 0).toNat) * 65536 + ((s.getD 2 0).toNat * 256 + (s.getD 3 0).toNat)
def numK (s : List UInt8) : Nat → Nat
  | 0 => 0
  | k + 1 => numK s k * 256 + (s.getD k 0).toNat
theorem numK_lt (s : List UInt8) : ∀ k, numK s k < 256 ^ k
  | 0 => by show 0 < 1; decide
  | k + 1 => by
    have h1 := numK_lt s k
    have h2 := (s.getD k 0).toNat_lt
    rw [numK, Nat.pow_succ]
    omega
theorem r_orI {a b : Nat} {K : Value → Prop} (ha : a * 2 ^ 8 + b < 9223372036854775808) (hb : b < 256) (h : K (nv (a * 256 + b))) : Bp .or (nv (a * 2 ^ 8)) (nv b) K := by
  refine r_bpK (nv (a * 256 + b)) ?_ h
  have h8 : (2 : Nat) ^ 8 = 256 := rfl
  have hbits : IntKind.i64.bits = 64 := rfl
  simp only [bp, if_true]
  rw [hbits, BitVec.toNat_or, BitVec.toNat_ofInt, BitVec.toNat_ofInt]
  have e1 : (((a * 2 ^ 8 : Nat) : Int) % ((2 ^ 64 : Nat) : Int)).toNat = a * 2 ^ 8 := by omega
  have e2 : ((b : Int) % ((2 ^ 64 : Nat) : Int)).toNat = b := by omega
  have e3 : a * 2 ^ 8 ||| b = a * 256 + b := by
    have := Nat.two_pow_add_eq_or_of_lt (i := 8) (b := b) (by omega) a
    rw [Nat.mul_comm a, ← this]
  rw [e1, e2, e3, wrap64 (by omega) (by omega)]
theorem number_spec {s : List UInt8} (h4 : 4 ≤ s.length) (k : K (nv (numK s 4)) w) : Cl Tryz.prog F.frame_number #[S_ s] w K := by
  refine Tie.frame_number ?_
  unfold Vcf.frame_number
  refine r_loop2 (fun x y w' => ∃ i : Nat, i ≤ 4 ∧ x = nv (numK s i) ∧ y = nv i ∧ w = w') (fun _ y _ => 4 - (RowKit.intOf y).toNat) ⟨0, by omega, rfl, rfl, rfl⟩ ?_
  rintro _ _ _ _ ⟨i, hi, rfl, rfl, rfl⟩
  refine r_lss (r_ifD (fun h => ?_) fun h => ?_)
  · have hlt := numK_lt s i
    have hle : 256 ^ i ≤ 256 ^ 3 := Nat.pow_le_pow_right (by decide) (by omega)
    have h2 := (s.getD i 0).toNat_lt
    refine r_shlI (n := 8) (by decide) (by omega) ?_
    refine q_ix (by omega) ?_
    refine r_ci64 (by omega) (by omega) ?_
    refine r_orI (by omega) (by omega) ?_
    refine r_add1N (by omega) (r_ke ⟨⟨i + 1, by omega, rfl, rfl, rfl⟩, ?_⟩)
    simp only [RowKit.intOf, Int.toNat_natCast]
    omega
  · obtain rfl : i = 4 := by omega
    exact k
/-- A frame. -/
structure Fr where
  ty : Nat
  jb : Nat
  da : List UInt8
def cellsF (f : Fr) : List Value := [nv f.ty, nv f.jb, S_ f.da]
def fr0 : Fr := ⟨0, 0, []⟩
theorem fr_zero : (zeroP Tryz.prog tFr).cells.toList = cellsF fr0 := by kernel_rfl
def cli (t : Nat) : Prop := 1 ≤ t ∧ t ≤ 7
def srv (t : Nat) : Prop := 65 ≤ t ∧ t ≤ 70
instance (t : Nat) : Decidable (cli t) := by unfold cli; infer_instance
instance (t : Nat) : Decidable (srv t) := by unfold srv; infer_instance
theorem Number_spec {s : List UInt8} (k1 : s.length = 4 → K (.tuple #[nv (numK s 4), iv 0]) w) (k2 : s.length ≠ 4 → K (.tuple #[iv 0, iv 1]) w) : Cl Tryz.prog F.frame_Number #[S_ s] w K := by
  refine Tie.frame_Number ?_
  unfold Vcf.frame_Number
  refine q_len (r_neq (r_ifN (fun h => k2 (by omega)) fun h => ?_))
  exact number_spec (by omega) (k1 (by omega))
theorem Client_spec {f : Fr} (H : Holds w L) (k : ∀ w', Same w w' → Holds w' L → K (.bool (decide (cli f.ty))) w') : Cl Tryz.prog F.frame_Client #[.agg (cellsF f).toArray] w K := by
  refine Tie.frame_Client ?_
  unfold Vcf.frame_Client
  refine r_new H fun b w1 S1 H1 => ?_
  replace H1 : Holds w1 (blk b tFr (cellsF f) :: L) := H1
  refine r_fo0 (r_ld 0 H1 rfl rfl ?_)
  refine r_geq (r_ifD (fun h => ?_) fun h => ?_)
  · refine r_fo0 (r_ld 0 H1 rfl rfl (r_leq ?_))
    have := k _ S1 H1.drop
    rw [show decide (cli f.ty) = decide ((f.ty : Int) ≤ 7) by rw [Bool.eq_iff_iff, decide_eq_true_iff, decide_eq_true_iff]; unfold cli; omega] at this
    exact this
  · have := k _ S1 H1.drop
    rw [decide_eq_false (by unfold cli; omega)] at this
    exact this
theorem Server_spec {f : Fr} (H : Holds w L) (k : ∀ w', Same w w' → Holds w' L → K (.bool (decide (srv f.ty))) w') : Cl Tryz.prog F.frame_Server #[.agg (cellsF f).toArray] w K := by
  refine Tie.frame_Server ?_
  unfold Vcf.frame_Server
  refine r_new H fun b w1 S1 H1 => ?_
  replace H1 : Holds w1 (blk b tFr (cellsF f) :: L) := H1
  refine r_fo0 (r_ld 0 H1 rfl rfl ?_)
  refine r_geq (r_ifD (fun h => ?_) fun h => ?_)
  · refine r_fo0 (r_ld 0 H1 rfl rfl (r_leq ?_))
    have := k _ S1 H1.drop
    rw [show decide (srv f.ty) = decide ((f.ty : Int) ≤ 70) by rw [Bool.eq_iff_iff, decide_eq_true_iff, decide_eq_true_iff]; unfold srv; omega] at this
    exact this
  · have := k _ S1 H1.drop
    rw [decide_eq_false (by unfold srv; omega)] at this
    exact this
theorem may_spec {f : Fr} (H : Holds w L) (k : ∀ w', Same w w' → Holds w' L → K (.bool (decide (cli f.ty ∨ srv f.ty))) w') : Cl Tryz.prog F.frame_may #[.agg (cellsF f).toArray] w K := by
  refine Tie.frame_may ?_
  unfold Vcf.frame_may
  refine r_new H fun b w1 S1 H1 => ?_
  replace H1 : Holds w1 (blk b tFr (cellsF f) :: L) := H1
  refine r_ldA 0 H1 (cellsF f) rfl rfl rfl ?_
  refine Client_spec H1 fun w2 S2 H2 => ?_
  refine r_ifD (fun h => ?_) fun h => ?_
  · have := k _ (S1.trans S2) H2.drop
    rw [decide_eq_true (.inl h)] at this
    exact this
  · refine r_ldA 0 H2 (cellsF f) rfl rfl rfl ?_
    refine Server_spec H2 fun w3 S3 H3 => ?_
    have := k _ (S1.trans (S2.trans S3)) H3.drop
    rw [show decide (cli f.ty ∨ srv f.ty) = decide (srv f.ty) by rw [Bool.eq_iff_iff, decide_eq_true_iff, decide_eq_true_iff]; exact ⟨fun q => q.resolve_left h, .inr⟩] at this
    exact this
/-- What bytes begin with. -/
inductive Dec where
  | no (e : Nat)
  | ok (f : Fr) (n : Nat)
def dec (s : List UInt8) : Dec :=
  if s = [] then .no 3
  else if ¬ (cli (s.getD 0 0).toNat ∨ srv (s.getD 0 0).toNat) then .no 35
  else if s.length < 9 then .no 3
  else if 65536 < numK (s.drop 5) 4 then .no 2
  else if s.length - 9 < numK (s.drop 5) 4 then .no 3
  else .ok ⟨(s.getD 0 0).toNat, numK (s.drop 1) 4, (s.take (9 + numK (s.drop 5) 4)).drop 9⟩ (9 + numK (s.drop 5) 4)
def decV : Dec → Value
  | .no e => .tuple #[.agg (cellsF fr0).toArray, iv 0, nv e]
  | .ok f n => .tuple #[.agg (cellsF f).toArray, nv n, iv 0]
theorem Decode_spec {s : List UInt8} (H : Holds w L) (hs : s.length ≤ 1000000) (k : ∀ w', Same w w' → Holds w' L → K (decV (dec s)) w') : Cl Tryz.prog F.frame_Decode #[S_ s] w K := by
  refine Tie.frame_Decode ?_
  unfold Vcf.frame_Decode
  refine r_new H fun b w1 S1 H1 => ?_
  rw [fr_zero] at H1
  have out : ∀ (e : Nat) (bs : List HProp) w', dec s = .no e → Same w w' → Holds w' (blk b tFr (cellsF fr0) :: L) → Bd Tryz.prog tFr #[] w' fun x => StA 3 (pt b) x w' fun w2 => LdA 3 (pt b) w2 fun y => K (.tuple #[y, iv 0, nv e]) w2 := by
    intro e _ w' he Sz Hz
    refine r_bd (v := .agg (cellsF fr0).toArray) (by kernel_rfl) ?_
    refine r_stA 0 Hz (vs := cellsF fr0) rfl (Nat.le_refl 3) rfl rfl fun w2 S2 H2 => ?_
    refine r_ldA 0 H2 (cellsF fr0) rfl rfl rfl ?_
    have := k w2 (Sz.trans S2) H2.drop
    rw [he] at this
    exact this
  refine r_seq0 (r_ifD (fun h => ?_) fun h => ?_)
  · have h0 : s = [] := List.eq_nil_of_length_eq_zero (by rw [sz] at h; exact h)
    exact out 3 [] w1 (by unfold dec; rw [if_pos h0]) S1 H1
  have h0 : s ≠ [] := fun e => h (by rw [e]; rfl)
  have hp : 0 < s.length := List.length_pos_iff.2 h0
  have hb0 := (s.getD 0 0).toNat_lt
  refine q_ix (m := 0) hp ?_
  refine r_ci64 (by omega) (by omega) ?_
  refine r_bd (v := .agg (cellsF ⟨(s.getD 0 0).toNat, 0, []⟩).toArray) (by kernel_rfl) ?_
  refine r_new H1 fun fb w2 S2 H2 => ?_
  rw [fr_zero] at H2
  refine r_stA 0 H2 (vs := cellsF ⟨(s.getD 0 0).toNat, 0, []⟩) rfl (Nat.le_refl 3) rfl rfl fun w3 S3 H3 => ?_
  replace H3 : Holds w3 (blk fb tFr (cellsF ⟨(s.getD 0 0).toNat, 0, []⟩) :: blk b tFr (cellsF fr0) :: L) := H3
  refine r_ldA 0 H3 (cellsF ⟨(s.getD 0 0).toNat, 0, []⟩) rfl rfl rfl ?_
  refine may_spec H3 fun w4 S4 H4 => ?_
  have S := S1.trans (S2.trans (S3.trans S4))
  refine r_not (r_vif (fun h2 => ?_) fun h2 => ?_)
  · have h2' : ¬ (cli (s.getD 0 0).toNat ∨ srv (s.getD 0 0).toNat) := by simpa using h2
    exact out 35 [] w4 (by unfold dec; rw [if_neg h0, if_pos h2']) S H4.drop
  have h2' : ¬ ¬ (cli (s.getD 0 0).toNat ∨ srv (s.getD 0 0).toNat) := by simpa using h2
  refine q_len (r_lss (r_ifD (fun h3 => ?_) fun h3 => ?_))
  · exact out 3 [] w4 (by unfold dec; rw [if_neg h0, if_neg h2', if_pos (by omega)]) S H4.drop
  refine q_D (m := 1) (by omega) ?_
  refine number_spec (by rw [List.length_drop]; omega) ?_
  refine r_fo0 (r_st 0 H4 rfl (by simp [cellsF]) rfl fun w5 S5 H5 => ?_)
  replace H5 : Holds w5 (blk fb tFr (cellsF ⟨(s.getD 0 0).toNat, numK (s.drop 1) 4, []⟩) :: blk b tFr (cellsF fr0) :: L) := H5
  refine q_D (m := 5) (by omega) ?_
  refine number_spec (by rw [List.length_drop]; omega) ?_
  have hd : dec s = if 65536 < numK (s.drop 5) 4 then .no 2 else if s.length - 9 < numK (s.drop 5) 4 then .no 3 else .ok ⟨(s.getD 0 0).toNat, numK (s.drop 1) 4, (s.take (9 + numK (s.drop 5) 4)).drop 9⟩ (9 + numK (s.drop 5) 4) := by
    unfold dec; rw [if_neg h0, if_neg h2', if_neg (by omega)]
  generalize hn : numK (s.drop 5) 4 = n at *
  refine r_gtr (r_ifD (fun h4 => ?_) fun h4 => ?_)
  · exact out 2 [] w5 (by rw [hd, if_pos (by omega)]) (S.trans S5) H5.drop
  refine q_len (r_sub (by omega) (by omega) ?_)
  refine r_lss (r_ifD (fun h5 => ?_) fun h5 => ?_)
  · exact out 3 [] w5 (by rw [hd, if_neg (by omega), if_pos (by omega)]) (S.trans S5) H5.drop
  refine r_addN (a := 9) (b := n) (by omega) ?_
  refine q_DT (a := 9) (b := 9 + n) (by omega) (by omega) ?_
  refine r_fo0 (r_st 0 H5 rfl (by simp [cellsF]) rfl fun w6 S6 H6 => ?_)
  replace H6 : Holds w6 (blk fb tFr (cellsF ⟨(s.getD 0 0).toNat, numK (s.drop 1) 4, (s.take (9 + n)).drop 9⟩) :: blk b tFr (cellsF fr0) :: L) := H6
  refine r_ldA 0 H6 (cellsF ⟨(s.getD 0 0).toNat, numK (s.drop 1) 4, (s.take (9 + n)).drop 9⟩) rfl rfl rfl ?_
  refine r_addN (a := 9) (b := n) (by omega) ?_
  refine r_stA 1 H6 (vs := cellsF ⟨(s.getD 0 0).toNat, numK (s.drop 1) 4, (s.take (9 + n)).drop 9⟩) rfl (Nat.le_refl 3) rfl rfl fun w7 S7 H7 => ?_
  refine r_ldA 1 H7 (cellsF ⟨(s.getD 0 0).toNat, numK (s.drop 1) 4, (s.take (9 + n)).drop 9⟩) rfl rfl rfl ?_
  have := k w7 (S.trans (S5.trans (S6.trans S7))) H7.drop.drop
  rw [hd, if_neg (by omega), if_neg (by omega)] at this
  exact this
/-! ### The parser, of the greatest room -/
abbrev paC (B : List UInt8) (e : Nat) : List Value := [nv 65545, S_ B, nv e]
variable {p : Nat} {B s : List UInt8}
theorem PNew_spec (H : Holds w L) (k : ∀ p w', Same w w' → Holds w' (blk p tPa (paC [] 0) :: L) → K (.tuple #[pt p, iv 0]) w') : Cl Tryz.prog F.parser_New #[iv 65545] w K := by
  refine Tie.parser_New ?_
  unfold Vcf.parser_New
  refine r_join1 (fun v w' => w = w' ∧ v = .bool false) ?_ ?_
  rotate_left
  · exact r_lss (r_vfD (by decide) (r_gtr (r_ke ⟨rfl, by rw [decide_eq_false (by decide)]⟩)))
  rintro _ _ _ ⟨rfl, rfl⟩
  refine r_vf ?_
  refine r_bd (v := .agg (paC [] 0).toArray) (by kernel_rfl) ?_
  refine r_new H fun p w1 S1 H1 => ?_
  exact k p _ S1 H1
theorem Feed_spec (H : Holds w (blk p tPa (paC B 0) :: L)) (hl : B.length + s.length ≤ 65545) (k : ∀ w', Same w w' → Holds w' (blk p tPa (paC (B ++ s) 0) :: L) → K (nv s.length) w') : Cl Tryz.prog F.parser_Parser_Feed #[pt p, S_ s] w K := by
  refine Tie.parser_Parser_Feed ?_
  unfold Vcf.parser_Parser_Feed
  refine r_join1 (fun v w' => w = w' ∧ v = .bool false) ?_ ?_
  rotate_left
  · refine r_bnSF (r_vf (r_nc (r_fo0 (r_ld 0 H rfl rfl (r_neq (r_ke ⟨rfl, ?_⟩))))))
    rfl
  rintro _ _ _ ⟨rfl, rfl⟩
  refine r_vf ?_
  refine r_dr H fun w1 S1 H1 => ?_
  refine q_len (r_nc (r_fo0 (r_ld 0 H1 rfl rfl (r_nc (r_fo0 (r_ld 0 H1 rfl rfl (q_len ?_)))))))
  refine r_sub (by omega) (by omega) ?_
  refine r_min ?_
  rw [show min (s.length : Int) ((65545 : Nat) - (B.length : Int)) = ((s.length : Nat) : Int) by omega]
  refine r_dr H1 fun w2 S2 H2 => ?_
  refine r_nc (r_fo0 (r_ld 0 H2 rfl rfl (q_T (Nat.le_refl _) ?_)))
  rw [List.take_length]
  refine r_cat (by rw [sz, sz]; omega) ?_
  have e : (⟨B.toArray⟩ : ByteArray) ++ ⟨s.toArray⟩ = ⟨(B ++ s).toArray⟩ := by
    apply ByteArray.ext
    simp
  rw [e]
  refine r_nc (r_fo0 (r_st 0 H2 rfl (by simp) rfl fun w3 S3 H3 => ?_))
  exact k _ (S1.trans (S2.trans S3)) H3
theorem fail_spec {e : Nat} (H : Holds w (blk p tPa (paC B 0) :: L)) (k : ∀ w', Same w w' → Holds w' (blk p tPa (paC [] e) :: L) → K (.tuple #[.agg (cellsF fr0).toArray, .bool false, nv e]) w') : Cl Tryz.prog F.parser_Parser_fail #[pt p, nv e] w K := by
  refine Tie.parser_Parser_fail ?_
  unfold Vcf.parser_Parser_fail
  refine r_new H fun b w1 S1 H1 => ?_
  rw [fr_zero] at H1
  refine r_nc (r_fo0 (r_st 1 H1 rfl (by simp) rfl fun w2 S2 H2 => ?_))
  refine r_nc (r_fo0 (r_st 1 H2 rfl (by simp) rfl fun w3 S3 H3 => ?_))
  replace H3 : Holds w3 (blk b tFr (cellsF fr0) :: blk p tPa (paC [] e) :: L) := H3
  refine r_bd (v := .agg (cellsF fr0).toArray) (by kernel_rfl) ?_
  refine r_stA 0 H3 (vs := cellsF fr0) rfl (Nat.le_refl 3) rfl rfl fun w4 S4 H4 => ?_
  refine r_ldA 0 H4 (cellsF fr0) rfl rfl rfl ?_
  exact k _ (S1.trans (S2.trans (S3.trans S4))) H4.drop
theorem tooLong_spec (H : Holds w (blk p tPa (paC B 0) :: L)) (h : 9 ≤ B.length → numK (B.drop 5) 4 ≤ 65536) (k : K (.bool false) w) : Cl Tryz.prog F.parser_Parser_tooLong #[pt p] w K := by
  refine Tie.parser_Parser_tooLong ?_
  unfold Vcf.parser_Parser_tooLong
  refine r_nc (r_fo0 (r_ld 0 H rfl rfl (q_len (r_lss (r_ifD (fun h1 => k) fun h1 => ?_)))))
  refine r_nc (r_fo0 (r_ld 0 H rfl rfl (q_DT (a := 5) (b := 9) (by decide) (by omega) ?_)))
  have hl : ((B.take 9).drop 5).length = 4 := by rw [List.length_drop, List.length_take]; omega
  have en : numK ((B.take 9).drop 5) 4 = numK (B.drop 5) 4 := by
    have g : ∀ i, i < 4 → ((B.take 9).drop 5).getD i 0 = (B.drop 5).getD i 0 := by
      intro i hi
      rw [List.getD_eq_getElem?_getD, List.getD_eq_getElem?_getD, List.getElem?_drop, List.getElem?_drop, List.getElem?_take_of_lt (by omega)]
    simp only [numK, g 0 (by decide), g 1 (by decide), g 2 (by decide), g 3 (by decide)]
  have hn := h (by omega)
  refine Number_spec (fun _ => ?_) fun e => absurd hl e
  rw [en]
  generalize numK (B.drop 5) 4 = n at *
  refine r_ex20 (r_ex21 (r_addN (a := 9) (b := n) (by omega) (r_nc (r_fo0 (r_ld 0 H rfl rfl (r_gtr ?_))))))
  rw [decide_eq_false (by omega)]
  exact k
def nextV : Dec → Value
  | .no e => if e = 3 then .tuple #[.agg (cellsF fr0).toArray, .bool false, iv 0] else .tuple #[.agg (cellsF fr0).toArray, .bool false, nv e]
  | .ok f _ => .tuple #[.agg (cellsF f).toArray, .bool true, iv 0]
def nextB (B : List UInt8) : Dec → List UInt8
  | .no e => if e = 3 then B else []
  | .ok _ n => B.drop n
def nextE : Dec → Nat
  | .no e => if e = 3 then 0 else e
  | .ok _ _ => 0
theorem dec_no {s : List UInt8} {e : Nat} (h : dec s = .no e) : e = 3 ∨ e = 35 ∨ e = 2 := by
  unfold dec at h
  split at h
  · cases h; exact .inl rfl
  split at h
  · cases h; exact .inr (.inl rfl)
  split at h
  · cases h; exact .inl rfl
  split at h
  · cases h; exact .inr (.inr rfl)
  split at h
  · cases h; exact .inl rfl
  · cases h
theorem dec_long {s : List UInt8} (h2 : dec s ≠ .no 2) (h35 : dec s ≠ .no 35) (h9 : 9 ≤ s.length) : numK (s.drop 5) 4 ≤ 65536 := by
  unfold dec at h2 h35
  rw [if_neg (fun e => by rw [e] at h9; simp at h9)] at h2 h35
  split at h2
  · rename_i g; rw [if_pos g] at h35; exact absurd rfl h35
  rw [if_neg (by omega)] at h2
  split at h2
  · exact absurd rfl h2
  · omega
theorem dec_ok {s : List UInt8} {f : Fr} {n : Nat} (h : dec s = .ok f n) : n ≤ s.length ∧ 9 ≤ n ∧ f.ty < 256 ∧ f.jb ≤ 4294967295 ∧ f.da.length ≤ 65536 := by
  unfold dec at h
  split at h
  · cases h
  split at h
  · cases h
  split at h
  · cases h
  split at h
  · cases h
  split at h
  · cases h
  · have h1 := numK_lt (s.drop 1) 4
    have h3 := (s.getD 0 0).toNat_lt
    cases h
    refine ⟨by omega, by omega, h3, by show numK (s.drop 1) 4 ≤ 4294967295; omega, ?_⟩
    show ((s.take _).drop 9).length ≤ 65536
    rw [List.length_drop, List.length_take]
    omega
theorem Next_spec (H : Holds w (blk p tPa (paC B 0) :: L)) (hl : B.length ≤ 1000000) (k : ∀ w', Same w w' → Holds w' (blk p tPa (paC (nextB B (dec B)) (nextE (dec B))) :: L) → K (nextV (dec B)) w') : Cl Tryz.prog F.parser_Parser_Next #[pt p] w K := by
  refine Tie.parser_Parser_Next ?_
  unfold Vcf.parser_Parser_Next
  refine r_new H fun b w1 S1 H1 => ?_
  rw [fr_zero] at H1
  refine r_bnSF (r_vf (r_nc (r_fo0 (r_ld 1 H1 rfl rfl (r_neq (r_vfN rfl (r_nc (r_fo0 (r_ld 1 H1 rfl rfl ?_)))))))))
  refine Decode_spec H1 hl fun w2 S2 H2 => ?_
  cases hd : dec B with
  | no e =>
    rw [hd] at k
    refine r_ex30 (r_ex31 (r_ex32 ?_))
    refine r_new H2 fun fb w3 S3 H3 => ?_
    rw [fr_zero] at H3
    refine r_stA 0 H3 (vs := cellsF fr0) rfl (Nat.le_refl 3) rfl rfl fun w4 S4 H4 => ?_
    replace H4 : Holds w4 (blk fb tFr (cellsF fr0) :: blk b tFr (cellsF fr0) :: blk p tPa (paC B 0) :: L) := H4
    have S := S1.trans (S2.trans (S3.trans S4))
    refine r_join1 (fun v w' => w4 = w' ∧ v = .bool (decide (e = 35 ∨ e = 2))) ?_ ?_
    rotate_left
    · refine r_eql (r_ifE (fun h => r_ke ⟨rfl, by rw [decide_eq_true (.inl (by omega))]⟩) fun h => r_eql (r_ke ⟨rfl, congrArg Value.bool ?_⟩))
      rw [Bool.eq_iff_iff, decide_eq_true_iff, beq_iff_eq]
      omega
    rintro _ _ _ ⟨rfl, rfl⟩
    refine r_ifD (fun h => ?_) fun h => ?_
    · have H5 : Holds w4 (blk p tPa (paC B 0) :: blk fb tFr (cellsF fr0) :: blk b tFr (cellsF fr0) :: L) := by have h_ := Holds.ord 3 [2, 0, 1] H4 rfl; exact h_
      refine fail_spec H5 fun w5 S5 H6 => ?_
      refine r_ex30 (r_ex31 (r_ex32 ?_))
      refine r_stA 2 H6 (vs := cellsF fr0) rfl (Nat.le_refl 3) rfl rfl fun w6 S6 H7 => ?_
      refine r_ldA 2 H7 (cellsF fr0) rfl rfl rfl ?_
      have := k w6 (S.trans (S5.trans S6)) (by simp only [nextB, nextE]; rw [if_neg (by omega), if_neg (by omega)]; exact Holds.dropAt (Holds.dropAt H7 1) 1)
      simp only [nextV] at this
      rw [if_neg (by omega)] at this
      exact this
    · have he : e = 3 := by have := dec_no hd; omega
      subst he
      have H5 : Holds w4 (blk p tPa (paC B 0) :: blk fb tFr (cellsF fr0) :: blk b tFr (cellsF fr0) :: L) := by have h_ := Holds.ord 3 [2, 0, 1] H4 rfl; exact h_
      refine tooLong_spec H5 (fun h9 => dec_long (by rw [hd]; simp) (by rw [hd]; simp) h9) ?_
      refine r_vf (r_eql (r_vtE rfl ?_))
      refine r_bd (v := .agg (cellsF fr0).toArray) (by kernel_rfl) ?_
      refine r_stA 1 H4 (vs := cellsF fr0) rfl (Nat.le_refl 3) rfl rfl fun w6 S6 H7 => ?_
      refine r_ldA 1 H7 (cellsF fr0) rfl rfl rfl ?_
      exact k w6 (S.trans S6) H7.drop.drop
  | ok f n =>
    rw [hd] at k
    obtain ⟨hn, _⟩ := dec_ok hd
    refine r_ex30 (r_ex31 (r_ex32 ?_))
    refine r_new H2 fun fb w3 S3 H3 => ?_
    rw [fr_zero] at H3
    refine r_stA 0 H3 (vs := cellsF f) rfl (Nat.le_refl 3) rfl rfl fun w4 S4 H4 => ?_
    replace H4 : Holds w4 (blk fb tFr (cellsF f) :: blk b tFr (cellsF fr0) :: blk p tPa (paC B 0) :: L) := H4
    have S := S1.trans (S2.trans (S3.trans S4))
    refine r_join1 (fun v w' => w4 = w' ∧ v = .bool false) ?_ ?_
    rotate_left
    · exact r_eql (r_vfE (by decide) (r_eql (r_ke ⟨rfl, rfl⟩)))
    rintro _ _ _ ⟨rfl, rfl⟩
    refine r_vf ?_
    have H5 : Holds w4 (blk p tPa (paC B 0) :: blk fb tFr (cellsF f) :: blk b tFr (cellsF fr0) :: L) := by have h_ := Holds.ord 3 [2, 0, 1] H4 rfl; exact h_
    refine tooLong_spec H5 (fun h9 => dec_long (by rw [hd]; simp) (by rw [hd]; simp) h9) ?_
    refine r_vf (r_eql (r_vfE (by decide) ?_))
    refine r_nc (r_fo0 (r_ld 2 H4 rfl rfl (q_D hn (r_nc (r_fo0 (r_st 2 H4 rfl (by simp) rfl fun w5 S5 H6 => ?_))))))
    replace H6 : Holds w5 (blk fb tFr (cellsF f) :: blk b tFr (cellsF fr0) :: blk p tPa (paC (B.drop n) 0) :: L) := H6
    refine r_ldA 0 H6 (cellsF f) rfl rfl rfl ?_
    refine r_stA 1 H6 (vs := cellsF f) rfl (Nat.le_refl 3) rfl rfl fun w6 S6 H7 => ?_
    refine r_ldA 1 H7 (cellsF f) rfl rfl rfl ?_
    exact k w6 (S.trans (S5.trans S6)) H7.drop.drop
end F33
end Go.Proofs.YtbhbdleffackaaaGreatDoor
