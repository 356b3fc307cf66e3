/- Several texts in one: R3b, O2a, Y2l, Y2e, O2B. -/
import Derived.Test.YtgaiocpkjaaphaaGreatDoorMG0
import Derived.Test.YtgaiocpkjaaphaaGreatDoorMG3
import Derived.Test.YtgaiocpkjaaphaaGreatDoorFm
import Derived.Test.YtgaiocpkjaaphaaGreatDoorMG1
import Derived.Test.YtgaiocpkjaaphaaGreatDoorMG2
set_option linter.unusedVariables false
set_option linter.unusedSimpArgs false
namespace Go.Proofs.YtgaiocpkjaaphaaGreatDoor
open Go Go.Vc
attribute [local irreducible] Vc.Nc Vc.Ld Vc.LdA Vc.St Vc.StA Vc.Fo Vc.Iaa Vc.Ias Vc.Ixs Vc.Ixa Vc.Fd Vc.FdA Vc.Bp Vc.Bb Vc.Bn Vc.Up Vc.Ci Vc.Lns Vc.Lnl Vc.Ex Vc.Sst Vc.Ssl Vc.New Vc.Vif Vc.VJoin Vc.VLoop Vc.KE Vc.Dr Vc.Rk Vc.Cl Vc.Cx Vc.Inv Vc.Be Vc.Cv Vc.Cw Vc.Mf Vc.Sl Vc.Lk Vc.Bd Vc.Bs Vc.Ms Vc.Mm Vc.Mu Vc.Me Vc.Es Vc.Rg Vc.Nx Vc.Ta Vc.Ap Vc.Usd Vc.Ust Vc.Cp Vc.Ln Vc.Bc Vc.Bmin Vc.Bmax Vc.Bdel Vc.Bclr Vc.Pk
namespace R3b
open Go.M02 Go.M03 Go.M3d
abbrev S_ (B : List UInt8) : Value := .string ⟨B.toArray⟩
abbrev pt (b : Nat) : Value := .pointer (some ⟨b, 0, none⟩)
abbrev tB : Nat := 5
variable {w : World} {L : List HProp} {K : Value -> World -> Prop} {b r : Nat} {s : Nat} {t : List UInt8}
abbrev tS : Nat := 233
def smC (s : Nat) : List Value := [] ++ (tabL.map uv ++ [uv s])
def SumR (b s : Nat) : HProp := fun h => s < 4294967296 /\ blk b tS (smC s) h
theorem SumR_open (H : Holds w (SumR b s :: L)) : s < 4294967296 /\ Holds w (blk b tS (smC s) :: L) := Holds.pure H
theorem SumR_close (h : s < 4294967296) (H : Holds w (blk b tS (smC s) :: L)) : Holds w (SumR b s :: L) := Holds.imp H fun _ hh => ⟨h, hh⟩
theorem sm256 : (smC s)[256]? = some (uv s) := by
 have := mid_post (f := uv) (xs := tabL) (post := [uv s]) (j := 0) [] tabL_len; exact this
theorem smget {i : Nat} (h : i < 256) : (smC s)[0 + i]? = some (uv (crcTab i)) := mid_get (f := uv) [] (tabL_get i h)
theorem smset (v : Nat) : (smC s).set 256 (uv v) = smC v := by
 have := mid_pset (f := uv) (xs := tabL) (post := [uv s]) (j := 0) [] (uv v) tabL_len; exact this
theorem smlen : (smC s).length = 257 := by
 unfold smC; rw [List.nil_append, List.length_append, List.length_map, tabL_len]; rfl
theorem New_spec (H : Holds w L) (k : ∀ b w', Same w w' -> Holds w' (SumR b 4294967295 :: L) -> K (pt b) w') : Cl Tryz.prog 122 #[] w K := by
 refine Tz122 ?_; unfold Vz122; refine W02.Table_spec H fun w1 S1 H1 => ?_; refine r_bd (v := .agg (smC 4294967295).toArray) (by kernel_rfl) ?_; refine r_new H1 fun b w2 S2 H2 => ?_; exact k b _ (S1.trans S2) (SumR_close (by decide) H2)
theorem step_spec {c : UInt8} (H : Holds w (blk b tS (smC s) :: L)) (hs : s < 4294967296) (k : K (uv (crcB s c)) w) : Cl Tryz.prog 217 #[pt b, uv s, bv c] w K := by
 refine Tz217 ?_; unfold Vz217; have hc := c.toNat_lt; refine r_shlU32 (n := 8) (by omega) ?_; refine r_shrU (n := 24) (by decide) ?_; have h24 : s / 2 ^ 24 = s / 16777216 := rfl; rw [h24]; have hh : s / 16777216 ^^^ c.toNat < 256 := Nat.xor_lt_two_pow (n := 8) (by omega) (by omega)
 repeat (refine r_ciu8 (by omega) (by omega) ?_)
 refine r_xorU8 (by omega) (by omega) ?_; refine r_nc (r_iaaN (by omega) ?_); refine r_ld 0 H rfl (smget hh) ?_; have ht : crcTab (s / 16777216 ^^^ c.toNat) < 4294967296 := crcN_lt _ (by omega) 8; refine r_xorU32 (by omega) ht ?_; rw [crcB_tab hs]; exact k
theorem Put_spec {c : UInt8} (H : Holds w (SumR b s :: L)) (k : ∀ w', Same w w' -> Holds w' (SumR b (crcB s c) :: L) -> K (.tuple #[]) w') : Cl Tryz.prog 170 #[pt b, bv c] w K := by
 refine Tz170 ?_; unfold Vz170; obtain ⟨hs, H⟩ := SumR_open H; have S := Same.refl w
 repeat (first | ((with_reducible apply r_ld 0 H); (exact rfl); (with_reducible exact (sm256))) | refine r_nc ?_ | refine r_fo0 ?_ | (with_reducible refine r_bnST ?_) | (with_reducible refine r_vt ?_) | (refine r_dr H ?_; clear H; intro _ S_ H; replace S := S.trans S_; clear S_))
 refine step_spec H hs ?_
 repeat (first | refine r_nc ?_ | refine r_fo0 ?_)
 refine r_st 0 H rfl (by rw [smlen]; omega) rfl fun w2 S2 H2 => ?_; rw [List.set_cons_zero, smset] at H2; exact k _ (S.trans S2) (SumR_close (crcB_lt hs c) H2)
theorem getD_take {t : List UInt8} {i : Nat} (h : i < t.length) : t.take (i + 1) = t.take i ++ [t.getD i 0] := by
 rw [List.take_add_one, List.getElem?_eq_getElem h, List.getD_eq_getElem?_getD, List.getElem?_eq_getElem h]; rfl
theorem Of_spec (H : Holds w L) (ht : t.length <= 1000000000) (k : ∀ w', Same w w' -> Holds w' L -> K (uv (crcOf t)) w') : Cl Tryz.prog 64 #[S_ t] w K := by
 refine Tz64 ?_; unfold Vz64; refine New_spec H fun b w1 S1 H1 => ?_; refine r_cl (K := fun _ w' => Same w w' /\ Holds w' (SumR b (crcF 4294967295 t) :: L)) ?_ ?_
 ·refine Tz123 ?_; unfold Vz123
  have hs : (⟨t.toArray⟩ : ByteArray).size = t.length := by show t.toArray.size = _; simp
  repeat (refine r_lns ?_)
  rw [hs]; refine r_loop1 (fun x w' => ∃ i : Nat, i <= t.length /\ x = nv i /\ Same w w' /\ Holds w' (SumR b (crcF 4294967295 (t.take i)) :: L)) (fun x _ => t.length - (RowKit.intOf x).toNat) ⟨0, by omega, rfl, S1, H1⟩ ?_; clear H H1 S1; rintro _ _ w2 ⟨i, hi, rfl, S, H⟩
  repeat (refine r_lss ?_)
  refine r_ifD (fun h => ?_) fun h => ?_
  ·have hlt : i < t.length := by omega
   repeat (refine r_ixsN (by omega) ?_)
   refine Put_spec (c := t.getD i 0) H fun w3 S3 H3 => ?_
   repeat (first | refine r_ke ?_ | (refine r_add1N (by omega) ?_))
   refine ⟨⟨i + 1, by omega, rfl, S.trans S3, ?_⟩, ?_⟩
   ·rw [getD_take hlt, crcF_snoc]; exact H3
   ·simp [nv, RowKit.intOf]; omega
  ·obtain rfl : i = t.length := by omega
   rw [List.take_length] at H; exact ⟨S, H⟩
 rintro _ w2 ⟨S, H⟩; refine Tz124 ?_; unfold Vz124; obtain ⟨hs, H⟩ := SumR_open H
 repeat (first | ((with_reducible apply r_ld 0 H); (exact rfl); (with_reducible exact (sm256))) | refine r_nc ?_ | refine r_fo0 ?_ | (with_reducible refine r_bnSF ?_) | (with_reducible refine r_vf ?_))
 refine r_upxU32 hs ?_; exact k _ S H.drop
theorem take_spec {v : Value} {c : UInt8} {n : Nat} (H : Holds w (blk b 54 [v] :: SL bv tB v t :: L)) (hn : n <= 255) (ht : t.length <= 1000000000)
  (k : ∀ v' w', Same w w' -> Holds w' (blk b 54 [v'] :: SL bv tB v' (t ++ List.replicate n c) :: L) -> K (.tuple #[]) w') : Cl Tryz.prog 121 #[bv c, nv n, pt b] w K := by
 refine Tz121 ?_; unfold Vz121; refine r_loop1 (fun x w' => ∃ i v', i <= n /\ x = nv i /\ Same w w' /\ Holds w' (blk b 54 [v'] :: SL bv tB v' (t ++ List.replicate i c) :: L)) (fun x _ => n - (RowKit.intOf x).toNat) ⟨0, v, by omega, rfl, .refl w, by rw [List.replicate_zero, List.append_nil]; exact H⟩ ?_; clear H; rintro _ _ w1 ⟨i, v', hi, rfl, S, H⟩
 repeat (refine r_lss ?_)
 refine r_ifD (fun h => ?_) fun h => ?_
 ·repeat (refine r_ld 0 H rfl rfl ?_)
  refine r_app1 H 1 rfl c (fun _ => rfl) (by rw [List.length_append, List.length_replicate]; omega) fun v2 w2 S2 H2 => ?_; rw [List.set_cons_succ, List.set_cons_zero, List.append_assoc] at H2; refine r_st 0 H2 rfl (by simp) (SL_sg H2 1 rfl) fun w3 S3 H3 => ?_; replace H3 : Holds w3 (blk b 54 [v2] :: SL bv tB v2 (t ++ (List.replicate i c ++ [c])) :: L) := H3
  repeat (first | refine r_ke ?_ | (refine r_add1N (by omega) ?_))
  refine ⟨⟨i + 1, v2, by omega, rfl, (S.trans S2).trans S3, ?_⟩, ?_⟩
  ·rw [List.replicate_succ']; exact H3
  ·simp [nv, RowKit.intOf]; omega
 ·obtain rfl : i = n := by omega
  exact k _ _ S H
theorem Decode_spec {s : List UInt8} (H : Holds w L) (hs : s.length <= 1000000)
  (kb : rle s = none -> ∀ e w', e ≠ 0 -> Same w w' -> Holds w' L -> K (.tuple #[S_ [], iv e]) w')
  (k : ∀ t, rle s = some t -> ∀ w', Same w w' -> Holds w' L -> K (.tuple #[S_ t, iv 0]) w') : Cl Tryz.prog 63 #[S_ s] w K := by
 refine Tz63 ?_; unfold Vz63
 have hz : (zeroP Tryz.prog 54).cells.toList = [.slice none 0 0] := by kernel_rfl
 refine r_new H fun b w1 S1 H1 => ?_; rw [hz] at H1; refine r_mf (.func (.func 121) #[] #[pt b]) (by kernel_rfl) ?_; refine r_cl (K := fun x w' => Same w w' /\ ((rle s = none /\ (x = iv 24 \/ x = iv 25) /\ Holds w' L) \/ ∃ t v, rle s = some t /\ x = iv 0 /\ Holds w' (blk b 54 [v] :: SL bv tB v t :: L))) ?_ ?_
 ·refine Tz120 ?_; unfold Vz120
  have hsz : ∀ _ : Unit, (⟨s.toArray⟩ : ByteArray).size = s.length := fun _ => by show s.toArray.size = _; simp
  repeat (refine r_lns ?_)
  rw [hsz ()]
  have call : ∀ {c : UInt8} {n : Nat} {w : World} {K : Value -> World -> Prop} {v : Value} {t : List UInt8} (H : Holds w (blk b 54 [v] :: SL bv tB v t :: L)) (hn : n <= 255) (ht : t.length <= 1000000000)
    (k : ∀ v' w', Same w w' -> Holds w' (blk b 54 [v'] :: SL bv tB v' (t ++ List.replicate n c) :: L) -> K (.tuple #[]) w'),
    Inv Tryz.prog (do let d <- Deferred.ofValue (.func (.func 121) #[] #[pt b]) #[bv c, nv n]; invoke d.target d.args) w K := fun H hn ht k =>
   r_inv (f := 121) (args := #[bv _, nv _, pt b]) (by kernel_rfl) (take_spec H hn ht k)
  refine r_loop2 (fun rn x w' => ∃ (i run : Nat) (p : UInt8) (out : List UInt8) (v : Value), i <= s.length /\ run <= 4 /\ x = nv i /\ rn = nv run /\ (0 < run -> 0 < i /\ p = s.getD (i - 1) 0) /\ out.length <= 255 * i /\ rleA out run p (s.drop i) = rle s /\ Same w w' /\ Holds w' (blk b 54 [v] :: SL bv tB v out :: L))
   (fun _ x _ => s.length - (RowKit.intOf x).toNat) ⟨0, 0, 0, [], .slice none 0 0, by omega, by omega, rfl, rfl, fun h => absurd h (Nat.lt_irrefl 0), by simp, rfl, S1, (H1.nilSL bv tB).swap⟩ ?_
  clear H H1 S1; rintro _ _ _ w2 ⟨i, run, p, out, v, hi, hr, rfl, rfl, hp, hout, hrle, S, H⟩
  repeat (refine r_lss ?_)
  refine r_ifD (fun h => ?_) fun h => ?_
  ·have hlt : i < s.length := by omega
   have hd : s.drop i = s.getD i 0 :: s.drop (i + 1) := by
    rw [List.getD_eq_getElem?_getD, List.getElem?_eq_getElem hlt]; exact (List.getElem_cons_drop hlt).symm
   have hsi : (⟨s.toArray⟩ : ByteArray).data.toList.getD i 0 = s.getD i 0 := by simp
   have hsi1 : (⟨s.toArray⟩ : ByteArray).data.toList.getD (i - 1) 0 = s.getD (i - 1) 0 := by simp
   rw [hd] at hrle; unfold rleA at hrle; refine r_join1 (fun x w' => ∃ (run' : Nat), run' <= 4 /\ 0 < run' /\ x = nv run' /\ rleA (out ++ [s.getD i 0]) run' (s.getD i 0) (s.drop (i + 1)) = rle s /\ Same w w' /\ Holds w' (blk b 54 [v] :: SL bv tB v out :: L)) ?_ ?_
   ·clear H S hrle; rintro _ _ w3 ⟨run', hr', hr0, rfl, hrle, S, H⟩; refine r_ixsN (by rw [hsz ()]; exact hlt) ?_; rw [hsi]; refine call (c := s.getD i 0) (n := 1) H (by omega) (by omega) fun v2 w4 S4 H4 => ?_
    repeat (first | refine r_ke ?_ | (refine r_add1N (by omega) ?_))
    refine ⟨⟨i + 1, run', s.getD i 0, out ++ [s.getD i 0], v2, by omega, hr', rfl, rfl, fun _ => ⟨by omega, by rw [Nat.add_sub_cancel]⟩, by rw [List.length_append, List.length_singleton]; omega, hrle, S.trans S4, H4⟩, ?_⟩; simp [nv, RowKit.intOf]; omega
   ·refine r_eql (r_ifE (fun h4 => ?_) fun h4 => ?_)
    ·have h4' : run = 4 := by omega
     rw [if_pos h4'] at hrle; have hp2 := hp (by omega); refine r_ixsN (by rw [hsz ()]; exact hlt) ?_; rw [hsi]
     repeat (refine r_gtr ?_)
     refine r_ifD (fun hb => ?_) fun hb => ?_
     ·rw [if_pos (by omega)] at hrle; exact ⟨S, .inl ⟨hrle.symm, .inr rfl, H.drop.drop⟩⟩
     ·rw [if_neg (by omega)] at hrle
      repeat (first | (refine r_sub1N (by omega) (by omega) ?_) | (refine r_dr H ?_; clear H; intro _ S_ H; replace S := S.trans S_; clear S_))
      refine r_ixsN (by rw [hsz ()]; omega) ?_; rw [hsi1]; refine r_ixsN (by rw [hsz ()]; exact hlt) ?_; rw [hsi]
      repeat (refine r_ci64 (by omega) (by omega) ?_)
      refine call (c := s.getD (i - 1) 0) (n := (s.getD i 0).toNat) H (by omega) (by omega) fun v2 w4 S4 H4 => ?_; rw [hp2.2] at hrle
      repeat (first | refine r_ke ?_ | (refine r_add1N (by omega) ?_))
      refine ⟨⟨i + 1, 0, s.getD i 0, _, v2, by omega, by omega, rfl, rfl, fun h => absurd h (Nat.lt_irrefl 0), by rw [List.length_append, List.length_replicate]; omega, hrle, S.trans S4, H4⟩, ?_⟩; simp [nv, RowKit.intOf]; omega
    ·have h4' : run ≠ 4 := by omega
     rw [if_neg h4'] at hrle; refine r_join1 (fun x w' => x = .bool (decide (0 < run /\ s.getD i 0 = p)) /\ Same w w' /\ Holds w' (blk b 54 [v] :: SL bv tB v out :: L)) ?_ ?_
     ·clear H S; rintro _ _ w3 ⟨rfl, S, H⟩; refine r_ifD (fun hc => ?_) fun hc => ?_
      ·rw [if_pos hc] at hrle
       repeat (first | refine r_ke ?_ | (refine r_add1N (by omega) ?_))
       exact ⟨run + 1, by omega, by omega, rfl, hrle, S, H⟩
      ·rw [if_neg hc] at hrle
       repeat (refine r_ke ?_)
       exact ⟨1, by omega, by omega, rfl, hrle, S, H⟩
     ·repeat (first | refine r_gtr ?_ | (refine r_dr H ?_; clear H; intro _ S_ H; replace S := S.trans S_; clear S_))
      refine r_ifD (fun h0 => ?_) fun h0 => ?_
      ·have hp2 := hp (by omega); refine r_ixsN (by rw [hsz ()]; exact hlt) ?_; rw [hsi]
       repeat (refine r_sub1N (by omega) (by omega) ?_)
       refine r_ixsN (by rw [hsz ()]; omega) ?_; rw [hsi1, <- hp2.2]
       repeat (first | refine r_ke ?_ | refine r_eql ?_)
       refine ⟨?_, S, H⟩; refine congrArg Value.bool ?_; rw [Bool.eq_iff_iff, beq_iff_eq, decide_eq_true_iff]
       constructor
       ·intro h; exact ⟨by omega, UInt8.toNat_inj.1 (by omega)⟩
       ·rintro ⟨_, h⟩; rw [h]
      ·repeat (refine r_ke ?_)
       refine ⟨?_, S, H⟩; rw [decide_eq_false (by omega)]
  ·obtain rfl : i = s.length := by omega
   rw [List.drop_length] at hrle; unfold rleA at hrle; refine r_eql (r_ifE (fun h4 => ?_) fun h4 => ?_)
   ·rw [if_pos (by omega)] at hrle; exact ⟨S, .inl ⟨hrle.symm, .inl rfl, H.drop.drop⟩⟩
   ·rw [if_neg (by omega)] at hrle; exact ⟨S, .inr ⟨out, v, hrle.symm, rfl, H⟩⟩
 rintro _ w2 ⟨S, ⟨hn, hx, H⟩ | ⟨t, v, ht, rfl, H⟩⟩
 ·rcases hx with rfl | rfl
  ·repeat (first | refine r_neq ?_ | ((with_reducible refine r_vtN ?h ?_); (case h => omega)))
   exact kb hn 24 _ (by decide) S H
  ·repeat (first | refine r_neq ?_ | ((with_reducible refine r_vtN ?h ?_); (case h => omega)))
   exact kb hn 25 _ (by decide) S H
 ·repeat (first | refine r_neq ?_ | refine r_ld 0 H rfl rfl ?_ | ((with_reducible refine r_vfN ?h ?_); (case h => omega)))
  obtain ⟨oa, sp, rfl, H3⟩ := H.open 1 rfl; refine r_cbs H3 1 rfl rfl ?_; exact k _ ht _ S H.drop.drop
end R3b
namespace O20
open Go.M02 Go.M03 Go.M3d Go.M18 Go.M20 R3b
variable {w : World} {L : List HProp} {K : Value -> World -> Prop}
theorem Bits_spec {s : Nat} (hs : s < 4294967296) (k : K (uv (crcN s 8)) w) : Cl Tryz.prog 114 #[uv s] w K := by
 refine Tz114 ?_; unfold Vz114; refine r_loop2 (fun x i w' => ∃ j : Nat, j <= 8 /\ i = nv j /\ x = uv (crcN s j) /\ w = w') (fun _ i _ => 8 - (RowKit.intOf i).toNat) ⟨0, by omega, rfl, rfl, rfl⟩ ?_; rintro _ _ _ _ ⟨j, hj, rfl, rfl, rfl⟩; have hb := crcN_lt hs j
 repeat (refine r_lss ?_)
 refine r_ifD (fun h => ?_) fun h => ?_
 ·refine r_geq ?_; refine r_ifD (fun h2 => ?_) fun h2 => ?_
  ·refine r_subU32 (t := 2147483648) (by omega) (by omega) ?_; refine r_mulU32 (t := 2) (by omega) ?_; refine r_xorU32 (t := 79764919) (by omega) (by decide) ?_
   repeat (first | refine r_ke ?_ | (refine r_add1N (by omega) ?_))
   refine ⟨⟨j + 1, by omega, rfl, ?_, rfl⟩, ?_⟩
   ·rw [crcN_snoc, crcStep_high (by omega) hb]
   ·simp [nv, RowKit.intOf]; omega
  ·refine r_mulU32 (t := 2) (by omega) ?_
   repeat (first | refine r_ke ?_ | (refine r_add1N (by omega) ?_))
   refine ⟨⟨j + 1, by omega, rfl, ?_, rfl⟩, ?_⟩
   ·rw [crcN_snoc, crcStep_low (by omega)]
   ·simp [nv, RowKit.intOf]; omega
 ·obtain rfl : j = 8 := by omega
  exact k
theorem Step_spec {s : Nat} {c : UInt8} (hs : s < 4294967296) (k : K (uv (crcB s c)) w) : Cl Tryz.prog 56 #[uv s, bv c] w K := by
 refine Tz56 ?_; unfold Vz56; have hc := c.toNat_lt
 repeat (refine r_ciu32 (by omega) (by omega) ?_)
 refine r_mulU32 (s := c.toNat) (t := 16777216) (by omega) ?_; refine r_xorU32 hs (by omega) ?_; exact Bits_spec (Nat.xor_lt_two_pow (n := 32) (by omega) (by omega)) k
theorem ROf_spec {t : List UInt8} (ht : t.length <= 1000000000) (k : K (uv (crcOf t)) w) : Cl Tryz.prog 20 #[S_ t] w K := by
 refine Tz20 ?_; unfold Vz20
 have hs : (⟨t.toArray⟩ : ByteArray).size = t.length := by show t.toArray.size = _; simp
 have hg : ∀ i, (⟨t.toArray⟩ : ByteArray).data.toList.getD i 0 = t.getD i 0 := fun i => by simp
 refine r_loop2 (fun x i w' => ∃ j : Nat, j <= t.length /\ i = nv j /\ x = uv (crcF 4294967295 (t.take j)) /\ w = w') (fun _ i _ => t.length - (RowKit.intOf i).toNat) ⟨0, by omega, rfl, rfl, rfl⟩ ?_; rintro _ _ _ _ ⟨j, hj, rfl, rfl, rfl⟩; have hb := crcF_lt (t.take j) (s := 4294967295) (by decide)
 repeat (first | refine r_lns ?_ | refine r_lss ?_)
 rw [hs]; refine r_ifD (fun h => ?_) fun h => ?_
 ·refine r_ixsN (by rw [hs]; omega) ?_; rw [hg]; refine Step_spec hb ?_
  repeat (first | refine r_ke ?_ | (refine r_add1N (by omega) ?_))
  refine ⟨⟨j + 1, by omega, rfl, ?_, rfl⟩, ?_⟩
  ·rw [getD_take (by omega), crcF_snoc]
  ·simp [nv, RowKit.intOf]; omega
 ·obtain rfl : j = t.length := by omega
  rw [List.take_length] at hb ⊢; refine r_subU32 (s := 4294967295) (by omega) (by omega) ?_; exact k
def sz : Value -> Nat
 | .string b => b.size
 | _ => 0
abbrev gotV (l : List UInt8) (o s : Int) : List Value := [S_ l, iv o, .int .u32 s]
abbrev tG : Nat := 34
abbrev tH : Nat := 37
theorem Open_spec {l : List UInt8} {o s : Int} (H : Holds w L) (hl : l.length <= 900000) (k : ∀ w', Same w w' -> Holds w' L -> K (.tuple #[S_ (opn l o s).1, iv (opn l o s).2]) w') : Cl Tryz.prog 23 #[.agg (gotV l o s).toArray] w K := by
 refine Tz23 ?_; unfold Vz23; refine r_new H fun b w1 S1 H1 => ?_; replace H1 : Holds w1 (blk b tG (gotV l o s) :: L) := H1; clear H; have H := H1; clear H1
 have hs : (⟨l.toArray⟩ : ByteArray).size = l.length := by show l.toArray.size = _; simp
 have hd : (⟨l.toArray⟩ : ByteArray).data.toList = l := by simp
 repeat (first | refine r_fo0 ?_ | refine r_ld 0 H rfl rfl ?_)
 refine U18.Of_spec (last := ⟨l.toArray⟩) H (fun h => ?_) (fun h => ?_) (fun h1 h2 h3 => ?_) fun n w2 h1 h2 h3 S2 H2 => ?_
 ·repeat (first | refine r_neq ?_ | (with_reducible refine r_ex20 ?_) | (with_reducible refine r_ex21 ?_) | ((with_reducible refine r_vtN ?h ?_); (case h => omega)))
  have := k w1 S1 H.drop; rw [show opn l o s = ([], 1) by unfold opn; rw [if_pos (by omega)]] at this; exact this
 ·omega
 ·repeat (first | refine r_neq ?_ | (with_reducible refine r_ex20 ?_) | (with_reducible refine r_ex21 ?_) | ((with_reducible refine r_vtN ?h ?_); (case h => omega)))
  have := k w1 S1 H.drop; rw [show opn l o s = ([], 23) by unfold opn; rw [if_neg (by omega), if_pos (by omega)]] at this; exact this
 ·rw [hd]; subst h1; have S := S1.trans S2; clear H S1 S2; have tl := text_len l n
  repeat (first | refine r_neq ?_ | (with_reducible refine r_ex20 ?_) | (with_reducible refine r_ex21 ?_) | ((with_reducible refine r_vfN ?h ?_); (case h => omega)))
  have e0 : opn l (n : Int) s = opnR s (rle (text l n)) := by
   unfold opn; rw [if_neg (by omega), if_neg (by omega), Int.toNat_natCast]
  rw [e0] at k; refine R3b.Decode_spec H2 (by omega) (fun hr e w3 he S3 H3 => ?_) fun t hr w3 S3 H3 => ?_
  ·rw [hr] at k; simp only [opnR] at k
   repeat (first | refine r_neq ?_ | (with_reducible refine r_ex20 ?_) | (with_reducible refine r_ex21 ?_) | ((with_reducible refine r_vtN ?h ?_); (case h => omega)))
   exact k _ (S.trans S3) H3.drop
  ·rw [hr] at k; simp only [opnR] at k; have htl := rleA_len _ _ _ _ _ hr; rw [tl] at htl; replace S := S.trans S3; clear H2 S3; have H := H3; clear H3
   repeat (first | refine r_neq ?_ | (with_reducible refine r_ex20 ?_) | (with_reducible refine r_ex21 ?_) | (refine r_dr H ?_; clear H; intro _ S_ H; replace S := S.trans S_; clear S_) | ((with_reducible refine r_vfN ?h ?_); (case h => omega)))
   refine R3b.Of_spec H (by simp at htl; omega) fun w5 S5 H5 => ?_
   repeat (first | refine r_rk (r_ld 0 H rfl rfl rfl) ?_ | refine r_ld 0 H5 rfl rfl ?_ | refine r_fo0 ?_ | refine r_neq ?_)
   refine r_ifN (fun h => ?_) fun h => ?_
   ·have := k _ (S.trans S5) H5.drop; rw [if_neg h] at this
    repeat (fail)
    exact this
   ·have := k _ (S.trans S5) H5.drop; rw [if_pos h] at this
    repeat (fail)
    exact this
end O20
namespace P20
open Go.M01 Go.Mb Go.Me Go.M02 Go.M03 Go.M3d Go.M18 Go.M20 Go.Mh T12 W14 W20
variable {w : World} {L : List HProp} {K : Value -> World -> Prop}
theorem read_back {xs t : List UInt8} {B : List Bool} {room : Nat} (h0 : xs ≠ []) (hl : xs.length <= room) (hr : room <= 900000) (hB : BodyBits xs (crcOf t) B) (ht : rle xs = some t) (rest : List Bool) :
  ∃ o held, (sortP xs xs.length)[o]? = some 0 /\ Q20.Comes room (B ++ rest) (.got (lastL xs) o (crcOf t) B.length held) /\ opn (lastL xs) (o : Int) ((crcOf t : Nat) : Int) = (t, 0) := by
 obtain ⟨o, picks, ts, ho, hC, rfl⟩ := hB; have hol := idx_lt_ ho; have hll := lastL_len xs; have hpos := List.length_pos_iff.2 h0; obtain ⟨held, hc⟩ := Y20.block_says (origin := o) (lastL_ne h0) (by omega) hr (by omega) (crcOf_lt t) hC rest; refine ⟨o, held, ho, hc, ?_⟩; unfold opn; rw [if_neg (by omega), if_neg (by omega), Int.toNat_natCast, text_back xs o hol ho, ht]; unfold opnR; simp only; rw [if_pos trivial]
theorem whole_rest (B : List Bool) : rest (wholeB (padB B)) 0 = B ++ List.replicate ((8 - B.length % 8) % 8) false := by
 unfold rest; rw [List.drop_zero, bitsL_whole (padB_len B).1]; rfl
theorem letter_of (H : Holds w L) (hb : BndOk L) (post : ∀ w', Same w w' -> Holds w' L -> K (.bool true) w') : Cl Tryz.prog 8 #[] w K := by
 refine Tz8 ?_; unfold Vz8
 have h97 : ([97] : List UInt8) ≠ [] := by simp
 refine W01.NewWriter_spec H fun wb w1 S1 H1 => ?_; refine O20.ROf_spec (t := [97]) (by decide) ?_; refine Write_spec (s := [97]) H1 hb h97 (by decide) (crcOf_lt _) (by simp) (by simp) fun B w2 hB S2 H2 => ?_; rw [List.nil_append] at H2; have hlen := hB.len h97 (by decide); refine W20.Len_spec H2 ?_; refine W20.Pad_spec H2 (by omega) (by omega) fun w3 S3 H3 => ?_; refine W01.Take_spec H3 fun w4 S4 H4 => ?_; rw [List.drop_zero]; have hpl := padB_len B; refine Rb.NewReader_spec (B := wholeB (padB B)) H4 (by rw [wholeB_len]; omega) fun r w5 S5 H5 => ?_; obtain ⟨o, held, ho, hc, hop⟩ := read_back (room := 5) h97 (by decide) (by decide) hB (t := [97]) (by decide) (List.replicate ((8 - B.length % 8) % 8) false); have hol : o < 1 := idx_lt_ ho
 obtain rfl : o = 0 := by omega
 have hlast : lastL [97] = [97] := by decide
 rw [<- whole_rest] at hc; refine B20.Read_spec (room := 5) H5 (by decide) (by decide) (fun e he w6 S6 H6 => ?_) fun last o2 u n held2 he w6 S6 H6 => ?_
 ·have := he.det hc; cases this
 have e := he.det hc; injection e with e1 e2 e3 e4 e5; subst e1; subst e2; subst e3; subst e4; rw [hlast] at hop ⊢; refine r_ex20 (r_ex21 ?_); refine r_new H6 fun g w7 S7 H7 => ?_; rw [B20.got_zero] at H7; refine r_stA 0 H7 (vs := B20.gotV [97] 0 (crcOf [97])) rfl (Nat.le_refl 3) rfl rfl fun w8 S8 H8 => ?_; replace H8 : Holds w8 (blk g B20.tGt (B20.gotV [97] 0 (crcOf [97])) :: Rb.RdR r (wholeB (padB B)) 0 (0 + B.length) :: W01.WrR wb (padB B) ((padB B).length / 8) :: L) := H8; refine r_ldA 0 H8 (B20.gotV [97] 0 (crcOf [97])) rfl rfl rfl ?_; refine O20.Open_spec (l := [97]) (o := ((0 : Nat) : Int)) (s := ((crcOf [97] : Nat) : Int)) H8 (by decide) fun w9 S9 H9 => ?_; rw [hop]; refine r_ex20 (r_ex21 ?_); refine r_eql (r_vtE rfl ?_); refine r_eql (r_vtE rfl ?_); refine r_eql (r_vtE rfl ?_); refine r_fo0 (r_ld 0 H9 rfl rfl ?_); refine r_seqL (xs := [97]) (ys := [97]) (r_vtD rfl ?_); refine r_fo0 (r_ld 0 H9 rfl rfl ?_); refine r_eql (r_vtE rfl ?_); refine r_seqL (xs := [97]) (ys := [97]) (r_vtD rfl ?_); refine Rb.At_spec H9.drop ?_; refine r_eql ?_; refine r_pkB (r_pkB ?_); rw [show (((0 + B.length : Nat) : Int) == ((B.length : Nat) : Int)) = true by rw [Nat.zero_add]; exact beq_self_eq_true _]; exact post w9 (S1.trans (S2.trans (S3.trans (S4.trans (S5.trans (S6.trans (S7.trans (S8.trans S9)))))))) H9.drop.drop.drop
end P20
namespace P20
open Go.M01 Go.Mb Go.Me Go.M03 Go.M3d P35
variable {w : World} {L : List HProp} {K : Value -> World -> Prop}
abbrev tPc : Nat := 86
def Fpc (x : UInt8 × Nat) : List Value := [bv x.1, nv x.2]
theorem Fpc_sg : ∀ y : UInt8 × Nat, ∀ u ∈ Fpc y, sg u = true := by
 intro y u hu; simp only [Fpc, List.mem_cons, List.not_mem_nil, or_false] at hu
 rcases hu with rfl | rfl <;> rfl
theorem pc_zero : (zeroP Tryz.prog tPc).cells.toList = [.int .u8 0, iv 0] := by kernel_rfl
instance rowPc : RowN Tryz.prog 83 tPc 2 := ⟨by kernel_rfl, ⟨Tryz.t86, .agg #[.int .u8 0, iv 0], by kernel_rfl, by kernel_rfl, by decide, by kernel_rfl, by kernel_rfl⟩⟩
theorem row_spec {s : List UInt8} (H : Holds w L) (h0 : s ≠ []) (hl : s.length <= 1000000) (k : ∀ n w', RunIs s n -> Same w w' -> Holds w' L -> K (nv n) w') : Cl Tryz.prog 113 #[S_ s] w K := by
 refine Tz113 ?_; unfold Vz113; have hpos := List.length_pos_iff.2 h0; refine r_loop1n (fun j x w' => ∃ n, j = 255 - n /\ x = nv n /\ n <= s.length /\ n <= 255 /\ s.take n = List.replicate n (s.getD 0 0) /\ Same w w' /\ Holds w' L) 255 ⟨0, rfl, rfl, by omega, by omega, rfl, .refl _, H⟩ ?_; clear H; rintro _ j _ w1 _ ⟨n, rfl, rfl, hn, h255, ht, S1, H1⟩ hgo; refine r_join1 (fun t w' => t = .bool (decide (n < s.length /\ n < 255 /\ s.getD n 0 = s.getD 0 0)) /\ Same w1 w' /\ Holds w' L) ?_ ?_
 rotate_left
 ·refine r_dr H1 fun w3 S3 H3 => ?_; refine q_len (r_lss (r_ifD (fun h1 => ?_) fun h1 => r_ke ⟨by rw [decide_eq_false (by omega)], S3, H3⟩)); refine r_lss (r_ifD (fun h2 => ?_) fun h2 => r_ke ⟨by rw [decide_eq_false (by omega)], S3, H3⟩); refine q_ix (by omega) (q_ix (m := 0) (by omega) ?_); refine r_eql (r_ke ⟨?_, S3, H3⟩)
  congr 1
  rw [Bool.eq_iff_iff, beq_iff_eq, decide_eq_true_iff]
  constructor
  ·intro e; exact ⟨by omega, by omega, UInt8.toNat_inj.1 (by omega)⟩
  ·rintro ⟨_, _, e⟩; rw [e]
 rintro _ _ w2 ⟨rfl, S2, H2⟩; refine r_ifD (fun h => ?_) fun h => ?_
 ·refine r_add1N (by omega) (r_ke (hgo (255 - (n + 1)) _ _ (by omega) ⟨n + 1, rfl, rfl, by omega, by omega, ?_, S1.trans S2, H2⟩)); rw [List.take_add_one, List.getElem?_eq_getElem h.1, ht, List.replicate_succ']; have := h.2.2; rw [List.getD_eq_getElem?_getD, List.getElem?_eq_getElem h.1] at this; simp only [Option.getD_some] at this; rw [this]; rfl
 ·refine k n _ ⟨?_, hn, h255, ht, fun h4 => ?_⟩ (S1.trans S2) H2
  ·rcases Nat.eq_zero_or_pos n with e | e
   ·subst e; exact absurd ⟨hpos, by omega, rfl⟩ h
   ·exact e
  ·by_cases q : n < s.length
   ·right; intro e; refine h ⟨q, by omega, ?_⟩; rw [<- e, List.getD_eq_getElem?_getD, List.getD_eq_getElem?_getD, List.getElem?_drop, Nat.add_zero]
   ·exact .inl (List.drop_of_length_le (by omega))
theorem Pieces_spec {s : List UInt8} (H : Holds w L) (hl : s.length <= 1000000) (k : ∀ v ps w', Pcs s ps -> Same w w' -> Holds w' (RW Fpc 2 tPc v ps :: L) -> K v w') : Cl Tryz.prog 54 #[S_ s] w K := by
 refine Tz54 ?_; unfold Vz54
 refine r_loop2n (fun j x y w' => ∃ t ps0, j = t.length /\ x = S_ t /\ t.length + ps0.length <= s.length /\ (∀ ps, Pcs t ps -> Pcs s (ps0 ++ ps)) /\ Same w w' /\ Holds w' (RW Fpc 2 tPc y ps0 :: L)) s.length
  ⟨s, [], rfl, rfl, by simp, fun ps hp => hp, .refl _, H.nilRW _ _ _⟩ ?_
 clear H; rintro _ j _ y w1 _ ⟨t, ps0, rfl, rfl, hlen, hcons, S1, H1⟩ hgo; refine q_len (r_gtr (r_ifD (fun h => ?_) fun h => ?_))
 ·have h0 : t ≠ [] := List.length_pos_iff.1 (by omega); refine row_spec H1 h0 (by omega) fun n w2 hn S2 H2 => ?_; have hp := hn.pos; have hle := hn.le; refine q_ix (m := 0) (by omega) ?_; refine r_bd (v := .agg #[bv (t.getD 0 0), nv n]) (by kernel_rfl) ?_; refine r_appN H2 0 (t.getD 0 0, n) rfl (by kernel_rfl) (fun y => rfl) Fpc_sg (by omega) (by decide) fun v' w3 S3 H3 => ?_; replace H3 : Holds w3 (RW Fpc 2 tPc v' (ps0 ++ [(t.getD 0 0, n)]) :: L) := H3; refine q_D hle (r_ke (hgo (t.drop n).length _ _ _ (by rw [List.length_drop]; omega) ⟨t.drop n, ps0 ++ [(t.getD 0 0, n)], rfl, rfl, by rw [List.length_drop, List.length_append, List.length_singleton]; omega, fun ps hp => ?_, S1.trans (S2.trans S3), H3⟩)); rw [List.append_assoc]; exact hcons _ (.cons hn hp)
 ·obtain rfl : t = [] := List.eq_nil_of_length_eq_zero (by omega); have := hcons [] .nil; rw [List.append_nil] at this; exact k y ps0 _ this S1 H1
theorem Piece_spec {x : UInt8 × Nat} (H : Holds w L) (h : 1 <= x.2 /\ x.2 <= 255) (k : ∀ w', Same w w' -> Holds w' L -> K (S_ (pieceB x)) w') : Cl Tryz.prog 55 #[.agg (Fpc x).toArray] w K := by
 refine Tz55 ?_; unfold Vz55; obtain ⟨a, n⟩ := x; simp only at h; refine r_new H fun b w1 S1 H1 => ?_; replace H1 : Holds w1 (blk b tPc [bv a, nv n] :: L) := H1; refine r_fo0 (r_ld 0 H1 rfl rfl ?_); refine r_loop2n (fun j s y w' => ∃ i, j = n - i /\ i <= n /\ s = S_ (List.replicate (min i 4) a) /\ y = nv i /\ Same w w' /\ Holds w' (blk b tPc [bv a, nv n] :: L)) n ⟨0, rfl, Nat.zero_le _, rfl, rfl, S1, H1⟩ ?_; clear H H1 S1; rintro _ j _ _ w2 _ ⟨i, rfl, hi, rfl, rfl, S2, H2⟩ hgo; refine r_lss (r_ifD (fun h1 => ?_) fun h1 => ?_)
 ·refine r_lss (r_ifD (fun h2 => ?_) fun h2 => ?_)
  ·refine r_fo0 (r_ld 0 H2 rfl rfl ?_); refine q_str H2 a fun w3 S3 H3 => ?_; refine r_catL (by simp; omega) ?_; refine r_add1N (by omega) (r_ke (hgo (n - (i + 1)) _ _ _ (by omega) ⟨i + 1, rfl, by omega, ?_, rfl, S2.trans S3, H3⟩)); rw [show min (i + 1) 4 = min i 4 + 1 by omega, List.replicate_succ']
  ·refine r_add1N (by omega) (r_ke (hgo (n - (i + 1)) _ _ _ (by omega) ⟨i + 1, rfl, by omega, ?_, rfl, S2, H2⟩)); rw [show min (i + 1) 4 = min i 4 by omega]
 ·obtain rfl : i = n := by omega
  refine r_fo0 (r_ld 0 H2 rfl rfl ?_); refine r_geq (r_ifD (fun h4 => ?_) fun h4 => ?_)
  ·refine r_fo0 (r_ld 0 H2 rfl rfl ?_); refine r_sub (by omega) (by omega) ?_; refine r_ciu8 (by omega) (by omega) ?_
   have e : ((i : Nat) : Int) - 4 = (((UInt8.ofNat (i - 4)).toNat : Nat) : Int) := by
    simp only [UInt8.toNat_ofNat']; rw [Nat.mod_eq_of_lt (by omega)]; omega
   rw [e]; refine q_str H2 (UInt8.ofNat (i - 4)) fun w3 S3 H3 => ?_; refine r_catL (by simp; omega) ?_; have := k w3 (S2.trans S3) H3.drop; unfold pieceB at this; simp only at this; rw [if_pos (by omega)] at this; exact this
  ·have := k w2 S2 H2.drop; unfold pieceB at this; simp only at this; rw [if_neg (by omega), List.append_nil] at this; exact this
theorem encB_len : ∀ ps : List (UInt8 × Nat), (encB ps).length <= 5 * ps.length
 | [] => Nat.zero_le _
 | x :: ps => by
  have h1 := encB_len ps; have h2 := pieceB_len x; unfold encB at h1 ⊢; rw [List.flatMap_cons, List.length_append, List.length_cons]; omega
theorem Encode_spec {s : List UInt8} (H : Holds w L) (hl : s.length <= 1000000) (k : ∀ ps w', Pcs s ps -> Same w w' -> Holds w' L -> K (S_ (encB ps)) w') : Cl Tryz.prog 19 #[S_ s] w K := by
 refine Tz19 ?_; unfold Vz19; refine Pieces_spec H hl fun v ps w1 hp S1 H1 => ?_; have hpl := hp.len; refine r_lnN 0 H1 rfl ?_; refine r_loop2n (fun j o y w' => ∃ i, j = ps.length - i /\ i <= ps.length /\ o = S_ (encB (ps.take i)) /\ y = nv i /\ Same w w' /\ Holds w' (RW Fpc 2 tPc v ps :: L)) ps.length ⟨0, rfl, Nat.zero_le _, rfl, rfl, S1, H1⟩ ?_; clear H H1 S1; rintro _ j _ _ w2 _ ⟨i, rfl, hi, rfl, rfl, S2, H2⟩ hgo; refine r_lss (r_ifD (fun h1 => ?_) fun h1 => ?_)
 ·have hlt : i < ps.length := by omega
  have hx : ps[i]? = some ps[i] := List.getElem?_eq_getElem hlt
  have he : ps.take (i + 1) = ps.take i ++ [ps[i]] := by rw [List.take_add_one, hx]; rfl
  have hok := hp.ok _ (List.getElem_mem hlt); generalize ps[i] = x at *; refine r_getN 0 H2 rfl hx (fun _ => rfl) ?_; refine r_new H2 fun b w3 S3 H3 => ?_; rw [pc_zero] at H3; refine r_stA 0 H3 (vs := Fpc x) rfl (Nat.le_refl 2) rfl rfl fun w4 S4 H4 => ?_; replace H4 : Holds w4 (blk b tPc (Fpc x) :: RW Fpc 2 tPc v ps :: L) := H4; refine r_ldA 0 H4 (Fpc x) rfl rfl rfl ?_; refine Piece_spec H4 hok fun w5 S5 H5 => ?_; have h5 := encB_len (ps.take i); have h6 := pieceB_len x; rw [List.length_take] at h5; refine r_catL (by omega) ?_; refine r_add1N (by omega) (r_ke (hgo (ps.length - (i + 1)) _ _ _ (by omega) ⟨i + 1, rfl, by omega, ?_, rfl, S2.trans (S3.trans (S4.trans S5)), H5.drop⟩)); rw [he, encB_snoc]
 ·obtain rfl : i = ps.length := by omega
  rw [List.take_length]; exact k ps _ hp S2 H2.drop
end P20
namespace P20
open Go.M01 Go.Mb Go.Me Go.M02 Go.M03 Go.M3d Go.M18 Go.M20 Go.Mh T12 W14 W20
variable {w : World} {L : List HProp} {K : Value -> World -> Prop}
theorem whole_rest2 (B : List Bool) (ys : List UInt8) : rest (wholeB (padB B) ++ ys) 0 = B ++ (List.replicate ((8 - B.length % 8) % 8) false ++ bitsL ys) := by
 unfold rest; rw [List.drop_zero, bitsL_app, bitsL_whole (padB_len B).1, <- List.append_assoc]; rfl
theorem BlockBack_spec (H : Holds w L) (t m : ByteArray) (_ : t.size <= maxLen) (_ : m.size <= maxLen) (hG : BndOk L) (post : ∀ w', Same w w' -> Holds w' L -> K (.bool true) w') :
  Cl Tryz.prog 5 #[.string t, .string m] w K := by
 refine Tz5 ?_; unfold Vz5; obtain ⟨xs, rfl⟩ : ∃ xs : List UInt8, t = ⟨xs.toArray⟩ := ⟨t.data.toList, by simp⟩; obtain ⟨ys, rfl⟩ : ∃ ys : List UInt8, m = ⟨ys.toArray⟩ := ⟨m.data.toList, by simp⟩; refine q_len (r_min ?_); rw [show min ((xs.length : Nat) : Int) 300 = ((min xs.length 300 : Nat) : Int) by omega]; refine q_T (by omega) ?_; refine Encode_spec H (by rw [List.length_take]; omega) fun ps w1 hp S1 H1 => ?_; refine r_join1 (fun x w' => w1 = w' /\ ∃ c : Bool, x = .bool c /\ (c = false -> xs.length <= 300 /\ xs ≠ [] /\ (encB ps).length <= 40 /\ ys.length <= 100)) ?_ ?_
 rotate_left
 ·refine q_len (r_gtr (r_ifD (fun h => r_ke ⟨rfl, true, rfl, fun e => by cases e⟩) fun h1 => ?_)); refine r_seq0 (r_ifD (fun h => r_ke ⟨rfl, true, rfl, fun e => by cases e⟩) fun h2 => ?_); rw [sz] at h2; refine q_len (r_gtr (r_ifD (fun h => r_ke ⟨rfl, true, rfl, fun e => by cases e⟩) fun h3 => ?_)); refine q_len (r_gtr (r_ke ⟨rfl, _, rfl, fun e => ?_⟩)); have h4 := of_decide_eq_false e; exact ⟨by omega, List.length_pos_iff.1 (by omega), by omega, by omega⟩
 rintro _ _ _ ⟨rfl, c, rfl, hc⟩; refine r_vif (fun h => letter_of H1 hG fun w2 S2 H2 => post w2 (S1.trans S2) H2) fun h => ?_; obtain ⟨hx, hx0, he, hy⟩ := hc h; clear h hc c; rw [List.take_of_length_le (by omega)] at hp
 have he0 : encB ps ≠ [] := by
  rcases hp.head with ⟨h1, h2⟩ | ⟨h1, h2, h3⟩
  ·exact absurd h1 hx0
  ·exact h2
 have hback := hp.back; have hpos := List.length_pos_iff.2 he0; generalize encB ps = es at *; refine O20.ROf_spec (t := xs) (by omega) ?_; refine W01.NewWriter_spec H1 fun wb w2 S2 H2 => ?_; refine Write_spec (s := es) H2 hG he0 (by omega) (crcOf_lt _) (by simp) (by simp) fun B w3 hB S3 H3 => ?_; rw [List.nil_append] at H3; have hlen := hB.len he0 (by omega); refine W20.Len_spec H3 ?_; refine W20.Pad_spec H3 (by omega) (by omega) fun w4 S4 H4 => ?_; refine W01.Take_spec H4 fun w5 S5 H5 => ?_; rw [List.drop_zero]; have hpl := padB_len B; refine r_catL (by rw [wholeB_len]; omega) ?_; refine Rb.NewReader_spec (B := wholeB (padB B) ++ ys) H5 (by rw [List.length_append, wholeB_len]; omega) fun r w6 S6 H6 => ?_; refine q_len (r_max ?_); rw [show max (5 : Int) ((es.length : Nat) : Int) = ((max 5 es.length : Nat) : Int) by omega]; obtain ⟨o, held, ho, hc, hop⟩ := read_back (room := max 5 es.length) he0 (by omega) (by omega) hB hback (List.replicate ((8 - B.length % 8) % 8) false ++ bitsL ys); rw [<- whole_rest2] at hc; refine B20.Read_spec (room := max 5 es.length) H6 (by omega) (by omega) (fun e he w7 S7 H7 => ?_) fun last o2 u n held2 he w7 S7 H7 => ?_
 ·have := he.det hc; cases this
 have e := he.det hc; injection e with e1 e2 e3 e4 e5; subst e1; subst e2; subst e3; subst e4; have hll := lastL_len es; refine r_ex20 (r_ex21 ?_); refine r_new H7 fun g w8 S8 H8 => ?_; rw [B20.got_zero] at H8; refine r_stA 0 H8 (vs := B20.gotV (lastL es) o2 (crcOf xs)) rfl (Nat.le_refl 3) rfl rfl fun w9 S9 H9 => ?_; replace H9 : Holds w9 (blk g B20.tGt (B20.gotV (lastL es) o2 (crcOf xs)) :: Rb.RdR r (wholeB (padB B) ++ ys) 0 (0 + B.length) :: W01.WrR wb (padB B) ((padB B).length / 8) :: L) := H9; refine r_ldA 0 H9 (B20.gotV (lastL es) o2 (crcOf xs)) rfl rfl rfl ?_; refine O20.Open_spec (l := lastL es) (o := ((o2 : Nat) : Int)) (s := ((crcOf xs : Nat) : Int)) H9 (by omega) fun wa Sa Ha => ?_; rw [hop]; refine r_ex20 (r_ex21 ?_); refine U18.TOf_spec (s := es) Ha (by omega) hpos fun o3 wc hol ho3 Sc Hc => ?_; obtain rfl := S17.sortP_idx ho ho3
 have hz : (zeroP Tryz.prog U18.tT).cells.toList = [.string ⟨#[]⟩, nv 0] := by kernel_rfl
 refine r_new Hc fun tb wd Sd Hd => ?_; rw [hz] at Hd; refine r_stA 0 Hd (vs := [S_ (lastL es), nv o2]) rfl (by decide) rfl rfl fun we Se He => ?_; replace He : Holds we (blk tb U18.tT [S_ (lastL es), nv o2] :: blk g B20.tGt (B20.gotV (lastL es) o2 (crcOf xs)) :: Rb.RdR r (wholeB (padB B) ++ ys) 0 (0 + B.length) :: W01.WrR wb (padB B) ((padB B).length / 8) :: L) := He; refine r_eql (r_vtE rfl ?_); refine r_eql (r_vtE rfl ?_); refine r_eql (r_vtE rfl ?_); refine r_seqL (xs := xs) (ys := xs) (r_vtD rfl ?_); refine r_fo0 (r_ld 1 He rfl rfl ?_); refine r_fo0 (r_ld 0 He rfl rfl ?_); refine r_seqL (xs := lastL es) (ys := lastL es) (r_vtD rfl ?_); refine r_fo0 (r_ld 1 He rfl rfl ?_); refine r_fo0 (r_ld 0 He rfl rfl ?_); refine r_eql (r_vtE rfl ?_); refine r_fo0 (r_ld 1 He rfl rfl ?_); refine r_eql (r_vtE rfl ?_); refine Rb.At_spec He.drop.drop ?_; refine r_eql (r_vtE (by omega) ?_); exact letter_of He hG.up.up.up.up fun wf Sf Hf => post wf (S1.trans (S2.trans (S3.trans (S4.trans (S5.trans (S6.trans (S7.trans (S8.trans (S9.trans (Sa.trans (Sc.trans (Sd.trans (Se.trans Sf))))))))))))) Hf.drop.drop.drop.drop
end P20
end Go.Proofs.YtgaiocpkjaaphaaGreatDoor
