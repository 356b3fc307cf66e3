/- Several texts in one: M3d, Me, Y20, B20, B21, B2r, R3b, O2a, Y2l, O2V. -/
import Derived.Test.YtgaiocpkjaaphaaGreatDoorMG3
import Derived.Test.YtgaiocpkjaaphaaGreatDoorMG1
import Derived.Test.YtgaiocpkjaaphaaGreatDoorMG0
import Derived.Test.YtgaiocpkjaaphaaGreatDoorMG2
import Derived.Test.YtgaiocpkjaaphaaGreatDoorFm
set_option linter.unusedVariables false
set_option linter.unusedSimpArgs false
namespace Go.M3d
open Go.M02 Go.M03
def four (s : List UInt8) : Prop := 4 <= s.length /\ s.getD 0 0 = s.getD 1 0 /\ s.getD 1 0 = s.getD 2 0 /\ s.getD 2 0 = s.getD 3 0
theorem crcStep_high {x : Nat} (h : 2147483648 <= x) (hx : x < 4294967296) : ((x - 2147483648) * 2) ^^^ 79764919 = crcStep x := by
 unfold crcStep; rw [show x / 2147483648 = 1 by omega, Nat.one_mul, show x * 2 % 4294967296 = (x - 2147483648) * 2 by omega]
theorem crcStep_low {x : Nat} (h : x < 2147483648) : x * 2 = crcStep x := by
 unfold crcStep; rw [show x / 2147483648 = 0 by omega, Nat.zero_mul, Nat.xor_zero, show x * 2 % 4294967296 = x * 2 by omega]
theorem crcStep_lt {x : Nat} : crcStep x < 4294967296 \/ 4294967296 <= x := by
 by_cases h : x < 4294967296
 ·left; unfold crcStep; refine Nat.xor_lt_two_pow (n := 32) (by omega) ?_
  have : x / 2147483648 < 2 := by omega
  have : x / 2147483648 * 79764919 <= 1 * 79764919 := Nat.mul_le_mul_right _ (by omega); omega
 ·right; omega
theorem crcN_snoc (s k : Nat) : crcN s (k + 1) = crcStep (crcN s k) := rfl
theorem crcN_lt {s : Nat} (h : s < 4294967296) : ∀ k, crcN s k < 4294967296
 | 0 => h
 | k + 1 => by
  rw [crcN_snoc]; rcases crcStep_lt (x := crcN s k) with h1 | h1
  ·exact h1
  ·have := crcN_lt h k; omega
end Go.M3d
namespace Go.Me
open Go.M01 Go.Mb Go.M03 Go.M3d Go.Mx
theorem bitsL_whole {l : List Bool} (h : l.length % 8 = 0) : bitsL (wholeB l) = l := by
 apply List.ext_getElem?; intro i; rcases Nat.lt_or_ge i l.length with q | q
 ·rw [bitsL_get _ _ (by rw [wholeB_len]; omega)]
  have hi : i / 8 < l.length / 8 := by omega
  have e1 : (wholeB l).getD (i / 8) 0 = byteAt l (i / 8) := by
   unfold wholeB; rw [List.getD_eq_getElem?_getD, List.getElem?_map, List.getElem?_range hi]; rfl
  have hq : ((l.drop (8 * (i / 8))).take 8).length = 8 := by rw [List.length_take, List.length_drop]; omega
  have hv := valB_lt ((l.drop (8 * (i / 8))).take 8); rw [hq] at hv
  have e2 : (byteAt l (i / 8)).toNat = valB ((l.drop (8 * (i / 8))).take 8) := by
   unfold byteAt; simp only [UInt8.toNat_ofNat']; exact Nat.mod_eq_of_lt hv
  have e3 := valB_bitL (q := (l.drop (8 * (i / 8))).take 8) (i := i % 8) (by rw [hq]; omega); rw [hq] at e3; rw [e1, e2, show 7 - i % 8 = 8 - 1 - i % 8 by omega, e3, List.getD_eq_getElem?_getD, List.getElem?_take_of_lt (by omega), List.getElem?_drop, show 8 * (i / 8) + i % 8 = i by omega, List.getElem?_eq_getElem q]; rfl
 ·rw [List.getElem?_eq_none q, List.getElem?_eq_none (by rw [bitsL_len, wholeB_len]; omega)]
structure RunIs (s : List UInt8) (n : Nat) : Prop where
 pos : 1 <= n
 le : n <= s.length
 n255 : n <= 255
 same : s.take n = List.replicate n (s.getD 0 0)
 fin : n < 4 -> s.drop n = [] \/ (s.drop n).getD 0 0 ≠ s.getD 0 0
def pieceB (x : UInt8 × Nat) : List UInt8 := List.replicate (min x.2 4) x.1 ++ if 4 <= x.2 then [UInt8.ofNat (x.2 - 4)] else []
inductive Pcs : List UInt8 -> List (UInt8 × Nat) -> Prop
 | nil : Pcs [] []
 | cons {s : List UInt8} {n : Nat} {ps : List (UInt8 × Nat)} (h : RunIs s n) (r : Pcs (s.drop n) ps) : Pcs s ((s.getD 0 0, n) :: ps)
def encB (ps : List (UInt8 × Nat)) : List UInt8 := ps.flatMap pieceB
end Go.Me
namespace Go.Proofs.YtgaiocpkjaaphaaGreatDoor
open Go Go.Vc
attribute [local irreducible] Vc.Nc Vc.Ld Vc.LdA Vc.St Vc.StA Vc.Fo Vc.Iaa Vc.Ias Vc.Ixs Vc.Ixa Vc.Fd Vc.FdA Vc.Bp Vc.Bb Vc.Bn Vc.Up Vc.Ci Vc.Lns Vc.Lnl Vc.Ex Vc.Sst Vc.Ssl Vc.New Vc.Vif Vc.VJoin Vc.VLoop Vc.KE Vc.Dr Vc.Rk Vc.Cl Vc.Cx Vc.Inv Vc.Be Vc.Cv Vc.Cw Vc.Mf Vc.Sl Vc.Lk Vc.Bd Vc.Bs Vc.Ms Vc.Mm Vc.Mu Vc.Me Vc.Es Vc.Rg Vc.Nx Vc.Ta Vc.Ap Vc.Usd Vc.Ust Vc.Cp Vc.Ln Vc.Bc Vc.Bmin Vc.Bmax Vc.Bdel Vc.Bclr Vc.Pk
namespace Y20
open Go.M01 Go.Mb Go.Mp Go.M10 Go.Mc Go.Mz Go.Q20 Go.Q21 Go.Mw Go.Mx Go.Mv Go.Ma T12 W14 W20
theorem rowsC_pre (l picks : List Nat) (ts : List (List Nat)) (j : Nat) : ∀ d, ∃ r, rowsC l picks ts (j + d) = rowsC l picks ts j ++ r
 | 0 => ⟨[], by simp⟩
 | d + 1 => by
  obtain ⟨r, hr⟩ := rowsC_pre l picks ts j d; exact ⟨r ++ W14.rowC l picks ts (j + d), by rw [<- Nat.add_assoc, rowsC_succ, hr, List.append_assoc]⟩
theorem code_back {l picks : List Nat} {ts : List (List Nat)} {size : Nat} (hR : W14.Row l size) (hC : Cho l size picks ts) (rest : List Bool) : ∃ c, CRun size (codeBits l picks ts ++ rest) c l (codeBits l picks ts).length /\ c.done = true := by
 obtain ⟨hT, hpl, hpx⟩ := hC.ok; have hW := cho_whole hR.s3 hC; have h3 := hR.s3; have hpos := List.length_pos_iff.2 hR.ne; have hlen := hR.len; have hgr : nGr l = (l.length + 49) / 50 := rfl; have hpn : picks ≠ [] := List.length_pos_iff.1 (by rw [hpl, hgr]; omega); obtain ⟨p, hp1, hp2, hp3, hp4⟩ := picks_back (t := ts.length) ⟨hT.n2, hT.n6⟩ hpn (by rw [hpl, hgr]; omega) hpx (ts.flatMap lensB ++ (rowsC l picks ts l.length ++ rest)); generalize hP : picksB picks ts.length = P at *
 have hcb : codeBits l picks ts = P ++ ts.flatMap lensB ++ rowsC l picks ts l.length := by unfold codeBits; rw [hP]
 have hQ : codeBits l picks ts ++ rest = P ++ (ts.flatMap lensB ++ (rowsC l picks ts l.length ++ rest)) := by rw [hcb]; simp only [List.append_assoc]
 rw [hQ]; generalize hq : P ++ (ts.flatMap lensB ++ (rowsC l picks ts l.length ++ rest)) = Q at *
 have key1 : ∀ u, u <= ts.length -> CRun size Q ⟨size, p, d0 size, ts.take u, 0, false⟩ [] (P.length + ((ts.take u).flatMap lensB).length) := by
  intro u
  induction u with
  | zero => intro _; exact picks_lift hp1
  | succ u ih =>
   intro hu; have ih := ih (by omega); have hmem : ts[u] ∈ ts := List.getElem_mem (by omega)
   have e : ts.take (u + 1) = ts.take u ++ [ts[u]] := by rw [List.take_add_one, List.getElem?_eq_getElem (by omega)]; rfl
   have e2 : ts = ts.take u ++ ts[u] :: ts.drop (u + 1) := by rw [<- List.drop_eq_getElem_cons (by omega), List.take_append_drop]
   have hdrop : Q.drop (P.length + ((ts.take u).flatMap lensB).length) = lensB ts[u] ++ ((ts.drop (u + 1)).flatMap lensB ++ (rowsC l picks ts l.length ++ rest)) := by
    have e3 : ts.flatMap lensB = (ts.take u).flatMap lensB ++ (lensB ts[u] ++ (ts.drop (u + 1)).flatMap lensB) := by
     conv => lhs; rw [e2]
     rw [List.flatMap_append, List.flatMap_cons]
    have e4 : Q = (P ++ (ts.take u).flatMap lensB) ++ (lensB ts[u] ++ ((ts.drop (u + 1)).flatMap lensB ++ (rowsC l picks ts l.length ++ rest))) := by
     rw [<- hq, e3]; simp only [List.append_assoc]
    rw [e4, <- List.length_append, List.drop_left]
   have hsz := hT.sz _ hmem; obtain ⟨d, hd1, hd2, hd3⟩ := lens_back (lens := ts[u]) (List.length_pos_iff.1 (by rw [hsz]; omega)) (hW _ hmem).sized ((ts.drop (u + 1)).flatMap lensB ++ (rowsC l picks ts l.length ++ rest)); rw [hsz, <- hdrop] at hd1; have hx := lens_lift (c := ⟨size, p, d0 size, ts.take u, 0, false⟩) hp4 (by show (ts.take u).length < p.t; rw [hp2, List.length_take]; omega) rfl rfl h3 ih hd1; rw [if_pos hd3, hd2, if_pos (hW _ hmem).share] at hx; rw [e, List.flatMap_append, List.length_append, <- Nat.add_assoc, List.flatMap_cons, List.flatMap_nil, List.append_nil]; exact hx
 have k1 := key1 ts.length (Nat.le_refl _); rw [List.take_length] at k1
 have key2 : ∀ i, i <= l.length -> CRun size Q ⟨size, p, d0 size, ts, i, decide (i = l.length)⟩ (l.take i) (P.length + (ts.flatMap lensB).length + (rowsC l picks ts i).length) := by
  intro i
  induction i with
  | zero =>
   intro _; rw [decide_eq_false (by omega)]; exact k1
  | succ i ih =>
   intro hi; have ih := ih (by omega)
   have e : l.take (i + 1) = l.take i ++ [l[i]] := by rw [List.take_add_one, List.getElem?_eq_getElem (by omega)]; rfl
   have hli : l.getD i 0 = l[i] := by rw [List.getD_eq_getElem?_getD, List.getElem?_eq_getElem (by omega)]; rfl
   obtain ⟨r, hr⟩ := rowsC_pre l picks ts (i + 1) (l.length - (i + 1)); rw [show i + 1 + (l.length - (i + 1)) = l.length by omega, rowsC_succ] at hr
   have hdrop : Q.drop (P.length + (ts.flatMap lensB).length + (rowsC l picks ts i).length) = W14.rowC l picks ts i ++ (r ++ rest) := by
    have e4 : Q = (P ++ ts.flatMap lensB ++ rowsC l picks ts i) ++ (W14.rowC l picks ts i ++ (r ++ rest)) := by
     rw [<- hq, hr]; simp only [List.append_assoc]
    rw [e4, <- List.length_append, <- List.length_append, List.drop_left]
   have hpi : i / 50 < picks.length := by rw [hpl, hgr]; omega
   have hpk : picks.getD (i / 50) 0 < ts.length := by
    rw [List.getD_eq_getElem?_getD, List.getElem?_eq_getElem hpi]; exact hpx _ (List.getElem_mem hpi)
   have hTm := T12.row_mem hpk; generalize hTT : ts.getD (picks.getD (i / 50) 0) [] = TT at *
   have hrc : W14.rowC l picks ts i = codeB TT l[i] := by unfold W14.rowC; rw [hTT, hli]
   have hsz := hT.sz _ hTm
   have hlx : l[i] < TT.length := by rw [hsz]; exact hR.lt _ (List.getElem_mem (by omega))
   have hcl : (codeB TT l[i]).length = TT.getD l[i] 0 := codeB_len _ _
   have hg := get_code (l := Q.drop (P.length + (ts.flatMap lensB).length + (rowsC l picks ts i).length)) (hW _ hTm) hlx (by rw [hdrop, hrc, List.length_append, hcl]; omega) (by
    rw [hdrop, hrc, <- hcl, List.take_left])
   have hx := sym_next (c := ⟨size, p, d0 size, ts, i, decide (i = l.length)⟩) (s := l[i]) (n := TT.getD l[i] 0) hp4 (by show ¬ ts.length < p.t; omega) (decide_eq_false (by omega)) (by show ¬ p.picks.length <= i / 50; rw [hp3]; omega) ih (by
    have ht : CS.table ⟨size, p, d0 size, ts, i, decide (i = l.length)⟩ = TT := by
     show ts.getD (p.picks.getD (i / 50) 0) [] = TT; rw [hp3, hTT]
    rw [ht]
    exact hg)
   have hfin := hR.fin i (by omega); rw [hli] at hfin
   have ed : readC ⟨size, p, d0 size, ts, i, decide (i = l.length)⟩ l[i] = ⟨size, p, d0 size, ts, i + 1, decide (i + 1 = l.length)⟩ := by
    have : decide (l[i] = size - 1) = decide (i + 1 = l.length) := by
     rw [decide_eq_decide, hfin]; omega
    show (⟨size, p, d0 size, ts, i + 1, decide (l[i] = size - 1)⟩ : CS) = _; rw [this]
   rw [ed] at hx; rw [e, rowsC_succ, List.length_append, hrc, hcl, <- Nat.add_assoc]; exact hx
 have k2 := key2 l.length (Nat.le_refl _); rw [List.take_length, decide_eq_true rfl] at k2; refine ⟨⟨size, p, d0 size, ts, l.length, true⟩, ?_, rfl⟩; rw [hcb, List.length_append, List.length_append]; exact k2
theorem block_says {s : List UInt8} {origin sum room : Nat} {picks : List Nat} {ts : List (List Nat)} (h0 : s ≠ []) (hl : s.length <= room) (hr : room <= 900000) (ho : origin < s.length) (hs : sum < 4294967296) (hC : Cho (W20.rowOf s) ((symsOf s).length + 2) picks ts) (rest : List Bool) :
  ∃ held, Q20.Comes room (blockBits s origin sum picks ts ++ rest) (.got s origin sum (blockBits s origin sum picks ts).length held) := by
 have hR := row_ok h0 (by omega); have hsy := syms_len h0; obtain ⟨T', hu, hT'⟩ := used_back (upT s) (codeBits (W20.rowOf s) picks ts ++ rest) (List.length_pos_iff.1 hsy.1); replace hT' : listed T' = symsOf s := hT'; obtain ⟨c, hc1, hc2⟩ := code_back hR hC rest; obtain ⟨pl1, pl2⟩ := places_ok s; obtain ⟨z, hz⟩ := zeros_back (n := (symsOf s).length) (room := room) hsy.1 pl2 (by omega); have hm := mtf_back (symsOf s) s fun c hc => mem_syms hc; have h32 : (bitsOf sum 32).length = 32 := bitsOf_len _ _; have h24 : (bitsOf origin 24).length = 24 := bitsOf_len _ _
 have hx : blockBits s origin sum picks ts ++ rest = bitsOf sum 32 ++ (false :: (bitsOf origin 24 ++ (usedB (upT s) ++ (codeBits (W20.rowOf s) picks ts ++ rest)))) := by
  unfold blockBits; simp only [List.append_assoc, List.cons_append, List.nil_append]
 have hbl : (blockBits s origin sum picks ts).length = 57 + (usedB (upT s)).length + (codeBits (W20.rowOf s) picks ts).length := by
  unfold blockBits; simp only [List.length_append, List.length_singleton, h32, h24]
 generalize hl0 : blockBits s origin sum picks ts ++ rest = l at *
 have e32 : l.take 32 = bitsOf sum 32 := by
  have := List.take_left (l₁ := bitsOf sum 32) (l₂ := false :: (bitsOf origin 24 ++ (usedB (upT s) ++ (codeBits (W20.rowOf s) picks ts ++ rest)))); rw [h32] at this; rw [hx]; exact this
 have ed32 : l.drop 32 = false :: (bitsOf origin 24 ++ (usedB (upT s) ++ (codeBits (W20.rowOf s) picks ts ++ rest))) := by
  have := List.drop_left (l₁ := bitsOf sum 32) (l₂ := false :: (bitsOf origin 24 ++ (usedB (upT s) ++ (codeBits (W20.rowOf s) picks ts ++ rest)))); rw [h32] at this; rw [hx]; exact this
 have ed33 : l.drop 33 = bitsOf origin 24 ++ (usedB (upT s) ++ (codeBits (W20.rowOf s) picks ts ++ rest)) := by rw [show (33 : Nat) = 32 + 1 from rfl, <- List.drop_drop, ed32]; rfl
 have e24 : (l.drop 33).take 24 = bitsOf origin 24 := by
  have := List.take_left (l₁ := bitsOf origin 24) (l₂ := usedB (upT s) ++ (codeBits (W20.rowOf s) picks ts ++ rest)); rw [h24] at this; rw [ed33]; exact this
 have ed57 : l.drop 57 = usedB (upT s) ++ (codeBits (W20.rowOf s) picks ts ++ rest) := by
  have := List.drop_left (l₁ := bitsOf origin 24) (l₂ := usedB (upT s) ++ (codeBits (W20.rowOf s) picks ts ++ rest)); rw [h24] at this; rw [show (57 : Nat) = 33 + 24 from rfl, <- List.drop_drop, ed33]; exact this
 have edU : l.drop (57 + (usedB (upT s)).length) = codeBits (W20.rowOf s) picks ts ++ rest := by rw [<- List.drop_drop, ed57, List.drop_left]
 have hg32 : l.getD 32 false = false := by
  rw [List.getD_eq_getElem?_getD, <- Nat.add_zero 32, <- List.getElem?_drop, ed32]; rfl
 have hll : ¬ l.length < 57 := by
  have := congrArg List.length hl0; rw [List.length_append, hbl] at this; omega
 have hrow : W20.rowOf s = rowE (mtfE (symsOf s) s).2 (symsOf s).length := rfl
 have hgot := Says.got (room := room) (l := l) (T := T') (n := (usedB (upT s)).length) (k := (codeBits (W20.rowOf s) picks ts).length) (c := c) (L := W20.rowOf s) (z := z) (pl := (mtfE (symsOf s) s).2) hll hg32 (by rw [ed57]; exact hu) (by rw [hT', edU]; exact hc1) hc2 (by rw [hT']; exact hz) (by
  rw [hT', hm, e24, valB_bitsOf _ _ (show origin < 2 ^ 24 by omega)]; show ¬ s.length <= origin
  omega)
 rw [hT', hm, e24, valB_bitsOf _ _ (show origin < 2 ^ 24 by omega), e32, valB_bitsOf _ _ (show sum < 2 ^ 32 by omega), <- hbl] at hgot; exact ⟨_, says_comes hgot⟩
end Y20
namespace B20
open Go.M01 Go.Mb Go.Mp Go.M10 Go.Mc Go.Mz Go.Mk Rb
variable {w : World} {L : List HProp} {K : Value -> World -> Prop} {b rb cb zb mb r : Nat} {B : List UInt8} {d at_ n k : Nat} {s : BS} {x : RS} {lv : Value}
abbrev tBk : Nat := 176
abbrev tRw : Nat := 269
def bkC (rv lv : Value) (s : BS) : List Value := [rv, nv s.room, .bool s.head, uv s.sum, nv s.frm, lv, .bool s.done, iv 0]
def rwC (cb zb mb : Nat) (x : RS) : List Value := [pt cb, pt zb, pt mb, nv x.due, nv x.place]
def rawN (b : Nat) (s : BS) (lv : Value) : List HProp := [blk b tBk (bkC (.pointer none) lv s), SL bv tB lv s.last]
def rawS (b : Nat) (s : BS) (x : RS) (rb cb zb mb : Nat) (lv : Value) : List HProp :=
 [blk b tBk (bkC (pt rb) lv s), SL bv tB lv s.last, blk rb tRw (rwC cb zb mb x), C14.CdR cb x.code, Z07.ZrR zb x.zeros, F06.MtR mb x.list]
def RawR (b : Nat) (s : BS) : HProp := match s.row with
 | none => fun h => ∃ lv, Sat (rawN b s lv) h
 | some x => fun h => ∃ rb cb zb mb lv, Sat (rawS b s x rb cb zb mb lv) h
def BkR (b : Nat) (s : BS) : HProp := fun h => s.Ok /\ RawR b s h
theorem BkR_open (H : Holds w (BkR b s :: L)) : s.Ok /\ Holds w (RawR b s :: L) := Holds.pure H
theorem BkR_close (h : s.Ok) (H : Holds w (RawR b s :: L)) : Holds w (BkR b s :: L) := Holds.imp H fun _ hh => ⟨h, hh⟩
theorem Raw_openN (hr : s.row = none) (H : Holds w (RawR b s :: L)) : ∃ lv, Holds w (rawN b s lv ++ L) := by
 unfold RawR at H; rw [hr] at H; obtain ⟨lv, H⟩ := Holds.ex H; exact ⟨lv, Holds.unpack H⟩
theorem Raw_closeN (hr : s.row = none) (H : Holds w (rawN b s lv ++ L)) : Holds w (RawR b s :: L) := by
 unfold RawR; rw [hr]; exact Holds.imp (Holds.pack H) fun _ hh => ⟨lv, hh⟩
theorem Raw_openS (hr : s.row = some x) (H : Holds w (RawR b s :: L)) : ∃ rb cb zb mb lv, Holds w (rawS b s x rb cb zb mb lv ++ L) := by
 unfold RawR at H; rw [hr] at H; obtain ⟨rb, H⟩ := Holds.ex H; obtain ⟨cb, H⟩ := Holds.ex H; obtain ⟨zb, H⟩ := Holds.ex H; obtain ⟨mb, H⟩ := Holds.ex H; obtain ⟨lv, H⟩ := Holds.ex H; exact ⟨rb, cb, zb, mb, lv, Holds.unpack H⟩
theorem Raw_closeS (hr : s.row = some x) (H : Holds w (rawS b s x rb cb zb mb lv ++ L)) : Holds w (RawR b s :: L) := by
 unfold RawR; rw [hr]; exact Holds.imp (Holds.pack H) fun _ hh => ⟨rb, cb, zb, mb, lv, hh⟩
def AfterB (y : Res BS) (b : Nat) (s : BS) (r : Nat) (B : List UInt8) (d at_ : Nat) (L : List HProp) (e : Int) (w : World) : Prop :=
 match y with
 | .short => e = 3 /\ Holds w (BkR b s :: RdR r B d at_ :: L)
 | .bad c => e = (c : Int) /\ ∃ q v1 v2 v3 v4 v5 v6, Holds w (blk b tBk [v1, v2, v3, v4, v5, v6, .bool false, iv 0] :: RdR r B d q :: L)
 | .ok s' n => e = 0 /\ Holds w (BkR b s' :: RdR r B d (at_ + n) :: L)
theorem szT (T : Nat -> Bool) : (⟨(listed T).toArray⟩ : ByteArray).size = (listed T).length := by show (listed T).toArray.size = _; simp
theorem rowOf_spec {T : Nat -> Bool} {room : Nat} (H : Holds w L) (hT : listed T ≠ []) (hr : room <= 900000)
  (k : ∀ rb cb zb mb w', Same w w' -> Holds w' (blk rb tRw (rwC cb zb mb (rowOf T room)) :: C14.CdR cb (rowOf T room).code :: Z07.ZrR zb (rowOf T room).zeros :: F06.MtR mb (rowOf T room).list :: L) -> K (pt rb) w') : Cl Tryz.prog 211 #[S_ (listed T), nv room] w K := by
 refine Tz211 ?_; unfold Vz211; have hl := listed_len T; have hl0 : 0 < (listed T).length := List.length_pos_iff.2 hT; refine r_lns ?_; rw [szT]; refine r_addN (b := 2) (by omega) ?_; refine C14.NewReader_spec H (by omega) (by omega) fun cb w1 S1 H1 => ?_; refine r_ex20 (r_ex21 (r_lns ?_)); rw [szT]; refine Z07.NewReader_spec H1 hl0 hl hr fun zb w2 S2 H2 => ?_; refine r_ex20 (r_ex21 ?_); refine F06.New_spec H2 hT fun mb w3 S3 H3 => ?_; refine r_ex20 (r_ex21 ?_); refine r_bd (v := .agg #[pt cb, pt zb, pt mb, nv 0, nv 0]) (by kernel_rfl) ?_; refine r_new H3 fun rb w4 S4 H4 => ?_; replace H4 : Holds w4 (blk rb tRw [pt cb, pt zb, pt mb, nv 0, nv 0] :: F06.MtR mb (listed T) :: Z07.ZrR zb (z0 (listed T).length room) :: C14.CdR cb (c0 ((listed T).length + 2)) :: L) := H4; exact k rb cb zb mb _ (((S1.trans S2).trans S3).trans S4) (by have h_ := Holds.ord 4 [0, 3, 2, 1] H4 rfl; exact h_)
theorem waits_spec (H : Holds w L) (i : Nat) (hi : L[i]? = some (blk rb tRw (rwC cb zb mb x))) (k : K (.bool x.waits) w) : Cl Tryz.prog 163 #[pt rb] w K := by
 refine Tz163 ?_; unfold Vz163; refine r_bnST (r_vt ?_); refine r_nc (r_fo0 ?_); refine r_ld i H hi rfl ?_; refine r_gtr (r_ifD (fun h => ?_) fun h => ?_)
 ·have e : x.waits = true := by unfold RS.waits; simp; left; omega
  rw [e] at k; exact k
 ·refine r_nc (r_fo0 ?_); refine r_ld i H hi rfl ?_; refine r_gtr ?_
  have e : x.waits = decide ((0 : Int) < (x.place : Int)) := by
   unfold RS.waits; rw [decide_eq_false (by omega), Bool.false_or, Bool.eq_iff_iff, decide_eq_true_iff, decide_eq_true_iff]; omega
  rw [e] at k; exact k
theorem told_spec {c : CS} {sy : Nat} (H : Holds w (blk rb tRw (rwC cb zb mb x) :: Z07.ZrR zb x.zeros :: L)) (hs : sy <= x.zeros.n + 1) (hd : x.zeros.done = false)
  (kb : zput x.zeros sy = none -> ∀ w', Same w w' -> Holds w' L -> K (iv 25) w')
  (k : ∀ z d p, zput x.zeros sy = some (z, d, p) -> ∀ w', Same w w' -> Holds w' (blk rb tRw (rwC cb zb mb ⟨c, z, x.list, d, p.toNat⟩) :: Z07.ZrR zb z :: L) -> K (iv 0) w') : Cl Tryz.prog 214 #[pt rb, nv sy] w K := by
 refine Tz214 ?_; unfold Vz214; refine r_nc (r_fo0 (r_ld 0 H rfl rfl ?_)); refine Z07.Put_spec H.swap hs hd (fun hn e w2 he S2 H2 => ?_) fun z d p hz w2 S2 H2 => ?_
 ·refine r_ex30 (r_ex31 (r_ex32 ?_)); refine r_neq (r_vtN he ?_); exact kb hn _ S2 H2.drop
 ·refine r_ex30 (r_ex31 (r_ex32 ?_)); refine r_neq (r_vfN rfl ?_); have S := S2; have H := H2.swap; clear H2 S2
  repeat (first | refine r_nc ?_ | refine r_fo0 ?_)
  refine r_st 0 H rfl (by simp [rwC]) rfl fun w3 S3 H3 => ?_; replace H3 : Holds w3 (blk rb tRw [pt cb, pt zb, pt mb, nv d, nv x.place] :: Z07.ZrR zb z :: L) := H3; refine r_max ?_; rw [show max p 0 = ((p.toNat : Nat) : Int) by omega]
  repeat (first | refine r_nc ?_ | refine r_fo0 ?_)
  refine r_st 0 H3 rfl (by simp) rfl fun w4 S4 H4 => ?_; exact k z d p hz _ ((S.trans S3).trans S4) H4
theorem next_spec (H : Holds w (blk rb tRw (rwC cb zb mb x) :: F06.MtR mb x.list :: L)) (hat : x.at_ < x.list.length) (hdue : x.due <= 900000)
  (k : ∀ w', Same w w' -> Holds w' (blk rb tRw (rwC cb zb mb x.next) :: F06.MtR mb x.next.list :: L) -> K (bv x.byte) w') : Cl Tryz.prog 164 #[pt rb] w K := by
 refine Tz164 ?_; unfold Vz164; have S := Same.refl w; refine r_join1 (fun y w' => y = nv x.at_ /\ Same w w' /\ Holds w' (blk rb tRw (rwC cb zb mb x.next) :: F06.MtR mb x.list :: L)) ?_ ?_
 ·clear H S; rintro _ _ w1 ⟨rfl, S, H⟩; refine r_nc (r_fo0 (r_ld 0 H rfl rfl ?_)); refine F06.At_spec H.swap hat fun w2 S2 H2 => ?_; refine r_ex20 (r_ex21 ?_); exact k _ (S.trans S2) H2.swap
 ·refine r_nc (r_fo0 (r_ld 0 H rfl rfl ?_)); refine r_gtr (r_ifD (fun h => ?_) fun h => ?_)
  ·refine r_nc (r_fo0 (r_ld 0 H rfl rfl ?_))
   repeat (first | refine r_nc ?_ | refine r_fo0 ?_ | (refine r_sub1N (by omega) (by omega) ?_))
   refine r_st 0 H rfl (by simp [rwC]) rfl fun w3 S3 H3 => ?_
   repeat (refine r_ke ?_)
   have h0 : 0 < x.due := by omega
   refine ⟨by unfold RS.at_; rw [if_pos h0]; rfl, S.trans S3, ?_⟩; rw [rwC, RS.next, if_pos h0]; exact H3
  ·refine r_nc (r_fo0 (r_ld 0 H rfl rfl ?_)); refine r_nc (r_fo0 ?_); refine r_st 0 H rfl (by simp [rwC]) rfl fun w3 S3 H3 => ?_
   repeat (refine r_ke ?_)
   have h0 : ¬ 0 < x.due := by omega
   refine ⟨by unfold RS.at_; rw [if_neg h0], S.trans S3, ?_⟩; rw [rwC, RS.next, if_neg h0, show x.due - 1 = x.due by omega]; exact H3
theorem NewReader_spec {room : Nat} (H : Holds w L) (h1 : 5 <= room) (h2 : room <= 900000) (k : ∀ b w', Same w w' -> Holds w' (BkR b (b0 room) :: L) -> K (.tuple #[pt b, iv 0]) w') : Cl Tryz.prog 57 #[nv room] w K := by
 refine Tz57 ?_; unfold Vz57; refine r_join1 (fun x w' => w = w' /\ x = .bool false) ?_ ?_
 ·rintro _ _ _ ⟨rfl, rfl⟩; refine r_vf ?_; refine r_bd (v := .agg #[.pointer none, nv room, .bool false, uv 0, nv 0, .slice none 0 0, .bool false, iv 0]) (by kernel_rfl) ?_; refine r_new H fun b w2 S2 H2 => ?_; refine k b _ S2 (BkR_close (b0_ok h2) (Raw_closeN (lv := .slice none 0 0) rfl ?_)); exact (H2.nilSL bv tB).swap
 ·repeat (first | refine r_ke ?_ | refine r_lss ?_ | refine r_gtr ?_ | ((with_reducible refine r_vfD ?h ?_); (case h => omega)))
  exact ⟨rfl, by rw [decide_eq_false (by omega)]⟩
theorem end_spec (H : Holds w (RawR b s :: RdR r B d (at_ + n) :: L)) (hp : Pre s) (s0 : BS) (post : ∀ e w', Same w w' -> AfterB (bend s n) b s0 r B d at_ L e w' -> K (iv e) w') : Cl Tryz.prog 166 #[pt b] w K := by
 refine Tz166 ?_; unfold Vz166; have S := Same.refl w; have hok := fun s' k' (h : bend s n = .ok s' k') => (bend_ok hp h).1
 cases hr : s.row with
 | none =>
  have e0 : bend s n = .ok s n := by unfold bend; rw [hr]
  rw [e0] at post hok; obtain ⟨lv, H⟩ := Raw_openN hr H; refine r_join1 (fun y w' => w = w' /\ y = .bool true) ?_ ?_
  ·rintro _ _ _ ⟨rfl, rfl⟩; refine r_vt ?_; exact post 0 _ S ⟨rfl, BkR_close (hok _ _ rfl) (Raw_closeN hr H)⟩
  ·unfold rawN at H
   repeat (first | refine r_nc ?_ | refine r_fo0 ?_ | refine r_ke ?_ | (with_reducible refine r_bnNT ?_) | (with_reducible refine r_vt ?_) | refine r_ld 0 H rfl rfl ?_)
   exact ⟨rfl, rfl⟩
 | some x =>
  obtain ⟨rb, cb, zb, mb, lv, H⟩ := Raw_openS hr H
  have e0 : bend s n = if x.code.done = false \/ x.waits = true then .ok s n else if s.last.length <= s.frm then .bad 23 else .ok ⟨s.room, s.head, s.sum, s.frm, s.row, s.last, true⟩ n := by
   unfold bend; rw [hr]
  rw [e0] at post hok; unfold rawS at H; have hf := hp.frm; refine r_join1 (fun y w' => w = w' /\ y = .bool (!x.code.done || x.waits)) ?_ ?_
  ·rintro _ _ _ ⟨rfl, rfl⟩
   by_cases hc : x.code.done = false \/ x.waits = true
   ·rw [if_pos hc] at post hok
    have : (!x.code.done || x.waits) = true := by
     rcases hc with h | h
     ·rw [h]; rfl
     ·rw [h]; simp
    rw [this]; refine r_vt ?_; exact post 0 _ S ⟨rfl, BkR_close (hok _ _ rfl) (Raw_closeS hr H)⟩
   ·rw [if_neg hc] at post hok
    have : (!x.code.done || x.waits) = false := by
     rw [Bool.or_eq_false_iff]
     constructor
     ·cases h : x.code.done with
      | false => exact absurd (.inl h) hc
      | true => rfl
     ·cases h : x.waits with
      | false => rfl
      | true => exact absurd (.inr h) hc
    rw [this]; refine r_vf ?_
    repeat (first | refine r_nc ?_ | refine r_fo0 ?_ | (refine r_dr H ?_; clear H; intro _ S_ H; replace S := S.trans S_; clear S_) | refine r_ld 0 H rfl rfl ?_)
    refine r_lnS 1 H rfl ?_
    repeat (refine r_geq ?_)
    refine r_ifD (fun h => ?_) fun h => ?_
    ·rw [if_pos (by omega)] at post; have H9 := (by have h_ := Holds.ord 7 [0, 6] H rfl; exact h_); rw [bkC, hp.done] at H9; exact post 23 _ S ⟨rfl, at_ + n, _, _, _, _, _, _, H9⟩
    ·rw [if_neg (by omega)] at post hok
     repeat (first | refine r_nc ?_ | refine r_fo0 ?_)
     refine r_st 0 H rfl (by simp [bkC]) rfl fun w3 S3 H3 => ?_; exact post 0 _ (S.trans S3) ⟨rfl, BkR_close (hok _ _ rfl) (Raw_closeS (s := ⟨s.room, s.head, s.sum, s.frm, s.row, s.last, true⟩) hr H3)⟩
  ·repeat (first | refine r_nc ?_ | refine r_fo0 ?_ | (with_reducible refine r_bnSF ?_) | (with_reducible refine r_vf ?_) | refine r_ld 0 H rfl rfl ?_ | refine r_ld 2 H rfl rfl ?_)
   have H2 : Holds w (C14.CdR cb x.code :: blk b tBk (bkC (pt rb) lv s) :: SL bv tB lv s.last :: blk rb tRw (rwC cb zb mb x) :: Z07.ZrR zb x.zeros :: F06.MtR mb x.list :: RdR r B d (at_ + n) :: L) := (by have h_ := Holds.ord 7 [3, 0, 1, 2, 4, 5, 6] H rfl; exact h_); refine C14.Done_spec H2 ?_
   cases hcd : x.code.done with
   | false =>
    refine r_notF (r_vt ?_)
    repeat (refine r_ke ?_)
    exact ⟨rfl, rfl⟩
   | true =>
    refine r_notT (r_vf ?_)
    repeat (first | refine r_nc ?_ | refine r_fo0 ?_ | refine r_ld 0 H rfl rfl ?_)
    refine waits_spec H 2 rfl ?_
    repeat (refine r_ke ?_)
    exact ⟨rfl, by simp⟩
def Mid (y : Res BS) (b : Nat) (s : BS) (r : Nat) (B : List UInt8) (d at_ : Nat) (L : List HProp) (v : Value) (w : World) : Prop :=
 (∃ e : Int, v = iv e /\ e ≠ 0 /\ AfterB y b s r B d at_ L e w) \/ (v = iv 0 /\ ∃ s' n, y = bend s' n /\ Pre s' /\ Holds w (RawR b s' :: RdR r B d (at_ + n) :: L))
theorem begin_spec (H : Holds w (BkR b s :: RdR r B d at_ :: L)) (hh : s.head = false) (post : ∀ v w', Same w w' -> Mid (bstep s (rest B at_)) b s r B d at_ L v w' -> K v w') :
  Cl Tryz.prog 161 #[pt b, pt r] w K := by
 refine Tz161 ?_; unfold Vz161; obtain ⟨hs, H⟩ := BkR_open H; have hrow := (head_pre (s := 0) (f := 0) hs hh (by omega) (by omega)).1; obtain ⟨lv, H⟩ := Raw_openN hrow H
 have e0 : bstep s (rest B at_) = bhead s (rest B at_) := by unfold bstep; rw [if_pos hh]
 rw [e0] at post; have hrl := rest_len B at_; have H1 : Holds w (RdR r B d at_ :: blk b tBk (bkC (.pointer none) lv s) :: SL bv tB lv s.last :: L) := (by have h_ := Holds.ord 3 [2, 0, 1] H rfl; exact h_); clear H; refine Left_spec H1 fun w2 S2 H2 => ?_; have S := S2; have H := H2; clear H1 H2 S2; refine r_lss (r_ifD (fun h => ?_) fun h => ?_)
 ·refine post _ _ S (.inl ⟨3, rfl, by decide, ?_⟩); unfold bhead; rw [if_pos (by omega)]; exact ⟨rfl, BkR_close hs (Raw_closeN hrow (by have h_ := Holds.ord 3 [1, 2, 0] H rfl; exact h_))⟩
 ·have h57 : ¬ (rest B at_).length < 57 := by omega
  have h32 := rest_len B (at_ + 32); have h33 := rest_len B (at_ + 32 + 1); refine Get_spec (n := 32) H (by omega) (fun hx => absurd hx (by omega)) fun _ w3 S3 H3 => ?_; refine r_ex20 (r_ex21 ?_); refine Get1_spec H3 (fun hx => ?_) fun c hc w4 S4 H4 => ?_
  ·have := (List.getElem?_eq_none_iff.1 hx); omega
  refine r_ex20 (r_ex21 ?_); refine Get_spec (n := 24) H4 (by omega) (fun hx => absurd hx (by omega)) fun _ w5 S5 H5 => ?_; refine r_ex20 (r_ex21 ?_); replace S := ((S.trans S3).trans S4).trans S5; clear H H3 H4; have H := H5; clear H5; have hv1 := valB_take_lt (rest B at_) 32; have hv2 := valB_take_lt (rest B (at_ + 32 + 1)) 24; have e1 : (rest B at_).drop 33 = rest B (at_ + 32 + 1) := rest_drop B at_ 33
  have e2 : valB (((rest B at_).drop 32).take 1) = c.toNat := by
   rw [rest_drop, take_snoc (n := 0) hc, List.take_zero, List.nil_append, valB_one]
  have eh : bhead s (rest B at_) = if c.toNat = 1 then .bad 25 else bend ⟨s.room, true, valB ((rest B at_).take 32), valB ((rest B (at_ + 32 + 1)).take 24), s.row, s.last, s.done⟩ 57 := by
   unfold bhead; rw [if_neg h57, e1, e2]
  rw [eh] at post; have hpre := (head_pre (s := valB ((rest B at_).take 32)) (f := valB ((rest B (at_ + 32 + 1)).take 24)) hs hh (by omega) (by omega)).2; generalize valB ((rest B at_).take 32) = sm at *; generalize valB ((rest B (at_ + 32 + 1)).take 24) = fm at *; refine r_nc (r_fo0 ?_); refine r_st 1 H rfl (by simp [bkC]) rfl fun w3 S3 H3 => ?_; replace H3 : Holds w3 (RdR r B d (at_ + 32 + 1 + 24) :: blk b tBk [.pointer none, nv s.room, .bool true, uv s.sum, nv s.frm, lv, .bool s.done, iv 0] :: SL bv tB lv s.last :: L) := H3; refine r_nc (r_fo0 ?_); refine r_st 1 H3 rfl (by simp) rfl fun w4 S4 H4 => ?_; replace H4 : Holds w4 (RdR r B d (at_ + 32 + 1 + 24) :: blk b tBk [.pointer none, nv s.room, .bool true, uv sm, nv s.frm, lv, .bool s.done, iv 0] :: SL bv tB lv s.last :: L) := H4; refine r_ci64 (by omega) (by omega) ?_; refine r_nc (r_fo0 ?_); refine r_st 1 H4 rfl (by simp) rfl fun w5 S5 H5 => ?_; replace H5 : Holds w5 (RdR r B d (at_ + 32 + 1 + 24) :: blk b tBk [.pointer none, nv s.room, .bool true, uv sm, nv fm, lv, .bool s.done, iv 0] :: SL bv tB lv s.last :: L) := H5; replace S := ((S.trans S3).trans S4).trans S5; refine r_eql (r_ifE (fun h => ?_) fun h => ?_)
  ·rw [if_pos (by omega)] at post; rw [(hs.none_ hrow).2] at H5; exact post _ _ S (.inl ⟨25, rfl, by decide, rfl, _, _, _, _, _, _, _, (by have h_ := Holds.ord 3 [1, 0] H5 rfl; exact h_)⟩)
  ·rw [if_neg (by omega)] at post; exact post _ _ S (.inr ⟨rfl, _, _, rfl, hpre, Raw_closeN hrow (by have h_ := Holds.ord 3 [1, 2, 0] H5 rfl; exact h_)⟩)
theorem symbols_spec (H : Holds w (BkR b s :: RdR r B d at_ :: L)) (hh : s.head = true) (hrow : s.row = none) (post : ∀ v w', Same w w' -> Mid (bstep s (rest B at_)) b s r B d at_ L v w' -> K v w') :
  Cl Tryz.prog 162 #[pt b, pt r] w K := by
 refine Tz162 ?_; unfold Vz162; obtain ⟨hs, H⟩ := BkR_open H; obtain ⟨lv, H⟩ := Raw_openN hrow H
 have e0 : bstep s (rest B at_) = buse s (uread (rest B at_)) := by unfold bstep; rw [if_neg (by rw [hh]; decide), hrow]
 rw [e0] at post; have H1 : Holds w (RdR r B d at_ :: blk b tBk (bkC (.pointer none) lv s) :: SL bv tB lv s.last :: L) := (by have h_ := Holds.ord 3 [2, 0, 1] H rfl; exact h_); clear H; have hroom := hs.room; refine U05.Read_spec H1 (fun hx w2 S2 H2 => ?_) (fun hx w2 S2 H2 => ?_) fun T n hx hT w2 S2 H2 => ?_
 ·rw [hx] at post; refine r_ex20 (r_ex21 (r_eql (r_vfE (by decide) ?_))); exact post _ _ S2 (.inl ⟨3, rfl, by decide, rfl, BkR_close hs (Raw_closeN hrow (by have h_ := Holds.ord 3 [1, 2, 0] H2 rfl; exact h_))⟩)
 ·rw [hx] at post; refine r_ex20 (r_ex21 (r_eql (r_vfE (by decide) ?_))); rw [bkC, (hs.none_ hrow).2] at H2; exact post _ _ S2 (.inl ⟨25, rfl, by decide, rfl, _, _, _, _, _, _, _, (by have h_ := Holds.ord 3 [1, 0] H2 rfl; exact h_)⟩)
 ·rw [hx] at post; refine r_ex20 (r_ex21 (r_eql (r_vtE rfl ?_))); refine r_nc (r_fo0 (r_ld 1 H2 rfl rfl ?_)); refine rowOf_spec H2 hT hroom fun rb cb zb mb w3 S3 H3 => ?_; refine r_nc (r_fo0 ?_); refine r_st 5 H3 rfl (by simp [bkC]) rfl fun w4 S4 H4 => ?_; replace H4 : Holds w4 (blk rb tRw (rwC cb zb mb (rowOf T s.room)) :: C14.CdR cb (rowOf T s.room).code :: Z07.ZrR zb (rowOf T s.room).zeros :: F06.MtR mb (rowOf T s.room).list :: RdR r B d (at_ + n) :: blk b tBk (bkC (pt rb) lv s) :: SL bv tB lv s.last :: L) := H4; refine post _ _ ((S2.trans S3).trans S4) (.inr ⟨rfl, _, _, rfl, use_pre hs hh hrow hT, Raw_closeS (rb := rb) (cb := cb) (zb := zb) (mb := mb) (lv := lv) rfl ?_⟩); exact (by have h_ := Holds.ord 7 [5, 6, 0, 1, 2, 3, 4] H4 rfl; exact h_)
theorem symbol_spec (H : Holds w (BkR b s :: RdR r B d at_ :: L)) (hd : s.done = false) (hh : s.head = true) (hrow : s.row = some x) (hw : x.waits = false) (post : ∀ v w', Same w w' -> Mid (bstep s (rest B at_)) b s r B d at_ L v w' -> K v w') :
  Cl Tryz.prog 165 #[pt b, pt r] w K := by
 refine Tz165 ?_; unfold Vz165; obtain ⟨hs, H⟩ := BkR_open H; obtain ⟨rb, cb, zb, mb, lv, H⟩ := Raw_openS hrow H
 have e0 : bstep s (rest B at_) = bsym s x (cstep x.code (rest B at_)) := by unfold bstep; rw [if_neg (by rw [hh]; decide), hrow]; simp only; rw [if_neg (by rw [hw]; decide)]
 rw [e0] at post; have hcd := waits_or hs hd hrow hw; obtain ⟨g1, g2, g3, g4, g5⟩ := hs.some_ x hrow; unfold rawS at H; refine r_nc (r_fo0 (r_ld 0 H rfl rfl ?_)); refine r_nc (r_fo0 (r_ld 2 H rfl rfl ?_)); have H1 : Holds w (C14.CdR cb x.code :: RdR r B d at_ :: blk b tBk (bkC (pt rb) lv s) :: SL bv tB lv s.last :: blk rb tRw (rwC cb zb mb x) :: Z07.ZrR zb x.zeros :: F06.MtR mb x.list :: L) := (by have h_ := Holds.ord 7 [3, 6, 0, 1, 2, 4, 5] H rfl; exact h_); refine C14.Step_spec H1 hcd fun v w2 S2 hA => ?_; clear H1 H
 cases hx : cstep x.code (rest B at_) with
 | short =>
  rw [hx] at hA post; obtain ⟨rfl, H⟩ := hA; refine r_ex20 (r_ex21 ?_); refine r_join1 (fun y w' => w2 = w' /\ y = .bool true) ?_ ?_
  ·rintro _ _ _ ⟨rfl, rfl⟩; refine r_vt ?_; exact post _ _ S2 (.inl ⟨3, rfl, by decide, rfl, BkR_close hs (Raw_closeS (rb := rb) (cb := cb) (zb := zb) (mb := mb) (lv := lv) hrow (by have h_ := Holds.ord 7 [2, 3, 4, 0, 5, 6, 1] H rfl; exact h_))⟩)
  ·refine r_neq (r_vtN (by decide) ?_)
   repeat (refine r_ke ?_)
   exact ⟨rfl, rfl⟩
 | bad c =>
  have hcb := cstep_bad hx
  have hc0 : (c : Int) ≠ 0 := by omega
  rw [hx] at hA post; obtain ⟨rfl, q, H⟩ := hA; refine r_ex20 (r_ex21 ?_); refine r_join1 (fun y w' => w2 = w' /\ y = .bool true) ?_ ?_
  ·rintro _ _ _ ⟨rfl, rfl⟩; refine r_vt ?_; rw [bkC, hd] at H; exact post _ _ S2 (.inl ⟨c, rfl, hc0, rfl, q, _, _, _, _, _, _, (by have h_ := Holds.ord 6 [1, 0] H rfl; exact h_)⟩)
  ·refine r_neq (r_vtN hc0 ?_)
   repeat (refine r_ke ?_)
   exact ⟨rfl, rfl⟩
 | ok y k =>
  obtain ⟨c, o⟩ := y; rw [hx] at hA post; obtain ⟨rfl, H⟩ := hA; refine r_ex20 (r_ex21 ?_)
  cases o with
  | none =>
   refine r_join1 (fun y w' => w2 = w' /\ y = .bool true) ?_ ?_
   ·rintro _ _ _ ⟨rfl, rfl⟩; refine r_vt ?_; refine post _ _ S2 (.inr ⟨rfl, _, _, rfl, sym_pre hs hd hrow hx, Raw_closeS (rb := rb) (cb := cb) (zb := zb) (mb := mb) (lv := lv) rfl ?_⟩); exact (by have h_ := Holds.ord 7 [2, 3, 4, 0, 5, 6, 1] H rfl; exact h_)
   ·refine r_neq (r_vfN rfl ?_); refine r_lss (r_ke ?_); exact ⟨rfl, rfl⟩
  | some sy =>
   have hsy := (cstep_ok hx g2.code).2.2 sy rfl; have hsz := g2.size; refine r_join1 (fun y w' => w2 = w' /\ y = .bool false) ?_ ?_
   ·rintro _ _ _ ⟨rfl, rfl⟩; refine r_vf ?_; refine r_nc (r_fo0 (r_ld 2 H rfl rfl ?_)); have H1 : Holds w2 (blk rb tRw (rwC cb zb mb x) :: Z07.ZrR zb x.zeros :: C14.CdR cb c :: RdR r B d (at_ + k) :: blk b tBk (bkC (pt rb) lv s) :: SL bv tB lv s.last :: F06.MtR mb x.list :: L) := (by have h_ := Holds.ord 7 [4, 5, 0, 1, 2, 3, 6] H rfl; exact h_); refine told_spec (c := c) H1 (by omega) (by rw [g2.zd]; exact hcd) (fun hn w3 S3 H3 => ?_) fun z dd p hz w3 S3 H3 => ?_
    ·have e1 : bsym s x (.ok (c, some sy) k) = .bad 25 := by show btold s x c sy k = _; unfold btold; rw [hn]
     rw [e1] at post; rw [bkC, hd] at H3; exact post _ _ (S2.trans S3) (.inl ⟨25, rfl, by decide, rfl, _, _, _, _, _, _, _, (by have h_ := Holds.ord 5 [2, 1] H3 rfl; exact h_)⟩)
    ·refine post _ _ (S2.trans S3) (.inr ⟨rfl, ⟨s.room, s.head, s.sum, s.frm, some ⟨c, z, x.list, dd, p.toNat⟩, s.last, s.done⟩, k, ?_, told_pre hs hd hrow hw hx hz, Raw_closeS (rb := rb) (cb := cb) (zb := zb) (mb := mb) (lv := lv) rfl ?_⟩)
     ·show btold s x c sy k = _; unfold btold; rw [hz]
     ·exact (by have h_ := Holds.ord 7 [4, 5, 0, 2, 1, 6, 3] H3 rfl; exact h_)
   ·refine r_neq (r_vfN rfl ?_); refine r_lss (r_ke ?_); exact ⟨rfl, by rw [decide_eq_false (by omega)]⟩
theorem step_spec (H : Holds w (BkR b s :: RdR r B d at_ :: L)) (hd : s.done = false) (post : ∀ e w', Same w w' -> AfterB (bstep s (rest B at_)) b s r B d at_ L e w' -> K (iv e) w') :
  Cl Tryz.prog 115 #[pt b, pt r] w K := by
 refine Tz115 ?_; unfold Vz115; refine r_join1 (fun v w' => Same w w' /\ Mid (bstep s (rest B at_)) b s r B d at_ L v w') ?_ ?_
 ·rintro _ v w1 ⟨S, ⟨e, rfl, he, hA⟩ | ⟨rfl, s', n, hy, hp, H'⟩⟩
  ·refine r_neq (r_vtN he ?_); exact post e _ S hA
  ·refine r_neq (r_vfN rfl ?_); rw [hy] at post; exact end_spec H' hp s fun e w' S' hA => post e w' (S.trans S') hA
 clear post; have S := Same.refl w; have hs := (BkR_open H).1; have hraw := (BkR_open H).2
 cases hh : s.head with
 | false =>
  have hrow := (head_pre (s := 0) (f := 0) hs hh (by omega) (by omega)).1; obtain ⟨lv, H0⟩ := Raw_openN hrow hraw; refine r_nc (r_fo0 (r_ld 0 H0 rfl rfl ?_)); rw [hh]; refine r_notF (r_vt ?_); refine begin_spec H hh fun v w' S' hA => ?_
  repeat (refine r_ke ?_)
  exact ⟨S', hA⟩
 | true =>
  cases hrow : s.row with
  | none =>
   obtain ⟨lv, H0⟩ := Raw_openN hrow hraw; refine r_nc (r_fo0 (r_ld 0 H0 rfl rfl ?_)); rw [hh]; refine r_notT (r_vf ?_); refine r_nc (r_fo0 (r_ld 0 H0 rfl rfl ?_)); refine r_bnNT (r_vt ?_); refine symbols_spec H hh hrow fun v w' S' hA => ?_
   repeat (refine r_ke ?_)
   exact ⟨S', hA⟩
  | some x =>
   obtain ⟨rb, cb, zb, mb, lv, H0⟩ := Raw_openS hrow hraw; refine r_nc (r_fo0 (r_ld 0 H0 rfl rfl ?_)); rw [hh]; refine r_notT (r_vf ?_); refine r_nc (r_fo0 (r_ld 0 H0 rfl rfl ?_)); refine r_bnSF (r_vf ?_); refine r_nc (r_fo0 (r_ld 0 H0 rfl rfl ?_)); refine waits_spec H0 2 rfl ?_
   cases hw : x.waits with
   | false =>
    refine r_vf ?_; refine symbol_spec H hd hh hrow hw fun v w' S' hA => ?_
    repeat (refine r_ke ?_)
    exact ⟨S', hA⟩
   | true =>
    refine r_vt ?_; obtain ⟨g1, g2, g3, g4, g5⟩ := hs.some_ x hrow; have hzs := g2.zeros.sum; have hzm := g2.zeros.most
    have hat : x.at_ < x.list.length := by
     have := g2.list; have := g2.place; unfold RS.at_
     split <;> omega
    have hpre := next_pre hs hd hrow hw
    have eb : bstep s (rest B at_) = bnext s x := by unfold bstep; rw [if_neg (by rw [hh]; decide), hrow]; simp only; rw [if_pos hw]
    clear H hraw; have H := H0; clear H0; unfold rawS at H
    repeat (first | refine r_nc ?_ | refine r_fo0 ?_ | (refine r_dr H ?_; clear H; intro _ S_ H; replace S := S.trans S_; clear S_) | refine r_ld 0 H rfl rfl ?_)
    have H1 : Holds _ (blk rb tRw (rwC cb zb mb x) :: F06.MtR mb x.list :: blk b tBk (bkC (pt rb) lv s) :: SL bv tB lv s.last :: C14.CdR cb x.code :: Z07.ZrR zb x.zeros :: RdR r B d at_ :: L) := (by have h_ := Holds.ord 7 [2, 5, 0, 1, 3, 4, 6] H rfl; exact h_); refine next_spec H1 hat (by omega) fun w3 S3 H3 => ?_; refine r_rk (r_ld 2 H3 rfl rfl rfl) ?_; refine r_app1K H3 3 (f := bv) (xs := s.last) rfl x.byte (fun _ => rfl) (by omega) (fun w' H' => r_ld 2 H' rfl rfl rfl) fun lv' w4 S4 H4 => ?_; replace H4 : Holds w4 (blk rb tRw (rwC cb zb mb x.next) :: F06.MtR mb x.next.list :: blk b tBk (bkC (pt rb) lv s) :: SL bv tB lv' (s.last ++ [x.byte]) :: C14.CdR cb x.code :: Z07.ZrR zb x.zeros :: RdR r B d at_ :: L) := H4; refine r_nc (r_fo0 ?_); refine r_st 2 H4 rfl (by simp [bkC]) (SL_sg H4 3 rfl) fun w5 S5 H5 => ?_; replace H5 : Holds w5 (blk rb tRw (rwC cb zb mb x.next) :: F06.MtR mb x.next.list :: blk b tBk (bkC (pt rb) lv' s) :: SL bv tB lv' (s.last ++ [x.byte]) :: C14.CdR cb x.code :: Z07.ZrR zb x.zeros :: RdR r B d at_ :: L) := H5
    repeat (refine r_ke ?_)
    refine ⟨((S.trans S3).trans S4).trans S5, .inr ⟨rfl, ⟨s.room, s.head, s.sum, s.frm, some x.next, s.last ++ [x.byte], s.done⟩, 0, by rw [eb]; rfl, hpre, Raw_closeS (rb := rb) (cb := cb) (zb := zb) (mb := mb) (lv := lv') rfl ?_⟩⟩; exact (by have h_ := Holds.ord 7 [2, 3, 0, 4, 5, 1, 6] H5 rfl; exact h_)
def BadB (b e : Nat) : HProp := fun h => ∃ v1 v2 v3 v4 v5 v6, blk b tBk [v1, v2, v3, v4, v5, v6, .bool false, nv e] h
def AfterBS (y : Res BS) (b : Nat) (s : BS) (r : Nat) (B : List UInt8) (d at_ : Nat) (L : List HProp) (e : Int) (w : World) : Prop :=
 match y with
 | .short => e = 3 /\ Holds w (BkR b s :: RdR r B d at_ :: L)
 | .bad c => e = (c : Int) /\ ∃ q, Holds w (BadB b c :: RdR r B d q :: L)
 | .ok s' n => e = 0 /\ Holds w (BkR b s' :: RdR r B d (at_ + n) :: L)
theorem Raw_cells (H : Holds w (BkR b s :: L)) : ∃ rv lv L', Holds w (blk b tBk (bkC rv lv s) :: L') /\ ∀ w' v, Holds w' (blk b tBk ((bkC rv lv s).set 7 v) :: L') -> v = iv 0 -> Holds w' (BkR b s :: L) := by
 obtain ⟨hs, H⟩ := BkR_open H
 cases hrow : s.row with
 | none =>
  obtain ⟨lv, H⟩ := Raw_openN hrow H; exact ⟨_, lv, _, H, fun w' v H' hv => by subst hv; exact BkR_close hs (Raw_closeN hrow H')⟩
 | some x =>
  obtain ⟨rb, cb, zb, mb, lv, H⟩ := Raw_openS hrow H; exact ⟨_, lv, _, H, fun w' v H' hv => by subst hv; exact BkR_close hs (Raw_closeS hrow H')⟩
theorem Step_spec (H : Holds w (BkR b s :: RdR r B d at_ :: L)) (hd : s.done = false) (post : ∀ e w', Same w w' -> AfterBS (bstep s (rest B at_)) b s r B d at_ L e w' -> K (iv e) w') :
  Cl Tryz.prog 59 #[pt b, pt r] w K := by
 refine Tz59 ?_; unfold Vz59; obtain ⟨rv, lv, L', H0, hback⟩ := Raw_cells H; refine r_join1 (fun y w' => w = w' /\ y = .bool false) ?_ ?_
 ·rintro _ _ _ ⟨rfl, rfl⟩; refine r_vf ?_; refine r_nc (r_fo0 (r_ld 0 H0 rfl rfl ?_)); refine r_neq (r_vfN rfl ?_); refine step_spec H hd fun e w2 S2 hA => ?_
  cases hx : bstep s (rest B at_) with
  | short =>
   rw [hx] at hA post; obtain ⟨rfl, H'⟩ := hA; refine r_neq (r_vfN rfl ?_); exact post _ _ S2 ⟨rfl, H'⟩
  | bad c =>
   have hcb := bstep_bad hx; rw [hx] at hA post; obtain ⟨rfl, q, v1, v2, v3, v4, v5, v6, H'⟩ := hA; refine r_neq (r_vtN (by omega) ?_); refine r_nc (r_fo0 ?_); refine r_st 0 H' rfl (by simp) rfl fun w5 S5 H5 => ?_; exact post _ _ (S2.trans S5) ⟨rfl, q, Holds.imp H5 fun _ hh => ⟨v1, v2, v3, v4, v5, v6, hh⟩⟩
  | ok s' k =>
   rw [hx] at hA post; obtain ⟨rfl, H'⟩ := hA; refine r_neq (r_vtN (by decide) ?_); obtain ⟨rv, lv, L', H1, hback⟩ := Raw_cells H'; refine r_nc (r_fo0 ?_); refine r_st 0 H1 rfl (by simp [bkC]) rfl fun w5 S5 H5 => ?_; exact post _ _ (S2.trans S5) ⟨rfl, hback _ _ H5 rfl⟩
 ·repeat (first | refine r_ld 0 H0 rfl rfl ?_ | refine r_nc ?_ | refine r_fo0 ?_ | refine r_ke ?_ | (with_reducible refine r_bnSF ?_) | (with_reducible refine r_vf ?_))
  exact ⟨rfl, by rw [hd]⟩
theorem Done_spec (H : Holds w (BkR b s :: L)) (k : K (.bool s.done) w) : Cl Tryz.prog 58 #[pt b] w K := by
 refine Tz58 ?_; unfold Vz58; obtain ⟨rv, lv, L', H0, _⟩ := Raw_cells H
 repeat (first | refine r_ld 0 H0 rfl rfl ?_ | refine r_nc ?_ | refine r_fo0 ?_ | (with_reducible refine r_bnST ?_) | (with_reducible refine r_vt ?_))
 exact k
end B20
namespace B20
open Go.M01 Go.Mb Go.Mp Go.M10 Go.Mc Go.Mz Go.Mk Go.Q20 Go.Q23 Rb
variable {w : World} {L : List HProp} {K : Value -> World -> Prop} {b rb cb zb mb r : Nat} {B : List UInt8} {d at_ n k : Nat} {s : BS} {x : RS} {lv : Value}
abbrev tGt : Nat := 34
abbrev gotV (t : List UInt8) (o u : Nat) : List Value := [S_ t, nv o, uv u]
theorem got_zero : (zeroP Tryz.prog tGt).cells.toList = gotV [] 0 0 := by kernel_rfl
theorem r_cvb {t e d : TypeId} [hr : Bytes Tryz.prog t e d] (H : Holds w L) (i : Nat) {oa : Option Addr} {xs : List UInt8} {sp : List Value} {l c : Nat} {K : Value -> Prop}
  (hi : L[i]? = some (slb bv e oa xs sp)) (hl : l = xs.length) (h : K (.string ⟨xs.toArray⟩)) : Cv Tryz.prog t d (.slice oa l c) w K := by
 have h0 : Cw Tryz.prog t d (.slice oa l c) w (fun v w' => v = .string ⟨xs.toArray⟩ /\ w' = w) := r_cbs H i hi hl ⟨rfl, rfl⟩; unfold Cw at h0; obtain ⟨v, w', hr, rfl, rfl⟩ := h0; unfold Cv; exact ⟨_, hr, h⟩
theorem raw_cells2 (H : Holds w (BkR b s :: L)) : ∃ rv oa c L' sp, Holds w (blk b tBk (bkC rv (.slice oa s.last.length c) s) :: slb bv tB oa s.last sp :: L') /\ (∀ w', Holds w' (blk b tBk (bkC rv (.slice oa s.last.length c) s) :: slb bv tB oa s.last sp :: L') -> Holds w' (BkR b s :: L)) := by
 obtain ⟨hs, H⟩ := BkR_open H
 have back : ∀ {oa : Option Addr} {sp : List Value} {w' : World} {rv lv : Value} {L' : List HProp}, lv = .slice oa s.last.length (s.last.length + sp.length) -> Holds w' (blk b tBk (bkC rv lv s) :: slb bv tB oa s.last sp :: L') -> Holds w' (blk b tBk (bkC rv lv s) :: SL bv tB lv s.last :: L') := by
  intro oa sp w' rv lv L' he H'; subst he; exact H'.close 1 rfl
 cases hrow : s.row with
 | none =>
  obtain ⟨lv, H⟩ := Raw_openN hrow H; obtain ⟨oa, sp, rfl, H1⟩ := H.open 1 rfl; exact ⟨_, oa, _, L, sp, H1, fun w' H' => BkR_close hs (Raw_closeN hrow (back rfl H'))⟩
 | some x =>
  obtain ⟨rb, cb, zb, mb, lv, H⟩ := Raw_openS hrow H; obtain ⟨oa, sp, rfl, H1⟩ := H.open 1 rfl; exact ⟨_, oa, _, _, sp, H1, fun w' H' => BkR_close hs (Raw_closeS hrow (back rfl H'))⟩
theorem Got_done (H : Holds w (BkR b s :: L)) (hd : s.done = true) (k : ∀ w', Same w w' -> Holds w' (BkR b s :: L) -> K (.agg (gotV s.last s.frm s.sum).toArray) w') : Cl Tryz.prog 61 #[pt b] w K := by
 refine Tz61 ?_; unfold Vz61; refine r_new H fun gb w1 S1 H1 => ?_; rw [got_zero] at H1; refine Done_spec H1.swap ?_; rw [hd]; refine r_notT (r_vf ?_); refine r_dr H1 fun w2 S2 H2 => ?_; obtain ⟨rv, oa, c, L', sp, H3, hback⟩ := raw_cells2 H2.swap; refine r_nc (r_fo0 (r_ld 0 H3 rfl rfl ?_)); refine r_cvb H3 1 rfl rfl ?_; refine r_nc (r_fo0 (r_ld 0 H3 rfl rfl ?_)); refine r_nc (r_fo0 (r_ld 0 H3 rfl rfl ?_)); refine r_bd (v := .agg (gotV s.last s.frm s.sum).toArray) (by kernel_rfl) ?_; refine r_stA 0 H2 (vs := gotV s.last s.frm s.sum) rfl (Nat.le_refl 3) rfl rfl fun w4 S4 H4 => ?_; replace H4 : Holds w4 (blk gb tGt (gotV s.last s.frm s.sum) :: BkR b s :: L) := H4; refine r_ldA 0 H4 (gotV s.last s.frm s.sum) rfl rfl rfl ?_; exact k _ ((S1.trans S2).trans S4) H4.drop
def cellN (w : World) (b i : Nat) : Nat := match w.cell? ⟨b, i, none⟩ with
 | some (.int _ n) => n.toNat
 | some (.slice _ l _) => l
 | _ => 0
theorem at_of (H : Holds w (RdR r B d at_ :: L)) : cellN w r 2 = at_ := by
 obtain ⟨_, H⟩ := RdR_open H; unfold cellN; rw [H.cell 0 rfl 2]; rfl
theorem last_of (H : Holds w (BkR b s :: L)) : cellN w b 5 = s.last.length := by
 obtain ⟨rv, oa, c, L', sp, H, _⟩ := raw_cells2 H; unfold cellN; rw [H.cell 0 rfl 5]; rfl
end B20
namespace B20
open Go.M01 Go.Mb Go.Mp Go.M10 Go.Mc Go.Mz Go.Mk Go.Q20 Go.Q23 Rb
variable {w : World} {L : List HProp} {K : Value -> World -> Prop} {b rb cb zb mb r : Nat} {B : List UInt8} {d at_ n k : Nat} {s : BS} {x : RS} {lv : Value}
theorem Read_spec {room : Nat} (H : Holds w (RdR r B d at_ :: L)) (h1 : 5 <= room) (h2 : room <= 900000)
  (kb : ∀ e, Q20.Comes room (rest B at_) (.bad e) -> ∀ w', Same w w' -> Holds w' (RdR r B d at_ :: L) -> K (.tuple #[.agg (gotV [] 0 0).toArray, nv e]) w')
  (k : ∀ last o u n held, Q20.Comes room (rest B at_) (.got last o u n held) -> ∀ w', Same w w' -> Holds w' (RdR r B d (at_ + n) :: L) -> K (.tuple #[.agg (gotV last o u).toArray, iv 0]) w') :
  Cl Tryz.prog 22 #[pt r, nv room] w K := by
 refine Tz22 ?_; unfold Vz22; have hf := (RdR_open H).1; refine r_new H fun gb w1 S1 H1 => ?_; rw [got_zero] at H1; refine r_bnSF (r_vf ?_); refine NewReader_spec H1 h1 h2 fun b w2 S2 H2 => ?_; refine r_ex20 (r_ex21 ?_); refine r_neq (r_vfN rfl ?_); replace H2 : Holds w2 (BkR b (b0 room) :: RdR r B d at_ :: blk gb tGt (gotV [] 0 0) :: L) := (by have h_ := Holds.ord 3 [0, 2, 1] H2 rfl; exact h_); refine At_spec H2.drop ?_; have S := S1.trans S2; clear H H1 S1 S2
 refine r_loop0 (fun w' => ∃ s q, Run bstep BS.done (b0 room) (rest B at_) s q /\ s.room = room /\ Same w w' /\ Holds w' (BkR b s :: RdR r B d (at_ + q) :: blk gb tGt (gotV [] 0 0) :: L))
  (fun w' => (8 * B.length - cellN w' r 2) + (room + 1 - cellN w' b 5)) ⟨b0 room, 0, .start, rfl, S, H2⟩ ?_
 clear H2 S; rintro _ w3 ⟨s, q, hr, hroom, S, H⟩; have hok := (BkR_open H).1; have hlr := last_room hok; have hm1 := at_of H.drop; have hm2 := last_of H; have hf2 := (RdR_open H.drop).1; refine Done_spec H ?_
 cases hd : s.done with
 | true =>
  refine r_notT (r_vf ?_); refine Got_done H hd fun w4 S4 H4 => ?_; refine r_stA 2 H4 (vs := gotV s.last s.frm s.sum) rfl (Nat.le_refl 3) rfl rfl fun w5 S5 H5 => ?_; replace H5 : Holds w5 (BkR b s :: RdR r B d (at_ + q) :: blk gb tGt (gotV s.last s.frm s.sum) :: L) := H5; refine r_ldA 2 H5 (gotV s.last s.frm s.sum) rfl rfl rfl ?_; exact k _ _ _ _ _ ⟨s, q, hr, .inl ⟨hd, rfl⟩⟩ _ ((S.trans S4).trans S5) (Holds.dropAt (Holds.dropAt H5 2) 0)
 | false =>
  refine r_notF (r_vt ?_); refine Step_spec H hd fun e w4 S4 hA => ?_; have hrd : (rest B at_).drop q = rest B (at_ + q) := rest_drop B at_ q
  cases hx : bstep s (rest B (at_ + q)) with
  | short =>
   rw [hx] at hA; obtain ⟨rfl, H4⟩ := hA; refine r_neq (r_vtN (by decide) ?_); refine Seek_spec (p := at_) H4.drop hf.1 hf.2.1 fun w5 S5 H5 => ?_; refine r_bd (v := .agg (gotV [] 0 0).toArray) (by kernel_rfl) ?_; refine r_stA 1 H5 (vs := gotV [] 0 0) rfl (Nat.le_refl 3) rfl rfl fun w6 S6 H6 => ?_; replace H6 : Holds w6 (RdR r B d at_ :: blk gb tGt (gotV [] 0 0) :: L) := H6; refine r_ldA 1 H6 (gotV [] 0 0) rfl rfl rfl ?_; exact kb 3 ⟨s, q, hr, .inr (.inl ⟨hd, by rw [hrd]; exact hx, rfl⟩)⟩ _ (((S.trans S4).trans S5).trans S6) (Holds.dropAt H6 1)
  | bad c =>
   have hcb := bstep_bad hx; rw [hx] at hA; obtain ⟨rfl, q', H4⟩ := hA; refine r_neq (r_vtN (by omega) ?_); refine Seek_spec (p := at_) H4.drop hf.1 hf.2.1 fun w5 S5 H5 => ?_; refine r_bd (v := .agg (gotV [] 0 0).toArray) (by kernel_rfl) ?_; refine r_stA 1 H5 (vs := gotV [] 0 0) rfl (Nat.le_refl 3) rfl rfl fun w6 S6 H6 => ?_; replace H6 : Holds w6 (RdR r B d at_ :: blk gb tGt (gotV [] 0 0) :: L) := H6; refine r_ldA 1 H6 (gotV [] 0 0) rfl rfl rfl ?_; exact kb c ⟨s, q, hr, .inr (.inr ⟨c, hd, by rw [hrd]; exact hx, rfl⟩)⟩ _ (((S.trans S4).trans S5).trans S6) (Holds.dropAt H6 1)
  | ok s' n =>
   rw [hx] at hA; obtain ⟨rfl, H4⟩ := hA; refine r_neq (r_vfN rfl ?_); have hp := bstep_prog hok hx; have hf4 := (RdR_open H4.drop).1; have hm3 := at_of H4.drop; have hm4 := last_of H4; have hok4 := (BkR_open H4).1; have hlr4 := last_room hok4; refine r_ke ⟨⟨s', q + n, hr.next hd (by rw [hrd]; exact hx), by rw [hp.1]; exact hroom, S.trans S4, by rw [<- Nat.add_assoc]; exact H4⟩, ?_⟩; show (8 * B.length - cellN w4 r 2) + (room + 1 - cellN w4 b 5) < (8 * B.length - cellN w3 r 2) + (room + 1 - cellN w3 b 5); rw [hm1, hm2, hm3, hm4]; rw [hp.1] at hlr4; rcases hp.2 with ⟨h3, h4⟩ | ⟨h3, h4⟩
   ·rw [h4]; omega
   ·omega
end B20
namespace R3b
open Go.M02 Go.M03 Go.M3d
abbrev S_ (B : List UInt8) : Value := .string ⟨B.toArray⟩
abbrev pt (b : Nat) : Value := .pointer (some ⟨b, 0, none⟩)
abbrev tB : Nat := 5
variable {w : World} {L : List HProp} {K : Value -> World -> Prop} {b r : Nat} {s : Nat} {t : List UInt8}
abbrev tS : Nat := 233
def smC (s : Nat) : List Value := [] ++ (tabL.map uv ++ [uv s])
def SumR (b s : Nat) : HProp := fun h => s < 4294967296 /\ blk b tS (smC s) h
theorem SumR_open (H : Holds w (SumR b s :: L)) : s < 4294967296 /\ Holds w (blk b tS (smC s) :: L) := Holds.pure H
theorem SumR_close (h : s < 4294967296) (H : Holds w (blk b tS (smC s) :: L)) : Holds w (SumR b s :: L) := Holds.imp H fun _ hh => ⟨h, hh⟩
theorem sm256 : (smC s)[256]? = some (uv s) := by
 have := mid_post (f := uv) (xs := tabL) (post := [uv s]) (j := 0) [] tabL_len; exact this
theorem smget {i : Nat} (h : i < 256) : (smC s)[0 + i]? = some (uv (crcTab i)) := mid_get (f := uv) [] (tabL_get i h)
theorem smset (v : Nat) : (smC s).set 256 (uv v) = smC v := by
 have := mid_pset (f := uv) (xs := tabL) (post := [uv s]) (j := 0) [] (uv v) tabL_len; exact this
theorem smlen : (smC s).length = 257 := by
 unfold smC; rw [List.nil_append, List.length_append, List.length_map, tabL_len]; rfl
theorem New_spec (H : Holds w L) (k : ∀ b w', Same w w' -> Holds w' (SumR b 4294967295 :: L) -> K (pt b) w') : Cl Tryz.prog 122 #[] w K := by
 refine Tz122 ?_; unfold Vz122; refine W02.Table_spec H fun w1 S1 H1 => ?_; refine r_bd (v := .agg (smC 4294967295).toArray) (by kernel_rfl) ?_; refine r_new H1 fun b w2 S2 H2 => ?_; exact k b _ (S1.trans S2) (SumR_close (by decide) H2)
theorem step_spec {c : UInt8} (H : Holds w (blk b tS (smC s) :: L)) (hs : s < 4294967296) (k : K (uv (crcB s c)) w) : Cl Tryz.prog 217 #[pt b, uv s, bv c] w K := by
 refine Tz217 ?_; unfold Vz217; have hc := c.toNat_lt; refine r_shlU32 (n := 8) (by omega) ?_; refine r_shrU (n := 24) (by decide) ?_; have h24 : s / 2 ^ 24 = s / 16777216 := rfl; rw [h24]; have hh : s / 16777216 ^^^ c.toNat < 256 := Nat.xor_lt_two_pow (n := 8) (by omega) (by omega)
 repeat (refine r_ciu8 (by omega) (by omega) ?_)
 refine r_xorU8 (by omega) (by omega) ?_; refine r_nc (r_iaaN (by omega) ?_); refine r_ld 0 H rfl (smget hh) ?_; have ht : crcTab (s / 16777216 ^^^ c.toNat) < 4294967296 := crcN_lt _ (by omega) 8; refine r_xorU32 (by omega) ht ?_; rw [crcB_tab hs]; exact k
theorem Put_spec {c : UInt8} (H : Holds w (SumR b s :: L)) (k : ∀ w', Same w w' -> Holds w' (SumR b (crcB s c) :: L) -> K (.tuple #[]) w') : Cl Tryz.prog 170 #[pt b, bv c] w K := by
 refine Tz170 ?_; unfold Vz170; obtain ⟨hs, H⟩ := SumR_open H; have S := Same.refl w
 repeat (first | ((with_reducible apply r_ld 0 H); (exact rfl); (with_reducible exact (sm256))) | refine r_nc ?_ | refine r_fo0 ?_ | (with_reducible refine r_bnST ?_) | (with_reducible refine r_vt ?_) | (refine r_dr H ?_; clear H; intro _ S_ H; replace S := S.trans S_; clear S_))
 refine step_spec H hs ?_
 repeat (first | refine r_nc ?_ | refine r_fo0 ?_)
 refine r_st 0 H rfl (by rw [smlen]; omega) rfl fun w2 S2 H2 => ?_; rw [List.set_cons_zero, smset] at H2; exact k _ (S.trans S2) (SumR_close (crcB_lt hs c) H2)
theorem getD_take {t : List UInt8} {i : Nat} (h : i < t.length) : t.take (i + 1) = t.take i ++ [t.getD i 0] := by
 rw [List.take_add_one, List.getElem?_eq_getElem h, List.getD_eq_getElem?_getD, List.getElem?_eq_getElem h]; rfl
theorem Of_spec (H : Holds w L) (ht : t.length <= 1000000000) (k : ∀ w', Same w w' -> Holds w' L -> K (uv (crcOf t)) w') : Cl Tryz.prog 64 #[S_ t] w K := by
 refine Tz64 ?_; unfold Vz64; refine New_spec H fun b w1 S1 H1 => ?_; refine r_cl (K := fun _ w' => Same w w' /\ Holds w' (SumR b (crcF 4294967295 t) :: L)) ?_ ?_
 ·refine Tz123 ?_; unfold Vz123
  have hs : (⟨t.toArray⟩ : ByteArray).size = t.length := by show t.toArray.size = _; simp
  repeat (refine r_lns ?_)
  rw [hs]; refine r_loop1 (fun x w' => ∃ i : Nat, i <= t.length /\ x = nv i /\ Same w w' /\ Holds w' (SumR b (crcF 4294967295 (t.take i)) :: L)) (fun x _ => t.length - (RowKit.intOf x).toNat) ⟨0, by omega, rfl, S1, H1⟩ ?_; clear H H1 S1; rintro _ _ w2 ⟨i, hi, rfl, S, H⟩
  repeat (refine r_lss ?_)
  refine r_ifD (fun h => ?_) fun h => ?_
  ·have hlt : i < t.length := by omega
   repeat (refine r_ixsN (by omega) ?_)
   refine Put_spec (c := t.getD i 0) H fun w3 S3 H3 => ?_
   repeat (first | refine r_ke ?_ | (refine r_add1N (by omega) ?_))
   refine ⟨⟨i + 1, by omega, rfl, S.trans S3, ?_⟩, ?_⟩
   ·rw [getD_take hlt, crcF_snoc]; exact H3
   ·simp [nv, RowKit.intOf]; omega
  ·obtain rfl : i = t.length := by omega
   rw [List.take_length] at H; exact ⟨S, H⟩
 rintro _ w2 ⟨S, H⟩; refine Tz124 ?_; unfold Vz124; obtain ⟨hs, H⟩ := SumR_open H
 repeat (first | ((with_reducible apply r_ld 0 H); (exact rfl); (with_reducible exact (sm256))) | refine r_nc ?_ | refine r_fo0 ?_ | (with_reducible refine r_bnSF ?_) | (with_reducible refine r_vf ?_))
 refine r_upxU32 hs ?_; exact k _ S H.drop
theorem take_spec {v : Value} {c : UInt8} {n : Nat} (H : Holds w (blk b 54 [v] :: SL bv tB v t :: L)) (hn : n <= 255) (ht : t.length <= 1000000000)
  (k : ∀ v' w', Same w w' -> Holds w' (blk b 54 [v'] :: SL bv tB v' (t ++ List.replicate n c) :: L) -> K (.tuple #[]) w') : Cl Tryz.prog 121 #[bv c, nv n, pt b] w K := by
 refine Tz121 ?_; unfold Vz121; refine r_loop1 (fun x w' => ∃ i v', i <= n /\ x = nv i /\ Same w w' /\ Holds w' (blk b 54 [v'] :: SL bv tB v' (t ++ List.replicate i c) :: L)) (fun x _ => n - (RowKit.intOf x).toNat) ⟨0, v, by omega, rfl, .refl w, by rw [List.replicate_zero, List.append_nil]; exact H⟩ ?_; clear H; rintro _ _ w1 ⟨i, v', hi, rfl, S, H⟩
 repeat (refine r_lss ?_)
 refine r_ifD (fun h => ?_) fun h => ?_
 ·repeat (refine r_ld 0 H rfl rfl ?_)
  refine r_app1 H 1 rfl c (fun _ => rfl) (by rw [List.length_append, List.length_replicate]; omega) fun v2 w2 S2 H2 => ?_; rw [List.set_cons_succ, List.set_cons_zero, List.append_assoc] at H2; refine r_st 0 H2 rfl (by simp) (SL_sg H2 1 rfl) fun w3 S3 H3 => ?_; replace H3 : Holds w3 (blk b 54 [v2] :: SL bv tB v2 (t ++ (List.replicate i c ++ [c])) :: L) := H3
  repeat (first | refine r_ke ?_ | (refine r_add1N (by omega) ?_))
  refine ⟨⟨i + 1, v2, by omega, rfl, (S.trans S2).trans S3, ?_⟩, ?_⟩
  ·rw [List.replicate_succ']; exact H3
  ·simp [nv, RowKit.intOf]; omega
 ·obtain rfl : i = n := by omega
  exact k _ _ S H
theorem Decode_spec {s : List UInt8} (H : Holds w L) (hs : s.length <= 1000000)
  (kb : rle s = none -> ∀ e w', e ≠ 0 -> Same w w' -> Holds w' L -> K (.tuple #[S_ [], iv e]) w')
  (k : ∀ t, rle s = some t -> ∀ w', Same w w' -> Holds w' L -> K (.tuple #[S_ t, iv 0]) w') : Cl Tryz.prog 63 #[S_ s] w K := by
 refine Tz63 ?_; unfold Vz63
 have hz : (zeroP Tryz.prog 54).cells.toList = [.slice none 0 0] := by kernel_rfl
 refine r_new H fun b w1 S1 H1 => ?_; rw [hz] at H1; refine r_mf (.func (.func 121) #[] #[pt b]) (by kernel_rfl) ?_; refine r_cl (K := fun x w' => Same w w' /\ ((rle s = none /\ (x = iv 24 \/ x = iv 25) /\ Holds w' L) \/ ∃ t v, rle s = some t /\ x = iv 0 /\ Holds w' (blk b 54 [v] :: SL bv tB v t :: L))) ?_ ?_
 ·refine Tz120 ?_; unfold Vz120
  have hsz : ∀ _ : Unit, (⟨s.toArray⟩ : ByteArray).size = s.length := fun _ => by show s.toArray.size = _; simp
  repeat (refine r_lns ?_)
  rw [hsz ()]
  have call : ∀ {c : UInt8} {n : Nat} {w : World} {K : Value -> World -> Prop} {v : Value} {t : List UInt8} (H : Holds w (blk b 54 [v] :: SL bv tB v t :: L)) (hn : n <= 255) (ht : t.length <= 1000000000)
    (k : ∀ v' w', Same w w' -> Holds w' (blk b 54 [v'] :: SL bv tB v' (t ++ List.replicate n c) :: L) -> K (.tuple #[]) w'),
    Inv Tryz.prog (do let d <- Deferred.ofValue (.func (.func 121) #[] #[pt b]) #[bv c, nv n]; invoke d.target d.args) w K := fun H hn ht k =>
   r_inv (f := 121) (args := #[bv _, nv _, pt b]) (by kernel_rfl) (take_spec H hn ht k)
  refine r_loop2 (fun rn x w' => ∃ (i run : Nat) (p : UInt8) (out : List UInt8) (v : Value), i <= s.length /\ run <= 4 /\ x = nv i /\ rn = nv run /\ (0 < run -> 0 < i /\ p = s.getD (i - 1) 0) /\ out.length <= 255 * i /\ rleA out run p (s.drop i) = rle s /\ Same w w' /\ Holds w' (blk b 54 [v] :: SL bv tB v out :: L))
   (fun _ x _ => s.length - (RowKit.intOf x).toNat) ⟨0, 0, 0, [], .slice none 0 0, by omega, by omega, rfl, rfl, fun h => absurd h (Nat.lt_irrefl 0), by simp, rfl, S1, (H1.nilSL bv tB).swap⟩ ?_
  clear H H1 S1; rintro _ _ _ w2 ⟨i, run, p, out, v, hi, hr, rfl, rfl, hp, hout, hrle, S, H⟩
  repeat (refine r_lss ?_)
  refine r_ifD (fun h => ?_) fun h => ?_
  ·have hlt : i < s.length := by omega
   have hd : s.drop i = s.getD i 0 :: s.drop (i + 1) := by
    rw [List.getD_eq_getElem?_getD, List.getElem?_eq_getElem hlt]; exact (List.getElem_cons_drop hlt).symm
   have hsi : (⟨s.toArray⟩ : ByteArray).data.toList.getD i 0 = s.getD i 0 := by simp
   have hsi1 : (⟨s.toArray⟩ : ByteArray).data.toList.getD (i - 1) 0 = s.getD (i - 1) 0 := by simp
   rw [hd] at hrle; unfold rleA at hrle; refine r_join1 (fun x w' => ∃ (run' : Nat), run' <= 4 /\ 0 < run' /\ x = nv run' /\ rleA (out ++ [s.getD i 0]) run' (s.getD i 0) (s.drop (i + 1)) = rle s /\ Same w w' /\ Holds w' (blk b 54 [v] :: SL bv tB v out :: L)) ?_ ?_
   ·clear H S hrle; rintro _ _ w3 ⟨run', hr', hr0, rfl, hrle, S, H⟩; refine r_ixsN (by rw [hsz ()]; exact hlt) ?_; rw [hsi]; refine call (c := s.getD i 0) (n := 1) H (by omega) (by omega) fun v2 w4 S4 H4 => ?_
    repeat (first | refine r_ke ?_ | (refine r_add1N (by omega) ?_))
    refine ⟨⟨i + 1, run', s.getD i 0, out ++ [s.getD i 0], v2, by omega, hr', rfl, rfl, fun _ => ⟨by omega, by rw [Nat.add_sub_cancel]⟩, by rw [List.length_append, List.length_singleton]; omega, hrle, S.trans S4, H4⟩, ?_⟩; simp [nv, RowKit.intOf]; omega
   ·refine r_eql (r_ifE (fun h4 => ?_) fun h4 => ?_)
    ·have h4' : run = 4 := by omega
     rw [if_pos h4'] at hrle; have hp2 := hp (by omega); refine r_ixsN (by rw [hsz ()]; exact hlt) ?_; rw [hsi]
     repeat (refine r_gtr ?_)
     refine r_ifD (fun hb => ?_) fun hb => ?_
     ·rw [if_pos (by omega)] at hrle; exact ⟨S, .inl ⟨hrle.symm, .inr rfl, H.drop.drop⟩⟩
     ·rw [if_neg (by omega)] at hrle
      repeat (first | (refine r_sub1N (by omega) (by omega) ?_) | (refine r_dr H ?_; clear H; intro _ S_ H; replace S := S.trans S_; clear S_))
      refine r_ixsN (by rw [hsz ()]; omega) ?_; rw [hsi1]; refine r_ixsN (by rw [hsz ()]; exact hlt) ?_; rw [hsi]
      repeat (refine r_ci64 (by omega) (by omega) ?_)
      refine call (c := s.getD (i - 1) 0) (n := (s.getD i 0).toNat) H (by omega) (by omega) fun v2 w4 S4 H4 => ?_; rw [hp2.2] at hrle
      repeat (first | refine r_ke ?_ | (refine r_add1N (by omega) ?_))
      refine ⟨⟨i + 1, 0, s.getD i 0, _, v2, by omega, by omega, rfl, rfl, fun h => absurd h (Nat.lt_irrefl 0), by rw [List.length_append, List.length_replicate]; omega, hrle, S.trans S4, H4⟩, ?_⟩; simp [nv, RowKit.intOf]; omega
    ·have h4' : run ≠ 4 := by omega
     rw [if_neg h4'] at hrle; refine r_join1 (fun x w' => x = .bool (decide (0 < run /\ s.getD i 0 = p)) /\ Same w w' /\ Holds w' (blk b 54 [v] :: SL bv tB v out :: L)) ?_ ?_
     ·clear H S; rintro _ _ w3 ⟨rfl, S, H⟩; refine r_ifD (fun hc => ?_) fun hc => ?_
      ·rw [if_pos hc] at hrle
       repeat (first | refine r_ke ?_ | (refine r_add1N (by omega) ?_))
       exact ⟨run + 1, by omega, by omega, rfl, hrle, S, H⟩
      ·rw [if_neg hc] at hrle
       repeat (refine r_ke ?_)
       exact ⟨1, by omega, by omega, rfl, hrle, S, H⟩
     ·repeat (first | refine r_gtr ?_ | (refine r_dr H ?_; clear H; intro _ S_ H; replace S := S.trans S_; clear S_))
      refine r_ifD (fun h0 => ?_) fun h0 => ?_
      ·have hp2 := hp (by omega); refine r_ixsN (by rw [hsz ()]; exact hlt) ?_; rw [hsi]
       repeat (refine r_sub1N (by omega) (by omega) ?_)
       refine r_ixsN (by rw [hsz ()]; omega) ?_; rw [hsi1, <- hp2.2]
       repeat (first | refine r_ke ?_ | refine r_eql ?_)
       refine ⟨?_, S, H⟩; refine congrArg Value.bool ?_; rw [Bool.eq_iff_iff, beq_iff_eq, decide_eq_true_iff]
       constructor
       ·intro h; exact ⟨by omega, UInt8.toNat_inj.1 (by omega)⟩
       ·rintro ⟨_, h⟩; rw [h]
      ·repeat (refine r_ke ?_)
       refine ⟨?_, S, H⟩; rw [decide_eq_false (by omega)]
  ·obtain rfl : i = s.length := by omega
   rw [List.drop_length] at hrle; unfold rleA at hrle; refine r_eql (r_ifE (fun h4 => ?_) fun h4 => ?_)
   ·rw [if_pos (by omega)] at hrle; exact ⟨S, .inl ⟨hrle.symm, .inl rfl, H.drop.drop⟩⟩
   ·rw [if_neg (by omega)] at hrle; exact ⟨S, .inr ⟨out, v, hrle.symm, rfl, H⟩⟩
 rintro _ w2 ⟨S, ⟨hn, hx, H⟩ | ⟨t, v, ht, rfl, H⟩⟩
 ·rcases hx with rfl | rfl
  ·repeat (first | refine r_neq ?_ | ((with_reducible refine r_vtN ?h ?_); (case h => omega)))
   exact kb hn 24 _ (by decide) S H
  ·repeat (first | refine r_neq ?_ | ((with_reducible refine r_vtN ?h ?_); (case h => omega)))
   exact kb hn 25 _ (by decide) S H
 ·repeat (first | refine r_neq ?_ | refine r_ld 0 H rfl rfl ?_ | ((with_reducible refine r_vfN ?h ?_); (case h => omega)))
  obtain ⟨oa, sp, rfl, H3⟩ := H.open 1 rfl; refine r_cbs H3 1 rfl rfl ?_; exact k _ ht _ S H.drop.drop
end R3b
namespace O20
open Go.M02 Go.M03 Go.M3d Go.M18 Go.M20 R3b
variable {w : World} {L : List HProp} {K : Value -> World -> Prop}
theorem Bits_spec {s : Nat} (hs : s < 4294967296) (k : K (uv (crcN s 8)) w) : Cl Tryz.prog 114 #[uv s] w K := by
 refine Tz114 ?_; unfold Vz114; refine r_loop2 (fun x i w' => ∃ j : Nat, j <= 8 /\ i = nv j /\ x = uv (crcN s j) /\ w = w') (fun _ i _ => 8 - (RowKit.intOf i).toNat) ⟨0, by omega, rfl, rfl, rfl⟩ ?_; rintro _ _ _ _ ⟨j, hj, rfl, rfl, rfl⟩; have hb := crcN_lt hs j
 repeat (refine r_lss ?_)
 refine r_ifD (fun h => ?_) fun h => ?_
 ·refine r_geq ?_; refine r_ifD (fun h2 => ?_) fun h2 => ?_
  ·refine r_subU32 (t := 2147483648) (by omega) (by omega) ?_; refine r_mulU32 (t := 2) (by omega) ?_; refine r_xorU32 (t := 79764919) (by omega) (by decide) ?_
   repeat (first | refine r_ke ?_ | (refine r_add1N (by omega) ?_))
   refine ⟨⟨j + 1, by omega, rfl, ?_, rfl⟩, ?_⟩
   ·rw [crcN_snoc, crcStep_high (by omega) hb]
   ·simp [nv, RowKit.intOf]; omega
  ·refine r_mulU32 (t := 2) (by omega) ?_
   repeat (first | refine r_ke ?_ | (refine r_add1N (by omega) ?_))
   refine ⟨⟨j + 1, by omega, rfl, ?_, rfl⟩, ?_⟩
   ·rw [crcN_snoc, crcStep_low (by omega)]
   ·simp [nv, RowKit.intOf]; omega
 ·obtain rfl : j = 8 := by omega
  exact k
theorem Step_spec {s : Nat} {c : UInt8} (hs : s < 4294967296) (k : K (uv (crcB s c)) w) : Cl Tryz.prog 56 #[uv s, bv c] w K := by
 refine Tz56 ?_; unfold Vz56; have hc := c.toNat_lt
 repeat (refine r_ciu32 (by omega) (by omega) ?_)
 refine r_mulU32 (s := c.toNat) (t := 16777216) (by omega) ?_; refine r_xorU32 hs (by omega) ?_; exact Bits_spec (Nat.xor_lt_two_pow (n := 32) (by omega) (by omega)) k
theorem ROf_spec {t : List UInt8} (ht : t.length <= 1000000000) (k : K (uv (crcOf t)) w) : Cl Tryz.prog 20 #[S_ t] w K := by
 refine Tz20 ?_; unfold Vz20
 have hs : (⟨t.toArray⟩ : ByteArray).size = t.length := by show t.toArray.size = _; simp
 have hg : ∀ i, (⟨t.toArray⟩ : ByteArray).data.toList.getD i 0 = t.getD i 0 := fun i => by simp
 refine r_loop2 (fun x i w' => ∃ j : Nat, j <= t.length /\ i = nv j /\ x = uv (crcF 4294967295 (t.take j)) /\ w = w') (fun _ i _ => t.length - (RowKit.intOf i).toNat) ⟨0, by omega, rfl, rfl, rfl⟩ ?_; rintro _ _ _ _ ⟨j, hj, rfl, rfl, rfl⟩; have hb := crcF_lt (t.take j) (s := 4294967295) (by decide)
 repeat (first | refine r_lns ?_ | refine r_lss ?_)
 rw [hs]; refine r_ifD (fun h => ?_) fun h => ?_
 ·refine r_ixsN (by rw [hs]; omega) ?_; rw [hg]; refine Step_spec hb ?_
  repeat (first | refine r_ke ?_ | (refine r_add1N (by omega) ?_))
  refine ⟨⟨j + 1, by omega, rfl, ?_, rfl⟩, ?_⟩
  ·rw [getD_take (by omega), crcF_snoc]
  ·simp [nv, RowKit.intOf]; omega
 ·obtain rfl : j = t.length := by omega
  rw [List.take_length] at hb ⊢; refine r_subU32 (s := 4294967295) (by omega) (by omega) ?_; exact k
def sz : Value -> Nat
 | .string b => b.size
 | _ => 0
abbrev gotV (l : List UInt8) (o s : Int) : List Value := [S_ l, iv o, .int .u32 s]
abbrev tG : Nat := 34
abbrev tH : Nat := 37
theorem Open_spec {l : List UInt8} {o s : Int} (H : Holds w L) (hl : l.length <= 900000) (k : ∀ w', Same w w' -> Holds w' L -> K (.tuple #[S_ (opn l o s).1, iv (opn l o s).2]) w') : Cl Tryz.prog 23 #[.agg (gotV l o s).toArray] w K := by
 refine Tz23 ?_; unfold Vz23; refine r_new H fun b w1 S1 H1 => ?_; replace H1 : Holds w1 (blk b tG (gotV l o s) :: L) := H1; clear H; have H := H1; clear H1
 have hs : (⟨l.toArray⟩ : ByteArray).size = l.length := by show l.toArray.size = _; simp
 have hd : (⟨l.toArray⟩ : ByteArray).data.toList = l := by simp
 repeat (first | refine r_fo0 ?_ | refine r_ld 0 H rfl rfl ?_)
 refine U18.Of_spec (last := ⟨l.toArray⟩) H (fun h => ?_) (fun h => ?_) (fun h1 h2 h3 => ?_) fun n w2 h1 h2 h3 S2 H2 => ?_
 ·repeat (first | refine r_neq ?_ | (with_reducible refine r_ex20 ?_) | (with_reducible refine r_ex21 ?_) | ((with_reducible refine r_vtN ?h ?_); (case h => omega)))
  have := k w1 S1 H.drop; rw [show opn l o s = ([], 1) by unfold opn; rw [if_pos (by omega)]] at this; exact this
 ·omega
 ·repeat (first | refine r_neq ?_ | (with_reducible refine r_ex20 ?_) | (with_reducible refine r_ex21 ?_) | ((with_reducible refine r_vtN ?h ?_); (case h => omega)))
  have := k w1 S1 H.drop; rw [show opn l o s = ([], 23) by unfold opn; rw [if_neg (by omega), if_pos (by omega)]] at this; exact this
 ·rw [hd]; subst h1; have S := S1.trans S2; clear H S1 S2; have tl := text_len l n
  repeat (first | refine r_neq ?_ | (with_reducible refine r_ex20 ?_) | (with_reducible refine r_ex21 ?_) | ((with_reducible refine r_vfN ?h ?_); (case h => omega)))
  have e0 : opn l (n : Int) s = opnR s (rle (text l n)) := by
   unfold opn; rw [if_neg (by omega), if_neg (by omega), Int.toNat_natCast]
  rw [e0] at k; refine R3b.Decode_spec H2 (by omega) (fun hr e w3 he S3 H3 => ?_) fun t hr w3 S3 H3 => ?_
  ·rw [hr] at k; simp only [opnR] at k
   repeat (first | refine r_neq ?_ | (with_reducible refine r_ex20 ?_) | (with_reducible refine r_ex21 ?_) | ((with_reducible refine r_vtN ?h ?_); (case h => omega)))
   exact k _ (S.trans S3) H3.drop
  ·rw [hr] at k; simp only [opnR] at k; have htl := rleA_len _ _ _ _ _ hr; rw [tl] at htl; replace S := S.trans S3; clear H2 S3; have H := H3; clear H3
   repeat (first | refine r_neq ?_ | (with_reducible refine r_ex20 ?_) | (with_reducible refine r_ex21 ?_) | (refine r_dr H ?_; clear H; intro _ S_ H; replace S := S.trans S_; clear S_) | ((with_reducible refine r_vfN ?h ?_); (case h => omega)))
   refine R3b.Of_spec H (by simp at htl; omega) fun w5 S5 H5 => ?_
   repeat (first | refine r_rk (r_ld 0 H rfl rfl rfl) ?_ | refine r_ld 0 H5 rfl rfl ?_ | refine r_fo0 ?_ | refine r_neq ?_)
   refine r_ifN (fun h => ?_) fun h => ?_
   ·have := k _ (S.trans S5) H5.drop; rw [if_neg h] at this
    repeat (fail)
    exact this
   ·have := k _ (S.trans S5) H5.drop; rw [if_pos h] at this
    repeat (fail)
    exact this
end O20
namespace P20
open Go.M01 Go.Mb Go.Me Go.M02 Go.M03 Go.M3d Go.M18 Go.M20 Go.Mh T12 W14 W20
variable {w : World} {L : List HProp} {K : Value -> World -> Prop}
theorem read_back {xs t : List UInt8} {B : List Bool} {room : Nat} (h0 : xs ≠ []) (hl : xs.length <= room) (hr : room <= 900000) (hB : BodyBits xs (crcOf t) B) (ht : rle xs = some t) (rest : List Bool) :
  ∃ o held, (sortP xs xs.length)[o]? = some 0 /\ Q20.Comes room (B ++ rest) (.got (lastL xs) o (crcOf t) B.length held) /\ opn (lastL xs) (o : Int) ((crcOf t : Nat) : Int) = (t, 0) := by
 obtain ⟨o, picks, ts, ho, hC, rfl⟩ := hB; have hol := idx_lt_ ho; have hll := lastL_len xs; have hpos := List.length_pos_iff.2 h0; obtain ⟨held, hc⟩ := Y20.block_says (origin := o) (lastL_ne h0) (by omega) hr (by omega) (crcOf_lt t) hC rest; refine ⟨o, held, ho, hc, ?_⟩; unfold opn; rw [if_neg (by omega), if_neg (by omega), Int.toNat_natCast, text_back xs o hol ho, ht]; unfold opnR; simp only; rw [if_pos trivial]
theorem whole_rest (B : List Bool) : rest (wholeB (padB B)) 0 = B ++ List.replicate ((8 - B.length % 8) % 8) false := by
 unfold rest; rw [List.drop_zero, bitsL_whole (padB_len B).1]; rfl
theorem letter_of (H : Holds w L) (hb : BndOk L) (post : ∀ w', Same w w' -> Holds w' L -> K (.bool true) w') : Cl Tryz.prog 8 #[] w K := by
 refine Tz8 ?_; unfold Vz8
 have h97 : ([97] : List UInt8) ≠ [] := by simp
 refine W01.NewWriter_spec H fun wb w1 S1 H1 => ?_; refine O20.ROf_spec (t := [97]) (by decide) ?_; refine Write_spec (s := [97]) H1 hb h97 (by decide) (crcOf_lt _) (by simp) (by simp) fun B w2 hB S2 H2 => ?_; rw [List.nil_append] at H2; have hlen := hB.len h97 (by decide); refine W20.Len_spec H2 ?_; refine W20.Pad_spec H2 (by omega) (by omega) fun w3 S3 H3 => ?_; refine W01.Take_spec H3 fun w4 S4 H4 => ?_; rw [List.drop_zero]; have hpl := padB_len B; refine Rb.NewReader_spec (B := wholeB (padB B)) H4 (by rw [wholeB_len]; omega) fun r w5 S5 H5 => ?_; obtain ⟨o, held, ho, hc, hop⟩ := read_back (room := 5) h97 (by decide) (by decide) hB (t := [97]) (by decide) (List.replicate ((8 - B.length % 8) % 8) false); have hol : o < 1 := idx_lt_ ho
 obtain rfl : o = 0 := by omega
 have hlast : lastL [97] = [97] := by decide
 rw [<- whole_rest] at hc; refine B20.Read_spec (room := 5) H5 (by decide) (by decide) (fun e he w6 S6 H6 => ?_) fun last o2 u n held2 he w6 S6 H6 => ?_
 ·have := he.det hc; cases this
 have e := he.det hc; injection e with e1 e2 e3 e4 e5; subst e1; subst e2; subst e3; subst e4; rw [hlast] at hop ⊢; refine r_ex20 (r_ex21 ?_); refine r_new H6 fun g w7 S7 H7 => ?_; rw [B20.got_zero] at H7; refine r_stA 0 H7 (vs := B20.gotV [97] 0 (crcOf [97])) rfl (Nat.le_refl 3) rfl rfl fun w8 S8 H8 => ?_; replace H8 : Holds w8 (blk g B20.tGt (B20.gotV [97] 0 (crcOf [97])) :: Rb.RdR r (wholeB (padB B)) 0 (0 + B.length) :: W01.WrR wb (padB B) ((padB B).length / 8) :: L) := H8; refine r_ldA 0 H8 (B20.gotV [97] 0 (crcOf [97])) rfl rfl rfl ?_; refine O20.Open_spec (l := [97]) (o := ((0 : Nat) : Int)) (s := ((crcOf [97] : Nat) : Int)) H8 (by decide) fun w9 S9 H9 => ?_; rw [hop]; refine r_ex20 (r_ex21 ?_); refine r_eql (r_vtE rfl ?_); refine r_eql (r_vtE rfl ?_); refine r_eql (r_vtE rfl ?_); refine r_fo0 (r_ld 0 H9 rfl rfl ?_); refine r_seqL (xs := [97]) (ys := [97]) (r_vtD rfl ?_); refine r_fo0 (r_ld 0 H9 rfl rfl ?_); refine r_eql (r_vtE rfl ?_); refine r_seqL (xs := [97]) (ys := [97]) (r_vtD rfl ?_); refine Rb.At_spec H9.drop ?_; refine r_eql ?_; refine r_pkB (r_pkB ?_); rw [show (((0 + B.length : Nat) : Int) == ((B.length : Nat) : Int)) = true by rw [Nat.zero_add]; exact beq_self_eq_true _]; exact post w9 (S1.trans (S2.trans (S3.trans (S4.trans (S5.trans (S6.trans (S7.trans (S8.trans S9)))))))) H9.drop.drop.drop
end P20
namespace P20
open Go.M01 Go.Mb Go.Mp Go.M10 Go.Mz Go.Mw Go.Mx Go.Mv Go.Mh F08 Rw T12 W14 W20 O2b
variable {w : World} {L : List HProp} {K : Value -> World -> Prop}
theorem BlockWrites_spec (H : Holds w L) (l : ByteArray) (s : Int) (_ : l.size <= maxLen) (hw : (Lit.int .u32 s).wf = true) (hG : BndOk L) (post : ∀ w', Same w w' -> Holds w' L -> K (.bool true) w') :
  Cl Tryz.prog 3 #[.string l, .int .u32 s] w K := by
 refine Tz3 ?_; unfold Vz3; obtain ⟨xs, rfl⟩ : ∃ xs : List UInt8, l = ⟨xs.toArray⟩ := ⟨l.data.toList, by simp⟩
 have hs : 0 <= s /\ s < 4294967296 := by
  have h1 : (decide (IntKind.u32.min <= s) && decide (s <= IntKind.u32.max)) = true := hw; rw [Bool.and_eq_true, decide_eq_true_iff, decide_eq_true_iff] at h1; have h2 : IntKind.u32.min = 0 := rfl; have h3 : IntKind.u32.max = 4294967295 := rfl; omega
 obtain ⟨sn, rfl⟩ : ∃ sn : Nat, s = (sn : Int) := ⟨s.toNat, by omega⟩; refine q_len ?_; refine r_gtr (r_ifD (fun h => ?_) fun h => ?_)
 ·exact letter_of H hG post
 refine W01.NewWriter_spec H fun wb w1 S1 H1 => ?_
 by_cases h0 : xs = []
 ·subst h0; refine Write_none ?_; refine W20.Len_spec H1 ?_; refine W20.Pad_spec H1 (by simp) (by simp) fun w2 S2 H2 => ?_; refine W01.Take_spec H2 fun w3 S3 H3 => ?_; refine r_seq0 (r_vtD rfl ?_); refine r_eql (r_vtE rfl ?_); refine r_eql (r_vtE rfl ?_); refine r_seq0 (r_vtD (by decide) ?_); exact letter_of H3 hG.up fun w4 S4 H4 => post w4 (S1.trans (S2.trans (S3.trans S4))) H4.drop
 have hpos := List.length_pos_iff.2 h0; refine Write_spec H1 hG h0 (by omega) (by omega) (by simp) (by simp) fun B w2 hB S2 H2 => ?_; rw [List.nil_append] at H2; have hlen := hB.len h0 (by omega); refine W20.Len_spec H2 ?_; refine W20.Pad_spec H2 (by omega) (by omega) fun w3 S3 H3 => ?_; refine W01.Take_spec H3 fun w4 S4 H4 => ?_; rw [List.drop_zero]; refine r_seq0 (r_vfD (by rw [sz]; omega) ?_); refine WriteD_spec H4 h0 (by omega) (by omega) fun B2 w5 hB2 S5 H5 => ?_; obtain rfl := hB.uniq hB2; refine r_eql (r_vtE rfl ?_); refine q_len ?_; rw [txt_len]; refine r_eql (r_vtE rfl ?_); refine Pack_spec H5 (by omega) fun w6 S6 H6 => ?_; refine r_seqL (r_vtD rfl ?_); exact letter_of H6 hG.up fun w7 S7 H7 => post w7 (S1.trans (S2.trans (S3.trans (S4.trans (S5.trans (S6.trans S7)))))) H7.drop
end P20
end Go.Proofs.YtgaiocpkjaaphaaGreatDoor
