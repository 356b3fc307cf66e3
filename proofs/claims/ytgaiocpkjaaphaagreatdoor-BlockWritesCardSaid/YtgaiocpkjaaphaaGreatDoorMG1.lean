/- Several texts in one: Mx, Mv, M18, N18, P18, Mr, Mt, Mu, My, Mh, Mz2, Mi, Lp, Ex, W10, W8c, W12, O2c, P35, W16, W6b, W6c, W8g. -/
import Derived.Test.YtgaiocpkjaaphaaGreatDoorMG0
import Derived.WalkKit
import Derived.Lib.UnsafeStr
import Derived.Lib.Bytealg
import Derived.Lib.MakeNoZero
import Derived.Test.YtgaiocpkjaaphaaGreatDoorRows
import Derived.Lib.LaidTab
import Derived.LaidMore
import Derived.Lib.SmallJoins
set_option linter.unusedVariables false
set_option linter.unusedSimpArgs false
namespace Go.Mx
open Go.M01 Go.Mb Go.Mz
def bitR (T : Nat -> Bool) (i : Nat) : List Bool := (List.range 16).map fun k => T (16 * i + k)
def someB (T : Nat -> Bool) (i : Nat) : Bool := (List.range 16).any fun k => T (16 * i + k)
def whichB (T : Nat -> Bool) (j : Nat) : List Bool := (List.range 16).map fun i => decide (i < j) && someB T i
def rowsB (T : Nat -> Bool) : Nat -> List Bool
 | 0 => []
 | j + 1 => rowsB T j ++ if someB T j then bitR T j else []
def usedB (T : Nat -> Bool) : List Bool := whichB T 16 ++ rowsB T 16
theorem bitR_len (T : Nat -> Bool) (i : Nat) : (bitR T i).length = 16 := by simp [bitR]
theorem whichB_len (T : Nat -> Bool) (j : Nat) : (whichB T j).length = 16 := by simp [whichB]
theorem bitR_get (T : Nat -> Bool) (i k : Nat) (h : k < 16) : (bitR T i).getD k false = T (16 * i + k) := by
 rw [List.getD_eq_getElem?_getD, bitR, List.getElem?_map, List.getElem?_range h]; rfl
theorem whichB_get (T : Nat -> Bool) (j i : Nat) (h : i < 16) : (whichB T j).getD i false = (decide (i < j) && someB T i) := by
 rw [List.getD_eq_getElem?_getD, whichB, List.getElem?_map, List.getElem?_range h]; rfl
theorem valB_bitL : ∀ {q : List Bool} {i : Nat}, i < q.length -> (valB q).testBit (q.length - 1 - i) = q.getD i false := by
 intro q
 induction q with
 | nil => intro i h; simp at h
 | cons x l ih =>
  intro i h
  have hc : valB (x :: l) = 2 ^ l.length * x.toNat + valB l := by
   have key : ∀ (l : List Bool) (a : Nat), l.foldl (fun a b => 2 * a + b.toNat) a = a * 2 ^ l.length + valB l := by
    intro l
    induction l with
    | nil => intro a; simp [valB]
    | cons y l ih2 =>
     intro a
     have e : valB (y :: l) = y.toNat * 2 ^ l.length + valB l := by
      have := ih2 y.toNat; rw [<- this]; simp [valB]
     rw [e, List.foldl_cons, ih2, List.length_cons, Nat.pow_succ, Nat.add_mul, Nat.mul_comm 2 a, Nat.mul_assoc, Nat.mul_comm 2]; omega
   have := key l x.toNat; rw [Nat.mul_comm, <- this]; simp [valB]
  rw [hc, Nat.testBit_two_pow_mul_add _ (valB_lt l)]; simp only [List.length_cons] at h ⊢
  cases i with
  | zero =>
   rw [if_neg (by omega), show l.length + 1 - 1 - 0 - l.length = 0 by omega]
   cases x <;> rfl
  | succ i =>
   rw [if_pos (by omega), show l.length + 1 - 1 - (i + 1) = l.length - 1 - i by omega, ih (by omega)]; rfl
theorem valB_or {a b : List Bool} {n k : Nat} (ha : a.length = n) (hb : b.length = n) (hk : k < n) (h : ∀ i, i < n -> b.getD i false = (a.getD i false || decide (i = k))) : valB a ||| 2 ^ (n - 1 - k) = valB b := by
 apply Nat.eq_of_testBit_eq; intro j; rw [Nat.testBit_or, Nat.testBit_two_pow]
 by_cases hj : j < n
 ·have h1 := valB_bitL (q := a) (i := n - 1 - j) (by omega); have h2 := valB_bitL (q := b) (i := n - 1 - j) (by omega); rw [ha, show n - 1 - (n - 1 - j) = j by omega] at h1; rw [hb, show n - 1 - (n - 1 - j) = j by omega] at h2; rw [h1, h2, h _ (by omega)]
  congr 1
  rw [Bool.eq_iff_iff, decide_eq_true_iff, decide_eq_true_iff]; omega
 ·have h1 : (valB a).testBit j = false := Nat.testBit_lt_two_pow (Nat.lt_of_lt_of_le (by have := valB_lt a; rwa [ha] at this) (Nat.pow_le_pow_right (by decide) (by omega))); have h2 : (valB b).testBit j = false := Nat.testBit_lt_two_pow (Nat.lt_of_lt_of_le (by have := valB_lt b; rwa [hb] at this) (Nat.pow_le_pow_right (by decide) (by omega))); rw [h1, h2, Bool.false_or, decide_eq_false (by omega)]
theorem bits_val (l : List Bool) : bitsOf (valB l) l.length = l := by
 apply List.ext_getElem (by rw [bitsOf_len]); intro i h1 h2; have hg := Go.M01.bitsOf_get (valB l) l.length i h2; rw [List.getElem?_eq_getElem h1] at hg; have := valB_bitL h2; rw [List.getD_eq_getElem?_getD, List.getElem?_eq_getElem h2] at this; rw [Option.some.inj hg, this]; rfl
theorem row_zero {T : Nat -> Bool} {i : Nat} : valB (bitR T i) = 0 ↔ someB T i = false := by
 constructor
 ·intro h; unfold someB; rw [List.any_eq_false]; intro k hk; have hk := List.mem_range.1 hk; have := valB_bitL (q := bitR T i) (i := k) (by rw [bitR_len]; exact hk); rw [h, Nat.zero_testBit, bitR_get T i k hk] at this; rw [<- this]; simp
 ·intro h; unfold someB at h; rw [List.any_eq_false] at h
  have e : bitR T i = List.replicate 16 false := by
   unfold bitR; rw [List.eq_replicate_iff]; refine ⟨by simp, fun b hb => ?_⟩; obtain ⟨k, hk, rfl⟩ := List.mem_map.1 hb; simpa using h k hk
  rw [e]; decide
def upT (s : List UInt8) : Nat -> Bool := fun b => decide (UInt8.ofNat b ∈ s)
theorem upT_snoc {s : List UInt8} {c : UInt8} {b : Nat} (hb : b < 256) : upT (s ++ [c]) b = (upT s b || decide (b = c.toNat)) := by
 unfold upT; rw [Bool.eq_iff_iff, decide_eq_true_iff, Bool.or_eq_true, decide_eq_true_iff, decide_eq_true_iff, List.mem_append, List.mem_singleton]
 have : UInt8.ofNat b = c ↔ b = c.toNat := by
  constructor
  ·intro h; rw [<- h, UInt8.toNat_ofNat_of_lt' hb]
  ·rintro rfl; simp
 rw [this]
theorem boolsT_congr {A B : Nat -> Bool} (h : ∀ x, x < 256 -> A x = B x) : boolsT A = boolsT B := by
 unfold boolsT; exact List.map_congr_left fun x hx => h x (List.mem_range.1 hx)
theorem row_or {s : List UInt8} {c : UInt8} : valB (bitR (upT s) (c.toNat / 16)) ||| 2 ^ (15 - c.toNat % 16) = valB (bitR (upT (s ++ [c])) (c.toNat / 16)) := by
 have hc := c.toNat_lt; refine valB_or (n := 16) (bitR_len _ _) (bitR_len _ _) (Nat.mod_lt _ (by decide)) fun k hk => ?_; rw [bitR_get _ _ _ hk, bitR_get _ _ _ hk, upT_snoc (by omega)]
 congr 1
 rw [Bool.eq_iff_iff, decide_eq_true_iff, decide_eq_true_iff]; omega
theorem row_same {s : List UInt8} {c : UInt8} {i : Nat} (hi : i < 16) (h : i ≠ c.toNat / 16) : bitR (upT (s ++ [c])) i = bitR (upT s) i := by
 have hc := c.toNat_lt; unfold bitR; apply List.map_congr_left; intro k hk; have hk := List.mem_range.1 hk; rw [upT_snoc (by omega), decide_eq_false (by omega), Bool.or_false]
theorem listed_up {T : Nat -> Bool} {b : Nat} (hb : b < 256) : upT (listed T) b = T b := by
 unfold upT; rw [Bool.eq_iff_iff, decide_eq_true_iff]; unfold listed; rw [List.mem_map]
 constructor
 ·rintro ⟨a, ha, hab⟩; obtain ⟨h1, h2⟩ := List.mem_filter.1 ha; have h1 := List.mem_range.1 h1
  have : a = b := by
   have := congrArg UInt8.toNat hab
   rwa [UInt8.toNat_ofNat_of_lt' h1, UInt8.toNat_ofNat_of_lt' hb] at this
  rw [<- this]; exact h2
 ·intro h; exact ⟨b, List.mem_filter.2 ⟨List.mem_range.2 hb, h⟩, rfl⟩
theorem row_up {T : Nat -> Bool} {i : Nat} (hi : i < 16) : bitR (upT (listed T)) i = bitR T i := by
 unfold bitR; apply List.map_congr_left; intro k hk; have hk := List.mem_range.1 hk; exact listed_up (by omega)
theorem some_up {T : Nat -> Bool} {i : Nat} (hi : i < 16) : someB (upT (listed T)) i = someB T i := by
 unfold someB; rw [Bool.eq_iff_iff, List.any_eq_true, List.any_eq_true]
 constructor
 ·rintro ⟨k, hk, h⟩; have hk' := List.mem_range.1 hk; rw [listed_up (by omega)] at h; exact ⟨k, hk, h⟩
 ·rintro ⟨k, hk, h⟩; have hk' := List.mem_range.1 hk; exact ⟨k, hk, by rw [listed_up (by omega)]; exact h⟩
theorem which_or {T : Nat -> Bool} {j : Nat} (hj : j < 16) (hs : someB T j = true) : valB (whichB T j) ||| 2 ^ (15 - j) = valB (whichB T (j + 1)) := by
 refine valB_or (n := 16) (whichB_len _ _) (whichB_len _ _) hj fun i hi => ?_; rw [whichB_get _ _ _ hi, whichB_get _ _ _ hi]
 by_cases h1 : i = j
 ·subst h1; rw [hs, decide_eq_true (show i < i + 1 by omega), decide_eq_false (Nat.lt_irrefl i)]; simp
 ·by_cases h2 : i < j
  ·rw [decide_eq_true (show i < j + 1 by omega), decide_eq_true h2, decide_eq_false h1, Bool.or_false]
  ·rw [decide_eq_false (show ¬ i < j + 1 by omega), decide_eq_false h2, decide_eq_false h1]; rfl
theorem which_same {T : Nat -> Bool} {j : Nat} (hs : someB T j = false) : whichB T (j + 1) = whichB T j := by
 unfold whichB; apply List.map_congr_left; intro i hi
 by_cases h1 : i = j
 ·subst h1; rw [hs, Bool.and_false, Bool.and_false]
 ·congr 1
  rw [Bool.eq_iff_iff, decide_eq_true_iff, decide_eq_true_iff]; omega
theorem rowsB_len (T : Nat -> Bool) : ∀ j, (rowsB T j).length <= 16 * j
 | 0 => Nat.le_refl _
 | j + 1 => by
  have := rowsB_len T j; rw [rowsB, List.length_append]; split
  ·rw [bitR_len]; omega
  ·simp; omega
end Go.Mx
namespace Go.Mv
open Go.M01 Go.Mb Go.Mp Go.M10 Go.Mx
def moves (a b : Nat) : List Bool := (List.replicate (b - a) [true, false]).flatten ++ (List.replicate (a - b) [true, true]).flatten
def stepsB : Nat -> List Nat -> List Bool
 | _, [] => []
 | a, b :: l => moves a b ++ [false] ++ stepsB b l
def lensB (l : List Nat) : List Bool := bitsOf (l.getD 0 0) 5 ++ stepsB (l.getD 0 0) l
def lastB (a : Nat) (l : List Nat) : Nat := l.getLastD a
theorem stepsB_snoc : ∀ (l : List Nat) (a b : Nat), stepsB a (l ++ [b]) = stepsB a l ++ (moves (lastB a l) b ++ [false])
 | [], a, b => by simp [stepsB, lastB]
 | c :: l, a, b => by
  rw [List.cons_append, stepsB, stepsB, stepsB_snoc l c b]
  have : lastB a (c :: l) = lastB c l := by
   unfold lastB
   cases l with
   | nil => rfl
   | cons d l => simp [List.getLastD]
  rw [this]; simp only [List.append_assoc]
theorem lastB_snoc (a b : Nat) (l : List Nat) : lastB a (l ++ [b]) = b := by simp [lastB]
theorem moves_len (a b : Nat) (ha : a <= 20) (hb : b <= 20) : (moves a b).length <= 40 := by
 unfold moves; simp; omega
def pE (x : List Nat × List Nat) (p : Nat) : List Nat × List Nat := (front x.1 (x.1.idxOf p), x.2 ++ [x.1.idxOf p])
def pickE (o l : List Nat) : List Nat × List Nat := l.foldl pE (o, [])
theorem pickE_snoc (o l : List Nat) (p : Nat) : pickE o (l ++ [p]) = pE (pickE o l) p := by simp [pickE]
def onesB (l : List Nat) : List Bool := l.flatMap fun at_ => List.replicate at_ true ++ [false]
theorem onesB_snoc (l : List Nat) (a : Nat) : onesB (l ++ [a]) = onesB l ++ (List.replicate a true ++ [false]) := by simp [onesB]
def picksB (l : List Nat) (t : Nat) : List Bool := bitsOf t 3 ++ bitsOf l.length 15 ++ onesB (pickE [0, 1, 2, 3, 4, 5] l).2
theorem frontN_mem {o : List Nat} {i : Nat} (hi : i < o.length) (x : Nat) : x ∈ front o i ↔ x ∈ o := by
 unfold front
 have e : o = o.take i ++ o.getD i 0 :: o.drop (i + 1) := by
  conv => lhs; rw [<- List.take_append_drop i o]
  rw [List.drop_eq_getElem_cons hi, List.getD_eq_getElem?_getD, List.getElem?_eq_getElem hi]; rfl
 conv => rhs; rw [e]
 simp only [List.mem_cons, List.mem_append]
 constructor
 ·rintro (h | h | h)
  ·exact .inr (.inl h)
  ·exact .inl h
  ·exact .inr (.inr h)
 ·rintro (h | h | h)
  ·exact .inr (.inl h)
  ·exact .inl h
  ·exact .inr (.inr h)
theorem idxN_lt {o : List Nat} {c : Nat} (h : c ∈ o) : o.idxOf c < o.length := List.idxOf_lt_length_of_mem h
theorem idxN_at {o : List Nat} {c : Nat} (h : c ∈ o) : o.getD (o.idxOf c) 0 = c := by
 rw [List.getD_eq_getElem?_getD, List.getElem?_eq_getElem (idxN_lt h)]; simp
theorem pickE_inv {o l : List Nat} (h : ∀ c ∈ l, c ∈ o) : (∀ x, x ∈ (pickE o l).1 ↔ x ∈ o) /\ (pickE o l).1.length = o.length /\ (pickE o l).2.length = l.length /\ ∀ p ∈ (pickE o l).2, p < o.length := by
 have key : ∀ i, i <= l.length -> (∀ x, x ∈ (pickE o (l.take i)).1 ↔ x ∈ o) /\ (pickE o (l.take i)).1.length = o.length /\ (pickE o (l.take i)).2.length = i /\ ∀ p ∈ (pickE o (l.take i)).2, p < o.length := by
  intro i
  induction i with
  | zero => intro _; exact ⟨fun x => Iff.rfl, rfl, rfl, fun p hp => by simp [pickE] at hp⟩
  | succ i ih =>
   intro hi; obtain ⟨h1, h2, h3, h4⟩ := ih (by omega)
   have hg : l.take (i + 1) = l.take i ++ [l[i]] := by rw [List.take_add_one, List.getElem?_eq_getElem (by omega)]; rfl
   have hm : l[i] ∈ (pickE o (l.take i)).1 := (h1 _).2 (h _ (List.getElem_mem _)); have hlt := idxN_lt hm; rw [hg, pickE_snoc]; unfold pE; refine ⟨fun x => by rw [frontN_mem hlt]; exact h1 x, by rw [front_len hlt]; exact h2, by rw [List.length_append, h3]; rfl, fun p hp => ?_⟩; rcases List.mem_append.1 hp with hp | hp
   ·exact h4 p hp
   ·rw [List.mem_singleton.1 hp]; omega
 have := key l.length (Nat.le_refl _)
 rwa [List.take_length] at this
theorem onesB_len : ∀ {l : List Nat} {m : Nat}, (∀ p ∈ l, p < m) -> (onesB l).length <= m * l.length
 | [], m, h => by simp [onesB]
 | a :: l, m, h => by
  have h1 := onesB_len (l := l) (m := m) fun p hp => h p (List.mem_cons_of_mem _ hp); have h2 := h a (List.mem_cons_self ..); unfold onesB at h1 ⊢; rw [List.flatMap_cons, List.length_append, List.length_append, List.length_replicate, List.length_singleton, List.length_cons, Nat.mul_add]; omega
theorem ones_bits (a : Nat) : bitsOf (2 ^ (a + 1) - 2) (a + 1) = List.replicate a true ++ [false] := by
 apply List.ext_getElem (by rw [bitsOf_len]; simp); intro i h1 h2; rw [bitsOf_len] at h1; have hg := Go.M01.bitsOf_get (2 ^ (a + 1) - 2) (a + 1) i h1; rw [List.getElem?_eq_getElem (by rw [bitsOf_len]; exact h1)] at hg; rw [Option.some.inj hg]
 have e : 2 ^ (a + 1) - 2 = 2 * (2 ^ a - 1) := by rw [Nat.pow_succ]; omega
 rw [e]
 by_cases hi : i < a
 ·rw [List.getElem_append_left (by simpa using hi), List.getElem_replicate]; rw [show a + 1 - 1 - i = (a - 1 - i) + 1 by omega, Nat.testBit_succ, Nat.mul_div_cancel_left _ (by decide), Nat.testBit_two_pow_sub_one]; simp; omega
 ·have : i = a := by omega
  subst this; rw [show i + 1 - 1 - i = 0 by omega, Nat.testBit_zero, Nat.mul_mod_right]; simp
end Go.Mv
namespace Go.M18
def blw (l : List UInt8) (b : Nat) : Nat := l.countP fun c => decide (c.toNat < b)
def cntB (l : List UInt8) (b : Nat) : Nat := l.countP fun c => c.toNat == b
def nx (l : List UInt8) (s : Nat) (b : Nat) : Nat := if s < l.length then cntB (l.take s) b else blw l b + cntB (l.take (s - l.length)) b
def nxL (l : List UInt8) (s : Nat) : List Nat := (List.range 256).map (nx l s)
def pos (l : List UInt8) (j : Nat) : Nat := blw l (l.getD j 0).toNat + cntB (l.take j) (l.getD j 0).toNat
def lnk (l : List UInt8) : Nat -> List Nat
 | 0 => List.replicate l.length 0
 | i + 1 => (lnk l i).set (pos l i) i
def lnS (l : List UInt8) (s : Nat) : List Nat := lnk l (min (s - l.length) l.length)
def links (l : List UInt8) : List Nat := lnk l l.length
def atK (l : List UInt8) (o : Nat) : Nat -> Nat
 | 0 => o
 | k + 1 => (links l).getD (atK l o k) 0
def outK (l : List UInt8) (o : Nat) : Nat -> List UInt8
 | 0 => []
 | k + 1 => outK l o k ++ [l.getD (atK l o (k + 1)) 0]
def text (l : List UInt8) (o : Nat) : List UInt8 := outK l o l.length
def exB (f : Nat -> Nat) : Nat -> Nat
 | 0 => 0
 | b + 1 => exB f b + f b
theorem blw_le (l : List UInt8) (b : Nat) : blw l b <= l.length := List.countP_le_length
theorem cnt_le (l : List UInt8) (b : Nat) : cntB l b <= l.length := List.countP_le_length
theorem blw_succ (l : List UInt8) (b : Nat) : blw l (b + 1) = blw l b + cntB l b := by
 unfold blw cntB
 induction l with
 | nil => rfl
 | cons c l ih =>
  simp only [List.countP_cons, ih]
  by_cases h1 : c.toNat < b
  ·have h2 : ¬ c.toNat = b := by omega
   have h3 : c.toNat < b + 1 := by omega
   simp [h1, h2, h3]; omega
  ·by_cases h2 : c.toNat = b
   ·have h3 : c.toNat < b + 1 := by omega
    simp [h1, h2, h3]; omega
   ·have h3 : ¬ c.toNat < b + 1 := by omega
    simp [h1, h2, h3]
theorem blw_zero (l : List UInt8) : blw l 0 = 0 := by
 unfold blw; rw [List.countP_eq_zero]; intro c _; simp
theorem take_succ' (l : List UInt8) (i : Nat) (h : i < l.length) : l.take (i + 1) = l.take i ++ [l.getD i 0] := by
 rw [List.take_add_one, List.getElem?_eq_getElem h]; simp [List.getD, h]
theorem cnt_take_succ (l : List UInt8) (i b : Nat) (h : i < l.length) : cntB (l.take (i + 1)) b = cntB (l.take i) b + if (l.getD i 0).toNat = b then 1 else 0 := by
 rw [take_succ' l i h]; unfold cntB; rw [List.countP_append]
 congr 1
 simp [List.countP_cons]
theorem cnt_take_le (l : List UInt8) (i b : Nat) : cntB (l.take i) b <= cntB l b := by
 unfold cntB; exact List.Sublist.countP_le (List.take_sublist i l)
theorem cnt_take_lt (l : List UInt8) (i : Nat) (h : i < l.length) : cntB (l.take i) (l.getD i 0).toNat < cntB l (l.getD i 0).toNat := by
 have h1 := cnt_take_succ l i (l.getD i 0).toNat h; have h2 := cnt_take_le l (i + 1) (l.getD i 0).toNat; simp at h1; simp at h2; simp only [List.getD] at *; omega
theorem pos_lt (l : List UInt8) (i : Nat) (h : i < l.length) : pos l i < l.length := by
 unfold pos; have h1 := cnt_take_lt l i h; have h2 := blw_le l ((l.getD i 0).toNat + 1); rw [blw_succ] at h2; omega
theorem lnk_len (l : List UInt8) (i : Nat) : (lnk l i).length = l.length := by
 induction i with
 | zero => simp [lnk]
 | succ i ih => simp [lnk, ih]
theorem lnk_lt (l : List UInt8) : ∀ (i : Nat), i <= l.length -> ∀ x ∈ lnk l i, x < max l.length 1
 | 0, _, x, hx => by simp [lnk] at hx; omega
 | i + 1, h, x, hx => by
  rcases List.mem_or_eq_of_mem_set hx with h1 | h1
  ·exact lnk_lt l i (by omega) x h1
  ·omega
theorem links_lt (l : List UInt8) (a : Nat) (h : 0 < l.length) : (links l).getD a 0 < l.length := by
 rcases Nat.lt_or_ge a (links l).length with ha | ha
 ·have := lnk_lt l l.length (Nat.le_refl _) ((links l)[a]) (List.getElem_mem ha); simp [List.getD, ha]; omega
 ·simp [List.getD, List.getElem?_eq_none ha]; exact h
theorem atK_lt (l : List UInt8) (o : Nat) (ho : o < l.length) : ∀ k, atK l o k < l.length
 | 0 => ho
 | k + 1 => links_lt l _ (by omega)
theorem outK_len (l : List UInt8) (o : Nat) (k : Nat) : (outK l o k).length = k := by
 induction k with
 | zero => rfl
 | succ k ih => simp [outK, ih]
theorem nxL_len (l : List UInt8) (s : Nat) : (nxL l s).length = 256 := by simp [nxL]
theorem nxL_get (l : List UInt8) (s b : Nat) (h : b < 256) : (nxL l s)[b]? = some (nx l s b) := by simp [nxL, h]
theorem nx_le (l : List UInt8) (s b : Nat) : nx l s b <= 2 * l.length := by
 unfold nx; split
 ·have := cnt_le (l.take s) b; simp at this; omega
 ·have := blw_le l b; have := cnt_le (l.take (s - l.length)) b; simp at this; omega
theorem byte_lt (l : List UInt8) (i : Nat) : (l.getD i 0).toNat < 256 := UInt8.toNat_lt _
theorem nx_lo {l : List UInt8} {s b : Nat} (h : s < l.length) : nx l s b = cntB (l.take s) b := if_pos h
theorem nx_hi {l : List UInt8} {s b : Nat} (h : l.length <= s) : nx l s b = blw l b + cntB (l.take (s - l.length)) b := if_neg (by omega)
theorem nxL_count (l : List UInt8) (s : Nat) (h : s + 1 < l.length) : (nxL l s).set (l.getD s 0).toNat (nx l s (l.getD s 0).toNat + 1) = nxL l (s + 1) := by
 have hb := byte_lt l s; apply List.ext_getElem?; intro j; rw [List.getElem?_set, nxL_len]
 by_cases hj : j < 256
 ·rw [nxL_get _ _ _ hj, nxL_get _ _ _ hj, nx_lo (by omega), nx_lo (by omega), nx_lo (by omega), cnt_take_succ l s j (by omega)]
  by_cases e : (l.getD s 0).toNat = j
  ·rw [e, if_pos rfl, if_pos hj, if_pos rfl]
  ·rw [if_neg e, if_neg e, Nat.add_zero]
 ·have h1 : (l.getD s 0).toNat ≠ j := by omega
  rw [if_neg h1, List.getElem?_eq_none (by rw [nxL_len]; omega), List.getElem?_eq_none (by rw [nxL_len]; omega)]
theorem nxL_begin (l : List UInt8) (s : Nat) (h : s + 1 = l.length) :
  (List.range 256).map (exB fun b => ((nxL l s).set (l.getD s 0).toNat (nx l s (l.getD s 0).toNat + 1)).getD b 0) = nxL l (s + 1) := by
 have hc : ∀ b, b < 256 -> ((nxL l s).set (l.getD s 0).toNat (nx l s (l.getD s 0).toNat + 1)).getD b 0 = cntB l b := by
  intro b hb
  have ht : cntB l b = cntB (l.take (s + 1)) b := by rw [h, List.take_length]
  have hg : ((nxL l s).set (l.getD s 0).toNat (nx l s (l.getD s 0).toNat + 1))[b]? = some (cntB (l.take (s + 1)) b) := by
   rw [List.getElem?_set, nxL_len, nxL_get _ _ _ hb, nx_lo (by omega), nx_lo (by omega), cnt_take_succ l s b (by omega)]
   by_cases e : (l.getD s 0).toNat = b
   ·rw [e, if_pos rfl, if_pos hb, if_pos rfl]
   ·rw [if_neg e, if_neg e, Nat.add_zero]
  rw [ht]; rw [List.getD_eq_getElem?_getD, hg]; rfl
 have he : ∀ b, b <= 256 -> exB (fun b => ((nxL l s).set (l.getD s 0).toNat (nx l s (l.getD s 0).toNat + 1)).getD b 0) b = blw l b := by
  intro b
  induction b with
  | zero => intro _; exact (blw_zero l).symm
  | succ b ih => intro hb; rw [exB, ih (by omega), hc b (by omega), blw_succ]
 show _ = (List.range 256).map (nx l (s + 1)); apply List.map_congr_left; intro b hb; rw [List.mem_range] at hb; rw [he b (by omega), nx_hi (by omega), show s + 1 - l.length = 0 by omega]; simp [cntB]
theorem nxL_link (l : List UInt8) (s : Nat) (h1 : l.length <= s) (h2 : s < 2 * l.length) :
  (nxL l s).set (l.getD (s - l.length) 0).toNat (nx l s (l.getD (s - l.length) 0).toNat + 1) = nxL l (s + 1) := by
 apply List.ext_getElem?; intro j; rw [List.getElem?_set, nxL_len]
 by_cases hj : j < 256
 ·rw [nxL_get _ _ _ hj, nxL_get _ _ _ hj, nx_hi (by omega), nx_hi (by omega), nx_hi (by omega), show s + 1 - l.length = (s - l.length) + 1 by omega, cnt_take_succ l _ j (by omega)]
  by_cases e : (l.getD (s - l.length) 0).toNat = j
  ·rw [e, if_pos rfl, if_pos hj, if_pos rfl, Nat.add_assoc]
  ·rw [if_neg e, if_neg e, Nat.add_zero]
 ·have h3 : (l.getD (s - l.length) 0).toNat ≠ j := by have := byte_lt l (s - l.length); omega
  rw [if_neg h3, List.getElem?_eq_none (by rw [nxL_len]; omega), List.getElem?_eq_none (by rw [nxL_len]; omega)]
theorem nx_pos (l : List UInt8) (s : Nat) (h1 : l.length <= s) : nx l s (l.getD (s - l.length) 0).toNat = pos l (s - l.length) := by
 rw [nx_hi h1]; rfl
theorem lnS_link (l : List UInt8) (s : Nat) (h1 : l.length <= s) (h2 : s < 2 * l.length) : (lnS l s).set (pos l (s - l.length)) (s - l.length) = lnS l (s + 1) := by
 unfold lnS; rw [Nat.min_eq_left (by omega), Nat.min_eq_left (by omega), show s + 1 - l.length = (s - l.length) + 1 by omega]; rfl
theorem lnS_low (l : List UInt8) (s : Nat) (h : s < l.length) : lnS l s = lnS l (s + 1) := by
 unfold lnS; rw [show s - l.length = 0 by omega, show s + 1 - l.length = 0 by omega]
theorem lnS_high (l : List UInt8) (s : Nat) (h : 2 * l.length <= s) : lnS l s = links l := by
 unfold lnS links; rw [Nat.min_eq_right (by omega)]
theorem nxL_high (l : List UInt8) (s : Nat) (h : 2 * l.length <= s) : nxL l s = nxL l (s + 1) := by
 unfold nxL; apply List.map_congr_left; intro b _; rcases Nat.lt_or_ge s l.length with h3 | h3
 ·omega
 ·rw [nx_hi h3, nx_hi (by omega), List.take_of_length_le (by omega), List.take_of_length_le (by omega)]
theorem lnS_len (l : List UInt8) (s : Nat) : (lnS l s).length = l.length := lnk_len _ _
theorem set_mid {α : Type} (f : Nat -> α) (l : List α) (j : Nat) (h : j < l.length) : ((List.range j).map f ++ l.drop j).set j (f j) = (List.range (j + 1)).map f ++ l.drop (j + 1) := by
 have hl0 : ((List.range j).map f).length = j := by simp
 rw [List.set_append_right _ _ (by omega), hl0, Nat.sub_self, List.drop_eq_getElem_cons h, List.set_cons_zero, List.range_succ, List.map_append, List.append_assoc]; rfl
def cnL (l : List UInt8) (i : Nat) : List Nat := (List.range 256).map (cntB (l.take i))
end Go.M18
namespace Go.M18
def refBi (l : List UInt8) (b i : Nat) : List Nat := (List.range i).filter fun k => decide ((l.getD k 0).toNat = b)
def refL (l : List UInt8) : Nat -> List Nat
 | 0 => []
 | b + 1 => refL l b ++ refBi l b l.length
theorem refBi_succ (l : List UInt8) (b i : Nat) : refBi l b (i + 1) = refBi l b i ++ if (l.getD i 0).toNat = b then [i] else [] := by
 unfold refBi; rw [List.range_succ, List.filter_append]
 congr 1
 by_cases h : (l.getD i 0).toNat = b
 ·rw [if_pos h, List.filter_cons_of_pos (by simpa using h), List.filter_nil]
 ·rw [if_neg h, List.filter_cons_of_neg (by simpa using h), List.filter_nil]
theorem refBi_len (l : List UInt8) (b : Nat) : ∀ i, i <= l.length -> (refBi l b i).length = cntB (l.take i) b
 | 0, _ => by simp [refBi, cntB]
 | i + 1, h => by
  rw [refBi_succ, List.length_append, refBi_len l b i (by omega), cnt_take_succ l i b (by omega)]
  split <;> simp
theorem refL_len (l : List UInt8) : ∀ b, (refL l b).length = blw l b
 | 0 => by rw [blw_zero]; rfl
 | b + 1 => by rw [refL, List.length_append, refL_len l b, refBi_len l b _ (Nat.le_refl _), List.take_length, blw_succ]
theorem blw_all (l : List UInt8) : blw l 256 = l.length := by
 unfold blw; rw [List.countP_eq_length]; intro a _; simpa using UInt8.toNat_lt a
theorem refL_pre (l : List UInt8) (c : Nat) : ∀ d, ∃ r, refL l (c + d) = refL l c ++ r
 | 0 => ⟨[], by simp⟩
 | d + 1 => by
  obtain ⟨r, h⟩ := refL_pre l c d; exact ⟨r ++ refBi l (c + d) l.length, by rw [<- Nat.add_assoc, refL, h, List.append_assoc]⟩
theorem refBi_pre (l : List UInt8) (b i : Nat) : ∀ d, ∃ r, refBi l b (i + d) = refBi l b i ++ r
 | 0 => ⟨[], by simp⟩
 | d + 1 => by
  obtain ⟨r, h⟩ := refBi_pre l b i d; exact ⟨_, by rw [<- Nat.add_assoc, refBi_succ, h, List.append_assoc]⟩
theorem refL_pos (l : List UInt8) (i : Nat) (h : i < l.length) : (refL l 256)[pos l i]? = some i := by
 have hb := byte_lt l i; obtain ⟨r, hr⟩ := refL_pre l ((l.getD i 0).toNat + 1) (256 - ((l.getD i 0).toNat + 1)); rw [show (l.getD i 0).toNat + 1 + (256 - ((l.getD i 0).toNat + 1)) = 256 by omega] at hr; obtain ⟨r2, hr2⟩ := refBi_pre l (l.getD i 0).toNat (i + 1) (l.length - (i + 1)); rw [show i + 1 + (l.length - (i + 1)) = l.length by omega, refBi_succ, if_pos rfl] at hr2; rw [hr, refL, hr2]
 have e : pos l i = (refL l (l.getD i 0).toNat).length + (refBi l (l.getD i 0).toNat i).length := by
  rw [refL_len, refBi_len _ _ _ (by omega)]; rfl
 rw [e, List.append_assoc, List.getElem?_append_right (by omega), Nat.add_sub_cancel_left, List.append_assoc, List.append_assoc, List.getElem?_append_right (by omega), Nat.sub_self]; rfl
theorem pos_inj (l : List UInt8) (i j : Nat) (hi : i < l.length) (hj : j < l.length) (h : pos l i = pos l j) : i = j := by
 have h1 := refL_pos l i hi; rw [h, refL_pos l j hj] at h1; injection h1 with h1; exact h1.symm
theorem lnk_pos (l : List UInt8) : ∀ m, m <= l.length -> ∀ i, i < m -> (lnk l m)[pos l i]? = some i
 | 0, _, i, hi => by omega
 | m + 1, hm, i, hi => by
  rw [lnk, List.getElem?_set, lnk_len]
  by_cases e : pos l m = pos l i
  ·rw [if_pos e, if_pos (pos_lt l m (by omega)), pos_inj l m i (by omega) (by omega) e]
  ·rw [if_neg e]; have : i ≠ m := fun h => e (by rw [h]); exact lnk_pos l m (by omega) i (by omega)
theorem refBi_mem (l : List UInt8) (b i x : Nat) : x ∈ refBi l b i ↔ x < i /\ (l.getD x 0).toNat = b := by
 unfold refBi; rw [List.mem_filter, List.mem_range, decide_eq_true_iff]
theorem refL_mem (l : List UInt8) : ∀ b x, x ∈ refL l b ↔ x < l.length /\ (l.getD x 0).toNat < b
 | 0, x => by simp [refL]
 | b + 1, x => by
  rw [refL, List.mem_append, refL_mem l b x, refBi_mem]; omega
theorem refL_nodup (l : List UInt8) : ∀ b, (refL l b).Nodup
 | 0 => by simp [refL]
 | b + 1 => by
  rw [refL, List.nodup_append]; refine ⟨refL_nodup l b, List.Nodup.sublist (List.filter_sublist) List.nodup_range, ?_⟩; intro x hx y hy e; subst e; rw [refL_mem] at hx; rw [refBi_mem] at hy; omega
theorem pos_refL (l : List UInt8) (a v : Nat) (h : (refL l 256)[a]? = some v) : v < l.length /\ pos l v = a := by
 have hv : v < l.length := ((refL_mem l 256 v).1 (List.mem_of_getElem? h)).1; refine ⟨hv, ?_⟩; have h1 := refL_pos l v hv; have hn := refL_nodup l 256; obtain ⟨ha, ha2⟩ := List.getElem?_eq_some_iff.1 h; obtain ⟨hp, hp2⟩ := List.getElem?_eq_some_iff.1 h1; exact (List.getElem_inj hn).1 (hp2.trans ha2.symm)
theorem links_ref (l : List UInt8) : links l = refL l 256 := by
 have hl : (links l).length = l.length := lnk_len _ _; have hr : (refL l 256).length = l.length := (refL_len l 256).trans (blw_all l); apply List.ext_getElem?; intro a; rcases Nat.lt_or_ge a l.length with ha | ha
 ·obtain ⟨v, h⟩ : ∃ v, (refL l 256)[a]? = some v := ⟨_, List.getElem?_eq_getElem (by rw [hr]; exact ha)⟩; obtain ⟨hv, hp⟩ := pos_refL l a _ h; have := lnk_pos l l.length (Nat.le_refl _) _ hv; rw [hp] at this; rw [h, <- this]; rfl
 ·rw [List.getElem?_eq_none (by omega), List.getElem?_eq_none (by omega)]
theorem links_len (l : List UInt8) : (links l).length = l.length := lnk_len _ _
theorem links_nodup (l : List UInt8) : (links l).Nodup := by rw [links_ref]; exact refL_nodup l 256
end Go.M18
namespace Go.M18
abbrev bl := Op.bytesLess
theorem bl_irrefl : ∀ a : List UInt8, bl a a = false
 | [] => rfl
 | a :: x => by
  have := bl_irrefl x; simp [bl, Op.bytesLess] at this ⊢; exact this
theorem bl_cons (a b : UInt8) (x y : List UInt8) : bl (a :: x) (b :: y) = (decide (a < b) || (a == b && bl x y)) := rfl
theorem bl_trans : ∀ a b c : List UInt8, bl a b = true -> bl b c = true -> bl a c = true
 | _, [], _, h, _ => by cases ‹List UInt8› <;> simp [bl, Op.bytesLess] at h
 | _, _ :: _, [], _, h => by simp [bl, Op.bytesLess] at h
 | [], _ :: _, _ :: _, _, _ => rfl
 | a :: x, b :: y, c :: z, h, k => by
  rw [bl_cons] at *; simp only [Bool.or_eq_true, decide_eq_true_iff, Bool.and_eq_true, beq_iff_eq, UInt8.lt_iff_toNat_lt] at *; rcases h with h | ⟨rfl, h⟩
  ·rcases k with k | ⟨rfl, k⟩
   ·exact .inl (by omega)
   ·exact .inl h
  ·rcases k with k | ⟨rfl, k⟩
   ·exact .inl k
   ·exact .inr ⟨rfl, bl_trans x y z h k⟩
theorem bl_total : ∀ a b : List UInt8, bl a b = true \/ a = b \/ bl b a = true
 | [], [] => .inr (.inl rfl)
 | [], _ :: _ => .inl rfl
 | _ :: _, [] => .inr (.inr rfl)
 | a :: x, b :: y => by
  rw [bl_cons, bl_cons]; simp only [Bool.or_eq_true, decide_eq_true_iff, Bool.and_eq_true, beq_iff_eq, UInt8.lt_iff_toNat_lt]; rcases Nat.lt_trichotomy a.toNat b.toNat with h | h | h
  ·exact .inl (.inl h)
  ·have e : a = b := UInt8.toNat_inj.1 h; subst e; rcases bl_total x y with h | h | h
   ·exact .inl (.inr ⟨rfl, h⟩)
   ·exact .inr (.inl (by rw [h]))
   ·exact .inr (.inr (.inr ⟨rfl, h⟩))
  ·exact .inr (.inr (.inl h))
theorem bl_asymm {a b : List UInt8} (h : bl a b = true) : bl b a = false := by
 cases k : bl b a with
 | false => rfl
 | true => rw [<- bl_irrefl a, bl_trans a b a h k]
def ble (a b : List UInt8) : Prop := bl b a = false
theorem ble_antisymm {a b : List UInt8} (h : ble a b) (k : ble b a) : a = b := by
 unfold ble at *; rcases bl_total a b with h1 | h1 | h1
 ·rw [k] at h1; cases h1
 ·exact h1
 ·rw [h] at h1; cases h1
theorem ble_trans {a b c : List UInt8} (h : ble a b) (k : ble b c) : ble a c := by
 unfold ble at *
 cases e : bl c a with
 | false => rfl
 | true =>
  rcases bl_total a b with h1 | h1 | h1
  ·rw [bl_trans c a b e h1] at k; cases k
  ·rw [<- h1, e] at k; cases k
  ·rw [h] at h1; cases h1
theorem bl_snoc (c : UInt8) : ∀ x y : List UInt8, x.length = y.length -> bl (x ++ [c]) (y ++ [c]) = bl x y
 | [], [], _ => by simp [bl, Op.bytesLess]
 | a :: x, b :: y, h => by
  rw [List.cons_append, List.cons_append, bl_cons, bl_cons, bl_snoc c x y (by simpa using h)]
def rot (s : List UInt8) (i : Nat) : List UInt8 := s.drop i ++ s.take i
def lastB (r : List UInt8) : UInt8 := r.getD (r.length - 1) 0
def rotR (r : List UInt8) : List UInt8 := lastB r :: r.take (r.length - 1)
theorem lastB_snoc (x : List UInt8) (c : UInt8) : lastB (x ++ [c]) = c := by simp [lastB]
theorem rotR_snoc (x : List UInt8) (c : UInt8) : rotR (x ++ [c]) = c :: x := by
 unfold rotR; rw [lastB_snoc]; simp
theorem init_last (r : List UInt8) (h : 0 < r.length) : r = r.take (r.length - 1) ++ [lastB r] := by
 have := take_succ' r (r.length - 1) (by omega); rw [show r.length - 1 + 1 = r.length by omega, List.take_length] at this; exact this
theorem rot_len (s : List UInt8) (i : Nat) (h : i <= s.length) : (rot s i).length = s.length := by
 simp [rot]; omega
theorem rot_head (s : List UInt8) (i : Nat) (h : i < s.length) : rot s i = s.getD i 0 :: (s.drop (i + 1) ++ s.take i) := by
 unfold rot; rw [List.drop_eq_getElem_cons h, List.cons_append, List.getD_eq_getElem?_getD, List.getElem?_eq_getElem h]; rfl
theorem rot_succ (s : List UInt8) (i : Nat) (h : i < s.length) : rot s (i + 1) = (s.drop (i + 1) ++ s.take i) ++ [s.getD i 0] := by
 unfold rot; rw [take_succ' s i h, List.append_assoc]
theorem rotR_rot (s : List UInt8) (i : Nat) (h : i < s.length) : rotR (rot s (i + 1)) = rot s i := by
 rw [rot_succ s i h, rotR_snoc, rot_head s i h]
theorem rot_zero (s : List UInt8) : rot s 0 = s := by simp [rot]
theorem rot_full (s : List UInt8) : rot s s.length = s := by simp [rot]
theorem rotR_zero (s : List UInt8) (h : 0 < s.length) : rotR (rot s 0) = rot s (s.length - 1) := by
 rw [rot_zero]; have := rotR_rot s (s.length - 1) (by omega); rw [show s.length - 1 + 1 = s.length by omega, rot_full] at this; exact this
def aheadP (s : List UInt8) (i k : Nat) : Bool := bl (rot s i) (rot s k) || (decide (rot s i = rot s k) && decide (i < k))
def insP (s : List UInt8) (i : Nat) : List Nat -> List Nat
 | [] => [i]
 | k :: r => if aheadP s i k then i :: k :: r else k :: insP s i r
def sortP (s : List UInt8) : Nat -> List Nat
 | 0 => []
 | i + 1 => insP s i (sortP s i)
theorem insP_perm (s : List UInt8) (i : Nat) : ∀ l, (insP s i l).Perm (i :: l)
 | [] => .refl _
 | k :: r => by
  rw [insP]; split
  ·exact .refl _
  ·exact ((insP_perm s i r).cons k).trans (.swap i k r)
theorem sortP_perm (s : List UInt8) : ∀ n, (sortP s n).Perm (List.range n)
 | 0 => .refl _
 | n + 1 => by
  rw [sortP, List.range_succ]; exact ((insP_perm s n _).trans ((sortP_perm s n).cons n)).trans (List.perm_append_comm (l₁ := [n]))
theorem ahead_le {s : List UInt8} {i k : Nat} (h : aheadP s i k = true) : ble (rot s i) (rot s k) := by
 unfold aheadP at h; rw [Bool.or_eq_true, Bool.and_eq_true, decide_eq_true_iff] at h; rcases h with h | h
 ·exact bl_asymm h
 ·unfold ble; rw [h.1]; exact bl_irrefl _
theorem not_ahead_le {s : List UInt8} {i k : Nat} (h : aheadP s i k = false) : ble (rot s k) (rot s i) := by
 unfold aheadP at h; rw [Bool.or_eq_false_iff] at h; exact h.1
theorem insP_sorted (s : List UInt8) (i : Nat) : ∀ l : List Nat, l.Pairwise (fun a b => ble (rot s a) (rot s b)) -> (insP s i l).Pairwise (fun a b => ble (rot s a) (rot s b))
 | [], _ => by simp [insP]
 | k :: r, h => by
  rw [List.pairwise_cons] at h; rw [insP]; split
  ·rename_i ha; rw [List.pairwise_cons, List.pairwise_cons]; refine ⟨fun x hx => ?_, h.1, h.2⟩; rcases List.mem_cons.1 hx with rfl | hx
   ·exact ahead_le ha
   ·exact ble_trans (ahead_le ha) (h.1 x hx)
  ·rename_i ha; rw [List.pairwise_cons]; refine ⟨fun x hx => ?_, insP_sorted s i r h.2⟩; rcases List.mem_cons.1 ((insP_perm s i r).mem_iff.1 hx) with rfl | hx
   ·exact not_ahead_le (by simpa using ha)
   ·exact h.1 x hx
theorem sortP_sorted (s : List UInt8) : ∀ n, (sortP s n).Pairwise (fun a b => ble (rot s a) (rot s b))
 | 0 => by simp [sortP]
 | n + 1 => insP_sorted s n _ (sortP_sorted s n)
theorem sortP_len (s : List UInt8) (n : Nat) : (sortP s n).length = n := by rw [(sortP_perm s n).length_eq, List.length_range]
theorem sortP_mem (s : List UInt8) (n x : Nat) : x ∈ sortP s n ↔ x < n := by rw [(sortP_perm s n).mem_iff, List.mem_range]
theorem sortP_nodup (s : List UInt8) (n : Nat) : (sortP s n).Nodup := (sortP_perm s n).symm.nodup List.nodup_range
def lastL (s : List UInt8) : List UInt8 := (sortP s s.length).map fun i => lastB (rot s i)
def rots (s : List UInt8) : List (List UInt8) := (sortP s s.length).map (rot s)
theorem lastL_len (s : List UInt8) : (lastL s).length = s.length := by simp [lastL, sortP_len]
theorem rots_len (s : List UInt8) : (rots s).length = s.length := by simp [rots, sortP_len]
theorem map_getD_range {α : Type} (l : List α) (d : α) : (List.range l.length).map (fun j => l.getD j d) = l := by
 apply List.ext_getElem?; intro i; rw [List.getElem?_map]; rcases Nat.lt_or_ge i l.length with h | h
 ·rw [List.getElem?_eq_getElem (by simpa using h), List.getElem_range, List.getElem?_eq_getElem h]; simp [List.getD, h]
 ·rw [List.getElem?_eq_none (by simpa using h), List.getElem?_eq_none h]; rfl
theorem links_perm (l : List UInt8) : (links l).Perm (List.range l.length) := by
 rw [List.perm_ext_iff_of_nodup (links_nodup l) List.nodup_range]; intro a; rw [List.mem_range, links_ref, refL_mem]; have := byte_lt l a; omega
theorem rotR_perm (s : List UInt8) : ((rots s).map rotR).Perm (rots s) := by
 have h1 : (rots s).Perm ((List.range s.length).map (rot s)) := (sortP_perm s s.length).map _; refine ((h1.map rotR).trans ?_).trans h1.symm; rw [List.map_map]; obtain ⟨m, hm⟩ : ∃ m, s.length = m := ⟨_, rfl⟩; rw [hm]
 cases m with
 | zero => exact .refl _
 | succ m =>
  have e1 : (List.range (m + 1)).map (rotR ∘ rot s) = rot s m :: (List.range m).map (rot s) := by
   rw [List.range_succ_eq_map, List.map_cons, List.map_map]
   have h0 : (rotR ∘ rot s) 0 = rot s m := by
    have := rotR_zero s (by omega); rw [hm] at this; exact this
   rw [h0]
   congr 1
   apply List.map_congr_left; intro i hi; rw [List.mem_range] at hi; exact rotR_rot s i (by omega)
  rw [e1, List.range_succ, List.map_append]; exact List.perm_append_comm (l₁ := [_])
theorem refL_sorted (l : List UInt8) : ∀ b, (refL l b).Pairwise (fun j k => (l.getD j 0).toNat < (l.getD k 0).toNat \/ (l.getD j 0 = l.getD k 0 /\ j < k))
 | 0 => by simp [refL]
 | b + 1 => by
  rw [refL, List.pairwise_append]; refine ⟨refL_sorted l b, ?_, ?_⟩
  ·refine List.Pairwise.imp_of_mem ?_ ((List.pairwise_lt_range (n := l.length)).sublist (List.filter_sublist (p := fun k => decide ((l.getD k 0).toNat = b)))); intro j k hj hk hlt; have h1 := (refBi_mem l b l.length j).1 hj; have h2 := (refBi_mem l b l.length k).1 hk; exact .inr ⟨UInt8.toNat_inj.1 (h1.2.trans h2.2.symm), hlt⟩
  ·intro j hj k hk; rw [refL_mem] at hj; rw [refBi_mem] at hk; exact .inl (by omega)
theorem lastL_get (s : List UInt8) (j : Nat) (h : j < s.length) : (lastL s).getD j 0 = lastB ((rots s).getD j []) := by
 have hj : j < (sortP s s.length).length := by rw [sortP_len]; exact h
 simp [lastL, rots, List.getD, hj]
theorem rots_mem_len (s : List UInt8) (j : Nat) (h : j < s.length) : ((rots s).getD j []).length = s.length := by
 have hj : j < (sortP s s.length).length := by rw [sortP_len]; exact h
 have hm := (sortP_mem s s.length _).1 (List.getElem_mem hj); simp only [rots, List.getD, List.getElem?_map, List.getElem?_eq_getElem hj]; exact rot_len s _ (by omega)
theorem rots_link (s : List UInt8) (a : Nat) (h : a < s.length) : rotR ((rots s).getD ((links (lastL s)).getD a 0) []) = (rots s).getD a [] := by
 have hll := lastL_len s; have hrl := rots_len s
 have hq : (links (lastL s)).map (fun j => rotR ((rots s).getD j [])) = rots s := by
  refine List.Perm.eq_of_pairwise (le := ble) (fun a b _ _ => ble_antisymm) ?_ ?_ ?_
  ·rw [List.pairwise_map, links_ref]; refine List.Pairwise.imp_of_mem ?_ (refL_sorted (lastL s) 256); intro j k hj hk hjk; have hj := ((refL_mem _ _ _).1 hj).1; have hk := ((refL_mem _ _ _).1 hk).1; rw [hll] at hj hk; rw [lastL_get s j hj, lastL_get s k hk] at hjk; have lj := rots_mem_len s j hj; have lk := rots_mem_len s k hk; unfold ble rotR; rw [bl_cons]; rcases hjk with h1 | ⟨h1, h2⟩
   ·rw [Bool.or_eq_false_iff, decide_eq_false_iff_not, Bool.and_eq_false_iff]; refine ⟨by rw [UInt8.lt_iff_toNat_lt]; omega, .inl ?_⟩; rw [beq_eq_false_iff_ne]; intro e; rw [e] at h1; omega
   ·rw [h1, Bool.or_eq_false_iff, decide_eq_false_iff_not, Bool.and_eq_false_iff]; refine ⟨by rw [UInt8.lt_iff_toNat_lt]; omega, .inr ?_⟩
    have hs : (rots s).Pairwise ble := by
     unfold rots; rw [List.pairwise_map]; exact sortP_sorted s s.length
    have h3 := List.pairwise_iff_getElem.1 hs j k (by omega) (by omega) h2
    have ej : (rots s)[j]'(by omega) = (rots s).getD j [] := by simp [List.getD, hrl, hj]
    have ek : (rots s)[k]'(by omega) = (rots s).getD k [] := by simp [List.getD, hrl, hk]
    rw [ej, ek] at h3; unfold ble at h3; rw [init_last ((rots s).getD j []) (by omega), init_last ((rots s).getD k []) (by omega), <- h1] at h3; rw [bl_snoc _ _ _ (by simp only [List.length_take]; omega)] at h3; exact h3
  ·unfold rots; rw [List.pairwise_map]; exact sortP_sorted s s.length
  ·have h1 := (links_perm (lastL s)).map (fun j => rotR ((rots s).getD j [])); refine h1.trans ?_
   have h2 : (List.range (lastL s).length).map (fun j => rotR ((rots s).getD j [])) = (rots s).map rotR := by
    have := congrArg (List.map rotR) (map_getD_range (rots s) []); rw [List.map_map] at this; rw [hll, <- hrl]; exact this
   rw [h2]; exact rotR_perm s
 have hlk : a < (links (lastL s)).length := by rw [links_len, hll]; exact h
 have := congrArg (fun l => l.getD a []) hq; simp only [List.getD, List.getElem?_map, List.getElem?_eq_getElem hlk] at this ⊢; exact this
theorem outK_back (s : List UInt8) (o : Nat) (ho : o < s.length) (h0 : (sortP s s.length)[o]? = some 0) :
  ∀ k, k <= s.length -> (rots s).getD (atK (lastL s) o k) [] = rot s k /\ outK (lastL s) o k = s.take k
 | 0, _ => by
  refine ⟨?_, by rw [List.take_zero]; rfl⟩; show (rots s).getD o [] = rot s 0; simp [rots, List.getD, h0]
 | k + 1, hk => by
  obtain ⟨h1, h2⟩ := outK_back s o ho h0 k (by omega); have ha := atK_lt (lastL s) o (by rw [lastL_len]; exact ho) k; have ha' := atK_lt (lastL s) o (by rw [lastL_len]; exact ho) (k + 1); rw [lastL_len] at ha ha'; have h3 := rots_link s _ ha; rw [h1] at h3; have h4 : atK (lastL s) o (k + 1) = (links (lastL s)).getD (atK (lastL s) o k) 0 := rfl; rw [<- h4] at h3; have hl := rots_mem_len s _ ha'; have h5 := init_last ((rots s).getD (atK (lastL s) o (k + 1)) []) (by omega); have h6 := lastL_get s _ ha'; rw [rot_head s k (by omega)] at h3; unfold rotR at h3; obtain ⟨h7, h8⟩ := List.cons.inj h3; refine ⟨?_, ?_⟩
  ·rw [h5, h7, h8, rot_succ s k (by omega)]
  ·rw [outK, h2, h6, h7, take_succ' s k (by omega)]
theorem text_back (s : List UInt8) (o : Nat) (ho : o < s.length) (h0 : (sortP s s.length)[o]? = some 0) : text (lastL s) o = s := by
 unfold text; rw [lastL_len, (outK_back s o ho h0 s.length (Nat.le_refl _)).2, List.take_length]
end Go.M18
namespace Go.Mr
abbrev Key := Nat -> Nat × Nat
def klt (p q : Nat × Nat) : Prop := p.1 < q.1 \/ (p.1 = q.1 /\ p.2 < q.2)
instance (p q : Nat × Nat) : Decidable (klt p q) := inferInstanceAs (Decidable (_ \/ _))
def le (k : Key) (a b : Nat) : Prop := klt (k a) (k b) \/ (k a = k b /\ a <= b)
instance (k : Key) (a b : Nat) : Decidable (le k a b) := inferInstanceAs (Decidable (_ \/ _))
theorem kext {p q : Nat × Nat} : p = q ↔ p.1 = q.1 /\ p.2 = q.2 := ⟨fun h => by rw [h]; exact ⟨rfl, rfl⟩, fun h => Prod.ext h.1 h.2⟩
theorem le_total (k : Key) (a b : Nat) : le k a b \/ le k b a := by
 unfold le klt; rw [kext, kext]; omega
theorem le_trans {k : Key} {a b c : Nat} (h : le k a b) (g : le k b c) : le k a c := by
 unfold le klt at *; rw [kext] at *; omega
theorem le_antisymm {k : Key} {a b : Nat} (h : le k a b) (g : le k b a) : a = b := by
 unfold le klt at *; rw [kext] at *; omega
theorem not_klt_le {k : Key} {a b : Nat} (h : ¬ klt (k b) (k a)) (e : k a = k b -> a <= b) : le k a b := by
 unfold le
 by_cases q : k a = k b
 ·exact .inr ⟨q, e q⟩
 ·refine .inl ?_; unfold klt at *; rw [kext] at q; omega
def ins (k : Key) (a : Nat) : List Nat -> List Nat
 | [] => [a]
 | b :: l => if le k a b then a :: b :: l else b :: ins k a l
def isort (k : Key) : List Nat -> List Nat
 | [] => []
 | a :: l => ins k a (isort k l)
theorem ins_perm (k : Key) (a : Nat) : ∀ l, (ins k a l).Perm (a :: l)
 | [] => .refl _
 | b :: l => by
  rw [ins]; split
  ·exact .refl _
  ·exact ((ins_perm k a l).cons b).trans (.swap a b l)
theorem isort_perm (k : Key) : ∀ l, (isort k l).Perm l
 | [] => .refl _
 | a :: l => (ins_perm k a _).trans ((isort_perm k l).cons a)
theorem ins_sorted (k : Key) (a : Nat) : ∀ l, l.Pairwise (le k) -> (ins k a l).Pairwise (le k)
 | [], _ => by simp [ins]
 | b :: l, h => by
  rw [List.pairwise_cons] at h; rw [ins]; split
  ·rename_i q; rw [List.pairwise_cons, List.pairwise_cons]; refine ⟨fun x hx => ?_, h.1, h.2⟩; rcases List.mem_cons.1 hx with rfl | hx
   ·exact q
   ·exact le_trans q (h.1 x hx)
  ·rename_i q; rw [List.pairwise_cons]; refine ⟨fun x hx => ?_, ins_sorted k a l h.2⟩; rcases List.mem_cons.1 ((ins_perm k a l).mem_iff.1 hx) with rfl | hx
   ·exact (le_total k x b).resolve_left q
   ·exact h.1 x hx
theorem isort_sorted (k : Key) : ∀ l, (isort k l).Pairwise (le k)
 | [] => .nil
 | a :: l => ins_sorted k a _ (isort_sorted k l)
theorem sorted_uniq {k : Key} {a b : List Nat} (ha : a.Pairwise (le k)) (hb : b.Pairwise (le k)) (h : a.Perm b) : a = b :=
 List.Perm.eq_of_pairwise (fun x y _ _ => le_antisymm) ha hb h
theorem isort_eq {k : Key} {a l : List Nat} (ha : a.Pairwise (le k)) (h : a.Perm l) : a = isort k l := sorted_uniq ha (isort_sorted k l) (h.trans (isort_perm k l).symm)
theorem isort_congr {k : Key} {a b : List Nat} (h : a.Perm b) : isort k a = isort k b := isort_eq (isort_sorted k a) ((isort_perm k a).trans h)
def mrg (k : Key) : List Nat -> List Nat -> List Nat
 | [], B => B
 | a :: A, [] => a :: A
 | a :: A, b :: B => if klt (k b) (k a) then b :: mrg k (a :: A) B else a :: mrg k A (b :: B)
termination_by A B => A.length + B.length
theorem mrg_nilL (k : Key) (B : List Nat) : mrg k [] B = B := by rw [mrg]
theorem mrg_nilR (k : Key) (A : List Nat) : mrg k A [] = A := by cases A <;> rw [mrg]
theorem mrg_cons (k : Key) (a : Nat) (A : List Nat) (b : Nat) (B : List Nat) : mrg k (a :: A) (b :: B) = if klt (k b) (k a) then b :: mrg k (a :: A) B else a :: mrg k A (b :: B) := by rw [mrg]
theorem mrg_ok (k : Key) : ∀ (n : Nat) (A B : List Nat), A.length + B.length <= n -> A.Pairwise (le k) -> B.Pairwise (le k) -> (∀ a ∈ A, ∀ b ∈ B, k a = k b -> a <= b) -> (mrg k A B).Perm (A ++ B) /\ (mrg k A B).Pairwise (le k)
 | n, [], B, _, _, hB, _ => by rw [mrg_nilL]; exact ⟨.refl _, hB⟩
 | n, a :: A, [], _, hA, _, _ => by rw [mrg_nilR, List.append_nil]; exact ⟨.refl _, hA⟩
 | 0, a :: A, b :: B, hn, _, _, _ => by simp at hn
 | n + 1, a :: A, b :: B, hn, hA, hB, hc => by
  rw [mrg_cons]; simp only [List.length_cons] at hn; rw [List.pairwise_cons] at hA hB; split
  ·rename_i q; have h := mrg_ok k n (a :: A) B (by simp only [List.length_cons]; omega) (List.pairwise_cons.2 hA) hB.2 fun x hx y hy => hc x hx y (List.mem_cons_of_mem _ hy); refine ⟨(h.1.cons b).trans (List.perm_middle.symm), List.pairwise_cons.2 ⟨fun x hx => ?_, h.2⟩⟩; rcases List.mem_append.1 (h.1.mem_iff.1 hx) with hx | hx
   ·have h1 : le k b a := .inl q; rcases List.mem_cons.1 hx with rfl | hx
    ·exact h1
    ·exact le_trans h1 (hA.1 x hx)
   ·exact hB.1 x hx
  ·rename_i q; have h := mrg_ok k n A (b :: B) (by simp only [List.length_cons]; omega) hA.2 (List.pairwise_cons.2 hB) fun x hx y hy => hc x (List.mem_cons_of_mem _ hx) y hy; refine ⟨h.1.cons a, List.pairwise_cons.2 ⟨fun x hx => ?_, h.2⟩⟩; rcases List.mem_append.1 (h.1.mem_iff.1 hx) with hx | hx
   ·exact hA.1 x hx
   ·have h1 : le k a b := not_klt_le q fun e => hc a (List.mem_cons_self ..) b (List.mem_cons_self ..) e; rcases List.mem_cons.1 hx with rfl | hx
    ·exact h1
    ·exact le_trans h1 (hB.1 x hx)
structure Pt where
 lo : Nat
 mid : Nat
 hi : Nat
def seg (R : List Nat) (lo hi : Nat) : List Nat := (R.drop lo).take (hi - lo)
def rep (R : List Nat) (lo hi : Nat) (X : List Nat) : List Nat := R.take lo ++ X ++ R.drop hi
theorem seg_len {R : List Nat} {lo hi : Nat} (h : hi <= R.length) : (seg R lo hi).length = hi - lo := by unfold seg; rw [List.length_take, List.length_drop]; omega
theorem seg_split {R : List Nat} {lo mid hi : Nat} (h1 : lo <= mid) (h2 : mid <= hi) : seg R lo hi = seg R lo mid ++ seg R mid hi := by
 unfold seg; rw [show hi - lo = (mid - lo) + (hi - mid) by omega, List.take_add, List.drop_drop, show lo + (mid - lo) = mid by omega]
theorem cut3 (R : List Nat) {lo hi : Nat} (h : lo <= hi) : R = R.take lo ++ seg R lo hi ++ R.drop hi := by
 have h1 : R.drop lo = seg R lo hi ++ R.drop hi := by
  unfold seg; have := (List.take_append_drop (hi - lo) (R.drop lo)).symm; rw [List.drop_drop, show lo + (hi - lo) = hi by omega] at this; exact this
 rw [List.append_assoc, <- h1, List.take_append_drop]
theorem rep_len {R X : List Nat} {lo hi : Nat} (h : lo <= hi) (h2 : hi <= R.length) (hX : X.length = hi - lo) : (rep R lo hi X).length = R.length := by
 unfold rep; simp only [List.length_append, List.length_take, List.length_drop]; omega
theorem rep_seg {R X : List Nat} {lo hi : Nat} (h : lo <= hi) (h2 : hi <= R.length) (hX : X.length = hi - lo) : seg (rep R lo hi X) lo hi = X := by
 unfold rep seg
 have e : (R.take lo).length = lo := by rw [List.length_take]; omega
 rw [List.append_assoc, List.drop_append_of_le_length (by omega), List.drop_of_length_le (by omega), List.nil_append, List.take_append_of_le_length (by omega), List.take_of_length_le (by omega)]
theorem rep_take {R X : List Nat} {lo hi : Nat} (h : lo <= R.length) : (rep R lo hi X).take lo = R.take lo := by
 unfold rep
 have e : (R.take lo).length = lo := by rw [List.length_take]; omega
 rw [List.append_assoc, List.take_append_of_le_length (by omega), List.take_of_length_le (by omega)]
theorem rep_drop {R X : List Nat} {lo hi : Nat} (h : lo <= hi) (h2 : hi <= R.length) (hX : X.length = hi - lo) : (rep R lo hi X).drop hi = R.drop hi := by
 unfold rep
 have e : (R.take lo ++ X).length = hi := by rw [List.length_append, List.length_take]; omega
 rw [List.drop_append_of_le_length (by omega), List.drop_of_length_le (by omega), List.nil_append]
theorem rep_perm {R X : List Nat} {lo hi : Nat} (h : lo <= hi) (hX : X.Perm (seg R lo hi)) : (rep R lo hi X).Perm R := by
 have e := cut3 R h; unfold rep; refine List.Perm.trans ?_ (List.Perm.of_eq e.symm); exact (hX.append_left _).append_right _
theorem seg_of_take {R R' : List Nat} {a b lo : Nat} (hb : b <= lo) (e : R'.take lo = R.take lo) : seg R' a b = seg R a b := by
 unfold seg; rw [<- List.drop_take, <- List.drop_take]
 have e1 : ∀ Q : List Nat, Q.take b = (Q.take lo).take b := fun Q => by rw [List.take_take, Nat.min_eq_left hb]
 rw [e1 R', e1 R, e]
theorem seg_of_drop {R R' : List Nat} {a b hi : Nat} (ha : hi <= a) (e : R'.drop hi = R.drop hi) : seg R' a b = seg R a b := by
 unfold seg
 have e1 : ∀ Q : List Nat, Q.drop a = (Q.drop hi).drop (a - hi) := fun Q => by rw [List.drop_drop, show hi + (a - hi) = a by omega]
 rw [e1 R', e1 R, e]
variable {k : Key} {n : Nat}
def ap (k : Key) (p : Pt) (R : List Nat) : List Nat := rep R p.lo p.hi (isort k (seg R p.lo p.hi))
def run (k : Key) : List Pt -> List Nat -> List Nat
 | [], R => R
 | p :: st, R => run k st (ap k p R)
def Cond (k : Key) (p : Pt) (R : List Nat) : Prop :=
 if p.mid = 0 then (seg R p.lo p.hi).Pairwise fun a b => k a = k b -> a <= b
 else p.lo < p.mid /\ p.mid < p.hi /\ (seg R p.lo p.mid).Pairwise (le k) /\ (seg R p.mid p.hi).Pairwise (le k) /\ ∀ a ∈ seg R p.lo p.mid, ∀ b ∈ seg R p.mid p.hi, k a = k b -> a <= b
def WF (k : Key) (n : Nat) : List Pt -> List Nat -> Prop
 | [], _ => True
 | p :: st, R => (p.lo < p.hi /\ p.hi <= n) /\ Cond k p R /\ WF k n st (ap k p R)
theorem isort_len (l : List Nat) : (isort k l).length = l.length := (isort_perm k l).length_eq
theorem ap_len {p : Pt} {R : List Nat} (h : p.lo <= p.hi) (h2 : p.hi <= R.length) : (ap k p R).length = R.length := rep_len h h2 (by rw [isort_len, seg_len h2])
theorem ap_perm {p : Pt} {R : List Nat} (h : p.lo <= p.hi) : (ap k p R).Perm R := rep_perm h (isort_perm _ _)
theorem ap_eq {p : Pt} {R R' : List Nat} (h : p.lo <= p.hi) (h2 : p.hi <= R.length) (h3 : R'.length = R.length) (ht : R'.take p.lo = R.take p.lo) (hd : R'.drop p.hi = R.drop p.hi) (hs : (seg R' p.lo p.hi).Pairwise (le k)) (hp : (seg R' p.lo p.hi).Perm (seg R p.lo p.hi)) : R' = ap k p R := by
 have e := cut3 R' h; rw [ht, hd, isort_eq hs hp] at e; exact e
theorem ap_one {p : Pt} {R : List Nat} (h : p.lo < p.hi) (h2 : p.hi <= R.length) (h1 : p.hi - p.lo < 2) : ap k p R = R := by
 refine (ap_eq (Nat.le_of_lt h) h2 rfl rfl rfl ?_ (.refl _)).symm; have := seg_len (lo := p.lo) h2
 match hl : seg R p.lo p.hi with
 | [] => exact .nil
 | [x] => exact List.pairwise_singleton _ _
 | x :: y :: r => rw [hl] at this; simp at this; omega
theorem begin_ok {lo hi : Nat} {st : List Pt} {R : List Nat} (hn : R.length = n) (h2 : 2 <= hi - lo) (h : WF k n (⟨lo, 0, hi⟩ :: st) R) :
  WF k n (⟨lo, 0, (lo + hi) / 2⟩ :: ⟨(lo + hi) / 2, 0, hi⟩ :: ⟨lo, (lo + hi) / 2, hi⟩ :: st) R /\
  run k (⟨lo, 0, (lo + hi) / 2⟩ :: ⟨(lo + hi) / 2, 0, hi⟩ :: ⟨lo, (lo + hi) / 2, hi⟩ :: st) R = run k (⟨lo, 0, hi⟩ :: st) R := by
 obtain ⟨⟨h0, hh⟩, hc, hw⟩ := h; simp only at h0 hh; generalize hm : (lo + hi) / 2 = mid
 have m1 : lo < mid := by omega
 have m2 : mid < hi := by omega
 unfold Cond at hc; rw [if_pos rfl] at hc; simp only at hc; rw [seg_split (Nat.le_of_lt m1) (Nat.le_of_lt m2), List.pairwise_append] at hc; obtain ⟨c1, c2, c3⟩ := hc
 -- the first half
 have l1 : (ap k ⟨lo, 0, mid⟩ R).length = n := by rw [ap_len (Nat.le_of_lt m1) (by show mid <= _; omega)]; exact hn
 have g1 : (isort k (seg R lo mid)).length = mid - lo := by rw [isort_len, seg_len (by omega)]
 have s1 : seg (ap k ⟨lo, 0, mid⟩ R) lo mid = isort k (seg R lo mid) := rep_seg (R := R) (lo := lo) (hi := mid) (Nat.le_of_lt m1) (by omega) g1; have t1 : (ap k ⟨lo, 0, mid⟩ R).take lo = R.take lo := rep_take (R := R) (lo := lo) (hi := mid) (by omega); have d1 : (ap k ⟨lo, 0, mid⟩ R).drop mid = R.drop mid := rep_drop (R := R) (lo := lo) (hi := mid) (Nat.le_of_lt m1) (by omega) g1; have s1b : seg (ap k ⟨lo, 0, mid⟩ R) mid hi = seg R mid hi := seg_of_drop (Nat.le_refl _) d1; generalize hR1 : ap k ⟨lo, 0, mid⟩ R = R1 at *
 -- the second half
 have l2 : (ap k ⟨mid, 0, hi⟩ R1).length = n := by rw [ap_len (Nat.le_of_lt m2) (by show hi <= _; omega)]; exact l1
 have g2 : (isort k (seg R1 mid hi)).length = hi - mid := by rw [isort_len, seg_len (by omega)]
 have s2 : seg (ap k ⟨mid, 0, hi⟩ R1) mid hi = isort k (seg R mid hi) := by
  rw [<- s1b]; exact rep_seg (R := R1) (lo := mid) (hi := hi) (Nat.le_of_lt m2) (by omega) g2
 have t2 : (ap k ⟨mid, 0, hi⟩ R1).take mid = R1.take mid := rep_take (R := R1) (lo := mid) (hi := hi) (by omega); have d2 : (ap k ⟨mid, 0, hi⟩ R1).drop hi = R1.drop hi := rep_drop (R := R1) (lo := mid) (hi := hi) (Nat.le_of_lt m2) (by omega) g2
 have s2a : seg (ap k ⟨mid, 0, hi⟩ R1) lo mid = isort k (seg R lo mid) := by rw [<- s1]; exact seg_of_take (Nat.le_refl _) t2
 generalize hR2 : ap k ⟨mid, 0, hi⟩ R1 = R2 at *
 have hpm : (seg R2 lo hi).Perm (seg R lo hi) := by
  rw [seg_split (Nat.le_of_lt m1) (Nat.le_of_lt m2), s2a, s2, seg_split (R := R) (Nat.le_of_lt m1) (Nat.le_of_lt m2)]; exact (isort_perm _ _).append (isort_perm _ _)
 have t3 : R2.take lo = R.take lo := by
  have : ∀ Q : List Nat, Q.take lo = (Q.take mid).take lo := fun Q => by rw [List.take_take, Nat.min_eq_left (by omega)]
  rw [this R2, t2, <- this R1, t1]
 have d3 : R2.drop hi = R.drop hi := by
  have : ∀ Q : List Nat, Q.drop hi = (Q.drop mid).drop (hi - mid) := fun Q => by rw [List.drop_drop, show mid + (hi - mid) = hi by omega]
  rw [d2, this R1, d1, <- this R]
 have e3 : ap k ⟨lo, mid, hi⟩ R2 = ap k ⟨lo, 0, hi⟩ R := by
  unfold ap rep; simp only; rw [t3, d3, isort_congr hpm]
 constructor
 ·refine ⟨⟨m1, by show mid <= n; omega⟩, ?_, ⟨m2, hh⟩, ?_, ⟨by show lo < hi; omega, hh⟩, ?_, ?_⟩
  ·unfold Cond; rw [if_pos rfl]; exact c1
  ·rw [hR1]; unfold Cond; rw [if_pos rfl]; simp only; rw [s1b]; exact c2
  ·rw [hR1, hR2]; unfold Cond; rw [if_neg (by show ¬ mid = 0; omega)]; simp only; rw [s2a, s2]; exact ⟨m1, m2, isort_sorted _ _, isort_sorted _ _, fun a ha b hb => c3 a ((isort_perm _ _).mem_iff.1 ha) b ((isort_perm _ _).mem_iff.1 hb)⟩
  ·rw [hR1, hR2, e3]; exact hw
 ·show run k st (ap k ⟨lo, mid, hi⟩ (ap k ⟨mid, 0, hi⟩ (ap k ⟨lo, 0, mid⟩ R))) = run k st (ap k ⟨lo, 0, hi⟩ R); rw [hR1, hR2, e3]
end Go.Mr
namespace Go.Mr
structure SS where
 order : List Nat
 cls : List Nat
 aside : List Nat
 reach : Nat
 stack : List Pt
 merge : Pt
 laid : Nat
 first : Nat
 second : Nat
 ranked : Nat
 last : Nat
 done : Bool
def joinS (x : SS) : SS := match x.stack with
 | [] => x
 | p :: st => if x.merge.hi = 0 /\ p.mid ≠ 0 then { x with merge := p, stack := st, laid := 0, first := 0, second := p.mid } else x
def layS (x : SS) : SS := { x with aside := x.aside.set x.laid (x.order.getD (x.merge.lo + x.laid) 0), laid := x.laid + 1 }
def toS (x : SS) : Nat := x.merge.lo + x.first + x.second - x.merge.mid
def fromA (k : Key) (x : SS) : Prop := x.second = x.merge.hi \/ (x.first < x.laid /\ ¬ klt (k (x.order.getD x.second 0)) (k (x.aside.getD x.first 0)))
instance (k : Key) (x : SS) : Decidable (fromA k x) := inferInstanceAs (Decidable (_ \/ _))
def moveS (k : Key) (x : SS) : SS := if fromA k x then { x with order := x.order.set (toS x) (x.aside.getD x.first 0), first := x.first + 1 }
 else { x with order := x.order.set (toS x) (x.order.getD x.second 0), second := x.second + 1 }
def putS (k : Key) (x : SS) : SS := if toS x = x.merge.hi - 1 then { moveS k x with merge := ⟨0, 0, 0⟩ } else moveS k x
def beginS (x : SS) : SS := match x.stack with
 | [] => x
 | p :: st => if p.hi - p.lo < 2 then { x with stack := st } else { x with stack := ⟨p.lo, 0, (p.lo + p.hi) / 2⟩ :: ⟨(p.lo + p.hi) / 2, 0, p.hi⟩ :: ⟨p.lo, (p.lo + p.hi) / 2, p.hi⟩ :: st }
def lastN (k : Key) (x : SS) : Nat := if x.ranked = 0 then 0 else if klt (k (x.order.getD (x.ranked - 1) 0)) (k (x.order.getD x.ranked 0)) then x.last + 1 else x.last
def rank1 (k : Key) (x : SS) : SS := { x with aside := x.aside.set (x.order.getD x.ranked 0) (lastN k x), last := lastN k x, ranked := x.ranked + 1 }
def passS (n : Nat) (x : SS) : SS := if x.last = n - 1 \/ n <= x.reach then { x with cls := x.aside, aside := x.cls, ranked := 0, done := true }
 else { x with cls := x.aside, aside := x.cls, ranked := 0, reach := max 1 (2 * x.reach), stack := ⟨0, 0, n⟩ :: x.stack }
def rankS (k : Key) (n : Nat) (x : SS) : SS := if x.ranked + 1 = n then passS n (rank1 k x) else rank1 k x
def restS (k : Key) (n : Nat) (x : SS) : SS := if 0 < x.merge.hi /\ x.laid < x.merge.mid - x.merge.lo then layS x else if 0 < x.merge.hi then putS k x else if x.stack ≠ [] then beginS x else rankS k n x
def stepS (k : Key) (n : Nat) (x : SS) : SS := restS k n (joinS x)
def rk (k : Key) (o : List Nat) : Nat -> Nat
 | 0 => 0
 | i + 1 => rk k o i + if klt (k (o.getD i 0)) (k (o.getD (i + 1) 0)) then 1 else 0
structure Bs (n : Nat) (x : SS) : Prop where
 two : 2 <= n
 ol : x.order.length = n
 cl : x.cls.length = n
 al : x.aside.length = n
 om : ∀ a ∈ x.order, a < n
 nd : x.done = false
structure PhA (k : Key) (n : Nat) (x : SS) : Prop where
 none : x.merge.hi = 0
 perm : x.order.Perm (List.range n)
 wf : WF k n x.stack x.order
 srt : (run k x.stack x.order).Pairwise (le k)
 rk0 : x.stack ≠ [] -> x.ranked = 0
 rkn : x.ranked < n
 asd : ∀ i, i < x.ranked -> x.aside.getD (x.order.getD i 0) 0 = rk k x.order i
 lst : 0 < x.ranked -> x.last = rk k x.order (x.ranked - 1)
structure PhB (k : Key) (n : Nat) (x : SS) (R : List Nat) : Prop where
 len : R.length = n
 perm : R.Perm (List.range n)
 m1 : x.merge.lo < x.merge.mid
 m2 : x.merge.mid < x.merge.hi
 m3 : x.merge.hi <= n
 wf : WF k n (x.merge :: x.stack) R
 srt : (run k (x.merge :: x.stack) R).Pairwise (le k)
 rk0 : x.ranked = 0
 lay : x.laid <= x.merge.mid - x.merge.lo
 asm : ∀ a ∈ seg x.aside 0 x.laid, a < n
 early : x.laid < x.merge.mid - x.merge.lo -> x.order = R /\ x.first = 0 /\ x.second = x.merge.mid /\ x.aside.take x.laid = seg R x.merge.lo (x.merge.lo + x.laid)
 late : x.laid = x.merge.mid - x.merge.lo -> x.first <= x.laid /\ x.merge.mid <= x.second /\ x.second <= x.merge.hi /\ toS x < x.merge.hi /\ x.order.take x.merge.lo = R.take x.merge.lo /\ x.order.drop x.merge.hi = R.drop x.merge.hi /\
  seg x.order x.merge.lo (toS x) ++ mrg k (seg x.aside x.first x.laid) (seg x.order x.second x.merge.hi) = isort k (seg R x.merge.lo x.merge.hi)
def PhC (k : Key) (n : Nat) (x : SS) : Prop := PhA k n x \/ ∃ R, PhB k n x R
variable {k : Key} {n : Nat} {x : SS}
theorem getD_at {l : List Nat} {i : Nat} (h : i < l.length) : l[i]? = some (l.getD i 0) := by rw [List.getD_eq_getElem?_getD, List.getElem?_eq_getElem h]; rfl
theorem getD_mem {l : List Nat} {i : Nat} (h : i < l.length) : l.getD i 0 ∈ l := by rw [List.getD_eq_getElem?_getD, List.getElem?_eq_getElem h]; exact List.getElem_mem h
theorem seg_cons {l : List Nat} {a b : Nat} (h : a < b) (h2 : b <= l.length) : seg l a b = l.getD a 0 :: seg l (a + 1) b := by
 unfold seg
 have h1 : a < l.length := by omega
 rw [List.drop_eq_getElem_cons h1, show b - a = (b - (a + 1)) + 1 by omega, List.take_succ_cons, List.getD_eq_getElem?_getD, List.getElem?_eq_getElem h1]; rfl
theorem seg_snoc {l : List Nat} {a b : Nat} (h : a <= b) (h2 : b < l.length) : seg l a (b + 1) = seg l a b ++ [l.getD b 0] := by
 rw [seg_split h (Nat.le_succ b), seg_cons (a := b) (Nat.lt_succ_self b) h2]; unfold seg; simp
theorem seg_nil {l : List Nat} {a b : Nat} (h : b <= a) : seg l a b = [] := by unfold seg; rw [show b - a = 0 by omega, List.take_zero]
theorem seg_mem {l : List Nat} {a b y : Nat} (h : y ∈ seg l a b) : y ∈ l := List.mem_of_mem_drop (List.mem_of_mem_take h)
theorem take_set_ge {l : List Nat} {i j v : Nat} (h : i <= j) : (l.set j v).take i = l.take i := by rw [List.take_set_of_le h]
theorem drop_set_lt {l : List Nat} {i j v : Nat} (h : j < i) : (l.set j v).drop i = l.drop i := by rw [List.drop_set_of_lt h]
theorem join_ph (hb : Bs n x) (h : PhC k n x) : Bs n (joinS x) /\ PhC k n (joinS x) /\ ((joinS x).merge.hi = 0 -> ∀ p st, (joinS x).stack = p :: st -> p.mid = 0) := by
 unfold joinS; split
 ·rename_i e; exact ⟨hb, h, fun _ p st q => by rw [e] at q; cases q⟩
 ·rename_i p st e; split
  ·rename_i q; rcases h with h | ⟨R, h⟩
   ·have hw := h.wf; rw [e] at hw; have hs := h.srt; rw [e] at hs; obtain ⟨⟨w1, w2⟩, hc, hw2⟩ := id hw; unfold Cond at hc; rw [if_neg q.2] at hc; obtain ⟨c1, c2, c3, c4, c5⟩ := hc; refine ⟨⟨hb.two, hb.ol, hb.cl, hb.al, hb.om, hb.nd⟩, .inr ⟨x.order, ?_⟩, ?_⟩
    ·refine ⟨hb.ol, h.perm, c1, c2, w2, hw, hs, h.rk0 (by rw [e]; exact List.cons_ne_nil _ _), Nat.zero_le _, fun a ha => ?_, fun _ => ⟨rfl, rfl, rfl, ?_⟩, fun e2 => ?_⟩
     ·rw [seg_nil (Nat.le_refl 0)] at ha; cases ha
     ·show x.aside.take 0 = seg x.order p.lo (p.lo + 0); rw [List.take_zero, seg_nil (by omega)]
     ·exfalso; simp only at e2; omega
    ·intro z; simp only at z; omega
   ·have := h.m2; omega
  ·rename_i q; refine ⟨hb, h, fun z p' st' e2 => ?_⟩; rw [e] at e2; injection e2 with e2 e3; subst e2
   by_cases q2 : p.mid = 0
   ·exact q2
   ·exact absurd ⟨z, q2⟩ q
theorem lay_ph (hb : Bs n x) (h : PhC k n x) (h1 : 0 < x.merge.hi) (h2 : x.laid < x.merge.mid - x.merge.lo) : Bs n (layS x) /\ PhC k n (layS x) := by
 rcases h with h | ⟨R, h⟩
 ·have := h.none; omega
 have hm1 := h.m1; have hm2 := h.m2; have hm3 := h.m3
 obtain ⟨e1, e2, e3, e4⟩ := h.early h2; have hol := hb.ol; have hal := hb.al
 have hlt : x.merge.lo + x.laid < x.order.length := by omega
 have hval := getD_mem hlt; refine ⟨⟨hb.two, hb.ol, hb.cl, by show (List.set _ _ _).length = _; rw [List.length_set]; exact hb.al, hb.om, hb.nd⟩, .inr ⟨R, ?_⟩⟩
 have ht : (x.aside.set x.laid (x.order.getD (x.merge.lo + x.laid) 0)).take (x.laid + 1) = seg R x.merge.lo (x.merge.lo + (x.laid + 1)) := by
  rw [<- Nat.add_assoc, seg_snoc (by omega) (by rw [h.len]; omega), <- e4, List.take_add_one, List.getElem?_set_self (by omega), take_set_ge (Nat.le_refl _), e1]; rfl
 refine ⟨h.len, h.perm, h.m1, h.m2, h.m3, h.wf, h.srt, h.rk0, h2, fun a ha => ?_, fun q => ⟨e1, e2, e3, ht⟩, fun q => ?_⟩
 ·have : seg (layS x).aside 0 (layS x).laid = seg R x.merge.lo (x.merge.lo + (x.laid + 1)) := by
   rw [<- ht]; unfold seg; rw [List.drop_zero, Nat.sub_zero]; rfl
  rw [this] at ha; have := seg_mem ha; have h3 := h.perm.mem_iff.1 this; exact List.mem_range.1 h3
 ·replace q : x.laid + 1 = x.merge.mid - x.merge.lo := q
  have e5 : toS (layS x) = x.merge.lo := by
   show x.merge.lo + x.first + x.second - x.merge.mid = _; omega
  refine ⟨by show x.first <= x.laid + 1; omega, by show x.merge.mid <= x.second; omega, by show x.second <= x.merge.hi; omega, by rw [e5]; show x.merge.lo < x.merge.hi; omega, congrArg (List.take x.merge.lo) e1, congrArg (List.drop x.merge.hi) e1, ?_⟩; rw [e5]; show seg x.order x.merge.lo x.merge.lo ++ mrg k (seg (x.aside.set x.laid (x.order.getD (x.merge.lo + x.laid) 0)) x.first (x.laid + 1)) (seg x.order x.second x.merge.hi) = isort k (seg R x.merge.lo x.merge.hi); rw [seg_nil (Nat.le_refl _), List.nil_append, e2, e3, e1]
  have e6 : seg (x.aside.set x.laid (x.order.getD (x.merge.lo + x.laid) 0)) 0 (x.laid + 1) = seg R x.merge.lo x.merge.mid := by
   have : seg (x.aside.set x.laid (x.order.getD (x.merge.lo + x.laid) 0)) 0 (x.laid + 1) = (x.aside.set x.laid (x.order.getD (x.merge.lo + x.laid) 0)).take (x.laid + 1) := by
    unfold seg; rw [List.drop_zero, Nat.sub_zero]
   rw [this, ht, show x.merge.lo + (x.laid + 1) = x.merge.mid by omega]
  rw [e1] at e6; rw [e6, seg_split (mid := x.merge.mid) (Nat.le_of_lt hm1) (Nat.le_of_lt hm2)]; have hc := h.wf.2.1; unfold Cond at hc; rw [if_neg (by omega)] at hc; obtain ⟨_, _, c3, c4, c5⟩ := hc; obtain ⟨p1, p2⟩ := mrg_ok k _ _ _ (Nat.le_refl _) c3 c4 c5; exact isort_eq p2 p1
theorem set_seg_hi {l : List Nat} {t v a b : Nat} (h : t < a \/ b <= a) : seg (l.set t v) a b = seg l a b := by
 rcases h with h | h
 ·exact seg_of_drop (Nat.le_refl a) (drop_set_lt h)
 ·rw [seg_nil h, seg_nil h]
theorem set_seg_snoc {l : List Nat} {t v a : Nat} (h : a <= t) (h2 : t < l.length) : seg (l.set t v) a (t + 1) = seg l a t ++ [v] := by
 rw [seg_snoc h (by rw [List.length_set]; exact h2), seg_of_take (Nat.le_refl t) (take_set_ge (Nat.le_refl t))]
 congr 2
 rw [List.getD_eq_getElem?_getD, List.getElem?_set_self h2]; rfl
theorem move_ok {R : List Nat} (hb : Bs n x) (h : PhB k n x R) (hl : x.laid = x.merge.mid - x.merge.lo) :
  ∃ v f c, moveS k x = { x with order := x.order.set (toS x) v, first := f, second := c } /\ v < n /\ f <= x.laid /\ x.merge.mid <= c /\ c <= x.merge.hi /\ x.merge.lo + f + c - x.merge.mid = toS x + 1 /\
   seg (x.order.set (toS x) v) x.merge.lo (toS x + 1) ++ mrg k (seg x.aside f x.laid) (seg (x.order.set (toS x) v) c x.merge.hi) = isort k (seg R x.merge.lo x.merge.hi) := by
 have hm1 := h.m1; have hm2 := h.m2; have hm3 := h.m3
 obtain ⟨l1, l2, l3, l4, l5, l6, l7⟩ := h.late hl; have hol := hb.ol; have hal := hb.al; have hto : toS x = x.merge.lo + x.first + x.second - x.merge.mid := rfl
 have hge : x.merge.lo <= toS x := by omega
 unfold moveS
 by_cases q : fromA k x
 ·rw [if_pos q]
  have hf : x.first < x.laid := by
   rcases q with q | q
   ·omega
   ·exact q.1
  have hA := seg_cons (l := x.aside) hf (by omega)
  have hv : x.aside.getD x.first 0 < n := h.asm _ (by
   rw [show x.aside.getD x.first 0 = (seg x.aside 0 x.laid).getD x.first 0 from by
    unfold seg
    rw [List.drop_zero, Nat.sub_zero, List.getD_eq_getElem?_getD, List.getD_eq_getElem?_getD, List.getElem?_take_of_lt hf]]
   exact getD_mem (by rw [seg_len (by omega)]; omega))
  refine ⟨_, x.first + 1, x.second, rfl, hv, hf, l2, l3, by omega, ?_⟩; rw [set_seg_snoc hge (by omega), List.append_assoc, <- l7, hA]
  congr 1
  have hB : seg (x.order.set (toS x) (x.aside.getD x.first 0)) x.second x.merge.hi = seg x.order x.second x.merge.hi := set_seg_hi (by omega); rw [hB]; rcases Nat.lt_or_ge x.second x.merge.hi with g | g
  ·have hBc := seg_cons (l := x.order) g (by omega)
   have hk : ¬ klt (k (x.order.getD x.second 0)) (k (x.aside.getD x.first 0)) := by
    rcases q with q | q
    ·omega
    ·exact q.2
   rw [hBc, mrg_cons, if_neg hk]; rfl
  ·rw [seg_nil g, mrg_nilR, mrg_nilR]; rfl
 ·rw [if_neg q]
  have hs : x.second < x.merge.hi := by
   rcases Nat.lt_or_ge x.second x.merge.hi with g | g
   ·exact g
   ·exact absurd (.inl (by omega)) q
  have hBc := seg_cons (l := x.order) hs (by omega); have hv : x.order.getD x.second 0 < n := hb.om _ (getD_mem (by omega)); refine ⟨_, x.first, x.second + 1, rfl, hv, l1, by omega, by omega, by omega, ?_⟩; rw [set_seg_snoc hge (by omega), List.append_assoc, <- l7, hBc]
  congr 1
  have hB : seg (x.order.set (toS x) (x.order.getD x.second 0)) (x.second + 1) x.merge.hi = seg x.order (x.second + 1) x.merge.hi := set_seg_hi (by omega); rw [hB]; rcases Nat.lt_or_ge x.first x.laid with g | g
  ·have hA := seg_cons (l := x.aside) g (by omega)
   have hk : klt (k (x.order.getD x.second 0)) (k (x.aside.getD x.first 0)) := by
    by_cases z : klt (k (x.order.getD x.second 0)) (k (x.aside.getD x.first 0))
    ·exact z
    ·exact absurd (.inr ⟨g, z⟩) q
   rw [hA, mrg_cons, if_pos hk]; rfl
  ·rw [seg_nil g, mrg_nilL, mrg_nilL]; rfl
theorem mem_set_lt {l : List Nat} {t v : Nat} (hl : ∀ a ∈ l, a < n) (hv : v < n) : ∀ a ∈ l.set t v, a < n := fun a ha => by
 rcases List.mem_or_eq_of_mem_set ha with h | h
 ·exact hl a h
 ·rw [h]; exact hv
theorem put_ph (hb : Bs n x) (h : PhC k n x) (h1 : 0 < x.merge.hi) (h2 : ¬ x.laid < x.merge.mid - x.merge.lo) : Bs n (putS k x) /\ PhC k n (putS k x) := by
 rcases h with h | ⟨R, h⟩
 ·have := h.none; omega
 have hm1 := h.m1; have hm2 := h.m2; have hm3 := h.m3
 have hlay := h.lay
 have hl : x.laid = x.merge.mid - x.merge.lo := by omega
 obtain ⟨l1, l2, l3, l4, l5, l6, l7⟩ := h.late hl; have hol := hb.ol; obtain ⟨v, f, c, e, hv, f1, c1, c2, t1, hq⟩ := move_ok hb h hl; have hto : toS x = x.merge.lo + x.first + x.second - x.merge.mid := rfl
 have hge : x.merge.lo <= toS x := by omega
 have hOl : (x.order.set (toS x) v).length = n := by rw [List.length_set]; exact hol
 have hOm := mem_set_lt (t := toS x) hb.om hv
 have hT : (x.order.set (toS x) v).take x.merge.lo = R.take x.merge.lo := by rw [take_set_ge hge]; exact l5
 have hD : (x.order.set (toS x) v).drop x.merge.hi = R.drop x.merge.hi := by rw [drop_set_lt l4]; exact l6
 unfold putS; rw [e]; generalize hO : x.order.set (toS x) v = O at *; split
 ·rename_i q
  have hlen : (seg O x.merge.lo (toS x + 1)).length = x.merge.hi - x.merge.lo := by rw [seg_len (by omega)]; omega
  have hz : mrg k (seg x.aside f x.laid) (seg O c x.merge.hi) = [] := by
   have := congrArg List.length hq; rw [List.length_append, hlen, isort_len, seg_len (by rw [h.len]; exact hm3)] at this; exact List.eq_nil_of_length_eq_zero (by omega)
  rw [hz, List.append_nil, show toS x + 1 = x.merge.hi by omega] at hq
  have hap : O = ap k x.merge R := by
   have e1 := cut3 O (lo := x.merge.lo) (hi := x.merge.hi) (by omega); rw [hT, hD, hq] at e1; exact e1
  refine ⟨⟨hb.two, hOl, hb.cl, hb.al, hOm, hb.nd⟩, .inl ⟨rfl, ?_, ?_, ?_, fun _ => h.rk0, ?_, fun i hi => ?_, fun hi => ?_⟩⟩
  ·show O.Perm _; rw [hap]; exact (ap_perm (by omega)).trans h.perm
  ·show WF k n x.stack O; rw [hap]; exact h.wf.2.2
  ·show (run k x.stack O).Pairwise _; rw [hap]; exact h.srt
  ·show x.ranked < n; rw [h.rk0]; have := hb.two; omega
  ·replace hi : i < x.ranked := hi; rw [h.rk0] at hi; omega
  ·replace hi : 0 < x.ranked := hi; rw [h.rk0] at hi; omega
 ·rename_i q; refine ⟨⟨hb.two, hOl, hb.cl, hb.al, hOm, hb.nd⟩, .inr ⟨R, h.len, h.perm, hm1, hm2, hm3, h.wf, h.srt, h.rk0, hlay, h.asm, fun z => ?_, fun _ => ⟨f1, c1, c2, ?_, hT, hD, ?_⟩⟩⟩
  ·exact absurd z h2
  ·show x.merge.lo + f + c - x.merge.mid < x.merge.hi; omega
  ·show seg O x.merge.lo (x.merge.lo + f + c - x.merge.mid) ++ mrg k (seg x.aside f x.laid) (seg O c x.merge.hi) = _; rw [t1]; exact hq
theorem begin_ph (hb : Bs n x) (h : PhC k n x) (h1 : ¬ 0 < x.merge.hi) (h2 : x.stack ≠ []) (h3 : ∀ p st, x.stack = p :: st -> p.mid = 0) : Bs n (beginS x) /\ PhC k n (beginS x) := by
 rcases h with h | ⟨R, h⟩
 rotate_left
 ·have := h.m2; omega
 unfold beginS; split
 ·rename_i e; exact absurd e h2
 ·rename_i p st e; have hw := h.wf; rw [e] at hw; have hs := h.srt; rw [e] at hs; have hr := h.rk0 h2; have hm := h3 p st e; obtain ⟨lo, mid, hi⟩ := p; simp only at hm; subst hm; have h0 := hw.1; simp only at h0; split
  ·rename_i q; simp only at q; have e1 : ap k ⟨lo, 0, hi⟩ x.order = x.order := ap_one h0.1 (by rw [hb.ol]; exact h0.2) q; refine ⟨⟨hb.two, hb.ol, hb.cl, hb.al, hb.om, hb.nd⟩, .inl ⟨h.none, h.perm, ?_, ?_, fun _ => hr, h.rkn, h.asd, h.lst⟩⟩
   ·have := hw.2.2; rw [e1] at this; exact this
   ·have : (run k st (ap k ⟨lo, 0, hi⟩ x.order)).Pairwise (le k) := hs; rw [e1] at this; exact this
  ·rename_i q; simp only at q; obtain ⟨b1, b2⟩ := begin_ok hb.ol (by omega) hw; refine ⟨⟨hb.two, hb.ol, hb.cl, hb.al, hb.om, hb.nd⟩, .inl ⟨h.none, h.perm, b1, ?_, fun _ => hr, h.rkn, h.asd, h.lst⟩⟩; show (run k (⟨lo, 0, (lo + hi) / 2⟩ :: ⟨(lo + hi) / 2, 0, hi⟩ :: ⟨lo, (lo + hi) / 2, hi⟩ :: st) x.order).Pairwise (le k); rw [b2]; exact hs
theorem rank_ph (hb : Bs n x) (h : PhC k n x) (h1 : ¬ 0 < x.merge.hi) (h2 : x.stack = []) :
  x.order.Pairwise (le k) /\ x.order.Perm (List.range n) /\ x.ranked < n /\ (x.ranked + 1 < n -> Bs n (rank1 k x) /\ PhC k n (rank1 k x)) /\
   (rank1 k x).aside.length = n /\ (∀ i, i < x.ranked + 1 -> (rank1 k x).aside.getD (x.order.getD i 0) 0 = rk k x.order i) /\ (rank1 k x).last = rk k x.order x.ranked := by
 rcases h with h | ⟨R, h⟩
 rotate_left
 ·have := h.m2; omega
 have hs := h.srt; rw [h2] at hs; have hkn := h.rkn; have hol := hb.ol; have hnd : x.order.Nodup := h.perm.symm.nodup List.nodup_range
 have hlast : lastN k x = rk k x.order x.ranked := by
  unfold lastN
  by_cases q : x.ranked = 0
  ·rw [if_pos q, q]; rfl
  ·rw [if_neg q, h.lst (by omega)]; obtain ⟨r, hr⟩ : ∃ r, x.ranked = r + 1 := ⟨x.ranked - 1, by omega⟩; rw [hr, Nat.add_sub_cancel]; show _ = rk k x.order r + _
   split <;> rfl
 have hal : (rank1 k x).aside.length = n := by show (List.set _ _ _).length = n; rw [List.length_set]; exact hb.al
 have hasd : ∀ i, i < x.ranked + 1 -> (rank1 k x).aside.getD (x.order.getD i 0) 0 = rk k x.order i := by
  intro i hi; show (x.aside.set (x.order.getD x.ranked 0) (lastN k x)).getD (x.order.getD i 0) 0 = _; rw [List.getD_eq_getElem?_getD, List.getElem?_set]
  have hb1 : x.order.getD x.ranked 0 < x.aside.length := by rw [hb.al]; exact hb.om _ (getD_mem (by omega))
  by_cases e : x.ranked = i
  ·subst e; rw [if_pos rfl, if_pos hb1, hlast]; rfl
  ·rw [if_neg, <- List.getD_eq_getElem?_getD, h.asd i (by omega)]; intro e2; apply e; have g1 := getD_at (l := x.order) (i := x.ranked) (by omega); have g2 := getD_at (l := x.order) (i := i) (by omega); rw [e2] at g1; obtain ⟨p1, p2⟩ := List.getElem?_eq_some_iff.1 g1; obtain ⟨p3, p4⟩ := List.getElem?_eq_some_iff.1 g2; exact (List.getElem_inj hnd).1 (p2.trans p4.symm)
 refine ⟨hs, h.perm, hkn, fun q => ⟨⟨hb.two, hb.ol, hb.cl, hal, hb.om, hb.nd⟩, .inl ⟨h.none, h.perm, ?_, ?_, fun z => absurd h2 z, q, hasd, fun _ => ?_⟩⟩, hal, hasd, hlast⟩
 ·exact h.wf
 ·exact h.srt
 ·show lastN k x = rk k x.order (x.ranked + 1 - 1); rw [Nat.add_sub_cancel]; exact hlast
end Go.Mr
namespace Go.Mr
open Go.M18
def ch (s : List UInt8) (i : Nat) : Nat := (s.getD (i % s.length) 0).toNat
def ltm (s : List UInt8) (m a b : Nat) : Prop := ∃ j, j < m /\ (∀ i, i < j -> ch s (a + i) = ch s (b + i)) /\ ch s (a + j) < ch s (b + j)
def eqm (s : List UInt8) (m a b : Nat) : Prop := ∀ i, i < m -> ch s (a + i) = ch s (b + i)
variable {s : List UInt8} {m a b c : Nat}
theorem tri (s : List UInt8) (a b : Nat) : ∀ m, ltm s m a b \/ eqm s m a b \/ ltm s m b a
 | 0 => .inr (.inl fun i h => by omega)
 | m + 1 => by
  rcases tri s a b m with ⟨j, h1, h2, h3⟩ | h | ⟨j, h1, h2, h3⟩
  ·exact .inl ⟨j, by omega, h2, h3⟩
  ·rcases Nat.lt_trichotomy (ch s (a + m)) (ch s (b + m)) with q | q | q
   ·exact .inl ⟨m, by omega, h, q⟩
   ·refine .inr (.inl fun i hi => ?_); rcases Nat.lt_or_ge i m with g | g
    ·exact h i g
    ·rw [show i = m by omega]; exact q
   ·exact .inr (.inr ⟨m, by omega, fun i hi => (h i hi).symm, q⟩)
  ·exact .inr (.inr ⟨j, by omega, h2, h3⟩)
theorem ltm_ne (h : ltm s m a b) : ¬ eqm s m a b := fun e => by
 obtain ⟨j, h1, _, h3⟩ := h; have := e j h1; omega
theorem eqm_add {r : Nat} : eqm s (r + r) a b ↔ eqm s r a b /\ eqm s r (a + r) (b + r) := by
 constructor
 ·intro h; refine ⟨fun i hi => h i (by omega), fun i hi => ?_⟩; rw [Nat.add_assoc, Nat.add_assoc]; exact h (r + i) (by omega)
 ·rintro ⟨h, g⟩ i hi; rcases Nat.lt_or_ge i r with q | q
  ·exact h i q
  ·have := g (i - r) (by omega); rw [Nat.add_assoc, Nat.add_assoc, show r + (i - r) = i by omega] at this; exact this
theorem ltm_add {r : Nat} : ltm s (r + r) a b ↔ ltm s r a b \/ (eqm s r a b /\ ltm s r (a + r) (b + r)) := by
 constructor
 ·rintro ⟨j, h1, h2, h3⟩; rcases Nat.lt_or_ge j r with q | q
  ·exact .inl ⟨j, q, h2, h3⟩
  ·refine .inr ⟨fun i hi => h2 i (by omega), j - r, by omega, fun i hi => ?_, ?_⟩
   ·rw [Nat.add_assoc, Nat.add_assoc]; exact h2 (r + i) (by omega)
   ·rw [Nat.add_assoc, Nat.add_assoc, show r + (j - r) = j by omega]; exact h3
 ·rintro (⟨j, h1, h2, h3⟩ | ⟨h, j, h1, h2, h3⟩)
  ·exact ⟨j, by omega, h2, h3⟩
  ·refine ⟨r + j, by omega, fun i hi => ?_, by rw [<- Nat.add_assoc, <- Nat.add_assoc]; exact h3⟩; rcases Nat.lt_or_ge i r with q | q
   ·exact h i q
   ·have := h2 (i - r) (by omega); rw [Nat.add_assoc, Nat.add_assoc, show r + (i - r) = i by omega] at this; exact this
theorem ch_mod (s : List UInt8) (a i : Nat) : ch s (a % s.length + i) = ch s (a + i) := by unfold ch; rw [Nat.mod_add_mod]
theorem ltm_mod : ltm s m (a % s.length) (b % s.length) ↔ ltm s m a b := by
 unfold ltm; simp only [ch_mod]
theorem eqm_mod : eqm s m (a % s.length) (b % s.length) ↔ eqm s m a b := by
 unfold eqm; simp only [ch_mod]
theorem ch_rot (ha : a < s.length) {i : Nat} (hi : i < s.length) : (rot s a).getD i 0 = s.getD ((a + i) % s.length) 0 := by
 unfold rot; rw [List.getD_eq_getElem?_getD, List.getD_eq_getElem?_getD]; rcases Nat.lt_or_ge (a + i) s.length with q | q
 ·rw [List.getElem?_append_left (by rw [List.length_drop]; omega), List.getElem?_drop, Nat.mod_eq_of_lt q]
 ·rw [List.getElem?_append_right (by rw [List.length_drop]; omega), List.length_drop, List.getElem?_take_of_lt (by omega), Nat.mod_eq_sub_mod q, Nat.mod_eq_of_lt (by omega)]
  congr 2
  omega
theorem bl_first : ∀ (j : Nat) (x y : List UInt8), j < x.length -> j < y.length -> (∀ i, i < j -> x.getD i 0 = y.getD i 0) -> (x.getD j 0).toNat < (y.getD j 0).toNat -> bl x y = true
 | _, [], _, h, _, _, _ => by simp at h
 | _, _ :: _, [], _, h, _, _ => by simp at h
 | 0, p :: x, q :: y, _, _, _, h => by
  rw [bl_cons]
  have : p < q := by rw [UInt8.lt_iff_toNat_lt]; exact h
  simp [this]
 | j + 1, p :: x, q :: y, h1, h2, h3, h4 => by
  rw [bl_cons]; have e : p = q := h3 0 (Nat.zero_lt_succ _); subst e; have := bl_first j x y (by simpa using h1) (by simpa using h2) (fun i hi => by have := h3 (i + 1) (by omega); simpa using this) (by simpa using h4); simp [this]
theorem ahead_ltm (ha : a < s.length) (hb : b < s.length) (h : ltm s s.length a b) : aheadP s a b = true := by
 obtain ⟨j, h1, h2, h3⟩ := h; unfold aheadP
 have e1 : ∀ i, i < j -> (rot s a).getD i 0 = (rot s b).getD i 0 := fun i hi => by
  rw [ch_rot ha (by omega), ch_rot hb (by omega)]; exact UInt8.toNat_inj.1 (h2 i hi)
 have e2 : ((rot s a).getD j 0).toNat < ((rot s b).getD j 0).toNat := by
  rw [ch_rot ha h1, ch_rot hb h1]; exact h3
 rw [bl_first j (rot s a) (rot s b) (by rw [rot_len s a (by omega)]; exact h1) (by rw [rot_len s b (by omega)]; exact h1) e1 e2]; rfl
theorem rot_eqm (ha : a < s.length) (hb : b < s.length) (h : eqm s s.length a b) : rot s a = rot s b := by
 apply List.ext_getElem?; intro i; rcases Nat.lt_or_ge i s.length with q | q
 ·have e := ch_rot ha q; have e2 := ch_rot hb q
  have e3 : (rot s a).getD i 0 = (rot s b).getD i 0 := by rw [e, e2]; exact UInt8.toNat_inj.1 (h i q)
  rw [List.getElem?_eq_getElem (by rw [rot_len s a (by omega)]; exact q), List.getElem?_eq_getElem (by rw [rot_len s b (by omega)]; exact q)]; rw [List.getD_eq_getElem?_getD, List.getD_eq_getElem?_getD, List.getElem?_eq_getElem (by rw [rot_len s a (by omega)]; exact q), List.getElem?_eq_getElem (by rw [rot_len s b (by omega)]; exact q)] at e3; exact congrArg some e3
 ·rw [List.getElem?_eq_none (by rw [rot_len s a (by omega)]; exact q), List.getElem?_eq_none (by rw [rot_len s b (by omega)]; exact q)]
theorem ahead_eqm (ha : a < s.length) (hb : b < s.length) (h : eqm s s.length a b) (hab : a < b) : aheadP s a b = true := by
 unfold aheadP; rw [rot_eqm ha hb h, decide_eq_true rfl, decide_eq_true hab]; simp
theorem ltm_low (h : ltm s m a b) : ltm s s.length a b := by
 obtain ⟨j, h1, h2, h3⟩ := h; rcases Nat.lt_or_ge j s.length with q | q
 ·exact ⟨j, q, h2, h3⟩
 ·exfalso
  have e : ∀ z, ch s (z + j) = ch s (z + j % s.length) := fun z => by unfold ch; rw [Nat.add_mod_mod]
  rcases Nat.eq_zero_or_pos s.length with g | g
  ·unfold ch at h3; have : s = [] := List.eq_nil_of_length_eq_zero g; subst this; simp at h3
  ·have h5 := h2 (j % s.length) (Nat.lt_of_lt_of_le (Nat.mod_lt _ g) q); rw [e a, e b] at h3; omega
theorem aheadP_asymm {i k : Nat} (h : aheadP s i k = true) : aheadP s k i = false := by
 unfold aheadP at *; rw [Bool.or_eq_true, Bool.and_eq_true, decide_eq_true_iff, decide_eq_true_iff] at h; rw [Bool.or_eq_false_iff, Bool.and_eq_false_iff, decide_eq_false_iff_not, decide_eq_false_iff_not]; rcases h with h | ⟨h, g⟩
 ·refine ⟨bl_asymm h, .inl fun e => ?_⟩; rw [e, bl_irrefl] at h; cases h
 ·exact ⟨by rw [h]; exact bl_irrefl _, .inr (by omega)⟩
theorem aheadP_trans {i j k : Nat} (h : aheadP s i j = true) (g : aheadP s j k = true) : aheadP s i k = true := by
 unfold aheadP at *; rw [Bool.or_eq_true, Bool.and_eq_true, decide_eq_true_iff, decide_eq_true_iff] at *; rcases h with h | ⟨h, h2⟩
 ·rcases g with g | ⟨g, g2⟩
  ·exact .inl (bl_trans _ _ _ h g)
  ·rw [<- g]; exact .inl h
 ·rw [h]; rcases g with g | ⟨g, g2⟩
  ·exact .inl g
  ·exact .inr ⟨g, by omega⟩
theorem aheadP_total {i k : Nat} (h : i ≠ k) : aheadP s i k = true \/ aheadP s k i = true := by
 unfold aheadP; simp only [Bool.or_eq_true, Bool.and_eq_true, decide_eq_true_iff]; rcases bl_total (rot s i) (rot s k) with q | q | q
 ·exact .inl (.inl q)
 ·rcases Nat.lt_or_ge i k with g | g
  ·exact .inl (.inr ⟨q, g⟩)
  ·exact .inr (.inr ⟨q.symm, by omega⟩)
 ·exact .inr (.inl q)
theorem insP_ahead (i : Nat) : ∀ l : List Nat, i ∉ l -> l.Pairwise (fun a b => aheadP s a b = true) -> (insP s i l).Pairwise (fun a b => aheadP s a b = true)
 | [], _, _ => by simp [insP]
 | k :: r, hn, h => by
  rw [List.pairwise_cons] at h; rw [insP]; split
  ·rename_i ha; rw [List.pairwise_cons, List.pairwise_cons]; refine ⟨fun x hx => ?_, h.1, h.2⟩; rcases List.mem_cons.1 hx with rfl | hx
   ·exact ha
   ·exact aheadP_trans ha (h.1 x hx)
  ·rename_i ha; rw [List.pairwise_cons]; refine ⟨fun x hx => ?_, insP_ahead i r (fun z => hn (List.mem_cons_of_mem _ z)) h.2⟩; rcases List.mem_cons.1 ((insP_perm s i r).mem_iff.1 hx) with rfl | hx
   ·exact (aheadP_total fun e => hn (by rw [e]; exact List.mem_cons_self ..)).resolve_left ha
   ·exact h.1 x hx
theorem sortP_ahead (s : List UInt8) : ∀ n, (sortP s n).Pairwise (fun a b => aheadP s a b = true)
 | 0 => .nil
 | n + 1 => insP_ahead n _ (fun h => by have := (sortP_mem s n n).1 h; omega) (sortP_ahead s n)
theorem sortP_uniq {o : List Nat} (hp : o.Perm (List.range s.length)) (h : o.Pairwise fun a b => aheadP s a b = true) : o = sortP s s.length :=
 List.Perm.eq_of_pairwise (fun x y _ _ h1 h2 => by rw [aheadP_asymm h1] at h2; cases h2) h (sortP_ahead s _) (hp.trans (sortP_perm s _).symm)
def keyS (s : List UInt8) (x : SS) : Key := fun at_ => if x.reach = 0 then ((s.getD at_ 0).toNat, 0) else (x.cls.getD at_ 0, x.cls.getD ((at_ + x.reach) % s.length) 0)
def wid (x : SS) : Nat := if x.reach = 0 then 1 else x.reach + x.reach
def Cls (s : List UInt8) (x : SS) : Prop := x.reach = 0 \/ ∀ a b, a < s.length -> b < s.length -> (x.cls.getD a 0 < x.cls.getD b 0 ↔ ltm s x.reach a b) /\ (x.cls.getD a 0 = x.cls.getD b 0 ↔ eqm s x.reach a b)
theorem key_means {x : SS} (h : Cls s x) (ha : a < s.length) (hb : b < s.length) : (klt (keyS s x a) (keyS s x b) ↔ ltm s (wid x) a b) /\ (keyS s x a = keyS s x b ↔ eqm s (wid x) a b) := by
 unfold keyS wid
 by_cases q : x.reach = 0
 ·rw [if_pos q, if_pos q, if_pos q]
  have e : ∀ z, z < s.length -> ch s (z + 0) = (s.getD z 0).toNat := fun z hz => by unfold ch; rw [Nat.add_zero, Nat.mod_eq_of_lt hz]
  constructor
  ·constructor
   ·intro g; refine ⟨0, by omega, fun i hi => by omega, ?_⟩; rw [e a ha, e b hb]; rcases g with g | ⟨_, g⟩
    ·exact g
    ·exact absurd g (Nat.lt_irrefl 0)
   ·rintro ⟨j, h1, _, h3⟩
    obtain rfl : j = 0 := by omega
    rw [e a ha, e b hb] at h3; exact .inl h3
  ·constructor
   ·intro g i hi
    obtain rfl : i = 0 := by omega
    rw [e a ha, e b hb]; exact congrArg Prod.fst g
   ·intro g; have := g 0 (by omega); rw [e a ha, e b hb] at this; rw [this]
 ·rw [if_neg q, if_neg q, if_neg q]; have hc := h.resolve_left q
  have h0 : 0 < s.length := by omega
  have h1 := hc a b ha hb; have h2 := hc _ _ (Nat.mod_lt (a + x.reach) h0) (Nat.mod_lt (b + x.reach) h0); rw [ltm_mod, eqm_mod] at h2
  constructor
  ·rw [ltm_add, <- h1.1, <- h1.2, <- h2.1]; rfl
  ·rw [eqm_add, <- h1.2, <- h2.2, kext]
theorem rk_bound {k : Key} {o : List Nat} : ∀ j, rk k o j <= j
 | 0 => Nat.le_refl _
 | j + 1 => by
  have := rk_bound (k := k) (o := o) j; show rk k o j + (if _ then 1 else 0) <= _
  split <;> omega
theorem klt_trans {p q r : Nat × Nat} (h : klt p q) (g : klt q r) : klt p r := by unfold klt at *; omega
theorem klt_irrefl (p : Nat × Nat) : ¬ klt p p := by unfold klt; omega
theorem rk_means {k : Key} {o : List Nat} (hs : o.Pairwise (le k)) {i : Nat} : ∀ j, i <= j -> j < o.length -> (rk k o i < rk k o j /\ klt (k (o.getD i 0)) (k (o.getD j 0))) \/ (rk k o i = rk k o j /\ k (o.getD i 0) = k (o.getD j 0))
 | 0, h, _ => by rw [show i = 0 by omega]; exact .inr ⟨rfl, rfl⟩
 | j + 1, h, hj => by
  rcases Nat.lt_or_ge i (j + 1) with q | q
  ·have ih := rk_means hs (i := i) j (by omega) (by omega)
   have hl : le k (o.getD j 0) (o.getD (j + 1) 0) := by
    have := List.pairwise_iff_getElem.1 hs j (j + 1) (by omega) hj (by omega); rw [List.getD_eq_getElem?_getD, List.getD_eq_getElem?_getD, List.getElem?_eq_getElem (by omega), List.getElem?_eq_getElem hj]; exact this
   have e : rk k o (j + 1) = rk k o j + if klt (k (o.getD j 0)) (k (o.getD (j + 1) 0)) then 1 else 0 := rfl
   by_cases g : klt (k (o.getD j 0)) (k (o.getD (j + 1) 0))
   ·rw [if_pos g] at e; refine .inl ?_; rcases ih with ih | ih
    ·exact ⟨by omega, klt_trans ih.2 g⟩
    ·exact ⟨by omega, by rw [ih.2]; exact g⟩
   ·rw [if_neg g, Nat.add_zero] at e
    have ek : k (o.getD j 0) = k (o.getD (j + 1) 0) := by
     rcases hl with hl | hl
     ·exact absurd hl g
     ·exact hl.1
    rw [e, <- ek]; exact ih
  ·rw [show i = j + 1 by omega]; exact .inr ⟨rfl, rfl⟩
structure Inv (s : List UInt8) (x : SS) : Prop where
 bs : Bs s.length x
 cls : Cls s x
 ph : PhC (keyS s x) s.length x
theorem mem_idx {o : List Nat} {n a : Nat} (hp : o.Perm (List.range n)) (ha : a < n) : ∃ i, i < n /\ o.getD i 0 = a := by
 have : a ∈ o := hp.mem_iff.2 (List.mem_range.2 ha); obtain ⟨i, hi, e⟩ := List.getElem_of_mem this; have := hp.length_eq; rw [List.length_range] at this; exact ⟨i, by omega, by rw [List.getD_eq_getElem?_getD, List.getElem?_eq_getElem hi, e]; rfl⟩
theorem pass_ok {x : SS} (h : Inv s x) (h1 : ¬ 0 < x.merge.hi) (h2 : x.stack = []) (h3 : x.ranked + 1 = s.length) :
  let y := passS s.length (rank1 (keyS s x) x)
  (y.done = true /\ y.order = sortP s s.length) \/ (y.done = false /\ Inv s y /\ x.reach < s.length /\ x.reach < y.reach /\ y.stack = [⟨0, 0, s.length⟩] /\ y.merge.hi = 0 /\ y.ranked = 0) := by
 obtain ⟨hs, hp, hkn, _, hal, hasd, hlast⟩ := rank_ph h.bs h.ph h1 h2; have hol := h.bs.ol; have hkm := fun a b ha hb => key_means (a := a) (b := b) h.cls ha hb
 have hcls : ∀ a b, a < s.length -> b < s.length -> ((rank1 (keyS s x) x).aside.getD a 0 < (rank1 (keyS s x) x).aside.getD b 0 ↔ ltm s (wid x) a b) /\ ((rank1 (keyS s x) x).aside.getD a 0 = (rank1 (keyS s x) x).aside.getD b 0 ↔ eqm s (wid x) a b) := by
  intro a b ha hb; obtain ⟨i, hi, ei⟩ := mem_idx hp ha; obtain ⟨j, hj, ej⟩ := mem_idx hp hb; have e1 := hasd i (by omega); have e2 := hasd j (by omega); rw [ei] at e1; rw [ej] at e2; rw [e1, e2, <- (hkm a b ha hb).1, <- (hkm a b ha hb).2]; rcases Nat.le_total i j with q | q
  ·rcases rk_means hs j q (by omega) with g | g
   ·rw [ei, ej] at g; exact ⟨⟨fun _ => g.2, fun _ => g.1⟩, ⟨fun z => by omega, fun z => by rw [z] at g; exact absurd g.2 (klt_irrefl _)⟩⟩
   ·rw [ei, ej] at g; exact ⟨⟨fun z => by omega, fun z => by rw [g.2] at z; exact absurd z (klt_irrefl _)⟩, ⟨fun _ => g.2, fun _ => g.1⟩⟩
  ·rcases rk_means hs i q (by omega) with g | g
   ·rw [ei, ej] at g; exact ⟨⟨fun z => by omega, fun z => absurd (klt_trans z g.2) (klt_irrefl _)⟩, ⟨fun z => by omega, fun z => by rw [z] at g; exact absurd g.2 (klt_irrefl _)⟩⟩
   ·rw [ei, ej] at g; exact ⟨⟨fun z => by omega, fun z => by rw [g.2] at z; exact absurd z (klt_irrefl _)⟩, ⟨fun _ => g.2.symm, fun _ => g.1.symm⟩⟩
 have hget : ∀ i, i < s.length -> x.order.getD i 0 < s.length := fun i hi => h.bs.om _ (getD_mem (by omega)); have hnd : x.order.Nodup := hp.symm.nodup List.nodup_range
 have hstrict : ∀ i j, i < j -> j < s.length -> ltm s (wid x) (x.order.getD i 0) (x.order.getD j 0) \/ (eqm s (wid x) (x.order.getD i 0) (x.order.getD j 0) /\ x.order.getD i 0 < x.order.getD j 0) := by
  intro i j hij hj; have g1 := getD_at (l := x.order) (i := i) (by omega); have g2 := getD_at (l := x.order) (i := j) (by omega); obtain ⟨p1, p2⟩ := List.getElem?_eq_some_iff.1 g1; obtain ⟨p3, p4⟩ := List.getElem?_eq_some_iff.1 g2; have hl := List.pairwise_iff_getElem.1 hs i j (by omega) (by omega) hij; have hne := List.pairwise_iff_getElem.1 hnd i j (by omega) (by omega) hij; rw [p2, p4] at hl hne; have hk := hkm _ _ (hget i (by omega)) (hget j hj); rcases hl with hl | hl
  ·exact .inl (hk.1.1 hl)
  ·exact .inr ⟨hk.2.1 hl.1, by omega⟩
 intro y
 by_cases q : (rank1 (keyS s x) x).last = s.length - 1 \/ s.length <= (rank1 (keyS s x) x).reach
 ·have ey : y = { rank1 (keyS s x) x with cls := (rank1 (keyS s x) x).aside, aside := (rank1 (keyS s x) x).cls, ranked := 0, done := true } := by
   show passS _ _ = _; unfold passS; rw [if_pos q]
  rw [ey]; refine .inl ⟨rfl, ?_⟩; show x.order = _; refine sortP_uniq hp ?_; rw [List.pairwise_iff_getElem]; intro i j hi hj hij
  have e1 : x.order[i] = x.order.getD i 0 := by rw [List.getD_eq_getElem?_getD, List.getElem?_eq_getElem hi]; rfl
  have e2 : x.order[j] = x.order.getD j 0 := by rw [List.getD_eq_getElem?_getD, List.getElem?_eq_getElem hj]; rfl
  rw [e1, e2]; have ga := hget i (by omega); have gb := hget j (by omega); rcases hstrict i j hij (by omega) with g | ⟨g, g2⟩
  ·exact ahead_ltm ga gb (ltm_low g)
  ·rcases q with q | q
   ·exfalso; rw [hlast] at q
    have hr : ∀ t, t <= x.ranked -> t <= rk (keyS s x) x.order (x.ranked) - (x.ranked - t) := fun t ht => by omega
    have hinc : ∀ d t, t + d = x.ranked -> rk (keyS s x) x.order t = t := by
     intro d
     induction d with
     | zero => intro t ht; rw [show t = x.ranked by omega, q]; omega
     | succ d ih =>
      intro t ht; have h5 := ih (t + 1) (by omega)
      have h6 : rk (keyS s x) x.order (t + 1) = rk (keyS s x) x.order t + if klt (keyS s x (x.order.getD t 0)) (keyS s x (x.order.getD (t + 1) 0)) then 1 else 0 := rfl
      have h7 := rk_bound (k := keyS s x) (o := x.order) t
      split at h6 <;> omega
    have h8 := hinc (x.ranked - i) i (by omega); have h9 := hinc (x.ranked - j) j (by omega); have h10 := (hcls _ _ ga gb).2.2 g; rw [hasd i (by omega), hasd j (by omega)] at h10; omega
   ·refine ahead_eqm ga gb (fun t ht => g t ?_) g2; have q' : s.length <= x.reach := q; unfold wid
    split <;> omega
 ·have ey : y = { rank1 (keyS s x) x with cls := (rank1 (keyS s x) x).aside, aside := (rank1 (keyS s x) x).cls, ranked := 0, reach := max 1 (2 * x.reach), stack := ⟨0, 0, s.length⟩ :: x.stack } := by
   show passS _ _ = _; unfold passS; rw [if_neg q]; rfl
  have hrl : x.reach < s.length := by
   rcases Nat.lt_or_ge x.reach s.length with g | g
   ·exact g
   ·exact absurd (.inr g) q
  have hw : max 1 (2 * x.reach) = wid x := by unfold wid; split <;> omega
  rw [ey]; refine .inr ⟨h.bs.nd, ?_, hrl, by show x.reach < max 1 (2 * x.reach); omega, by show _ :: x.stack = _; rw [h2], by show x.merge.hi = 0; omega, rfl⟩; have hcl : (rank1 (keyS s x) x).cls.length = s.length := h.bs.cl; have htwo := h.bs.two; refine ⟨⟨htwo, hol, hal, hcl, h.bs.om, h.bs.nd⟩, .inr fun a b ha hb => ?_, ?_⟩
  ·show (_ ↔ ltm s (max 1 (2 * x.reach)) a b) /\ (_ ↔ eqm s (max 1 (2 * x.reach)) a b); rw [hw]; exact hcls a b ha hb
  ·generalize hk2 : keyS s _ = k2
   have hk2m : ∀ a b, a < s.length -> b < s.length -> k2 a = k2 b -> eqm s (wid x) a b := by
    intro a b ha hb e; rw [<- hk2] at e; unfold keyS at e; simp only at e; rw [if_neg (by omega), if_neg (by omega)] at e; exact (hcls a b ha hb).2.1 (congrArg Prod.fst e)
   have hsg : seg x.order 0 s.length = x.order := by
    unfold seg; rw [List.drop_zero, Nat.sub_zero, List.take_of_length_le (by omega)]
   refine .inl ⟨by show x.merge.hi = 0; omega, hp, ?_, ?_, fun _ => rfl, by show 0 < s.length; omega, fun i hi => absurd hi (Nat.not_lt_zero i), fun z => absurd z (Nat.lt_irrefl 0)⟩
   ·show WF k2 s.length (⟨0, 0, s.length⟩ :: x.stack) x.order; rw [h2]; refine ⟨⟨by show 0 < s.length; omega, Nat.le_refl _⟩, ?_, trivial⟩; unfold Cond; rw [if_pos rfl]; simp only; rw [hsg, List.pairwise_iff_getElem]; intro i j hi hj hij e
    have e1 : x.order[i] = x.order.getD i 0 := by rw [List.getD_eq_getElem?_getD, List.getElem?_eq_getElem hi]; rfl
    have e2 : x.order[j] = x.order.getD j 0 := by rw [List.getD_eq_getElem?_getD, List.getElem?_eq_getElem hj]; rfl
    rw [e1, e2] at e ⊢; have g := hk2m _ _ (hget i (by omega)) (hget j (by omega)) e; rcases hstrict i j hij (by omega) with z | z
    ·exact absurd g (ltm_ne z)
    ·omega
   ·show (run k2 (⟨0, 0, s.length⟩ :: x.stack) x.order).Pairwise (le k2); rw [h2]; show (ap k2 ⟨0, 0, s.length⟩ x.order).Pairwise (le k2); unfold ap rep; simp only; rw [hsg, List.take_zero, List.nil_append, List.drop_of_length_le (by omega), List.append_nil]; exact isort_sorted _ _
end Go.Mr
namespace Go.Mr
open Go.M18
def cost (p : Pt) : Nat := if p.mid = 0 then 4 * ((p.hi - p.lo) * (p.hi - p.lo)) else (p.mid - p.lo) + (p.hi - p.lo)
def costs : List Pt -> Nat
 | [] => 0
 | p :: st => cost p + costs st
def mCost (x : SS) : Nat := if x.merge.hi = 0 then 0 else (x.merge.mid - x.merge.lo - x.laid) + (x.merge.hi - toS x)
def passC (n : Nat) : Nat := 4 * (n * n) + 2 * n + 2
def mu (n : Nat) (x : SS) : Nat := if x.done = true then 0 else 1 + ((n + 1 - x.reach) * passC n + costs x.stack + mCost x + (n - x.ranked))
variable {s : List UInt8} {x : SS} {k : Key} {n : Nat}
theorem mu_eq (h : x.done = false) : mu n x = 1 + ((n + 1 - x.reach) * passC n + costs x.stack + mCost x + (n - x.ranked)) := by
 unfold mu; rw [if_neg (by rw [h]; exact Bool.false_ne_true)]
theorem mCost_no (h : x.merge.hi = 0) : mCost x = 0 := by unfold mCost; rw [if_pos h]
theorem mCost_on (h : ¬ x.merge.hi = 0) : mCost x = (x.merge.mid - x.merge.lo - x.laid) + (x.merge.hi - toS x) := by unfold mCost; rw [if_neg h]
theorem join_mu (hb : Bs n x) (h : PhC k n x) : mu n (joinS x) = mu n x := by
 unfold joinS; split
 ·rfl
 ·rename_i p st e; split
  ·rename_i q; rcases h with h | ⟨R, h⟩
   ·have hw := h.wf; rw [e] at hw; obtain ⟨⟨w1, w2⟩, hc, _⟩ := hw; unfold Cond at hc; rw [if_neg q.2] at hc; have c1 := hc.1; have c2 := hc.2.1
    have : costs (p :: st) = (p.mid - p.lo) + (p.hi - p.lo) + costs st := by
     show cost p + costs st = _; unfold cost; rw [if_neg q.2]
    rw [mu_eq hb.nd, mu_eq (x := { x with merge := p, stack := st, laid := 0, first := 0, second := p.mid }) hb.nd, mCost_no q.1, mCost_on (x := { x with merge := p, stack := st, laid := 0, first := 0, second := p.mid }) (by show ¬ p.hi = 0; omega), e, this]; show 1 + ((n + 1 - x.reach) * passC n + costs st + (p.mid - p.lo - 0 + (p.hi - (p.lo + 0 + p.mid - p.mid))) + (n - x.ranked)) = _; omega
   ·have := h.m2; omega
  ·rfl
theorem begin_cost {lo hi : Nat} (h : 2 <= hi - lo) : cost ⟨lo, 0, (lo + hi) / 2⟩ + (cost ⟨(lo + hi) / 2, 0, hi⟩ + cost ⟨lo, (lo + hi) / 2, hi⟩) < cost ⟨lo, 0, hi⟩ := by
 generalize hm : (lo + hi) / 2 = mid; unfold cost; rw [if_pos rfl, if_pos rfl, if_pos rfl, if_neg (by show ¬ mid = 0; omega)]; simp only; obtain ⟨a, ha⟩ : ∃ a, a = mid - lo := ⟨_, rfl⟩; obtain ⟨b, hb⟩ : ∃ b, b = hi - mid := ⟨_, rfl⟩
 have e : hi - lo = a + b := by omega
 rw [e, <- ha, <- hb]
 have h1 : 1 <= a := by omega
 have h2 : 1 <= b := by omega
 have h3 : a <= a * b := Nat.le_mul_of_pos_right a h2; have h4 : b <= a * b := Nat.le_mul_of_pos_left b h1
 have h5 : (a + b) * (a + b) = a * a + 2 * (a * b) + b * b := by
  rw [Nat.add_mul, Nat.mul_add, Nat.mul_add, Nat.mul_comm b a]; omega
 rw [h5]; omega
theorem pass_mu {y : SS} (hd : x.done = false) (hyd : y.done = false) (h1 : x.reach < n) (h2 : x.reach < y.reach) (h3 : y.stack = [⟨0, 0, n⟩]) (h4 : y.merge.hi = 0) (h5 : y.ranked = 0) : mu n y < mu n x := by
 unfold mu; rw [hd, hyd, if_neg (by simp), if_neg (by simp), h3, h5]
 have e1 : mCost y = 0 := by unfold mCost; rw [if_pos h4]
 have e2 : costs [⟨0, 0, n⟩] = 4 * (n * n) := by
  show cost ⟨0, 0, n⟩ + 0 = _; unfold cost; rw [if_pos rfl]; rfl
 rw [e1, e2]
 have h6 : (n + 1 - y.reach) * passC n + passC n <= (n + 1 - x.reach) * passC n := by
  have h7 : (n + 1 - y.reach + 1) * passC n <= (n + 1 - x.reach) * passC n := Nat.mul_le_mul_right _ (by omega); rw [Nat.add_mul, Nat.one_mul] at h7; exact h7
 have h8 : passC n = 4 * (n * n) + 2 * n + 2 := rfl; omega
theorem rank_mu (hd : x.done = false) (h : x.ranked < n) : mu n (rank1 k x) < mu n x := by
 unfold mu; rw [show (rank1 k x).done = x.done from rfl, hd, if_neg (by simp), if_neg (by simp)]; show 1 + ((n + 1 - x.reach) * passC n + costs x.stack + mCost x + (n - (x.ranked + 1))) < _; omega
theorem step_ok (h : Inv s x) : mu s.length (stepS (keyS s x) s.length x) < mu s.length x /\
  (((stepS (keyS s x) s.length x).done = true /\ (stepS (keyS s x) s.length x).order = sortP s s.length) \/ Inv s (stepS (keyS s x) s.length x)) := by
 have hj := join_ph h.bs h.ph; have hjm := join_mu h.bs h.ph
 have hjk : keyS s (joinS x) = keyS s x /\ Cls s (joinS x) := by
  unfold joinS; split
  ·exact ⟨rfl, h.cls⟩
  ·split
   ·exact ⟨rfl, h.cls⟩
   ·exact ⟨rfl, h.cls⟩
 unfold stepS; rw [<- hjm]; generalize joinS x = y at *; obtain ⟨hb, hp, hm⟩ := hj; obtain ⟨hk, hc⟩ := hjk; rw [<- hk] at hp ⊢; have hnd := hb.nd; unfold restS
 by_cases q1 : 0 < y.merge.hi /\ y.laid < y.merge.mid - y.merge.lo
 ·rw [if_pos q1]; obtain ⟨b1, b2⟩ := lay_ph hb hp q1.1 q1.2; refine ⟨?_, .inr ⟨b1, hc, b2⟩⟩; rw [mu_eq hnd, mu_eq (x := layS y) hnd, mCost_on (x := y) (by omega), mCost_on (x := layS y) (by show ¬ y.merge.hi = 0; omega)]; show 1 + ((s.length + 1 - y.reach) * passC s.length + costs y.stack + (y.merge.mid - y.merge.lo - (y.laid + 1) + (y.merge.hi - toS y)) + (s.length - y.ranked)) < _; omega
 ·rw [if_neg q1]
  by_cases q2 : 0 < y.merge.hi
  ·rw [if_pos q2]; have q3 : ¬ y.laid < y.merge.mid - y.merge.lo := fun z => q1 ⟨q2, z⟩; obtain ⟨b1, b2⟩ := put_ph hb hp q2 q3
   have hcl : Cls s (putS (keyS s y) y) := by
    unfold putS moveS; split
    ·split <;> exact hc
    ·split <;> exact hc
   have hky : keyS s (putS (keyS s y) y) = keyS s y := by
    unfold putS moveS; split
    ·split <;> rfl
    ·split <;> rfl
   refine ⟨?_, .inr ⟨b1, hcl, by rw [hky]; exact b2⟩⟩; rcases hp with hp | ⟨R, hp⟩
   ·have := hp.none; omega
   have hm1 := hp.m1; have hm2 := hp.m2; have hlay := hp.lay
   obtain ⟨v, f, c, e, _, _, _, _, t1, _⟩ := move_ok hb hp (by omega); obtain ⟨_, _, _, l4, _⟩ := hp.late (by omega); unfold putS; rw [e]; rw [mu_eq hnd, mCost_on (x := y) (by omega)]; split
   ·rename_i q; rw [mu_eq (by exact hnd), mCost_no (by rfl)]; show 1 + ((s.length + 1 - y.reach) * passC s.length + costs y.stack + 0 + (s.length - y.ranked)) < _; omega
   ·rename_i q; rw [mu_eq (by exact hnd), mCost_on (by show ¬ y.merge.hi = 0; omega)]; show 1 + ((s.length + 1 - y.reach) * passC s.length + costs y.stack + (y.merge.mid - y.merge.lo - y.laid + (y.merge.hi - (y.merge.lo + f + c - y.merge.mid))) + (s.length - y.ranked)) < _; omega
  ·rw [if_neg q2]
   by_cases q3 : y.stack ≠ []
   ·rw [if_pos q3]; obtain ⟨b1, b2⟩ := begin_ph hb hp q2 q3 (hm (by omega))
    have hcl : Cls s (beginS y) := by
     unfold beginS; split
     ·exact hc
     ·split <;> exact hc
    have hky : keyS s (beginS y) = keyS s y := by
     unfold beginS; split
     ·rfl
     ·split <;> rfl
    refine ⟨?_, .inr ⟨b1, hcl, by rw [hky]; exact b2⟩⟩; rcases hp with hp | ⟨R, hp⟩
    rotate_left
    ·have := hp.m2; omega
    unfold beginS; split
    ·rename_i e; exact absurd e q3
    ·rename_i p st e; have hw := hp.wf; rw [e] at hw; have h0 := hw.1; have hmid := hm (by omega) p st e; obtain ⟨lo, mid, hi⟩ := p; simp only at hmid h0; subst hmid; have ec : costs (⟨lo, 0, hi⟩ :: st) = cost ⟨lo, 0, hi⟩ + costs st := rfl; rw [mu_eq hnd, mCost_no (show y.merge.hi = 0 by omega), e, ec]; split
     ·rename_i q; rw [mu_eq (by exact hnd), mCost_no (by show y.merge.hi = 0; omega)]
      have h9 : 1 <= cost ⟨lo, 0, hi⟩ := by
       unfold cost; rw [if_pos rfl]; have : 1 <= (hi - lo) * (hi - lo) := Nat.mul_pos (by omega) (by omega); simp only; omega
      show 1 + ((s.length + 1 - y.reach) * passC s.length + costs st + 0 + (s.length - y.ranked)) < _; omega
     ·rename_i q; simp only at q; rw [mu_eq (by exact hnd), mCost_no (by show y.merge.hi = 0; omega)]; have h9 := begin_cost (lo := lo) (hi := hi) (by omega); show 1 + ((s.length + 1 - y.reach) * passC s.length + (cost ⟨lo, 0, (lo + hi) / 2⟩ + (cost ⟨(lo + hi) / 2, 0, hi⟩ + (cost ⟨lo, (lo + hi) / 2, hi⟩ + costs st))) + 0 + (s.length - y.ranked)) < _; omega
   ·rw [if_neg q3]; have q4 : y.stack = [] := Classical.byContradiction q3; have hi : Inv s y := ⟨hb, hc, hp⟩; obtain ⟨_, _, hkn, hgo, _⟩ := rank_ph hb hp q2 q4; unfold rankS; split
    ·rename_i q; have := pass_ok hi q2 q4 q; simp only at this; rcases this with ⟨p1, p2⟩ | ⟨p1, p2, p3, p4, p5, p6, p7⟩
     ·refine ⟨?_, .inl ⟨p1, p2⟩⟩; unfold mu; rw [p1, hnd, if_pos rfl, if_neg (by simp)]; omega
     ·exact ⟨pass_mu hnd p1 p3 p4 p5 p6 p7, .inr p2⟩
    ·rename_i q; obtain ⟨b1, b2⟩ := hgo (by omega); exact ⟨rank_mu hnd hkn, .inr ⟨b1, hc, b2⟩⟩
def start (n : Nat) : SS := ⟨List.range n, List.replicate n 0, List.replicate n 0, 0, [⟨0, 0, n⟩], ⟨0, 0, 0⟩, 0, 0, 0, 0, 0, false⟩
theorem start_inv (h : 2 <= s.length) : Inv s (start s.length) := by
 have hsg : seg (List.range s.length) 0 s.length = List.range s.length := by
  unfold seg; rw [List.drop_zero, Nat.sub_zero, List.take_of_length_le (by simp)]
 refine ⟨⟨h, by simp [start], by simp [start], by simp [start], fun a ha => List.mem_range.1 ha, rfl⟩, .inl rfl, .inl ⟨rfl, .refl _, ⟨⟨by show 0 < s.length; omega, Nat.le_refl _⟩, ?_, trivial⟩, ?_, fun _ => rfl, by show 0 < s.length; omega, fun i hi => absurd hi (Nat.not_lt_zero i), fun z => absurd z (Nat.lt_irrefl 0)⟩⟩
 ·unfold Cond; rw [if_pos rfl]; show (seg (List.range s.length) 0 s.length).Pairwise _; rw [hsg, List.pairwise_iff_getElem]; intro i j hi hj hij _; rw [List.getElem_range, List.getElem_range]; omega
 ·show (ap _ ⟨0, 0, s.length⟩ (List.range s.length)).Pairwise _; unfold ap rep; simp only; rw [hsg, List.take_zero, List.nil_append, List.drop_of_length_le (by simp), List.append_nil]; exact isort_sorted _ _
theorem mu_start (hn : n <= 4000) : mu n (start n) <= 300000000000 := by
 unfold mu; rw [if_neg (by simp [start])]; show 1 + ((n + 1 - 0) * passC n + (cost ⟨0, 0, n⟩ + 0) + 0 + (n - 0)) <= _; have h1 : n * n <= 4000 * 4000 := Nat.mul_le_mul hn hn
 have h2 : passC n <= 4 * (4000 * 4000) + 2 * 4000 + 2 := by unfold passC; omega
 have h3 : (n + 1 - 0) * passC n <= 4001 * (4 * (4000 * 4000) + 2 * 4000 + 2) := Nat.mul_le_mul (by omega) h2
 have h4 : cost ⟨0, 0, n⟩ = 4 * (n * n) := by unfold cost; rw [if_pos rfl]; rfl
 rw [h4]; omega
end Go.Mr
namespace Go.Mh
def lt (W : List Nat) (x y : Nat) : Prop := W.getD x 0 < W.getD y 0 \/ (W.getD x 0 = W.getD y 0 /\ x < y)
instance (W : List Nat) (x y : Nat) : Decidable (lt W x y) := inferInstanceAs (Decidable (_ \/ _))
theorem lt_asymm {W : List Nat} {x y : Nat} (h : lt W x y) : ¬ lt W y x := by unfold lt at *; omega
theorem lt_trans {W : List Nat} {x y z : Nat} (h : lt W x y) (h2 : lt W y z) : lt W x z := by unfold lt at *; omega
theorem lt_total {W : List Nat} {x y : Nat} (h : x ≠ y) : lt W x y \/ lt W y x := by unfold lt; omega
def IsLeast (W V : List Nat) (x : Nat) : Prop := x ∈ V /\ ∀ y ∈ V, y ≠ x -> lt W x y
theorem IsLeast.uniq {W V : List Nat} {x y : Nat} (h : IsLeast W V x) (h2 : IsLeast W V y) : x = y :=
 Classical.byContradiction fun hne => lt_asymm (h.2 y h2.1 fun e => hne e.symm) (h2.2 x h.1 hne)
theorem IsLeast.perm {W V V' : List Nat} {x : Nat} (h : IsLeast W V x) (p : V.Perm V') : IsLeast W V' x :=
 ⟨p.mem_iff.1 h.1, fun y hy => h.2 y (p.mem_iff.2 hy)⟩
structure HS where
 W : List Nat
 I : List (Option Nat)
 V : List Nat
def h0 (w : List Nat) : HS := ⟨w, List.replicate w.length none, List.range w.length⟩
structure Join (s s' : HS) (a b : Nat) : Prop where
 la : IsLeast s.W s.V a
 lb : IsLeast s.W (s.V.erase a) b
 W : s'.W = s.W ++ [s.W.getD a 0 + s.W.getD b 0]
 I : s'.I = ((s.I.set a (some s.W.length)).set b (some s.W.length)) ++ [none]
 V : s'.V.Perm (s.W.length :: (s.V.erase a).erase b)
inductive Joins (s0 : HS) : Nat -> HS -> Prop
 | start : Joins s0 0 s0
 | next {k : Nat} {s s' : HS} {a b : Nat} (h : Joins s0 k s) (j : Join s s' a b) : Joins s0 (k + 1) s'
theorem Joins.det {s0 : HS} {k : Nat} {s : HS} (h : Joins s0 k s) : ∀ {s2 : HS}, Joins s0 k s2 -> s.W = s2.W /\ s.I = s2.I /\ s.V.Perm s2.V := by
 induction h with
 | start => intro s2 h2; cases h2; exact ⟨rfl, rfl, .refl _⟩
 | next h j ih =>
  intro s2 h2
  cases h2 with
  | next h' j' =>
   obtain ⟨hW, hI, hV⟩ := ih h'; have ha := (j.la.perm hV); rw [hW] at ha; obtain rfl := ha.uniq j'.la; have hb := (j.lb.perm (hV.erase _)); rw [hW] at hb; obtain rfl := hb.uniq j'.lb; refine ⟨by rw [j.W, j'.W, hW], by rw [j.I, j'.I, hI, hW], ?_⟩; refine j.V.trans (.trans ?_ j'.V.symm); rw [hW]; exact .cons _ ((hV.erase _).erase _)
structure Good (s : HS) : Prop where
 nodup : s.V.Nodup
 lt : ∀ x ∈ s.V, x < s.W.length
 len : s.I.length = s.W.length
 live : ∀ x ∈ s.V, s.I[x]? = some none
 dead : ∀ x, x < s.W.length -> x ∉ s.V -> ∃ p, s.I[x]? = some (some p) /\ x < p /\ p < s.W.length
theorem good0 (w : List Nat) : Good (h0 w) :=
 ⟨List.nodup_range, fun x hx => List.mem_range.1 hx, by simp [h0], fun x hx => by
  have := List.mem_range.1 hx
  simp [h0, this], fun x hx hn => absurd (List.mem_range.2 hx) hn⟩
theorem join_ne {s s' : HS} {a b : Nat} (hg : Good s) (j : Join s s' a b) : a ≠ b := by
 rintro rfl; exact (List.Nodup.not_mem_erase hg.nodup) j.lb.1
theorem join_good {s s' : HS} {a b : Nat} (hg : Good s) (j : Join s s' a b) : Good s' /\ s'.V.length + 1 = s.V.length /\ s'.W.length = s.W.length + 1 := by
 have hne := join_ne hg j; have ha := hg.lt a j.la.1; have hbm : b ∈ s.V := List.mem_of_mem_erase j.lb.1; have hb := hg.lt b hbm; have hn2 : ((s.V.erase a).erase b).Nodup := (hg.nodup.erase a).erase b
 have hmem : ∀ x, x ∈ (s.V.erase a).erase b ↔ x ∈ s.V /\ x ≠ a /\ x ≠ b := by
  intro x; rw [(hg.nodup.erase a).mem_erase_iff, hg.nodup.mem_erase_iff]
  constructor
  ·rintro ⟨h1, h2, h3⟩; exact ⟨h3, h2, h1⟩
  ·rintro ⟨h1, h2, h3⟩; exact ⟨h3, h2, h1⟩
 have hWl : s'.W.length = s.W.length + 1 := by rw [j.W]; simp
 have hIl : ((s.I.set a (some s.W.length)).set b (some s.W.length)).length = s.W.length := by rw [List.length_set, List.length_set, hg.len]
 have hget : ∀ x, x < s.W.length -> s'.I[x]? = if x = b then some (some s.W.length) else if x = a then some (some s.W.length) else s.I[x]? := by
  intro x hx; rw [j.I, List.getElem?_append_left (by rw [hIl]; exact hx), List.getElem?_set, List.getElem?_set]
  by_cases h1 : x = b
  ·subst h1; rw [if_pos rfl, if_pos rfl, if_pos (by rw [List.length_set, hg.len]; exact hx)]
  ·rw [if_neg (fun e : b = x => h1 e.symm), if_neg h1]
   by_cases h2 : x = a
   ·subst h2; rw [if_pos rfl, if_pos rfl, if_pos (by rw [hg.len]; exact hx)]
   ·rw [if_neg (fun e : a = x => h2 e.symm), if_neg h2]
 have hV : ∀ x, x ∈ s'.V ↔ x = s.W.length \/ (x ∈ s.V /\ x ≠ a /\ x ≠ b) := by
  intro x; rw [j.V.mem_iff, List.mem_cons, hmem]
 refine ⟨⟨?_, ?_, ?_, ?_, ?_⟩, ?_, hWl⟩
 ·rw [j.V.nodup_iff, List.nodup_cons]; exact ⟨fun h => by have := hg.lt _ ((hmem _).1 h).1; omega, hn2⟩
 ·intro x hx; rw [hWl]; rcases (hV x).1 hx with h | h
  ·omega
  ·have := hg.lt x h.1; omega
 ·rw [j.I, List.length_append, hIl, hWl]; rfl
 ·intro x hx; rcases (hV x).1 hx with h | ⟨h, h1, h2⟩
  ·subst h; rw [j.I, List.getElem?_append_right (by rw [hIl]; exact Nat.le_refl _), hIl, Nat.sub_self]; rfl
  ·rw [hget x (hg.lt x h), if_neg h2, if_neg h1]; exact hg.live x h
 ·intro x hx hn; rw [hWl] at hx ⊢; have hxn : x ≠ s.W.length := fun e => hn ((hV x).2 (.inl e))
  have hx' : x < s.W.length := by omega
  rw [hget x hx']
  by_cases h1 : x = b
  ·rw [if_pos h1]; exact ⟨_, rfl, by omega, by omega⟩
  ·rw [if_neg h1]
   by_cases h2 : x = a
   ·rw [if_pos h2]; exact ⟨_, rfl, by omega, by omega⟩
   ·rw [if_neg h2]; obtain ⟨p, h3, h4, h5⟩ := hg.dead x hx' fun h => hn ((hV x).2 (.inr ⟨h, h2, h1⟩)); exact ⟨p, h3, h4, by omega⟩
 ·have := j.V.length_eq; rw [this, List.length_cons, List.length_erase_of_mem j.lb.1, List.length_erase_of_mem j.la.1]; have h1 := List.length_pos_of_mem j.la.1; have h2 := List.length_pos_of_mem j.lb.1; rw [List.length_erase_of_mem j.la.1] at h2; omega
theorem joins_good {w : List Nat} {k : Nat} {s : HS} (h : Joins (h0 w) k s) : Good s /\ s.V.length + k = w.length /\ s.W.length = w.length + k := by
 induction h with
 | start => exact ⟨good0 w, by simp [h0], rfl⟩
 | next h j ih =>
  obtain ⟨h1, h2, h3⟩ := join_good ih.1 j; exact ⟨h1, by omega, by omega⟩
inductive Up (I : List (Option Nat)) : Nat -> Nat -> Nat -> Prop
 | here (x : Nat) : Up I x 0 x
 | up {x p k y : Nat} (h : I[x]? = some (some p)) (u : Up I p k y) : Up I x (k + 1) y
theorem Up.uniq {I : List (Option Nat)} {x k y : Nat} (hy : ∀ p, I[y]? ≠ some (some p)) (h : Up I x k y) : ∀ {k2 : Nat}, Up I x k2 y -> k = k2 := by
 induction h with
 | here x =>
  intro k2 h2
  cases h2 with
  | here => rfl
  | up h u => exact absurd h (hy _)
 | up h u ih =>
  intro k2 h2
  cases h2 with
  | here => exact absurd h (hy _)
  | up h' u' =>
   rw [h] at h'; cases h'; rw [ih hy u']
theorem Up.snoc {I : List (Option Nat)} {x k y p : Nat} (h : Up I x k y) (hp : I[y]? = some (some p)) : Up I x (k + 1) p := by
 induction h with
 | here x => exact .up hp (.here _)
 | up h u ih => exact .up h (ih hp)
theorem Up.join {s s' : HS} {a b x k y : Nat} (hg : Good s) (j : Join s s' a b) (h : Up s.I x k y) : Up s'.I x k y := by
 induction h with
 | here x => exact .here x
 | up h u ih =>
  rename_i x p k y; refine .up ?_ ih
  have hx : x < s.W.length := by
   have := (List.getElem?_eq_some_iff.1 h).1; rw [hg.len] at this; exact this
  have h1 : x ≠ a := by
   rintro rfl; rw [hg.live _ j.la.1] at h; cases h
  have h2 : x ≠ b := by
   rintro rfl; rw [hg.live _ (List.mem_of_mem_erase j.lb.1)] at h; cases h
  rw [j.I, List.getElem?_append_left (by rw [List.length_set, List.length_set, hg.len]; exact hx), List.getElem?_set, List.getElem?_set, if_neg (fun e => h2 e.symm), if_neg (fun e => h1 e.symm)]; exact h
def Depths (w out : List Nat) : Prop := ∃ s r, Joins (h0 w) (w.length - 1) s /\ s.V = [r] /\ out.length = w.length /\ ∀ i, i < w.length -> Up s.I i (out.getD i 0) r
theorem Depths.uniq {w out out2 : List Nat} (h : Depths w out) (h2 : Depths w out2) : out = out2 := by
 obtain ⟨s, r, hj, hr, hl, hu⟩ := h; obtain ⟨s2, r2, hj2, hr2, hl2, hu2⟩ := h2; obtain ⟨hW, hI, hV⟩ := hj.det hj2; rw [hr, hr2] at hV
 have hrr : r = r2 := by have := hV.mem_iff.1 (List.mem_singleton.2 rfl); exact List.mem_singleton.1 this
 subst hrr; have hg := (joins_good hj).1
 have hroot : ∀ p, s.I[r]? ≠ some (some p) := fun p e => by rw [hg.live r (by rw [hr]; exact List.mem_singleton.2 rfl)] at e; cases e
 apply List.ext_getElem (by omega); intro i h3 h4; have h5 := hu i (by omega); have h6 := hu2 i (by omega); rw [<- hI] at h6; have := h5.uniq hroot h6; rw [List.getD_eq_getElem?_getD, List.getElem?_eq_getElem h3, List.getD_eq_getElem?_getD, List.getElem?_eq_getElem h4] at this; exact this
structure Queue (n : Nat) (s : HS) (lf : List Nat) (j : Nat) : Prop where
 perm : s.V.Perm (lf ++ List.range' j (s.W.length - j))
 jn : n <= j /\ j <= s.W.length
 lfn : ∀ x ∈ lf, x < n
 sorted : lf.Pairwise (lt s.W)
 mono : ∀ x y, n <= x -> x <= y -> y < s.W.length -> s.W.getD x 0 <= s.W.getD y 0
 sum : ∀ x ∈ s.V, ∀ y ∈ s.V, x ≠ y -> ∀ c, n <= c -> c < s.W.length -> s.W.getD c 0 <= s.W.getD x 0 + s.W.getD y 0
def head (W lf : List Nat) (j : Nat) : Nat := match lf with
 | [] => j
 | x :: _ => if j = W.length \/ W.getD x 0 <= W.getD j 0 then x else j
def tail1 (W lf : List Nat) (j : Nat) : List Nat := match lf with
 | [] => []
 | x :: l => if j = W.length \/ W.getD x 0 <= W.getD j 0 then l else x :: l
def tail2 (W lf : List Nat) (j : Nat) : Nat := match lf with
 | [] => j + 1
 | x :: l => if j = W.length \/ W.getD x 0 <= W.getD j 0 then j else j + 1
theorem head_least {W lf : List Nat} {n j : Nat} (hj : n <= j /\ j <= W.length) (hl : ∀ x ∈ lf, x < n) (hs : lf.Pairwise (lt W)) (hm : ∀ x y, n <= x -> x <= y -> y < W.length -> W.getD x 0 <= W.getD y 0)
  (hne : lf ++ List.range' j (W.length - j) ≠ []) :
  IsLeast W (lf ++ List.range' j (W.length - j)) (head W lf j) /\ ((lf ++ List.range' j (W.length - j)).erase (head W lf j)).Perm (tail1 W lf j ++ List.range' (tail2 W lf j) (W.length - tail2 W lf j)) /\
   (n <= tail2 W lf j /\ tail2 W lf j <= W.length) /\ (∀ x ∈ tail1 W lf j, x < n) /\ (tail1 W lf j).Pairwise (lt W) := by
 have hjl : ∀ y, y ∈ List.range' j (W.length - j) -> j <= y /\ y < W.length := fun y hy => by
  have := List.mem_range'_1.1 hy; omega
 have jless : j < W.length -> ∀ y, y ∈ List.range' j (W.length - j) -> y ≠ j -> lt W j y := fun h y hy hyj => by
  have h1 := hjl y hy; have h2 := hm j y hj.1 h1.1 h1.2; unfold lt; omega
 have split : j < W.length -> List.range' j (W.length - j) = j :: List.range' (j + 1) (W.length - (j + 1)) := fun h => by
  rw [show W.length - j = (W.length - (j + 1)) + 1 by omega, List.range'_succ]
 cases lf with
 | nil =>
  have hlt : j < W.length := by
   rcases Nat.lt_or_ge j W.length with h | h
   ·exact h
   ·rw [show W.length - j = 0 by omega] at hne; exact absurd rfl hne
  simp only [head, tail1, tail2, List.nil_append]; rw [split hlt]; refine ⟨⟨List.mem_cons_self .., fun y hy hyj => ?_⟩, ?_, by omega, by simp, by simp⟩
  ·rw [<- split hlt] at hy; exact jless hlt y hy hyj
  ·rw [List.erase_cons_head]
 | cons x l =>
  have hx := hl x (List.mem_cons_self ..); have hxl := (List.pairwise_cons.1 hs); simp only [head, tail1, tail2]
  by_cases hc : j = W.length \/ W.getD x 0 <= W.getD j 0
  ·rw [if_pos hc, if_pos hc, if_pos hc]; refine ⟨⟨by simp, fun y hy hyx => ?_⟩, ?_, hj, fun y hy => hl y (List.mem_cons_of_mem _ hy), hxl.2⟩
   ·rcases List.mem_append.1 hy with hy | hy
    ·rcases List.mem_cons.1 hy with hy | hy
     ·exact absurd hy hyx
     ·exact hxl.1 y hy
    ·have h1 := hjl y hy; have h2 := hm j y hj.1 h1.1 h1.2; unfold lt; omega
   ·rw [List.cons_append, List.erase_cons_head]
  ·rw [if_neg hc, if_neg hc, if_neg hc]
   have hlt : j < W.length := by omega
   have hlj : lt W j x := by unfold lt; omega
   have hnj : j ∉ x :: l := fun h => by have := hl j h; omega
   refine ⟨⟨?_, fun y hy hyx => ?_⟩, ?_, by omega, hl, hs⟩
   ·rw [split hlt]; simp
   ·rcases List.mem_append.1 hy with hy | hy
    ·rcases List.mem_cons.1 hy with hy | hy
     ·rw [hy]; exact hlj
     ·exact lt_trans hlj (hxl.1 y hy)
    ·exact jless hlt y hy hyx
   ·rw [List.erase_append_right _ hnj, split hlt, List.erase_cons_head]
theorem getD_app {W : List Nat} {v x : Nat} (h : x < W.length) : (W ++ [v]).getD x 0 = W.getD x 0 := by
 rw [List.getD_eq_getElem?_getD, List.getD_eq_getElem?_getD, List.getElem?_append_left h]
theorem getD_end {W : List Nat} {v : Nat} : (W ++ [v]).getD W.length 0 = v := by
 rw [List.getD_eq_getElem?_getD, List.getElem?_append_right (Nat.le_refl _), Nat.sub_self]; rfl
theorem lt_app {W : List Nat} {v x y : Nat} (hx : x < W.length) (hy : y < W.length) : lt (W ++ [v]) x y ↔ lt W x y := by
 unfold lt; rw [getD_app hx, getD_app hy]
theorem queue_join {n : Nat} {s : HS} {lf : List Nat} {j : Nat} (hg : Good s) (hq : Queue n s lf j) (h2 : 2 <= s.V.length) :
  ∃ s' a b, a = head s.W lf j /\ b = head s.W (tail1 s.W lf j) (tail2 s.W lf j) /\ Join s s' a b /\
   Queue n s' (tail1 s.W (tail1 s.W lf j) (tail2 s.W lf j)) (tail2 s.W (tail1 s.W lf j) (tail2 s.W lf j)) /\ a < s.W.length /\ b < s.W.length /\ a ≠ b := by
 have hlen := hq.perm.length_eq; obtain ⟨a1, a2, a3, a4, a5⟩ := head_least hq.jn hq.lfn hq.sorted hq.mono (by intro e; rw [e, List.length_nil] at hlen; omega); generalize ha : head s.W lf j = a at *; have hp1 : (s.V.erase a).Perm (tail1 s.W lf j ++ List.range' (tail2 s.W lf j) (s.W.length - tail2 s.W lf j)) := (hq.perm.erase a).trans a2; have ham : a ∈ s.V := hq.perm.mem_iff.2 a1.1; have hlen1 := hp1.length_eq; rw [List.length_erase_of_mem ham] at hlen1; generalize tail1 s.W lf j = lf1 at *; generalize tail2 s.W lf j = j1 at *; obtain ⟨b1, b2, b3, b4, b5⟩ := head_least a3 a4 a5 hq.mono (by intro e; rw [e, List.length_nil] at hlen1; omega); generalize hb : head s.W lf1 j1 = b at *; generalize tail1 s.W lf1 j1 = lf2 at *; generalize tail2 s.W lf1 j1 = j2 at *; have hbm : b ∈ s.V.erase a := hp1.mem_iff.2 b1.1; have hbv : b ∈ s.V := List.mem_of_mem_erase hbm; have hal := hg.lt a ham; have hbl := hg.lt b hbv; have hlb : IsLeast s.W (s.V.erase a) b := b1.perm hp1.symm; have hla : IsLeast s.W s.V a := a1.perm hq.perm.symm
 have j0 : Join s ⟨s.W ++ [s.W.getD a 0 + s.W.getD b 0], ((s.I.set a (some s.W.length)).set b (some s.W.length)) ++ [none], s.W.length :: (s.V.erase a).erase b⟩ a b :=
  ⟨hla, hlb, rfl, rfl, .refl _⟩
 have hne := join_ne hg j0
 have hnW : n <= s.W.length := by have := hq.jn; omega
 have hmem : ∀ x, x ∈ (s.V.erase a).erase b ↔ x ∈ s.V /\ x ≠ a /\ x ≠ b := by
  intro x; rw [(hg.nodup.erase a).mem_erase_iff, hg.nodup.mem_erase_iff]
  constructor
  ·rintro ⟨h1, h2, h3⟩; exact ⟨h3, h2, h1⟩
  ·rintro ⟨h1, h2, h3⟩; exact ⟨h3, h2, h1⟩
 have big : ∀ x, x ∈ s.V -> x ≠ a -> x ≠ b -> s.W.getD b 0 <= s.W.getD x 0 := by
  intro x hx h1 h3; have := hlb.2 x ((hg.nodup.mem_erase_iff).2 ⟨h1, hx⟩) h3; unfold lt at this; omega
 have hab : s.W.getD a 0 <= s.W.getD b 0 := by
  have := hla.2 b hbv fun e => hne e.symm; unfold lt at this; omega
 refine ⟨_, a, b, rfl, rfl, j0, ⟨?_, ?_, b4, ?_, ?_, ?_⟩, hal, hbl, hne⟩
 ·show (s.W.length :: (s.V.erase a).erase b).Perm (lf2 ++ List.range' j2 ((s.W ++ [_]).length - j2)); have hp2 : ((s.V.erase a).erase b).Perm (lf2 ++ List.range' j2 (s.W.length - j2)) := (hp1.erase b).trans b2; rw [List.length_append, List.length_singleton, show s.W.length + 1 - j2 = (s.W.length - j2) + 1 by omega, List.range'_concat, show j2 + 1 * (s.W.length - j2) = s.W.length by omega, <- List.append_assoc]; exact (hp2.cons _).trans (List.perm_append_singleton _ _).symm
 ·show n <= j2 /\ j2 <= (s.W ++ [_]).length; rw [List.length_append]; omega
 ·refine b5.imp_of_mem fun {x y} hx hy h => ?_; exact (lt_app (by have := b4 x hx; omega) (by have := b4 y hy; omega)).2 h
 ·intro x y hx hxy hy; rw [List.length_append, List.length_singleton] at hy; rcases Nat.lt_or_ge y s.W.length with h | h
  ·rw [getD_app (by omega), getD_app h]; exact hq.mono x y hx hxy h
  ·have : y = s.W.length := by omega
   subst this; rw [getD_end]; rcases Nat.lt_or_ge x s.W.length with h3 | h3
   ·rw [getD_app h3]; exact hq.sum a ham b hbv hne x hx h3
   ·rw [show x = s.W.length by omega, getD_end]; exact Nat.le_refl _
 ·intro x hx y hy hxy c hc1 hc2; rw [List.length_append, List.length_singleton] at hc2
  have hcw : (s.W ++ [s.W.getD a 0 + s.W.getD b 0]).getD c 0 <= s.W.getD a 0 + s.W.getD b 0 := by
   rcases Nat.lt_or_ge c s.W.length with h | h
   ·rw [getD_app h]; exact hq.sum a ham b hbv hne c hc1 h
   ·rw [show c = s.W.length by omega, getD_end]; exact Nat.le_refl _
  refine Nat.le_trans hcw ?_; rcases List.mem_cons.1 hx with hx | hx
  ·rw [hx, getD_end]; exact Nat.le_add_right _ _
  ·rcases List.mem_cons.1 hy with hy | hy
   ·rw [hy, getD_end]; exact Nat.le_add_left _ _
   ·obtain ⟨x1, x2, x3⟩ := (hmem x).1 hx; obtain ⟨y1, y2, y3⟩ := (hmem y).1 hy; rw [getD_app (hg.lt x x1), getD_app (hg.lt y y1)]; have := big x x1 x2 x3; have := big y y1 y2 y3; omega
theorem depth_up {s : HS} {r : Nat} {D : List Nat} (hg : Good s) (hV : s.V = [r]) (hD0 : D.getD r 0 = 0) (hD : ∀ i p, s.I[i]? = some (some p) -> D.getD i 0 = D.getD p 0 + 1) :
  ∀ m i, s.W.length - i <= m -> i < s.W.length -> Up s.I i (D.getD i 0) r := by
 intro m
 induction m with
 | zero => intro i h1 h2; omega
 | succ m ih =>
  intro i h1 h2
  by_cases hi : i = r
  ·subst hi; rw [hD0]; exact .here _
  ·obtain ⟨p, h3, h4, h5⟩ := hg.dead i h2 (by rw [hV]; simpa using hi); rw [hD i p h3]; exact .up h3 (ih p (by omega) h5)
def incL (out ls : List Nat) : List Nat := ls.foldl (fun o i => o.set i (o.getD i 0 + 1)) out
theorem incL_len : ∀ (ls out : List Nat), (incL out ls).length = out.length
 | [], out => rfl
 | i :: ls, out => by
  show (incL (out.set i (out.getD i 0 + 1)) ls).length = _; rw [incL_len ls, List.length_set]
theorem incL_get : ∀ (ls out : List Nat) (i : Nat), ls.Nodup -> (∀ x ∈ ls, x < out.length) -> (incL out ls).getD i 0 = out.getD i 0 + if i ∈ ls then 1 else 0
 | [], out, i, _, _ => by simp [incL]
 | x :: ls, out, i, hn, hl => by
  have hx := hl x (List.mem_cons_self ..); obtain ⟨h1, h2⟩ := List.nodup_cons.1 hn; show (incL (out.set x (out.getD x 0 + 1)) ls).getD i 0 = _; rw [incL_get ls _ i h2 (fun y hy => by rw [List.length_set]; exact hl y (List.mem_cons_of_mem _ hy))]
  by_cases hi : i = x
  ·subst hi; rw [if_neg h1, if_pos (List.mem_cons_self ..), List.getD_eq_getElem?_getD, List.getElem?_set_self hx]; rfl
  ·have e : (out.set x (out.getD x 0 + 1)).getD i 0 = out.getD i 0 := by
    rw [List.getD_eq_getElem?_getD, List.getElem?_set_ne (fun e => hi e.symm), <- List.getD_eq_getElem?_getD]
   rw [e]; simp [hi]
structure Forest (n : Nat) (s : HS) (l : List (Nat × List Nat)) (out : List Nat) : Prop where
 perm : (l.map (·.1)).Perm s.V
 leaves : (l.flatMap (·.2)).Perm (List.range n)
 up : ∀ t ∈ l, ∀ i ∈ t.2, Up s.I i (out.getD i 0) t.1
 len : out.length = n
theorem forest0 (w : List Nat) : Forest w.length (h0 w) ((List.range w.length).map fun i => (i, [i])) (List.replicate w.length 0) := by
 refine ⟨?_, ?_, ?_, by simp⟩
 ·rw [List.map_map]
  have : (List.range w.length).map ((fun t : Nat × List Nat => t.1) ∘ fun i => (i, [i])) = List.range w.length := by
   rw [show ((fun t : Nat × List Nat => t.1) ∘ fun i => (i, [i])) = id from rfl, List.map_id]
  rw [this]; exact .refl _
 ·rw [List.flatMap_map]; rw [show (fun i : Nat => ((i, [i]) : Nat × List Nat).2) = fun i => [i] from rfl, List.flatMap_singleton']
 ·intro t ht i hi; obtain ⟨x, hx, rfl⟩ := List.mem_map.1 ht
  have : i = x := by simpa using hi
  subst this; have hx := List.mem_range.1 hx; rw [List.getD_eq_getElem?_getD, List.getElem?_replicate, if_pos hx]; exact .here _
theorem forest_join {n : Nat} {s s' : HS} {l l1 l2 : List (Nat × List Nat)} {out : List Nat} {x y : Nat × List Nat} (hg : Good s) (hf : Forest n s l out) (h1 : l.Perm (x :: l1)) (h2 : l1.Perm (y :: l2)) (j : Join s s' x.1 y.1) :
  Forest n s' (l2 ++ [(s.W.length, x.2 ++ y.2)]) (incL out (x.2 ++ y.2)) := by
 have hp : l.Perm (x :: y :: l2) := h1.trans (h2.cons _)
 have hfl : (x.2 ++ (y.2 ++ l2.flatMap (·.2))).Perm (List.range n) := by
  refine List.Perm.trans ?_ hf.leaves; have := (hp.flatMap_right (·.2)).symm; simpa using this
 have hnd : (x.2 ++ (y.2 ++ l2.flatMap (·.2))).Nodup := hfl.nodup_iff.2 List.nodup_range
 have hnd2 : (x.2 ++ y.2).Nodup := by
  rw [<- List.append_assoc] at hnd; exact (List.nodup_append.1 hnd).1
 have hlt : ∀ i ∈ x.2 ++ y.2, i < out.length := fun i hi => by
  rw [hf.len]
  have : i ∈ List.range n := hfl.mem_iff.1 (by
   rw [<- List.append_assoc]
   exact List.mem_append_left _ hi)
  exact List.mem_range.1 this
 have hxm : x ∈ l := hp.mem_iff.2 (List.mem_cons_self ..); have hym : y ∈ l := hp.mem_iff.2 (List.mem_cons_of_mem _ (List.mem_cons_self ..)); have hne := join_ne hg j; have hbm := List.mem_of_mem_erase j.lb.1
 have hIx : s'.I[x.1]? = some (some s.W.length) := by
  have hx := hg.lt _ j.la.1; rw [j.I, List.getElem?_append_left (by rw [List.length_set, List.length_set, hg.len]; exact hx), List.getElem?_set_ne (fun e => hne e.symm), List.getElem?_set_self (by rw [hg.len]; exact hx)]
 have hIy : s'.I[y.1]? = some (some s.W.length) := by
  have hy := hg.lt _ hbm; rw [j.I, List.getElem?_append_left (by rw [List.length_set, List.length_set, hg.len]; exact hy), List.getElem?_set_self (by rw [List.length_set, hg.len]; exact hy)]
 refine ⟨?_, ?_, ?_, by rw [incL_len, hf.len]⟩
 ·rw [List.map_append, List.map_cons, List.map_nil]; refine List.Perm.trans (List.perm_append_singleton _ _) (List.Perm.trans ?_ j.V.symm); refine .cons _ ?_; have h3 : (x.1 :: y.1 :: l2.map (·.1)).Perm s.V := (by simpa using (hp.map (·.1)).symm : (x.1 :: y.1 :: l2.map (·.1)).Perm (l.map (·.1))).trans hf.perm; have h4 := (h3.erase x.1).erase y.1; rw [List.erase_cons_head, List.erase_cons_head] at h4; exact h4
 ·rw [List.flatMap_append]; simp only [List.flatMap_cons, List.flatMap_nil, List.append_nil]; refine List.Perm.trans List.perm_append_comm ?_; rw [List.append_assoc]; exact hfl
 ·intro t ht i hi; rw [incL_get _ _ _ hnd2 hlt]; rcases List.mem_append.1 ht with ht | ht
  ·have hni : i ∉ x.2 ++ y.2 := by
    intro h; rw [<- List.append_assoc] at hnd; exact (List.nodup_append.1 hnd).2.2 i h i (List.mem_flatMap.2 ⟨t, ht, hi⟩) rfl
   rw [if_neg hni, Nat.add_zero]; have htl : t ∈ l := hp.mem_iff.2 (List.mem_cons_of_mem _ (List.mem_cons_of_mem _ ht)); exact (hf.up t htl i hi).join hg j
  ·have e := List.mem_singleton.1 ht; subst e; rw [if_pos hi]; rcases List.mem_append.1 hi with h | h
   ·exact ((hf.up x hxm i h).join hg j).snoc hIx
   ·exact ((hf.up y hym i h).join hg j).snoc hIy
def Tot (s : HS) : Nat := (s.V.map fun x => s.W.getD x 0).sum
theorem sum_perm {l l2 : List Nat} (p : l.Perm l2) : l.sum = l2.sum := by
 induction p with
 | nil => rfl
 | cons x _ ih => rw [List.sum_cons, List.sum_cons, ih]
 | swap x y l => rw [List.sum_cons, List.sum_cons, List.sum_cons, List.sum_cons]; omega
 | trans _ _ h1 h2 => rw [h1, h2]
theorem tot_two {s : HS} {a b : Nat} (ha : a ∈ s.V) (hb : b ∈ s.V.erase a) : Tot s = s.W.getD a 0 + s.W.getD b 0 + (((s.V.erase a).erase b).map fun x => s.W.getD x 0).sum := by
 unfold Tot; rw [sum_perm ((List.perm_cons_erase ha).map _), List.map_cons, List.sum_cons, sum_perm ((List.perm_cons_erase hb).map _), List.map_cons, List.sum_cons]; omega
theorem tot_join {s s' : HS} {a b : Nat} (hg : Good s) (j : Join s s' a b) : Tot s' = Tot s := by
 rw [tot_two j.la.1 j.lb.1]; unfold Tot; rw [sum_perm (j.V.map _), List.map_cons, List.sum_cons, j.W, getD_end]
 congr 1
 congr 1
 refine List.map_congr_left fun x hx => getD_app (hg.lt x ?_); exact List.mem_of_mem_erase (List.mem_of_mem_erase hx)
theorem tot0 {w : List Nat} {m : Nat} (h : ∀ x ∈ w, x <= m) : Tot (h0 w) <= w.length * m := by
 have : ∀ l : List Nat, (∀ x ∈ l, x < w.length) -> (l.map fun x => w.getD x 0).sum <= l.length * m := by
  intro l
  induction l with
  | nil => intro _; simp
  | cons x l ih =>
   intro hl; have h1 := ih fun y hy => hl y (List.mem_cons_of_mem _ hy); have hx := hl x (List.mem_cons_self ..)
   have h2 : w.getD x 0 <= m := by
    rw [List.getD_eq_getElem?_getD, List.getElem?_eq_getElem hx]; exact h _ (List.getElem_mem hx)
   rw [List.map_cons, List.sum_cons, List.length_cons, Nat.succ_mul]; omega
 have := this (List.range w.length) fun x hx => List.mem_range.1 hx; rw [List.length_range] at this; exact this
theorem queue0 {w lf : List Nat} (p : lf.Perm (List.range w.length)) (hs : lf.Pairwise (lt w)) : Queue w.length (h0 w) lf w.length := by
 refine ⟨?_, ⟨Nat.le_refl _, Nat.le_refl _⟩, fun x hx => List.mem_range.1 (p.mem_iff.1 hx), hs, fun x y h1 h2 h3 => ?_, fun x _ y _ _ c h1 h2 => ?_⟩
 ·show (List.range w.length).Perm (lf ++ List.range' w.length (w.length - w.length)); rw [Nat.sub_self, List.range'_zero, List.append_nil]; exact p.symm
 ·have : y < w.length := h3; omega
 ·have : c < w.length := h2; omega
theorem incL_le : ∀ (ls out : List Nat) (y : Nat), (incL out ls).getD y 0 <= out.getD y 0 + ls.length
 | [], out, y => Nat.le_refl _
 | x :: ls, out, y => by
  have h := incL_le ls (out.set x (out.getD x 0 + 1)) y
  have h2 : (out.set x (out.getD x 0 + 1)).getD y 0 <= out.getD y 0 + 1 := by
   rw [List.getD_eq_getElem?_getD, List.getElem?_set]; split
   ·rename_i e; subst e; split
    ·exact Nat.le_refl _
    ·exact Nat.zero_le _
   ·rw [<- List.getD_eq_getElem?_getD]; exact Nat.le_succ _
  show (incL (out.set x (out.getD x 0 + 1)) ls).getD y 0 <= _; rw [List.length_cons]; omega
theorem incL_snoc (out ls : List Nat) (x : Nat) : incL out (ls ++ [x]) = (incL out ls).set x ((incL out ls).getD x 0 + 1) := by
 unfold incL; rw [List.foldl_append]; rfl
end Go.Mh
namespace Go.Mr
open Go.M18
variable {s : List UInt8} {x : SS} {k : Key} {n : Nat}
theorem join_reach (x : SS) : (joinS x).reach = x.reach := by
 unfold joinS; split
 ·rfl
 ·split <;> rfl
theorem step_cases (k : Key) (n : Nat) (x : SS) : (stepS k n x).reach = x.reach \/ ((stepS k n x).stack = [⟨0, 0, n⟩] /\ (stepS k n x).merge.hi = 0 /\ (stepS k n x).ranked = 0 /\ x.reach < n /\ (stepS k n x).reach = max 1 (2 * x.reach)) := by
 unfold stepS; rw [<- join_reach x]; generalize joinS x = y; unfold restS; split
 ·exact .inl rfl
 ·split
  ·refine .inl ?_; unfold putS moveS; split
   ·split <;> rfl
   ·split <;> rfl
  ·rename_i h2; split
   ·refine .inl ?_; unfold beginS; split
    ·rfl
    ·split <;> rfl
   ·rename_i h3; have hs : y.stack = [] := Classical.byContradiction h3; unfold rankS; split
    ·unfold passS; split
     ·exact .inl rfl
     ·rename_i h4; refine .inr ⟨?_, ?_, rfl, ?_, rfl⟩
      ·show _ :: y.stack = _; rw [hs]
      ·show y.merge.hi = 0; omega
      ·rcases Nat.lt_or_ge y.reach n with g | g
       ·exact g
       ·exact absurd (.inr g) h4
    ·exact .inl rfl
def ldS (n : Nat) (x : SS) : Nat := costs x.stack + mCost x + (n - x.ranked)
theorem step_load (h : Inv s x) (hl : ldS s.length x <= 4 * (s.length * s.length) + s.length) (hr : x.reach <= 2 * s.length) (hd : (stepS (keyS s x) s.length x).done = false) :
  ldS s.length (stepS (keyS s x) s.length x) <= 4 * (s.length * s.length) + s.length /\ (stepS (keyS s x) s.length x).reach <= 2 * s.length := by
 have h1 := (step_ok h).1; have h2 := h.bs.two; rw [mu_eq h.bs.nd, mu_eq hd] at h1; rcases step_cases (keyS s x) s.length x with e | ⟨e1, e2, e3, e4, e5⟩
 ·rw [e] at h1 ⊢; unfold ldS at *; exact ⟨by omega, hr⟩
 ·refine ⟨?_, by rw [e5]; omega⟩; unfold ldS; rw [mCost_no e2, e1, e3]
  have : costs [⟨0, 0, s.length⟩] = 4 * (s.length * s.length) := by
   show cost ⟨0, 0, s.length⟩ + 0 = _; unfold cost; rw [if_pos rfl]; rfl
  omega
theorem wf_mem : ∀ {st : List Pt} {R : List Nat}, WF k n st R -> ∀ p ∈ st, p.lo < p.hi /\ p.hi <= n
 | [], _, _, p, hp => by cases hp
 | q :: st, R, h, p, hp => by
  rcases List.mem_cons.1 hp with rfl | hp
  ·exact h.1
  ·exact wf_mem h.2.2 p hp
theorem len_costs : ∀ {st : List Pt}, (∀ p ∈ st, p.lo < p.hi /\ p.hi <= n) -> st.length <= costs st
 | [], _ => Nat.le_refl _
 | p :: st, h => by
  have h1 := h p (List.mem_cons_self ..); have h2 := len_costs (st := st) fun q hq => h q (List.mem_cons_of_mem _ hq)
  have h3 : 1 <= cost p := by
   unfold cost; split
   ·have : 1 <= (p.hi - p.lo) * (p.hi - p.lo) := Nat.mul_pos (by omega) (by omega); omega
   ·omega
  show st.length + 1 <= cost p + costs st; omega
theorem stack_wf (h : PhC k n x) : ∀ p ∈ x.stack, p.lo < p.hi /\ p.hi <= n := by
 rcases h with h | ⟨R, h⟩
 ·exact wf_mem h.wf
 ·exact fun p hp => wf_mem h.wf p (List.mem_cons_of_mem _ hp)
theorem stack_len (h : PhC k n x) (hl : ldS n x <= 4 * (n * n) + n) (hn : n <= 4000) : x.stack.length <= 64004000 := by
 have h1 := len_costs (stack_wf h); have h2 : n * n <= 4000 * 4000 := Nat.mul_le_mul hn hn; unfold ldS at hl; omega
theorem load_start : ldS n (start n) = 4 * (n * n) + n := by
 show cost ⟨0, 0, n⟩ + 0 + 0 + (n - 0) = _; unfold cost; rw [if_pos rfl]; show 4 * ((n - 0) * (n - 0)) + 0 + 0 + (n - 0) = _; rw [Nat.sub_zero]; rfl
end Go.Mr
namespace Go.Mh
def fib : Nat -> Nat
 | 0 => 0
 | 1 => 1
 | n + 2 => fib (n + 1) + fib n
theorem fib_step : ∀ n, fib n <= fib (n + 1)
 | 0 => by decide
 | n + 1 => by show fib (n + 1) <= fib (n + 1) + fib n; omega
theorem fib_mono {m n : Nat} (h : m <= n) : fib m <= fib n := by
 induction h with
 | refl => exact Nat.le_refl _
 | step _ ih => exact Nat.le_trans ih (fib_step _)
theorem join_get {s s' : HS} {a b x p : Nat} (hg : Good s) (j : Join s s' a b) (h : s'.I[x]? = some (some p)) : ((x = a \/ x = b) /\ p = s.W.length) \/ (s.I[x]? = some (some p) /\ p < s.W.length) := by
 have hl : ((s.I.set a (some s.W.length)).set b (some s.W.length)).length = s.W.length := by rw [List.length_set, List.length_set, hg.len]
 rw [j.I] at h
 have hx : x < s.W.length := by
  rcases Nat.lt_or_ge x s.W.length with q | q
  ·exact q
  ·rw [List.getElem?_append_right (by rw [hl]; exact q), hl] at h
   cases hxx : x - s.W.length with
   | zero => rw [hxx] at h; cases h
   | succ n => rw [hxx] at h; simp at h
 rw [List.getElem?_append_left (by rw [hl]; exact hx), List.getElem?_set, List.getElem?_set] at h
 by_cases h1 : b = x
 ·rw [if_pos h1, if_pos (by rw [List.length_set, hg.len]; omega)] at h; cases h; exact .inl ⟨.inr h1.symm, rfl⟩
 ·rw [if_neg h1] at h
  by_cases h2 : a = x
  ·rw [if_pos h2, if_pos (by rw [hg.len]; omega)] at h; cases h; exact .inl ⟨.inl h2.symm, rfl⟩
  ·rw [if_neg h2] at h
   have hn : x ∉ s.V := fun e => by rw [hg.live x e] at h; cases h
   obtain ⟨p', h3, h4, h5⟩ := hg.dead x hx hn; rw [h] at h3; cases h3; exact .inr ⟨h, h5⟩
theorem no_up {s : HS} {k y : Nat} (hg : Good s) (hy : y < s.W.length) : ¬ Up s.I s.W.length k y := by
 intro h
 cases h with
 | here => exact Nat.lt_irrefl _ hy
 | up h u =>
  have := (List.getElem?_eq_some_iff.1 h).1; rw [hg.len] at this; exact Nat.lt_irrefl _ this
theorem up_back {s s' : HS} {a b i k x : Nat} (hg : Good s) (j : Join s s' a b) (h : Up s'.I i k x) :
  (x ≠ s.W.length -> x < s.W.length -> Up s.I i k x) /\ (x = s.W.length -> (k = 0 /\ i = s.W.length) \/ ∃ q, k = q + 1 /\ (Up s.I i q a \/ Up s.I i q b)) := by
 have ha := hg.lt a j.la.1; have hb := hg.lt b (List.mem_of_mem_erase j.lb.1)
 induction h with
 | here x => exact ⟨fun _ _ => .here x, fun e => .inl ⟨rfl, e⟩⟩
 | up h u ih =>
  rename_i x p k y; obtain ⟨i1, i2⟩ := ih; have hc := join_get hg j h
  constructor
  ·intro h1 h2; have u1 := i1 h1 h2; rcases hc with ⟨_, rfl⟩ | ⟨h3, _⟩
   ·exact absurd u1 (no_up hg h2)
   ·exact .up h3 u1
  ·intro h1; right; rcases i2 h1 with ⟨rfl, rfl⟩ | ⟨q, rfl, hq⟩
   ·rcases hc with ⟨h3 | h3, _⟩ | ⟨_, h4⟩
    ·exact ⟨0, rfl, .inl (h3 ▸ .here _)⟩
    ·exact ⟨0, rfl, .inr (h3 ▸ .here _)⟩
    ·exact absurd h4 (Nat.lt_irrefl _)
   ·rcases hc with ⟨_, rfl⟩ | ⟨h3, _⟩
    ·rcases hq with hq | hq
     ·exact absurd hq (no_up hg ha)
     ·exact absurd hq (no_up hg hb)
    ·exact ⟨q + 1, rfl, hq.imp (Up.up h3) (Up.up h3)⟩
structure Hts (s : HS) (h : Nat -> Nat) : Prop where
 up : ∀ x ∈ s.V, ∀ i k, Up s.I i k x -> k <= h x
 wt : ∀ x ∈ s.V, fib (h x + 1) <= s.W.getD x 0
 lo : ∀ x ∈ s.V, ∀ y ∈ s.V, 1 <= h x -> fib (h x) <= s.W.getD y 0
theorem hts0 {w : List Nat} (hw : ∀ x ∈ w, 1 <= x) : Hts (h0 w) (fun _ => 0) := by
 refine ⟨fun x hx i k u => ?_, fun x hx => ?_, fun x _ y _ h => absurd h (by decide)⟩
 ·cases u with
  | here => exact Nat.le_refl _
  | up h u =>
   exfalso; unfold h0 at h; simp only [List.getElem?_replicate] at h
   split at h <;> cases h
 ·have hx : x < w.length := List.mem_range.1 hx; show 1 <= w.getD x 0; rw [List.getD_eq_getElem?_getD, List.getElem?_eq_getElem hx]; exact hw _ (List.getElem_mem hx)
theorem hts_join {s s' : HS} {a b : Nat} {h : Nat -> Nat} (hg : Good s) (j : Join s s' a b) (H : Hts s h) : ∃ h', Hts s' h' := by
 have ha := j.la.1; have hb : b ∈ s.V := List.mem_of_mem_erase j.lb.1; have hal := hg.lt a ha; have hbl := hg.lt b hb; have hne := join_ne hg j
 have hV : ∀ x, x ∈ s'.V -> x = s.W.length \/ (x ∈ s.V /\ x ≠ s.W.length /\ x < s.W.length) := by
  intro x hx; rcases List.mem_cons.1 (j.V.mem_iff.1 hx) with h1 | h1
  ·exact .inl h1
  ·have h2 := List.mem_of_mem_erase (List.mem_of_mem_erase h1); have := hg.lt x h2; exact .inr ⟨h2, by omega, this⟩
 have hT : s'.W.getD s.W.length 0 = s.W.getD a 0 + s.W.getD b 0 := by rw [j.W, getD_end]
 have hW : ∀ x, x < s.W.length -> s'.W.getD x 0 = s.W.getD x 0 := fun x hx => by rw [j.W, getD_app hx]
 have ab : s.W.getD a 0 <= s.W.getD b 0 := by
  have := j.la.2 b hb fun e => hne e.symm; unfold lt at this; omega
 have least : ∀ y ∈ s.V, s.W.getD a 0 <= s.W.getD y 0 := by
  intro y hy
  by_cases e : y = a
  ·rw [e]; exact Nat.le_refl _
  ·have := j.la.2 y hy e; unfold lt at this; omega
 have least2 : ∀ y ∈ s'.V, y ≠ s.W.length -> s.W.getD b 0 <= s.W.getD y 0 := by
  intro y hy hyl; rcases List.mem_cons.1 (j.V.mem_iff.1 hy) with h1 | h1
  ·exact absurd h1 hyl
  ·have h2 := ((hg.nodup.erase a).mem_erase_iff).1 h1; have := j.lb.2 y h2.2 h2.1; unfold lt at this; omega
 have wa := H.wt a ha; have wb := H.wt b hb
 have lab : ∀ x ∈ s.V, ∀ y ∈ s.V, fib (h x) <= s.W.getD y 0 := by
  intro x hx y hy
  cases e : h x with
  | zero => exact Nat.zero_le _
  | succ n => rw [<- e]; exact H.lo x hx y hy (by omega)
 have f2 : ∀ n, fib (n + 2) = fib (n + 1) + fib n := fun _ => rfl; have hA := lab a ha b hb; have hB := lab b hb a ha; refine ⟨fun x => if x = s.W.length then max (h a) (h b) + 1 else h x, ?_, ?_, ?_⟩
 ·intro x hx i k u; obtain ⟨u1, u2⟩ := up_back hg j u; rcases hV x hx with e | ⟨h1, h2, h3⟩
  ·simp only [if_pos e]; rcases u2 e with ⟨rfl, _⟩ | ⟨q, rfl, hq | hq⟩
   ·exact Nat.zero_le _
   ·have := H.up a ha i q hq; omega
   ·have := H.up b hb i q hq; omega
  ·simp only [if_neg h2]; exact H.up x h1 i k (u1 h2 h3)
 ·intro x hx; rcases hV x hx with e | ⟨h1, h2, h3⟩
  ·simp only [if_pos e]; rw [e, hT]; rcases Nat.le_total (h a) (h b) with q | q
   ·rw [Nat.max_eq_right q, f2]; omega
   ·rw [Nat.max_eq_left q, f2]; omega
  ·simp only [if_neg h2]; rw [hW x h3]; exact H.wt x h1
 ·intro x hx y hy hx1
  have wy : ∀ z, fib (h z + 1) <= s.W.getD z 0 -> (z = a \/ z = b) -> fib (h z + 1) <= s'.W.getD y 0 := by
   intro z hz hzab; rcases hV y hy with e | ⟨h1, h2, h3⟩
   ·rw [e, hT]
    rcases hzab with rfl | rfl <;> omega
   ·rw [hW y h3]; have := least2 y hy h2
    rcases hzab with rfl | rfl <;> omega
  rcases hV x hx with e | ⟨h1, h2, h3⟩
  ·simp only [if_pos e]; rcases Nat.le_total (h a) (h b) with q | q
   ·rw [Nat.max_eq_right q]; exact wy b wb (.inr rfl)
   ·rw [Nat.max_eq_left q]; exact wy a wa (.inl rfl)
  ·simp only [if_neg h2] at hx1 ⊢; rcases hV y hy with e | ⟨h4, h5, h6⟩
   ·rw [e, hT]; have := H.lo x h1 a ha hx1; omega
   ·rw [hW y h6]; exact H.lo x h1 y h4 hx1
theorem hts_joins {w : List Nat} (hw : ∀ x ∈ w, 1 <= x) {k : Nat} {s : HS} (h : Joins (h0 w) k s) : (∃ f, Hts s f) /\ Tot s = Tot (h0 w) := by
 induction h with
 | start => exact ⟨⟨_, hts0 hw⟩, rfl⟩
 | next h j ih =>
  obtain ⟨⟨f, hf⟩, ht⟩ := ih; have hg := (joins_good h).1; exact ⟨hts_join hg j hf, (tot_join hg j).trans ht⟩
theorem depths_small {w out : List Nat} (hw : ∀ x ∈ w, 1 <= x /\ x <= 2) (hl : w.length <= 258) (h : Depths w out) : ∀ x ∈ out, x <= 20 := by
 obtain ⟨s, r, hj, hr, hlen, hu⟩ := h; obtain ⟨⟨f, hf⟩, ht⟩ := hts_joins (fun x hx => (hw x hx).1) hj; intro x hx; obtain ⟨i, hi, rfl⟩ := List.getElem_of_mem hx; have h1 := hu i (by omega); rw [List.getD_eq_getElem?_getD, List.getElem?_eq_getElem hi] at h1
 have hrm : r ∈ s.V := by rw [hr]; exact List.mem_singleton.2 rfl
 have h2 := hf.up r hrm i _ h1; have h3 := hf.wt r hrm
 have h4 : s.W.getD r 0 = Tot s := by unfold Tot; rw [hr]; simp
 have h5 := tot0 (m := 2) fun x hx => (hw x hx).2
 have h6 : f r + 1 < 15 := by
  rcases Nat.lt_or_ge (f r + 1) 15 with q | q
  ·exact q
  ·have h7 := fib_mono q
   have h8 : fib 15 = 610 := by decide
   omega
 have h9 : out[i] <= f r := h2; omega
def halved (w : List Nat) : List Nat := w.map fun x => x / 2 + 1
inductive LensOf : List Nat -> List Nat -> Prop
 | fit {w out : List Nat} (h : Depths w out) (hl : ∀ x ∈ out, x <= 20) : LensOf w out
 | more {w l out : List Nat} (h : Depths w l) (hl : ¬ ∀ x ∈ l, x <= 20) (r : LensOf (halved w) out) : LensOf w out
theorem LensOf.uniq {w o : List Nat} (h : LensOf w o) : ∀ {o2 : List Nat}, LensOf w o2 -> o = o2 := by
 induction h with
 | fit h hl =>
  intro o2 h2
  cases h2 with
  | fit h' hl' => exact h.uniq h'
  | more h' hl' r => exact absurd (h.uniq h' ▸ hl) hl'
 | more h hl r ih =>
  intro o2 h2
  cases h2 with
  | fit h' hl' => exact absurd (h.uniq h' ▸ hl') hl
  | more h' hl' r' => exact ih r'
theorem halved_le : ∀ (w : List Nat), (∀ x ∈ w, 1 <= x) -> (halved w).sum <= w.sum
 | [], _ => Nat.le_refl _
 | x :: w, h => by
  have h1 := halved_le w fun y hy => h y (List.mem_cons_of_mem _ hy); have h2 := h x (List.mem_cons_self ..); show ((x / 2 + 1) :: halved w : List Nat).sum <= _; rw [List.sum_cons, List.sum_cons]; omega
theorem halved_lt : ∀ (w : List Nat), (∀ x ∈ w, 1 <= x) -> (¬ ∀ x ∈ w, x <= 2) -> (halved w).sum < w.sum
 | [], _, h => absurd (by simp) h
 | x :: w, h, hn => by
  have h2 := h x (List.mem_cons_self ..); have h3 : ∀ y ∈ w, 1 <= y := fun y hy => h y (List.mem_cons_of_mem _ hy); show ((x / 2 + 1) :: halved w : List Nat).sum < _; rw [List.sum_cons, List.sum_cons]
  by_cases hx : x <= 2
  ·have := halved_lt w h3 fun e => hn fun y hy => by
    rcases List.mem_cons.1 hy with rfl | hy
    ·exact hx
    ·exact e y hy
   omega
  ·have := halved_le w h3; omega
theorem halved_in {w : List Nat} {m : Nat} (hm : 1 <= m) (h : ∀ x ∈ w, 1 <= x /\ x <= m) : ∀ x ∈ halved w, 1 <= x /\ x <= m := by
 intro x hx; obtain ⟨y, hy, rfl⟩ := List.mem_map.1 hx; have := h y hy; omega
theorem exists_least {p : Nat -> Prop} (h : ∃ n, p n) : ∃ n, p n /\ ∀ m, p m -> n <= m := by
 obtain ⟨n, hn⟩ := h
 induction n using Nat.strongRecOn with
 | ind n ih =>
  by_cases q : ∃ m, m < n /\ p m
  ·obtain ⟨m, h1, h2⟩ := q; exact ih m h1 h2
  ·exact ⟨n, hn, fun m hm => Nat.le_of_not_lt fun h => q ⟨m, h, hm⟩⟩
theorem depths_pos {w out : List Nat} (hw : 2 <= w.length) (h : Depths w out) : ∀ x ∈ out, 1 <= x := by
 obtain ⟨s, r, hj, hr, hlen, hu⟩ := h; intro x hx; obtain ⟨i, hi, rfl⟩ := List.getElem_of_mem hx; have h1 := hu i (by omega); rw [List.getD_eq_getElem?_getD, List.getElem?_eq_getElem hi] at h1
 have h2 : w.length <= r := by
  obtain ⟨k, hk⟩ : ∃ k, w.length - 1 = k + 1 := ⟨w.length - 2, by omega⟩; rw [hk] at hj
  cases hj with
  | next h j =>
   have h3 := j.V.mem_iff.2 (List.mem_cons_self ..); rw [hr] at h3; have h4 := List.mem_singleton.1 h3; have := (joins_good h).2.2; omega
 have h3 : Up s.I i out[i] r := h1; generalize out[i] = y at *
 cases h3 with
 | here => omega
 | up _ _ => omega
end Go.Mh
namespace Go.Proofs.YtgaiocpkjaaphaaGreatDoor
open Go Go.Vc
open Classical in
theorem r_loop0n {w : World} {body : (Nat -> Value) -> Cur 0 -> Cur 0} (I : Nat -> World -> Prop) (n0 : Nat) (h0 : I n0 w)
  (h : ∀ jb n w (k : Cur 0), I n w -> (∀ m w', m < n -> I m w' -> k w') -> body jb k w) : VLoop 0 [] w body := by
 refine r_loop0 (fun w' => ∃ n, I n w') (fun w' => if h : ∃ n, I n w' then Classical.choose (Mh.exists_least h) else 0) ⟨n0, h0⟩ ?_; intro jb w1 hx; have e1 := Classical.choose_spec (Mh.exists_least hx); refine h jb _ w1 _ e1.1 fun m w' hm hI => ⟨⟨m, hI⟩, ?_⟩; have hx' : ∃ n, I n w' := ⟨m, hI⟩; have e2 := Classical.choose_spec (Mh.exists_least hx'); show dite _ _ _ < dite _ _ _; rw [dif_pos hx, dif_pos hx']; exact Nat.lt_of_le_of_lt (e2.2 m hI) hm
open Classical in
theorem r_loop2n {w : World} {a b : Value} {body : (Nat -> Value) -> Cur 2 -> Cur 2} (I : Nat -> Value -> Value -> World -> Prop) (n0 : Nat) (h0 : I n0 a b w)
  (h : ∀ jb n x y w (k : Cur 2), I n x y w -> (∀ m x' y' w', m < n -> I m x' y' w' -> k x' y' w') -> body jb k x y w) : VLoop 2 [a, b] w body := by
 refine r_loop2 (fun x y w' => ∃ n, I n x y w') (fun x y w' => if h : ∃ n, I n x y w' then Classical.choose (Mh.exists_least h) else 0) ⟨n0, h0⟩ ?_; intro jb x y w1 hx; have e1 := Classical.choose_spec (Mh.exists_least hx); refine h jb _ x y w1 _ e1.1 fun m x' y' w' hm hI => ⟨⟨m, hI⟩, ?_⟩; have hx' : ∃ n, I n x' y' w' := ⟨m, hI⟩; have e2 := Classical.choose_spec (Mh.exists_least hx'); show dite _ _ _ < dite _ _ _; rw [dif_pos hx, dif_pos hx']; exact Nat.lt_of_le_of_lt (e2.2 m hI) hm
end Go.Proofs.YtgaiocpkjaaphaaGreatDoor
namespace Go.Ev
open Go Go.Vc
variable {P : Program} {w w' : World}
theorem add_off {b o n : Nat} : (⟨b, o, none⟩ : Addr).add n = ⟨b, o + n, none⟩ := by
 unfold Addr.add; split
 ·rename_i h; rw [h]; rfl
 ·rfl
inductive Xt where
 | idx | cnt | noEsc | mkNo | idxB
def nmX : Xt -> String
 | .idx => "internal/bytealg.IndexByteString"
 | .cnt => "internal/bytealg.CountString"
 | .noEsc => "internal/abi.NoEscape"
 | .mkNo => "internal/bytealg.MakeNoZero"
 | .idxB => "internal/bytealg.IndexByte"
def extF (fn : Func) (k : Xt) : Bool := match fn.name == nmX k with
 | true => (match fn.origin == "" with
  | true => true
  | false => fn.origin == nmX k)
 | false => false
def extK (P : Program) (f : FuncId) : Option (Func × Xt) := match P.funcs[f]? with
 | some fn => (match fn.body with
  | some _ => none
  | none => (match extF fn .idx, extF fn .cnt, extF fn .noEsc, extF fn .mkNo, extF fn .idxB with
   | true, _, _, _, _ => some (fn, .idx)
   | _, true, _, _, _ => some (fn, .cnt)
   | _, _, true, _, _ => some (fn, .noEsc)
   | _, _, _, true, _ => some (fn, .mkNo)
   | _, _, _, _, true => some (fn, .idxB)
   | _, _, _, _, _ => none))
 | none => none
theorem extK_ok {f : FuncId} {fn : Func} {k : Xt} (h : extK P f = some (fn, k)) : P.funcs[f]? = some fn /\ fn.body = none /\ extF fn k = true := by
 unfold extK at h; split at h
 ·rename_i fn' hf; split at h
  ·cases h
  ·rename_i hb
   split at h <;> first | (simp only [Option.some.injEq, Prod.mk.injEq] at h; obtain ⟨rfl, rfl⟩ := h; exact ⟨hf, hb, by assumption⟩) | cases h
 ·cases h
theorem extF_name {fn : Func} {k : Xt} (h : extF fn k = true) : fn.name = nmX k ∧ (fn.origin = "" ∨ fn.origin = nmX k) := by
 unfold extF at h; split at h
 ·rename_i h1; split at h
  ·rename_i h2; exact ⟨by simpa using h1, .inl (by simpa using h2)⟩
  ·exact ⟨by simpa using h1, .inr (by simpa using h)⟩
 ·cases h
theorem next_none (k : Xt) {fn : Func} (h : extF fn k = true) : Extern.findNext fn = none := by
 obtain ⟨h1, h2⟩ := extF_name h; unfold Extern.findNext
 rcases h2 with h2 | h2 <;> rw [h1, h2] <;> cases k <;> rfl
theorem find_idxB {fn : Func} (h : extF fn .idxB = true) : Extern.find fn = some Extern.BytealgIndexByte.indexByte := by
 unfold Extern.find; rw [(extF_name h).1]; rfl
theorem callExt {f : FuncId} {fn : Func} {k : Xt} {args : Array Value} {e : Array Value -> Sem Value} {v : Value} (h : extK P f = some (fn, k)) (he : Extern.find fn = some e) (hr : (e args).run P w = .ok v w') : isExt P f = true /\ (callFunc f args).run P w = .ok (.value v) w' := by
 obtain ⟨h1, h2, h3⟩ := extK_ok h; refine ⟨by simp only [isExt, h1, h2]; rfl, ?_⟩
 have hn : (fn.name == "runtime.NumGoroutine") = false := by rw [(extF_name h3).1]; cases k <;> rfl
 rw [run_callFunc_extern h1 hn (by rw [h2]; rfl) (next_none k h3) he, hr]; rfl
theorem run_loadBytes {b : Nat} : ∀ (l : List Nat) (o : Nat) (acc : ByteArray), (∀ (i : Nat) (n : Nat), l[i]? = some n -> w.cell? ⟨b, o + i, none⟩ = some (.int .u8 (n : Int))) ->
  (Extern.Bytes.loadBytes ⟨b, o, none⟩ l.length acc).run P w = .ok ⟨acc.data ++ (l.map UInt8.ofNat).toArray⟩ w
 | [], o, acc, h => by
  show Result.ok acc w = _; simp
 | n :: l, o, acc, h => by
  show (Extern.Bytes.loadBytes ⟨b, o, none⟩ (l.length + 1) acc).run P w = _; unfold Extern.Bytes.loadBytes; rw [Sem.run_bind, run_load1 (show w.cell? ⟨b, o, none⟩ = _ from h 0 n rfl)]; simp only [Result.andThen_ok]; rw [add_off]
  have := run_loadBytes l (o + 1) (acc.push ((n : Int).toNat.toUInt8)) fun i m hi => by
   rw [show o + 1 + i = o + (i + 1) by omega]; exact h (i + 1) m hi
  rw [this]
  congr 1
  apply ba_ext; simp
theorem idxB_of {x y c : Value} {s : ByteArray} (h1 : (Extern.Bytes.bytesOf x).run P w = .ok s w) (h2 : (Extern.Bytes.bytesOf y).run P w = .ok s w) : (Extern.BytealgIndexByte.indexByte #[x, c]).run P w = (Extern.BytealgIndexByte.indexByte #[y, c]).run P w := by
 change ((Extern.Bytes.bytesOf x >>= _) : Sem Value).run P w = ((Extern.Bytes.bytesOf y >>= _) : Sem Value).run P w; rw [Sem.run_bind, Sem.run_bind, h1, h2]; rfl
end Go.Ev
namespace Go.Proofs.YtgaiocpkjaaphaaGreatDoor
open Go Go.Vc
attribute [local irreducible] Vc.Nc Vc.Ld Vc.LdA Vc.St Vc.StA Vc.Fo Vc.Iaa Vc.Ias Vc.Ixs Vc.Ixa Vc.Fd Vc.FdA Vc.Bp Vc.Bb Vc.Bn Vc.Up Vc.Ci Vc.Lns Vc.Lnl Vc.Ex Vc.Sst Vc.Ssl Vc.New Vc.Vif Vc.VJoin Vc.VLoop Vc.KE Vc.Dr Vc.Rk Vc.Cl Vc.Cx Vc.Inv Vc.Be Vc.Cv Vc.Cw Vc.Mf Vc.Sl Vc.Lk Vc.Bd Vc.Bs Vc.Ms Vc.Mm Vc.Mu Vc.Me Vc.Es Vc.Rg Vc.Nx Vc.Ta Vc.Ap Vc.Usd Vc.Ust Vc.Cp Vc.Ln Vc.Bc Vc.Bmin Vc.Bmax Vc.Bdel Vc.Bclr Vc.Pk
namespace C10
open Go.M01 Go.M10
variable {w : World} {L : List HProp} {K : Value -> World -> Prop} {b wb n : Nat} {lens : List Nat} {bs : List Bool}
theorem codesAt_get (hs : Sized lens) {i : Nat} (hi : i < lens.length) : (codesAt lens 21 0)[i]? = some (codeN lens i) := by
 have h1 := sized_at hs hi; rw [codesAt, List.getElem?_map, List.getElem?_range hi]; show some (if _ then _ else _) = _; rw [if_pos (.inl (by omega))]
theorem Of_spec {i : Nat} (H : Holds w (CodeR b lens :: L)) (hi : i < lens.length) (k : ∀ w', Same w w' -> Holds w' (CodeR b lens :: L) -> K (.tuple #[uv (codeN lens i), nv (lens.getD i 0), iv 0]) w') : Cl Tryz.prog 154 #[pt b, nv i] w K := by
 refine Tz154 ?_; unfold Vz154; obtain ⟨hw, lv, cv, ov, H1⟩ := CodeR_open H; refine r_bnSF (r_vf ?_); refine r_join1 (fun x w' => w = w' /\ x = .bool false) ?_ ?_
 rotate_left
 ·refine r_lss (r_vfD (by omega) ?_); refine r_nc (r_fo0 (r_ld 0 H1 rfl rfl ?_)); refine r_lnS 3 H1 rfl ?_; exact r_geq (r_ke ⟨rfl, by rw [decide_eq_false (by omega)]⟩)
 rintro _ _ _ ⟨rfl, rfl⟩; refine r_vf ?_; refine r_dr H1 fun w2 S2 H2 => ?_; refine r_nc (r_fo0 (r_ld 0 H2 rfl rfl ?_)); refine r_getS 2 H2 rfl (codesAt_get hw.1.sized hi) ?_; refine r_nc (r_fo0 (r_ld 0 H2 rfl rfl ?_)); refine r_getS 3 H2 rfl (x := lens.getD i 0) (by rw [List.getD_eq_getElem?_getD, List.getElem?_eq_getElem hi]; rfl) ?_; exact k _ S2 (CodeR_close hw H2)
theorem Put_spec {i : Nat} (H : Holds w (CodeR b lens :: W01.WrR wb bs n :: L)) (hi : i < lens.length) (hl : bs.length <= 100000000000) (hn : n <= bs.length / 8)
  (k : ∀ w', Same w w' -> Holds w' (CodeR b lens :: W01.WrR wb (bs ++ codeB lens i) n :: L) -> K (iv 0) w') : Cl Tryz.prog 103 #[pt b, pt wb, nv i] w K := by
 refine Tz103 ?_; unfold Vz103; have hw := (CodeR_open H).1.1; have h1 := sized_at hw.sized hi; refine r_bnSF (r_vf ?_); refine Of_spec H hi fun w2 S2 H2 => ?_; refine r_ex30 (r_ex31 (r_ex32 ?_)); refine r_neq (r_vfN rfl ?_); have hc := codeN_lt hi h1.1; have hx := nx_le hw (lens.getD i 0) h1.2; refine W01.Put_spec H2.swap hl hn (by omega) (by omega) fun w3 S3 H3 => ?_; exact k _ (S2.trans S3) H3.swap
end C10
namespace D11
open Go.M01 Go.M10 Go.Mv
variable {w : World} {L : List HProp} {K : Value -> World -> Prop} {b wb n : Nat} {lens : List Nat} {bs : List Bool}
abbrev tWp : Nat := 24
def fnW (ab : Nat) : Value := .func (.func 151) #[] #[pt ab]
theorem put_spec {ab v m : Nat} (H : Holds w (W01.WrR wb bs n :: blk ab tWp [pt wb] :: L)) (hl : bs.length <= 100000000000) (hn : n <= bs.length / 8) (hm : m <= 32) (hv : v < 2 ^ m)
  (k : ∀ w', Same w w' -> Holds w' (W01.WrR wb (bs ++ bitsOf v m) n :: blk ab tWp [pt wb] :: L) -> K (.tuple #[]) w') : Inv Tryz.prog (do let d <- Deferred.ofValue (fnW ab) #[nv v, nv m]; invoke d.target d.args) w K := by
 refine r_inv (f := 151) (args := #[nv v, nv m, pt ab]) (by kernel_rfl) ?_; refine Tz151 ?_; unfold Vz151; have hp : (2 : Nat) ^ m <= 2 ^ 32 := Nat.pow_le_pow_right (by omega) hm; refine r_ld 1 H rfl rfl ?_; refine r_ciu32 (by omega) (by omega) ?_; refine W01.Put_spec H hl hn hm hv fun w2 S2 H2 => ?_; exact k _ S2 H2
theorem rep_snoc (j : Nat) (x : List Bool) : (List.replicate (j + 1) x).flatten = (List.replicate j x).flatten ++ x := by
 rw [List.replicate_succ', List.flatten_append]; simp
theorem steps_spec {ab : Nat} {v : Value} (H : Holds w (W01.WrR wb bs n :: blk ab tWp [pt wb] :: SL nv tI v lens :: L)) (hne : lens ≠ []) (hll : lens.length <= 258) (hs : Sized lens) (hl : bs.length <= 10000000000) (hn : n <= bs.length / 8)
  (k : ∀ w', Same w w' -> Holds w' (W01.WrR wb (bs ++ lensB lens) n :: blk ab tWp [pt wb] :: SL nv tI v lens :: L) -> K (.tuple #[]) w') : Cl Tryz.prog 146 #[v, fnW ab] w K := by
 refine Tz146 ?_; unfold Vz146; have h0 : 0 < lens.length := List.length_pos_iff.2 hne; have hsz : ∀ i, i < lens.length -> 1 <= lens.getD i 0 /\ lens.getD i 0 <= 20 := fun i hi => C10.sized_at hs hi
 have hget : ∀ i, i < lens.length -> lens[i]? = some (lens.getD i 0) := fun i hi => by rw [List.getD_eq_getElem?_getD, List.getElem?_eq_getElem hi]; rfl
 have hf0 := hsz 0 h0; refine r_getS 2 H (j := 0) rfl (hget 0 h0) ?_; refine put_spec (m := 5) H (by omega) hn (by omega) (by omega) fun w1 S1 H1 => ?_; refine r_lnS 2 H1 rfl ?_; generalize ha : lens.getD 0 0 = a at *
 have hlast : ∀ i, i <= lens.length -> lastB a (lens.take i) <= 20 /\ 1 <= lastB a (lens.take i) := by
  intro i hi
  cases i with
  | zero => exact ⟨by unfold lastB; simp; omega, by unfold lastB; simp; omega⟩
  | succ i =>
   have hg : lens.take (i + 1) = lens.take i ++ [lens.getD i 0] := by rw [List.take_add_one, hget i (by omega)]; rfl
   rw [hg, lastB_snoc]; have := hsz i (by omega); omega
 have hsl : ∀ i, i <= lens.length -> (stepsB a (lens.take i)).length <= 41 * i := by
  intro i
  induction i with
  | zero => intro _; simp [stepsB]
  | succ i ih =>
   intro hi
   have hg : lens.take (i + 1) = lens.take i ++ [lens.getD i 0] := by rw [List.take_add_one, hget i (by omega)]; rfl
   have h1 := moves_len (lastB a (lens.take i)) (lens.getD i 0) (hlast i (by omega)).1 (hsz i (by omega)).2; have h2 := ih (by omega); rw [hg, stepsB_snoc]; simp only [List.length_append, List.length_singleton]; omega
 have hb5 : (bitsOf a 5).length = 5 := bitsOf_len _ _
 refine r_loop2 (fun nw x w' => ∃ i : Nat, i <= lens.length /\ x = nv i /\ nw = nv (lastB a (lens.take i)) /\ Same w w' /\ Holds w' (W01.WrR wb (bs ++ bitsOf a 5 ++ stepsB a (lens.take i)) n :: blk ab tWp [pt wb] :: SL nv tI v lens :: L)) (fun _ x _ => lens.length - (RowKit.intOf x).toNat)
  ⟨0, by omega, rfl, rfl, S1, by rw [List.take_zero, stepsB, List.append_nil]; exact H1⟩ ?_
 clear H H1 S1; rintro _ _ _ w2 ⟨i, hi, rfl, rfl, S, H⟩; have hsi := hsl i hi; refine r_lss (r_ifD (fun h => ?_) fun h => ?_)
 rotate_left
 ·obtain rfl : i = lens.length := by omega
  rw [List.take_length] at H; refine k _ S ?_; unfold lensB; rw [ha, <- List.append_assoc]; exact H
 have hlt : i < lens.length := by omega
 have hl2 := hlast i hi; have hxi := hsz i hlt
 have hg : lens.take (i + 1) = lens.take i ++ [lens.getD i 0] := by rw [List.take_add_one, hget i hlt]; rfl
 refine r_getS 2 H rfl (hget i hlt) ?_; generalize hx : lens.getD i 0 = x at *; generalize hp : lastB a (lens.take i) = p at *; generalize hS0 : bs ++ bitsOf a 5 ++ stepsB a (lens.take i) = B0 at *
 have hB0 : B0.length <= 10000000000 + 5 + 41 * 258 := by rw [<- hS0, List.length_append, List.length_append]; omega
 have hB1 : bs.length <= B0.length := by rw [<- hS0, List.length_append, List.length_append]; omega
 -- up
 refine r_loop1 (fun y w' => ∃ j : Nat, y = nv (p + j) /\ j <= x - p /\ Same w w' /\ Holds w' (W01.WrR wb (B0 ++ (List.replicate j [true, false]).flatten) n :: blk ab tWp [pt wb] :: SL nv tI v lens :: L)) (fun y _ => 100 - (RowKit.intOf y).toNat)
  ⟨0, rfl, Nat.zero_le _, S, by rw [List.replicate_zero, List.flatten_nil, List.append_nil]; exact H⟩ ?_
 clear H S; rintro _ _ w3 ⟨j, rfl, hj, S, H⟩
 have hjl : (List.replicate j [true, false]).flatten.length = 2 * j := by simp; omega
 have hjb : (B0 ++ (List.replicate j [true, false]).flatten).length = B0.length + 2 * j := by rw [List.length_append, hjl]
 refine r_lss (r_ifD (fun h2 => ?_) fun h2 => ?_)
 ·refine put_spec (v := 2) (m := 2) H (by omega) (by omega) (by omega) (by decide) fun w4 S4 H4 => ?_; rw [show bitsOf 2 2 = [true, false] by decide, List.append_assoc, <- rep_snoc] at H4; refine r_add1N (by omega) ?_; refine r_ke ⟨⟨j + 1, rfl, by omega, S.trans S4, H4⟩, ?_⟩; simp only [nv, RowKit.intOf, Int.toNat_natCast]; omega
 -- down
 obtain rfl : j = x - p := by omega
 generalize hS1 : B0 ++ (List.replicate (x - p) [true, false]).flatten = B2 at *
 refine r_loop1 (fun y w' => ∃ j : Nat, y = nv (max p x - j) /\ j <= p - x /\ Same w w' /\ Holds w' (W01.WrR wb (B2 ++ (List.replicate j [true, true]).flatten) n :: blk ab tWp [pt wb] :: SL nv tI v lens :: L)) (fun y _ => (RowKit.intOf y).toNat)
  ⟨0, by rw [show max p x - 0 = p + (x - p) by omega], Nat.zero_le _, S, by rw [List.replicate_zero, List.flatten_nil, List.append_nil]; exact H⟩ ?_
 clear H S; rintro _ _ w4 ⟨j, rfl, hj2, S, H⟩
 have hjl2 : (List.replicate j [true, true]).flatten.length = 2 * j := by simp; omega
 have hjb2 : (B2 ++ (List.replicate j [true, true]).flatten).length = B2.length + 2 * j := by rw [List.length_append, hjl2]
 refine r_gtr (r_ifD (fun h3 => ?_) fun h3 => ?_)
 ·refine put_spec (v := 3) (m := 2) H (by omega) (by omega) (by omega) (by decide) fun w5 S5 H5 => ?_; rw [show bitsOf 3 2 = [true, true] by decide, List.append_assoc, <- rep_snoc] at H5; refine r_sub1N (by omega) (by omega) ?_; refine r_ke ⟨⟨j + 1, by rw [show max p x - j - 1 = max p x - (j + 1) by omega], by omega, S.trans S5, H5⟩, ?_⟩; simp only [nv, RowKit.intOf, Int.toNat_natCast]; omega
 ·obtain rfl : j = p - x := by omega
  refine put_spec (v := 0) (m := 1) H (by omega) (by omega) (by omega) (by decide) fun w5 S5 H5 => ?_; refine r_add1N (by omega) ?_; refine r_ke ⟨⟨i + 1, by omega, rfl, by rw [hg, lastB_snoc, show max p x - (p - x) = x by omega], S.trans S5, ?_⟩, ?_⟩
  ·rw [hg, stepsB_snoc, hp, <- List.append_assoc, <- List.append_assoc, hS0]; unfold moves; rw [<- List.append_assoc, hS1]; exact H5
  ·simp only [nv, RowKit.intOf, Int.toNat_natCast]; omega
theorem none_spec {v : Value} {l : List Nat} {f : Value} (H : Holds w L) (j : Nat) (hj : L[j]? = some (SL nv tI v l)) (hl : l.length <= 1000000)
  (hf : ∀ x ∈ l, ∀ {Q : Value -> World -> Prop}, Q (.bool false) w -> Inv Tryz.prog (do let d <- Deferred.ofValue f #[nv x]; invoke d.target d.args) w Q) (k : K (.bool false) w) : Cl Tryz.prog 191 #[v, f] w K := by
 refine Tz191 ?_; unfold Vz191; refine r_cl (K := fun x w' => w = w' /\ x = iv (-1)) ?_ ?_
 ·refine Tz231 ?_; unfold Vz231; refine r_lnS j H hj ?_; refine r_loop1 (fun x w' => ∃ i : Nat, i <= l.length /\ x = nv i /\ w = w') (fun x _ => l.length - (RowKit.intOf x).toNat) ⟨0, Nat.zero_le _, rfl, rfl⟩ ?_; rintro _ _ _ ⟨i, hi, rfl, rfl⟩; refine r_lss (r_ifD (fun h => ?_) fun h => ?_)
  ·have hlt : i < l.length := by omega
   refine r_getS j H hj (List.getElem?_eq_getElem hlt) ?_; refine hf _ (List.getElem_mem hlt) ?_; refine r_vf ?_; refine r_add1N (by omega) ?_; refine r_ke ⟨⟨i + 1, by omega, rfl, rfl⟩, ?_⟩; simp only [nv, RowKit.intOf, Int.toNat_natCast]; omega
  ·exact ⟨rfl, rfl⟩
 rintro _ _ ⟨rfl, rfl⟩; exact r_geq k
theorem may_spec (H : Holds w L) (j : Nat) {v : Value} (hj : L[j]? = some (SL nv tI v lens)) (h3 : 3 <= lens.length) (h258 : lens.length <= 258) (hs : Sized lens) (k : K (.bool true) w) : Cl Tryz.prog 145 #[v] w K := by
 refine Tz145 ?_; unfold Vz145; refine r_lnS j H hj ?_; refine r_cl (K := fun x w' => w = w' /\ x = .bool true) ?_ ?_
 ·refine Tz195 ?_; unfold Vz195; refine r_geq (r_vtD (by omega) ?_); exact r_leq ⟨rfl, by rw [decide_eq_true (by omega)]⟩
 rintro _ _ ⟨rfl, rfl⟩; refine r_vt ?_; refine none_spec H j hj (by omega) (fun x hx Q hQ => ?_) ?_
 ·have := hs x hx; refine r_inv (f := 196) (args := #[nv x]) (by kernel_rfl) ?_; refine Tz196 ?_; unfold Vz196; refine r_cl (K := fun x w' => w = w' /\ x = .bool true) ?_ ?_
  ·refine Tz197 ?_; unfold Vz197; refine r_geq (r_vtD (by omega) ?_); exact r_leq ⟨rfl, by rw [decide_eq_true (by omega)]⟩
  rintro _ _ ⟨rfl, rfl⟩; exact r_notT hQ
 ·exact r_notF k
theorem Write_spec {v : Value} (H : Holds w (W01.WrR wb bs n :: SL nv tI v lens :: L)) (h3 : 3 <= lens.length) (h258 : lens.length <= 258) (hs : Sized lens) (hl : bs.length <= 10000000000) (hn : n <= bs.length / 8)
  (k : ∀ w', Same w w' -> Holds w' (W01.WrR wb (bs ++ lensB lens) n :: SL nv tI v lens :: L) -> K (iv 0) w') : Cl Tryz.prog 101 #[pt wb, v] w K := by
 refine Tz101 ?_; unfold Vz101; refine r_new H fun ab w1 S1 H1 => ?_; replace H1 : Holds w1 (blk ab tWp [pt wb] :: W01.WrR wb bs n :: SL nv tI v lens :: L) := H1; refine r_ld 0 H1 rfl rfl ?_; refine r_bnSF (r_vf ?_); refine may_spec H1 2 rfl h3 h258 hs ?_; refine r_notT (r_vf ?_); refine r_mf (fnW ab) (by kernel_rfl) ?_; refine steps_spec H1.swap (fun e => by rw [e] at h3; simp at h3) h258 hs hl hn fun w2 S2 H2 => ?_; exact k _ (S1.trans S2) (Holds.dropAt H2 1)
end D11
namespace F08
variable {w : World} {L : List HProp} {K : Value -> World -> Prop}
def cost (l lens : List Nat) : Nat := (l.map fun x => lens.getD x 0).sum
def costD (l lens : List Nat) (t : Nat) : Nat := ((List.range t).map fun x => l.count x * lens.getD x 0).sum
theorem sum_snoc (l : List Nat) (x : Nat) : (l ++ [x]).sum = l.sum + x := by simp
theorem costD_succ (l lens : List Nat) (t : Nat) : costD l lens (t + 1) = costD l lens t + l.count t * lens.getD t 0 := by
 unfold costD; rw [List.range_succ, List.map_append, List.map_cons, List.map_nil, sum_snoc]
theorem costD_cons (y : Nat) (l lens : List Nat) : ∀ t, costD (y :: l) lens t = costD l lens t + if y < t then lens.getD y 0 else 0
 | 0 => by simp [costD]
 | t + 1 => by
  rw [costD_succ, costD_succ, costD_cons y l lens t, List.count_cons]
  by_cases e : y = t
  ·subst e; rw [if_neg (Nat.lt_irrefl _), if_pos (by simp), if_pos (by omega), Nat.add_mul, Nat.one_mul]; omega
  ·have : (y == t) = false := by simpa using e
   rw [this]; simp only [Bool.false_eq_true, if_false, Nat.add_zero]
   by_cases q : y < t
   ·rw [if_pos q, if_pos (by omega)]; omega
   ·rw [if_neg q, if_neg (by omega), Nat.add_zero, Nat.add_zero]
theorem costD_all (lens : List Nat) : ∀ l : List Nat, (∀ x ∈ l, x < lens.length) -> costD l lens lens.length = cost l lens
 | [], _ => by
  have : ∀ t, costD [] lens t = 0 := by
   intro t
   induction t with
   | zero => rfl
   | succ t ih => rw [costD_succ, ih]; simp
  exact this _
 | y :: l, h => by
  rw [costD_cons, costD_all lens l fun x hx => h x (List.mem_cons_of_mem _ hx), if_pos (h y (List.mem_cons_self ..))]; unfold cost; rw [List.map_cons, List.sum_cons]; omega
theorem getD_le {lens : List Nat} (h : ∀ x ∈ lens, x <= 20) (y : Nat) : lens.getD y 0 <= 20 := by
 rw [List.getD_eq_getElem?_getD]; rcases Nat.lt_or_ge y lens.length with q | q
 ·rw [List.getElem?_eq_getElem q]; exact h _ (List.getElem_mem q)
 ·rw [List.getElem?_eq_none q]; exact Nat.zero_le _
theorem costD_le {lens : List Nat} (h : ∀ x ∈ lens, x <= 20) (t : Nat) : ∀ l : List Nat, costD l lens t <= l.length * 20
 | [] => by
  have : ∀ t, costD [] lens t = 0 := by
   intro t
   induction t with
   | zero => rfl
   | succ t ih => rw [costD_succ, ih]; simp
  rw [this]; exact Nat.zero_le _
 | y :: l => by
  have h1 := costD_le h t l; have h2 := getD_le h y; rw [costD_cons, List.length_cons, Nat.add_mul]
  split <;> omega
theorem cost_le {lens : List Nat} (h : ∀ x ∈ lens, x <= 20) : ∀ l : List Nat, cost l lens <= l.length * 20
 | [] => Nat.le_refl _
 | y :: l => by
  have h1 := cost_le h l; have h2 := getD_le h y; show ((lens.getD y 0 :: l.map fun x => lens.getD x 0) : List Nat).sum <= _; unfold cost at h1; rw [List.sum_cons, List.length_cons, Nat.add_mul]; omega
theorem all_spec {v : Value} {l : List Nat} {i : Nat} (H : Holds w L) (hi : L[i]? = some (SL nv tI v l)) (hl : l.length <= 1000000) (hb : ∀ x ∈ l, x <= 1099511627776) (k : K (.bool true) w) : Cl Tryz.prog 199 #[v] w K := by
 refine Tz199 ?_; unfold Vz199; refine D11.none_spec H i hi hl (fun x hx Q hQ => ?_) (r_notF k); have h1 := hb x hx; refine r_inv (f := 233) (args := #[nv x]) (by kernel_rfl) ?_; refine Tz233 ?_; unfold Vz233; refine r_cl (K := fun z w' => w = w' /\ z = .bool true) ?_ ?_
 ·refine Tz234 ?_; unfold Vz234; refine r_geq (r_vtD (by omega) ?_); exact r_leq ⟨rfl, by rw [decide_eq_true (by omega)]⟩
 rintro _ _ ⟨rfl, rfl⟩; exact r_notT hQ
theorem together_spec {a b : Nat} (h : a + b <= 1099511627776) (k : K (nv (a + b)) w) : Cl Tryz.prog 200 #[nv a, nv b] w K := by
 refine Tz200 ?_; unfold Vz200; refine r_addN (by omega) (r_min ?_); rw [show min (((a + b : Nat) : Int)) 1099511627776 = ((a + b : Nat) : Int) by omega]; exact k
theorem Cost_spec {v v2 : Value} {l lens : List Nat} {i j : Nat} (H : Holds w L) (hi : L[i]? = some (SL nv tI v l)) (hj : L[j]? = some (SL nv tI v2 lens)) (hl : l.length <= 10000000) (hn : lens.length <= 1000000) (h20 : ∀ x ∈ lens, x <= 20) (hx : ∀ x ∈ l, x < lens.length)
  (k : K (.tuple #[nv (cost l lens), iv 0]) w) : Cl Tryz.prog 150 #[v, v2] w K := by
 refine Tz150 ?_; unfold Vz150; refine all_spec H hj hn (fun x hx => by have := h20 x hx; omega) (r_notT (r_vf ?_)); refine r_lnS i H hi ?_; refine r_loop2 (fun p q w' => ∃ t : Nat, p = nv (cost (l.take t) lens) /\ q = nv t /\ t <= l.length /\ w = w') (fun _ q _ => l.length - (RowKit.intOf q).toNat) ⟨0, rfl, rfl, Nat.zero_le _, rfl⟩ ?_; rintro _ _ _ _ ⟨t, rfl, rfl, ht, rfl⟩; refine r_lss (r_ifD (fun h => ?_) fun h => ?_)
 ·have hlt : t < l.length := by omega
  have e : l.take (t + 1) = l.take t ++ [l[t]] := by rw [List.take_add_one, List.getElem?_eq_getElem hlt]; rfl
  have hxt := hx _ (List.getElem_mem hlt); have hc := cost_le h20 (l.take t); rw [List.length_take] at hc; refine r_getS i H hi (List.getElem?_eq_getElem hlt) ?_; generalize l[t] = x at *; have hg := getD_le h20 x
  have e2 : cost (l.take (t + 1)) lens = cost (l.take t) lens + lens.getD x 0 := by
   unfold cost; rw [e, List.map_append, List.map_cons, List.map_nil, sum_snoc]
  refine r_join1 (fun z w' => w = w' /\ z = .bool false) ?_ ?_
  rotate_left
  ·refine r_lss (r_vfD (by omega) ?_); refine r_lnS j H hj (r_geq (r_ke ⟨rfl, by rw [decide_eq_false (by omega)]⟩))
  rintro _ _ _ ⟨rfl, rfl⟩; refine r_vf ?_; refine r_getS j H hj (x := lens.getD x 0) (by rw [List.getD_eq_getElem?_getD, List.getElem?_eq_getElem hxt]; rfl) ?_; refine together_spec (by omega) ?_; rw [<- e2]; refine r_add1N (by omega) (r_ke ⟨⟨t + 1, rfl, rfl, by omega, rfl⟩, ?_⟩); simp only [nv, RowKit.intOf, Int.toNat_natCast]; omega
 ·rw [List.take_of_length_le (by omega)]; exact k
theorem CostD_spec {v v2 : Value} {l lens : List Nat} {i j : Nat} (H : Holds w L) (hi : L[i]? = some (SL nv tI v l)) (hj : L[j]? = some (SL nv tI v2 lens)) (hl : l.length <= 10000000) (hn : lens.length <= 1000000) (h20 : ∀ x ∈ lens, x <= 20) (hx : ∀ x ∈ l, x < lens.length)
  (k : K (nv (cost l lens)) w) : Cl Tryz.prog 205 #[v, v2] w K := by
 refine Tz205 ?_; unfold Vz205; refine r_lnS j H hj ?_; refine r_loop2 (fun p q w' => ∃ t : Nat, p = nv (costD l lens t) /\ q = nv t /\ t <= lens.length /\ w = w') (fun _ q _ => lens.length - (RowKit.intOf q).toNat) ⟨0, rfl, rfl, Nat.zero_le _, rfl⟩ ?_; rintro _ _ _ _ ⟨t, rfl, rfl, ht, rfl⟩; refine r_lss (r_ifD (fun h => ?_) fun h => ?_)
 ·have hlt : t < lens.length := by omega
  have hs := costD_succ l lens t; have hle := costD_le h20 (t + 1) l; refine r_getS j H hj (x := lens.getD t 0) (by rw [List.getD_eq_getElem?_getD, List.getElem?_eq_getElem hlt]; rfl) ?_; refine count_spec H (i := i) (x := t) hi (by omega) ?_; have hcl : l.count t <= l.length := List.count_le_length; generalize lens.getD t 0 = y at *; generalize l.count t = c at *; generalize costD l lens t = b at *; refine r_loop2 (fun p q w' => ∃ m : Nat, p = nv (b + m * y) /\ q = nv m /\ m <= c /\ w = w') (fun _ q _ => c - (RowKit.intOf q).toNat) ⟨0, by rw [Nat.zero_mul, Nat.add_zero], rfl, Nat.zero_le _, rfl⟩ ?_; rintro _ _ _ _ ⟨m, rfl, rfl, hm, rfl⟩; refine r_lss (r_ifD (fun h2 => ?_) fun h2 => ?_)
  ·have h3 : (m + 1) * y <= c * y := Nat.mul_le_mul_right _ (by omega)
   have h4 : (m + 1) * y = m * y + y := by rw [Nat.add_mul, Nat.one_mul]
   refine r_addN (by omega) ?_; refine r_cl (K := fun z w' => w = w' /\ z = nv (b + (m + 1) * y)) ?_ ?_
   ·refine Tz236 ?_; unfold Vz236; refine r_gtr (r_vfD (by omega) ?_); exact ⟨rfl, by rw [h4, Nat.add_assoc]⟩
   rintro _ _ ⟨rfl, rfl⟩; refine r_add1N (by omega) (r_ke ⟨⟨m + 1, rfl, rfl, by omega, rfl⟩, ?_⟩); simp only [nv, RowKit.intOf, Int.toNat_natCast]; omega
  ·obtain rfl : m = c := by omega
   refine r_add1N (by omega) (r_ke ⟨⟨t + 1, by rw [hs], rfl, by omega, rfl⟩, ?_⟩); simp only [nv, RowKit.intOf, Int.toNat_natCast]; omega
 ·obtain rfl : t = lens.length := by omega
  rw [costD_all lens l hx]; exact k
theorem Groups_spec {n : Nat} (hn : n <= 1000000000) (k : K (nv ((n + 49) / 50)) w) : Cl Tryz.prog 148 #[nv n] w K := by
 refine Tz148 ?_; unfold Vz148; refine r_leq (r_ifD (fun h => ?_) fun h => ?_)
 ·obtain rfl : n = 0 := by omega
  exact k
 ·refine r_sub1N (by omega) (by omega) ?_; refine r_quo (by omega) (by omega) (by omega) ?_; rw [show ((n - 1 : Nat) : Int) / 50 = (((n - 1) / 50 : Nat) : Int) by omega]; refine r_add1N (by omega) ?_; rw [show (n - 1) / 50 + 1 = (n + 49) / 50 by omega]; exact k
def addL (a b : List Nat) : List Nat := List.zipWith (· + ·) a b
theorem Add_spec {v v2 : Value} {a b : List Nat} {i j : Nat} (H : Holds w L) (hi : L[i]? = some (SL nv tI v a)) (hj : L[j]? = some (SL nv tI v2 b)) (hl : a.length <= 1000000) (hab : b.length = a.length) (ha : ∀ x ∈ a, x <= 500000000000) (hb : ∀ x ∈ b, x <= 500000000000)
  (k : ∀ v' w', Same w w' -> Holds w' (SL nv tI v' (addL a b) :: L) -> K (.tuple #[v', iv 0]) w') : Cl Tryz.prog 229 #[v, v2] w K := by
 refine Tz229 ?_; unfold Vz229; refine r_join1 (fun t w' => w = w' /\ t = .bool false) ?_ ?_
 rotate_left
 ·refine r_lnS i H hi (r_lnS j H hj (r_neq (r_vfN (by omega) ?_))); refine all_spec H hi hl (fun x hx => by have := ha x hx; omega) (r_notT (r_vf ?_)); exact all_spec H hj (by omega) (fun x hx => by have := hb x hx; omega) (r_notT (r_ke ⟨rfl, rfl⟩))
 rintro _ _ _ ⟨rfl, rfl⟩; refine r_vf ?_; refine r_lnS i H hi ?_; refine r_ms (f := nv) (x := 0) H rfl (by omega) (by omega) fun ob w2 S2 H2 => ?_; rw [Int.toNat_natCast] at H2 ⊢; have H3 := H2.close 0 rfl; simp only [List.set_cons_zero, List.length_replicate, List.length_nil, Nat.add_zero] at H3; generalize hv : Value.slice (some ⟨ob, 0, none⟩) a.length a.length = ov at H3 ⊢; refine r_lnS 0 H3 rfl ?_; rw [List.length_replicate]; refine r_loop1 (fun q w' => ∃ (t : Nat), q = nv t /\ t <= a.length /\ Same w w' /\ Holds w' (SL nv tI ov (addL (a.take t) (b.take t) ++ List.replicate (a.length - t) 0) :: L)) (fun q _ => a.length - (RowKit.intOf q).toNat) ⟨0, rfl, Nat.zero_le _, S2, H3⟩ ?_; clear H H2 H3 S2; rintro _ _ w3 ⟨t, rfl, ht, S3, H3⟩; refine r_lss (r_ifD (fun h => ?_) fun h => ?_)
 ·have hlt : t < a.length := by omega
  have hlt2 : t < b.length := by omega
  have h1 := ha _ (List.getElem_mem hlt); have h2 := hb _ (List.getElem_mem hlt2)
  have e1 : a.take (t + 1) = a.take t ++ [a[t]] := by rw [List.take_add_one, List.getElem?_eq_getElem hlt]; rfl
  have e2 : b.take (t + 1) = b.take t ++ [b[t]] := by rw [List.take_add_one, List.getElem?_eq_getElem hlt2]; rfl
  refine r_dr H3 fun w4 S4 H4 => ?_; refine r_getS (i + 1) H4 (by rw [List.getElem?_cons_succ]; exact hi) (List.getElem?_eq_getElem hlt) ?_; refine r_getS (j + 1) H4 (by rw [List.getElem?_cons_succ]; exact hj) (List.getElem?_eq_getElem hlt2) ?_; generalize a[t] = x at *; generalize b[t] = y at *
  have hlen : (addL (a.take t) (b.take t)).length = t := by unfold addL; rw [List.length_zipWith, List.length_take, List.length_take]; omega
  refine together_spec (by omega) ?_; refine r_setS 0 H4 (x + y) rfl (by rw [List.length_append, hlen, List.length_replicate]; omega) rfl fun w5 S5 H5 => ?_; refine r_add1N (by omega) (r_ke ⟨⟨t + 1, rfl, by omega, S3.trans (S4.trans S5), ?_⟩, ?_⟩)
  ·replace H5 : Holds w5 (SL nv tI ov ((addL (a.take t) (b.take t) ++ List.replicate (a.length - t) 0).set t (x + y)) :: L) := H5; rw [List.set_append_right _ _ (by omega), hlen, Nat.sub_self, show a.length - t = (a.length - (t + 1)) + 1 by omega, List.replicate_succ, List.set_cons_zero] at H5
   have e3 : addL (a.take (t + 1)) (b.take (t + 1)) = addL (a.take t) (b.take t) ++ [x + y] := by
    unfold addL; rw [e1, e2, List.zipWith_append (by rw [List.length_take, List.length_take]; omega)]; rfl
   rw [e3, List.append_assoc]; exact H5
  ·simp only [nv, RowKit.intOf, Int.toNat_natCast]; omega
 ·obtain rfl : t = a.length := by omega
  rw [List.take_length, List.take_of_length_le (by omega), Nat.sub_self, List.replicate_zero, List.append_nil] at H3; exact k ov w3 S3 H3
end F08
namespace T12
variable {w : World} {L : List HProp} {K : Value -> World -> Prop}
def bnd : List Nat := [200, 600, 1200, 2400]
def numAt (n t : Nat) : Nat := 2 + ((bnd.take t).filter fun b => decide (b <= n)).length
def num (n : Nat) : Nat := numAt n 4
theorem numAt_succ (n : Nat) {t : Nat} (h : t < 4) : numAt n (t + 1) = numAt n t + if bnd.getD t 0 <= n then 1 else 0 := by
 unfold numAt; have hl : t < bnd.length := h; rw [List.take_add_one, List.getElem?_eq_getElem hl, List.filter_append, List.length_append, List.getD_eq_getElem?_getD, List.getElem?_eq_getElem hl]; show 2 + (_ + (List.filter _ [bnd[t]]).length) = _
 by_cases e : bnd[t] <= n
 ·rw [List.filter_cons_of_pos (by simpa using e)]
  show _ = _ + if bnd[t] <= n then 1 else 0
  rw [if_pos e]; simp; omega
 ·rw [List.filter_cons_of_neg (by simpa using e)]
  show _ = _ + if bnd[t] <= n then 1 else 0
  rw [if_neg e]; simp
def BndOk (L : List HProp) : Prop := ∀ w', Holds w' L -> ∃ e z, w'.heap[1]? = some (.cells (bnd.map nv).toArray e z)
theorem BndOk.up {Q : HProp} (h : BndOk L) : BndOk (Q :: L) := fun w' H => h w' H.drop
theorem Number_spec {n : Nat} (H : Holds w L) (hb : BndOk L) (k : K (nv (num n)) w) : Cl Tryz.prog 227 #[nv n] w K := by
 refine Tz227 ?_; unfold Vz227; obtain ⟨e, z, hh⟩ := hb w H; refine r_ldAP (p := ⟨1, 0, none⟩) (cs := (bnd.map nv).toArray) rfl (fun j v hv => ?_) ?_
 ·have e1 : (⟨1, 0, none⟩ : Addr).add j = ⟨1, j, none⟩ := by
   unfold Addr.add; split
   ·rename_i q; rw [q]
   ·simp
  rw [e1]; simp only [World.cell?, hh]; exact hv
 refine r_loop2 (fun p q w' => ∃ t : Nat, p = nv (numAt n t) /\ q = nv t /\ t <= 4 /\ numAt n t <= 2 + t /\ w = w') (fun _ q _ => 4 - (RowKit.intOf q).toNat) ⟨0, rfl, rfl, by omega, Nat.le_refl _, rfl⟩ ?_; rintro _ _ _ _ ⟨t, rfl, rfl, ht, hle, rfl⟩; refine r_lss (r_ifD (fun h => ?_) fun h => ?_)
 ·have hlt : t < 4 := by omega
  have hs := numAt_succ n hlt; have hl : t < bnd.length := hlt
  refine r_ixa1 (nv (bnd.getD t 0)) (by omega) (by omega) (by
   rw [Int.toNat_natCast, List.getElem?_map, List.getElem?_eq_getElem hl, List.getD_eq_getElem?_getD, List.getElem?_eq_getElem hl]; rfl) ?_
  refine r_geq (r_ifD (fun q => ?_) fun q => ?_)
  ·rw [if_pos (by omega)] at hs; refine r_add1N (by omega) (r_add1N (by omega) (r_ke ⟨⟨t + 1, by rw [hs], rfl, by omega, by omega, rfl⟩, ?_⟩)); simp only [nv, RowKit.intOf, Int.toNat_natCast]; omega
  ·rw [if_neg (by omega)] at hs; refine r_add1N (by omega) (r_ke ⟨⟨t + 1, by rw [hs]; rfl, rfl, by omega, by omega, rfl⟩, ?_⟩); simp only [nv, RowKit.intOf, Int.toNat_natCast]; omega
 ·obtain rfl : t = 4 := by omega
  exact k
theorem NumberD_spec {n : Nat} (k : K (nv (num n)) w) : Cl Tryz.prog 203 #[nv n] w K := by
 refine Tz203 ?_; unfold Vz203; have h0 : numAt n 0 = 2 := rfl; have h1 : numAt n 1 = numAt n 0 + _ := numAt_succ n (t := 0) (by omega); have h2 : numAt n 2 = numAt n 1 + _ := numAt_succ n (t := 1) (by omega); have h3 : numAt n 3 = numAt n 2 + _ := numAt_succ n (t := 2) (by omega); have h4 : numAt n 4 = numAt n 3 + _ := numAt_succ n (t := 3) (by omega); rw [show bnd.getD 0 0 = 200 from rfl] at h1; rw [show bnd.getD 1 0 = 600 from rfl] at h2; rw [show bnd.getD 2 0 = 1200 from rfl] at h3; rw [show bnd.getD 3 0 = 2400 from rfl] at h4; have hn : num n = numAt n 4 := rfl; refine r_lss (r_ifD (fun q => ?_) fun q => ?_)
 ·rw [if_neg (by omega)] at h1 h2 h3 h4; rw [show num n = 2 by omega] at k; exact k
 refine r_lss (r_ifD (fun q2 => ?_) fun q2 => ?_)
 ·rw [if_pos (by omega)] at h1; rw [if_neg (by omega)] at h2 h3 h4; rw [show num n = 3 by omega] at k; exact k
 refine r_lss (r_ifD (fun q3 => ?_) fun q3 => ?_)
 ·rw [if_pos (by omega)] at h1 h2; rw [if_neg (by omega)] at h3 h4; rw [show num n = 4 by omega] at k; exact k
 refine r_lss (r_ifD (fun q4 => ?_) fun q4 => ?_)
 ·rw [if_pos (by omega)] at h1 h2 h3; rw [if_neg (by omega)] at h4; rw [show num n = 5 by omega] at k; exact k
 ·rw [if_pos (by omega)] at h1 h2 h3 h4; rw [show num n = 6 by omega] at k; exact k
end T12
namespace O2b
open T12
set_option maxRecDepth 1000000 in
theorem laid_one {W : World} (h : laidMet Tryz.prog [("baler/tables.bounds", (Lib.tabData .i64 [200, 600, 1200, 2400] : DataW Unit))] W) : BndOk [whole W] := by
 have ht : Lib.TabIs Tryz.prog W "baler/tables.bounds" .i64 [200, 600, 1200, 2400] := Lib.tabIs_of_head (g := 1) (t := 301) (e := 3) (n := 4) (by kernel_rfl) (by kernel_rfl) Tryz.underlying301 Tryz.underlying3 (by kernel_rfl) (by kernel_rfl) h; unfold Lib.TabIs World.var? at ht; rw [show Tryz.prog.globalNamed "baler/tables.bounds" = some 1 by kernel_rfl] at ht; simp only [Option.bind_some] at ht; intro w' H'; obtain ⟨g, hg, hgs, _⟩ := H'
 cases ho : W.heap[1]? with
 | none => rw [ho] at ht; cases ht
 | some o =>
  rw [ho] at ht
  cases o with
  | cells cs e z =>
   simp only [Option.some.injEq] at ht; subst ht; exact ⟨e, z, hgs _ _ (hg _ _ ho)⟩
  | _ => cases ht
theorem tab_laidW {W : World} (h : laidMetH Tryz.prog Rows.blockWritesRow.laid W) : BndOk [whole W] := laid_one h
abbrev tG : Nat := 34
end O2b
namespace P35
open Go.Mh
variable {w : World} {L : List HProp} {K : Value -> World -> Prop}
section
variable {α : Type} {P : Program}
theorem r_getN (i : Nat) (H : Holds w L) {F : α -> List Value} {k : Nat} {e : TypeId} {v : Value} {xs : List α} {q : Nat} {kk : IntKind} {x : α} {K : Value -> Prop}
  (hi : L[i]? = some (RW F k e v xs)) (hx : xs[q]? = some x) (hF : ∀ y, (F y).length = k) (h : K (.agg (F x).toArray)) : Ias k v (.int kk (q : Int)) fun y => LdA k y w K := by
 obtain ⟨oa, m, sp, rfl, H1⟩ := H.openRW i hi; exact r_ldN i H1 (set_get hi) hx hF (List.getElem?_eq_some_iff.1 hx).1 h
theorem r_lnN (i : Nat) (H : Holds w L) {F : α -> List Value} {k : Nat} {e : TypeId} {v : Value} {xs : List α} {K : Value -> Prop} (hi : L[i]? = some (RW F k e v xs)) (h : K (nv xs.length)) : Lnl v K := by
 obtain ⟨oa, m, sp, rfl, _⟩ := H.openRW i hi; exact r_lnl h
end
abbrev tTe : Nat := 285
instance : RowN Tryz.prog 283 tTe 3 := ⟨by kernel_rfl, ⟨Tryz.t285, .agg #[iv 0, iv 0, .slice none 0 0], by kernel_rfl, by kernel_rfl, by decide, by kernel_rfl, by kernel_rfl⟩⟩
structure Tr where
 wt : Nat
 no : Nat
 b : Nat
 c : Nat
 ls : List Nat
def lsV (x : Tr) : Value := .slice (some ⟨x.b, 0, none⟩) x.ls.length x.c
def Ft (x : Tr) : List Value := [nv x.wt, nv x.no, lsV x]
theorem Ft_sg : ∀ y : Tr, ∀ u ∈ Ft y, sg u = true := by
 intro y u hu; unfold Ft at hu; rcases List.mem_cons.1 hu with rfl | hu
 ·rfl
 rcases List.mem_cons.1 hu with rfl | hu
 ·rfl
 rw [List.mem_singleton.1 hu]; rfl
def Less (x y : Tr) : Prop := x.wt < y.wt \/ (x.wt = y.wt /\ x.no < y.no)
instance (x y : Tr) : Decidable (Less x y) := inferInstanceAs (Decidable (_ \/ _))
theorem less_spec {x y : Tr} (H : Holds w L) (k : ∀ w', Same w w' -> Holds w' L -> K (.bool (decide (Less x y))) w') : Cl Tryz.prog 256 #[.agg (Ft x).toArray, .agg (Ft y).toArray] w K := by
 refine Tz256 ?_; unfold Vz256; refine r_new H fun ab w1 S1 H1 => ?_; replace H1 : Holds w1 (blk ab tTe (Ft x) :: L) := H1; refine r_new H1 fun bb w2 S2 H2 => ?_; replace H2 : Holds w2 (blk bb tTe (Ft y) :: blk ab tTe (Ft x) :: L) := H2; refine r_fo0 (r_ld 1 H2 rfl rfl (r_fo0 (r_ld 0 H2 rfl rfl ?_)))
 have fin : ∀ c : Bool, c = decide (Less x y) -> K (.bool c) w2 := fun c e => by rw [e]; exact k w2 (S1.trans S2) H2.drop.drop
 refine r_lss (r_ifD (fun h => ?_) fun h => ?_)
 ·exact fin true (decide_eq_true (.inl (by omega))).symm
 refine r_fo0 (r_ld 1 H2 rfl rfl (r_fo0 (r_ld 0 H2 rfl rfl ?_))); refine r_eql (r_ifE (fun h2 => ?_) fun h2 => ?_)
 ·refine r_fo0 (r_ld 1 H2 rfl rfl (r_fo0 (r_ld 0 H2 rfl rfl ?_))); refine r_lss (fin _ ?_); exact decide_eq_decide.2 (by unfold Less; omega)
 ·exact fin false (decide_eq_false (by unfold Less; omega)).symm
theorem tr_zero : (zeroP Tryz.prog tTe).cells.toList = [iv 0, iv 0, .slice none 0 0] := by kernel_rfl
theorem least_spec {ts : List Tr} {v : Value} {i : Nat} (H : Holds w L) (hi : L[i]? = some (RW Ft 3 tTe v ts)) (hne : ts ≠ []) (hl : ts.length <= 1000000)
  (k : ∀ a x w', ts[a]? = some x -> (∀ y ∈ ts, ¬ Less y x) -> Same w w' -> Holds w' L -> K (nv a) w') : Cl Tryz.prog 237 #[v] w K := by
 refine Tz237 ?_; unfold Vz237; have h0 := List.length_pos_iff.2 hne; refine r_lnN i H hi ?_
 refine r_loop2 (fun p q w' => ∃ (a n : Nat) (x : Tr), p = nv a /\ q = nv n /\ n <= ts.length /\ ts[a]? = some x /\ (∀ y ∈ ts.take n, ¬ Less y x) /\ Same w w' /\ Holds w' L) (fun _ q _ => ts.length - (RowKit.intOf q).toNat)
  ⟨0, 0, ts[0], rfl, rfl, Nat.zero_le _, List.getElem?_eq_getElem h0, by simp, .refl _, H⟩ ?_
 clear H; rintro _ _ _ w1 ⟨a, n, x, rfl, rfl, hn, hx, hm, S1, H1⟩; refine r_lss (r_ifD (fun h => ?_) fun h => ?_)
 rotate_left
 ·rw [List.take_of_length_le (by omega)] at hm; exact k a x w1 hx hm S1 H1
 have hlt : n < ts.length := by omega
 have ht : ts.take (n + 1) = ts.take n ++ [ts[n]] := by rw [List.take_add_one, List.getElem?_eq_getElem hlt]; rfl
 have htn : ts[n]? = some ts[n] := List.getElem?_eq_getElem hlt; generalize ts[n] = t at *; refine r_getN i H1 hi htn (fun _ => rfl) ?_; refine r_new H1 fun tb w2 S2 H2 => ?_; rw [tr_zero] at H2; refine r_stA 0 H2 (vs := Ft t) rfl (Nat.le_refl 3) rfl rfl fun w3 S3 H3 => ?_; replace H3 : Holds w3 (blk tb tTe (Ft t) :: L) := H3; refine r_dr H3 fun w4 S4 H4 => ?_; refine r_ldA 0 H4 (Ft t) rfl rfl rfl ?_; refine r_getN (i + 1) H4 (by rw [List.getElem?_cons_succ]; exact hi) hx (fun _ => rfl) ?_; refine less_spec H4 fun w5 S5 H5 => ?_; have S6 := S1.trans (S2.trans (S3.trans (S4.trans S5))); refine r_ifD (fun hL => ?_) fun hL => ?_
 ·refine r_add1N (by omega) (r_ke ⟨⟨n, n + 1, t, rfl, rfl, by omega, htn, fun y hy => ?_, S6, H5.drop⟩, ?_⟩)
  ·rw [ht] at hy; rcases List.mem_append.1 hy with hy | hy
   ·have := hm y hy; unfold Less at *; omega
   ·rw [List.mem_singleton.1 hy]; unfold Less; omega
  ·simp only [nv, RowKit.intOf, Int.toNat_natCast]; omega
 ·refine r_add1N (by omega) (r_ke ⟨⟨a, n + 1, x, rfl, rfl, by omega, hx, fun y hy => ?_, S6, H5.drop⟩, ?_⟩)
  ·rw [ht] at hy; rcases List.mem_append.1 hy with hy | hy
   ·exact hm y hy
   ·rw [List.mem_singleton.1 hy]; exact hL
  ·simp only [nv, RowKit.intOf, Int.toNat_natCast]; omega
theorem without_spec {ts : List Tr} {v : Value} {i a : Nat} (H : Holds w L) (hi : L[i]? = some (RW Ft 3 tTe v ts)) (ha : a < ts.length) (hl : ts.length <= 1000000)
  (k : ∀ v' w', Same w w' -> Holds w' (RW Ft 3 tTe v' (ts.eraseIdx a) :: L) -> K v' w') : Cl Tryz.prog 238 #[v, nv a] w K := by
 refine Tz238 ?_; unfold Vz238; refine r_lnN i H hi ?_
 refine r_loop2 (fun p q w' => ∃ n : Nat, q = nv n /\ n <= ts.length /\ Same w w' /\ Holds w' (RW Ft 3 tTe p ((ts.take n).eraseIdx a) :: L)) (fun _ q _ => ts.length - (RowKit.intOf q).toNat)
  ⟨0, rfl, Nat.zero_le _, .refl _, by simpa using H.nilRW Ft 3 tTe⟩ ?_
 clear H; rintro _ p _ w1 ⟨n, rfl, hn, S1, H1⟩; refine r_lss (r_ifD (fun h => ?_) fun h => ?_)
 rotate_left
 ·rw [List.take_of_length_le (by omega)] at H1; exact k p w1 S1 H1
 have hlt : n < ts.length := by omega
 have ht : ts.take (n + 1) = ts.take n ++ [ts[n]] := by rw [List.take_add_one, List.getElem?_eq_getElem hlt]; rfl
 have htn : ts[n]? = some ts[n] := List.getElem?_eq_getElem hlt
 have htl : (ts.take n).length = n := by rw [List.length_take]; omega
 generalize ts[n] = t at *; refine r_getN (i + 1) H1 (by rw [List.getElem?_cons_succ]; exact hi) htn (fun _ => rfl) ?_; refine r_new H1 fun tb w2 S2 H2 => ?_; rw [tr_zero] at H2; refine r_stA 0 H2 (vs := Ft t) rfl (Nat.le_refl 3) rfl rfl fun w3 S3 H3 => ?_; replace H3 : Holds w3 (blk tb tTe (Ft t) :: RW Ft 3 tTe p ((ts.take n).eraseIdx a) :: L) := H3; refine r_neq (r_ifN (fun hne => ?_) fun he => ?_)
 ·refine r_ldA 0 H3 (Ft t) rfl rfl rfl ?_; refine r_appN H3 1 t rfl (by kernel_rfl) (fun y => rfl) Ft_sg (by have := List.length_eraseIdx_le (ts.take n) a; omega) (by decide) fun v' w4 S4 H4 => ?_; replace H4 : Holds w4 (blk tb tTe (Ft t) :: RW Ft 3 tTe v' ((ts.take n).eraseIdx a ++ [t]) :: L) := H4; refine r_add1N (by omega) (r_ke ⟨⟨n + 1, rfl, by omega, S1.trans (S2.trans (S3.trans S4)), ?_⟩, ?_⟩)
  ·have e : (ts.take (n + 1)).eraseIdx a = (ts.take n).eraseIdx a ++ [t] := by
    rw [ht]; rcases Nat.lt_or_ge a n with q | q
    ·rw [List.eraseIdx_append_of_lt_length (by omega)]
    ·rw [List.eraseIdx_of_length_le (by rw [List.length_append, List.length_singleton]; omega), List.eraseIdx_of_length_le (by omega)]
   rw [e]; exact H4.drop
  ·simp only [nv, RowKit.intOf, Int.toNat_natCast]; omega
 ·obtain rfl : n = a := by omega
  refine r_add1N (by omega) (r_ke ⟨⟨n + 1, rfl, by omega, S1.trans (S2.trans S3), ?_⟩, ?_⟩)
  ·have e : (ts.take (n + 1)).eraseIdx n = (ts.take n).eraseIdx n := by
    rw [ht, List.eraseIdx_append_of_length_le (by omega), htl, Nat.sub_self, List.eraseIdx_of_length_le (l := ts.take n) (by omega)]; simp
   rw [e]; exact H3.drop
  ·simp only [nv, RowKit.intOf, Int.toNat_natCast]; omega
def own (x : Tr) : HProp := SL nv tI (lsV x) x.ls
def nl (x : Tr) : Nat × List Nat := (x.no, x.ls)
theorem own_at {bag : List Tr} {x : Tr} (h : x ∈ bag) : ∃ q : Nat, (bag.map own ++ L)[q]? = some (own x) := by
 obtain ⟨q, hq, rfl⟩ := List.getElem_of_mem h; exact ⟨q, by rw [List.getElem?_append_left (by rw [List.length_map]; exact hq), List.getElem?_map, List.getElem?_eq_getElem hq]; rfl⟩
theorem perm_at {α : Type} {l : List α} {a : Nat} {x : α} (h : l[a]? = some x) : l.Perm (x :: l.eraseIdx a) := by
 obtain ⟨h1, h2⟩ := List.getElem?_eq_some_iff.1 h; subst h2
 have e : l = l.take a ++ l[a] :: l.drop (a + 1) := by rw [<- List.drop_eq_getElem_cons h1, List.take_append_drop]
 rw [List.eraseIdx_eq_take_drop_succ]; exact (List.Perm.of_eq e).trans List.perm_middle
theorem drop_bag {X : HProp} : ∀ (A : List HProp), Holds w (X :: (A ++ L)) -> Holds w (X :: L)
 | [], H => H
 | Y :: A, H => drop_bag A (Holds.dropAt H 1)
theorem least_of {s : HS} {l : List Tr} {x : Tr} {V : List Nat} (hV : (l.map (·.no)).Perm V) (hw : ∀ t ∈ l, t.wt = s.W.getD t.no 0) (hx : x ∈ l) (hm : ∀ y ∈ l, ¬ Less y x) : IsLeast s.W V x.no := by
 refine ⟨hV.mem_iff.1 (List.mem_map_of_mem hx), fun y hy hne => ?_⟩; obtain ⟨t, ht, rfl⟩ := List.mem_map.1 (hV.mem_iff.2 hy); rcases lt_total (W := s.W) hne with h | h
 ·refine absurd ?_ (hm t ht); unfold lt at h; unfold Less; rw [hw t ht, hw x hx]; exact h
 ·exact h
theorem Depths_spec {W : List Nat} {v : Value} {i : Nat} (H : Holds w L) (hi : L[i]? = some (SL nv tI v W)) (h2 : 2 <= W.length) (hW : W.length <= 258) (hw : ∀ x ∈ W, x <= 1099511627776)
  (k : ∀ v' out w', Depths W out -> Same w w' -> Holds w' (SL nv tI v' out :: L) -> K v' w') : Cl Tryz.prog 206 #[v] w K := by
 refine Tz206 ?_; unfold Vz206; have hT : Tot (h0 W) <= 258 * 1099511627776 := Nat.le_trans (tot0 hw) (Nat.mul_le_mul_right _ hW); refine r_lnS i H hi (r_lnS i H hi ?_)
 refine r_loop2 (fun p x w' => ∃ (m : Nat) (ts bag : List Tr), x = nv m /\ m <= W.length /\ ts.map nl = (List.range m).map (fun i => (i, [i])) /\ (∀ t ∈ ts, t.wt = W.getD t.no 0 /\ t ∈ bag /\ t.ls ≠ []) /\ Same w w' /\ Holds w' (RW Ft 3 tTe p ts :: (bag.map own ++ L))) (fun _ x _ => W.length - (RowKit.intOf x).toNat)
  ⟨0, [], [], rfl, Nat.zero_le _, rfl, by simp, .refl _, H.nilRW Ft 3 tTe⟩ ?_
 clear H; rintro _ p _ w1 ⟨m, ts, bag, rfl, hm, hts, htb, S1, H1⟩
 have htl : ts.length = m := by have := congrArg List.length hts; simpa using this
 refine r_lss (r_ifD (fun h => ?_) fun h => ?_)
 ·have hlt : m < W.length := by omega
  have hg : W[m]? = some (W.getD m 0) := by rw [List.getD_eq_getElem?_getD, List.getElem?_eq_getElem hlt]; rfl
  have hwi : (RW Ft 3 tTe p ts :: (bag.map own ++ L))[bag.length + i + 1]? = some (SL nv tI v W) := by
   rw [List.getElem?_cons_succ, List.getElem?_append_right (by rw [List.length_map]; omega), List.length_map, Nat.add_sub_cancel_left]; exact hi
  refine r_getS _ H1 hwi hg ?_; refine r_bs1 (e := tI) H1 rfl fun b w2 S2 H2 => ?_; have H3 := SL_of_blk (f := nv) 0 [m] H2 rfl; obtain ⟨t, ht⟩ : ∃ t : Tr, t = ⟨W.getD m 0, m, b, 1, [m]⟩ := ⟨_, rfl⟩
  replace H3 : Holds w2 (own t :: RW Ft 3 tTe p ts :: (bag.map own ++ L)) := by rw [ht]; exact H3
  refine r_bd (v := .agg (Ft t).toArray) (by rw [ht]; kernel_rfl) ?_; refine r_appN H3 1 t rfl (by rw [ht]; kernel_rfl) (fun y => rfl) Ft_sg (by omega) (by decide) fun v' w4 S4 H4 => ?_; replace H4 : Holds w4 (own t :: RW Ft 3 tTe v' (ts ++ [t]) :: (bag.map own ++ L)) := H4; refine r_add1N (by omega) (r_ke ⟨⟨m + 1, ts ++ [t], t :: bag, rfl, by omega, ?_, fun u hu => ?_, S1.trans (S2.trans S4), H4.swap⟩, ?_⟩)
  ·rw [List.map_append, hts, List.range_succ, List.map_append, ht]; rfl
  ·rcases List.mem_append.1 hu with hu | hu
   ·obtain ⟨e1, e2, e3⟩ := htb u hu; exact ⟨e1, List.mem_cons_of_mem _ e2, e3⟩
   ·rw [List.mem_singleton.1 hu]; exact ⟨by rw [ht], List.mem_cons_self .., by rw [ht]; simp⟩
  ·simp only [nv, RowKit.intOf, Int.toNat_natCast]; omega
 obtain rfl : m = W.length := by omega
 refine r_ms (f := nv) (x := 0) H1 rfl (by omega) (by omega) fun ob w2 S2 H2 => ?_; rw [Int.toNat_natCast] at H2 ⊢; have H3 := H2.close 0 rfl; simp only [List.set_cons_zero, List.length_replicate, List.length_nil, Nat.add_zero] at H3; generalize hv : Value.slice (some ⟨ob, 0, none⟩) W.length W.length = ov at H3 ⊢
 have hz : ∀ x, (List.replicate W.length 0).getD x 0 = 0 := fun x => by
  rw [List.getD_eq_getElem?_getD, List.getElem?_replicate]
  split <;> rfl
 refine r_loop2 (fun p y w' => ∃ (q : Nat) (s : HS) (ts bag : List Tr) (out : List Nat), y = nv (W.length + q) /\ q <= W.length - 1 /\ Joins (h0 W) q s /\ Forest W.length s (ts.map nl) out /\ (∀ t ∈ ts, t.wt = s.W.getD t.no 0 /\ t ∈ bag /\ t.ls ≠ []) /\ Tot s = Tot (h0 W) /\ (∀ x, out.getD x 0 <= q * 258) /\ Same w w' /\
   Holds w' (RW Ft 3 tTe p ts :: SL nv tI ov out :: (bag.map own ++ L))) (fun _ y _ => 1000 - (RowKit.intOf y).toNat)
  ⟨0, h0 W, ts, bag, List.replicate W.length 0, rfl, Nat.zero_le _, .start, by rw [hts]; exact forest0 W, htb, rfl, fun x => by rw [hz]; omega, S1.trans S2, H3.swap⟩ ?_
 clear H1 H2 H3 S1 S2 hts htb htl; clear ts bag; rintro _ p _ w3 ⟨q, s, ts, bag, out, rfl, hq, hJ, hF, htb, hTt, hb, S3, H3⟩; obtain ⟨hg, hVl, hWl⟩ := joins_good hJ
 have hpV : (ts.map (·.no)).Perm s.V := by
  have := hF.perm; rw [List.map_map] at this; exact this
 have htl : ts.length = s.V.length := by rw [<- hpV.length_eq, List.length_map]
 refine r_lnN 0 H3 rfl ?_; refine r_gtr (r_ifD (fun h => ?_) fun h => ?_)
 rotate_left
 ·obtain ⟨r, hr⟩ := List.length_eq_one_iff.1 (show s.V.length = 1 by omega)
  obtain rfl : q = W.length - 1 := by omega
  refine k ov out w3 ⟨s, r, hJ, hr, hF.len, fun x hx => ?_⟩ S3 ?_
  ·obtain ⟨t, ht, hxt⟩ := List.mem_flatMap.1 (hF.leaves.mem_iff.2 (List.mem_range.2 hx)); have := hF.up t ht x hxt; have e : t.1 ∈ s.V := hF.perm.mem_iff.1 (List.mem_map_of_mem ht); rw [hr] at e; rw [List.mem_singleton.1 e] at this; exact this
  ·exact drop_bag _ H3.drop
 have hn1 : q < W.length - 1 := by omega
 refine P35.least_spec H3 (i := 0) rfl (fun e => by rw [e] at h; simp at h) (by omega) fun a x w4 hx hxm S4 H4 => ?_; refine r_getN 0 H4 rfl hx (fun _ => rfl) ?_; refine r_new H4 fun xb w5 S5 H5 => ?_; rw [tr_zero] at H5; refine r_stA 0 H5 (vs := Ft x) rfl (Nat.le_refl 3) rfl rfl fun w6 S6 H6 => ?_; replace H6 : Holds w6 (blk xb tTe (Ft x) :: RW Ft 3 tTe p ts :: SL nv tI ov out :: (bag.map own ++ L)) := H6; have hal := (List.getElem?_eq_some_iff.1 hx).1; have hpx := perm_at hx; refine without_spec H6 (i := 1) rfl hal (by omega) fun p1 w7 S7 H7 => ?_; generalize ts.eraseIdx a = ts1 at *
 have hts1 : ts1.length + 1 = ts.length := by rw [hpx.length_eq, List.length_cons]
 refine P35.least_spec H7 (i := 0) rfl (fun e => by rw [e, List.length_nil] at hts1; omega) (by omega) fun b y w8 hy hym S8 H8 => ?_; refine r_getN 0 H8 rfl hy (fun _ => rfl) ?_; refine r_new H8 fun yb w9 S9 H9 => ?_; rw [tr_zero] at H9; refine r_stA 0 H9 (vs := Ft y) rfl (Nat.le_refl 3) rfl rfl fun w10 S10 H10 => ?_; replace H10 : Holds w10 (blk yb tTe (Ft y) :: RW Ft 3 tTe p1 ts1 :: blk xb tTe (Ft x) :: RW Ft 3 tTe p ts :: SL nv tI ov out :: (bag.map own ++ L)) := H10; have hbl := (List.getElem?_eq_some_iff.1 hy).1; have hpy := perm_at hy; refine without_spec H10 (i := 1) rfl hbl (by omega) fun p2 w11 S11 H11 => ?_; generalize ts1.eraseIdx b = ts2 at *; have hxt : x ∈ ts := hpx.mem_iff.2 (List.mem_cons_self ..); have hyt1 : y ∈ ts1 := hpy.mem_iff.2 (List.mem_cons_self ..); have hyt : y ∈ ts := hpx.mem_iff.2 (List.mem_cons_of_mem _ hyt1); have hw1 : ∀ t ∈ ts1, t.wt = s.W.getD t.no 0 := fun t ht => (htb t (hpx.mem_iff.2 (List.mem_cons_of_mem _ ht))).1; have lx := least_of hpV (fun t ht => (htb t ht).1) hxt hxm
 have hpV1 : (ts1.map (·.no)).Perm (s.V.erase x.no) := by
  have h5 := (hpV.symm.trans (hpx.map _)).erase x.no; rw [List.map_cons, List.erase_cons_head] at h5; exact h5.symm
 have ly := least_of hpV1 hw1 hyt1 hym; obtain ⟨s', hs'⟩ : ∃ s' : HS, s' = ⟨s.W ++ [s.W.getD x.no 0 + s.W.getD y.no 0], ((s.I.set x.no (some s.W.length)).set y.no (some s.W.length)) ++ [none], s.W.length :: (s.V.erase x.no).erase y.no⟩ := ⟨_, rfl⟩
 have jn : Join s s' x.no y.no := by rw [hs']; exact ⟨lx, ly, rfl, rfl, .refl _⟩
 have hF2 := forest_join (x := nl x) (y := nl y) (l1 := ts1.map nl) (l2 := ts2.map nl) hg hF (hpx.map nl) (hpy.map nl) jn; have tt := tot_two lx.1 ly.1; obtain ⟨ls, hls⟩ : ∃ ls, ls = x.ls ++ y.ls := ⟨_, rfl⟩
 have hlsW : ∀ z ∈ ls, z < W.length := by
  intro z hz; refine List.mem_range.1 (hF.leaves.mem_iff.1 ?_); rw [hls] at hz; rcases List.mem_append.1 hz with h5 | h5
  ·exact List.mem_flatMap.2 ⟨nl x, List.mem_map_of_mem hxt, h5⟩
  ·exact List.mem_flatMap.2 ⟨nl y, List.mem_map_of_mem hyt, h5⟩
 have hlsl : ls.length <= W.length := by
  have h5 := ((hpx.trans (hpy.cons _)).map nl).flatMap_right (·.2); have h6 := (h5.symm.trans hF.leaves).length_eq; simp only [List.map_cons, List.flatMap_cons, List.length_append, List.length_range] at h6
  have h7 : ls.length = x.ls.length + y.ls.length := by rw [hls, List.length_append]
  have h8 : (nl x).2.length = x.ls.length := rfl; have h9 : (nl y).2.length = y.ls.length := rfl; omega
 obtain ⟨ix, hix⟩ := own_at (L := L) (htb x hxt).2.1; obtain ⟨iy, hiy⟩ := own_at (L := L) (htb y hyt).2.1; refine r_fo0 (r_ld 3 H11 rfl rfl ?_); have H12 := H11.nilSL nv tI; refine r_apS (f := nv) (xs := []) H12 0 (ix + 7) (by omega) rfl (ys := x.ls) hix (fun _ => rfl) (by rw [hls, List.length_append] at hlsl; simp only [List.length_nil]; omega) fun lv1 w12 S12 H13 => ?_; rw [List.set_cons_zero, List.nil_append] at H13; refine r_fo0 (r_ld 2 H13 rfl rfl ?_); refine r_apS (f := nv) (xs := x.ls) H13 0 (iy + 7) (by omega) rfl (ys := y.ls) hiy (fun _ => rfl) (by rw [hls, List.length_append] at hlsl; omega) fun lv2 w13 S13 H14 => ?_; rw [List.set_cons_zero, <- hls] at H14; have H15 : Holds w13 (SL nv tI lv2 ls :: RW Ft 3 tTe p2 ts2 :: blk yb tTe (Ft y) :: blk xb tTe (Ft x) :: SL nv tI ov out :: (bag.map own ++ L)) := H14.ord 7 [0, 1, 2, 4, 6] rfl; refine r_lnS 0 H15 rfl ?_; have S15 := S3.trans (S4.trans (S5.trans (S6.trans (S7.trans (S8.trans (S9.trans (S10.trans (S11.trans (S12.trans S13)))))))))
 refine r_loop1 (fun z w' => ∃ t : Nat, z = nv t /\ t <= ls.length /\ Same w w' /\ Holds w' (SL nv tI lv2 ls :: RW Ft 3 tTe p2 ts2 :: blk yb tTe (Ft y) :: blk xb tTe (Ft x) :: SL nv tI ov (incL out (ls.take t)) :: (bag.map own ++ L))) (fun z _ => ls.length - (RowKit.intOf z).toNat)
  ⟨0, rfl, Nat.zero_le _, S15, H15⟩ ?_
 clear H3 H4 H5 H6 H7 H8 H9 H10 H11 H12 H13 H14 H15 S3 S4 S5 S6 S7 S8 S9 S10 S11 S12 S13 S15; rintro _ _ w4 ⟨t, rfl, ht, S4, H4⟩; refine r_lss (r_ifD (fun h5 => ?_) fun h5 => ?_)
 ·have hlt : t < ls.length := by omega
  have htk : ls.take (t + 1) = ls.take t ++ [ls[t]] := by rw [List.take_add_one, List.getElem?_eq_getElem hlt]; rfl
  have hzt : ls[t]? = some ls[t] := List.getElem?_eq_getElem hlt; have hzW := hlsW _ (List.getElem_mem hlt); generalize ls[t] = z at *
  have hol : (incL out (ls.take t)).length = W.length := by rw [incL_len, hF.len]
  have hob := incL_le (ls.take t) out z; rw [List.length_take] at hob; have hbz := hb z; refine r_getS 0 H4 rfl hzt ?_; refine r_getS 4 H4 (j := z) rfl (x := (incL out (ls.take t)).getD z 0) (by rw [List.getD_eq_getElem?_getD, List.getElem?_eq_getElem (by omega)]; rfl) ?_; refine r_add1N (by omega) ?_; refine r_setS 4 H4 ((incL out (ls.take t)).getD z 0 + 1) rfl (by omega) rfl fun w5 S5 H5 => ?_; refine r_add1N (by omega) (r_ke ⟨⟨t + 1, rfl, by omega, S4.trans S5, ?_⟩, ?_⟩)
  ·rw [htk, incL_snoc]; exact H5
  ·simp only [nv, RowKit.intOf, Int.toNat_natCast]; omega
 rw [List.take_of_length_le (by omega)] at H4; have hxw := (htb x hxt).1; have hyw := (htb y hyt).1; refine r_fo0 (r_ld 3 H4 rfl rfl (r_fo0 (r_ld 2 H4 rfl rfl ?_))); refine r_addN (by omega) ?_; have hlsne : ls ≠ [] := fun e => (htb x hxt).2.2 (List.append_eq_nil_iff.1 (hls.symm.trans e)).1; obtain ⟨oa, sp, rfl, H5⟩ := H4.open 0 rfl
 obtain ⟨lb, rfl⟩ : ∃ lb, oa = some ⟨lb, 0, none⟩ := by
  cases oa with
  | none =>
   obtain ⟨g, ⟨h6, _⟩, _⟩ := H5.front 0 rfl; exact absurd h6 hlsne
  | some a =>
   obtain ⟨g, ⟨h6, h7, _⟩, _⟩ := H5.front 0 rfl; obtain ⟨b, o, s⟩ := a; simp only at h6 h7; subst h6; subst h7; exact ⟨b, rfl⟩
 obtain ⟨u, hu⟩ : ∃ u : Tr, u = ⟨x.wt + y.wt, W.length + q, lb, ls.length + sp.length, ls⟩ := ⟨_, rfl⟩
 replace H4 : Holds w4 (own u :: RW Ft 3 tTe p2 ts2 :: blk yb tTe (Ft y) :: blk xb tTe (Ft x) :: SL nv tI ov (incL out ls) :: (bag.map own ++ L)) := by rw [hu]; exact H4
 refine r_bd (v := .agg (Ft u).toArray) (by rw [hu]; kernel_rfl) ?_
 have hts2 : ts2.length + 1 = ts1.length := by rw [hpy.length_eq, List.length_cons]
 refine r_appN H4 1 u rfl (by rw [hu]; kernel_rfl) (fun y => rfl) Ft_sg (by omega) (by decide) fun p3 w5 S5 H6 => ?_; have H7 : Holds w5 (RW Ft 3 tTe p3 (ts2 ++ [u]) :: SL nv tI ov (incL out ls) :: ((u :: bag).map own ++ L)) := H6.ord 5 [1, 4, 0] rfl; refine r_add1N (by omega) (r_ke ⟨⟨q + 1, s', ts2 ++ [u], u :: bag, incL out ls, by rw [Nat.add_assoc], by omega, hJ.next jn, ?_, fun t2 ht2 => ?_, (tot_join hg jn).trans hTt, fun z => ?_, S4.trans S5, H7⟩, ?_⟩)
 ·rw [List.map_append, hls]
  have e : [u].map nl = [(s.W.length, (nl x).2 ++ (nl y).2)] := by rw [hu, hWl, hls]; rfl
  rw [e]; exact hF2
 ·rcases List.mem_append.1 ht2 with h6 | h6
  ·have h7 := htb t2 (hpx.mem_iff.2 (List.mem_cons_of_mem _ (hpy.mem_iff.2 (List.mem_cons_of_mem _ h6)))); refine ⟨?_, List.mem_cons_of_mem _ h7.2.1, h7.2.2⟩; rw [jn.W, getD_app]
   ·exact h7.1
   ·refine hg.lt _ (hpV.mem_iff.1 (List.mem_map_of_mem (hpx.mem_iff.2 (List.mem_cons_of_mem _ (hpy.mem_iff.2 (List.mem_cons_of_mem _ h6))))))
  ·rw [List.mem_singleton.1 h6]; refine ⟨?_, List.mem_cons_self .., by rw [hu]; exact hlsne⟩; rw [jn.W, hu]; show x.wt + y.wt = (s.W ++ _).getD (W.length + q) 0; rw [<- hWl, getD_end, hxw, hyw]
 ·have h6 := incL_le ls out z; have h7 := hb z; omega
 ·simp only [nv, RowKit.intOf, Int.toNat_natCast]; omega
end P35
namespace S16
open Go.Mr Go.M18
variable {w : World} {L : List HProp} {K : Value -> World -> Prop} {b n : Nat} {s : List UInt8} {x : SS}
section
variable {α : Type} {P : Program}
theorem RW_pop (i : Nat) (H : Holds w L) {F : α -> List Value} {k : Nat} {e : TypeId} {v : Value} {ys : List α} {p : α} (hF : ∀ y, (F y).length = k) (hi : L[i]? = some (RW F k e v (ys ++ [p]))) :
  ∃ oa c, v = .slice oa (ys.length + 1) c /\ ys.length + 1 <= c /\ Holds w (L.set i (RW F k e (.slice oa ys.length c) ys)) := by
 obtain ⟨oa, m, sp, rfl, H1⟩ := H.openRW i hi; refine ⟨oa, (ys ++ [p]).length + m, by rw [List.length_append, List.length_singleton], by rw [List.length_append, List.length_singleton]; omega, ?_⟩
 have h2 := H1.at i (set_get hi) (Q := RW F k e (.slice oa ys.length ((ys ++ [p]).length + m)) ys) fun g hg => by
  refine ⟨oa, m + 1, F p ++ sp, by rw [List.length_append, List.length_singleton, show ys.length + 1 + m = ys.length + (m + 1) by omega], ?_⟩
  cases oa with
  | none =>
   obtain ⟨h, _⟩ := hg; simp at h
  | some a =>
   obtain ⟨h1, h2, h3, h4⟩ := hg; refine ⟨h1, h2, by rw [List.length_append, hF, h3, Nat.add_mul]; omega, ?_⟩; rw [flatL_app] at h4
   have e1 : flatL F [p] = F p := by simp [flatL]
   rw [e1, List.append_assoc] at h4; exact h4
 rw [List.set_set] at h2; exact h2
theorem r_fldN (i : Nat) (H : Holds w L) {F : α -> List Value} {k : Nat} {e : TypeId} {v : Value} {xs : List α} {q j : Nat} {kk : IntKind} {y : α} {u : Value} {K : Value -> Prop} (hi : L[i]? = some (RW F k e v xs)) (hx : xs[q]? = some y) (hF : ∀ y, (F y).length = k)
  (hj : (F y)[j]? = some u) (h : K u) : Ias k v (.int kk (q : Int)) fun p => Fo j p fun z => Ld z w K := by
 have hlt : q < xs.length := (List.getElem?_eq_some_iff.1 hx).1; obtain ⟨oa, m, sp, rfl, H1⟩ := H.openRW i hi; obtain ⟨bb, rfl, hsp, Hb⟩ := H1.rwb i (set_get hi) (.inl (by omega)); refine r_ias0 hlt (r_fo ?_); refine r_ld i Hb (set_get (set_get hi)) ?_ h; have h1 := flatL_get hF xs q y hx
 have hjk : j < k := by rw [<- hF y]; exact (List.getElem?_eq_some_iff.1 hj).1
 have hlen := flatL_len (k := k) hF xs
 have hq : q * k + k <= xs.length * k := by
  have : (q + 1) * k <= xs.length * k := Nat.mul_le_mul_right _ (by omega); rw [Nat.add_mul, Nat.one_mul] at this; exact this
 rw [List.getElem?_append_left (by omega), <- hj, <- h1, List.getElem?_take_of_lt hjk, List.getElem?_drop]
end
abbrev tSo : Nat := 250
abbrev tPt : Nat := 248
abbrev tK : Nat := 51
instance rowPt : RowN Tryz.prog 246 tPt 3 := ⟨by kernel_rfl, ⟨Tryz.t248, .agg #[iv 0, iv 0, iv 0], by kernel_rfl, by kernel_rfl, by decide, by kernel_rfl, by kernel_rfl⟩⟩
abbrev St_ (s : List UInt8) : Value := .string ⟨s.toArray⟩
def Fp (p : Pt) : List Value := [nv p.lo, nv p.mid, nv p.hi]
theorem Fp_sg : ∀ y : Pt, ∀ u ∈ Fp y, sg u = true := by
 intro y u hu; unfold Fp at hu; rcases List.mem_cons.1 hu with rfl | hu
 ·rfl
 rcases List.mem_cons.1 hu with rfl | hu
 ·rfl
 rw [List.mem_singleton.1 hu]; rfl
def soC (s : List UInt8) (ov cv av kv : Value) (x : SS) (n : Nat) : List Value := [St_ s, ov, cv, av, nv x.reach, kv, nv x.merge.lo, nv x.merge.mid, nv x.merge.hi, nv x.laid, nv x.first, nv x.second, nv x.ranked, nv x.last, nv n, .bool x.done]
def soL (b : Nat) (s : List UInt8) (ov cv av kv : Value) (x : SS) (n : Nat) : List HProp := [blk b tSo (soC s ov cv av kv x n), SL nv tI ov x.order, SL nv tI cv x.cls, SL nv tI av x.aside, RW Fp 3 tPt kv x.stack.reverse]
def SoR (b : Nat) (s : List UInt8) (x : SS) (n : Nat) : HProp := fun h => ∃ ov cv av kv, Sat (soL b s ov cv av kv x n) h
theorem SoR_open (H : Holds w (SoR b s x n :: L)) : ∃ ov cv av kv, Holds w (soL b s ov cv av kv x n ++ L) := by
 obtain ⟨ov, H⟩ := Holds.ex H; obtain ⟨cv, H⟩ := Holds.ex H; obtain ⟨av, H⟩ := Holds.ex H; obtain ⟨kv, H⟩ := Holds.ex H; exact ⟨ov, cv, av, kv, Holds.unpack H⟩
theorem SoR_close {ov cv av kv : Value} (H : Holds w (soL b s ov cv av kv x n ++ L)) : Holds w (SoR b s x n :: L) := Holds.imp (Holds.pack H) fun _ hh => ⟨ov, cv, av, kv, hh⟩
structure Sz (s : List UInt8) (x : SS) : Prop where
 len : s.length <= 4000
 cl : x.cls.length = s.length
 al : x.aside.length = s.length
 ol : x.order.length = s.length
 reach : x.reach <= 8000
theorem key_spec {ov cv av kv : Value} {a : Nat} (H : Holds w (soL b s ov cv av kv x n ++ L)) (hz : Sz s x) (ha : a < s.length)
  (k : ∀ w', Same w w' -> Holds w' (soL b s ov cv av kv x n ++ L) -> K (.agg #[nv (keyS s x a).1, nv (keyS s x a).2]) w') : Cl Tryz.prog 269 #[pt b, nv a] w K := by
 refine Tz269 ?_; unfold Vz269; have hlen := hz.len; have hcl := hz.cl; have hre := hz.reach
 have hzz : (zeroP Tryz.prog tK).cells.toList = [iv 0, iv 0] := by kernel_rfl
 have hsz : (⟨s.toArray⟩ : ByteArray).size = s.length := by simp [ByteArray.size]
 refine r_new H fun kb w1 S1 H1 => ?_; rw [hzz] at H1; refine r_nc (r_fo0 (r_ld 1 H1 rfl rfl ?_)); refine r_eql (r_ifE (fun h => ?_) fun h => ?_)
 ·refine r_nc (r_fo0 (r_ld 1 H1 rfl rfl ?_)); refine r_ixsN (by rw [hsz]; exact ha) ?_; have hc : ((⟨s.toArray⟩ : ByteArray).data.toList.getD a 0).toNat < 256 := UInt8.toNat_lt _; refine r_ci64 (by omega) (by omega) ?_
  have ek : keyS s x a = ((s.getD a 0).toNat, 0) := by unfold keyS; rw [if_pos (by omega)]
  rw [ek] at k; refine r_bd (v := .agg #[nv (s.getD a 0).toNat, nv 0]) (by kernel_rfl) ?_; refine r_stA 0 H1 (vs := [nv (s.getD a 0).toNat, nv 0]) rfl (by decide) rfl rfl fun w2 S2 H2 => ?_; refine r_ldA 0 H2 [nv (s.getD a 0).toNat, nv 0] rfl rfl rfl ?_; exact k _ (S1.trans S2) H2.drop
 ·refine r_dr H1 fun w2 S2 H2 => ?_; refine r_nc (r_fo0 (r_ld 1 H2 rfl rfl ?_)); refine r_getS 3 H2 rfl (getD_at (by omega)) ?_; refine r_nc (r_fo0 (r_ld 1 H2 rfl rfl ?_)); refine r_nc (r_fo0 (r_ld 1 H2 rfl rfl ?_)); refine r_addN (by omega) ?_; refine r_nc (r_fo0 (r_ld 1 H2 rfl rfl ?_)); refine r_lns ?_; rw [hsz]; refine r_remE (r := (((a + x.reach) % s.length : Nat) : Int)) (by rw [Int.tmod_eq_emod_of_nonneg (by omega)]; rfl) (by omega) ?_; have hm : (a + x.reach) % s.length < s.length := Nat.mod_lt _ (by omega); refine r_getS 3 H2 rfl (getD_at (i := (a + x.reach) % s.length) (by omega)) ?_
  have ek : keyS s x a = (x.cls.getD a 0, x.cls.getD ((a + x.reach) % s.length) 0) := by unfold keyS; rw [if_neg (by omega)]
  rw [ek] at k; refine r_bd (v := .agg #[nv (x.cls.getD a 0), nv (x.cls.getD ((a + x.reach) % s.length) 0)]) (by kernel_rfl) ?_; refine r_stA 0 H2 (vs := [nv (x.cls.getD a 0), nv (x.cls.getD ((a + x.reach) % s.length) 0)]) rfl (by simp) rfl rfl fun w3 S3 H3 => ?_; refine r_ldA 0 H3 [nv (x.cls.getD a 0), nv (x.cls.getD ((a + x.reach) % s.length) 0)] rfl rfl rfl ?_; exact k _ (S1.trans (S2.trans S3)) H3.drop
theorem above_spec {ov cv av kv : Value} {a c : Nat} (H : Holds w (soL b s ov cv av kv x n ++ L)) (hz : Sz s x) (ha : a < s.length) (hc : c < s.length)
  (k : ∀ w', Same w w' -> Holds w' (soL b s ov cv av kv x n ++ L) -> K (.bool (decide (klt (keyS s x c) (keyS s x a)))) w') : Cl Tryz.prog 250 #[pt b, nv a, nv c] w K := by
 refine Tz250 ?_; unfold Vz250
 have hzz : (zeroP Tryz.prog tK).cells.toList = [iv 0, iv 0] := by kernel_rfl
 refine key_spec H hz ha fun w1 S1 H1 => ?_; refine key_spec H1 hz hc fun w2 S2 H2 => ?_; generalize keyS s x a = p at *; generalize keyS s x c = q at *; refine r_new H2 fun kb w3 S3 H3 => ?_; rw [hzz] at H3; refine r_new H3 fun lb w4 S4 H4 => ?_; rw [hzz] at H4; refine r_stA 1 H4 (vs := [nv p.1, nv p.2]) rfl (by decide) rfl rfl fun w5 S5 H5 => ?_; refine r_stA 0 H5 (vs := [nv q.1, nv q.2]) rfl (by decide) rfl rfl fun w6 S6 H6 => ?_; replace H6 : Holds w6 (blk lb tK [nv q.1, nv q.2] :: blk kb tK [nv p.1, nv p.2] :: (soL b s ov cv av kv x n ++ L)) := H6; have S := S1.trans (S2.trans (S3.trans (S4.trans (S5.trans S6))))
 have fin : ∀ t : Bool, t = decide (klt q p) -> K (.bool t) w6 := fun t e => by rw [e]; exact k w6 S H6.drop.drop
 refine r_iaaN (m := 0) (by decide) (r_ld 1 H6 rfl rfl ?_); refine r_iaaN (m := 0) (by decide) (r_ld 0 H6 rfl rfl ?_); refine r_gtr (r_ifD (fun h => ?_) fun h => ?_)
 ·exact fin true (decide_eq_true (.inl (by omega))).symm
 refine r_iaaN (m := 0) (by decide) (r_ld 1 H6 rfl rfl ?_); refine r_iaaN (m := 0) (by decide) (r_ld 0 H6 rfl rfl ?_); refine r_eql (r_ifE (fun h2 => ?_) fun h2 => ?_)
 ·refine r_iaaN (m := 1) (by decide) (r_ld 1 H6 rfl rfl ?_); refine r_iaaN (m := 1) (by decide) (r_ld 0 H6 rfl rfl ?_); refine r_gtr (fin _ ?_); exact decide_eq_decide.2 (by unfold klt; omega)
 ·exact fin false (decide_eq_false (by unfold klt; omega)).symm
theorem join_spec (H : Holds w (SoR b s x n :: L)) (hst : x.stack.length <= 100000000)
  (k : ∀ w', Same w w' -> Holds w' (SoR b s (joinS x) n :: L) -> K (.tuple #[]) w') : Cl Tryz.prog 222 #[pt b] w K := by
 refine Tz222 ?_; unfold Vz222; obtain ⟨ov, cv, av, kv, H⟩ := SoR_open H; refine r_nc (r_fo0 (r_ld 0 H rfl rfl ?_)); refine P35.r_lnN 4 H rfl ?_; rw [List.length_reverse]
 have hnone : joinS x = x -> ∀ w', Same w w' -> Holds w' (soL b s ov cv av kv x n ++ L) -> K (.tuple #[]) w' := fun e w' S' H' => by
  rw [e] at k; exact k w' S' (SoR_close H')
 cases hs : x.stack with
 | nil =>
  have ej : joinS x = x := by unfold joinS; rw [hs]
  refine r_sub (by simp) (by simp) ?_; refine r_join1 (fun t w' => w = w' /\ t = .bool true) ?_ ?_
  rotate_left
  ·exact r_lss (r_vtD (by simp) (r_ke ⟨rfl, rfl⟩))
  rintro _ _ _ ⟨rfl, rfl⟩; exact r_vt (hnone ej _ (.refl _) H)
 | cons p st =>
  rw [hs] at hst; simp only [List.length_cons] at hst
  have ej : joinS x = if x.merge.hi = 0 /\ p.mid ≠ 0 then { x with merge := p, stack := st, laid := 0, first := 0, second := p.mid } else x := by unfold joinS; rw [hs]
  have hrev : x.stack.reverse = st.reverse ++ [p] := by rw [hs, List.reverse_cons]
  have hget : x.stack.reverse[st.length]? = some p := by rw [hrev, List.getElem?_append_right (by simp), List.length_reverse, Nat.sub_self]; rfl
  refine r_sub1N (a := (p :: st).length) (by simp) (by simp; omega) ?_; rw [show (p :: st).length - 1 = st.length by simp]; refine r_join1 (fun t w' => w = w' /\ t = .bool (decide (¬ (x.merge.hi = 0 /\ p.mid ≠ 0)))) ?_ ?_
  rotate_left
  ·refine r_lss (r_vfD (by omega) ?_); refine r_nc (r_fo (r_fo (r_ld 0 H rfl rfl ?_))); refine r_gtr (r_ifD (fun h => ?_) fun h => ?_)
   ·exact r_ke ⟨rfl, by rw [decide_eq_true (show ¬ (x.merge.hi = 0 /\ p.mid ≠ 0) from fun e => by omega)]⟩
   ·refine r_nc (r_fo0 (r_ld 0 H rfl rfl ?_)); refine r_fldN 4 H rfl hget (fun _ => rfl) (j := 1) rfl ?_; refine r_eql (r_ke ⟨rfl, ?_⟩); rw [show (((p.mid : Nat) : Int) == 0) = decide (¬ (x.merge.hi = 0 /\ p.mid ≠ 0)) from by rw [Bool.eq_iff_iff, beq_iff_eq, decide_eq_true_iff]; omega]
  rintro _ _ _ ⟨rfl, rfl⟩; refine r_ifD (fun h => ?_) fun h => ?_
  ·rw [if_neg h] at ej; exact hnone ej _ (.refl _) H
  ·have h' : x.merge.hi = 0 /\ p.mid ≠ 0 := Classical.byContradiction h; rw [if_pos h'] at ej; refine r_nc (r_fo0 (r_ld 0 H rfl rfl ?_)); refine P35.r_getN 4 H rfl hget (fun _ => rfl) ?_; refine r_nc (r_fo ?_); refine r_stA 0 H (vs := Fp p) rfl (by simp [soC]) rfl rfl fun w1 S1 H1 => ?_
   have H1' : Holds w1 (blk b tSo [St_ s, ov, cv, av, nv x.reach, kv, nv p.lo, nv p.mid, nv p.hi, nv x.laid, nv x.first, nv x.second, nv x.ranked, nv x.last, nv n, .bool x.done] :: SL nv tI ov x.order :: SL nv tI cv x.cls :: SL nv tI av x.aside :: RW Fp 3 tPt kv (st.reverse ++ [p]) :: L) := by
    rw [<- hrev]; exact H1
   clear H1; refine r_nc (r_fo0 (r_ld 0 H1' rfl rfl ?_)); obtain ⟨oa, c, rfl, hc, H2⟩ := RW_pop (F := Fp) (k := 3) (ys := st.reverse) (p := p) 4 H1' (fun _ => rfl) rfl; rw [List.length_reverse] at hc H2 ⊢; refine r_ssl0 (by omega) ?_; refine r_nc (r_fo0 ?_); refine r_st 0 H2 rfl (by simp) rfl fun w3 S3 H3 => ?_; refine r_nc (r_fo0 ?_); refine r_st 0 H3 rfl (by simp) rfl fun w4 S4 H4 => ?_; refine r_nc (r_fo0 ?_); refine r_st 0 H4 rfl (by simp) rfl fun w5 S5 H5 => ?_; refine r_nc (r_fo (r_fo ?_)); replace H5 : Holds w5 (blk b tSo [St_ s, ov, cv, av, nv x.reach, .slice oa st.length c, nv p.lo, nv p.mid, nv p.hi, nv 0, nv 0, nv x.second, nv x.ranked, nv x.last, nv n, .bool x.done] :: SL nv tI ov x.order :: SL nv tI cv x.cls :: SL nv tI av x.aside :: RW Fp 3 tPt (.slice oa st.length c) st.reverse :: L) := H5; refine r_ld 0 H5 rfl rfl ?_; refine r_nc (r_fo0 ?_); refine r_st 0 H5 rfl (by simp) rfl fun w6 S6 H6 => ?_; rw [ej] at k; exact k _ (S1.trans (S3.trans (S4.trans (S5.trans S6)))) (SoR_close (ov := ov) (cv := cv) (av := av) (kv := .slice oa st.length c) H6)
theorem lay_spec (H : Holds w (SoR b s x n :: L)) (hz : Sz s x) (h1 : x.laid < x.aside.length) (h2 : x.merge.lo + x.laid < x.order.length)
  (k : ∀ w', Same w w' -> Holds w' (SoR b s (layS x) n :: L) -> K (.tuple #[]) w') : Cl Tryz.prog 223 #[pt b] w K := by
 refine Tz223 ?_; unfold Vz223; have hlen := hz.len; have hal := hz.al; have hol := hz.ol; obtain ⟨ov, cv, av, kv, H⟩ := SoR_open H; refine r_dr H fun w1 S1 H1 => ?_; refine r_nc (r_fo0 (r_ld 0 H1 rfl rfl ?_)); refine r_nc (r_fo0 (r_ld 0 H1 rfl rfl ?_)); refine r_nc (r_fo0 (r_ld 0 H1 rfl rfl ?_)); refine r_nc (r_fo (r_fo (r_ld 0 H1 rfl rfl ?_))); refine r_nc (r_fo0 (r_ld 0 H1 rfl rfl ?_)); refine r_addN (by omega) ?_; refine r_getS 1 H1 rfl (getD_at h2) ?_; refine r_setS 3 H1 (x.order.getD (x.merge.lo + x.laid) 0) rfl h1 rfl fun w2 S2 H2 => ?_; refine r_nc (r_fo0 (r_ld 0 H2 rfl rfl ?_)); refine r_add1N (by omega) ?_; refine r_nc (r_fo0 ?_); refine r_st 0 H2 rfl (by simp [soC]) rfl fun w3 S3 H3 => ?_; exact k _ (S1.trans (S2.trans S3)) (SoR_close (ov := ov) (cv := cv) (av := av) (kv := kv) H3)
theorem put_spec (H : Holds w (SoR b s x n :: L)) (hz : Sz s x) (hm : x.merge.hi <= s.length /\ x.merge.mid <= x.merge.hi /\ x.merge.lo <= x.merge.mid /\ 0 < x.merge.hi) (h1 : toS x < s.length) (h2 : x.merge.mid <= x.second) (h3 : x.second <= x.merge.hi) (h4 : x.first <= x.laid) (h5 : x.laid <= s.length)
  (h6 : x.second = x.merge.hi -> x.first < x.laid) (hA : x.first < x.laid -> x.aside.getD x.first 0 < s.length) (hO : x.second < x.merge.hi -> x.order.getD x.second 0 < s.length)
  (k : ∀ w', Same w w' -> Holds w' (SoR b s (putS (keyS s x) x) n :: L) -> K (.tuple #[]) w') : Cl Tryz.prog 224 #[pt b] w K := by
 refine Tz224 ?_; unfold Vz224; have hlen := hz.len; have hal := hz.al; have hol := hz.ol
 have hzp : (zeroP Tryz.prog tPt).cells.toList = [iv 0, iv 0, iv 0] := by kernel_rfl
 have hto : toS x = x.merge.lo + x.first + x.second - x.merge.mid := rfl; obtain ⟨ov, cv, av, kv, H⟩ := SoR_open H; refine r_nc (r_fo ?_); refine r_ldA 0 H (Fp x.merge) rfl rfl rfl ?_; refine r_new H fun mb w1 S1 H1 => ?_; rw [hzp] at H1; refine r_stA 0 H1 (vs := Fp x.merge) rfl (by decide) rfl rfl fun w2 S2 H2 => ?_; replace H2 : Holds w2 (blk mb tPt (Fp x.merge) :: (soL b s ov cv av kv x n ++ L)) := H2; refine r_dr H2 fun w3 S3 H3 => ?_; have S := S1.trans (S2.trans S3); clear H H1 H2 S1 S2 S3; refine r_fo0 (r_ld 0 H3 rfl rfl ?_); refine r_nc (r_fo0 (r_ld 1 H3 rfl rfl ?_)); refine r_addN (by omega) ?_; refine r_nc (r_fo0 (r_ld 1 H3 rfl rfl ?_)); refine r_addN (by omega) ?_; refine r_fo0 (r_ld 0 H3 rfl rfl ?_); refine r_sub (by omega) (by omega) ?_; rw [show (((x.merge.lo + x.first + x.second : Nat) : Int)) - (x.merge.mid : Int) = ((toS x : Nat) : Int) by omega]
 -- the place is put
 refine r_join0 (fun w' => Same w w' /\ ∃ (ov cv av kv : Value), Holds w' (blk mb tPt (Fp x.merge) :: (soL b s ov cv av kv (moveS (keyS s x) x) n ++ L))) ?_ ?_
 ·rintro _ w4 ⟨S4, ov, cv, av, kv, H4⟩
  have hmm : (moveS (keyS s x) x).merge = x.merge := by unfold moveS; split <;> rfl
  refine r_fo0 (r_ld 0 H4 rfl rfl ?_); refine r_sub (by omega) (by omega) ?_; refine r_eql (r_ifE (fun h => ?_) fun h => ?_)
  ·refine r_bd (v := .agg (Fp ⟨0, 0, 0⟩).toArray) (by kernel_rfl) ?_; refine r_nc (r_fo ?_); refine r_stA 1 H4 (vs := Fp ⟨0, 0, 0⟩) rfl (by simp [soC]) rfl rfl fun w5 S5 H5 => ?_
   have e : putS (keyS s x) x = { moveS (keyS s x) x with merge := ⟨0, 0, 0⟩ } := by unfold putS; rw [if_pos (by omega)]
   rw [e] at k; exact k _ (S4.trans S5) (SoR_close (ov := ov) (cv := cv) (av := av) (kv := kv) H5.drop)
  ·have e : putS (keyS s x) x = moveS (keyS s x) x := by unfold putS; rw [if_neg (by omega)]
   rw [e] at k; exact k _ S4 (SoR_close H4.drop)
 refine r_join1 (fun t w' => Same w w' /\ Holds w' (blk mb tPt (Fp x.merge) :: (soL b s ov cv av kv x n ++ L)) /\ t = .bool (decide (fromA (keyS s x) x))) ?_ ?_
 ·rintro _ _ w4 ⟨S4, H4, rfl⟩; refine r_ifD (fun h => ?_) fun h => ?_
  ·have hf : x.first < x.laid := by
    rcases h with h | h
    ·exact h6 h
    ·exact h.1
   refine r_dr H4 fun w5 S5 H5 => ?_; refine r_nc (r_fo0 (r_ld 1 H5 rfl rfl ?_)); refine r_nc (r_fo0 (r_ld 1 H5 rfl rfl ?_)); refine r_nc (r_fo0 (r_ld 1 H5 rfl rfl ?_)); refine r_getS 4 H5 rfl (getD_at (by omega)) ?_; refine r_setS (j := toS x) 2 H5 (x.aside.getD x.first 0) rfl (by omega) rfl fun w6 S6 H6 => ?_; refine r_nc (r_fo0 (r_ld 1 H6 rfl rfl ?_)); refine r_add1N (by omega) ?_; refine r_nc (r_fo0 ?_); refine r_st 1 H6 rfl (by simp [soC]) rfl fun w7 S7 H7 => ?_; refine r_ke ⟨S4.trans (S5.trans (S6.trans S7)), ov, cv, av, kv, ?_⟩; unfold moveS; rw [if_pos h]; exact H7
  ·have hf : x.second < x.merge.hi := by
    rcases Nat.lt_or_ge x.second x.merge.hi with g | g
    ·exact g
    ·exact absurd (.inl (by omega)) h
   refine r_dr H4 fun w5 S5 H5 => ?_; refine r_nc (r_fo0 (r_ld 1 H5 rfl rfl ?_)); refine r_nc (r_fo0 (r_ld 1 H5 rfl rfl ?_)); refine r_nc (r_fo0 (r_ld 1 H5 rfl rfl ?_)); refine r_getS 2 H5 rfl (getD_at (by omega)) ?_; refine r_setS (j := toS x) 2 H5 (x.order.getD x.second 0) rfl (by omega) rfl fun w6 S6 H6 => ?_; refine r_nc (r_fo0 (r_ld 1 H6 rfl rfl ?_)); refine r_add1N (by omega) ?_; refine r_nc (r_fo0 ?_); refine r_st 1 H6 rfl (by simp [soC]) rfl fun w7 S7 H7 => ?_; refine r_ke ⟨S4.trans (S5.trans (S6.trans S7)), ov, cv, av, kv, ?_⟩; unfold moveS; rw [if_neg h]; exact H7
 ·refine r_dr H3 fun w4 S4 H4 => ?_; refine r_nc (r_fo0 (r_ld 1 H4 rfl rfl ?_)); refine r_fo0 (r_ld 0 H4 rfl rfl ?_); refine r_eql (r_ifE (fun h => ?_) fun h => ?_)
  ·exact r_ke ⟨S.trans S4, H4, by rw [decide_eq_true (.inl (by omega))]⟩
  refine r_nc (r_fo0 (r_ld 1 H4 rfl rfl ?_)); refine r_nc (r_fo0 (r_ld 1 H4 rfl rfl ?_)); refine r_lss (r_ifD (fun h7 => ?_) fun h7 => ?_)
  ·refine r_nc (r_fo0 (r_ld 1 H4 rfl rfl ?_)); refine r_nc (r_fo0 (r_ld 1 H4 rfl rfl ?_)); refine r_getS 4 H4 rfl (getD_at (by omega)) ?_; refine r_nc (r_fo0 (r_ld 1 H4 rfl rfl ?_)); refine r_nc (r_fo0 (r_ld 1 H4 rfl rfl ?_)); refine r_getS 2 H4 rfl (getD_at (by omega)) ?_
   have H5 : Holds w4 (soL b s ov cv av kv x n ++ (blk mb tPt (Fp x.merge) :: L)) := by have h_ := Holds.ord 6 [1, 2, 3, 4, 5, 0] H4 rfl; exact h_
   refine above_spec H5 hz (hA (by omega)) (hO (by omega)) fun w5 S5 H6 => ?_; refine r_not (r_ke ⟨S.trans (S4.trans S5), by have h_ := Holds.ord 6 [5, 0, 1, 2, 3, 4] H6 rfl; exact h_, ?_⟩); rw [show (!decide (klt (keyS s x (x.order.getD x.second 0)) (keyS s x (x.aside.getD x.first 0)))) = decide (fromA (keyS s x) x) from ?_]; rw [Bool.eq_iff_iff, Bool.not_eq_true', decide_eq_false_iff_not, decide_eq_true_iff]; unfold fromA
   constructor
   ·exact fun z => .inr ⟨by omega, z⟩
   ·rintro (z | z)
    ·omega
    ·exact z.2
  ·refine r_ke ⟨S.trans S4, H4, ?_⟩
   rw [decide_eq_false (show ¬ fromA (keyS s x) x from fun z => by
    rcases z with z | z
    ·omega
    ·exact h7 (by have := z.1; omega))]
end S16
namespace S16
open Go.Mr Go.M18
variable {w : World} {L : List HProp} {K : Value -> World -> Prop} {b n : Nat} {s : List UInt8} {x : SS}
theorem begin_spec (H : Holds w (SoR b s x n :: L)) (hz : Sz s x) (hne : x.stack ≠ []) (hst : x.stack.length <= 100000000) (hp : ∀ p ∈ x.stack, p.lo <= p.hi /\ p.hi <= 4000)
  (k : ∀ w', Same w w' -> Holds w' (SoR b s (beginS x) n :: L) -> K (.tuple #[]) w') : Cl Tryz.prog 225 #[pt b] w K := by
 refine Tz225 ?_; unfold Vz225
 have hzp : (zeroP Tryz.prog tPt).cells.toList = [iv 0, iv 0, iv 0] := by kernel_rfl
 obtain ⟨ov, cv, av, kv, H⟩ := SoR_open H
 cases hs : x.stack with
 | nil => exact absurd hs hne
 | cons p st =>
  rw [hs] at hst; simp only [List.length_cons] at hst; have hpb := hp p (by rw [hs]; exact List.mem_cons_self ..)
  have ej : beginS x = if p.hi - p.lo < 2 then { x with stack := st } else { x with stack := ⟨p.lo, 0, (p.lo + p.hi) / 2⟩ :: ⟨(p.lo + p.hi) / 2, 0, p.hi⟩ :: ⟨p.lo, (p.lo + p.hi) / 2, p.hi⟩ :: st } := by unfold beginS; rw [hs]
  have hrev : x.stack.reverse = st.reverse ++ [p] := by rw [hs, List.reverse_cons]
  have H0 : Holds w (blk b tSo (soC s ov cv av kv x n) :: SL nv tI ov x.order :: SL nv tI cv x.cls :: SL nv tI av x.aside :: RW Fp 3 tPt kv (st.reverse ++ [p]) :: L) := by rw [<- hrev]; exact H
  have hget : (st.reverse ++ [p])[st.length]? = some p := by rw [List.getElem?_append_right (by simp), List.length_reverse, Nat.sub_self]; rfl
  have hll : (st.reverse ++ [p]).length = st.length + 1 := by simp
  clear H; refine r_dr H0 fun w1 S1 H1 => ?_; refine r_nc (r_fo0 (r_ld 0 H1 rfl rfl ?_)); refine r_nc (r_fo0 (r_ld 0 H1 rfl rfl ?_)); refine P35.r_lnN 4 H1 rfl ?_; rw [hll]; refine r_sub1N (by omega) (by omega) ?_; rw [Nat.add_sub_cancel]
  -- the block of the stack, for reads that stay
  obtain ⟨oa, m, sp, rfl, Ho⟩ := H1.openRW 4 rfl; obtain ⟨sb, rfl, hsp, Hb⟩ := Ho.rwb 4 rfl (.inl (by rw [hll]; omega)); have Hb' : Holds w1 (blk b tSo (soC s ov cv av (.slice (some ⟨sb, 0, none⟩) (st.reverse ++ [p]).length ((st.reverse ++ [p]).length + m)) x n) :: SL nv tI ov x.order :: SL nv tI cv x.cls :: SL nv tI av x.aside :: blk sb tPt (flatL Fp (st.reverse ++ [p]) ++ sp) :: L) := Hb
  have hcell : ((flatL Fp (st.reverse ++ [p]) ++ sp).drop (st.length * 3)).take 3 = Fp p := by
   have h1 := flatL_get (F := Fp) (k := 3) (fun _ => rfl) _ _ _ hget; have hlen := flatL_len (F := Fp) (k := 3) (fun _ => rfl) (st.reverse ++ [p]); rw [hll] at hlen; rw [List.drop_append_of_le_length (by omega), List.take_append_of_le_length (by rw [List.length_drop]; omega)]; exact h1
  refine r_ias0 (by rw [hll]; omega) ?_; refine r_ldA 4 Hb' (Fp p) rfl hcell rfl ?_; refine r_new Hb' fun pb w2 S2 H2 => ?_; rw [hzp] at H2; refine r_rk (r_ldA 5 H2 (Fp p) rfl hcell rfl rfl) (r_rk (r_lnl (by rw [hll])) (r_rk (r_ld 1 H2 rfl rfl rfl) (r_rk (r_ld 1 H2 rfl rfl rfl) ?_))); refine r_stA 0 H2 (vs := Fp p) rfl (by decide) rfl rfl fun w3 S3 H3 => ?_
  have H3' : Holds w3 (blk pb tPt (Fp p) :: blk b tSo (soC s ov cv av (.slice (some ⟨sb, 0, none⟩) (st.length + 1) (st.length + 1 + m)) x n) :: SL nv tI ov x.order :: SL nv tI cv x.cls :: SL nv tI av x.aside :: blk sb tPt (flatL Fp (st.reverse ++ [p]) ++ sp) :: L) := by
   have h : Holds w3 (blk pb tPt (Fp p) :: blk b tSo (soC s ov cv av (.slice (some ⟨sb, 0, none⟩) (st.reverse ++ [p]).length ((st.reverse ++ [p]).length + m)) x n) :: SL nv tI ov x.order :: SL nv tI cv x.cls :: SL nv tI av x.aside :: blk sb tPt (flatL Fp (st.reverse ++ [p]) ++ sp) :: L) := H3; rw [hll] at h; exact h
  refine r_dr H3' fun w4 S4 H4 => ?_; have S := S1.trans (S2.trans (S3.trans S4)); clear H0 H1 Ho Hb Hb' H2 H3 H3' S1 S2 S3 S4; refine r_nc (r_fo0 (r_ld 1 H4 rfl rfl ?_)); refine r_nc (r_fo0 (r_ld 1 H4 rfl rfl ?_)); refine r_lnl ?_; refine r_sub1N (a := st.length + 1) (by omega) (by omega) ?_; rw [Nat.add_sub_cancel]; refine r_ssl0 (by omega) ?_; refine r_nc (r_fo0 ?_); refine r_st 1 H4 rfl (by simp [soC]) rfl fun w5 S5 H5 => ?_
  have H6 : Holds w5 (blk pb tPt (Fp p) :: blk b tSo (soC s ov cv av (.slice (some ⟨sb, 0, none⟩) st.length (st.length + 1 + m)) x n) :: SL nv tI ov x.order :: SL nv tI cv x.cls :: SL nv tI av x.aside :: RW Fp 3 tPt (.slice (some ⟨sb, 0, none⟩) st.length (st.length + 1 + m)) st.reverse :: L) := by
   have h := H5.at 5 rfl (Q := RW Fp 3 tPt (.slice (some ⟨sb, 0, none⟩) st.length (st.length + 1 + m)) st.reverse) fun g hg => by
    refine ⟨some ⟨sb, 0, none⟩, m + 1, Fp p ++ sp, by rw [List.length_reverse, show st.length + 1 + m = st.length + (m + 1) by omega], rfl, rfl, by rw [List.length_append, hsp]; show 3 + m * 3 = _; omega, ?_⟩; have hg' : blk sb tPt (flatL Fp (st.reverse ++ [p]) ++ sp) g := hg; rw [flatL_app, List.append_assoc] at hg'
    have e1 : flatL Fp [p] = Fp p := by simp [flatL]
    rw [e1] at hg'; exact hg'
   exact h
  clear H4 H5; replace S := S.trans S5; refine r_fo0 (r_ld 0 H6 rfl rfl ?_); refine r_fo0 (r_ld 0 H6 rfl rfl ?_); refine r_sub (by omega) (by omega) ?_; refine r_lss (r_ifD (fun h => ?_) fun h => ?_)
  ·rw [if_pos (by omega)] at ej; rw [ej] at k; exact k _ S (SoR_close (ov := ov) (cv := cv) (av := av) H6.drop)
  rw [if_neg (by omega)] at ej; rw [ej] at k; refine r_fo0 (r_ld 0 H6 rfl rfl ?_); refine r_fo0 (r_ld 0 H6 rfl rfl ?_); refine r_addN (by omega) ?_; refine r_quo (by omega) (by omega) (by omega) ?_; rw [show ((p.lo + p.hi : Nat) : Int) / 2 = (((p.lo + p.hi) / 2 : Nat) : Int) by omega]; generalize (p.lo + p.hi) / 2 = mid at *; refine r_dr H6 fun w7 S7 H7 => ?_; refine r_nc (r_fo0 (r_ld 1 H7 rfl rfl ?_)); refine r_fo0 (r_ld 0 H7 rfl rfl ?_); refine r_fo0 (r_ld 0 H7 rfl rfl ?_); refine r_bd (v := .agg (Fp ⟨p.lo, mid, p.hi⟩).toArray) (by kernel_rfl) ?_; refine r_fo0 (r_ld 0 H7 rfl rfl ?_); refine r_bd (v := .agg (Fp ⟨mid, 0, p.hi⟩).toArray) (by kernel_rfl) ?_; refine r_fo0 (r_ld 0 H7 rfl rfl ?_); refine r_bd (v := .agg (Fp ⟨p.lo, 0, mid⟩).toArray) (by kernel_rfl) ?_; refine r_bsK (e := tPt) (Fp ⟨p.lo, mid, p.hi⟩ ++ Fp ⟨mid, 0, p.hi⟩ ++ Fp ⟨p.lo, 0, mid⟩) H7 (by kernel_rfl) fun nb w8 S8 H8 => ?_; refine r_rk (r_ld 2 H8 rfl rfl rfl) ?_; refine r_apN (F := Fp) (xs := st.reverse) (ys := [⟨p.lo, mid, p.hi⟩, ⟨mid, 0, p.hi⟩, ⟨p.lo, 0, mid⟩]) H8 6 0 rfl rfl (by omega) rfl rfl (fun _ => rfl) Fp_sg (by simp; omega) (by simp) (by decide) fun kv2 w9 S9 H9 => ?_; refine r_nc (r_fo0 ?_)
  have hsg : sg kv2 = true := by
   obtain ⟨oa2, m2, sp2, rfl, _⟩ := H9.openRW 6 rfl; rfl
  refine r_st 2 H9 rfl (by simp [soC]) hsg fun w10 S10 H10 => ?_
  have H11 : Holds w10 (soL b s ov cv av kv2 { x with stack := ⟨p.lo, 0, mid⟩ :: ⟨mid, 0, p.hi⟩ :: ⟨p.lo, mid, p.hi⟩ :: st } n ++ L) := by
   have h := H10.drop.drop; unfold soL; simp only [List.reverse_cons, List.append_assoc]; exact h
  exact k _ (S.trans (S7.trans (S8.trans (S9.trans S10)))) (SoR_close H11)
theorem pass_spec (H : Holds w (SoR b s x n :: L)) (hz : Sz s x) (hst : x.stack.length <= 100000000) (h0 : 0 < s.length)
  (k : ∀ w', Same w w' -> Holds w' (SoR b s (passS s.length x) n :: L) -> K (.tuple #[]) w') : Cl Tryz.prog 251 #[pt b] w K := by
 refine Tz251 ?_; unfold Vz251; have hlen := hz.len; have hol := hz.ol; have hre := hz.reach; obtain ⟨ov, cv, av, kv, H⟩ := SoR_open H; refine r_nc (r_fo0 (r_ld 0 H rfl rfl ?_)); refine r_nc (r_fo0 (r_ld 0 H rfl rfl ?_))
 have hsg : ∀ {v : Value} {l : List Nat} {i : Nat}, (soL b s ov cv av kv x n ++ L)[i]? = some (SL nv tI v l) -> sg v = true := fun hi => by
  obtain ⟨oa, sp, rfl, _⟩ := H.open _ hi; rfl
 refine r_nc (r_fo0 ?_); refine r_st 0 H rfl (by simp [soC]) (hsg (i := 3) rfl) fun w1 S1 H1 => ?_; refine r_nc (r_fo0 ?_); refine r_st 0 H1 rfl (by simp [soC]) (hsg (i := 2) rfl) fun w2 S2 H2 => ?_; refine r_nc (r_fo0 ?_); refine r_st 0 H2 rfl (by simp [soC]) rfl fun w3 S3 H3 => ?_
 have H4 : Holds w3 (soL b s ov av cv kv { x with cls := x.aside, aside := x.cls, ranked := 0 } n ++ L) := by
  have h_ := Holds.ord 5 [0, 1, 3, 2, 4] H3 rfl; exact h_
 have S := S1.trans (S2.trans S3); clear H H1 H2 H3 S1 S2 S3 hsg; refine r_join1 (fun t w' => Same w w' /\ Holds w' (soL b s ov av cv kv { x with cls := x.aside, aside := x.cls, ranked := 0 } n ++ L) /\ t = .bool (decide (x.last = s.length - 1 \/ s.length <= x.reach))) ?_ ?_
 rotate_left
 ·refine r_dr H4 fun w4 S4 H5 => ?_; refine r_nc (r_fo0 (r_ld 0 H5 rfl rfl ?_)); refine r_nc (r_fo0 (r_ld 0 H5 rfl rfl ?_)); refine r_lnS 1 H5 rfl ?_; rw [hol]; refine r_sub1N (by omega) (by omega) ?_; refine r_eql (r_ifE (fun h => ?_) fun h => ?_)
  ·have h' : ((x.last : Nat) : Int) = ((s.length - 1 : Nat) : Int) := h; exact r_ke ⟨S.trans S4, H5, by rw [decide_eq_true (.inl (by omega))]⟩
  ·have h' : ¬ ((x.last : Nat) : Int) = ((s.length - 1 : Nat) : Int) := h; refine r_nc (r_fo0 (r_ld 0 H5 rfl rfl ?_)); refine r_nc (r_fo0 (r_ld 0 H5 rfl rfl ?_)); refine r_lnS 1 H5 rfl ?_; rw [hol]; refine r_geq (r_ke ⟨S.trans S4, H5, ?_⟩); rw [show decide (((s.length : Nat) : Int) <= ((x.reach : Nat) : Int)) = decide (x.last = s.length - 1 \/ s.length <= x.reach) from decide_eq_decide.2 (by omega)]
 rintro _ _ w4 ⟨S4, H5, rfl⟩; refine r_ifD (fun h => ?_) fun h => ?_
 ·refine r_nc (r_fo0 ?_); refine r_st 0 H5 rfl (by simp [soC]) rfl fun w5 S5 H6 => ?_
  have e : passS s.length x = { x with cls := x.aside, aside := x.cls, ranked := 0, done := true } := by unfold passS; rw [if_pos h]
  rw [e] at k; exact k _ (S4.trans S5) (SoR_close (ov := ov) (cv := av) (av := cv) (kv := kv) H6)
 ·have e : passS s.length x = { x with cls := x.aside, aside := x.cls, ranked := 0, reach := max 1 (2 * x.reach), stack := ⟨0, 0, s.length⟩ :: x.stack } := by unfold passS; rw [if_neg h]
  rw [e] at k; refine r_nc (r_fo0 (r_ld 0 H5 rfl rfl ?_)); refine r_mulE (((2 * x.reach : Nat)) : Int) (by show 2 * ((x.reach : Nat) : Int) = _; omega) (by omega) (by omega) ?_; refine r_max ?_; rw [show max (1 : Int) ((2 * x.reach : Nat) : Int) = ((max 1 (2 * x.reach) : Nat) : Int) by omega]; refine r_nc (r_fo0 ?_); refine r_st 0 H5 rfl (by simp [soC]) rfl fun w5 S5 H6 => ?_; replace H6 : Holds w5 (soL b s ov av cv kv { x with cls := x.aside, aside := x.cls, ranked := 0, reach := max 1 (2 * x.reach) } n ++ L) := H6; refine r_dr H6 fun w6 S6 H7 => ?_; refine r_nc (r_fo0 (r_ld 0 H7 rfl rfl ?_)); refine r_nc (r_fo0 (r_ld 0 H7 rfl rfl ?_)); refine r_lnS 1 H7 rfl ?_; rw [hol]; refine r_bd (v := .agg (Fp ⟨0, 0, s.length⟩).toArray) (by kernel_rfl) ?_; refine r_bsK (e := tPt) (Fp ⟨0, 0, s.length⟩) H7 (by kernel_rfl) fun nb w8 S8 H8 => ?_; refine r_rk (r_ld 1 H8 rfl rfl rfl) ?_; refine r_apN (F := Fp) (xs := x.stack.reverse) (ys := [⟨0, 0, s.length⟩]) H8 5 0 rfl rfl (by omega) rfl rfl (fun _ => rfl) Fp_sg (by rw [List.length_reverse]; simp; omega) (by simp) (by decide) fun kv2 w9 S9 H9 => ?_; refine r_nc (r_fo0 ?_)
  have hsg : sg kv2 = true := by
   obtain ⟨oa2, m2, sp2, rfl, _⟩ := H9.openRW 5 rfl; rfl
  refine r_st 1 H9 rfl (by simp [soC]) hsg fun w10 S10 H10 => ?_
  have H11 : Holds w10 (soL b s ov av cv kv2 { x with cls := x.aside, aside := x.cls, ranked := 0, reach := max 1 (2 * x.reach), stack := ⟨0, 0, s.length⟩ :: x.stack } n ++ L) := by
   have h := H10.drop; unfold soL; simp only [List.reverse_cons]; exact h
  exact k _ (S4.trans (S5.trans (S6.trans (S8.trans (S9.trans S10))))) (SoR_close H11)
theorem rank_spec (H : Holds w (SoR b s x n :: L)) (hz : Sz s x) (hst : x.stack.length <= 100000000) (hr : x.ranked < s.length) (hl : 0 < x.ranked -> x.last <= 8000) (hO : ∀ a ∈ x.order, a < s.length)
  (k : ∀ w', Same w w' -> Holds w' (SoR b s (rankS (keyS s x) s.length x) n :: L) -> K (.tuple #[]) w') : Cl Tryz.prog 226 #[pt b] w K := by
 refine Tz226 ?_; unfold Vz226; have hlen := hz.len; have hol := hz.ol; have hal := hz.al; obtain ⟨ov, cv, av, kv, H⟩ := SoR_open H; refine r_nc (r_fo0 (r_ld 0 H rfl rfl ?_)); refine r_join0 (fun w' => Same w w' /\ Holds w' (soL b s ov cv av kv { x with last := lastN (keyS s x) x } n ++ L)) ?_ ?_
 ·rintro _ w1 ⟨S1, H1⟩; refine r_dr H1 fun w2 S2 H2 => ?_; refine r_nc (r_fo0 (r_ld 0 H2 rfl rfl ?_)); refine r_nc (r_fo0 (r_ld 0 H2 rfl rfl ?_)); refine r_getS 1 H2 rfl (getD_at (l := x.order) (i := x.ranked) (by omega)) ?_; refine r_nc (r_fo0 (r_ld 0 H2 rfl rfl ?_)); have hm := hO _ (getD_mem (l := x.order) (i := x.ranked) (by omega)); refine r_setS (j := x.order.getD x.ranked 0) 3 H2 (lastN (keyS s x) x) rfl (by show _ < x.aside.length; omega) rfl fun w3 S3 H3 => ?_; refine r_nc (r_fo0 (r_ld 0 H3 rfl rfl ?_)); refine r_add1N (a := x.ranked) (by omega) ?_; refine r_nc (r_fo0 ?_); refine r_st 0 H3 rfl (by simp [soC]) rfl fun w4 S4 H4 => ?_; replace H4 : Holds w4 (soL b s ov cv av kv (rank1 (keyS s x) x) n ++ L) := H4; refine r_dr H4 fun w5 S5 H5 => ?_; refine r_nc (r_fo0 (r_ld 0 H5 rfl rfl ?_)); refine r_nc (r_fo0 (r_ld 0 H5 rfl rfl ?_)); refine r_lnS 1 H5 rfl ?_; refine r_eql (r_ifE (fun h => ?_) fun h => ?_)
  ·have hq : x.ranked + 1 = s.length := by
    have h' : ((x.ranked + 1 : Nat) : Int) = ((x.order.length : Nat) : Int) := h; omega
   refine pass_spec (SoR_close H5) ⟨hlen, hz.cl, by show (List.set _ _ _).length = _; rw [List.length_set]; exact hal, hol, hz.reach⟩ hst (by omega) fun w6 S6 H6 => ?_
   have e : rankS (keyS s x) s.length x = passS s.length (rank1 (keyS s x) x) := by unfold rankS; rw [if_pos hq]
   rw [e] at k; exact k _ (S1.trans (S2.trans (S3.trans (S4.trans (S5.trans S6))))) H6
  ·have hq : ¬ x.ranked + 1 = s.length := by
    have h' : ¬ ((x.ranked + 1 : Nat) : Int) = ((x.order.length : Nat) : Int) := h; omega
   have e : rankS (keyS s x) s.length x = rank1 (keyS s x) x := by unfold rankS; rw [if_neg hq]
   rw [e] at k; exact k _ (S1.trans (S2.trans (S3.trans (S4.trans S5)))) (SoR_close H5)
 ·refine r_eql (r_ifE (fun h => ?_) fun h => ?_)
  ·refine r_nc (r_fo0 ?_); refine r_st 0 H rfl (by simp [soC]) rfl fun w1 S1 H1 => ?_; refine r_ke ⟨S1, ?_⟩
   have e : lastN (keyS s x) x = 0 := by unfold lastN; rw [if_pos (by omega)]
   rw [e]; exact H1
  ·refine r_dr H fun w1 S1 H1 => ?_; refine r_nc (r_fo0 (r_ld 0 H1 rfl rfl ?_)); refine r_getS 1 H1 rfl (getD_at (by omega)) ?_; refine r_nc (r_fo0 (r_ld 0 H1 rfl rfl ?_)); refine r_sub1N (by omega) (by omega) ?_; refine r_getS 1 H1 rfl (getD_at (by omega)) ?_; refine above_spec H1 hz (hO _ (getD_mem (by omega))) (hO _ (getD_mem (by omega))) fun w2 S2 H2 => ?_; refine r_ifD (fun h2 => ?_) fun h2 => ?_
   ·have hl' := hl (by omega); refine r_nc (r_fo0 (r_ld 0 H2 rfl rfl ?_)); refine r_add1N (by omega) ?_; refine r_nc (r_fo0 ?_); refine r_st 0 H2 rfl (by simp [soC]) rfl fun w3 S3 H3 => ?_; refine r_ke ⟨S1.trans (S2.trans S3), ?_⟩
    have e : lastN (keyS s x) x = x.last + 1 := by unfold lastN; rw [if_neg (by omega), if_pos h2]
    rw [e]; exact H3
   ·refine r_ke ⟨S1.trans S2, ?_⟩
    have e : lastN (keyS s x) x = x.last := by unfold lastN; rw [if_neg (by omega), if_neg h2]
    rw [e]; exact H2
end S16
namespace S16
open Go.Mr Go.M18
variable {w : World} {L : List HProp} {K : Value -> World -> Prop} {b n : Nat} {s : List UInt8} {x : SS}
theorem step_spec (H : Holds w (SoR b s x n :: L)) (hI : Inv s x) (hlen : s.length <= 4000) (hr : x.reach <= 2 * s.length) (hl : ldS s.length x <= 4 * (s.length * s.length) + s.length) (hn : n <= 1000000000000)
  (k : ∀ w', Same w w' -> Holds w' (SoR b s (stepS (keyS s x) s.length x) (n + 1) :: L) -> K (.tuple #[]) w') : Cl Tryz.prog 183 #[pt b] w K := by
 refine Tz183 ?_; unfold Vz183; have hsl := stack_len hI.ph hl hlen; refine join_spec H (by omega) fun w1 S1 H1 => ?_; have hj := join_ph hI.bs hI.ph
 have hjk : keyS s (joinS x) = keyS s x := by
  unfold joinS; split
  ·rfl
  ·split <;> rfl
 have hjs : (joinS x).stack.length <= x.stack.length := by
  unfold joinS; split
  ·exact Nat.le_refl _
  ·rename_i e; split
   ·rw [e]; simp
   ·exact Nat.le_refl _
 have hjr := join_reach x; unfold stepS at k; generalize joinS x = y at *; obtain ⟨hb, hp, hm⟩ := hj; rw [<- hjk] at hp k; have hz : Sz s y := ⟨hlen, hb.cl, hb.al, hb.ol, by omega⟩; have hol := hb.ol; have hal := hb.al; have hwf := stack_wf hp; refine r_join0 (fun w' => Same w w' /\ Holds w' (SoR b s (restS (keyS s y) s.length y) n :: L)) ?_ ?_
 ·rintro _ w2 ⟨S2, H2⟩; obtain ⟨ov, cv, av, kv, H3⟩ := SoR_open H2; refine r_nc (r_fo0 (r_ld 0 H3 rfl rfl ?_)); refine r_add1N (by omega) ?_; refine r_nc (r_fo0 ?_); refine r_st 0 H3 rfl (by simp [soC]) rfl fun w3 S3 H4 => ?_; exact k _ (S2.trans S3) (SoR_close (ov := ov) (cv := cv) (av := av) (kv := kv) H4)
 refine r_join1 (fun t w' => Same w w' /\ Holds w' (SoR b s y n :: L) /\ t = .bool (decide (0 < y.merge.hi /\ y.laid < y.merge.mid - y.merge.lo))) ?_ ?_
 ·rintro _ _ w2 ⟨S2, H2, rfl⟩; refine r_ifD (fun h => ?_) fun h => ?_
  ·have e : restS (keyS s y) s.length y = layS y := by unfold restS; rw [if_pos h]
   rw [e]; rcases hp with hp | ⟨R, hp⟩
   ·have := hp.none; omega
   have m3 := hp.m3; have m2 := hp.m2; refine lay_spec H2 hz (by omega) (by omega) fun w3 S3 H3 => ?_; exact r_ke ⟨S2.trans S3, H3⟩
  obtain ⟨ov, cv, av, kv, H3⟩ := SoR_open H2; refine r_nc (r_fo (r_fo (r_ld 0 H3 rfl rfl ?_))); refine r_gtr (r_ifD (fun h2 => ?_) fun h2 => ?_)
  ·have e : restS (keyS s y) s.length y = putS (keyS s y) y := by unfold restS; rw [if_neg h, if_pos (by omega)]
   rw [e]; rcases hp with hp | ⟨R, hp⟩
   ·have := hp.none; omega
   have m3 := hp.m3; have m2 := hp.m2; have m1 := hp.m1; have hlay := hp.lay
   have hla : y.laid = y.merge.mid - y.merge.lo := by omega
   obtain ⟨l1, l2, l3, l4, _⟩ := hp.late hla; have hto : toS y = y.merge.lo + y.first + y.second - y.merge.mid := rfl; refine put_spec H2 hz ⟨m3, by omega, by omega, by omega⟩ (by omega) l2 l3 l1 (by omega) (fun _ => by omega) (fun hf => ?_) (fun hs => hb.om _ (getD_mem (by omega))) fun w3 S3 H4 => ?_
   ·refine hp.asm _ ?_
    rw [show y.aside.getD y.first 0 = (seg y.aside 0 y.laid).getD y.first 0 from by
     unfold seg
     rw [List.drop_zero, Nat.sub_zero, List.getD_eq_getElem?_getD, List.getD_eq_getElem?_getD, List.getElem?_take_of_lt hf]]
    exact getD_mem (by rw [seg_len (by omega)]; omega)
   ·exact r_ke ⟨S2.trans S3, H4⟩
  refine r_nc (r_fo0 (r_ld 0 H3 rfl rfl ?_)); refine P35.r_lnN 4 H3 rfl ?_; rw [List.length_reverse]
  have hph : PhA (keyS s y) s.length y := by
   rcases hp with hp | ⟨R, hp⟩
   ·exact hp
   ·have := hp.m2; omega
  refine r_gtr (r_ifD (fun h3 => ?_) fun h3 => ?_)
  ·have hne : y.stack ≠ [] := fun e => by rw [e] at h3; simp at h3
   have e : restS (keyS s y) s.length y = beginS y := by unfold restS; rw [if_neg h, if_neg (by omega), if_pos hne]
   rw [e]; refine begin_spec H2 hz hne (by omega) (fun p hpp => by have := hwf p hpp; omega) fun w3 S3 H4 => ?_; exact r_ke ⟨S2.trans S3, H4⟩
  ·have he : y.stack = [] := List.eq_nil_of_length_eq_zero (by omega)
   have e : restS (keyS s y) s.length y = rankS (keyS s y) s.length y := by unfold restS; rw [if_neg h, if_neg (by omega), if_neg (by simpa using he)]
   rw [e]; have hkn := hph.rkn; refine rank_spec H2 hz (by omega) hkn (fun hr0 => ?_) hb.om fun w3 S3 H4 => ?_
   ·rw [hph.lst hr0]; have := rk_bound (k := keyS s y) (o := y.order) (y.ranked - 1); omega
   ·exact r_ke ⟨S2.trans S3, H4⟩
 ·refine r_dr H1 fun w2 S2 H2 => ?_; obtain ⟨ov, cv, av, kv, H3⟩ := SoR_open H2; have close : Holds w2 (SoR b s y n :: L) := H2; refine r_nc (r_fo (r_fo (r_ld 0 H3 rfl rfl ?_))); refine r_gtr (r_ifD (fun h => ?_) fun h => ?_)
  ·have hm12 : y.merge.lo <= y.merge.mid /\ y.merge.mid <= s.length := by
    rcases hp with hp | ⟨R, hp⟩
    ·have := hp.none; omega
    ·have := hp.m1; have := hp.m2; have := hp.m3; omega
   refine r_nc (r_fo0 (r_ld 0 H3 rfl rfl ?_)); refine r_nc (r_fo (r_fo (r_ld 0 H3 rfl rfl ?_))); refine r_nc (r_fo (r_fo (r_ld 0 H3 rfl rfl ?_))); refine r_sub (by omega) (by omega) ?_; refine r_lss (r_ke ⟨S1.trans S2, H2, ?_⟩); rw [show decide (((y.laid : Nat) : Int) < ((y.merge.mid : Nat) : Int) - ((y.merge.lo : Nat) : Int)) = decide (0 < y.merge.hi /\ y.laid < y.merge.mid - y.merge.lo) from decide_eq_decide.2 (by omega)]
  ·refine r_ke ⟨S1.trans S2, H2, ?_⟩; rw [decide_eq_false (show ¬ (0 < y.merge.hi /\ y.laid < y.merge.mid - y.merge.lo) from fun e => by omega)]
def Fini (s : List UInt8) (x : SS) : Prop := x.done = true /\ x.order = sortP s s.length
theorem Done_spec (H : Holds w (SoR b s x n :: L)) (k : K (.bool x.done) w) : Cl Tryz.prog 136 #[pt b] w K := by
 refine Tz136 ?_; unfold Vz136; obtain ⟨ov, cv, av, kv, H⟩ := SoR_open H; exact r_bnST (r_vt (r_nc (r_fo0 (r_ld 0 H rfl rfl k))))
theorem Order_spec (H : Holds w (SoR b s x n :: L)) (hf : Fini s x) (hlen : s.length <= 4000) (k : ∀ v w', Same w w' -> Holds w' (SL nv tI v (sortP s s.length) :: SoR b s x n :: L) -> K v w') : Cl Tryz.prog 137 #[pt b] w K := by
 refine Tz137 ?_; unfold Vz137; refine Done_spec H ?_; rw [hf.1]; refine r_notT (r_vf ?_); obtain ⟨ov, cv, av, kv, H⟩ := SoR_open H; refine r_nc (r_fo0 (r_ld 0 H rfl rfl ?_)); refine Clone_spec H 1 rfl (by rw [hf.2, sortP_len]; omega) fun v w1 S1 H1 => ?_; rw [hf.2] at H1; refine k v w1 S1 ?_
 have h2 : Holds w1 ((soL b s ov cv av kv x n ++ SL nv tI v (sortP s s.length) :: L)) := by
  have h_ := Holds.ord 6 [1, 2, 3, 4, 5, 0] H1 rfl; exact h_
 exact (SoR_close h2).swap
theorem Step_spec (H : Holds w (SoR b s x 0 :: L)) (hx : Fini s x \/ (Inv s x /\ x.reach <= 2 * s.length /\ ldS s.length x <= 4 * (s.length * s.length) + s.length /\ mu s.length x <= 300000000000)) (hlen : s.length <= 4000)
  (k : ∀ y m w', Fini s y -> m <= 300000000000 -> Same w w' -> Holds w' (SoR b s y m :: L) -> K (nv m) w') : Cl Tryz.prog 135 #[pt b, iv 1099511627776] w K := by
 refine Tz135 ?_; unfold Vz135; refine r_bnSF (r_vf ?_); obtain ⟨ov, cv, av, kv, H0⟩ := SoR_open H; refine r_nc (r_fo0 (r_ld 0 H0 rfl rfl ?_)); clear H0 ov cv av kv
 refine r_loop0n (fun j w' => ∃ (y : SS) (m : Nat), m + j <= 300000000000 /\ Same w w' /\ Holds w' (SoR b s y m :: L) /\ (Fini s y \/ (j = mu s.length y /\ Inv s y /\ y.reach <= 2 * s.length /\ ldS s.length y <= 4 * (s.length * s.length) + s.length)))
  (if x.done = true then 0 else mu s.length x) ?_ ?_
 ·rcases hx with hx | ⟨h1, h2, h3, h4⟩
  ·rw [if_pos hx.1]; exact ⟨x, 0, by omega, .refl _, H, .inl hx⟩
  ·rw [if_neg (by rw [h1.bs.nd]; exact Bool.false_ne_true)]; exact ⟨x, 0, by omega, .refl _, H, .inr ⟨rfl, h1, h2, h3⟩⟩
 clear H hx; rintro _ j w1 _ ⟨y, m, hm, S1, H1, hy⟩ hgo; obtain ⟨ov, cv, av, kv, H2⟩ := SoR_open H1
 have hd : y.done = true -> Fini s y := fun e => by
  rcases hy with hy | ⟨_, hy, _⟩
  ·exact hy
  ·rw [hy.bs.nd] at e; cases e
 refine r_join1 (fun t w' => w1 = w' /\ t = .bool (!y.done)) ?_ ?_
 ·rintro _ _ _ ⟨rfl, rfl⟩
  cases hdn : y.done with
  | true =>
   refine r_vf ?_; refine r_nc (r_fo0 (r_ld 0 H2 rfl rfl ?_)); refine r_sub (by omega) (by omega) ?_; rw [show ((m : Nat) : Int) - ((0 : Nat) : Int) = ((m : Nat) : Int) by omega]; exact k y m _ (hd hdn) (by omega) S1 H1
  | false =>
   refine r_vt ?_; rcases hy with hy | ⟨hj, hI, hr, hl⟩
   ·rw [hy.1] at hdn; cases hdn
   refine step_spec H1 hI hlen hr hl (by omega) fun w2 S2 H3 => ?_; obtain ⟨h5, h6⟩ := step_ok hI; refine r_ke ?_; rcases h6 with h6 | h6
   ·refine hgo 0 _ ?_ ⟨_, m + 1, ?_, S1.trans S2, H3, .inl h6⟩
    ·omega
    ·omega
   ·obtain ⟨h7, h8⟩ := step_load hI hl hr h6.bs.nd; refine hgo (mu s.length (stepS (keyS s y) s.length y)) _ (by omega) ⟨_, m + 1, by omega, S1.trans S2, H3, .inr ⟨rfl, h6, h8, h7⟩⟩
 ·refine r_nc (r_fo0 (r_ld 0 H2 rfl rfl ?_))
  cases hdn : y.done with
  | true => exact r_notT (r_vf (r_ke ⟨rfl, rfl⟩))
  | false =>
   refine r_notF (r_vt ?_); refine r_nc (r_fo0 (r_ld 0 H2 rfl rfl ?_)); refine r_sub (by omega) (by omega) ?_; exact r_lss (r_ke ⟨rfl, by rw [decide_eq_true (by omega)]; rfl⟩)
def startD (n : Nat) : SS := { Go.Mr.start n with done := decide (n < 2) }
theorem startD_ok (h0 : s ≠ []) (hlen : s.length <= 4000) : Fini s (startD s.length) \/ (Inv s (startD s.length) /\ (startD s.length).reach <= 2 * s.length /\ ldS s.length (startD s.length) <= 4 * (s.length * s.length) + s.length /\ mu s.length (startD s.length) <= 300000000000) := by
 have hpos := List.length_pos_iff.2 h0; rcases Nat.lt_or_ge s.length 2 with h | h
 ·refine .inl ⟨decide_eq_true h, ?_⟩; show List.range s.length = _; rw [show s.length = 1 by omega]; rfl
 ·refine .inr ?_
  have e : startD s.length = Go.Mr.start s.length := by unfold startD; rw [decide_eq_false (by omega)]; rfl
  rw [e]; exact ⟨start_inv h, Nat.zero_le _, Nat.le_of_eq load_start, mu_start hlen⟩
theorem New_spec (H : Holds w L) (h0 : s ≠ []) (hlen : s.length <= 4000) (k : ∀ b w', Same w w' -> Holds w' (SoR b s (startD s.length) 0 :: L) -> K (.tuple #[pt b, iv 0]) w') : Cl Tryz.prog 134 #[St_ s] w K := by
 refine Tz134 ?_; unfold Vz134; have hpos := List.length_pos_iff.2 h0
 have hsz : (⟨s.toArray⟩ : ByteArray).size = s.length := by simp [ByteArray.size]
 refine r_lns ?_; rw [hsz]; refine r_gtr (r_vfD (by omega) ?_)
 refine r_join1 (fun x w' => ∃ (b b1 b2 b3 : Nat), x = pt b /\ Same w w' /\ Holds w' (blk b tSo [St_ s, .slice (some ⟨b1, 0, none⟩) s.length s.length, .slice (some ⟨b2, 0, none⟩) s.length s.length, .slice (some ⟨b3, 0, none⟩) s.length s.length, nv 0, .slice none 0 0, nv 0, nv 0, nv 0, nv 0, nv 0, nv 0, nv 0, nv 0, nv 0, .bool (decide (s.length < 2))] ::
   SL nv tI (.slice (some ⟨b1, 0, none⟩) s.length s.length) (List.replicate s.length 0) :: SL nv tI (.slice (some ⟨b2, 0, none⟩) s.length s.length) (List.replicate s.length 0) :: SL nv tI (.slice (some ⟨b3, 0, none⟩) s.length s.length) (List.replicate s.length 0) :: L)) ?_ ?_
 ·rintro _ _ w1 ⟨b, b1, b2, b3, rfl, S1, H1⟩; refine r_nc (r_fo0 (r_ld 0 H1 rfl rfl ?_)); refine r_lnl ?_
  refine r_loop1 (fun q w' => ∃ u : Nat, q = nv u /\ u <= s.length /\ Same w w' /\ Holds w' (blk b tSo [St_ s, .slice (some ⟨b1, 0, none⟩) s.length s.length, .slice (some ⟨b2, 0, none⟩) s.length s.length, .slice (some ⟨b3, 0, none⟩) s.length s.length, nv 0, .slice none 0 0, nv 0, nv 0, nv 0, nv 0, nv 0, nv 0, nv 0, nv 0, nv 0, .bool (decide (s.length < 2))] ::
   SL nv tI (.slice (some ⟨b1, 0, none⟩) s.length s.length) (filled (List.range s.length) 0 s.length u) :: SL nv tI (.slice (some ⟨b2, 0, none⟩) s.length s.length) (List.replicate s.length 0) :: SL nv tI (.slice (some ⟨b3, 0, none⟩) s.length s.length) (List.replicate s.length 0) :: L)) (fun q _ => s.length - (RowKit.intOf q).toNat)
   ⟨0, rfl, Nat.zero_le _, S1, by rw [filled_zero]; exact H1⟩ ?_
  clear H1 S1; rintro _ _ w2 ⟨u, rfl, hu, S2, H2⟩; refine r_lss (r_ifD (fun h => ?_) fun h => ?_)
  ·have hlt : u < s.length := by omega
   refine r_nc (r_fo0 (r_ld 0 H2 rfl rfl ?_)); refine r_setS (j := u) 1 H2 u rfl (by rw [filled_len (by omega) (by simp)]; exact hlt) rfl fun w3 S3 H3 => ?_; refine r_add1N (by omega) (r_ke ⟨⟨u + 1, rfl, hlt, S2.trans S3, ?_⟩, ?_⟩)
   ·have e := filled_set (xs := List.range s.length) (z := 0) (x := u) hlt (by simp) (by simp [hlt])
    have h3 : Holds w3 (blk b tSo [St_ s, .slice (some ⟨b1, 0, none⟩) s.length s.length, .slice (some ⟨b2, 0, none⟩) s.length s.length, .slice (some ⟨b3, 0, none⟩) s.length s.length, nv 0, .slice none 0 0, nv 0, nv 0, nv 0, nv 0, nv 0, nv 0, nv 0, nv 0, nv 0, .bool (decide (s.length < 2))] ::
     SL nv tI (.slice (some ⟨b1, 0, none⟩) s.length s.length) ((filled (List.range s.length) 0 s.length u).set u u) :: SL nv tI (.slice (some ⟨b2, 0, none⟩) s.length s.length) (List.replicate s.length 0) :: SL nv tI (.slice (some ⟨b3, 0, none⟩) s.length s.length) (List.replicate s.length 0) :: L) := H3
    rw [e] at h3; exact h3
   ·simp only [nv, RowKit.intOf, Int.toNat_natCast]; omega
  ·obtain rfl : u = s.length := by omega
   rw [filled_all (by simp)] at H2; refine r_bd (v := .agg (Fp ⟨0, 0, s.length⟩).toArray) (by kernel_rfl) ?_; refine r_bsK (e := tPt) (Fp ⟨0, 0, s.length⟩) H2 (by kernel_rfl) fun nb w3 S3 H3 => ?_; refine r_nc (r_fo0 ?_); refine r_st 1 H3 rfl (by simp) rfl fun w4 S4 H4 => ?_; have H5 := RW_of_blk (F := Fp) (k := 3) 0 [⟨0, 0, s.length⟩] H4 rfl; refine k b w4 (S2.trans (S3.trans S4)) (SoR_close (ov := .slice (some ⟨b1, 0, none⟩) s.length s.length) (cv := .slice (some ⟨b2, 0, none⟩) s.length s.length) (av := .slice (some ⟨b3, 0, none⟩) s.length s.length) (kv := .slice (some ⟨nb, 0, none⟩) 1 1) ?_); have h_ := Holds.ord 5 [1, 2, 3, 4, 0] H5 rfl; exact h_
 ·refine r_dr H fun w1 S1 H1 => ?_; refine r_lss ?_
  have mk : ∀ {w2 : World} {M : List HProp} {Q : Value -> World -> Prop}, Holds w2 M -> (∀ b w', Same w2 w' -> Holds w' (SL nv tI (.slice (some ⟨b, 0, none⟩) s.length s.length) (List.replicate s.length 0) :: M) -> Q (.slice (some ⟨b, 0, none⟩) s.length s.length) w') ->
    Ms Tryz.prog 69 (nv s.length) (nv s.length) w2 Q := fun H2 hQ => by
   refine r_ms (f := nv) (x := 0) H2 rfl (by omega) (by omega) fun b w' S' H3 => ?_; rw [Int.toNat_natCast] at H3 ⊢; have H4 := H3.close 0 rfl; simp only [List.set_cons_zero, List.length_replicate, List.length_nil, Nat.add_zero] at H4; exact hQ b w' S' H4
  have hdec : decide (((s.length : Nat) : Int) < 2) = decide (s.length < 2) := decide_eq_decide.2 (by omega); rw [hdec]
  have fin : ∀ {b1 b2 b3 : Nat} {w2 : World} {Q : Value -> World -> Prop}, Same w w2 -> Holds w2 (SL nv tI (.slice (some ⟨b1, 0, none⟩) s.length s.length) (List.replicate s.length 0) :: SL nv tI (.slice (some ⟨b2, 0, none⟩) s.length s.length) (List.replicate s.length 0) :: SL nv tI (.slice (some ⟨b3, 0, none⟩) s.length s.length) (List.replicate s.length 0) :: L) ->
    (∀ x w', (∃ (b b1 b2 b3 : Nat), x = pt b /\ Same w w' /\ Holds w' (blk b tSo [St_ s, .slice (some ⟨b1, 0, none⟩) s.length s.length, .slice (some ⟨b2, 0, none⟩) s.length s.length, .slice (some ⟨b3, 0, none⟩) s.length s.length, nv 0, .slice none 0 0, nv 0, nv 0, nv 0, nv 0, nv 0, nv 0, nv 0, nv 0, nv 0, .bool (decide (s.length < 2))] ::
     SL nv tI (.slice (some ⟨b1, 0, none⟩) s.length s.length) (List.replicate s.length 0) :: SL nv tI (.slice (some ⟨b2, 0, none⟩) s.length s.length) (List.replicate s.length 0) :: SL nv tI (.slice (some ⟨b3, 0, none⟩) s.length s.length) (List.replicate s.length 0) :: L)) -> Q x w') ->
    Bd Tryz.prog tSo #[(0, St_ s), (1, .slice (some ⟨b1, 0, none⟩) s.length s.length), (2, .slice (some ⟨b2, 0, none⟩) s.length s.length), (3, .slice (some ⟨b3, 0, none⟩) s.length s.length), (13, .bool (decide (s.length < 2)))] w2 fun x => New x tSo w2 Q := fun {b1 b2 b3 w2 Q} S2 H2 hQ => by
   refine r_bd (v := .agg #[St_ s, .slice (some ⟨b1, 0, none⟩) s.length s.length, .slice (some ⟨b2, 0, none⟩) s.length s.length, .slice (some ⟨b3, 0, none⟩) s.length s.length, nv 0, .slice none 0 0, nv 0, nv 0, nv 0, nv 0, nv 0, nv 0, nv 0, nv 0, nv 0, .bool (decide (s.length < 2))]) (by kernel_rfl) ?_; refine r_new H2 fun b w3 S3 H3 => ?_; exact hQ _ _ ⟨b, b1, b2, b3, rfl, S2.trans S3, H3⟩
  refine ⟨?_, ?_, ?_⟩
  ·refine mk H1 fun b1 w2 S2 H2 => ⟨mk H2 fun b2 w3 S3 H3 => mk H3 fun b3 w4 S4 H4 => fin (S1.trans (S2.trans (S3.trans S4))) (by have h_ := Holds.ord 3 [2, 1, 0] H4 rfl; exact h_) fun x w' hx => r_ke hx, mk H2 fun b2 w3 S3 H3 => mk H3 fun b3 w4 S4 H4 => fin (S1.trans (S2.trans (S3.trans S4))) (by have h_ := Holds.ord 3 [2, 0, 1] H4 rfl; exact h_) fun x w' hx => r_ke hx⟩
  ·refine mk H1 fun b1 w2 S2 H2 => ⟨mk H2 fun b2 w3 S3 H3 => mk H3 fun b3 w4 S4 H4 => fin (S1.trans (S2.trans (S3.trans S4))) (by have h_ := Holds.ord 3 [1, 2, 0] H4 rfl; exact h_) fun x w' hx => r_ke hx, mk H2 fun b2 w3 S3 H3 => mk H3 fun b3 w4 S4 H4 => fin (S1.trans (S2.trans (S3.trans S4))) (by have h_ := Holds.ord 3 [0, 2, 1] H4 rfl; exact h_) fun x w' hx => r_ke hx⟩
  ·refine mk H1 fun b1 w2 S2 H2 => ⟨mk H2 fun b2 w3 S3 H3 => mk H3 fun b3 w4 S4 H4 => fin (S1.trans (S2.trans (S3.trans S4))) (by have h_ := Holds.ord 3 [1, 0, 2] H4 rfl; exact h_) fun x w' hx => r_ke hx, mk H2 fun b2 w3 S3 H3 => mk H3 fun b3 w4 S4 H4 => fin (S1.trans (S2.trans (S3.trans S4))) (by have h_ := Holds.ord 3 [0, 1, 2] H4 rfl; exact h_) fun x w' hx => r_ke hx⟩
end S16
namespace F08
variable {w : World} {L : List HProp} {K : Value -> World -> Prop}
theorem CloneO_spec {b o m c j : Nat} {cs : List Value} {xs : List Nat} (H : Holds w L) (hj : L[j]? = some (blk b tI cs)) (hcs : (cs.drop o).take m = xs.map nv) (hm : m = xs.length) (hne : 0 < xs.length) (hn : xs.length <= 1000000000)
  (k : ∀ v' w', Same w w' -> Holds w' (SL nv tI v' xs :: L) -> K v' w') : Cl Tryz.prog 153 #[.slice (some ⟨b, o, none⟩) m c] w K := by
 refine Tz153 ?_; unfold Vz153; refine eq_nilI _ _ _ (r_vf ?_); refine r_bsK (e := tI) [] H (by kernel_rfl) fun b0 w1 S1 H1 => ?_; have H2 := Holds.slb' (f := nv) (xs := []) (sp := []) H1 0 rfl; rw [List.set_cons_zero] at H2; refine r_apO (f := nv) (xs := []) (ys := xs) (sp := []) (l := 0) (c := 0) H2 0 (j + 1) rfl (by rw [List.getElem?_cons_succ]; exact hj) hcs hm rfl rfl sg_nv (by simp only [List.length_nil]; omega) hne fun oa' sp' w2 S2 H3 => ?_; rw [List.set_cons_zero, List.nil_append] at H3; have H4 := H3.close 0 rfl; rw [List.set_cons_zero] at H4; have := k _ w2 (S1.trans S2) H4; simpa only [List.length_nil, Nat.zero_add] using this
theorem Group_spec {v : Value} {l : List Nat} {i g : Nat} (H : Holds w L) (hi : L[i]? = some (SL nv tI v l)) (hl : l.length <= 100000000) (hg : g * 50 < l.length)
  (k : ∀ v' w', Same w w' -> Holds w' (SL nv tI v' ((l.drop (g * 50)).take 50) :: L) -> K (.tuple #[v', iv 0]) w') : Cl Tryz.prog 149 #[v, nv g] w K := by
 refine Tz149 ?_; unfold Vz149; refine r_join1 (fun t w' => w = w' /\ t = .bool false) ?_ ?_
 rotate_left
 ·refine r_lss (r_vfD (by omega) ?_); refine r_lnS i H hi (Groups_spec (by omega) ?_); exact r_geq (r_ke ⟨rfl, by rw [decide_eq_false (by omega)]⟩)
 rintro _ _ _ ⟨rfl, rfl⟩; refine r_vf ?_; refine r_cl (K := fun z w' => Same w w' /\ Holds w' (SL nv tI z ((l.drop (g * 50)).take 50) :: L)) ?_ ?_
 ·refine Tz198 ?_; unfold Vz198; refine r_mulE ((g * 50 : Nat) : Int) (by omega) (by omega) (by omega) ?_; refine r_lnS i H hi (r_add1N (by omega) ?_); refine r_mulE (((g + 1) * 50 : Nat) : Int) (by omega) (by omega) (by omega) ?_; refine r_min ?_; obtain ⟨h, hh⟩ : ∃ h, h = min l.length ((g + 1) * 50) := ⟨_, rfl⟩; rw [show min (l.length : Int) (((g + 1) * 50 : Nat) : Int) = (h : Int) by omega]; obtain ⟨oa, sp, rfl, H1⟩ := H.open i hi
  cases oa with
  | none =>
   obtain ⟨q, ⟨h2, _⟩, _⟩ := H1.front i (set_get hi); subst h2; simp at hg
  | some a =>
   obtain ⟨q, ⟨h2, h3, _⟩, _⟩ := H1.front i (set_get hi); obtain ⟨b, o, s⟩ := a; simp only at h2 h3; subst h2; subst h3; refine r_sslLH (by omega) (by omega) ?_; rw [if_neg (by omega)]; have H2 := H1.slb i (set_get hi); rw [List.set_set] at H2
   have e1 : Option.map (fun x : Addr => x.add (g * 50 * 1)) (some (⟨b, 0, none⟩ : Addr)) = some (⟨b, g * 50, none⟩ : Addr) := by
    show some ((⟨b, 0, none⟩ : Addr).add (g * 50 * 1)) = _; rw [Nat.mul_one]; unfold Addr.add; split
    ·rename_i e; rw [e]
    ·simp
   rw [e1]
   have hlen : ((l.drop (g * 50)).take 50).length = h - g * 50 := by rw [List.length_take, List.length_drop]; omega
   refine CloneO_spec (xs := (l.drop (g * 50)).take 50) H2 (j := i) (set_get hi) ?_ hlen.symm (by omega) (by omega) fun v' w2 S2 H3 => ⟨S2, ?_⟩
   ·rw [List.drop_append_of_le_length (by rw [List.length_map]; omega), List.take_append_of_le_length (by rw [List.length_drop, List.length_map]; omega), <- List.map_drop, <- List.map_take]
    congr 1
    rcases Nat.le_total ((g + 1) * 50) l.length with q | q
    ·rw [show h - g * 50 = 50 by omega]
    ·rw [List.take_of_length_le (by rw [List.length_drop]; omega), List.take_of_length_le (by rw [List.length_drop]; omega)]
   ·have H4 := (Holds.slb' (f := nv) (xs := l) (sp := sp) H3 (i + 1) (by rw [List.getElem?_cons_succ]; exact set_get hi)); have H5 := H4.close (i + 1) (by rw [List.set_cons_succ, List.getElem?_cons_succ]; exact set_get (set_get hi)); rw [List.set_cons_succ, List.set_cons_succ, List.set_set, List.set_set] at H5
    have e2 : L.set i (SL nv tI (.slice (some ⟨b, 0, none⟩) l.length (l.length + sp.length)) l) = L := by
     obtain ⟨p1, p2⟩ := List.getElem?_eq_some_iff.1 hi; rw [<- p2, List.set_getElem_self]
    rw [e2] at H5; exact H5
 rintro v' w' ⟨S2, H2⟩; exact k v' w' S2 H2
theorem addL_cnt (a b : List Nat) (n : Nat) : addL (cnt a n) (cnt b n) = cnt (a ++ b) n := by
 unfold addL; apply List.ext_getElem?; intro i; rw [List.getElem?_zipWith]; rcases Nat.lt_or_ge i n with q | q
 ·rw [cnt_get q, cnt_get q, cnt_get q, List.count_append]
 ·have e : ∀ z, (cnt z n)[i]? = none := fun z => List.getElem?_eq_none (by rw [cnt_len]; exact q); rw [e, e, e]
theorem cnt_le (l : List Nat) (n : Nat) : ∀ x ∈ cnt l n, x <= l.length := by
 intro x hx; unfold cnt at hx; obtain ⟨y, _, rfl⟩ := List.mem_map.1 hx; exact List.count_le_length
end F08
end Go.Proofs.YtgaiocpkjaaphaaGreatDoor
