/- Sums, and packed texts, plain. No program in sight. -/
import Derived.Test.YtcnmamnnjdifdaaGreatDoorW02
set_option linter.unusedVariables false
set_option linter.unusedSimpArgs false
namespace Go.M02
theorem bit_mul {p q k : Nat} (hp : p ≤ 1) (hq : q ≤ 1) : (p ^^^ q) * k = p * k ^^^ q * k := by
  have h1 : p = 0 ∨ p = 1 := by omega
  have h2 : q = 0 ∨ q = 1 := by omega
  rcases h1 with rfl | rfl <;> rcases h2 with rfl | rfl <;> simp
theorem xor4 (w x y z : Nat) : (w ^^^ x) ^^^ (y ^^^ z) = (w ^^^ y) ^^^ (x ^^^ z) := by
  rw [Nat.xor_assoc, Nat.xor_assoc]
  refine congrArg (fun q => w ^^^ q) ?_
  rw [← Nat.xor_assoc, Nat.xor_comm x y, Nat.xor_assoc]
theorem crcStep_xor {a b : Nat} (ha : a < 4294967296) (hb : b < 4294967296) : crcStep (a ^^^ b) = crcStep a ^^^ crcStep b := by
  have h1 : (a ^^^ b) * 2 % 4294967296 = (a * 2 % 4294967296) ^^^ (b * 2 % 4294967296) := by
    have e1 : (a ^^^ b) * 2 = (a * 2) ^^^ (b * 2) := by
      have := Nat.shiftLeft_xor_distrib (i := 1) (a := a) (b := b)
      simpa [Nat.shiftLeft_eq] using this
    rw [e1]
    exact Nat.xor_mod_two_pow (n := 32)
  have h2 : (a ^^^ b) / 2147483648 = (a / 2147483648) ^^^ (b / 2147483648) := Nat.xor_div_two_pow (n := 31)
  unfold crcStep
  rw [h1, h2, bit_mul (by omega) (by omega)]
  exact xor4 _ _ _ _
theorem crcN_xor {a b : Nat} (ha : a < 4294967296) (hb : b < 4294967296) : ∀ k, crcN (a ^^^ b) k = crcN a k ^^^ crcN b k
  | 0 => rfl
  | k + 1 => by rw [crcN, crcN_xor ha hb k, crcStep_xor (crcN_lt a ha k) (crcN_lt b hb k)]; rfl
theorem crcN_low {a : Nat} (ha : a < 16777216) : ∀ k, k ≤ 8 → crcN a k = a * 2 ^ k
  | 0, _ => by simp [crcN]
  | k + 1, hk => by
    have h2 : 2 ^ k ≤ 2 ^ 7 := Nat.pow_le_pow_right (by decide) (by omega)
    have h3 : a * 2 ^ k ≤ 16777215 * 128 := Nat.mul_le_mul (by omega) h2
    rw [crcN, crcN_low ha k (by omega), Nat.pow_succ, ← Nat.mul_assoc]
    generalize a * 2 ^ k = y at *
    unfold crcStep
    rw [Nat.div_eq_of_lt (by omega), Nat.zero_mul, Nat.xor_zero, Nat.mod_eq_of_lt (by omega)]
theorem split24 (x : Nat) : x = (x % 16777216) ^^^ (x / 16777216 * 16777216) := by
  apply Nat.eq_of_testBit_eq
  intro i
  rw [Nat.testBit_xor]
  have h1 : (x % 16777216).testBit i = (decide (i < 24) && x.testBit i) := Nat.testBit_mod_two_pow x 24 i
  have h2 : (x / 16777216 * 16777216).testBit i = (decide (24 ≤ i) && x.testBit i) := by
    have h3 : x / 16777216 * 16777216 = (x >>> 24) <<< 24 := by rw [Nat.shiftLeft_eq, Nat.shiftRight_eq_div_pow]
    rw [h3, Nat.testBit_shiftLeft, Nat.testBit_shiftRight]
    by_cases h : 24 ≤ i
    · simp [h]
    · simp [h]
  rw [h1, h2]
  by_cases h : i < 24
  · simp [h, show ¬ 24 ≤ i by omega]
  · simp [h, show 24 ≤ i by omega]
/-- What a byte makes of a sum. -/
def crcB (s : Nat) (c : UInt8) : Nat := crcN (s ^^^ c.toNat * 16777216) 8
theorem crcB_lt {s : Nat} (h : s < 4294967296) (c : UInt8) : crcB s c < 4294967296 := by
  have hc := c.toNat_lt
  exact crcN_lt _ (Nat.xor_lt_two_pow (n := 32) (by omega) (by omega)) 8
theorem crcB_tab {s : Nat} (h : s < 4294967296) (c : UInt8) : (s * 2 ^ 8 % 4294967296) ^^^ crcTab (s / 16777216 ^^^ c.toNat) = crcB s c := by
  have hc := c.toNat_lt
  have hx : s ^^^ c.toNat * 16777216 < 4294967296 := Nat.xor_lt_two_pow (n := 32) (by omega) (by omega)
  have hlo : (s ^^^ c.toNat * 16777216) % 16777216 = s % 16777216 := by
    have := Nat.xor_mod_two_pow (a := s) (b := c.toNat * 16777216) (n := 24)
    rw [show (2 : Nat) ^ 24 = 16777216 from rfl] at this
    rw [this, Nat.mul_mod_left, Nat.xor_zero]
  have hhi : (s ^^^ c.toNat * 16777216) / 16777216 = s / 16777216 ^^^ c.toNat := by
    have := Nat.xor_div_two_pow (a := s) (b := c.toNat * 16777216) (n := 24)
    rw [show (2 : Nat) ^ 24 = 16777216 from rfl] at this
    rw [this, Nat.mul_div_cancel _ (by decide)]
  have hh : s / 16777216 ^^^ c.toNat < 256 := Nat.xor_lt_two_pow (n := 8) (by omega) (by omega)
  unfold crcB
  rw [split24 (s ^^^ c.toNat * 16777216), hlo, hhi, crcN_xor (by omega) (by omega), crcN_low (by omega) 8 (by omega), crcTab]
  refine congrArg (fun q => q ^^^ crcN ((s / 16777216 ^^^ c.toNat) * 16777216) 8) ?_
  omega
def crcF (s : Nat) (l : List UInt8) : Nat := l.foldl crcB s
theorem crcF_snoc (s : Nat) (l : List UInt8) (c : UInt8) : crcF s (l ++ [c]) = crcB (crcF s l) c := by simp [crcF]
theorem crcF_lt : ∀ (l : List UInt8) {s : Nat}, s < 4294967296 → crcF s l < 4294967296
  | [], _, h => h
  | c :: l, _, h => crcF_lt l (crcB_lt h c)
def crcOf (l : List UInt8) : Nat := 4294967295 - crcF 4294967295 l
theorem crcOf_lt (l : List UInt8) : crcOf l < 4294967296 := by unfold crcOf; omega
def comb (t b : Nat) : Nat := (t * 2 % 4294967296) ^^^ (t / 2147483648) ^^^ b
theorem comb_lt {t b : Nat} (ht : t < 4294967296) (hb : b < 4294967296) : comb t b < 4294967296 := by
  unfold comb
  exact Nat.xor_lt_two_pow (n := 32) (Nat.xor_lt_two_pow (n := 32) (by omega) (by omega)) (by omega)
end Go.M02
namespace Go.M03
/-- A packed text's text: behind out, in a row of so many like bytes. -/
def rleA : List UInt8 → Nat → UInt8 → List UInt8 → Option (List UInt8)
  | out, run, p, [] => if run = 4 then none else some out
  | out, run, p, c :: s =>
    if run = 4 then
      if 251 < c.toNat then none else rleA (out ++ List.replicate c.toNat p) 0 c s
    else if 0 < run ∧ c = p then rleA (out ++ [c]) (run + 1) c s
    else rleA (out ++ [c]) 1 c s
theorem rleA_len : ∀ (s out : List UInt8) (run : Nat) (p : UInt8) (t : List UInt8), rleA out run p s = some t → t.length ≤ out.length + 255 * s.length
  | [], out, run, p, t, h => by
    unfold rleA at h
    split at h
    · cases h
    · cases h; simp
  | c :: s, out, run, p, t, h => by
    unfold rleA at h
    rw [List.length_cons]
    split at h
    · split at h
      · cases h
      · have := rleA_len s _ _ _ _ h
        rw [List.length_append, List.length_replicate] at this
        omega
    · split at h
      · have := rleA_len s _ _ _ _ h
        rw [List.length_append, List.length_singleton] at this
        omega
      · have := rleA_len s _ _ _ _ h
        rw [List.length_append, List.length_singleton] at this
        omega
def rle (s : List UInt8) : Option (List UInt8) := rleA [] 0 0 s
end Go.M03
