/- Chapter 1, plain: bits and bytes. No program in sight. -/
import Derived.WalkKit
set_option linter.unusedVariables false
set_option linter.unusedSimpArgs false
namespace Go.M01
/-- The number of bits, the highest first. -/
def valB (l : List Bool) : Nat := l.foldl (fun a b => 2 * a + b.toNat) 0
theorem valB_snoc (l : List Bool) (b : Bool) : valB (l ++ [b]) = 2 * valB l + b.toNat := by simp [valB]
theorem valB_lt (l : List Bool) : valB l < 2 ^ l.length := by
  have h : ∀ n (l : List Bool), l.length = n → valB l < 2 ^ n := by
    intro n
    induction n with
    | zero => intro l hl; rw [List.length_eq_zero_iff.1 hl]; decide
    | succ n ih =>
      intro l hl
      have hne : l ≠ [] := by rintro rfl; simp at hl
      rw [← List.dropLast_concat_getLast hne, valB_snoc, Nat.pow_succ]
      have h1 := ih l.dropLast (by simp [hl])
      have h2 := Bool.toNat_le (l.getLast hne)
      omega
  exact h _ l rfl
def byteAt (bs : List Bool) (i : Nat) : UInt8 := UInt8.ofNat (valB ((bs.drop (8 * i)).take 8))
/-- The whole bytes, and what is behind them, as a byte's highest bits. -/
def wholeB (bs : List Bool) : List UInt8 := (List.range (bs.length / 8)).map (byteAt bs)
def restB (bs : List Bool) : Nat := valB (bs.drop (8 * (bs.length / 8))) * 2 ^ (8 - bs.length % 8) % 256
theorem or_bit : ∀ r, r < 8 → ∀ v, v < 128 → ∀ b : Bool, v < 2 ^ r → (v * 2 ^ (8 - r) % 256) ||| (b.toNat * 2 ^ (7 - r) % 256) = (2 * v + b.toNat) * 2 ^ (7 - r) := by decide +kernel
theorem wholeB_len (bs : List Bool) : (wholeB bs).length = bs.length / 8 := by simp [wholeB]
/-- A bit more, not the last of its byte. -/
theorem put_bit (bs : List Bool) (b : Bool) (h : bs.length % 8 < 7) :
    wholeB (bs ++ [b]) = wholeB bs ∧ restB (bs ++ [b]) = restB bs ||| (b.toNat * 2 ^ (7 - bs.length % 8) % 256) ∧ restB (bs ++ [b]) < 256 := by
  have hl : (bs ++ [b]).length = bs.length + 1 := by simp
  have hd : (bs.length + 1) / 8 = bs.length / 8 := by omega
  have hm : (bs.length + 1) % 8 = bs.length % 8 + 1 := by omega
  refine ⟨?_, ?_, ?_⟩
  · unfold wholeB
    rw [hl, hd]
    apply List.map_congr_left
    intro i hi
    rw [List.mem_range] at hi
    unfold byteAt
    rw [List.drop_append_of_le_length (by omega), List.take_append_of_le_length (by rw [List.length_drop]; omega)]
  · unfold restB
    rw [hl, hd, hm, List.drop_append_of_le_length (by omega), valB_snoc]
    have hv := valB_lt (bs.drop (8 * (bs.length / 8)))
    rw [List.length_drop, show bs.length - 8 * (bs.length / 8) = bs.length % 8 by omega] at hv
    have h7 : 2 ^ (bs.length % 8) ≤ 2 ^ 6 := Nat.pow_le_pow_right (by omega) (by omega)
    rw [or_bit (bs.length % 8) (by omega) _ (by omega) b hv, show 8 - (bs.length % 8 + 1) = 7 - bs.length % 8 by omega]
    refine Nat.mod_eq_of_lt ?_
    have hb := Bool.toNat_le b
    have h1 : 2 * valB (bs.drop (8 * (bs.length / 8))) + b.toNat < 2 ^ (bs.length % 8 + 1) := by rw [Nat.pow_succ]; omega
    calc _ < 2 ^ (bs.length % 8 + 1) * 2 ^ (7 - bs.length % 8) := Nat.mul_lt_mul_of_pos_right h1 (Nat.two_pow_pos _)
      _ = 2 ^ 8 := by rw [← Nat.pow_add]; congr 1; omega
  · unfold restB; exact Nat.mod_lt _ (by decide)
/-- The last bit of a byte. -/
theorem put_last (bs : List Bool) (b : Bool) (h : bs.length % 8 = 7) :
    wholeB (bs ++ [b]) = wholeB bs ++ [UInt8.ofNat (restB bs ||| (b.toNat * 2 ^ (7 - bs.length % 8) % 256))] ∧ restB (bs ++ [b]) = 0 := by
  have hl : (bs ++ [b]).length = bs.length + 1 := by simp
  have hd : (bs.length + 1) / 8 = bs.length / 8 + 1 := by omega
  have hv := valB_lt (bs.drop (8 * (bs.length / 8)))
  rw [List.length_drop, show bs.length - 8 * (bs.length / 8) = 7 by omega] at hv
  refine ⟨?_, ?_⟩
  · unfold wholeB
    rw [hl, hd, List.range_succ, List.map_append]
    congr 1
    · apply List.map_congr_left
      intro i hi
      rw [List.mem_range] at hi
      unfold byteAt
      rw [List.drop_append_of_le_length (by omega), List.take_append_of_le_length (by rw [List.length_drop]; omega)]
    · rw [List.map_singleton]
      unfold restB byteAt
      rw [h, or_bit 7 (by omega) _ (by omega) b hv, List.drop_append_of_le_length (by omega), List.take_of_length_le (by simp; omega), valB_snoc]
      simp
  · unfold restB
    rw [hl, hd, List.drop_of_length_le (by simp; omega), show valB [] = 0 from rfl, Nat.zero_mul]
theorem restB_lt (bs : List Bool) : restB bs < 256 := Nat.mod_lt _ (by decide)
/-- A number's lowest n bits, the highest first. -/
def bitsOf (v n : Nat) : List Bool := (List.range n).map fun i => v.testBit (n - 1 - i)
theorem bitsOf_len (v n : Nat) : (bitsOf v n).length = n := by simp [bitsOf]
theorem bitsOf_get (v n i : Nat) (h : i < n) : (bitsOf v n)[i]? = some (v.testBit (n - 1 - i)) := by simp [bitsOf, h]
theorem bit_at (v j : Nat) : (v / 2 ^ j) &&& 1 = (v.testBit j).toNat := by
  rw [Nat.and_one_is_mod, Nat.testBit_eq_decide_div_mod_eq]
  rcases Nat.mod_two_eq_zero_or_one (v / 2 ^ j) with h | h <;> simp [h]
theorem take_bit (v n i : Nat) (h : i < n) : (bitsOf v n).take (i + 1) = (bitsOf v n).take i ++ [v.testBit (n - 1 - i)] := by
  rw [List.take_add_one, bitsOf_get v n i h]; rfl
end Go.M01
