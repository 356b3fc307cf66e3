/- Chapter 45, plain: sums and products that stop at the greatest number; the steps of a sort. No program in sight. -/
import Derived.WalkKit
set_option linter.unusedVariables false
set_option linter.unusedSimpArgs false
namespace Go.M45
def sumG (n : Int) : List Int → Int
  | [] => n
  | x :: r => sumG (min (n + min x 1099511627776) 1099511627776) r
def timG (n : Int) : List Int → Int
  | [] => n
  | x :: r => if x > 1099511627776 / n then 1099511627776 else timG (n * x) r
def addP (a b : Int) : Int := if a + b > 1099511627776 then 1099511627776 else a + b
def mulP (a b : Int) : Int := if a > 1099511627776 / b then 1099511627776 else a * b
theorem sum2 (a b : Int) (ha : 0 ≤ a) (hb : 0 ≤ b) (ha2 : a ≤ 1099511627776) (hb2 : b ≤ 1099511627776) : sumG 0 [a, b] = addP a b := by
  simp only [sumG, addP]
  split <;> omega
theorem div_gt (a b : Int) (hb : 0 < b) : a > 1099511627776 / b ↔ 1099511627776 < a * b := Int.ediv_lt_iff_lt_mul hb
theorem mul_comm' (a b : Int) (ha : 0 < a) (hb : 0 < b) : mulP a b = mulP b a := by
  unfold mulP
  by_cases h : 1099511627776 < a * b
  · rw [if_pos ((div_gt a b hb).2 h), if_pos ((div_gt b a ha).2 (by rw [Int.mul_comm]; exact h))]
  · rw [if_neg (fun e => h ((div_gt a b hb).1 e)), if_neg (fun e => h (by have := (div_gt b a ha).1 e; rw [Int.mul_comm] at this; exact this)), Int.mul_comm]
theorem tim2 (a b : Int) (ha : 0 < a) (hb : 0 < b) (ha2 : a ≤ 1099511627776) : timG 1 [a, b] = mulP a b := by
  simp only [timG, Int.ediv_one, Int.one_mul]
  rw [if_neg (by omega), mul_comm' a b ha hb]
  unfold mulP
  rw [Int.mul_comm]
theorem mulP_le (a b : Int) (hb : 0 < b) : mulP a b ≤ 1099511627776 := by
  unfold mulP
  split
  · exact Int.le_refl _
  · rename_i h
    have h2 : ¬ ((1099511627776 : Int) < a * b) := fun e => h ((div_gt a b hb).2 e)
    omega
theorem mulP_pos (a b : Int) (ha : 0 < a) (hb : 0 < b) : 0 < mulP a b := by
  unfold mulP
  split
  · decide
  · exact Int.mul_pos ha hb
theorem addP_le (a b : Int) : addP a b ≤ 1099511627776 := by unfold addP; split <;> omega
theorem addP_gt (a b : Int) (hb : 0 < b) (ha : a < 1099511627776) : a < addP a b := by unfold addP; split <;> omega
theorem addP_nn (a b : Int) (ha : 0 ≤ a) (hb : 0 ≤ b) : 0 ≤ addP a b := by unfold addP; split <;> omega
theorem addP_lo (a b : Int) (h : a + b ≤ 1099511627776) : addP a b = a + b := by unfold addP; rw [if_neg (by omega)]
/-- How often two must be doubled to reach n. -/
def lgP (n : Nat) : Nat → Nat → Nat
  | 0, b => b
  | f + 1, b => if 2 ^ b < n then lgP n f (b + 1) else b
def lg (n : Nat) : Nat := lgP n n 0
theorem lgP_spec (n : Nat) : ∀ f b, (∀ j, j < b → 2 ^ j < n) → n ≤ 2 ^ (b + f) → (∀ j, j < lgP n f b → 2 ^ j < n) ∧ n ≤ 2 ^ lgP n f b
  | 0, b, h, h2 => ⟨h, h2⟩
  | f + 1, b, h, h2 => by
    rw [lgP]
    split
    · rename_i h3
      refine lgP_spec n f (b + 1) (fun j hj => ?_) (by rw [show b + 1 + f = b + (f + 1) by omega]; exact h2)
      rcases Nat.lt_or_ge j b with h4 | h4
      · exact h j h4
      · have : j = b := by omega
        rw [this]; exact h3
    · exact ⟨h, by omega⟩
theorem lg_spec (n : Nat) : (∀ j, j < lg n → 2 ^ j < n) ∧ n ≤ 2 ^ lg n :=
  lgP_spec n n 0 (fun j hj => by omega) (by rw [Nat.zero_add]; exact Nat.le_of_lt Nat.lt_two_pow_self)
theorem lg_uniq (n b : Nat) (h1 : ∀ j, j < b → 2 ^ j < n) (h2 : n ≤ 2 ^ b) : b = lg n := by
  obtain ⟨h3, h4⟩ := lg_spec n
  rcases Nat.lt_trichotomy b (lg n) with h | h | h
  · have := h3 b h; omega
  · exact h
  · have := h1 _ h; omega
theorem lg_le (n m : Nat) (h : n ≤ 2 ^ m) : lg n ≤ m := by
  rcases Nat.lt_or_ge m (lg n) with h1 | h1
  · have := (lg_spec n).1 m h1; omega
  · exact h1
def each (n : Nat) : Nat := (4 + 3 * lg n) * (lg n + 2)
theorem each_le (n : Nat) (h : n ≤ 1048576) : each n ≤ 1408 := by
  have := lg_le n 20 h
  unfold each
  exact Nat.mul_le_mul (show 4 + 3 * lg n ≤ 64 by omega) (show lg n + 2 ≤ 22 by omega)
theorem each_ge (n : Nat) : 8 ≤ each n := by
  unfold each
  exact Nat.mul_le_mul (show 4 ≤ 4 + 3 * lg n by omega) (show 2 ≤ lg n + 2 by omega)
/-- The steps of a sort at most. -/
def mostS (n : Nat) : Nat := n * each n
theorem mostS_le (n : Nat) (h : n ≤ 1048576) : mostS n ≤ 1048576 * 1408 := Nat.mul_le_mul h (each_le n h)
theorem lt_up (n d k : Nat) (hd : 0 < d) : k < (n + d - 1) / d ↔ k * d < n := by
  rw [Nat.lt_iff_add_one_le, Nat.le_div_iff_mul_le hd, Nat.add_mul]
  omega
/-- The steps at most of a job that compresses, and of one that expands. -/
def pressP (r n : Nat) : Int := addP ((n : Int) + 1) (mulP (((5 * n + 2 * r - 1) / (2 * r) : Nat) + 2 : Int) ((mostS r : Nat) + r + r : Int))
def expP (u n : Nat) : Int := addP (8 * (n : Int) + 16) (mulP ((n / 16 : Nat) + 1 : Int) (36 * (u : Int)))
end Go.M45
