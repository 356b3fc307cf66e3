/- Packed texts read from left to right, and sums bit by bit: the same as row by row. No program in sight. -/
import Derived.Test.YtcnmamnnjdifdaaGreatDoorM03
namespace Go.M3d
open Go.M02 Go.M03
theorem rleA_p (out s : List UInt8) (p q : UInt8) : rleA out 0 p s = rleA out 0 q s := by
  cases s <;> simp [rleA]
theorem rleA_32 (o : List UInt8) (a : UInt8) (u : List UInt8) (h : ¬ (1 ≤ u.length ∧ u.getD 0 0 = a)) : rleA o 3 a u = rleA o 2 a u := by
  cases u with
  | nil => simp [rleA]
  | cons d v =>
    have hd : ¬ d = a := fun e => h ⟨by simp, e⟩
    simp [rleA, hd]
theorem rleA_21 (o : List UInt8) (a : UInt8) (u : List UInt8) (h : ¬ (2 ≤ u.length ∧ u.getD 0 0 = a ∧ u.getD 1 0 = a)) : rleA o 2 a u = rleA o 1 a u := by
  cases u with
  | nil => simp [rleA]
  | cons d v =>
    by_cases hd : d = a
    · subst hd
      simp only [rleA]
      simp only [show ¬ (2 : Nat) = 4 by omega, show ¬ (1 : Nat) = 4 by omega, if_false, show (0 : Nat) < 2 by omega, show (0 : Nat) < 1 by omega, true_and, if_true]
      exact rleA_32 _ _ _ fun hv => h ⟨by rw [List.length_cons]; omega, rfl, hv.2⟩
    · simp [rleA, hd]
/-- Behind less than four like bytes none is counted. -/
theorem rleA_one (out : List UInt8) (a p : UInt8) (s : List UInt8) (h : ¬ (3 ≤ s.length ∧ s.getD 0 0 = a ∧ s.getD 1 0 = a ∧ s.getD 2 0 = a)) : rleA out 0 p (a :: s) = rleA (out ++ [a]) 0 p s := by
  have e : rleA out 0 p (a :: s) = rleA (out ++ [a]) 1 a s := by simp [rleA]
  rw [e]
  cases s with
  | nil => simp [rleA]
  | cons b t =>
    by_cases hd : b = a
    · subst hd
      have e2 : rleA (out ++ [b]) 0 p (b :: t) = rleA (out ++ [b] ++ [b]) 1 b t := by simp [rleA]
      have e1 : rleA (out ++ [b]) 1 b (b :: t) = rleA (out ++ [b] ++ [b]) 2 b t := by simp [rleA]
      rw [e1, e2]
      exact rleA_21 _ _ _ fun hv => h ⟨by rw [List.length_cons]; omega, rfl, hv.2.1, hv.2.2⟩
    · simp [rleA, hd]
theorem rleA_four (out : List UInt8) (a p : UInt8) (r : List UInt8) : rleA out 0 p (a :: a :: a :: a :: r) = rleA (out ++ [a] ++ [a] ++ [a] ++ [a]) 4 a r := by
  simp [rleA]
theorem rleA_end (out : List UInt8) (a p : UInt8) : rleA out 0 p [a, a, a, a] = none := by
  rw [rleA_four]; simp [rleA]
theorem rleA_bad (out : List UInt8) (a c p : UInt8) (r : List UInt8) (h : 251 < c.toNat) : rleA out 0 p (a :: a :: a :: a :: c :: r) = none := by
  rw [rleA_four]; simp [rleA, h]
theorem rleA_run (out : List UInt8) (a c p : UInt8) (r : List UInt8) (h : ¬ 251 < c.toNat) : rleA out 0 p (a :: a :: a :: a :: c :: r) = rleA (out ++ List.replicate (4 + c.toNat) a) 0 p r := by
  rw [rleA_four]
  have e : rleA (out ++ [a] ++ [a] ++ [a] ++ [a]) 4 a (c :: r) = rleA (out ++ [a] ++ [a] ++ [a] ++ [a] ++ List.replicate c.toNat a) 0 c r := by
    simp only [rleA, if_true, if_neg h]
  rw [e, rleA_p _ _ c p]
  congr 1
  rw [Nat.add_comm, show List.replicate (c.toNat + 4) a = [a, a, a, a] ++ List.replicate c.toNat a from rfl]
  simp
/-- Do four like bytes begin it? -/
def four (s : List UInt8) : Prop := 4 ≤ s.length ∧ s.getD 0 0 = s.getD 1 0 ∧ s.getD 1 0 = s.getD 2 0 ∧ s.getD 2 0 = s.getD 3 0
theorem four_form {s : List UInt8} (h : four s) : ∃ a r, s = a :: a :: a :: a :: r := by
  obtain ⟨h0, h1, h2, h3⟩ := h
  match s, h0 with
  | a :: b :: c :: d :: r, _ =>
    simp only [List.getD_cons_zero, List.getD_cons_succ] at h1 h2 h3
    subst h1; subst h2; subst h3
    exact ⟨a, r, rfl⟩
theorem rleA_step {out : List UInt8} {p a : UInt8} {s : List UInt8} (h : ¬ four (a :: s)) : rleA out 0 p (a :: s) = rleA (out ++ [a]) 0 p s := by
  refine rleA_one _ _ _ _ fun ⟨h0, h1, h2, h3⟩ => h ⟨by rw [List.length_cons]; omega, ?_, ?_, ?_⟩
  · simp only [List.getD_cons_zero, List.getD_cons_succ]; exact h1.symm
  · simp only [List.getD_cons_succ]; rw [h1, h2]
  · simp only [List.getD_cons_succ]; rw [h2, h3]
/-- A step, as the document goes it. -/
theorem crcStep_high {x : Nat} (h : 2147483648 ≤ x) (hx : x < 4294967296) : ((x - 2147483648) * 2) ^^^ 79764919 = crcStep x := by
  unfold crcStep
  rw [show x / 2147483648 = 1 by omega, Nat.one_mul, show x * 2 % 4294967296 = (x - 2147483648) * 2 by omega]
theorem crcStep_low {x : Nat} (h : x < 2147483648) : x * 2 = crcStep x := by
  unfold crcStep
  rw [show x / 2147483648 = 0 by omega, Nat.zero_mul, Nat.xor_zero, show x * 2 % 4294967296 = x * 2 by omega]
theorem crcStep_lt {x : Nat} : crcStep x < 4294967296 ∨ 4294967296 ≤ x := by
  by_cases h : x < 4294967296
  · left
    unfold crcStep
    refine Nat.xor_lt_two_pow (n := 32) (by omega) ?_
    have : x / 2147483648 < 2 := by omega
    have : x / 2147483648 * 79764919 ≤ 1 * 79764919 := Nat.mul_le_mul_right _ (by omega)
    omega
  · right; omega
theorem crcN_snoc (s k : Nat) : crcN s (k + 1) = crcStep (crcN s k) := rfl
theorem crcN_lt {s : Nat} (h : s < 4294967296) : ∀ k, crcN s k < 4294967296
  | 0 => h
  | k + 1 => by
    rw [crcN_snoc]
    rcases crcStep_lt (x := crcN s k) with h1 | h1
    · exact h1
    · have := crcN_lt h k; omega
end Go.M3d
