/- Chapter 31, plain: runes by the document's rule, against the model's decoding. No program in sight. -/
import Derived.WalkKit
set_option linter.unusedVariables false
set_option linter.unusedSimpArgs false
namespace Go.M31
/-- The byte at a place, and whether it goes on. -/
def byt (l : List UInt8) (i : Nat) : Nat := (l.getD i 0).toNat
def goesOn (l : List UInt8) (i : Nat) : Bool := decide (i < l.length) && decide (128 ≤ byt l i) && decide (byt l i < 192)
/-- A wide rune's number, from its first byte's share on; none: it is cut, or a byte does not go on. -/
def wideN (l : List UInt8) (bytes : Nat) : Nat → Nat → Int → Option Int
  | 0, _, n => some n
  | f + 1, i, n => if i < bytes then (if goesOn l i then wideN l bytes f (i + 1) (64 * n + (byt l i : Int) - 128) else none) else some n
def startW (c : Int) (bytes : Nat) : Int := if bytes = 2 then c - 192 else if bytes = 3 then c - 224 else if bytes = 4 then c - 240 else c
def least (bytes : Nat) : Int := if bytes = 3 then 2048 else if bytes = 4 then 65536 else 128
def wideR (n : Int) (bytes : Nat) : Int × Nat := if n < least bytes ∨ 1114111 < n ∨ (55296 ≤ n ∧ n ≤ 57343) then (0, 0) else (n, bytes)
def wide (l : List UInt8) (bytes : Nat) : Int × Nat :=
  match wideN l bytes 4 1 (startW (byt l 0) bytes) with
  | none => (0, 0)
  | some n => wideR n bytes
def firstW (l : List UInt8) : Int × Nat :=
  if 192 ≤ byt l 0 ∧ byt l 0 < 224 then wide l 2 else if 224 ≤ byt l 0 ∧ byt l 0 < 240 then wide l 3 else if 240 ≤ byt l 0 ∧ byt l 0 < 248 then wide l 4 else (0, 0)
def first (l : List UInt8) : Int × Nat :=
  if byt l 0 < 128 then (byt l 0, 1) else if (firstW l).2 = 0 then (-1, 1) else firstW l
theorem wideN2 (l : List UInt8) (n : Int) : wideN l 2 4 1 n = if goesOn l 1 then some (64 * n + (byt l 1 : Int) - 128) else none := by
  simp [wideN]
theorem wideN3 (l : List UInt8) (n : Int) : wideN l 3 4 1 n = if goesOn l 1 then (if goesOn l 2 then some (64 * (64 * n + (byt l 1 : Int) - 128) + (byt l 2 : Int) - 128) else none) else none := by
  simp [wideN]
theorem wideN4 (l : List UInt8) (n : Int) : wideN l 4 4 1 n = if goesOn l 1 then (if goesOn l 2 then (if goesOn l 3 then some (64 * (64 * (64 * n + (byt l 1 : Int) - 128) + (byt l 2 : Int) - 128) + (byt l 3 : Int) - 128) else none) else none) else none := by
  simp [wideN]
theorem goesOn_iff (l : List UInt8) (i : Nat) : goesOn l i = true ↔ i < l.length ∧ 128 ≤ byt l i ∧ byt l i < 192 := by
  simp [goesOn, and_assoc]
theorem wideR_ne {n : Int} {b : Nat} (h : (wideR n b).2 ≠ 0) : ¬ (n < least b ∨ 1114111 < n ∨ (55296 ≤ n ∧ n ≤ 57343)) ∧ wideR n b = (n, b) := by
  unfold wideR at h ⊢
  by_cases hv : n < least b ∨ 1114111 < n ∨ (55296 ≤ n ∧ n ≤ 57343)
  · rw [if_pos hv] at h; exact absurd rfl h
  · exact ⟨hv, if_neg hv⟩
theorem wide2_spec (l : List UInt8) (h : (wide l 2).2 ≠ 0) : goesOn l 1 = true ∧ ∃ n : Int, n = 64 * ((byt l 0 : Int) - 192) + (byt l 1 : Int) - 128 ∧ 128 ≤ n ∧ wide l 2 = (n, 2) := by
  unfold wide at h ⊢
  rw [wideN2] at h ⊢
  cases g1 : goesOn l 1 with
  | false => simp [g1] at h
  | true =>
    simp only [g1, if_true] at h ⊢
    obtain ⟨h1, h2⟩ := wideR_ne h
    have h3 : least 2 = 128 := rfl
    exact ⟨trivial, _, rfl, by unfold startW at h1; simp only [if_true] at h1; omega, h2⟩
theorem wide3_spec (l : List UInt8) (h : (wide l 3).2 ≠ 0) : goesOn l 1 = true ∧ goesOn l 2 = true ∧ ∃ n : Int, n = 64 * (64 * ((byt l 0 : Int) - 224) + (byt l 1 : Int) - 128) + (byt l 2 : Int) - 128 ∧ 2048 ≤ n ∧ n ≤ 1114111 ∧ ¬ (55296 ≤ n ∧ n ≤ 57343) ∧ wide l 3 = (n, 3) := by
  unfold wide at h ⊢
  rw [wideN3] at h ⊢
  cases g1 : goesOn l 1 with
  | false => simp [g1] at h
  | true =>
    cases g2 : goesOn l 2 with
    | false => simp [g1, g2] at h
    | true =>
      simp only [g1, g2, if_true] at h ⊢
      obtain ⟨h1, h2⟩ := wideR_ne h
      have h3 : least 3 = 2048 := rfl
      have h4 : startW (byt l 0) 3 = (byt l 0 : Int) - 224 := rfl
      rw [h4] at h1 h2 ⊢
      exact ⟨trivial, trivial, _, rfl, by omega, by omega, by omega, h2⟩
theorem wide4_spec (l : List UInt8) (h : (wide l 4).2 ≠ 0) : goesOn l 1 = true ∧ goesOn l 2 = true ∧ goesOn l 3 = true ∧ ∃ n : Int, n = 64 * (64 * (64 * ((byt l 0 : Int) - 240) + (byt l 1 : Int) - 128) + (byt l 2 : Int) - 128) + (byt l 3 : Int) - 128 ∧ 65536 ≤ n ∧ n ≤ 1114111 ∧ ¬ (55296 ≤ n ∧ n ≤ 57343) ∧ wide l 4 = (n, 4) := by
  unfold wide at h ⊢
  rw [wideN4] at h ⊢
  cases g1 : goesOn l 1 with
  | false => simp [g1] at h
  | true =>
    cases g2 : goesOn l 2 with
    | false => simp [g1, g2] at h
    | true =>
      cases g3 : goesOn l 3 with
      | false => simp [g1, g2, g3] at h
      | true =>
        simp only [g1, g2, g3, if_true] at h ⊢
        obtain ⟨h1, h2⟩ := wideR_ne h
        have h3 : least 4 = 65536 := rfl
        have h4 : startW (byt l 0) 4 = (byt l 0 : Int) - 240 := rfl
        rw [h4] at h1 h2 ⊢
        exact ⟨trivial, trivial, trivial, _, rfl, by omega, by omega, by omega, h2⟩
/-- How a text begins. -/
theorem first_spec (l : List UInt8) : (byt l 0 < 128 ∧ first l = ((byt l 0 : Int), 1)) ∨ first l = (-1, 1) ∨
    (192 ≤ byt l 0 ∧ byt l 0 < 224 ∧ (wide l 2).2 ≠ 0 ∧ first l = wide l 2) ∨ (224 ≤ byt l 0 ∧ byt l 0 < 240 ∧ (wide l 3).2 ≠ 0 ∧ first l = wide l 3) ∨ (240 ≤ byt l 0 ∧ byt l 0 < 248 ∧ (wide l 4).2 ≠ 0 ∧ first l = wide l 4) := by
  unfold first
  by_cases h1 : byt l 0 < 128
  · exact .inl ⟨h1, if_pos h1⟩
  · rw [if_neg h1]
    by_cases hz : (firstW l).2 = 0
    · exact .inr (.inl (if_pos hz))
    · rw [if_neg hz]
      unfold firstW at hz ⊢
      by_cases h2 : 192 ≤ byt l 0 ∧ byt l 0 < 224
      · rw [if_pos h2] at hz ⊢
        exact .inr (.inr (.inl ⟨h2.1, h2.2, hz, rfl⟩))
      · rw [if_neg h2] at hz ⊢
        by_cases h3 : 224 ≤ byt l 0 ∧ byt l 0 < 240
        · rw [if_pos h3] at hz ⊢
          exact .inr (.inr (.inr (.inl ⟨h3.1, h3.2, hz, rfl⟩)))
        · rw [if_neg h3] at hz ⊢
          by_cases h4 : 240 ≤ byt l 0 ∧ byt l 0 < 248
          · rw [if_pos h4] at hz ⊢
            exact .inr (.inr (.inr (.inr ⟨h4.1, h4.2, hz, rfl⟩)))
          · rw [if_neg h4] at hz
            exact absurd rfl hz
theorem first_bytes (l : List UInt8) : 1 ≤ (first l).2 ∧ (first l).2 ≤ 4 := by
  rcases first_spec l with ⟨_, h⟩ | h | ⟨_, _, hz, h⟩ | ⟨_, _, hz, h⟩ | ⟨_, _, hz, h⟩
  · rw [h]; simp
  · rw [h]; simp
  · obtain ⟨_, n, _, _, e⟩ := wide2_spec l hz; rw [h, e]; simp
  · obtain ⟨_, _, n, _, _, _, _, e⟩ := wide3_spec l hz; rw [h, e]; simp
  · obtain ⟨_, _, _, n, _, _, _, _, e⟩ := wide4_spec l hz; rw [h, e]; simp
/-- Where the rule tells a rune, its bytes are there. -/
theorem first_len (l : List UInt8) (h0 : 0 < l.length) : (first l).2 ≤ l.length := by
  rcases first_spec l with ⟨_, h⟩ | h | ⟨_, _, hz, h⟩ | ⟨_, _, hz, h⟩ | ⟨_, _, hz, h⟩
  · rw [h]; simp only; omega
  · rw [h]; simp only; omega
  · obtain ⟨g1, n, _, _, e⟩ := wide2_spec l hz; rw [h, e]; have := (goesOn_iff l 1).1 g1; simp only; omega
  · obtain ⟨_, g1, n, _, _, _, _, e⟩ := wide3_spec l hz; rw [h, e]; have := (goesOn_iff l 2).1 g1; simp only; omega
  · obtain ⟨_, _, g1, n, _, _, _, _, e⟩ := wide4_spec l hz; rw [h, e]; have := (goesOn_iff l 3).1 g1; simp only; omega
theorem get_drop (s : ByteArray) (p k : Nat) : (s.get! (p + k)).toNat = byt (s.data.toList.drop p) k := by
  unfold byt
  rw [List.getD_eq_getElem?_getD, List.getElem?_drop]
  cases s with
  | mk d =>
    show (d[p + k]!).toNat = _
    rw [getElem!_def]
    simp
    rfl
/-- A rune that the rule tells, but a bad byte, is the one that the model decodes. -/
theorem decode_of_first (s : ByteArray) (p : Nat) (n : Nat) (k : Nat) (h : first (s.data.toList.drop p) = ((n : Int), k)) : Utf8.decode s p = (n, k) := by
  have hg := get_drop s p
  have hsz : s.size = s.data.toList.length := by simp
  have hc : ∀ j, (decide (p + j < s.size) && (byt (s.data.toList.drop p) j / 64 == 2)) = goesOn (s.data.toList.drop p) j := by
    intro j
    rw [Bool.eq_iff_iff, goesOn_iff, Bool.and_eq_true, decide_eq_true_iff, beq_iff_eq, List.length_drop, hsz]
    omega
  unfold Utf8.decode
  simp only [hg, hc]
  generalize hl : s.data.toList.drop p = l at h
  have h2 := goesOn_iff l 1
  have h3 := goesOn_iff l 2
  have h4 := goesOn_iff l 3
  have b0 : byt l 0 < 256 := UInt8.toNat_lt _
  rcases first_spec l with ⟨hlt, e⟩ | e | ⟨r1, r2, hz, e⟩ | ⟨r1, r2, hz, e⟩ | ⟨r1, r2, hz, e⟩
  · rw [e] at h
    simp only [Prod.mk.injEq] at h
    obtain ⟨h5, h6⟩ := h
    rw [if_pos hlt, show byt l 0 = n by omega, h6]
  · rw [e] at h
    simp only [Prod.mk.injEq] at h
    omega
  · obtain ⟨g1, m, hm, hm1, e2⟩ := wide2_spec l hz
    rw [e, e2] at h
    simp only [Prod.mk.injEq] at h
    obtain ⟨h5, rfl⟩ := h
    have g1' := h2.1 g1
    have e3 : byt l 0 % 32 * 64 + byt l 1 % 64 = n := by omega
    rw [if_neg (by omega), if_pos (by rw [g1]; simp; omega), e3, if_pos (by omega)]
  · obtain ⟨g1, g2, m, hm, hm1, hm2, hm3, e2⟩ := wide3_spec l hz
    rw [e, e2] at h
    simp only [Prod.mk.injEq] at h
    obtain ⟨h5, rfl⟩ := h
    have g1' := h2.1 g1
    have g2' := h3.1 g2
    have e3 : byt l 0 % 16 * 4096 + byt l 1 % 64 * 64 + byt l 2 % 64 = n := by omega
    rw [if_neg (by omega), if_neg (by simp; omega), if_pos (by rw [g1, g2]; simp; omega), e3, if_pos (by
      unfold Utf8.valid
      simp
      omega)]
  · obtain ⟨g1, g2, g3, m, hm, hm1, hm2, hm3, e2⟩ := wide4_spec l hz
    rw [e, e2] at h
    simp only [Prod.mk.injEq] at h
    obtain ⟨h5, rfl⟩ := h
    have g1' := h2.1 g1
    have g2' := h3.1 g2
    have g3' := h4.1 g3
    have e3 : byt l 0 % 8 * 262144 + byt l 1 % 64 * 4096 + byt l 2 % 64 * 64 + byt l 3 % 64 = n := by omega
    rw [if_neg (by omega), if_neg (by simp; omega), if_neg (by simp; omega), if_pos (by rw [g1, g2, g3]; simp; omega), e3, if_pos (by
      unfold Utf8.valid
      simp
      omega)]
/-- The first three bytes of the rune 65533. -/
theorem repl (l : List UInt8) (k : Nat) (h : first l = (65533, k)) : k = 3 ∧ byt l 0 = 239 ∧ byt l 1 = 191 ∧ byt l 2 = 189 ∧ 3 ≤ l.length := by
  have h2 := goesOn_iff l 1
  have h3 := goesOn_iff l 2
  have h4 := goesOn_iff l 3
  rcases first_spec l with ⟨hlt, e⟩ | e | ⟨r1, r2, hz, e⟩ | ⟨r1, r2, hz, e⟩ | ⟨r1, r2, hz, e⟩
  · rw [e] at h
    simp only [Prod.mk.injEq] at h
    omega
  · rw [e] at h
    simp only [Prod.mk.injEq] at h
    omega
  · obtain ⟨g1, m, hm, hm1, e2⟩ := wide2_spec l hz
    rw [e, e2] at h
    simp only [Prod.mk.injEq] at h
    have g1' := h2.1 g1
    omega
  · obtain ⟨g1, g2, m, hm, hm1, hm2, hm3, e2⟩ := wide3_spec l hz
    rw [e, e2] at h
    simp only [Prod.mk.injEq] at h
    have g1' := h2.1 g1
    have g2' := h3.1 g2
    omega
  · obtain ⟨g1, g2, g3, m, hm, hm1, hm2, hm3, e2⟩ := wide4_spec l hz
    rw [e, e2] at h
    simp only [Prod.mk.injEq] at h
    omega
def mayR (n : Int) : Prop := n > 32 ∧ (n < 127 ∨ n > 160) ∧ n ≠ 58 ∧ n ≠ 35
instance (n : Int) : Decidable (mayR n) := by unfold mayR; infer_instance
/-- A text's runes. -/
def runes (l : List UInt8) : List (Int × Nat) :=
  if h : l = [] then [] else first l :: runes (l.drop (first l).2)
termination_by l.length
decreasing_by
  have := first_bytes l
  have : 0 < l.length := by cases l with | nil => exact absurd rfl h | cons _ _ => simp
  rw [List.length_drop]; omega
theorem runes_nil : runes [] = [] := by rw [runes]; simp
theorem runes_cons {l : List UInt8} (h : 0 < l.length) : runes l = first l :: runes (l.drop (first l).2) := by
  rw [runes, dif_neg (by intro e; subst e; simp at h)]
theorem runes_len (l : List UInt8) : (runes l).length ≤ l.length := by
  induction hn : l.length using Nat.strongRecOn generalizing l with
  | _ n ih =>
    subst hn
    rcases Nat.eq_zero_or_pos l.length with h | h
    · have : l = [] := List.eq_nil_of_length_eq_zero h
      subst this; simp [runes_nil]
    · rw [runes_cons h]
      have h1 := first_bytes l
      have h2 := ih (l.drop (first l).2).length (by rw [List.length_drop]; omega) _ rfl
      rw [List.length_drop] at h2
      simp only [List.length_cons]
      omega
/-- A word. -/
def word (l : List UInt8) : Prop := (∀ r ∈ runes l, mayR r.1) ∧ 0 < (runes l).length ∧ (runes l).length ≤ 32
end Go.M31
