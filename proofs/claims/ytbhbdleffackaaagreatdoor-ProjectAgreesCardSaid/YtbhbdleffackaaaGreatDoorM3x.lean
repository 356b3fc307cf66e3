/- Chapter 31, plain: a bad byte by the document's rule is one by the model's decoding. No program in sight. -/
import Derived.Test.YtbhbdleffackaaaGreatDoorM31
set_option linter.unusedVariables false
set_option linter.unusedSimpArgs false
namespace Go.M31
theorem wide_z2 {l : List UInt8} (h : (wide l 2).2 = 0) (g : goesOn l 1 = true) : 64 * ((byt l 0 : Int) - 192) + (byt l 1 : Int) - 128 < 128 ∨ 1114111 < 64 * ((byt l 0 : Int) - 192) + (byt l 1 : Int) - 128 ∨ (55296 ≤ 64 * ((byt l 0 : Int) - 192) + (byt l 1 : Int) - 128 ∧ 64 * ((byt l 0 : Int) - 192) + (byt l 1 : Int) - 128 ≤ 57343) := by
  unfold wide at h
  rw [wideN2, g, if_pos rfl] at h
  simp only [startW, if_pos] at h
  unfold wideR at h
  split at h
  · rename_i h1; simpa [least] using h1
  · cases h
theorem wide_z3 {l : List UInt8} (h : (wide l 3).2 = 0) (g : goesOn l 1 = true) (g2 : goesOn l 2 = true) : ∃ n : Int, n = 64 * (64 * ((byt l 0 : Int) - 224) + (byt l 1 : Int) - 128) + (byt l 2 : Int) - 128 ∧ (n < 2048 ∨ 1114111 < n ∨ (55296 ≤ n ∧ n ≤ 57343)) := by
  unfold wide at h
  rw [wideN3, g, g2, if_pos rfl, if_pos rfl] at h
  simp only [startW, if_pos, show ¬ (3 : Nat) = 2 by omega, if_false] at h
  unfold wideR at h
  split at h
  · rename_i h1; exact ⟨_, rfl, by simpa [least] using h1⟩
  · cases h
theorem wide_z4 {l : List UInt8} (h : (wide l 4).2 = 0) (g : goesOn l 1 = true) (g2 : goesOn l 2 = true) (g3 : goesOn l 3 = true) : ∃ n : Int, n = 64 * (64 * (64 * ((byt l 0 : Int) - 240) + (byt l 1 : Int) - 128) + (byt l 2 : Int) - 128) + (byt l 3 : Int) - 128 ∧ (n < 65536 ∨ 1114111 < n ∨ (55296 ≤ n ∧ n ≤ 57343)) := by
  unfold wide at h
  rw [wideN4, g, g2, g3, if_pos rfl, if_pos rfl, if_pos rfl] at h
  simp only [startW, if_pos, show ¬ (4 : Nat) = 2 by omega, show ¬ (4 : Nat) = 3 by omega, if_false] at h
  unfold wideR at h
  split at h
  · rename_i h1; exact ⟨_, rfl, by simpa [least] using h1⟩
  · cases h
theorem first_bad {l : List UInt8} (h : first l = (-1, 1)) : 128 ≤ byt l 0 ∧ (firstW l).2 = 0 := by
  have hb : ¬ byt l 0 < 128 := fun hb => by
    unfold first at h
    rw [if_pos hb] at h
    simp only [Prod.mk.injEq] at h
    omega
  refine ⟨by omega, ?_⟩
  cases Nat.decEq (firstW l).2 0 with
  | isTrue e => exact e
  | isFalse e =>
    unfold first at h
    rw [if_neg hb, if_neg e] at h
    exfalso
    unfold firstW at h e
    split at h
    · rename_i hr
      rw [if_pos hr] at e
      obtain ⟨_, n, _, hn, e2⟩ := wide2_spec l e
      rw [e2] at h
      simp only [Prod.mk.injEq] at h
      omega
    · rename_i hr1
      rw [if_neg hr1] at e
      split at h
      · rename_i hr
        rw [if_pos hr] at e
        obtain ⟨_, _, n, _, hn, _, _, e2⟩ := wide3_spec l e
        rw [e2] at h
        simp only [Prod.mk.injEq] at h
        omega
      · rename_i hr2
        rw [if_neg hr2] at e
        split at h
        · rename_i hr
          rw [if_pos hr] at e
          obtain ⟨_, _, _, n, _, hn, _, _, e2⟩ := wide4_spec l e
          rw [e2] at h
          simp only [Prod.mk.injEq] at h
          omega
        · simp only [Prod.mk.injEq] at h
          omega
theorem decode_of_bad (s : ByteArray) (p : Nat) (h : first (s.data.toList.drop p) = (-1, 1)) : Utf8.decode s p = (65533, 1) := by
  have hg := get_drop s p
  have hsz : s.size = s.data.toList.length := by simp
  have hc : ∀ j, (decide (p + j < s.size) && (byt (s.data.toList.drop p) j / 64 == 2)) = goesOn (s.data.toList.drop p) j := by
    intro j
    rw [Bool.eq_iff_iff, goesOn_iff, Bool.and_eq_true, decide_eq_true_iff, beq_iff_eq, List.length_drop, hsz]
    omega
  unfold Utf8.decode
  simp only [hg, hc]
  generalize hl : s.data.toList.drop p = l at h
  have h2 := goesOn_iff l 1
  have h3 := goesOn_iff l 2
  have h4 := goesOn_iff l 3
  have b0 : byt l 0 < 256 := UInt8.toNat_lt _
  obtain ⟨hb, hz⟩ := first_bad h
  unfold firstW at hz
  rw [if_neg (by omega)]
  by_cases c2 : (byt l 0 / 32 == 6 && goesOn l 1) = true
  · rw [if_pos c2]
    simp only [Bool.and_eq_true, beq_iff_eq] at c2
    rw [if_pos (by omega)] at hz
    have := wide_z2 hz c2.2
    have g1 := h2.1 c2.2
    rw [if_neg (by omega)]
    rfl
  rw [if_neg c2]
  by_cases c3 : (byt l 0 / 16 == 14 && goesOn l 1 && goesOn l 2) = true
  · rw [if_pos c3]
    simp only [Bool.and_eq_true, beq_iff_eq] at c3
    rw [if_neg (by omega), if_pos (by omega)] at hz
    obtain ⟨n, hn, hv⟩ := wide_z3 hz c3.1.2 c3.2
    have g1 := h2.1 c3.1.2
    have g2 := h3.1 c3.2
    rw [if_neg (by unfold Utf8.valid; simp; omega)]
    rfl
  rw [if_neg c3]
  by_cases c4 : (byt l 0 / 8 == 30 && goesOn l 1 && goesOn l 2 && goesOn l 3) = true
  · rw [if_pos c4]
    simp only [Bool.and_eq_true, beq_iff_eq] at c4
    rw [if_neg (by omega), if_neg (by omega), if_pos (by omega)] at hz
    obtain ⟨n, hn, hv⟩ := wide_z4 hz c4.1.1.2 c4.1.2 c4.2
    have g1 := h2.1 c4.1.1.2
    have g2 := h3.1 c4.1.2
    have g3 := h4.1 c4.2
    rw [if_neg (by unfold Utf8.valid; simp; omega)]
    rfl
  rw [if_neg c4]
  rfl
end Go.M31
