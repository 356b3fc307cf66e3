/- Several texts in one: M31, M3x, Sl, Sq, Sr, St, Vd, Sh, Su, S4r, Tx, Lm, Sw, Ex, Mh, Mi, Lp, E1, E2, E3, F1, F0. -/
import Derived.WalkKit
import Derived.Test.YtcnjipikapiplaaGreatDoorVc
import Derived.Deep.DeepAppendRoom
import Derived.Laws.RangeString
import Derived.Lib.OthersKept
import Derived.Defers
import Derived.Recover
import Derived.Shelf.Lays
import Derived.Shelf.Unicode.DecodeAny
import Derived.Ground.NamesProg
import Derived.Test.YtcnjipikapiplaaGreatDoorProg
import Derived.Deep.Upon
import Derived.Laws.CopyRow
import Derived.Laws.IdiomCopy
import Derived.Laws.IdiomStrings
import Derived.Lib.SplitLaws
import Derived.Deep.AppendSrc
import Derived.Lib.UnsafeStr
import Derived.Lib.Bytealg
import Derived.Lib.MakeNoZero
import Derived.ChangeKeysEq
import Derived.MapKept
set_option linter.unusedVariables false
set_option linter.unusedSimpArgs false
/- Chapter 31, plain: runes by the document's rule, against the model's decoding. No program in sight. -/
namespace Go.M31
def byt (l : List UInt8) (i : Nat) : Nat := (l.getD i 0).toNat
def goesOn (l : List UInt8) (i : Nat) : Bool := decide (i < l.length) && decide (128 ≤ byt l i) && decide (byt l i < 192)
def wideN (l : List UInt8) (bytes : Nat) : Nat → Nat → Int → Option Int
 | 0, _, n => some n
 | f + 1, i, n => if i < bytes then (if goesOn l i then wideN l bytes f (i + 1) (64 * n + (byt l i : Int) - 128) else none) else some n
def startW (c : Int) (bytes : Nat) : Int := if bytes = 2 then c - 192 else if bytes = 3 then c - 224 else if bytes = 4 then c - 240 else c
def least (bytes : Nat) : Int := if bytes = 3 then 2048 else if bytes = 4 then 65536 else 128
def wideR (n : Int) (bytes : Nat) : Int × Nat := if n < least bytes ∨ 1114111 < n ∨ (55296 ≤ n ∧ n ≤ 57343) then (0, 0) else (n, bytes)
def wide (l : List UInt8) (bytes : Nat) : Int × Nat :=
 match wideN l bytes 4 1 (startW (byt l 0) bytes) with
 | none => (0, 0)
 | some n => wideR n bytes
def firstW (l : List UInt8) : Int × Nat :=
 if 192 ≤ byt l 0 ∧ byt l 0 < 224 then wide l 2 else if 224 ≤ byt l 0 ∧ byt l 0 < 240 then wide l 3 else if 240 ≤ byt l 0 ∧ byt l 0 < 248 then wide l 4 else (0, 0)
def first (l : List UInt8) : Int × Nat :=
 if byt l 0 < 128 then (byt l 0, 1) else if (firstW l).2 = 0 then (-1, 1) else firstW l
theorem wideN2 (l : List UInt8) (n : Int) : wideN l 2 4 1 n = if goesOn l 1 then some (64 * n + (byt l 1 : Int) - 128) else none := by
 simp [wideN]
theorem wideN3 (l : List UInt8) (n : Int) : wideN l 3 4 1 n = if goesOn l 1 then (if goesOn l 2 then some (64 * (64 * n + (byt l 1 : Int) - 128) + (byt l 2 : Int) - 128) else none) else none := by
 simp [wideN]
theorem wideN4 (l : List UInt8) (n : Int) : wideN l 4 4 1 n = if goesOn l 1 then (if goesOn l 2 then (if goesOn l 3 then some (64 * (64 * (64 * n + (byt l 1 : Int) - 128) + (byt l 2 : Int) - 128) + (byt l 3 : Int) - 128) else none) else none) else none := by
 simp [wideN]
theorem goesOn_iff (l : List UInt8) (i : Nat) : goesOn l i = true ↔ i < l.length ∧ 128 ≤ byt l i ∧ byt l i < 192 := by
 simp [goesOn, and_assoc]
theorem wideR_ne {n : Int} {b : Nat} (h : (wideR n b).2 ≠ 0) : ¬ (n < least b ∨ 1114111 < n ∨ (55296 ≤ n ∧ n ≤ 57343)) ∧ wideR n b = (n, b) := by
 unfold wideR at h ⊢
 by_cases hv : n < least b ∨ 1114111 < n ∨ (55296 ≤ n ∧ n ≤ 57343)
 · rw [if_pos hv] at h; exact absurd rfl h
 · exact ⟨hv, if_neg hv⟩
theorem wide2_spec (l : List UInt8) (h : (wide l 2).2 ≠ 0) : goesOn l 1 = true ∧ ∃ n : Int, n = 64 * ((byt l 0 : Int) - 192) + (byt l 1 : Int) - 128 ∧ 128 ≤ n ∧ wide l 2 = (n, 2) := by
 unfold wide at h ⊢; rw [wideN2] at h ⊢
 cases g1 : goesOn l 1 with
 | false => simp [g1] at h
 | true =>
   simp only [g1, if_true] at h ⊢; obtain ⟨h1, h2⟩ := wideR_ne h; have h3 : least 2 = 128 := rfl; exact ⟨trivial, _, rfl, by unfold startW at h1; simp only [if_true] at h1; omega, h2⟩
theorem wide3_spec (l : List UInt8) (h : (wide l 3).2 ≠ 0) : goesOn l 1 = true ∧ goesOn l 2 = true ∧ ∃ n : Int, n = 64 * (64 * ((byt l 0 : Int) - 224) + (byt l 1 : Int) - 128) + (byt l 2 : Int) - 128 ∧ 2048 ≤ n ∧ n ≤ 1114111 ∧ ¬ (55296 ≤ n ∧ n ≤ 57343) ∧ wide l 3 = (n, 3) := by
 unfold wide at h ⊢; rw [wideN3] at h ⊢
 cases g1 : goesOn l 1 with
 | false => simp [g1] at h
 | true =>
   cases g2 : goesOn l 2 with
   | false => simp [g1, g2] at h
   | true =>
     simp only [g1, g2, if_true] at h ⊢; obtain ⟨h1, h2⟩ := wideR_ne h; have h3 : least 3 = 2048 := rfl; have h4 : startW (byt l 0) 3 = (byt l 0 : Int) - 224 := rfl; rw [h4] at h1 h2 ⊢; exact ⟨trivial, trivial, _, rfl, by omega, by omega, by omega, h2⟩
theorem wide4_spec (l : List UInt8) (h : (wide l 4).2 ≠ 0) : goesOn l 1 = true ∧ goesOn l 2 = true ∧ goesOn l 3 = true ∧ ∃ n : Int, n = 64 * (64 * (64 * ((byt l 0 : Int) - 240) + (byt l 1 : Int) - 128) + (byt l 2 : Int) - 128) + (byt l 3 : Int) - 128 ∧ 65536 ≤ n ∧ n ≤ 1114111 ∧ ¬ (55296 ≤ n ∧ n ≤ 57343) ∧ wide l 4 = (n, 4) := by
 unfold wide at h ⊢; rw [wideN4] at h ⊢
 cases g1 : goesOn l 1 with
 | false => simp [g1] at h
 | true =>
   cases g2 : goesOn l 2 with
   | false => simp [g1, g2] at h
   | true =>
     cases g3 : goesOn l 3 with
     | false => simp [g1, g2, g3] at h
     | true =>
       simp only [g1, g2, g3, if_true] at h ⊢; obtain ⟨h1, h2⟩ := wideR_ne h; have h3 : least 4 = 65536 := rfl; have h4 : startW (byt l 0) 4 = (byt l 0 : Int) - 240 := rfl; rw [h4] at h1 h2 ⊢; exact ⟨trivial, trivial, trivial, _, rfl, by omega, by omega, by omega, h2⟩
theorem first_spec (l : List UInt8) : (byt l 0 < 128 ∧ first l = ((byt l 0 : Int), 1)) ∨ first l = (-1, 1) ∨
   (192 ≤ byt l 0 ∧ byt l 0 < 224 ∧ (wide l 2).2 ≠ 0 ∧ first l = wide l 2) ∨ (224 ≤ byt l 0 ∧ byt l 0 < 240 ∧ (wide l 3).2 ≠ 0 ∧ first l = wide l 3) ∨ (240 ≤ byt l 0 ∧ byt l 0 < 248 ∧ (wide l 4).2 ≠ 0 ∧ first l = wide l 4) := by
 unfold first
 by_cases h1 : byt l 0 < 128
 · exact .inl ⟨h1, if_pos h1⟩
 · rw [if_neg h1]
   by_cases hz : (firstW l).2 = 0
   · exact .inr (.inl (if_pos hz))
   · rw [if_neg hz]; unfold firstW at hz ⊢
     by_cases h2 : 192 ≤ byt l 0 ∧ byt l 0 < 224
     · rw [if_pos h2] at hz ⊢; exact .inr (.inr (.inl ⟨h2.1, h2.2, hz, rfl⟩))
     · rw [if_neg h2] at hz ⊢
       by_cases h3 : 224 ≤ byt l 0 ∧ byt l 0 < 240
       · rw [if_pos h3] at hz ⊢; exact .inr (.inr (.inr (.inl ⟨h3.1, h3.2, hz, rfl⟩)))
       · rw [if_neg h3] at hz ⊢
         by_cases h4 : 240 ≤ byt l 0 ∧ byt l 0 < 248
         · rw [if_pos h4] at hz ⊢; exact .inr (.inr (.inr (.inr ⟨h4.1, h4.2, hz, rfl⟩)))
         · rw [if_neg h4] at hz; exact absurd rfl hz
theorem first_bytes (l : List UInt8) : 1 ≤ (first l).2 ∧ (first l).2 ≤ 4 := by
 rcases first_spec l with ⟨_, h⟩ | h | ⟨_, _, hz, h⟩ | ⟨_, _, hz, h⟩ | ⟨_, _, hz, h⟩
 · rw [h]; simp
 · rw [h]; simp
 · obtain ⟨_, n, _, _, e⟩ := wide2_spec l hz; rw [h, e]; simp
 · obtain ⟨_, _, n, _, _, _, _, e⟩ := wide3_spec l hz; rw [h, e]; simp
 · obtain ⟨_, _, _, n, _, _, _, _, e⟩ := wide4_spec l hz; rw [h, e]; simp
theorem first_len (l : List UInt8) (h0 : 0 < l.length) : (first l).2 ≤ l.length := by
 rcases first_spec l with ⟨_, h⟩ | h | ⟨_, _, hz, h⟩ | ⟨_, _, hz, h⟩ | ⟨_, _, hz, h⟩
 · rw [h]; simp only; omega
 · rw [h]; simp only; omega
 · obtain ⟨g1, n, _, _, e⟩ := wide2_spec l hz; rw [h, e]; have := (goesOn_iff l 1).1 g1; simp only; omega
 · obtain ⟨_, g1, n, _, _, _, _, e⟩ := wide3_spec l hz; rw [h, e]; have := (goesOn_iff l 2).1 g1; simp only; omega
 · obtain ⟨_, _, g1, n, _, _, _, _, e⟩ := wide4_spec l hz; rw [h, e]; have := (goesOn_iff l 3).1 g1; simp only; omega
theorem get_drop (s : ByteArray) (p k : Nat) : (s.get! (p + k)).toNat = byt (s.data.toList.drop p) k := by
 unfold byt; rw [List.getD_eq_getElem?_getD, List.getElem?_drop]
 cases s with
 | mk d =>
   show (d[p + k]!).toNat = _; rw [getElem!_def]; simp; rfl
theorem decode_of_first (s : ByteArray) (p : Nat) (n : Nat) (k : Nat) (h : first (s.data.toList.drop p) = ((n : Int), k)) : Utf8.decode s p = (n, k) := by
 have hg := get_drop s p
 have hsz : s.size = s.data.toList.length := by simp
 have hc : ∀ j, (decide (p + j < s.size) && (byt (s.data.toList.drop p) j / 64 == 2)) = goesOn (s.data.toList.drop p) j := by
   intro j; rw [Bool.eq_iff_iff, goesOn_iff, Bool.and_eq_true, decide_eq_true_iff, beq_iff_eq, List.length_drop, hsz]; omega
 unfold Utf8.decode; simp only [hg, hc]; generalize hl : s.data.toList.drop p = l at h; have h2 := goesOn_iff l 1; have h3 := goesOn_iff l 2; have h4 := goesOn_iff l 3; have b0 : byt l 0 < 256 := UInt8.toNat_lt _; rcases first_spec l with ⟨hlt, e⟩ | e | ⟨r1, r2, hz, e⟩ | ⟨r1, r2, hz, e⟩ | ⟨r1, r2, hz, e⟩
 · rw [e] at h; simp only [Prod.mk.injEq] at h; obtain ⟨h5, h6⟩ := h; rw [if_pos hlt, show byt l 0 = n by omega, h6]
 · rw [e] at h; simp only [Prod.mk.injEq] at h; omega
 · obtain ⟨g1, m, hm, hm1, e2⟩ := wide2_spec l hz; rw [e, e2] at h; simp only [Prod.mk.injEq] at h; obtain ⟨h5, rfl⟩ := h; have g1' := h2.1 g1
   have e3 : byt l 0 % 32 * 64 + byt l 1 % 64 = n := by omega
   rw [if_neg (by omega), if_pos (by rw [g1]; simp; omega), e3, if_pos (by omega)]
 · obtain ⟨g1, g2, m, hm, hm1, hm2, hm3, e2⟩ := wide3_spec l hz; rw [e, e2] at h; simp only [Prod.mk.injEq] at h; obtain ⟨h5, rfl⟩ := h; have g1' := h2.1 g1; have g2' := h3.1 g2
   have e3 : byt l 0 % 16 * 4096 + byt l 1 % 64 * 64 + byt l 2 % 64 = n := by omega
   rw [if_neg (by omega), if_neg (by simp; omega), if_pos (by rw [g1, g2]; simp; omega), e3, if_pos (by
     unfold Utf8.valid; simp
     omega)]
 · obtain ⟨g1, g2, g3, m, hm, hm1, hm2, hm3, e2⟩ := wide4_spec l hz; rw [e, e2] at h; simp only [Prod.mk.injEq] at h; obtain ⟨h5, rfl⟩ := h; have g1' := h2.1 g1; have g2' := h3.1 g2; have g3' := h4.1 g3
   have e3 : byt l 0 % 8 * 262144 + byt l 1 % 64 * 4096 + byt l 2 % 64 * 64 + byt l 3 % 64 = n := by omega
   rw [if_neg (by omega), if_neg (by simp; omega), if_neg (by simp; omega), if_pos (by rw [g1, g2, g3]; simp; omega), e3, if_pos (by
     unfold Utf8.valid; simp
     omega)]
theorem repl (l : List UInt8) (k : Nat) (h : first l = (65533, k)) : k = 3 ∧ byt l 0 = 239 ∧ byt l 1 = 191 ∧ byt l 2 = 189 ∧ 3 ≤ l.length := by
 have h2 := goesOn_iff l 1; have h3 := goesOn_iff l 2; have h4 := goesOn_iff l 3; rcases first_spec l with ⟨hlt, e⟩ | e | ⟨r1, r2, hz, e⟩ | ⟨r1, r2, hz, e⟩ | ⟨r1, r2, hz, e⟩
 · rw [e] at h; simp only [Prod.mk.injEq] at h; omega
 · rw [e] at h; simp only [Prod.mk.injEq] at h; omega
 · obtain ⟨g1, m, hm, hm1, e2⟩ := wide2_spec l hz; rw [e, e2] at h; simp only [Prod.mk.injEq] at h; have g1' := h2.1 g1; omega
 · obtain ⟨g1, g2, m, hm, hm1, hm2, hm3, e2⟩ := wide3_spec l hz; rw [e, e2] at h; simp only [Prod.mk.injEq] at h; have g1' := h2.1 g1; have g2' := h3.1 g2; omega
 · obtain ⟨g1, g2, g3, m, hm, hm1, hm2, hm3, e2⟩ := wide4_spec l hz; rw [e, e2] at h; simp only [Prod.mk.injEq] at h; omega
def mayR (n : Int) : Prop := n > 32 ∧ (n < 127 ∨ n > 160) ∧ n ≠ 58 ∧ n ≠ 35
instance (n : Int) : Decidable (mayR n) := by unfold mayR; infer_instance
def runes (l : List UInt8) : List (Int × Nat) :=
 if h : l = [] then [] else first l :: runes (l.drop (first l).2)
termination_by l.length
decreasing_by
 have := first_bytes l
 have : 0 < l.length := by cases l with | nil => exact absurd rfl h | cons _ _ => simp
 rw [List.length_drop]; omega
theorem runes_nil : runes [] = [] := by rw [runes]; simp
theorem runes_cons {l : List UInt8} (h : 0 < l.length) : runes l = first l :: runes (l.drop (first l).2) := by
 rw [runes, dif_neg (by intro e; subst e; simp at h)]
theorem runes_len (l : List UInt8) : (runes l).length ≤ l.length := by
 induction hn : l.length using Nat.strongRecOn generalizing l with
 | _ n ih =>
   subst hn; rcases Nat.eq_zero_or_pos l.length with h | h
   · have : l = [] := List.eq_nil_of_length_eq_zero h; subst this; simp [runes_nil]
   · rw [runes_cons h]; have h1 := first_bytes l; have h2 := ih (l.drop (first l).2).length (by rw [List.length_drop]; omega) _ rfl; rw [List.length_drop] at h2; simp only [List.length_cons]; omega
def word (l : List UInt8) : Prop := (∀ r ∈ runes l, mayR r.1) ∧ 0 < (runes l).length ∧ (runes l).length ≤ 32
end Go.M31
/- Chapter 31, plain: a bad byte by the document's rule is one by the model's decoding. No program in sight. -/
namespace Go.M31
theorem wide_z2 {l : List UInt8} (h : (wide l 2).2 = 0) (g : goesOn l 1 = true) : 64 * ((byt l 0 : Int) - 192) + (byt l 1 : Int) - 128 < 128 ∨ 1114111 < 64 * ((byt l 0 : Int) - 192) + (byt l 1 : Int) - 128 ∨ (55296 ≤ 64 * ((byt l 0 : Int) - 192) + (byt l 1 : Int) - 128 ∧ 64 * ((byt l 0 : Int) - 192) + (byt l 1 : Int) - 128 ≤ 57343) := by
 unfold wide at h; rw [wideN2, g, if_pos rfl] at h; simp only [startW, if_pos] at h; unfold wideR at h; split at h
 · rename_i h1; simpa [least] using h1
 · cases h
theorem wide_z3 {l : List UInt8} (h : (wide l 3).2 = 0) (g : goesOn l 1 = true) (g2 : goesOn l 2 = true) : ∃ n : Int, n = 64 * (64 * ((byt l 0 : Int) - 224) + (byt l 1 : Int) - 128) + (byt l 2 : Int) - 128 ∧ (n < 2048 ∨ 1114111 < n ∨ (55296 ≤ n ∧ n ≤ 57343)) := by
 unfold wide at h; rw [wideN3, g, g2, if_pos rfl, if_pos rfl] at h; simp only [startW, if_pos, show ¬ (3 : Nat) = 2 by omega, if_false] at h; unfold wideR at h; split at h
 · rename_i h1; exact ⟨_, rfl, by simpa [least] using h1⟩
 · cases h
theorem wide_z4 {l : List UInt8} (h : (wide l 4).2 = 0) (g : goesOn l 1 = true) (g2 : goesOn l 2 = true) (g3 : goesOn l 3 = true) : ∃ n : Int, n = 64 * (64 * (64 * ((byt l 0 : Int) - 240) + (byt l 1 : Int) - 128) + (byt l 2 : Int) - 128) + (byt l 3 : Int) - 128 ∧ (n < 65536 ∨ 1114111 < n ∨ (55296 ≤ n ∧ n ≤ 57343)) := by
 unfold wide at h; rw [wideN4, g, g2, g3, if_pos rfl, if_pos rfl, if_pos rfl] at h; simp only [startW, if_pos, show ¬ (4 : Nat) = 2 by omega, show ¬ (4 : Nat) = 3 by omega, if_false] at h; unfold wideR at h; split at h
 · rename_i h1; exact ⟨_, rfl, by simpa [least] using h1⟩
 · cases h
theorem first_bad {l : List UInt8} (h : first l = (-1, 1)) : 128 ≤ byt l 0 ∧ (firstW l).2 = 0 := by
 have hb : ¬ byt l 0 < 128 := fun hb => by
   unfold first at h; rw [if_pos hb] at h; simp only [Prod.mk.injEq] at h; omega
 refine ⟨by omega, ?_⟩
 cases Nat.decEq (firstW l).2 0 with
 | isTrue e => exact e
 | isFalse e =>
   unfold first at h; rw [if_neg hb, if_neg e] at h; exfalso; unfold firstW at h e; split at h
   · rename_i hr; rw [if_pos hr] at e; obtain ⟨_, n, _, hn, e2⟩ := wide2_spec l e; rw [e2] at h; simp only [Prod.mk.injEq] at h; omega
   · rename_i hr1; rw [if_neg hr1] at e; split at h
     · rename_i hr; rw [if_pos hr] at e; obtain ⟨_, _, n, _, hn, _, _, e2⟩ := wide3_spec l e; rw [e2] at h; simp only [Prod.mk.injEq] at h; omega
     · rename_i hr2; rw [if_neg hr2] at e; split at h
       · rename_i hr; rw [if_pos hr] at e; obtain ⟨_, _, _, n, _, hn, _, _, e2⟩ := wide4_spec l e; rw [e2] at h; simp only [Prod.mk.injEq] at h; omega
       · simp only [Prod.mk.injEq] at h; omega
theorem decode_of_bad (s : ByteArray) (p : Nat) (h : first (s.data.toList.drop p) = (-1, 1)) : Utf8.decode s p = (65533, 1) := by
 have hg := get_drop s p
 have hsz : s.size = s.data.toList.length := by simp
 have hc : ∀ j, (decide (p + j < s.size) && (byt (s.data.toList.drop p) j / 64 == 2)) = goesOn (s.data.toList.drop p) j := by
   intro j; rw [Bool.eq_iff_iff, goesOn_iff, Bool.and_eq_true, decide_eq_true_iff, beq_iff_eq, List.length_drop, hsz]; omega
 unfold Utf8.decode; simp only [hg, hc]; generalize hl : s.data.toList.drop p = l at h; have h2 := goesOn_iff l 1; have h3 := goesOn_iff l 2; have h4 := goesOn_iff l 3; have b0 : byt l 0 < 256 := UInt8.toNat_lt _; obtain ⟨hb, hz⟩ := first_bad h; unfold firstW at hz; rw [if_neg (by omega)]
 by_cases c2 : (byt l 0 / 32 == 6 && goesOn l 1) = true
 · rw [if_pos c2]; simp only [Bool.and_eq_true, beq_iff_eq] at c2; rw [if_pos (by omega)] at hz; have := wide_z2 hz c2.2; have g1 := h2.1 c2.2; rw [if_neg (by omega)]; rfl
 rw [if_neg c2]
 by_cases c3 : (byt l 0 / 16 == 14 && goesOn l 1 && goesOn l 2) = true
 · rw [if_pos c3]; simp only [Bool.and_eq_true, beq_iff_eq] at c3; rw [if_neg (by omega), if_pos (by omega)] at hz; obtain ⟨n, hn, hv⟩ := wide_z3 hz c3.1.2 c3.2; have g1 := h2.1 c3.1.2; have g2 := h3.1 c3.2; rw [if_neg (by unfold Utf8.valid; simp; omega)]; rfl
 rw [if_neg c3]
 by_cases c4 : (byt l 0 / 8 == 30 && goesOn l 1 && goesOn l 2 && goesOn l 3) = true
 · rw [if_pos c4]; simp only [Bool.and_eq_true, beq_iff_eq] at c4; rw [if_neg (by omega), if_neg (by omega), if_pos (by omega)] at hz; obtain ⟨n, hn, hv⟩ := wide_z4 hz c4.1.1.2 c4.1.2 c4.2; have g1 := h2.1 c4.1.1.2; have g2 := h3.1 c4.1.2; have g3 := h4.1 c4.2; rw [if_neg (by unfold Utf8.valid; simp; omega)]; rfl
 rw [if_neg c4]; rfl
end Go.M31
/- Memory in separate pieces: what a world holds, block by block; and the rules by which a formula's nodes are met. No program in sight. -/
namespace Go.Vc

abbrev Hp := Nat → Option Obj
abbrev HProp := Hp → Prop
def Hp.sub (h g : Hp) : Prop := ∀ b o, h b = some o → g b = some o
def Hp.minus (h g : Hp) : Hp := fun b => if (g b).isSome = true then none else h b
def Sat : List HProp → Hp → Prop
 | [], _ => True
 | P :: L, h => ∃ g, P g ∧ g.sub h ∧ Sat L (h.minus g)
def hp (w : World) : Hp := fun b => w.heap[b]?
def Holds (w : World) (L : List HProp) : Prop := Sat L (hp w)
def blkO (b : Nat) (o : Obj) : HProp := fun h => h b = some o
def blk (b : Nat) (t : TypeId) (cs : List Value) : HProp := blkO b (.cells cs.toArray t)
def pur (p : Prop) : HProp := fun _ => p
structure Same (w w' : World) : Prop where
 os : w'.os = w.os
 tape : w'.tape = w.tape
 output : w'.output = w.output
 size : w.heap.size ≤ w'.heap.size
theorem Same.refl (w : World) : Same w w := ⟨rfl, rfl, rfl, Nat.le_refl _⟩
theorem Same.trans {a b c : World} (h : Same a b) (k : Same b c) : Same a c := ⟨k.os.trans h.os, k.tape.trans h.tape, k.output.trans h.output, Nat.le_trans h.size k.size⟩

theorem Sat.mono : ∀ {L : List HProp} {h g : Hp}, Sat L h → h.sub g → Sat L g
 | [], _, _, _, _ => trivial
 | P :: L, h, g, ⟨k, hp, hs, hL⟩, hg => ⟨k, hp, fun b o hb => hg b o (hs b o hb), hL.mono fun b o hb => by
   unfold Hp.minus at hb ⊢; split
   · rename_i h1; rw [if_pos h1] at hb; cases hb
   · rename_i h1; rw [if_neg h1] at hb; exact hg b o hb⟩
theorem Sat.swap {P Q : HProp} {L : List HProp} {h : Hp} (H : Sat (P :: Q :: L) h) : Sat (Q :: P :: L) h := by
 obtain ⟨g, hg, hgs, k, hk, hks, hL⟩ := H
 have kn : ∀ b o, k b = some o → g b = none ∧ h b = some o := fun b o hb => by
   have := hks b o hb; unfold Hp.minus at this; split at this
   · cases this
   · rename_i h1; simp at h1; exact ⟨h1, this⟩
 refine ⟨k, hk, fun b o hb => (kn b o hb).2, g, hg, fun b o hb => ?_, hL.mono fun b o hb => ?_⟩
 · unfold Hp.minus; rw [if_neg ?_]
   · exact hgs b o hb
   · intro h1; obtain ⟨x, hx⟩ := Option.isSome_iff_exists.1 h1; rw [(kn b x hx).1] at hb; cases hb
 · unfold Hp.minus at hb ⊢; split at hb
   · cases hb
   · rename_i h1; split at hb
     · cases hb
     · rename_i h2; rw [if_neg h2, if_neg h1]; exact hb
theorem Sat.pull : ∀ {L : List HProp} {h : Hp} (i : Nat) {P : HProp}, Sat L h → L[i]? = some P → Sat (P :: L.eraseIdx i) h
 | Q :: L, h, 0, P, H, hi => by simp at hi; subst hi; exact H
 | Q :: L, h, i + 1, P, ⟨g, hg, hs, hL⟩, hi => Sat.swap ⟨g, hg, hs, hL.pull i (by simpa using hi)⟩
theorem Sat.push : ∀ {L : List HProp} {h : Hp} (i : Nat) {P Q : HProp}, L[i]? = some Q → Sat (P :: L.eraseIdx i) h → Sat (L.set i P) h
 | R :: L, h, 0, P, Q, _, H => H
 | R :: L, h, i + 1, P, Q, hi, H => by
   obtain ⟨g, hg, hs, hL⟩ := Sat.swap H; exact ⟨g, hg, hs, Sat.push i (by simpa using hi) hL⟩
theorem Holds.front {w : World} {L : List HProp} (H : Holds w L) (i : Nat) {P : HProp} (hi : L[i]? = some P) : Holds w (P :: L.eraseIdx i) := Sat.pull i H hi
theorem Holds.swap {w : World} {P Q : HProp} {L : List HProp} (H : Holds w (P :: Q :: L)) : Holds w (Q :: P :: L) := Sat.swap H
theorem Holds.drop {w : World} {P : HProp} {L : List HProp} (H : Holds w (P :: L)) : Holds w L := by
 obtain ⟨g, _, _, hL⟩ := H
 exact hL.mono fun b o hb => by
   unfold Hp.minus at hb; split at hb
   · cases hb
   · exact hb
theorem Holds.dropAt {w : World} {L : List HProp} (H : Holds w L) (i : Nat) : Holds w (L.eraseIdx i) := by
 cases h : L[i]? with
 | none => rw [List.eraseIdx_of_length_le (by simpa using h)]; exact H
 | some P => exact (H.front i h).drop
theorem Sat.imp {P Q : HProp} {L : List HProp} {h : Hp} (H : Sat (P :: L) h) (hpq : ∀ h, P h → Q h) : Sat (Q :: L) h := by
 obtain ⟨g, hg, hs, hL⟩ := H; exact ⟨g, hpq _ hg, hs, hL⟩
theorem Holds.imp {P Q : HProp} {L : List HProp} {w : World} (H : Holds w (P :: L)) (hpq : ∀ h, P h → Q h) : Holds w (Q :: L) := Sat.imp H hpq
theorem Holds.ex {α : Type} {P : α → HProp} {L : List HProp} {w : World} (H : Holds w ((fun h => ∃ x, P x h) :: L)) : ∃ x, Holds w (P x :: L) := by
 obtain ⟨g, ⟨x, hx⟩, hs, hL⟩ := H; exact ⟨x, g, hx, hs, hL⟩
theorem Holds.pure {p : Prop} {P : HProp} {L : List HProp} {w : World} (H : Holds w ((fun h => p ∧ P h) :: L)) : p ∧ Holds w (P :: L) := by
 obtain ⟨g, ⟨hp, hg⟩, hs, hL⟩ := H; exact ⟨hp, g, hg, hs, hL⟩
theorem Sat.unpack : ∀ {A L : List HProp} {h : Hp}, Sat (Sat A :: L) h → Sat (A ++ L) h
 | [], L, h, ⟨g, _, _, hL⟩ => hL.mono fun b o hb => by
   unfold Hp.minus at hb; split at hb
   · cases hb
   · exact hb
 | P :: A, L, h, ⟨g, ⟨k, hk, hks, hA⟩, hgs, hL⟩ => by
   refine ⟨k, hk, fun b o hb => hgs b o (hks b o hb), Sat.unpack ⟨g.minus k, hA, fun b o hb => ?_, hL.mono fun b o hb => ?_⟩⟩
   · unfold Hp.minus at hb ⊢; split at hb
     · cases hb
     · rename_i h1; rw [if_neg h1]; exact hgs b o hb
   · unfold Hp.minus at hb ⊢; split at hb
     · cases hb
     · rename_i h1
       have h1' : g b = none := by simpa using h1
       have h2 : k b = none := by
         cases hk : k b with
         | none => rfl
         | some x => rw [hks b x hk] at h1'; cases h1'
       simp [h1', h2, hb]
theorem Sat.pack : ∀ {A L : List HProp} {h : Hp}, Sat (A ++ L) h → Sat (Sat A :: L) h
 | [], L, h, H => by
   refine ⟨fun _ => none, trivial, ?_, ?_⟩
   · intro b o hb; cases hb
   · have e : h.minus (fun _ => none) = h := by funext b; simp [Hp.minus]
     rw [e]; exact H
 | P :: A, L, h, ⟨k, hk, hks, H⟩ => by
   obtain ⟨g, hg, hgs, hL⟩ := Sat.pack H
   have gk : ∀ b o, g b = some o → k b = none ∧ h b = some o := fun b o hb => by
     have := hgs b o hb; unfold Hp.minus at this; split at this
     · cases this
     · rename_i h1; simp at h1; exact ⟨h1, this⟩
   refine ⟨fun b => (k b).or (g b), ⟨k, hk, fun b o hb => by simp [hb], hg.mono fun b o hb => ?_⟩, fun b o hb => ?_, hL.mono fun b o hb => ?_⟩
   · unfold Hp.minus; simp [(gk b o hb).1, hb]
   · cases hkb : k b with
     | none => simp [hkb] at hb; exact (gk b o hb).2
     | some x => simp [hkb] at hb; subst hb; exact hks b x hkb
   · unfold Hp.minus at hb ⊢; split at hb
     · cases hb
     · rename_i h1; split at hb
       · cases hb
       · rename_i h2; simp at h1 h2; simp [h1, h2, hb]
theorem Holds.pack {A L : List HProp} {w : World} (H : Holds w (A ++ L)) : Holds w (Sat A :: L) := Sat.pack H
theorem Holds.unpack {A L : List HProp} {w : World} (H : Holds w (Sat A :: L)) : Holds w (A ++ L) := Sat.unpack H

theorem Holds.obj {w : World} {L : List HProp} (H : Holds w L) (i : Nat) {b : Nat} {o : Obj} (hi : L[i]? = some (blkO b o)) : w.heap[b]? = some o := by
 obtain ⟨g, hg, hs, _⟩ := H.front i hi; exact hs b o hg
theorem Holds.upd {w w' : World} {L : List HProp} (H : Holds w L) (i : Nat) {b : Nat} {o o' : Obj} (hi : L[i]? = some (blkO b o)) (hb : w'.heap[b]? = some o') (ho : ∀ c, c ≠ b → w'.heap[c]? = w.heap[c]?) :
   Holds w' (L.set i (blkO b o')) := by
 obtain ⟨g, hg, hs, hL⟩ := H.front i hi; refine Sat.push i hi ⟨fun c => if c = b then some o' else none, by simp [blkO], fun c o hc => ?_, hL.mono fun c o hc => ?_⟩
 · by_cases e : c = b
   · subst e; simp at hc; subst hc; exact hb
   · simp [e] at hc
 · unfold Hp.minus at hc ⊢
   by_cases e : c = b
   · subst e; rw [if_pos (by rw [show g c = some _ from hg]; rfl)] at hc; cases hc
   · simp only [e, if_false, Option.isSome_none, Bool.false_eq_true]; split at hc
     · cases hc
     · show w'.heap[c]? = _; rw [ho c e]; exact hc
theorem Holds.new {w w' : World} {L : List HProp} (H : Holds w L) {b : Nat} {o : Obj} (hn : w.heap[b]? = none) (hb : w'.heap[b]? = some o) (ho : ∀ c, c ≠ b → w'.heap[c]? = w.heap[c]?) :
   Holds w' (blkO b o :: L) := by
 refine ⟨fun c => if c = b then some o else none, by simp [blkO], fun c x hc => ?_, Sat.mono H fun c x hc => ?_⟩
 · by_cases e : c = b
   · subst e; simp at hc; subst hc; exact hb
   · simp [e] at hc
 · unfold Hp.minus
   by_cases e : c = b
   · subst e; rw [show hp w c = none from hn] at hc; cases hc
   · simp only [e, if_false, Option.isSome_none, Bool.false_eq_true]; show w'.heap[c]? = _; rw [ho c e]; exact hc
theorem Holds.same {w w' : World} {L : List HProp} (H : Holds w L) (h : w'.heap = w.heap) : Holds w' L := by
 unfold Holds hp at *; rw [h]; exact H
theorem Holds.cell {w : World} {L : List HProp} (H : Holds w L) (i : Nat) {b : Nat} {t : TypeId} {cs : List Value} (hi : L[i]? = some (blk b t cs)) (o : Nat) : w.cell? ⟨b, o, none⟩ = cs[o]? := by
 have := H.obj i hi; simp [World.cell?, this]
theorem Holds.frozen {w : World} {L : List HProp} (H : Holds w L) (i : Nat) {b : Nat} {t : TypeId} {cs : List Value} (hi : L[i]? = some (blk b t cs)) (o : Nat) : w.frozen? ⟨b, o, none⟩ = false := by
 have := H.obj i hi; simp [World.frozen?, this]
theorem Holds.set {w : World} {L : List HProp} (H : Holds w L) (i : Nat) {b : Nat} {t : TypeId} {cs : List Value} (hi : L[i]? = some (blk b t cs)) (o : Nat) (v : Value) :
   Holds (w.setCell ⟨b, o, none⟩ v) (L.set i (blk b t (cs.set o v))) := by
 have h := H.obj i hi; refine H.upd i hi ?_ fun c hc => ?_
 · simp [World.setCell, Array.getElem?_modify, h]
 · simp only [World.setCell, Array.getElem?_modify]; rw [if_neg (by simpa using fun h => hc h.symm)]
theorem Same.setCell (w : World) (a : Addr) (v : Value) : Same w (w.setCell a v) := ⟨rfl, rfl, rfl, by simp [World.setCell]⟩
theorem Same.drew (w : World) : Same w w.drew := ⟨rfl, rfl, rfl, Nat.le_refl _⟩
theorem Same.alloc (w : World) (o : Obj) : Same w (w.alloc o) := ⟨rfl, rfl, rfl, by simp⟩
theorem Holds.alloc {w : World} {L : List HProp} (H : Holds w L) (o : Obj) : Holds (w.alloc o) (blkO w.heap.size o :: L) := by
 refine H.new (by simp) ?_ fun c hc => ?_
 · show (w.heap.push o)[w.heap.size]? = _; simp
 · show (w.heap.push o)[c]? = _; rw [Array.getElem?_push, if_neg (by omega)]

def whole (w : World) : HProp := fun h => ∀ b o, w.heap[b]? = some o → h b = some o
theorem holds_whole (w : World) : Holds w [whole w] := ⟨hp w, fun b o h => h, fun b o h => h, trivial⟩
theorem below_whole {w w' : World} (S : Same w w') {L : List HProp} (H : Holds w' (whole w :: L)) : RowKit.Below w.heap.size w w' := by
 refine ⟨S.os, S.tape, S.output, S.size, fun k hk => ?_⟩; obtain ⟨g, hg, hs, _⟩ := H; have h1 : w.heap[k]? = some w.heap[k] := Array.getElem?_eq_getElem hk; rw [h1]; exact hs k _ (hg k _ h1)
theorem calls_of_law {P : Program} {f : FuncId} {args : Array Value} {w : World} (h : ∀ K : Value → World → Prop, (∀ w', Same w w' → Holds w' [whole w] → K (.bool true) w') → Cl P f args w K) :
   Calls P f args w fun e w' => e = .returned (.bool true) ∧ RowKit.Below w.heap.size w w' :=
 (h (fun v w' => v = .bool true ∧ RowKit.Below w.heap.size w w') fun w' S H => ⟨rfl, below_whole S H⟩).2.mono fun e w' ⟨v, he, hv, hb⟩ => ⟨by rw [he, hv], hb⟩

section
variable {P : Program} {w : World} {L : List HProp}
theorem r_nc {a : Addr} {A : Prop} (h : A) : Nc (.pointer (some a)) A := ⟨⟨a, rfl⟩, h⟩
theorem r_fo {off b o : Nat} {K : Value → Prop} (h : K (.pointer (some ⟨b, o + off, none⟩))) : Fo off (.pointer (some ⟨b, o, none⟩)) K := by
 refine ⟨_, rfl, ?_⟩; unfold Addr.add; split
 · rename_i h0; subst h0; exact h
 · exact h
theorem r_fo0 {off b : Nat} {K : Value → Prop} (h : K (.pointer (some ⟨b, off, none⟩))) : Fo off (.pointer (some ⟨b, 0, none⟩)) K := r_fo (by rw [Nat.zero_add]; exact h)
theorem r_ld (i : Nat) (H : Holds w L) {b o : Nat} {t : TypeId} {cs : List Value} {v : Value} {K : Value → Prop} (hi : L[i]? = some (blk b t cs)) (hc : cs[o]? = some v) (h : K v) :
   Ld (.pointer (some ⟨b, o, none⟩)) w K := ⟨_, v, rfl, (H.cell i hi o).trans hc, h⟩
theorem r_st (i : Nat) (H : Holds w L) {b o : Nat} {t : TypeId} {cs : List Value} {v : Value} {K : World → Prop} (hi : L[i]? = some (blk b t cs)) (ho : o < cs.length) (hs : sg v = true)
   (h : ∀ w', Same w w' → Holds w' (L.set i (blk b t (cs.set o v))) → K w') : St (.pointer (some ⟨b, o, none⟩)) v w K :=
 ⟨_, cs[o], rfl, (H.cell i hi o).trans (by simp [ho]), H.frozen i hi o, hs, h _ (.setCell _ _ _) (H.set i hi o v)⟩
theorem r_new {z : Value} {t : TypeId} (H : Holds w L) {K : Value → World → Prop} (h : ∀ b w', Same w w' → Holds w' (blk b t z.cells.toList :: L) → K (.pointer (some ⟨b, 0, none⟩)) w') : New z t w K :=
 h _ _ (.alloc _ _) (H.alloc _)
theorem r_dr (H : Holds w L) {K : World → Prop} (h : ∀ w', Same w w' → Holds w' L → K w') : Dr w K := h _ (.drew _) (H.same rfl)
theorem r_vif {b : Bool} {A B : Prop} (h1 : b = true → A) (h2 : b = false → B) : Vif (.bool b) A B := by
 cases b
 · exact h2 rfl
 · exact h1 rfl
theorem r_join0 {rest : (Nat → Value) → Cur 0} {br : Cur 0 → Prop} (J : World → Prop) (hJ : ∀ jb w, J w → rest jb w) (h : br J) : VJoin 0 rest br := ⟨J, fun jb w hw => hJ jb w hw, h⟩
theorem r_join1 {rest : (Nat → Value) → Cur 1} {br : Cur 1 → Prop} (J : Value → World → Prop) (hJ : ∀ jb x w, J x w → rest jb x w) (h : br J) : VJoin 1 rest br := ⟨J, fun jb x w hw => hJ jb x w hw, h⟩
theorem r_join2 {rest : (Nat → Value) → Cur 2} {br : Cur 2 → Prop} (J : Value → Value → World → Prop) (hJ : ∀ jb x y w, J x y w → rest jb x y w) (h : br J) : VJoin 2 rest br := ⟨J, fun jb x y w hw => hJ jb x y w hw, h⟩
theorem r_ke {a : List Value} {X : Prop} (h : X) : KE a a X := ⟨rfl, h⟩
theorem r_loop0 {w : World} {body : (Nat → Value) → Cur 0 → Cur 0} (I : World → Prop) (μ : World → Nat) (h0 : I w)
   (h : ∀ jb w, I w → body jb (fun w' => I w' ∧ μ w' < μ w) w) : VLoop 0 [] w body :=
 ⟨fun _ w => I w, fun _ w => μ w, h0, fun jb us u hl hI => match us, hl with | [], _ => h jb u hI⟩
theorem r_loop1 {w : World} {a : Value} {body : (Nat → Value) → Cur 1 → Cur 1} (I : Value → World → Prop) (μ : Value → World → Nat) (h0 : I a w)
   (h : ∀ jb x w, I x w → body jb (fun x' w' => I x' w' ∧ μ x' w' < μ x w) x w) : VLoop 1 [a] w body :=
 ⟨fun l w => match l with | [x] => I x w | _ => False, fun l w => match l with | [x] => μ x w | _ => 0, h0, fun jb us u hl hI => match us, hl with | [x], _ => h jb x u hI⟩
theorem r_loop2 {w : World} {a b : Value} {body : (Nat → Value) → Cur 2 → Cur 2} (I : Value → Value → World → Prop) (μ : Value → Value → World → Nat) (h0 : I a b w)
   (h : ∀ jb x y w, I x y w → body jb (fun x' y' w' => I x' y' w' ∧ μ x' y' w' < μ x y w) x y w) : VLoop 2 [a, b] w body :=
 ⟨fun l w => match l with | [x, y] => I x y w | _ => False, fun l w => match l with | [x, y] => μ x y w | _ => 0, h0, fun jb us u hl hI => match us, hl with | [x, y], _ => h jb x y u hI⟩
theorem wrap64 {n : Int} (h1 : -9223372036854775808 ≤ n) (h2 : n ≤ 9223372036854775807) : IntKind.i64.wrap n = n := IntWalk.i64_in n ⟨h1, h2⟩
theorem r_add {a b : Int} {K : Value → Prop} (h1 : -9223372036854775808 ≤ a + b) (h2 : a + b ≤ 9223372036854775807) (h : K (.int .i64 (a + b))) : Bp .add (.int .i64 a) (.int .i64 b) K :=
 ⟨.int .i64 (a + b), by simp only [bp, if_true]; rw [wrap64 h1 h2], h⟩
theorem r_sub {a b : Int} {K : Value → Prop} (h1 : -9223372036854775808 ≤ a - b) (h2 : a - b ≤ 9223372036854775807) (h : K (.int .i64 (a - b))) : Bp .sub (.int .i64 a) (.int .i64 b) K :=
 ⟨.int .i64 (a - b), by simp only [bp, if_true]; rw [wrap64 h1 h2], h⟩
theorem r_mul {a b : Int} {K : Value → Prop} (h1 : -9223372036854775808 ≤ a * b) (h2 : a * b ≤ 9223372036854775807) (h : K (.int .i64 (a * b))) : Bp .mul (.int .i64 a) (.int .i64 b) K :=
 ⟨.int .i64 (a * b), by simp only [bp, if_true]; rw [wrap64 h1 h2], h⟩
theorem r_quo {a b : Int} {K : Value → Prop} (h0 : 0 ≤ a) (hb : 0 < b) (h2 : a ≤ 9223372036854775807) (h : K (.int .i64 (a / b))) : Bp .quo (.int .i64 a) (.int .i64 b) K := by
 refine ⟨.int .i64 (a / b), ?_, h⟩; have e : a.tdiv b = a / b := Int.tdiv_eq_ediv_of_nonneg h0; have h3 : 0 ≤ a / b := Int.ediv_nonneg h0 (by omega); have h4 : a / b ≤ a := Int.ediv_le_self b h0; show (if IntKind.i64 = IntKind.i64 ∧ b ≠ 0 then some (Value.int .i64 (IntKind.i64.wrap (a.tdiv b))) else none) = _; rw [if_pos ⟨rfl, by omega⟩, e, wrap64 (by omega) (by omega)]
theorem r_rem {a b : Int} {K : Value → Prop} (h0 : 0 ≤ a) (hb : 0 < b) (h : K (.int .i64 (a % b))) : Bp .rem (.int .i64 a) (.int .i64 b) K := by
 refine ⟨.int .i64 (a % b), ?_, h⟩; have e : a.tmod b = a % b := Int.tmod_eq_emod_of_nonneg h0; show (if IntKind.i64 = IntKind.i64 ∧ b ≠ 0 then some (Value.int .i64 (a.tmod b)) else none) = _; rw [if_pos ⟨rfl, by omega⟩, e]
theorem r_eql {k : IntKind} {a b : Int} {K : Value → Prop} (h : K (.bool (a == b))) : Bp .eql (.int k a) (.int k b) K := ⟨.bool (a == b), by simp only [bp, if_true], h⟩
theorem r_neq {k : IntKind} {a b : Int} {K : Value → Prop} (h : K (.bool (a != b))) : Bp .neq (.int k a) (.int k b) K := ⟨.bool (a != b), by simp only [bp, if_true], h⟩
theorem r_lss {k : IntKind} {a b : Int} {K : Value → Prop} (h : K (.bool (decide (a < b)))) : Bp .lss (.int k a) (.int k b) K := ⟨.bool (decide (a < b)), by simp only [bp, if_true], h⟩
theorem r_leq {k : IntKind} {a b : Int} {K : Value → Prop} (h : K (.bool (decide (a ≤ b)))) : Bp .leq (.int k a) (.int k b) K := ⟨.bool (decide (a ≤ b)), by simp only [bp, if_true], h⟩
theorem r_gtr {k : IntKind} {a b : Int} {K : Value → Prop} (h : K (.bool (decide (b < a)))) : Bp .gtr (.int k a) (.int k b) K := ⟨.bool (decide (b < a)), by simp only [bp, if_true, gt_iff_lt, ge_iff_le], h⟩
theorem r_geq {k : IntKind} {a b : Int} {K : Value → Prop} (h : K (.bool (decide (b ≤ a)))) : Bp .geq (.int k a) (.int k b) K := ⟨.bool (decide (b ≤ a)), by simp only [bp, if_true, gt_iff_lt, ge_iff_le], h⟩
theorem ba_ext {a b : ByteArray} (h : a.data.toList = b.data.toList) : a = b := by
 obtain ⟨⟨a⟩⟩ := a; obtain ⟨⟨b⟩⟩ := b; simp at h; rw [h]
theorem seq_eq (a b : ByteArray) : (a.toList == b.toList) = decide (a = b) := by
 rw [Bool.eq_iff_iff, beq_iff_eq, decide_eq_true_iff, ByteArray.toList_eq, ByteArray.toList_eq]; exact ⟨ba_ext, fun h => by rw [h]⟩
theorem ba_nil (a : ByteArray) : a = ⟨#[]⟩ ↔ a.size = 0 := by
 constructor
 · rintro rfl; rfl
 · intro h; apply ba_ext
   have : a.data.toList.length = 0 := by simpa using h
   rw [List.eq_nil_of_length_eq_zero this]
theorem r_seq0 {a : ByteArray} {K : Value → Prop} (h : K (.bool (decide (a.size = 0)))) : Bp .eql (.string a) (.string ⟨#[]⟩) K :=
 ⟨_, rfl, by rw [seq_eq, show decide (a = ⟨#[]⟩) = decide (a.size = 0) from by rw [Bool.eq_iff_iff, decide_eq_true_iff, decide_eq_true_iff, ba_nil]]; exact h⟩
theorem r_sne0 {a : ByteArray} {K : Value → Prop} (h : K (.bool (decide (¬ a.size = 0)))) : Bp .neq (.string a) (.string ⟨#[]⟩) K :=
 ⟨_, rfl, by rw [seq_eq, show (!decide (a = ⟨#[]⟩)) = decide (¬ a.size = 0) from by rw [Bool.eq_iff_iff, Bool.not_eq_true', decide_eq_false_iff_not, decide_eq_true_iff, ba_nil]]; exact h⟩
theorem r_seq {a b : ByteArray} {K : Value → Prop} (h : K (.bool (decide (a = b)))) : Bp .eql (.string a) (.string b) K := ⟨_, rfl, by rw [seq_eq]; exact h⟩
theorem r_sne {a b : ByteArray} {K : Value → Prop} (h : K (.bool (!decide (a = b)))) : Bp .neq (.string a) (.string b) K := ⟨_, rfl, by rw [seq_eq]; exact h⟩
theorem r_cat {a b : ByteArray} {K : Value → Prop} (hs : a.size + b.size ≤ 9223372036854775807) (h : K (.string (a ++ b))) : Bp .add (.string a) (.string b) K := by
 refine ⟨.string (a ++ b), ?_, h⟩; simp only [bp]; rw [if_neg (by show ¬ _ > (9223372036854775807 : Int); omega)]
theorem r_not {b : Bool} {K : Value → Prop} (h : K (.bool !b)) : Up .not (.bool b) K := ⟨_, rfl, h⟩
theorem r_bnS {e : TypeId} {neg : Bool} {a : Addr} {K : Value → Prop} (h : K (.bool neg)) : Bn P e neg (.pointer (some a)) (.pointer none) K :=
 .inl ⟨false, rfl, by cases neg <;> exact h⟩
theorem r_bnN {e : TypeId} {neg : Bool} {K : Value → Prop} (h : K (.bool !neg)) : Bn P e neg (.pointer none) (.pointer none) K :=
 .inl ⟨true, rfl, by cases neg <;> exact h⟩
theorem r_vt {A B : Prop} (h : A) : Vif (.bool true) A B := h
theorem r_vf {A B : Prop} (h : B) : Vif (.bool false) A B := h
theorem r_vtd {c : Bool} {A B : Prop} (hc : c = true) (h : A) : Vif (.bool c) A B := by subst hc; exact h
theorem r_vfd {c : Bool} {A B : Prop} (hc : c = false) (h : B) : Vif (.bool c) A B := by subst hc; exact h
theorem r_vtD {p : Prop} [Decidable p] {A B : Prop} (hc : p) (h : A) : Vif (.bool (decide p)) A B := r_vtd (decide_eq_true hc) h
theorem r_vfD {p : Prop} [Decidable p] {A B : Prop} (hc : ¬ p) (h : B) : Vif (.bool (decide p)) A B := r_vfd (decide_eq_false hc) h
theorem r_vtE {a b : Int} {A B : Prop} (hc : a = b) (h : A) : Vif (.bool (a == b)) A B := r_vtd (beq_iff_eq.2 hc) h
theorem r_vfE {a b : Int} {A B : Prop} (hc : ¬ a = b) (h : B) : Vif (.bool (a == b)) A B := r_vfd (beq_eq_false_iff_ne.2 hc) h
theorem r_vtN {a b : Int} {A B : Prop} (hc : ¬ a = b) (h : A) : Vif (.bool (a != b)) A B := r_vtd (bne_iff_ne.2 hc) h
theorem r_vfN {a b : Int} {A B : Prop} (hc : a = b) (h : B) : Vif (.bool (a != b)) A B := r_vfd (by subst hc; simp) h
theorem r_ifD {p : Prop} [Decidable p] {A B : Prop} (h1 : p → A) (h2 : ¬ p → B) : Vif (.bool (decide p)) A B := r_vif (fun h => h1 (of_decide_eq_true h)) fun h => h2 (of_decide_eq_false h)
theorem r_ifE {a b : Int} {A B : Prop} (h1 : a = b → A) (h2 : ¬ a = b → B) : Vif (.bool (a == b)) A B := r_vif (fun h => h1 (beq_iff_eq.1 h)) fun h => h2 (beq_eq_false_iff_ne.1 h)
theorem r_ifN {a b : Int} {A B : Prop} (h1 : ¬ a = b → A) (h2 : a = b → B) : Vif (.bool (a != b)) A B := r_vif (fun h => h1 (bne_iff_ne.1 h)) fun h => h2 (by simpa using h)
theorem r_bb {neg a b : Bool} {K : Value → Prop} (h : K (.bool (if neg then !(a == b) else a == b))) : Bb neg (.bool a) (.bool b) K := ⟨a, b, rfl, rfl, h⟩
theorem r_lns {s : ByteArray} {K : Value → Prop} (h : K (.int .i64 (s.size : Int))) : Lns (.string s) K := ⟨s, rfl, h⟩
theorem r_lnl {a : Option Addr} {l c : Nat} {K : Value → Prop} (h : K (.int .i64 (l : Int))) : Lnl (.slice a l c) K := ⟨a, l, c, rfl, h⟩
theorem r_ixs {s : ByteArray} {k : IntKind} {n : Int} {K : Value → Prop} (h0 : 0 ≤ n) (h1 : n < (s.size : Int)) (h : K (.int .u8 ((s.data.toList.getD n.toNat 0).toNat : Int))) : Ixs (.string s) (.int k n) K :=
 ⟨s, k, n, rfl, rfl, h0, h1, h⟩
theorem r_iaa {len size b o : Nat} {k : IntKind} {n : Int} {K : Value → Prop} (h0 : 0 ≤ n) (h1 : n < (len : Int)) (h : K (.pointer (some ⟨b, o + n.toNat * size, none⟩))) :
   Iaa len size (.pointer (some ⟨b, o, none⟩)) (.int k n) K := by
 refine ⟨_, k, n, rfl, rfl, h0, h1, ?_⟩; unfold Addr.add; split
 · rename_i e; rw [e] at h; exact h
 · exact h
theorem r_ias {size b o l c : Nat} {k : IntKind} {n : Int} {K : Value → Prop} (h0 : 0 ≤ n) (h1 : n < (l : Int)) (h : K (.pointer (some ⟨b, o + n.toNat * size, none⟩))) :
   Ias size (.slice (some ⟨b, o, none⟩) l c) (.int k n) K := by
 refine ⟨_, l, c, k, n, rfl, rfl, h0, h1, ?_⟩; unfold Addr.add; split
 · rename_i e; rw [e] at h; exact h
 · exact h
theorem r_ex {vs : Array Value} {i : Nat} {v : Value} {K : Value → Prop} (hv : vs[i]? = some v) (h : K v) : Ex (.tuple vs) i K := ⟨vs, v, rfl, hv, h⟩
theorem r_bnST {a : Addr} {e : TypeId} {K : Value → Prop} (h : K (.bool true)) : Bn P e true (.pointer (some a)) (.pointer none) K := r_bnS h
theorem r_bnSF {a : Addr} {e : TypeId} {K : Value → Prop} (h : K (.bool false)) : Bn P e false (.pointer (some a)) (.pointer none) K := r_bnS h
theorem r_bnNT {e : TypeId} {K : Value → Prop} (h : K (.bool true)) : Bn P e false (.pointer none) (.pointer none) K := r_bnN h
theorem r_bnNF {e : TypeId} {K : Value → Prop} (h : K (.bool false)) : Bn P e true (.pointer none) (.pointer none) K := r_bnN h
theorem r_notT {K : Value → Prop} (h : K (.bool false)) : Up .not (.bool true) K := r_not h
theorem r_notF {K : Value → Prop} (h : K (.bool true)) : Up .not (.bool false) K := r_not h
theorem r_pkT {a b : Value} {K : Value → Prop} (h : K a) : Pk (.bool true) a b K := h
theorem r_pkF {a b : Value} {K : Value → Prop} (h : K b) : Pk (.bool false) a b K := h
theorem r_pkB {c : Bool} {K : Value → Prop} (h : K (.bool c)) : Pk (.bool c) (.bool true) (.bool false) K := by
 cases c
 · exact h
 · exact h
theorem r_ex20 {a b : Value} {K : Value → Prop} (h : K a) : Ex (.tuple #[a, b]) 0 K := r_ex rfl h
theorem r_ex21 {a b : Value} {K : Value → Prop} (h : K b) : Ex (.tuple #[a, b]) 1 K := r_ex rfl h
theorem r_ex30 {a b c : Value} {K : Value → Prop} (h : K a) : Ex (.tuple #[a, b, c]) 0 K := r_ex rfl h
theorem r_ex31 {a b c : Value} {K : Value → Prop} (h : K b) : Ex (.tuple #[a, b, c]) 1 K := r_ex rfl h
theorem r_ex32 {a b c : Value} {K : Value → Prop} (h : K c) : Ex (.tuple #[a, b, c]) 2 K := r_ex rfl h
theorem r_ci {k k' : IntKind} {n : Int} {K : Value → Prop} (h : K (.int k (k.wrap n))) : Ci k (.int k' n) K := ⟨k', n, rfl, h⟩
theorem r_ci64 {k' : IntKind} {n : Int} {K : Value → Prop} (h1 : -9223372036854775808 ≤ n) (h2 : n ≤ 9223372036854775807) (h : K (.int .i64 n)) : Ci .i64 (.int k' n) K :=
 ⟨k', n, rfl, by rw [wrap64 h1 h2]; exact h⟩
theorem r_ciu8 {k' : IntKind} {n : Int} {K : Value → Prop} (h1 : 0 ≤ n) (h2 : n ≤ 255) (h : K (.int .u8 n)) : Ci .u8 (.int k' n) K :=
 ⟨k', n, rfl, by rw [show IntKind.u8.wrap n = n from by show n % 256 = n; omega]; exact h⟩
theorem r_ciu32 {k' : IntKind} {n : Int} {K : Value → Prop} (h1 : 0 ≤ n) (h2 : n ≤ 4294967295) (h : K (.int .u32 n)) : Ci .u32 (.int k' n) K :=
 ⟨k', n, rfl, by rw [show IntKind.u32.wrap n = n from by show n % 4294967296 = n; omega]; exact h⟩
theorem r_sst {s : ByteArray} {lo hi : Option Value} {l h : Nat} {K : Value → Prop} (hl : bnd lo 0 l) (hh : bnd hi s.size h) (h1 : l ≤ h) (h2 : h ≤ s.size) (hk : K (.string (s.extract l h))) : Sst (.string s) lo hi K :=
 ⟨s, l, h, rfl, hl, hh, h1, h2, hk⟩
theorem r_ldA (i : Nat) (H : Holds w L) {n b o : Nat} {t : TypeId} {cs : List Value} {K : Value → Prop} (sub : List Value) (hi : L[i]? = some (blk b t cs)) (hs : (cs.drop o).take n = sub) (hn : sub.length = n)
   (h : K (.agg sub.toArray)) : LdA n (.pointer (some ⟨b, o, none⟩)) w K := by
 refine ⟨_, sub.toArray, rfl, by simpa using hn, fun j v hv => ?_, h⟩
 have e1 : (⟨b, o, none⟩ : Addr).add j = ⟨b, o + j, none⟩ := by
   unfold Addr.add; split
   · rename_i h; rw [h]; rfl
   · rfl
 rw [e1, H.cell i hi]
 have hv' : sub[j]? = some v := by simpa using hv
 have hj : j < n := by rw [← hn]; exact (List.getElem?_eq_some_iff.1 hv').1
 rw [← hv', ← hs, List.getElem?_take_of_lt hj, List.getElem?_drop]
theorem r_ixsN {s : ByteArray} {k : IntKind} {m : Nat} {K : Value → Prop} (h1 : m < s.size) (h : K (.int .u8 ((s.data.toList.getD m 0).toNat : Int))) : Ixs (.string s) (.int k (m : Int)) K :=
 r_ixs (by omega) (by omega) (by rw [Int.toNat_natCast]; exact h)
theorem r_iaaN {len b o m : Nat} {k : IntKind} {K : Value → Prop} (h1 : m < len) (h : K (.pointer (some ⟨b, o + m, none⟩))) : Iaa len 1 (.pointer (some ⟨b, o, none⟩)) (.int k (m : Int)) K :=
 r_iaa (by omega) (by omega) (by rw [Int.toNat_natCast, Nat.mul_one]; exact h)
theorem r_add1N {a : Nat} {K : Value → Prop} (h2 : a < 9223372036854775807) (h : K (.int .i64 ((a + 1 : Nat) : Int))) : Bp .add (.int .i64 (a : Int)) (.int .i64 1) K := r_add (by omega) (by omega) h
theorem r_sub1N {a : Nat} {K : Value → Prop} (h2 : 1 ≤ a) (h3 : a < 9223372036854775807) (h : K (.int .i64 ((a - 1 : Nat) : Int))) : Bp .sub (.int .i64 (a : Int)) (.int .i64 1) K :=
 r_sub (by omega) (by omega) (by rw [show (a : Int) - 1 = ((a - 1 : Nat) : Int) by omega]; exact h)
theorem r_addN {a b : Nat} {K : Value → Prop} (h2 : a + b < 9223372036854775807) (h : K (.int .i64 ((a + b : Nat) : Int))) : Bp .add (.int .i64 (a : Int)) (.int .i64 (b : Int)) K := r_add (by omega) (by omega) h
theorem r_bd {t : TypeId} {ps : Array (Nat × Value)} {v : Value} {K : Value → Prop} (h : (Instr.build t ps).run P w = .ok v w) (k : K v) : Bd P t ps w K := ⟨v, h, k⟩
theorem r_max {ats : Array TypeId} {t : TypeId} {k : IntKind} {a b : Int} {K : Value → Prop} (h : K (.int k (max a b))) : Bmax P ats t #[.int k a, .int k b] w K := by
 refine ⟨.int k (if b > a then b else a), by simp [Builtin.max_, Builtin.max2, Sem.run_pure, List.foldlM], ?_⟩
 have : (if b > a then b else a) = max a b := by split <;> omega
 rw [this]; exact h
theorem r_rk {N : Node} {v : Value} {A : Prop} (h : N w fun u => u = v) (hA : A) : Rk N v w A := ⟨h, hA⟩
end
end Go.Vc
/- Slices of one-cell elements in the separation layer: index, append, make, to a string. -/
namespace Go.Vc

abbrev iv (n : Int) : Value := .int .i64 n
abbrev nv (n : Nat) : Value := .int .i64 (n : Int)
abbrev bv (c : UInt8) : Value := .int .u8 (c.toNat : Int)
abbrev uv (n : Nat) : Value := .int .u32 (n : Int)
abbrev stv (s : ByteArray) : Value := .string s

theorem Sat.at : ∀ {L : List HProp} {h : Hp} (i : Nat) {P Q : HProp}, Sat L h → L[i]? = some P → (∀ g, P g → Q g) → Sat (L.set i Q) h := by
 intro L h i P Q H hi hpq; exact Sat.push i hi ((H.pull i hi).imp hpq)
theorem Holds.at {w : World} {L : List HProp} (H : Holds w L) (i : Nat) {P Q : HProp} (hi : L[i]? = some P) (hpq : ∀ g, P g → Q g) : Holds w (L.set i Q) := Sat.at i H hi hpq
section
variable {α : Type}
def slb (f : α → Value) (e : TypeId) (oa : Option Addr) (xs : List α) (sp : List Value) : HProp :=
 match oa with
 | none => pur (xs = [] ∧ sp = [])
 | some a => fun h => a.off = 0 ∧ a.spot = none ∧ blk a.block e (xs.map f ++ sp) h
def SL (f : α → Value) (e : TypeId) (v : Value) (xs : List α) : HProp := fun h => ∃ oa sp, v = .slice oa xs.length (xs.length + sp.length) ∧ slb f e oa xs sp h

theorem Holds.open {w : World} {L : List HProp} (H : Holds w L) (i : Nat) {f : α → Value} {e : TypeId} {v : Value} {xs : List α} (hi : L[i]? = some (SL f e v xs)) :
   ∃ oa sp, v = .slice oa xs.length (xs.length + sp.length) ∧ Holds w (L.set i (slb f e oa xs sp)) := by
 obtain ⟨g, ⟨oa, sp, hv, hg⟩, hs, hL⟩ := H.front i hi; exact ⟨oa, sp, hv, Sat.push i hi ⟨g, hg, hs, hL⟩⟩
theorem Holds.close {w : World} {L : List HProp} (H : Holds w L) (i : Nat) {f : α → Value} {e : TypeId} {oa : Option Addr} {xs : List α} {sp : List Value} (hi : L[i]? = some (slb f e oa xs sp)) :
   Holds w (L.set i (SL f e (.slice oa xs.length (xs.length + sp.length)) xs)) := H.at i hi fun g hg => ⟨oa, sp, rfl, hg⟩
theorem SL_nil (f : α → Value) (e : TypeId) (h : Hp) : SL f e (.slice none 0 0) [] h := ⟨none, [], rfl, rfl, rfl⟩
theorem Holds.nilSL {w : World} {L : List HProp} (H : Holds w L) (f : α → Value) (e : TypeId) : Holds w (SL f e (.slice none 0 0) [] :: L) :=
 ⟨fun _ => none, SL_nil f e _, (fun b o h => by cases h), by
   have h0 : (hp w).minus (fun _ => none) = hp w := by funext b; simp [Hp.minus]
   rw [h0]; exact H⟩
theorem Holds.slb {w : World} {L : List HProp} (H : Holds w L) (i : Nat) {f : α → Value} {e : TypeId} {b : Nat} {xs : List α} {sp : List Value} (hi : L[i]? = some (slb f e (some ⟨b, 0, none⟩) xs sp)) :
   Holds w (L.set i (blk b e (xs.map f ++ sp))) := H.at i hi fun g hg => hg.2.2
theorem Holds.slb' {w : World} {L : List HProp} (H : Holds w L) (i : Nat) {f : α → Value} {e : TypeId} {b : Nat} {xs : List α} {sp : List Value} (hi : L[i]? = some (blk b e (xs.map f ++ sp))) :
   Holds w (L.set i (Vc.slb f e (some ⟨b, 0, none⟩) xs sp)) := H.at i hi fun g hg => ⟨rfl, rfl, hg⟩
theorem set_get {L : List HProp} {i : Nat} {P Q : HProp} (hi : L[i]? = some P) : (L.set i Q)[i]? = some Q := by
 have : i < L.length := (List.getElem?_eq_some_iff.1 hi).1; simp [this]
theorem r_ias1 (i : Nat) {w : World} {L : List HProp} (H : Holds w L) {f : α → Value} {e : TypeId} {oa : Option Addr} {xs : List α} {sp : List Value} {l c : Nat} {k : IntKind} {n : Int} {K : Value → Prop}
   (hi : L[i]? = some (Vc.slb f e oa xs sp)) (h0 : 0 ≤ n) (h1 : n < (l : Int)) (hl : l ≤ xs.length) (h : ∀ b, oa = some ⟨b, 0, none⟩ → K (.pointer (some ⟨b, n.toNat, none⟩))) : Ias 1 (.slice oa l c) (.int k n) K := by
 cases oa with
 | none =>
   obtain ⟨g, ⟨h2, _⟩, _⟩ := H.front i hi; subst h2; simp at hl; omega
 | some a =>
   obtain ⟨g, ⟨h2, h3, _⟩, _⟩ := H.front i hi; obtain ⟨b, o, s⟩ := a; simp only at h2 h3; subst h2; subst h3; refine r_ias h0 h1 ?_; simpa using h b rfl
theorem r_iasN (i : Nat) {w : World} {L : List HProp} (H : Holds w L) {f : α → Value} {e : TypeId} {oa : Option Addr} {xs : List α} {sp : List Value} {l c : Nat} {k : IntKind} {m : Nat} {K : Value → Prop}
   (hi : L[i]? = some (Vc.slb f e oa xs sp)) (h1 : m < l) (hl : l ≤ xs.length) (h : ∀ b, oa = some ⟨b, 0, none⟩ → K (.pointer (some ⟨b, m, none⟩))) : Ias 1 (.slice oa l c) (.int k (m : Int)) K :=
 r_ias1 i H hi (by omega) (by omega) hl (by rw [Int.toNat_natCast]; exact h)
theorem r_ldsl (i : Nat) {w : World} {L : List HProp} (H : Holds w L) {f : α → Value} {e : TypeId} {b o : Nat} {xs : List α} {sp : List Value} {x : α} {K : Value → Prop}
   (hi : L[i]? = some (Vc.slb f e (some ⟨b, 0, none⟩) xs sp)) (hx : xs[o]? = some x) (h : K (f x)) : Ld (.pointer (some ⟨b, o, none⟩)) w K := by
 have hlt : o < xs.length := (List.getElem?_eq_some_iff.1 hx).1; refine r_ld i (H.slb i hi) (set_get hi) (v := f x) ?_ h; rw [List.getElem?_append_left (by simpa using hlt), List.getElem?_map, hx]; rfl
end

theorem r_ssl0 {size : Nat} {a : Option Addr} {n c i : Nat} {k : IntKind} {K : Value → Prop} (h1 : i ≤ c) (h : K (.slice a i c)) : Ssl size (.slice a n c) none (some (.int k (i : Int))) K := by
 refine ⟨a, n, c, 0, i, rfl, rfl, ⟨k, rfl⟩, Nat.zero_le _, h1, ?_⟩
 have e : (if c = 0 then a else a.map (·.add (0 * size))) = a := by
   split
   · rfl
   · cases a with
     | none => rfl
     | some x => simp [Addr.add]
 rw [e, Nat.sub_zero, Nat.sub_zero]; exact h
theorem ext1 {s : ByteArray} {m : Nat} (h : m < s.size) : s.extract m (m + 1) = ⟨[s.data.toList.getD m 0].toArray⟩ := by
 apply ByteArray.ext; apply Array.ext'; rw [ByteArray.data_extract, Array.toList_extract]
 have hd : m < s.data.toList.length := by simpa using h
 rw [List.extract_eq_take_drop, List.drop_eq_getElem_cons hd, Nat.add_sub_cancel_left, List.take_succ_cons, List.take_zero, List.getD_eq_getElem?_getD, List.getElem?_eq_getElem hd]; rfl
theorem r_sst1 {s : ByteArray} {k k' : IntKind} {m : Nat} {K : Value → Prop} (h1 : m < s.size) (h : K (.string ⟨[s.data.toList.getD m 0].toArray⟩)) : Sst (.string s) (some (.int k (m : Int))) (some (.int k' ((m + 1 : Nat) : Int))) K :=
 r_sst ⟨k, rfl⟩ ⟨k', rfl⟩ (by omega) (by omega) (by rw [ext1 h1]; exact h)
theorem r_catL {xs ys : List UInt8} {K : Value → Prop} (hs : xs.length + ys.length ≤ 9223372036854775807) (h : K (.string ⟨(xs ++ ys).toArray⟩)) : Bp .add (.string ⟨xs.toArray⟩) (.string ⟨ys.toArray⟩) K :=
 r_cat (by simpa [ByteArray.size] using by omega) (by
   have e : (⟨xs.toArray⟩ : ByteArray) ++ ⟨ys.toArray⟩ = ⟨(xs ++ ys).toArray⟩ := by
     apply ByteArray.ext; rw [ByteArray.data_append]; simp
   rw [e]; exact h)
def setL (cs : List Value) (o : Nat) : List Value → List Value
 | [] => cs
 | v :: r => setL (cs.set o v) (o + 1) r
theorem setL_len : ∀ (vs cs : List Value) (o : Nat), (setL cs o vs).length = cs.length
 | [], _, _ => rfl
 | v :: r, cs, o => by rw [setL, setL_len r, List.length_set]
theorem Same.setCells : ∀ (vs : List Value) (w : World) (a : Addr) (i : Nat), Same w (setCells w a vs i)
 | [], w, _, _ => .refl w
 | v :: r, w, a, i => (Same.setCell w _ v).trans (Same.setCells r _ a (i + 1))
theorem Holds.setCells (i : Nat) {b o : Nat} {t : TypeId} : ∀ (vs : List Value) {w : World} {L : List HProp} {cs : List Value} (k : Nat) (_ : Holds w L) (_ : L[i]? = some (blk b t cs)),
   Holds (Vc.setCells w ⟨b, o, none⟩ vs k) (L.set i (blk b t (setL cs (o + k) vs)))
 | [], w, L, cs, k, H, hi => by
   rw [setL]
   have : L.set i (blk b t cs) = L := by
     apply List.ext_getElem?; intro j; rw [List.getElem?_set]; split
     · rename_i e; subst e; rw [hi]; split
       · rfl
       · rename_i h; rw [List.getElem?_eq_none (by omega)] at hi; cases hi
     · rfl
   rw [this]; exact H
 | v :: r, w, L, cs, k, H, hi => by
   rw [Vc.setCells, setL]
   have e1 : (⟨b, o, none⟩ : Addr).add k = ⟨b, o + k, none⟩ := by
     unfold Addr.add; split
     · rename_i h; rw [h]; rfl
     · rfl
   rw [e1]; have H2 := H.set i hi (o + k) v; have := Holds.setCells (o := o) i r (k + 1) H2 (set_get hi); rw [List.set_set] at this; exact this
theorem r_stA (i : Nat) {w : World} {L : List HProp} (H : Holds w L) {n b o : Nat} {t : TypeId} {cs vs : List Value} {K : World → Prop} (hi : L[i]? = some (blk b t cs)) (ho : o + n ≤ cs.length) (hn : vs.length = n) (hs : vs.all sg = true)
   (h : ∀ w', Same w w' → Holds w' (L.set i (blk b t (setL cs o vs))) → K w') : StA n (.pointer (some ⟨b, o, none⟩)) (.agg vs.toArray) w K := by
 refine ⟨_, vs.toArray, rfl, rfl, by simpa using hn, fun j hj => ?_, by simpa using hs, ?_⟩
 · have e1 : (⟨b, o, none⟩ : Addr).add j = ⟨b, o + j, none⟩ := by
     unfold Addr.add; split
     · rename_i h; rw [h]; rfl
     · rfl
   rw [e1]; refine ⟨?_, H.frozen i hi (o + j)⟩; rw [H.cell i hi (o + j), List.getElem?_eq_getElem (by omega)]; rfl
 · exact h _ (.setCells _ _ _ _) (Holds.setCells i vs 0 H hi)
theorem drop_ext {s : ByteArray} {m : Nat} : s.extract m s.size = ⟨(s.data.toList.drop m).toArray⟩ := by
 apply ByteArray.ext; apply Array.ext'; rw [ByteArray.data_extract, Array.toList_extract, List.extract_eq_take_drop]; rw [List.take_of_length_le (by simp)]
theorem r_sstD {s : ByteArray} {k : IntKind} {m : Nat} {K : Value → Prop} (h1 : m ≤ s.size) (h : K (.string ⟨(s.data.toList.drop m).toArray⟩)) : Sst (.string s) (some (.int k (m : Int))) none K :=
 r_sst ⟨k, rfl⟩ rfl h1 (Nat.le_refl _) (by rw [drop_ext]; exact h)
theorem ba_inj {xs ys : List UInt8} : (⟨xs.toArray⟩ : ByteArray) = ⟨ys.toArray⟩ ↔ xs = ys := by
 constructor
 · intro h; have := congrArg (fun b : ByteArray => b.data.toList) h; simpa using this
 · rintro rfl; rfl
theorem r_seqL {xs ys : List UInt8} {K : Value → Prop} (h : K (.bool (decide (xs = ys)))) : Bp .eql (.string ⟨xs.toArray⟩) (.string ⟨ys.toArray⟩) K :=
 r_seq (by rw [show decide ((⟨xs.toArray⟩ : ByteArray) = ⟨ys.toArray⟩) = decide (xs = ys) from by rw [Bool.eq_iff_iff, decide_eq_true_iff, decide_eq_true_iff, ba_inj]]; exact h)
theorem r_iasP {size : Nat} {p : Addr} {l c : Nat} {k : IntKind} {n : Nat} {K : Value → Prop} (h : n < l) (hk : K (.pointer (some (p.add (n * size))))) : Ias size (.slice (some p) l c) (.int k (n : Int)) K :=
 ⟨p, l, c, k, n, rfl, rfl, by omega, by omega, by rw [Int.toNat_natCast]; exact hk⟩
theorem r_ldAP {n : Nat} {p : Addr} {w : World} {cs : Array Value} {K : Value → Prop} (hn : cs.size = n) (hc : ∀ (j : Nat) v, cs[j]? = some v → w.cell? (p.add j) = some v) (hk : K (.agg cs)) : LdA n (.pointer (some p)) w K :=
 ⟨p, cs, rfl, hn, hc, hk⟩
theorem r_ldP {p : Addr} {w : World} {v : Value} {K : Value → Prop} (hc : w.cell? p = some v) (hk : K v) : Ld (.pointer (some p)) w K := ⟨p, v, rfl, hc, hk⟩
class Row (P : Program) (t : TypeId) (e : outParam TypeId) (z : outParam Value) : Prop where
 und : P.underlying t = some (.slice e)
 inf : ∃ i, P.info? e = some i ∧ i.size = 1 ∧ i.bytes ≤ 32 ∧ i.zero = some z
 one : z.cells = #[z]

section
variable {α : Type} {P : Program} {w : World} {L : List HProp}
theorem r_bs1 {t e : TypeId} {z : Value} [hr : Row P t e z] (H : Holds w L) {v : Value} {K : Value → World → Prop} (hs : sg v = true)
   (h : ∀ b w', Same w w' → Holds w' (blk b e [v] :: L) → K (.slice (some ⟨b, 0, none⟩) 1 1) w') : Bs P t 1 #[(0, v)] w K := by
 obtain ⟨i, hi, hsz, hby, hzz⟩ := hr.inf
 have hcells : v.cells = #[v] := by cases v <;> first | rfl | simp [sg] at hs
 refine ⟨.slice (some ⟨w.heap.size, 0, none⟩) 1 1, w.alloc (.cells #[v] e), ?_, h _ _ (.alloc _ _) (H.alloc _)⟩
 have hc : (Array.map (fun x => [z][x % 1]?.getD default) (Array.range 1)).setIfInBounds 0 v = #[v] := by
   apply Array.ext
   · simp
   · intro j h1 h2
     have : j = 0 := by simpa using h2
     subst this; simp
 simp [Instr.buildSlice, run_underlying hr.und, sizeOf, typeInfo, hi, hsz, zeroValue, hzz, Instr.fill, hcells, newRow, newObj, hr.one]; rw [hc]; rfl
theorem sg_one {v : Value} (h : sg v = true) : v.oneCell' = true := by
 cases v <;> first | rfl | simp [sg] at h
theorem r_ap {t e : TypeId} {z : Value} [hr : Row P t e z] (H : Holds w L) (i j : Nat) {f : α → Value} {oa : Option Addr} {xs ys : List α} {sp : List Value} {l c m c' b2 : Nat} {cs : List Value} {ty : TypeId} {K : Value → World → Prop}
   (hi : L[i]? = some (slb f e oa xs sp)) (hj : L[j]? = some (blk b2 e cs)) (hcs : cs.take m = ys.map f) (hm : m = ys.length) (hl : l = xs.length) (hc : c = xs.length + sp.length) (hs : ∀ y, sg (f y) = true)
   (hn : xs.length + ys.length ≤ 1099511627776) (hne : 0 < ys.length)
   (h : ∀ oa' sp' w', Same w w' → Holds w' (L.set i (slb f e oa' (xs ++ ys) sp')) → K (.slice oa' (xs.length + ys.length) (xs.length + ys.length + sp'.length)) w') :
   Ap P #[t, t] ty #[.slice oa l c, .slice (some ⟨b2, 0, none⟩) m c'] w K := by
 subst hl hc hm; obtain ⟨inf, hinf, hsz, hby, hzz⟩ := hr.inf
 have hnews : ∀ k u, (ys.map f)[k]? = some u → w.cell? ((⟨b2, 0, none⟩ : Addr).add k) = some u := by
   intro k u hu
   have e1 : (⟨b2, 0, none⟩ : Addr).add k = ⟨b2, k, none⟩ := by
     unfold Addr.add; split
     · rename_i h; rw [h]
     · simp
   rw [e1, H.cell j hj k]
   have hk : k < ys.length := by have := (List.getElem?_eq_some_iff.1 hu).1; simpa using this
   rw [← hu, ← hcs, List.getElem?_take_of_lt hk]
 have hmul : (xs.length + ys.length) * inf.bytes ≤ 140737488355328 :=
   Nat.le_trans (Nat.mul_le_mul_left _ hby) (by omega)
 have grow : ∀ (b : Addr) (olds : List Value), olds = xs.map f → (∀ k v, olds[k]? = some v → w.cell? (b.add k) = some v) → sp.length < ys.length →
     (∃ o, L[i]? = some o) → Ap P #[t, t] ty #[.slice (some b) xs.length (xs.length + sp.length), .slice (some ⟨b2, 0, none⟩) ys.length c'] w K := by
   intro b olds ho hold hg _; subst ho
   have hrun := run_append_grow (P := P) w t ty e inf z hr.und hinf hzz b xs.length (xs.length + sp.length) (xs.map f) (by simp [hsz]) hold
     ⟨b2, 0, none⟩ ys.length c' (ys.map f) (by simp [hsz]) hnews (by omega) (by omega) (growslice_fits (by omega) hmul)
   refine ⟨_, _, hrun, ?_⟩; have hcap := grownCap_ge w (xs.length + ys.length) (xs.length + sp.length) e; generalize grownCap w (xs.length + ys.length) (xs.length + sp.length) e = cap at hcap ⊢
   have hz2 : Builtin.zeroCells z.cells (cap - (xs.length + ys.length)) = (List.replicate (cap - (xs.length + ys.length)) z).toArray := by
     rw [hr.one]; apply Array.ext
     · simp [Builtin.zeroCells]
     · intro j h1 h2; simp [Builtin.zeroCells, Nat.mod_one]
   have hcells : ((xs.map f).toArray ++ (ys.map f).toArray ++ Builtin.zeroCells z.cells (cap - (xs.length + ys.length))) = ((xs ++ ys).map f ++ List.replicate (cap - (xs.length + ys.length)) z).toArray := by
     rw [hz2]; simp
   rw [hcells]; have H1 : Holds w.drew L := H.same rfl; have H2 := H1.alloc (.cells ((xs ++ ys).map f ++ List.replicate (cap - (xs.length + ys.length)) z).toArray e)
   have H3 : Holds (w.drew.alloc (.cells ((xs ++ ys).map f ++ List.replicate (cap - (xs.length + ys.length)) z).toArray e)) (L.set i (slb f e (some ⟨w.heap.size, 0, none⟩) (xs ++ ys) (List.replicate (cap - (xs.length + ys.length)) z))) := by
     -- the new block in the place of the old row
     have H4 := (Holds.imp H2 (Q := slb f e (some ⟨w.heap.size, 0, none⟩) (xs ++ ys) (List.replicate (cap - (xs.length + ys.length)) z)) fun g hg => ⟨rfl, rfl, hg⟩); have H5 := H4.dropAt (i + 1); rw [List.eraseIdx_cons_succ] at H5; exact Sat.push i hi H5
   have := h (some ⟨w.heap.size, 0, none⟩) (List.replicate (cap - (xs.length + ys.length)) z) _ ((Same.drew w).trans (.alloc _ _)) H3
   have hc2 : xs.length + ys.length + (List.replicate (cap - (xs.length + ys.length)) z).length = cap := by simp; omega
   rw [hc2] at this; exact this
 cases oa with
 | none =>
   obtain ⟨g, ⟨h2, h3⟩, _⟩ := H.front i hi; subst h2; subst h3; simp only [List.length_nil, Nat.zero_add, List.nil_append] at hn hmul h ⊢; have hrun := run_append_nil (P := P) w t ty e inf z hr.und hinf hzz ⟨b2, 0, none⟩ ys.length c' (ys.map f) (by simp [hsz]) hnews (by omega) (by omega) (by omega); refine ⟨_, _, hrun, ?_⟩; have hcap := grownCap_ge w ys.length 0 e; generalize grownCap w ys.length 0 e = cap at hcap ⊢
   have hz2 : Builtin.zeroCells z.cells (cap - ys.length) = (List.replicate (cap - ys.length) z).toArray := by
     rw [hr.one]; apply Array.ext
     · simp [Builtin.zeroCells]
     · intro j h1 h2; simp [Builtin.zeroCells, Nat.mod_one]
   have hcells : ((ys.map f).toArray ++ Builtin.zeroCells z.cells (cap - ys.length)) = (ys.map f ++ List.replicate (cap - ys.length) z).toArray := by
     rw [hz2]; simp
   rw [hcells]; have H2 := (H.same (w' := w.drew) rfl).alloc (.cells (ys.map f ++ List.replicate (cap - ys.length) z).toArray e); have H4 := (Holds.imp H2 (Q := slb f e (some ⟨w.heap.size, 0, none⟩) ys (List.replicate (cap - ys.length) z)) fun g hg => ⟨rfl, rfl, hg⟩); have H5 := H4.dropAt (i + 1); rw [List.eraseIdx_cons_succ] at H5; have := h (some ⟨w.heap.size, 0, none⟩) (List.replicate (cap - ys.length) z) _ ((Same.drew w).trans (.alloc _ _)) (Sat.push i hi H5)
   have hc2 : ys.length + (List.replicate (cap - ys.length) z).length = cap := by simp; omega
   rw [hc2] at this; exact this
 | some a =>
   obtain ⟨g, ⟨h2, h3, _⟩, _⟩ := H.front i hi; obtain ⟨b, o, s⟩ := a; simp only at h2 h3; subst h2; subst h3; have Hb := H.slb i hi; have hgi : (L.set i (blk b e (xs.map f ++ sp)))[i]? = some (blk b e (xs.map f ++ sp)) := set_get hi
   have hold : ∀ k v, (xs.map f)[k]? = some v → w.cell? ((⟨b, 0, none⟩ : Addr).add k) = some v := by
     intro k v hv
     have e1 : (⟨b, 0, none⟩ : Addr).add k = ⟨b, k, none⟩ := by
       unfold Addr.add; split
       · rename_i h; rw [h]
       · simp
     rw [e1, Hb.cell i hgi k, List.getElem?_append_left (by simpa using (List.getElem?_eq_some_iff.1 hv).1)]; exact hv
   rcases Nat.lt_or_ge sp.length ys.length with hg | hg
   · exact grow ⟨b, 0, none⟩ _ rfl hold hg ⟨_, hi⟩
   · have hobj := Hb.obj i hgi
     have hrun := run_append_room (P := P) w t ty e inf hr.und hinf b xs.length (xs.length + sp.length) (xs.map f ++ sp).toArray hobj
       ⟨b2, 0, none⟩ ys.length c' (ys.map f) (by simp [hsz]) hnews (by simpa using fun y _ => sg_one (hs y)) (by omega) (by simp [hsz]; omega)
     refine ⟨_, _, hrun, ?_⟩
     have hcells : (((xs.map f ++ sp).toArray.toList.take (xs.length * inf.size) ++ ys.map f ++ (xs.map f ++ sp).toArray.toList.drop (xs.length * inf.size + (ys.map f).length)).toArray) = ((xs ++ ys).map f ++ sp.drop ys.length).toArray := by
       rw [hsz]; simp [List.take_append, List.drop_append]
     rw [hcells]
     have H3 : Holds (w.setRow b ((xs ++ ys).map f ++ sp.drop ys.length).toArray) (L.set i (slb f e (some ⟨b, 0, none⟩) (xs ++ ys) (sp.drop ys.length))) := by
       have := Hb.upd (w' := w.setRow b ((xs ++ ys).map f ++ sp.drop ys.length).toArray) i hgi (o' := .cells ((xs ++ ys).map f ++ sp.drop ys.length).toArray e) (setRow_heap w b _ _ e _ hobj) fun c hc => setRow_other w b c _ hc; have h4 := Holds.slb' (f := f) (e := e) (b := b) (xs := xs ++ ys) (sp := sp.drop ys.length) this i (by rw [List.set_set]; exact set_get hi); simpa [List.set_set] using h4
     have hlen : xs.length + sp.length = xs.length + ys.length + (sp.drop ys.length).length := by simp; omega
     rw [hlen]; exact h _ _ _ ⟨rfl, rfl, rfl, by simp⟩ H3

theorem r_app1 {t e : TypeId} {z : Value} [hr : Row P t e z] (H : Holds w L) (i : Nat) {f : α → Value} {v : Value} {xs : List α} {ty : TypeId} {K : Value → World → Prop}
   (hi : L[i]? = some (SL f e v xs)) (x : α) (hs : ∀ y, sg (f y) = true) (hn : xs.length + 1 ≤ 1099511627776)
   (h : ∀ v' w', Same w w' → Holds w' (L.set i (SL f e v' (xs ++ [x]))) → K v' w') : Bs P t 1 #[(0, f x)] w fun y w2 => Ap P #[t, t] ty #[v, y] w2 K := by
 obtain ⟨oa, sp, rfl, H1⟩ := H.open i hi; refine r_bs1 H1 (hs x) fun b3 w3 S3 H3 => ?_; refine r_ap (f := f) (ys := [x]) H3 (i + 1) 0 (xs := xs) (sp := sp) (by rw [List.getElem?_cons_succ]; exact set_get hi) rfl rfl rfl rfl rfl hs (by rw [List.length_singleton]; omega) (by simp) fun oa' sp' w4 S4 H4 => ?_; rw [List.set_cons_succ, List.set_set] at H4; have H5 := H4.drop.close i (set_get hi); rw [List.set_set] at H5
 have e : xs.length + [x].length = (xs ++ [x]).length := by simp
 rw [e]; exact h _ _ (S3.trans S4) H5
theorem foldl_push (l : List UInt8) : ∀ (s : ByteArray), (l.map fun c => (c.toNat : Int)).foldl (fun r n => r.push (UInt8.ofNat n.toNat)) s = ⟨(s.data.toList ++ l).toArray⟩ := by
 induction l with
 | nil => intro s; simp
 | cons c l ih =>
   intro s; rw [List.map_cons, List.foldl_cons, ih]; simp [ByteArray.push]
class Bytes (P : Program) (t e d : TypeId) : Prop where
 und : P.underlying t = some (.slice e)
 el : P.underlying e = some (.int .u8)
 str : P.underlying d = some .string
theorem r_cbs {t e d : TypeId} [hr : Bytes P t e d] (H : Holds w L) (i : Nat) {oa : Option Addr} {xs : List UInt8} {sp : List Value} {l c : Nat} {K : Value → World → Prop}
   (hi : L[i]? = some (slb bv e oa xs sp)) (hl : l = xs.length) (h : K (.string ⟨xs.toArray⟩) w) : Cw P t d (.slice oa l c) w K := by
 subst hl
 cases oa with
 | none =>
   obtain ⟨g, ⟨h2, h3⟩, _⟩ := H.front i hi; subst h2; refine ⟨.string ⟨[].toArray⟩, w, ?_, h⟩; rw [run_convert_bytes_string (P := P) w t d e none _ c hr.und hr.el hr.str]; rfl
 | some a =>
   obtain ⟨g, ⟨h2, h3, _⟩, _⟩ := H.front i hi; obtain ⟨b, o, s⟩ := a; simp only at h2 h3; subst h2; subst h3; have Hb := H.slb i hi; refine ⟨_, w, ?_, h⟩; rw [run_convert_bytes_string (P := P) w t d e _ _ c hr.und hr.el hr.str]
   have hload : (loadCells (⟨b, 0, none⟩ : Addr) xs.length).run P w = .ok ((xs.map fun c => (c.toNat : Int)).map (Value.int .u8)).toArray w := by
     have hcells : ((xs.map fun c => (c.toNat : Int)).map (Value.int .u8)) = xs.map bv := by rw [List.map_map]; rfl
     rw [hcells]
     have := run_loadCells (P := P) (w := w) (a := ⟨b, 0, none⟩) (cs := (xs.map bv).toArray) (fun j v hv => by
       have e1 : (⟨b, 0, none⟩ : Addr).add j = ⟨b, j, none⟩ := by
         unfold Addr.add; split
         · rename_i h; rw [h]
         · simp
       rw [e1, Hb.cell i (set_get hi) j]
       have hv' : (xs.map bv)[j]? = some v := by simpa using hv
       rw [List.getElem?_append_left (List.getElem?_eq_some_iff.1 hv').1]
       exact hv')
     simpa using this
   rw [run_bytesToString (P := P) w _ xs.length c _ hload, foldl_push]; simp
end
end Go.Vc
/- More rules of the separation layer: ranges over strings, slices of many-cell elements, what lies below. -/
namespace Go.Vc
variable {P : Program} {w : World} {L : List HProp}
def itPos (w : World) (b : Nat) : Nat := match w.heap[b]? with
 | some (.stringIter _ p) => p
 | _ => 0
theorem itPos_of (H : Holds w L) (i : Nat) {b p : Nat} {s : ByteArray} (hi : L[i]? = some (blkO b (.stringIter s p))) : itPos w b = p := by
 unfold itPos; rw [H.obj i hi]
theorem r_rg {t : TypeId} {s : ByteArray} {K : Value → World → Prop} (ht : P.underlying t = some .string) (H : Holds w L)
   (h : ∀ b w', Same w w' → Holds w' (blkO b (.stringIter s 0) :: L) → K (.pointer (some ⟨b, 0, none⟩)) w') : Rg P t (.string s) w K :=
 ⟨_, _, run_range_string w t s ht, h _ _ (.alloc _ _) (H.alloc _)⟩
theorem r_nxT (H : Holds w L) (i : Nat) {t : TypeId} {s : ByteArray} {b p : Nat} {K : Value → World → Prop} (hi : L[i]? = some (blkO b (.stringIter s p))) (hp : p < s.size)
   (h : ∀ w', Same w w' → Holds w' (L.set i (blkO b (.stringIter s (p + (Utf8.decode s p).2)))) → K (.tuple #[.bool true, .int .i64 p, .int .i32 (Utf8.decode s p).1]) w') :
   Nx P (.pointer (some ⟨b, 0, none⟩)) true t w K := by
 have ho := H.obj i hi; refine ⟨_, _, Lib.run_next_any_at w b s p t ho hp, h _ ⟨rfl, rfl, rfl, by simp [World.iterAt]⟩ (H.upd i hi ?_ ?_)⟩
 · have : b < w.heap.size := by
     rcases Nat.lt_or_ge b w.heap.size with h1 | h1
     · exact h1
     · rw [Array.getElem?_eq_none h1] at ho; cases ho
   simp [World.iterAt, Array.getElem?_setIfInBounds, this]
 · intro c hc; simp only [World.iterAt, Array.getElem?_setIfInBounds]; rw [if_neg (by omega)]
theorem r_nxE (H : Holds w L) (i : Nat) {t : TypeId} {s : ByteArray} {b p : Nat} {K : Value → World → Prop} (hi : L[i]? = some (blkO b (.stringIter s p))) (hp : ¬ p < s.size)
   (h : K (.tuple #[.bool false]) w) : Nx P (.pointer (some ⟨b, 0, none⟩)) true t w K :=
 ⟨_, _, Lib.run_next_end_at w b s p t (H.obj i hi) hp, h⟩
theorem r_ex10 {a : Value} {K : Value → Prop} (h : K a) : Ex (.tuple #[a]) 0 K := r_ex rfl h
theorem r_bsK {t e : TypeId} {n : Nat} {ps : Array (Nat × Value)} {K : Value → World → Prop} (cells : List Value) (H : Holds w L)
   (h : (Instr.buildSlice t n ps).run P w = .ok (.slice (some ⟨w.heap.size, 0, none⟩) n n) (w.alloc (.cells cells.toArray e)))
   (k : ∀ b w', Same w w' → Holds w' (blk b e cells :: L) → K (.slice (some ⟨b, 0, none⟩) n n) w') : Bs P t n ps w K :=
 ⟨_, _, h, k _ _ (.alloc _ _) (H.alloc _)⟩
theorem SL_of_blk (i : Nat) {α : Type} {f : α → Value} {e : TypeId} {b : Nat} (xs : List α) (H : Holds w L) (hi : L[i]? = some (blk b e (xs.map f))) : Holds w (L.set i (SL f e (.slice (some ⟨b, 0, none⟩) xs.length xs.length) xs)) :=
 H.at i hi fun g hg => ⟨some ⟨b, 0, none⟩, [], by simp, rfl, rfl, by simpa using hg⟩
theorem r_ias0 {size b l c : Nat} {k : IntKind} {n : Nat} {K : Value → Prop} (h : n < l) (hk : K (.pointer (some ⟨b, n * size, none⟩))) : Ias size (.slice (some ⟨b, 0, none⟩) l c) (.int k (n : Int)) K := by
 refine r_iasP h ?_
 have e1 : (⟨b, 0, none⟩ : Addr).add (n * size) = ⟨b, n * size, none⟩ := by
   unfold Addr.add; split
   · rename_i h; rw [h]
   · simp
 rw [e1]; exact hk
theorem r_inv {m : Sem Next} {f : FuncId} {args : Array Value} {K : Value → World → Prop} (h : m.run P w = .ok (.enter f args) w) (k : Cl P f args w K) : Inv P m w K := ⟨f, args, h, k.2⟩
theorem wrapU8 {z : Int} (h1 : 0 ≤ z) (h2 : z < 256) : IntKind.u8.wrap z = z := by show z % 256 = z; omega
theorem r_shrU {s n : Nat} {k k' : IntKind} {K : Value → Prop} (hn : n ≤ k.bits) (h : K (.int k ((s / 2 ^ n : Nat) : Int))) : Bp .shr (.int k (s : Int)) (.int k' (n : Int)) K := by
 refine ⟨_, ?_, h⟩; simp only [bp]
 rw [if_neg (by omega), Int.toNat_natCast, Nat.min_eq_left hn, Int.fdiv_eq_ediv_of_nonneg _ (by
   have : (0 : Int) ≤ ((2 ^ n : Nat) : Int) := Int.natCast_nonneg _
   simpa using this)]
 simp
def filled {α : Type} (xs : List α) (z : α) (n i : Nat) : List α := xs.take i ++ List.replicate (n - i) z
end Go.Vc
/- Rows of elements of many cells: append, and reading. No program in sight. -/
namespace Go.Vc
class RowN (P : Program) (t : TypeId) (e : outParam TypeId) (k : outParam Nat) : Prop where
 und : P.underlying t = some (.slice e)
 inf : ∃ i z, P.info? e = some i ∧ i.size = k ∧ i.bytes ≤ 256 ∧ i.zero = some z ∧ z.cells.size = k
variable {α : Type} {P : Program} {w : World} {L : List HProp}
def flatL (F : α → List Value) : List α → List Value
 | [] => []
 | x :: r => F x ++ flatL F r
theorem flatL_app (F : α → List Value) (a b : List α) : flatL F (a ++ b) = flatL F a ++ flatL F b := by
 induction a with
 | nil => rfl
 | cons x r ih => simp [flatL, ih]
theorem flatL_len {F : α → List Value} {k : Nat} (hF : ∀ x, (F x).length = k) (xs : List α) : (flatL F xs).length = xs.length * k := by
 induction xs with
 | nil => simp [flatL]
 | cons x r ih => simp [flatL, ih, hF, Nat.add_mul]; omega
theorem flatL_get {F : α → List Value} {k : Nat} (hF : ∀ x, (F x).length = k) : ∀ (xs : List α) (i : Nat) (x : α), xs[i]? = some x → ((flatL F xs).drop (i * k)).take k = F x
 | y :: r, 0, x, h => by
   simp at h; subst h; have := hF y; simp [flatL, List.take_append, this]
 | y :: r, i + 1, x, h => by
   have h1 := flatL_get hF r i x (by simpa using h); have := hF y; rw [flatL, List.drop_append, this, List.drop_of_length_le (by rw [this, Nat.add_mul]; omega), List.nil_append, show (i + 1) * k - k = i * k by rw [Nat.add_mul]; omega]; exact h1
def rwb (F : α → List Value) (k : Nat) (e : TypeId) (oa : Option Addr) (xs : List α) (m : Nat) (sp : List Value) : HProp :=
 match oa with
 | none => pur (xs = [] ∧ m = 0)
 | some a => fun h => a.off = 0 ∧ a.spot = none ∧ sp.length = m * k ∧ blk a.block e (flatL F xs ++ sp) h
def RW (F : α → List Value) (k : Nat) (e : TypeId) (v : Value) (xs : List α) : HProp := fun h => ∃ oa m sp, v = .slice oa xs.length (xs.length + m) ∧ rwb F k e oa xs m sp h
theorem Holds.openRW (H : Holds w L) (i : Nat) {F : α → List Value} {k : Nat} {e : TypeId} {v : Value} {xs : List α} (hi : L[i]? = some (RW F k e v xs)) :
   ∃ oa m sp, v = .slice oa xs.length (xs.length + m) ∧ Holds w (L.set i (rwb F k e oa xs m sp)) := by
 obtain ⟨g, ⟨oa, m, sp, hv, hg⟩, hs, hL⟩ := H.front i hi; exact ⟨oa, m, sp, hv, Sat.push i hi ⟨g, hg, hs, hL⟩⟩
theorem Holds.nilRW (H : Holds w L) (F : α → List Value) (k : Nat) (e : TypeId) : Holds w (RW F k e (.slice none 0 0) [] :: L) :=
 ⟨fun _ => none, ⟨none, 0, [], rfl, rfl, rfl⟩, (fun b o h => by cases h), by
   have h0 : (hp w).minus (fun _ => none) = hp w := by funext b; simp [Hp.minus]
   rw [h0]; exact H⟩
theorem Holds.rwb (H : Holds w L) (i : Nat) {F : α → List Value} {k : Nat} {e : TypeId} {oa : Option Addr} {xs : List α} {m : Nat} {sp : List Value} (hi : L[i]? = some (rwb F k e oa xs m sp)) (hx : 0 < xs.length ∨ 0 < m) :
   ∃ b, oa = some ⟨b, 0, none⟩ ∧ sp.length = m * k ∧ Holds w (L.set i (blk b e (flatL F xs ++ sp))) := by
 cases oa with
 | none =>
   obtain ⟨g, ⟨h1, h2⟩, _⟩ := H.front i hi; subst h1; subst h2; simp at hx
 | some a =>
   obtain ⟨g, ⟨h1, h2, h3, h4⟩, hs, hL⟩ := H.front i hi; obtain ⟨b, o, s⟩ := a; simp only at h1 h2; subst h1; subst h2; exact ⟨b, rfl, h3, Sat.push i hi ⟨g, h4, hs, hL⟩⟩
theorem zeroCells_len (z : Array Value) (n : Nat) : (Builtin.zeroCells z n).toList.length = n * z.size := by simp [Builtin.zeroCells]
theorem r_apN {t e : TypeId} {k : Nat} [hr : RowN P t e k] (H : Holds w L) (i j : Nat) {F : α → List Value} {v : Value} {xs ys : List α} {m' c' b2 : Nat} {cs : List Value} {ty : TypeId} {K : Value → World → Prop}
   (hi : L[i]? = some (RW F k e v xs)) (hj : L[j]? = some (blk b2 e cs)) (hij : j ≠ i) (hcs : cs.take (ys.length * k) = flatL F ys) (hm : m' = ys.length) (hF : ∀ y, (F y).length = k) (hs : ∀ y, ∀ u ∈ F y, sg u = true)
   (hn : xs.length + ys.length ≤ 68719476736) (hne : 0 < ys.length) (hk : 0 < k)
   (h : ∀ v' w', Same w w' → Holds w' (L.set i (RW F k e v' (xs ++ ys))) → K v' w') :
   Ap P #[t, t] ty #[v, .slice (some ⟨b2, 0, none⟩) m' c'] w K := by
 obtain ⟨oa, m, sp, rfl, H⟩ := H.openRW i hi; have hi1 : (L.set i (Vc.rwb F k e oa xs m sp))[i]? = some (Vc.rwb F k e oa xs m sp) := set_get hi
 have hj1 : (L.set i (Vc.rwb F k e oa xs m sp))[j]? = some (blk b2 e cs) := by rw [List.getElem?_set_ne (fun e => hij e.symm)]; exact hj
 subst hm; obtain ⟨inf, z, hinf, hsz, hby, hzz, hzk⟩ := hr.inf; have hlen := flatL_len (k := k) hF
 have hsg : ∀ u ∈ flatL F ys, u.oneCell' = true := by
   intro u hu; clear hcs hne hn h
   induction ys with
   | nil => simp [flatL] at hu
   | cons y r ih =>
     rw [flatL, List.mem_append] at hu; rcases hu with hu | hu
     · exact sg_one (hs y u hu)
     · exact ih hu
 have hnews : ∀ q u, (flatL F ys)[q]? = some u → w.cell? ((⟨b2, 0, none⟩ : Addr).add q) = some u := by
   intro q u hu
   have e1 : (⟨b2, 0, none⟩ : Addr).add q = ⟨b2, q, none⟩ := by
     unfold Addr.add; split
     · rename_i h; rw [h]
     · simp
   rw [e1, H.cell j hj1 q]
   have hq : q < ys.length * k := by have := (List.getElem?_eq_some_iff.1 hu).1; rw [hlen] at this; exact this
   rw [← hu, ← hcs, List.getElem?_take_of_lt hq]
 have hmul : (xs.length + ys.length) * inf.bytes ≤ 140737488355328 :=
   Nat.le_trans (Nat.mul_le_mul_left _ hby) (by omega)
 have fin : ∀ (b' cap : Nat) (w' : World) (sp' : List Value) (L' : List HProp), xs.length + ys.length ≤ cap → sp'.length = (cap - (xs.length + ys.length)) * k → Same w w' →
     Holds w' (blk b' e (flatL F (xs ++ ys) ++ sp') :: L.eraseIdx i) → K (.slice (some ⟨b', 0, none⟩) (xs.length + ys.length) cap) w' := by
   intro b' cap w' sp' L' hc hsp S' H'
   have H4 := Holds.imp H' (Q := RW F k e (.slice (some ⟨b', 0, none⟩) (xs.length + ys.length) cap) (xs ++ ys)) fun g hg => ⟨some ⟨b', 0, none⟩, cap - (xs.length + ys.length), sp', by
     rw [List.length_append]; congr 1; omega, rfl, rfl, hsp, hg⟩
   exact h _ _ S' (Sat.push i hi H4)
 cases oa with
 | none =>
   obtain ⟨g, ⟨h2, h3⟩, _⟩ := H.front i hi1; subst h2; subst h3; simp only [List.length_nil, Nat.zero_add, List.nil_append] at hn hmul fin ⊢; have hrun := run_append_nil (P := P) w t ty e inf z hr.und hinf hzz ⟨b2, 0, none⟩ ys.length c' (flatL F ys) (by rw [hlen, hsz]) hnews (by omega) (by omega) (by omega); refine ⟨_, _, hrun, ?_⟩; have hcap := grownCap_ge w ys.length 0 e; generalize grownCap w ys.length 0 e = cap at hcap ⊢; have H2 := (H.same (w' := w.drew) rfl).alloc (.cells ((flatL F ys).toArray ++ Builtin.zeroCells z.cells (cap - ys.length)) e); have H5 := H2.dropAt (i + 1); rw [List.eraseIdx_cons_succ, List.eraseIdx_set_eq] at H5; refine fin _ cap _ (Builtin.zeroCells z.cells (cap - ys.length)).toList L (by omega) (by rw [zeroCells_len, hzk]) ((Same.drew w).trans (.alloc _ _)) ?_
   have hc : ((flatL F ys).toArray ++ Builtin.zeroCells z.cells (cap - ys.length)) = (flatL F ys ++ (Builtin.zeroCells z.cells (cap - ys.length)).toList).toArray := by simp
   rw [hc] at H5 ⊢; exact H5
 | some a =>
   have h4 := H.rwb i hi1; obtain ⟨g, ⟨h2, h3, hspl, _⟩, _⟩ := H.front i hi1; obtain ⟨b, o, s⟩ := a; simp only at h2 h3; subst h2; subst h3
   have Hb : Holds w (L.set i (blk b e (flatL F xs ++ sp))) := by
     have := H.at i hi1 (Q := blk b e (flatL F xs ++ sp)) fun g hg => hg.2.2.2; rw [List.set_set] at this; exact this
   have hgi : (L.set i (blk b e (flatL F xs ++ sp)))[i]? = some (blk b e (flatL F xs ++ sp)) := set_get hi
   have hold : ∀ q u, (flatL F xs)[q]? = some u → w.cell? ((⟨b, 0, none⟩ : Addr).add q) = some u := by
     intro q u hu
     have e1 : (⟨b, 0, none⟩ : Addr).add q = ⟨b, q, none⟩ := by
       unfold Addr.add; split
       · rename_i h; rw [h]
       · simp
     rw [e1, Hb.cell i hgi q, List.getElem?_append_left (List.getElem?_eq_some_iff.1 hu).1]; exact hu
   rcases Nat.lt_or_ge m ys.length with hg | hg
   · have hrun := run_append_grow (P := P) w t ty e inf z hr.und hinf hzz ⟨b, 0, none⟩ xs.length (xs.length + m) (flatL F xs) (by rw [hlen, hsz]) hold
       ⟨b2, 0, none⟩ ys.length c' (flatL F ys) (by rw [hlen, hsz]) hnews (by omega) (by omega) (growslice_fits (by omega) hmul)
     refine ⟨_, _, hrun, ?_⟩; have hcap := grownCap_ge w (xs.length + ys.length) (xs.length + m) e; generalize grownCap w (xs.length + ys.length) (xs.length + m) e = cap at hcap ⊢; have H2 := (Hb.same (w' := w.drew) rfl).alloc (.cells ((flatL F xs).toArray ++ (flatL F ys).toArray ++ Builtin.zeroCells z.cells (cap - (xs.length + ys.length))) e); have H5 := H2.dropAt (i + 1); rw [List.eraseIdx_cons_succ, List.eraseIdx_set_eq] at H5; refine fin _ cap _ (Builtin.zeroCells z.cells (cap - (xs.length + ys.length))).toList L (by omega) (by rw [zeroCells_len, hzk]) ((Same.drew w).trans (.alloc _ _)) ?_
     have hc : ((flatL F xs).toArray ++ (flatL F ys).toArray ++ Builtin.zeroCells z.cells (cap - (xs.length + ys.length))) = (flatL F (xs ++ ys) ++ (Builtin.zeroCells z.cells (cap - (xs.length + ys.length))).toList).toArray := by
       rw [flatL_app]; simp
     rw [hc] at H5 ⊢; exact H5
   · have hobj := Hb.obj i hgi; have hroom : (xs.length + ys.length) * k ≤ (xs.length + m) * k := Nat.mul_le_mul_right _ (by omega)
     have hrun := run_append_room (P := P) w t ty e inf hr.und hinf b xs.length (xs.length + m) (flatL F xs ++ sp).toArray hobj
       ⟨b2, 0, none⟩ ys.length c' (flatL F ys) (by rw [hlen, hsz]) hnews hsg (by omega) (by
         rw [hsz, List.size_toArray, List.length_append, hspl]; have e1 := hlen xs; have e2 := hlen ys; rw [Nat.add_mul, Nat.add_mul] at hroom
         omega)
     refine ⟨_, _, hrun, ?_⟩
     have hcells : (((flatL F xs ++ sp).toArray.toList.take (xs.length * inf.size) ++ flatL F ys ++ (flatL F xs ++ sp).toArray.toList.drop (xs.length * inf.size + (flatL F ys).length)).toArray) = (flatL F (xs ++ ys) ++ sp.drop (ys.length * k)).toArray := by
       rw [hsz, flatL_app]; simp [List.take_append, List.drop_append, hlen]
     rw [hcells]
     have H3 : Holds (w.setRow b (flatL F (xs ++ ys) ++ sp.drop (ys.length * k)).toArray) (L.set i (blk b e (flatL F (xs ++ ys) ++ sp.drop (ys.length * k)))) := by
       have := Hb.upd (w' := w.setRow b (flatL F (xs ++ ys) ++ sp.drop (ys.length * k)).toArray) i hgi (o' := .cells (flatL F (xs ++ ys) ++ sp.drop (ys.length * k)).toArray e) (setRow_heap w b _ _ e _ hobj) fun c hc => setRow_other w b c _ hc; rw [List.set_set] at this; exact this
     have H6 := H3.front i (set_get hi); rw [List.eraseIdx_set_eq] at H6; refine fin b (xs.length + m) _ (sp.drop (ys.length * k)) L (by omega) ?_ ⟨rfl, rfl, rfl, by simp⟩ H6; rw [List.length_drop, hspl, show xs.length + m - (xs.length + ys.length) = m - ys.length by omega, Nat.sub_mul]
theorem r_appN {t e : TypeId} {k : Nat} [hr : RowN P t e k] (H : Holds w L) (i : Nat) {F : α → List Value} {v : Value} {xs : List α} {ps : Array (Nat × Value)} {ty : TypeId} {K : Value → World → Prop} (x : α)
   (hi : L[i]? = some (RW F k e v xs)) (hb : (Instr.buildSlice t 1 ps).run P w = .ok (.slice (some ⟨w.heap.size, 0, none⟩) 1 1) (w.alloc (.cells (F x).toArray e)))
   (hF : ∀ y, (F y).length = k) (hs : ∀ y, ∀ u ∈ F y, sg u = true)
   (hn : xs.length + 1 ≤ 68719476736) (hk : 0 < k)
   (h : ∀ v' w', Same w w' → Holds w' (L.set i (RW F k e v' (xs ++ [x]))) → K v' w') : Bs P t 1 ps w fun y w2 => Ap P #[t, t] ty #[v, y] w2 K := by
 refine r_bsK (F x) H hb fun b3 w3 S3 H3 => ?_; refine r_apN (F := F) (ys := [x]) H3 (i + 1) 0 (by rw [List.getElem?_cons_succ]; exact hi) rfl (by omega) (by simp [flatL, List.take_of_length_le, hF]) rfl hF hs (by simpa using hn) (by simp) hk fun v' w4 S4 H4 => ?_; rw [List.set_cons_succ] at H4; exact h _ _ (S3.trans S4) H4.drop
theorem r_ldN (i : Nat) (H : Holds w L) {F : α → List Value} {k : Nat} {e : TypeId} {oa : Option Addr} {xs : List α} {m : Nat} {sp : List Value} {l c q : Nat} {kk : IntKind} {x : α} {K : Value → Prop}
   (hi : L[i]? = some (rwb F k e oa xs m sp)) (hx : xs[q]? = some x) (hF : ∀ y, (F y).length = k) (hl : q < l) (h : K (.agg (F x).toArray)) :
   Ias k (.slice oa l c) (.int kk (q : Int)) fun y => LdA k y w K := by
 have hlt : q < xs.length := (List.getElem?_eq_some_iff.1 hx).1; obtain ⟨b, rfl, hsp, Hb⟩ := H.rwb i hi (.inl (by omega)); refine r_ias0 hl ?_; refine r_ldA i Hb (F x) (set_get hi) ?_ (hF x) h; have h1 := flatL_get hF xs q x hx
 have hq : q * k + k ≤ xs.length * k := by
   have : (q + 1) * k ≤ xs.length * k := Nat.mul_le_mul_right _ (by omega); rw [Nat.add_mul, Nat.one_mul] at this; exact this
 have hlen := flatL_len (k := k) hF xs; rw [List.drop_append_of_le_length (by omega), List.take_append_of_le_length (by rw [List.length_drop]; omega)]; exact h1
theorem r_bpK {op : BinOp} {x y : Value} {K : Value → Prop} (v : Value) (h : bp op x y = some v) (k : K v) : Bp op x y K := ⟨v, h, k⟩
theorem least_some {l : List String} (h : l ≠ []) : ∃ m, Instr.least l = some m := by
 cases l with
 | nil => exact absurd rfl h
 | cons s r => exact ⟨_, rfl⟩
theorem missing_some {want : Array (String × TypeId)} {got : Array Method} (h : (want.toList.filter fun x => !got.any fun m => m.name == x.1 && m.sig == x.2) ≠ []) : ∃ m, Instr.missingMethod want got = some m := by
 have h2 : ((want.toList.filter fun x => !got.any fun m => m.name == x.1 && m.sig == x.2).map (·.1)) ≠ [] := by simpa using h
 unfold Instr.missingMethod; simp only; generalize ((want.toList.filter fun x => !got.any fun m => m.name == x.1 && m.sig == x.2).map (·.1)) = l at *; rw [List.partition_eq_filter_filter]; simp only
 by_cases h3 : l.filter (fun a => decide (¬ (a.contains '.') = true)) = []
 · have h5 : l.filter (fun a => a.contains '.') ≠ [] := by
     intro h4; apply h2; refine List.eq_nil_iff_forall_not_mem.2 fun x hx => ?_
     by_cases hc : (x.contains '.') = true
     · have : x ∈ l.filter (fun a => a.contains '.') := List.mem_filter.2 ⟨hx, hc⟩; rw [h4] at this; cases this
     · have : x ∈ l.filter (fun a => decide (¬ (a.contains '.') = true)) := List.mem_filter.2 ⟨hx, by simpa using hc⟩; rw [h3] at this; cases this
   obtain ⟨m, hm⟩ := least_some (l := (l.filter (fun a => a.contains '.')).map fun id => (id.splitOn ".").getLastD id) (by simpa using h5)
   cases hx : Instr.least (l.filter (not ∘ fun a => a.contains '.')) with
   | some y => exact ⟨y, by simp⟩
   | none => exact ⟨m, by simpa using hm⟩
 · have h6 : l.filter (not ∘ fun a => a.contains '.') ≠ [] := by
     intro h4; apply h3; rw [← h4]
     congr 1
     funext a
     simp
   obtain ⟨m, hm⟩ := least_some h6; exact ⟨m, by rw [hm]; rfl⟩
theorem r_taNo {P : Program} {t at_ xt : TypeId} {v z : Value} {want : Array (String × TypeId)} {i : TypeInfo} {K : Value → Prop} (hu : P.underlying at_ = some (.interface want)) (hi : P.info? t = some i)
   (hm : (want.toList.filter fun x => !i.methods.any fun m => m.name == x.1 && m.sig == x.2) ≠ []) (hz : ∀ w, (zeroValue at_).run P w = .ok z w) (k : K (.tuple #[z, .bool false])) : Ta P (.iface t v) xt at_ true w K := by
 obtain ⟨m, hm⟩ := missing_some hm; refine ⟨_, ?_, k⟩; simp [Instr.typeAssert, run_underlying hu, typeInfo, hi, hm, hz]
end Go.Vc
/- The engine for a body that defers one closure ahead of its work, where the closure does nothing on a plain return. No program in sight. -/
namespace Go.Vc
def vcFnD (P : Program) (n : Nat) (rs : List ResultVar) (x y : Code) (h1 h2 : H) (d : Nat) (cl : FuncId) (caps : Array Operand) (args : List Value) (w : World) (R : Value → World → Prop) : Prop :=
 vc P n x h1 ⟨args0 args 0, fun _ => undef⟩ w (thenE (fun ρ w' => vc P n y h2 (ρ.set d (.func (.func cl) #[] (amap ρ.ev caps))) w' (fin P rs R)) (fun _ _ _ => False))
def Idle (P : Program) (cl : FuncId) (k : Nat) : Prop := ∀ (vs : Array Value) (w : World), vs.size = k → CallsD P cl vs .returning w fun e u' w' => e = .returned (.tuple #[]) ∧ u' = .returning ∧ w' = w
section
variable {P : Program} {n : Nat}
theorem cl_of_vcD {f : FuncId} {fn fn2 : Func} {x y c2 : Code} {args : List Value} {w : World} {h1 h2 : H} {R : Value → World → Prop} {rs : List ResultVar} {id d : Nat} {cl : FuncId}
   {caps : Array Operand} {o1 o2 : Oper}
   (hm : P.follows .mixedOrders = true) (hf : P.funcs[f]? = some fn) (hb : fn.body = some (.seq x (.seq (.region id #[o1, o2] false) y)))
   (ho1 : o1.op = .makeFunc (.func cl) #[] caps) (hg1 : o1.guard = none) (hd1 : o1.dst = some d)
   (ho2 : ∃ aty, o2.op = .defer ⟨.value (.tmp d), #[], aty⟩) (hg2 : o2.guard = none) (hd2 : o2.dst = none)
   (hn : (fn.name == "runtime.NumGoroutine") = false)
   (hs : fn.ntmps = n) (hr : fn.results = rs.toArray) (ha : Nat.ble args.length n = true) (hd : Nat.blt d n = true)
   (hcf : P.funcs[cl]? = some fn2) (hcb : fn2.body = some c2) (hcn : (fn2.name == "runtime.NumGoroutine") = false)
   (hi : Idle P cl caps.size)
   (hh : vcFnD P n rs x y h1 h2 d cl caps args w R) : Cl P f args.toArray w R := by
 refine ⟨by simp [callFunc, hf, (by simpa using hn : ¬ fn.name = "runtime.NumGoroutine"), hb], calls_of_wp_defers hf hb ?_⟩; refine wp_seq (vc_sound hm x h1 _ w _ _ _ hh (fits0 hs (Nat.le_of_ble_eq_true ha)) ?_); intro e ρ a w1 hf1 h'
 cases e <;> simp only [thenE] at h' <;> try exact h'.elim
 simp only [Exit.then]; refine wp_seq (wp_region_list ?_); obtain ⟨aty, ho2⟩ := ho2; obtain ⟨dst1, op1, ty1, ps1, af1, gd1⟩ := o1; obtain ⟨dst2, op2, ty2, ps2, af2, gd2⟩ := o2; simp only at ho1 hg1 hd1 ho2 hg2 hd2; subst ho1 hg1 hd1 ho2 hg2 hd2; have hdn := Nat.le_of_ble_eq_true hd; generalize hv : (Value.func (.func cl) #[] (amap ρ.ev caps)) = v at h'
 have hsz : (amap ρ.ev caps).size = caps.size := by rw [amap_eq]; simp
 generalize hcv : amap ρ.ev caps = cv at hv hsz; have hf2 : Fits n (ρ.set d v) (a.put (some d) v) := hf1.put hdn v
 have e1 : (execOp a.eval ⟨some d, .makeFunc (.func cl) #[] caps, ty1, ps1, af1, none⟩).run P w1 = .ok (.value v) w1 := by
   rw [← hv, ← hcv, amap_eq, hf1.eval]; simp [execOp, Instr.makeFunc, go_sem]
 have e2 : (execOp (a.put (some d) v).eval ⟨none, .defer ⟨.value (.tmp d), #[], aty⟩, ty2, ps2, af2, none⟩).run P w1 = .ok (.defer ⟨.fn (.func cl) cv, #[]⟩) w1 := by
   have : (ρ.set d v).ev (.tmp d) = v := by
     show (ρ.set d v).get d = v; rw [Env.get_set, if_pos rfl]
   rw [hf2.eval]; generalize (ρ.set d v).ev = ev at this; simp [execOp, resolve, this, ← hv, Deferred.ofValue, go_sem]
 simp only [wpList]; rw [if_pos (show Region.wanted _ _ = true from rfl)]; refine .inl ?_; unfold Oper.wp; rw [e1, Oper.upon_value, if_pos (show Region.wanted _ _ = true from rfl)]; refine .inl ?_; rw [e2, Oper.upon_defer]; simp only [Exit.then]; have hz2 := hf2.size; have hl2 := hf2.slot; have hd2 := hf2.defers; obtain ⟨D, hD⟩ : ∃ D : DefN, D.ds = [⟨.fn (.func cl) cv, #[]⟩] := ⟨⟨_⟩, rfl⟩
 have hf3 : @Fits D n (ρ.set d v) (({ (a.put (some d) v) with defers := ⟨.fn (.func cl) cv, #[]⟩ :: (a.put (some d) v).defers } : Act).put none undef) :=
   ⟨by
     show (⟨.fn (.func cl) cv, #[]⟩ : Deferred) :: (a.put (some d) v).defers = _; rw [hd2, hD]
     rfl, hz2, hl2⟩
 refine vc_sound hm y h2 (ρ.set d v) w1 _ _ _ h' hf3 ?_; intro e ρ a w hf' h'
 have key : ResK P ρ w R rs [] → Leaves P fn a.tmps (fun e w' => ∃ v, e = .returned v ∧ R v w') a.defers .returning w := fun h' => by
   obtain ⟨v, h1, h2⟩ := fits_results hr hf' h'; rw [hf'.defers, hD]; refine leaves_cons (f := cl) (args := cv) (by simp) ?_ ?_
   · simp [invoke, callFunc, hcf, (by simpa using hcn : ¬ fn2.name = "runtime.NumGoroutine"), hcb]
   · refine (hi cv w hsz).mono ?_; rintro e u' w'' ⟨rfl, rfl, rfl⟩; exact ⟨v, h1, v, rfl, h2⟩
 cases e <;> simp only [fin] at h' <;> try exact h'.elim
 · exact key h'
 · exact key h'
end
end Go.Vc
/-
 DERIVED: THE SHELF's CONTRACTS AT THIS DUMP, IN PLAIN WORDS (tools/lay-plain.mjs out of 'YtcnjipikapiplaaGreatDoorShx.lean', which tools/lay-shelf.mjs wrote): THE SAME DECLARATIONS UNDER THE SAME NAMES: 'import', 'namespace', 'open', 'def', 'theorem' AND NOTHING ELSE: no command of the shelf's: FOR A HAND-IN. Each laying: the table of numbers ('.._ren') and one theorem, a field a fact of the dump's own or the kernel's comparison; each contract: ONE APPLICATION.
-/
namespace Go.Proofs
open Go.Shelf
def Tryz.lays197_ren : Go.Shelf.Ren := ⟨fun | 197 => 121 | 260 => 160 | n => n, fun | 9 => 9 | 21 => 21 | 3 => 3 | 4 => 4 | 5 => 5 | 105 => 198 | 119 => 275 | 0 => 0 | 46 => 146 | 139 => 278 | 138 => 277 | n => n, fun | 3 => 1 | 4 => 2 | n => n⟩
theorem Tryz.lays197 : Go.Proofs.Lays.n197 Tryz.prog Tryz.lays197_ren := {
 mixed := by kernel_rfl
 f197 := Tryz.func121.trans (congrArg some (by kernel_rfl))
 f260 := Tryz.func160.trans (congrArg some (by kernel_rfl))
 t0 := Tryz.underlying0
 a0 := Tryz.isAgg0
 z0 := Tryz.sizeOf0
 v0 := Tryz.zeroValue0
 t3 := Tryz.underlying3
 a3 := Tryz.isAgg3
 z3 := Tryz.sizeOf3
 v3 := Tryz.zeroValue3
 t4 := Tryz.underlying4
 a4 := Tryz.isAgg4
 z4 := Tryz.sizeOf4
 v4 := Tryz.zeroValue4
 t5 := Tryz.underlying5
 a5 := Tryz.isAgg5
 z5 := Tryz.sizeOf5
 v5 := Tryz.zeroValue5
 t9 := Tryz.underlying9
 a9 := Tryz.isAgg9
 z9 := Tryz.sizeOf9
 v9 := Tryz.zeroValue9
 t21 := Tryz.underlying21
 a21 := Tryz.isAgg21
 z21 := Tryz.sizeOf21
 v21 := Tryz.zeroValue21
 t46 := Tryz.underlying146
 a46 := Tryz.isAgg146
 z46 := Tryz.sizeOf146
 v46 := Tryz.zeroValue146
 t105 := Tryz.underlying198
 a105 := Tryz.isAgg198
 z105 := Tryz.sizeOf198
 v105 := Tryz.zeroValue198
 t119 := Tryz.underlying275
 a119 := Tryz.isAgg275
 z119 := Tryz.sizeOf275
 t138 := Tryz.underlying277
 a138 := Tryz.isAgg277
 z138 := Tryz.sizeOf277
 v138 := Tryz.zeroValue277
 t139 := Tryz.underlying278
 a139 := Tryz.isAgg278
 z139 := Tryz.sizeOf278
 v139 := Tryz.zeroValue278
 g3 := by kernel_rfl
 g4 := by kernel_rfl }
def Tryz.lays102_ren : Go.Shelf.Ren := ⟨fun | 102 => 21 | 209 => 48 | 207 => 85 | n => n, fun | 9 => 9 | 4 => 4 | 3 => 3 | n => n, fun | n => n⟩
theorem Tryz.lays102 : Go.Proofs.Lays.n102 Tryz.prog Tryz.lays102_ren := {
 mixed := by kernel_rfl
 f102 := Tryz.func21.trans (congrArg some (by kernel_rfl))
 f207 := Tryz.func85.trans (congrArg some (by kernel_rfl))
 f209 := Tryz.func48.trans (congrArg some (by kernel_rfl))
 t3 := Tryz.underlying3
 a3 := Tryz.isAgg3
 z3 := Tryz.sizeOf3
 v3 := Tryz.zeroValue3
 t4 := Tryz.underlying4
 a4 := Tryz.isAgg4
 z4 := Tryz.sizeOf4
 v4 := Tryz.zeroValue4
 t9 := Tryz.underlying9
 a9 := Tryz.isAgg9
 z9 := Tryz.sizeOf9
 v9 := Tryz.zeroValue9 }
def Tryz.lays137_ren : Go.Shelf.Ren := ⟨fun | 137 => 129 | 217 => 161 | 266 => 201 | n => n, fun | 9 => 9 | 5 => 5 | 3 => 3 | n => n, fun | n => n⟩
theorem Tryz.lays137 : Go.Proofs.Lays.n137 Tryz.prog Tryz.lays137_ren := {
 mixed := by kernel_rfl
 f137 := Tryz.func129.trans (congrArg some (by kernel_rfl))
 f217 := Tryz.func161.trans (congrArg some (by kernel_rfl))
 f266 := Tryz.func201.trans (congrArg some (by kernel_rfl))
 t3 := Tryz.underlying3
 a3 := Tryz.isAgg3
 z3 := Tryz.sizeOf3
 v3 := Tryz.zeroValue3
 t5 := Tryz.underlying5
 a5 := Tryz.isAgg5
 z5 := Tryz.sizeOf5
 v5 := Tryz.zeroValue5
 t9 := Tryz.underlying9
 a9 := Tryz.isAgg9
 z9 := Tryz.sizeOf9
 v9 := Tryz.zeroValue9 }
def Tryz.lays144_ren : Go.Shelf.Ren := ⟨fun | 144 => 91 | 143 => 84 | 219 => 123 | 217 => 161 | 225 => 162 | 224 => 163 | 267 => 164 | 266 => 201 | 314 => 202 | n => n, fun | 9 => 9 | 4 => 4 | 3 => 3 | 5 => 5 | 46 => 146 | 146 => 280 | 51 => 279 | n => n, fun | 1 => 0 | n => n⟩
theorem Tryz.lays144 : Go.Proofs.Lays.n144 Tryz.prog Tryz.lays144_ren := {
 mixed := by kernel_rfl
 f143 := Tryz.func84.trans (congrArg some (by kernel_rfl))
 f144 := Tryz.func91.trans (congrArg some (by kernel_rfl))
 f217 := Tryz.func161.trans (congrArg some (by kernel_rfl))
 f219 := Tryz.func123.trans (congrArg some (by kernel_rfl))
 f224 := Tryz.func163.trans (congrArg some (by kernel_rfl))
 f225 := Tryz.func162.trans (congrArg some (by kernel_rfl))
 f266 := Tryz.func201.trans (congrArg some (by kernel_rfl))
 f267 := Tryz.func164.trans (congrArg some (by kernel_rfl))
 f314 := Tryz.func202.trans (congrArg some (by kernel_rfl))
 t3 := Tryz.underlying3
 a3 := Tryz.isAgg3
 z3 := Tryz.sizeOf3
 v3 := Tryz.zeroValue3
 t4 := Tryz.underlying4
 a4 := Tryz.isAgg4
 z4 := Tryz.sizeOf4
 v4 := Tryz.zeroValue4
 t5 := Tryz.underlying5
 a5 := Tryz.isAgg5
 z5 := Tryz.sizeOf5
 v5 := Tryz.zeroValue5
 t9 := Tryz.underlying9
 a9 := Tryz.isAgg9
 z9 := Tryz.sizeOf9
 v9 := Tryz.zeroValue9
 t46 := Tryz.underlying146
 a46 := Tryz.isAgg146
 z46 := Tryz.sizeOf146
 v46 := Tryz.zeroValue146
 t51 := Tryz.underlying279
 a51 := Tryz.isAgg279
 z51 := Tryz.sizeOf279
 v51 := Tryz.zeroValue279
 t146 := Tryz.underlying280
 a146 := Tryz.isAgg280
 z146 := Tryz.sizeOf280
 v146 := Tryz.zeroValue280
 g1 := by kernel_rfl }
def Tryz.lays145_ren : Go.Shelf.Ren := ⟨fun | 145 => 93 | 220 => 128 | 219 => 123 | 217 => 161 | 225 => 162 | 224 => 163 | 267 => 164 | 266 => 201 | 314 => 202 | n => n, fun | 9 => 9 | 4 => 4 | 59 => 150 | 3 => 3 | 5 => 5 | 46 => 146 | 146 => 280 | 51 => 279 | n => n, fun | 1 => 0 | n => n⟩
theorem Tryz.lays145 : Go.Proofs.Lays.n145 Tryz.prog Tryz.lays145_ren := {
 mixed := by kernel_rfl
 f145 := Tryz.func93.trans (congrArg some (by kernel_rfl))
 f217 := Tryz.func161.trans (congrArg some (by kernel_rfl))
 f219 := Tryz.func123.trans (congrArg some (by kernel_rfl))
 f220 := Tryz.func128.trans (congrArg some (by kernel_rfl))
 f224 := Tryz.func163.trans (congrArg some (by kernel_rfl))
 f225 := Tryz.func162.trans (congrArg some (by kernel_rfl))
 f266 := Tryz.func201.trans (congrArg some (by kernel_rfl))
 f267 := Tryz.func164.trans (congrArg some (by kernel_rfl))
 f314 := Tryz.func202.trans (congrArg some (by kernel_rfl))
 t3 := Tryz.underlying3
 a3 := Tryz.isAgg3
 z3 := Tryz.sizeOf3
 v3 := Tryz.zeroValue3
 t4 := Tryz.underlying4
 a4 := Tryz.isAgg4
 z4 := Tryz.sizeOf4
 v4 := Tryz.zeroValue4
 t5 := Tryz.underlying5
 a5 := Tryz.isAgg5
 z5 := Tryz.sizeOf5
 v5 := Tryz.zeroValue5
 t9 := Tryz.underlying9
 a9 := Tryz.isAgg9
 z9 := Tryz.sizeOf9
 v9 := Tryz.zeroValue9
 t46 := Tryz.underlying146
 a46 := Tryz.isAgg146
 z46 := Tryz.sizeOf146
 v46 := Tryz.zeroValue146
 t51 := Tryz.underlying279
 a51 := Tryz.isAgg279
 z51 := Tryz.sizeOf279
 v51 := Tryz.zeroValue279
 t59 := Tryz.underlying150
 a59 := Tryz.isAgg150
 z59 := Tryz.sizeOf150
 v59 := Tryz.zeroValue150
 t146 := Tryz.underlying280
 a146 := Tryz.isAgg280
 z146 := Tryz.sizeOf280
 v146 := Tryz.zeroValue280
 g1 := by kernel_rfl }
def Tryz.lays146_ren : Go.Shelf.Ren := ⟨fun | 146 => 20 | 221 => 47 | 268 => 82 | 138 => 83 | 143 => 84 | 195 => 120 | 197 => 121 | 218 => 122 | 219 => 123 | 260 => 160 | 217 => 161 | 225 => 162 | 224 => 163 | 267 => 164 | 266 => 201 | 314 => 202 | n => n, fun | 9 => 9 | 31 => 25 | 3 => 3 | 4 => 4 | 0 => 0 | 105 => 198 | 21 => 21 | 5 => 5 | 46 => 146 | 119 => 275 | 139 => 278 | 138 => 277 | 146 => 280 | 51 => 279 | n => n, fun | 1 => 0 | 3 => 1 | 4 => 2 | n => n⟩
theorem Tryz.lays146 : Go.Proofs.Lays.n146 Tryz.prog Tryz.lays146_ren := {
 mixed := by kernel_rfl
 f138 := Tryz.func83.trans (congrArg some (by kernel_rfl))
 f143 := Tryz.func84.trans (congrArg some (by kernel_rfl))
 f146 := Tryz.func20.trans (congrArg some (by kernel_rfl))
 f195 := Tryz.func120.trans (congrArg some (by kernel_rfl))
 f197 := Tryz.func121.trans (congrArg some (by kernel_rfl))
 f217 := Tryz.func161.trans (congrArg some (by kernel_rfl))
 f218 := Tryz.func122.trans (congrArg some (by kernel_rfl))
 f219 := Tryz.func123.trans (congrArg some (by kernel_rfl))
 f221 := Tryz.func47.trans (congrArg some (by kernel_rfl))
 f224 := Tryz.func163.trans (congrArg some (by kernel_rfl))
 f225 := Tryz.func162.trans (congrArg some (by kernel_rfl))
 f260 := Tryz.func160.trans (congrArg some (by kernel_rfl))
 f266 := Tryz.func201.trans (congrArg some (by kernel_rfl))
 f267 := Tryz.func164.trans (congrArg some (by kernel_rfl))
 f268 := Tryz.func82.trans (congrArg some (by kernel_rfl))
 f314 := Tryz.func202.trans (congrArg some (by kernel_rfl))
 t0 := Tryz.underlying0
 a0 := Tryz.isAgg0
 z0 := Tryz.sizeOf0
 v0 := Tryz.zeroValue0
 t3 := Tryz.underlying3
 a3 := Tryz.isAgg3
 z3 := Tryz.sizeOf3
 v3 := Tryz.zeroValue3
 t4 := Tryz.underlying4
 a4 := Tryz.isAgg4
 z4 := Tryz.sizeOf4
 v4 := Tryz.zeroValue4
 t5 := Tryz.underlying5
 a5 := Tryz.isAgg5
 z5 := Tryz.sizeOf5
 v5 := Tryz.zeroValue5
 t9 := Tryz.underlying9
 a9 := Tryz.isAgg9
 z9 := Tryz.sizeOf9
 v9 := Tryz.zeroValue9
 t21 := Tryz.underlying21
 a21 := Tryz.isAgg21
 z21 := Tryz.sizeOf21
 v21 := Tryz.zeroValue21
 t31 := Tryz.underlying25
 a31 := Tryz.isAgg25
 z31 := Tryz.sizeOf25
 v31 := Tryz.zeroValue25
 t46 := Tryz.underlying146
 a46 := Tryz.isAgg146
 z46 := Tryz.sizeOf146
 v46 := Tryz.zeroValue146
 t51 := Tryz.underlying279
 a51 := Tryz.isAgg279
 z51 := Tryz.sizeOf279
 v51 := Tryz.zeroValue279
 t105 := Tryz.underlying198
 a105 := Tryz.isAgg198
 z105 := Tryz.sizeOf198
 v105 := Tryz.zeroValue198
 t119 := Tryz.underlying275
 a119 := Tryz.isAgg275
 z119 := Tryz.sizeOf275
 t138 := Tryz.underlying277
 a138 := Tryz.isAgg277
 z138 := Tryz.sizeOf277
 v138 := Tryz.zeroValue277
 t139 := Tryz.underlying278
 a139 := Tryz.isAgg278
 z139 := Tryz.sizeOf278
 v139 := Tryz.zeroValue278
 t146 := Tryz.underlying280
 a146 := Tryz.isAgg280
 z146 := Tryz.sizeOf280
 v146 := Tryz.zeroValue280
 g1 := by kernel_rfl
 g3 := by kernel_rfl
 g4 := by kernel_rfl }
def Tryz.lays156_ren : Go.Shelf.Ren := ⟨fun | 156 => 24 | 165 => 50 | 166 => 44 | 169 => 46 | 240 => 81 | 241 => 86 | 276 => 119 | 277 => 124 | n => n, fun | 31 => 25 | 9 => 9 | 3 => 3 | 4 => 4 | 0 => 0 | 20 => 20 | 72 => 91 | 76 => 94 | 70 => 89 | 37 => 82 | 75 => 93 | 127 => 142 | 164 => 196 | 5 => 5 | 80 => 97 | n => n, fun | n => n⟩
theorem Tryz.lays156 : Go.Proofs.Lays.n156 Tryz.prog Tryz.lays156_ren := {
 mixed := by kernel_rfl
 f156 := Tryz.func24.trans (congrArg some (by kernel_rfl))
 f165 := Tryz.func50.trans (congrArg some (by kernel_rfl))
 f166 := Tryz.func44.trans (congrArg some (by kernel_rfl))
 f169 := Tryz.func46.trans (congrArg some (by kernel_rfl))
 f240 := Tryz.func81.trans (congrArg some (by kernel_rfl))
 f241 := Tryz.func86.trans (congrArg some (by kernel_rfl))
 f276 := Tryz.func119.trans (congrArg some (by kernel_rfl))
 f277 := Tryz.func124.trans (congrArg some (by kernel_rfl))
 t0 := Tryz.underlying0
 a0 := Tryz.isAgg0
 z0 := Tryz.sizeOf0
 v0 := Tryz.zeroValue0
 t3 := Tryz.underlying3
 a3 := Tryz.isAgg3
 z3 := Tryz.sizeOf3
 v3 := Tryz.zeroValue3
 t4 := Tryz.underlying4
 a4 := Tryz.isAgg4
 z4 := Tryz.sizeOf4
 v4 := Tryz.zeroValue4
 t9 := Tryz.underlying9
 a9 := Tryz.isAgg9
 z9 := Tryz.sizeOf9
 v9 := Tryz.zeroValue9
 t20 := Tryz.underlying20
 a20 := Tryz.isAgg20
 z20 := Tryz.sizeOf20
 v20 := Tryz.zeroValue20
 t31 := Tryz.underlying25
 a31 := Tryz.isAgg25
 z31 := Tryz.sizeOf25
 v31 := Tryz.zeroValue25
 t37 := Tryz.underlying82
 a37 := Tryz.isAgg82
 z37 := Tryz.sizeOf82
 v37 := Tryz.zeroValue82
 t70 := Tryz.underlying89
 a70 := Tryz.isAgg89
 z70 := Tryz.sizeOf89
 v70 := Tryz.zeroValue89
 t72 := Tryz.underlying91
 a72 := Tryz.isAgg91
 z72 := Tryz.sizeOf91
 v72 := Tryz.zeroValue91
 t75 := Tryz.underlying93
 a75 := Tryz.isAgg93
 z75 := Tryz.sizeOf93
 v75 := Tryz.zeroValue93
 t76 := Tryz.underlying94
 a76 := Tryz.isAgg94
 z76 := Tryz.sizeOf94
 v76 := Tryz.zeroValue94
 t127 := Tryz.underlying142
 a127 := Tryz.isAgg142
 z127 := Tryz.sizeOf142
 v127 := Tryz.zeroValue142
 t164 := Tryz.underlying196
 a164 := Tryz.isAgg196
 z164 := Tryz.sizeOf196
 v164 := Tryz.zeroValue196 }
end Go.Proofs
/- More rules for nodes: unsigned numbers. No program in sight. -/
namespace Go.Vc
variable {P : Program} {w : World} {L : List HProp}
theorem r_andU8 {s t : Nat} {K : Value → Prop} (hs : s < 256) (ht : t < 256) (h : K (.int .u8 ((s &&& t : Nat) : Int))) : Bp .and (.int .u8 (s : Int)) (.int .u8 (t : Int)) K := by
 refine ⟨_, ?_, h⟩; have hb : IntKind.u8.bits = 8 := rfl; have hx : s &&& t ≤ s := Nat.and_le_left; simp only [bp, if_true]; rw [hb, BitVec.toNat_and, BitVec.toNat_ofInt, BitVec.toNat_ofInt]
 have e1 : ((s : Int) % ((2 ^ 8 : Nat) : Int)).toNat = s := by omega
 have e2 : ((t : Int) % ((2 ^ 8 : Nat) : Int)).toNat = t := by omega
 rw [e1, e2, wrapU8 (by omega) (by omega)]
theorem r_subU8 {s t : Nat} {K : Value → Prop} (h0 : t ≤ s) (h1 : s < 256) (h : K (.int .u8 ((s - t : Nat) : Int))) : Bp .sub (.int .u8 (s : Int)) (.int .u8 (t : Int)) K := by
 refine ⟨_, ?_, h⟩; simp only [bp, if_true]; rw [show (s : Int) - (t : Int) = ((s - t : Nat) : Int) by omega, wrapU8 (by omega) (by omega)]

def live : List (Option HProp) → List HProp
 | [] => []
 | none :: M => live M
 | some P :: M => P :: live M
def dead : List (Option HProp) → Nat → List (Option HProp)
 | [], _ => []
 | _ :: M, 0 => none :: M
 | x :: M, i + 1 => x :: dead M i
def sel : List Nat → List (Option HProp) → Option (List HProp)
 | [], _ => some []
 | i :: is, M => match M[i]? with
   | some (some P) => (match sel is (dead M i) with
     | some R => some (P :: R)
     | none => none)
   | _ => none
theorem set_back {i j : Nat} {X Y Q : HProp} (hij : i ≠ j) (hj : L[j]? = some Q) : ((L.set j X).set i Y).set j Q = L.set i Y := by
 have e : L.set j Q = L := by
   have hl : j < L.length := (List.getElem?_eq_some_iff.1 hj).1; have h2 : L[j] = Q := (List.getElem?_eq_some_iff.1 hj).2; rw [← h2, List.set_getElem_self]
 have e1 : (L.set j X).set i Y = (L.set i Y).set j X := List.set_comm _ _ (Ne.symm hij); have e2 : (L.set i Y).set j Q = (L.set j Q).set i Y := List.set_comm _ _ hij; rw [e1, List.set_set, e2, e]
theorem r_apS {α : Type} {t e : TypeId} {z : Value} [hr : Row P t e z] (H : Holds w L) (i j : Nat) (hij : i ≠ j) {f : α → Value} {v v2 : Value} {xs ys : List α} {ty : TypeId} {K : Value → World → Prop}
   (hi : L[i]? = some (SL f e v xs)) (hj : L[j]? = some (SL f e v2 ys)) (hs : ∀ y, sg (f y) = true) (hn : xs.length + ys.length ≤ 1099511627776)
   (h : ∀ v' w', Same w w' → Holds w' (L.set i (SL f e v' (xs ++ ys))) → K v' w') : Ap P #[t, t] ty #[v, v2] w K := by
 obtain ⟨inf, hinf, hsz, hby, hzz⟩ := hr.inf
 have nothing : ys = [] → (∃ oa c, v2 = .slice oa 0 c) → Ap P #[t, t] ty #[v, v2] w K := by
   rintro rfl ⟨oa2, c2, rfl⟩; obtain ⟨oa, sp, rfl, _⟩ := H.open i hi
   have hsrc : Src P inf.size t (.slice oa2 0 c2) 0 [] w := by
     cases oa2 with
     | none => exact Src.ofNil w hr.und c2
     | some a => exact Src.ofSlice w hr.und a 0 c2 [] (by simp) (fun j u hu => by simp at hu) (fun _ h => by cases h)
   refine ⟨_, _, run_append_nothing w t t ty e inf hr.und hinf oa xs.length (xs.length + sp.length) (by omega) _ hsrc, h _ _ (.refl _) ?_⟩
   rw [List.append_nil, show L.set i (SL f e (.slice oa xs.length (xs.length + sp.length)) xs) = L from by
     have hl : i < L.length := (List.getElem?_eq_some_iff.1 hi).1; have e1 : L[i] = _ := (List.getElem?_eq_some_iff.1 hi).2
     rw [← e1, List.set_getElem_self]]
   exact H
 obtain ⟨oa2, sp2, rfl, H1⟩ := H.open j hj
 cases oa2 with
 | none =>
   obtain ⟨g, ⟨h2, _⟩, _⟩ := H1.front j (set_get hj); exact nothing h2 ⟨_, _, by rw [h2]; rfl⟩
 | some a =>
   obtain ⟨g, ⟨h2, h3, _⟩, _⟩ := H1.front j (set_get hj); obtain ⟨b2, o, s⟩ := a; simp only at h2 h3; subst h2; subst h3
   by_cases hy : ys = []
   · exact nothing hy ⟨_, _, by rw [hy]; rfl⟩
   · have hy0 : 0 < ys.length := List.length_pos_iff.2 hy; have H2 := H1.slb j (set_get hj); rw [List.set_set] at H2
     have hi2 : (L.set j (blk b2 e (ys.map f ++ sp2)))[i]? = some (SL f e v xs) := by rw [List.getElem?_set_ne (Ne.symm hij)]; exact hi
     obtain ⟨oa, sp, rfl, H3⟩ := H2.open i hi2; refine r_ap (f := f) (ys := ys) H3 i j (xs := xs) (sp := sp) (set_get hi2) (by rw [List.getElem?_set_ne hij]; exact set_get hj) (by simp) rfl rfl rfl hs hn hy0 fun oa' sp' w4 S4 H4 => ?_; rw [List.set_set] at H4; have hi3 : (L.set j (blk b2 e (ys.map f ++ sp2)))[i]? = some (SL f e (.slice oa xs.length (xs.length + sp.length)) xs) := hi2; have H5 := H4.close i (set_get hi3); rw [List.set_set] at H5; have H6 := H5.at j (Q := SL f e (.slice (some ⟨b2, 0, none⟩) ys.length (ys.length + sp2.length)) ys) (by rw [List.getElem?_set_ne hij]; exact set_get hj) fun g hg => ⟨some ⟨b2, 0, none⟩, sp2, rfl, rfl, rfl, hg⟩; rw [set_back hij hj] at H6
     have e1 : xs.length + ys.length = (xs ++ ys).length := by simp
     rw [e1]; exact h _ _ S4 H6
theorem r_shlI {a n : Nat} {k' : IntKind} {K : Value → Prop} (hn : n ≤ 64) (h1 : a * 2 ^ n < 9223372036854775808) (h : K (.int .i64 ((a * 2 ^ n : Nat) : Int))) : Bp .shl (.int .i64 (a : Int)) (.int k' (n : Int)) K := by
 refine ⟨_, ?_, h⟩; have hb : IntKind.i64.bits = 64 := rfl; simp only [bp]; rw [if_neg (by omega), Int.toNat_natCast, hb, Nat.min_eq_left hn]
 have e : (a : Int) * 2 ^ n = ((a * 2 ^ n : Nat) : Int) := by simp
 rw [e, wrap64 (by omega) (by omega)]
theorem r_lnS {α : Type} (i : Nat) (H : Holds w L) {f : α → Value} {e : TypeId} {v : Value} {xs : List α} {K : Value → Prop} (hi : L[i]? = some (SL f e v xs)) (h : K (nv xs.length)) : Lnl v K := by
 obtain ⟨oa, sp, rfl, _⟩ := H.open i hi; exact r_lnl h
theorem r_getS {α : Type} (i : Nat) (H : Holds w L) {f : α → Value} {e : TypeId} {v : Value} {xs : List α} {k : IntKind} {j : Nat} {x : α} {K : Value → Prop} (hi : L[i]? = some (SL f e v xs)) (hx : xs[j]? = some x) (h : K (f x)) :
   Ias 1 v (.int k (j : Int)) fun p => Ld p w K := by
 obtain ⟨oa, sp, rfl, H1⟩ := H.open i hi; have hj : j < xs.length := (List.getElem?_eq_some_iff.1 hx).1; refine r_iasN i H1 (set_get hi) hj (Nat.le_refl _) fun b hb => ?_; subst hb; exact r_ldsl i H1 (set_get hi) hx h
theorem SL_sg {α : Type} {f : α → Value} {e : TypeId} {v : Value} {xs : List α} (H : Holds w L) (i : Nat) (hi : L[i]? = some (SL f e v xs)) : sg v = true := by
 obtain ⟨oa, sp, rfl, _⟩ := H.open i hi; rfl
end Go.Vc
/- Rules for rows that are read wherever they lie. No program in sight but the engine's. -/
namespace Go.Proofs.YtcnjipikapiplaaGreatDoor
open Go Go.Vc
namespace S4r
section
variable {α : Type} {P : Program} {w : World} {L : List HProp}
def InG (F : α → List Value) (k : Nat) (L : List HProp) (a : Option Addr) (xs : List α) : Prop :=
 ∀ w', Holds w' L → ∀ i x, xs[i]? = some x → ∃ p : Addr, a = some p ∧ ∀ j v, (F x)[j]? = some v → w'.cell? ((p.add (i * k)).add j) = some v
theorem InG.up {F : α → List Value} {k : Nat} {a : Option Addr} {xs : List α} {Q : HProp} (h : InG F k L a xs) : InG F k (Q :: L) a xs := fun w' H => h w' H.drop
theorem r_ldG {F : α → List Value} {k : Nat} {a : Option Addr} {xs : List α} {x : α} {i l c : Nat} {q : IntKind} {K : Value → Prop} (hT : InG F k L a xs) (H : Holds w L) (hx : xs[i]? = some x) (hk : (F x).length = k) (hi : i < l) (h : K (.agg (F x).toArray)) :
   Ias k (.slice a l c) (.int q (i : Int)) fun y => LdA k y w K := by
 obtain ⟨p, rfl, hc⟩ := hT w H i x hx; refine r_iasP hi ?_; refine r_ldAP (cs := (F x).toArray) (by simpa using hk) (fun j v hv => hc j v (by simpa using hv)) h
theorem InG.own {F : α → List Value} {k : Nat} {e : TypeId} {oa : Option Addr} {n c : Nat} {xs : List α} (i : Nat) (hi : L[i]? = some (RW F k e (.slice oa n c) xs)) (hF : ∀ x, (F x).length = k) : InG F k L oa xs := by
 intro w' H' q x hx; obtain ⟨oa', m, sp, hv, H1⟩ := H'.openRW i hi; cases hv; have hlt : q < xs.length := (List.getElem?_eq_some_iff.1 hx).1; obtain ⟨b, rfl, hsp, Hb⟩ := H1.rwb i (set_get hi) (.inl (by omega)); refine ⟨⟨b, 0, none⟩, rfl, fun j v hj => ?_⟩
 have hjk : j < k := by have := (List.getElem?_eq_some_iff.1 hj).1; rw [hF] at this; exact this
 have h1 := flatL_get hF xs q x hx
 have h2 : (flatL F xs)[q * k + j]? = some v := by
   have : ((flatL F xs).drop (q * k)).take k = F x := h1; rw [← this, List.getElem?_take_of_lt hjk, List.getElem?_drop] at hj; exact hj
 rw [Addr.add_add]
 have e1 : (⟨b, 0, none⟩ : Addr).add (q * k + j) = ⟨b, q * k + j, none⟩ := by
   unfold Addr.add; split
   · rename_i h; rw [h]
   · simp
 rw [e1, Hb.cell i (by rw [List.set_set]; exact set_get hi) (q * k + j), List.getElem?_append_left (List.getElem?_eq_some_iff.1 h2).1]; exact h2
end
end S4r
end Go.Proofs.YtcnjipikapiplaaGreatDoor
/- Chapter 42, plain: digits, hex digits, words and lines, and how texts are cut at a byte. No program in sight. -/
namespace Go.Tx
open Go.M31
def dig (n : Nat) : List UInt8 := if n < 10 then [UInt8.ofNat (48 + n)] else dig (n / 10) ++ [UInt8.ofNat (48 + n % 10)]
termination_by n
theorem dig_small {n : Nat} (h : n < 10) : dig n = [UInt8.ofNat (48 + n)] := by rw [dig, if_pos h]
theorem dig_big {n : Nat} (h : ¬ n < 10) : dig n = dig (n / 10) ++ [UInt8.ofNat (48 + n % 10)] := by rw [dig, if_neg h]
theorem u8_nat {n : Nat} (h : n < 256) : (UInt8.ofNat n).toNat = n := by simp; omega
theorem dig_mem (n : Nat) : ∀ b ∈ dig n, 48 ≤ b.toNat ∧ b.toNat ≤ 57 := by
 induction n using Nat.strongRecOn with
 | ind n ih =>
   intro b hb
   by_cases h : n < 10
   · rw [dig_small h, List.mem_singleton] at hb; subst hb; rw [u8_nat (by omega)]; omega
   · rw [dig_big h] at hb; rcases List.mem_append.1 hb with hb | hb
     · exact ih _ (by omega) b hb
     · rw [List.mem_singleton] at hb; subst hb; rw [u8_nat (by omega)]; omega
theorem dig_pos (n : Nat) : 0 < (dig n).length := by
 by_cases h : n < 10
 · rw [dig_small h]; simp
 · rw [dig_big h]; simp
theorem dig_len (k : Nat) : ∀ n, n < 10 ^ (k + 1) → (dig n).length ≤ k + 1 := by
 induction k with
 | zero =>
   intro n h; rw [dig_small (by simpa using h)]; simp
 | succ k ih =>
   intro n h
   by_cases hs : n < 10
   · rw [dig_small hs]; simp
   · rw [dig_big hs, List.length_append, List.length_singleton]; have := ih (n / 10) (by rw [Nat.pow_succ] at h; omega); omega
def undig (l : List UInt8) : Nat := l.foldl (fun n b => 10 * n + (b.toNat - 48)) 0
theorem undig_snoc (l : List UInt8) (b : UInt8) : undig (l ++ [b]) = 10 * undig l + (b.toNat - 48) := by
 unfold undig; rw [List.foldl_append]; rfl
theorem undig_dig (n : Nat) : undig (dig n) = n := by
 induction n using Nat.strongRecOn with
 | ind n ih =>
   by_cases h : n < 10
   · rw [dig_small h]; show 10 * 0 + ((UInt8.ofNat (48 + n)).toNat - 48) = n; rw [u8_nat (by omega)]; omega
   · rw [dig_big h, undig_snoc, ih _ (by omega), u8_nat (by omega)]; omega
theorem undig_take {l : List UInt8} {i : Nat} {b : UInt8} (h : l[i]? = some b) : undig (l.take (i + 1)) = 10 * undig (l.take i) + (b.toNat - 48) := by
 rw [List.take_add_one, h]; exact undig_snoc _ _
theorem undig_lt (l : List UInt8) (h : ∀ b ∈ l, b.toNat ≤ 57) : undig l < 10 ^ l.length := by
 obtain ⟨m, rfl⟩ : ∃ m, l = m.reverse := ⟨l.reverse, by simp⟩
 induction m with
 | nil => simp [undig]
 | cons b m ih =>
   rw [List.reverse_cons] at h ⊢; rw [undig_snoc, List.length_append, List.length_singleton, Nat.pow_succ]; have h1 := ih fun c hc => h c (List.mem_append_left _ hc); have h2 := h b (by simp); omega
def hx (n : Nat) : UInt8 := UInt8.ofNat (if n < 10 then 48 + n else 87 + n)
def hexL : List UInt8 → List UInt8
 | [] => []
 | b :: r => hx (b.toNat / 16) :: hx (b.toNat % 16) :: hexL r
def hexed (s : List UInt8) : List UInt8 := if s = [] then [45] else hexL s
theorem hexL_len : ∀ s, (hexL s).length = 2 * s.length
 | [] => rfl
 | b :: r => by rw [hexL, List.length_cons, List.length_cons, hexL_len r, List.length_cons]; omega
theorem hexL_app : ∀ s t, hexL (s ++ t) = hexL s ++ hexL t
 | [], _ => rfl
 | b :: r, t => by rw [List.cons_append, hexL, hexL, hexL_app r t]; rfl
theorem hx_nat {n : Nat} (h : n < 16) : (hx n).toNat = if n < 10 then 48 + n else 87 + n := by
 unfold hx
 split <;> exact u8_nat (by omega)
theorem hexL_get : ∀ (s : List UInt8) (i : Nat) (b : UInt8), s[i]? = some b → (hexL s)[2 * i]? = some (hx (b.toNat / 16)) ∧ (hexL s)[2 * i + 1]? = some (hx (b.toNat % 16))
 | [], _, _, h => by cases h
 | c :: r, 0, b, h => by
   cases h; exact ⟨rfl, rfl⟩
 | c :: r, i + 1, b, h => by
   have := hexL_get r i b (by simpa using h); rw [show 2 * (i + 1) = (2 * i) + 1 + 1 by omega, hexL]; simpa using this
theorem hexL_mem : ∀ (s : List UInt8), ∀ b ∈ hexL s, 48 ≤ b.toNat ∧ b.toNat ≤ 102 ∧ b.toNat ≠ 58
 | [], b, h => by cases h
 | c :: r, b, h => by
   have hc := c.toNat_lt
   have key : ∀ n, n < 16 → 48 ≤ (hx n).toNat ∧ (hx n).toNat ≤ 102 ∧ (hx n).toNat ≠ 58 := by
     intro n hn; rw [hx_nat hn]
     split <;> omega
   rw [hexL] at h; rcases List.mem_cons.1 h with rfl | h
   · exact key _ (by omega)
   · rcases List.mem_cons.1 h with rfl | h
     · exact key _ (by omega)
     · exact hexL_mem r b h
theorem hexed_mem (s : List UInt8) : ∀ b ∈ hexed s, 45 ≤ b.toNat ∧ b.toNat ≤ 102 ∧ b.toNat ≠ 58 := by
 unfold hexed; split
 · intro b hb; rw [List.mem_singleton] at hb; subst hb; decide
 · intro b hb; have := hexL_mem s b hb; omega
theorem hexed_len (s : List UInt8) : (hexed s).length ≤ 2 * s.length + 1 := by
 unfold hexed; split
 · simp
 · rw [hexL_len]; omega
def nums (l : List Nat) : List UInt8 := l.flatMap fun n => 32 :: dig n
def wd (w : List UInt8) (l : List Nat) : List UInt8 := w ++ nums l
theorem nums_app (l : List Nat) (n : Nat) : nums (l ++ [n]) = nums l ++ (32 :: dig n) := by
 unfold nums; rw [List.flatMap_append]; simp
theorem index_cut (c : UInt8) : ∀ (a b : List UInt8), (∀ x ∈ a, x ≠ c) → Lib.index (a ++ c :: b) [c] = a.length := by
 intro a b h; refine Lib.index_first (i := a.length) (by simp) (by simp [Lib.occAt]) ?_; intro j hj
 cases ho : Lib.occAt (a ++ c :: b) [c] j with
 | false => rfl
 | true =>
   have := Lib.occAt_head (t := []) rfl ho; rw [List.getElem?_append_left hj] at this; exact absurd rfl (h c (List.mem_of_getElem? this))
theorem index_miss (c : UInt8) (a : List UInt8) (h : ∀ x ∈ a, x ≠ c) : Lib.index a [c] = -1 := by
 refine Lib.index_none fun j hj => ?_
 cases ho : Lib.occAt a [c] j with
 | false => rfl
 | true =>
   have := Lib.occAt_head (t := []) rfl ho; exact absurd rfl (h c (List.mem_of_getElem? this))
theorem splitK_end (c : UInt8) (a : List UInt8) (h : ∀ x ∈ a, x ≠ c) (k : Nat) : Lib.splitK [c] 0 k a = [a] := by
 cases k with
 | zero => rfl
 | succ k => rw [Lib.splitK, if_pos (by rw [index_miss c a h]; rfl)]
theorem splitK_next (c : UInt8) (a b : List UInt8) (h : ∀ x ∈ a, x ≠ c) (k : Nat) : Lib.splitK [c] 0 (k + 1) (a ++ c :: b) = a :: Lib.splitK [c] 0 k b := by
 rw [Lib.splitK, index_cut c a b h, if_neg (by intro e; have := beq_iff_eq.1 e; omega)]
 congr 1
 · simp
 · congr 1
   rw [Int.toNat_natCast, List.length_singleton, List.drop_append]; simp
def joinC (c : UInt8) : List (List UInt8) → List UInt8
 | [] => []
 | [a] => a
 | a :: b :: r => a ++ c :: joinC c (b :: r)
theorem count_none (c : UInt8) (a : List UInt8) (h : ∀ x ∈ a, x ≠ c) : a.count c = 0 := by
 rw [List.count_eq_zero]; exact fun hc => h c hc rfl
theorem split_join (c : UInt8) : ∀ (l : List (List UInt8)), l ≠ [] → (∀ a ∈ l, ∀ x ∈ a, x ≠ c) → Lib.split (joinC c l) [c] = l
 | [], h, _ => absurd rfl h
 | [a], _, h => by
   unfold Lib.split; exact splitK_end c a (h a (List.mem_singleton_self a)) _
 | a :: b :: r, _, h => by
   have ha := h a (List.mem_cons_self ..)
   have hc : Lib.count (a ++ c :: joinC c (b :: r)) [c] = Lib.count (joinC c (b :: r)) [c] + 1 := by
     rw [Lib.count_one, Lib.count_one, List.count_append, count_none c a ha, List.count_cons_self]; omega
   have ih := split_join c (b :: r) (by simp) fun x hx => h x (List.mem_cons_of_mem _ hx); unfold Lib.split at ih ⊢; rw [joinC, hc, splitK_next c a _ ha, ih]
def endC (c : UInt8) (l : List (List UInt8)) : List UInt8 := l.flatMap fun a => a ++ [c]
theorem endC_app (c : UInt8) (l : List (List UInt8)) (a : List UInt8) : endC c (l ++ [a]) = endC c l ++ a ++ [c] := by
 unfold endC; rw [List.flatMap_append]; simp
theorem endC_join (c : UInt8) : ∀ (l : List (List UInt8)), endC c l = joinC c (l ++ [[]])
 | [] => rfl
 | a :: r => by
   have e : endC c (a :: r) = a ++ c :: endC c r := by unfold endC; simp
   rw [e, endC_join c r]
   cases r with
   | nil => rfl
   | cons b r => rfl
theorem endC_joinC (c : UInt8) : ∀ (l : List (List UInt8)), l ≠ [] → endC c l = joinC c l ++ [c]
 | [], h => absurd rfl h
 | [a], _ => by unfold endC joinC; simp
 | a :: b :: r, _ => by
   have e : endC c (a :: b :: r) = a ++ c :: endC c (b :: r) := by unfold endC; simp
   rw [e, endC_joinC c (b :: r) (by simp), joinC]; simp
theorem split_end (c : UInt8) (l : List (List UInt8)) (h : ∀ a ∈ l, ∀ x ∈ a, x ≠ c) : Lib.split (endC c l) [c] = l ++ [[]] := by
 rw [endC_join]; refine split_join c _ (by simp) fun a ha => ?_; rcases List.mem_append.1 ha with ha | ha
 · exact h a ha
 · rw [List.mem_singleton] at ha; subst ha; intro x hx; cases hx
theorem wd_join (w : List UInt8) : ∀ (l : List Nat), wd w l = joinC 32 (w :: l.map dig)
 | [] => by simp [wd, nums, joinC]
 | n :: l => by
   have e : wd w (n :: l) = w ++ 32 :: wd (dig n) l := by unfold wd nums; simp
   rw [e, wd_join (dig n) l]; rfl
theorem wd_split (w : List UInt8) (l : List Nat) (h : ∀ x ∈ w, x ≠ 32) : Lib.split (wd w l) [32] = w :: l.map dig := by
 rw [wd_join]; refine split_join 32 _ (by simp) fun a ha => ?_; rcases List.mem_cons.1 ha with rfl | ha
 · exact h
 · obtain ⟨n, _, rfl⟩ := List.mem_map.1 ha; intro x hx hc; have := dig_mem n x hx; subst hc; exact absurd this (by decide)
theorem cut_hit (c : UInt8) (a b : List UInt8) (h : ∀ x ∈ a, x ≠ c) : Lib.cut (a ++ c :: b) [c] = (a, b, true) := by
 unfold Lib.cut; rw [index_cut c a b h, if_pos (by omega)]; simp
theorem word_byte : ∀ (k : Nat) (l : List UInt8), l.length ≤ k → (∀ r ∈ runes l, mayR r.1) → ∀ b ∈ l, 32 < b.toNat ∧ b.toNat ≠ 58 := by
 intro k
 induction k with
 | zero =>
   intro l hl _ b hb; have : l = [] := List.eq_nil_of_length_eq_zero (by omega); subst this; cases hb
 | succ k ih =>
   intro l hl h b hb; have hp : 0 < l.length := List.length_pos_of_mem hb; rw [runes_cons hp] at h; have h1 := h _ (List.mem_cons_self ..); have hf := first_bytes l; have hr := ih (l.drop (first l).2) (by rw [List.length_drop]; omega) fun r hr => h r (List.mem_cons_of_mem _ hr); have hsp : l = l.take (first l).2 ++ l.drop (first l).2 := (List.take_append_drop ..).symm; rw [hsp] at hb; rcases List.mem_append.1 hb with hb | hb
   · obtain ⟨i, hi⟩ := List.getElem?_of_mem hb
     have hil : i < (first l).2 := by
       have := (List.getElem?_eq_some_iff.1 hi).1; rw [List.length_take] at this; omega
     rw [List.getElem?_take, if_pos hil] at hi
     have hby : byt l i = b.toNat := by unfold byt; rw [List.getD_eq_getElem?_getD, hi]; rfl
     rcases first_spec l with ⟨hlt, e⟩ | e | ⟨r1, r2, hz, e⟩ | ⟨r1, r2, hz, e⟩ | ⟨r1, r2, hz, e⟩
     · rw [e] at h1 hil
       obtain rfl : i = 0 := by simp at hil; omega
       unfold mayR at h1; simp only at h1; omega
     · rw [e] at h1; unfold mayR at h1; simp only at h1; omega
     · obtain ⟨g1, n, _, _, e2⟩ := wide2_spec l hz; rw [e, e2] at hil; have := (goesOn_iff l 1).1 g1
       have : i = 0 ∨ i = 1 := by simp at hil; omega
       rcases this with rfl | rfl <;> omega
     · obtain ⟨g1, g2, n, _, _, _, _, e2⟩ := wide3_spec l hz; rw [e, e2] at hil; have := (goesOn_iff l 1).1 g1; have := (goesOn_iff l 2).1 g2
       have : i = 0 ∨ i = 1 ∨ i = 2 := by simp at hil; omega
       rcases this with rfl | rfl | rfl <;> omega
     · obtain ⟨g1, g2, g3, n, _, _, _, _, e2⟩ := wide4_spec l hz; rw [e, e2] at hil; have := (goesOn_iff l 1).1 g1; have := (goesOn_iff l 2).1 g2; have := (goesOn_iff l 3).1 g3
       have : i = 0 ∨ i = 1 ∨ i = 2 ∨ i = 3 := by simp at hil; omega
       rcases this with rfl | rfl | rfl | rfl <;> omega
   · exact hr b hb
theorem word_bytes {l : List UInt8} (h : word l) : ∀ b ∈ l, 32 < b.toNat ∧ b.toNat ≠ 58 := word_byte l.length l (Nat.le_refl _) h.1
theorem ne_of {x c : UInt8} (h : x.toNat ≠ c.toNat) : x ≠ c := fun e => h (by rw [e])
end Go.Tx
/- Loops whose measure is told by what holds. -/
namespace Go.Vc
end Go.Vc
/- Strings that are appended to rows of bytes, and rows of bytes that are seen as strings (what strings.Builder does). No program in sight. -/
namespace Go.Vc
section
variable {P : Program} {w : World} {L : List HProp}
theorem setL_mid : ∀ (us cs : List Value) (o : Nat), o + us.length ≤ cs.length → setL cs o us = cs.take o ++ us ++ cs.drop (o + us.length)
 | [], cs, o, h => by simp [setL]
 | u :: us, cs, o, h => by
   simp only [List.length_cons] at h; rw [setL, setL_mid us (cs.set o u) (o + 1) (by rw [List.length_set]; omega)]
   have h1 : (cs.set o u).take (o + 1) = cs.take o ++ [u] := by
     rw [List.take_add_one, List.getElem?_set_self (by omega)]; simp only [Option.toList_some]
     congr 1
     exact List.take_set_of_le (Nat.le_refl o)
   have h2 : (cs.set o u).drop (o + 1 + us.length) = cs.drop (o + (us.length + 1)) := by
     rw [show o + 1 + us.length = o + (us.length + 1) by omega]; exact List.drop_set_of_lt (by omega)
   rw [h1, h2]; simp
theorem setCells_eq (b : Nat) : ∀ (vs : List Value) (w : World) (o : Nat), w.setCells b o vs = Vc.setCells w ⟨b, 0, none⟩ vs o
 | [], w, o => rfl
 | v :: r, w, o => by
   rw [World.setCells, Vc.setCells, setCells_eq b r]
   have e1 : (⟨b, 0, none⟩ : Addr).add o = ⟨b, o, none⟩ := by
     unfold Addr.add; split
     · rename_i h; rw [h]
     · simp
   rw [e1]
theorem r_cx {f : FuncId} {args : Array Value} {v : Value} {K : Value → World → Prop} (h : (callFunc f args).run P w = .ok (.value v) w) (k : K v w) : Cx P f args w K := ⟨v, w, h, k⟩
theorem r_cw {s d : TypeId} {x v : Value} {K : Value → World → Prop} (h : (convert s d x).run P w = .ok v w) (k : K v w) : Cw P s d x w K := ⟨v, w, h, k⟩
theorem r_bnEq {e : TypeId} {neg : Bool} {a : Addr} {i : TypeInfo} {K : Value → Prop} (h : P.info? e = some i) (k : K (.bool (!neg))) : Bn P e neg (.pointer (some a)) (.pointer (some a)) K := .inr ⟨i, a, h, rfl, rfl, k⟩
theorem r_apStr {t e tx : TypeId} {z : Value} [hr : Row P t e z] (hk : P.underlying tx = some .string) (H : Holds w L) (i : Nat) {v : Value} {xs ys : List UInt8} {ty : TypeId} {K : Value → World → Prop}
   (hi : L[i]? = some (SL bv e v xs)) (hn : xs.length + ys.length ≤ 1099511627776)
   (h : ∀ v' w', Same w w' → Holds w' (L.set i (SL bv e v' (xs ++ ys))) → K v' w') : Ap P #[t, tx] ty #[v, .string ⟨ys.toArray⟩] w K := by
 obtain ⟨inf, hinf, hsz, hby, hzz⟩ := hr.inf
 have hb : byteCells ⟨ys.toArray⟩ = ys.map bv := by
   unfold byteCells; simp
 have hsrc : ∀ w, Src P inf.size tx (.string ⟨ys.toArray⟩) ys.length (ys.map bv) w := fun w => by
   have := Src.ofString (P := P) w hk ⟨ys.toArray⟩; rw [hb] at this; rw [hsz]
   have e : (⟨ys.toArray⟩ : ByteArray).size = ys.length := by show ys.toArray.size = _; simp
   rw [e] at this; exact this
 obtain ⟨oa, sp, rfl, H1⟩ := H.open i hi; have hil : i < L.length := (List.getElem?_eq_some_iff.1 hi).1
 by_cases hy : ys = []
 · subst hy; refine ⟨_, _, run_append_nothing w t tx ty e inf hr.und hinf oa xs.length (xs.length + sp.length) (by omega) _ (hsrc w), h _ _ (.refl _) ?_⟩
   rw [List.append_nil, show L.set i (SL bv e (.slice oa xs.length (xs.length + sp.length)) xs) = L from by
     have e1 : L[i] = _ := (List.getElem?_eq_some_iff.1 hi).2
     rw [← e1, List.set_getElem_self]]
   exact H
 have hy0 : 0 < ys.length := List.length_pos_iff.2 hy; have hmul : (xs.length + ys.length) * inf.bytes ≤ 140737488355328 := Nat.le_trans (Nat.mul_le_mul_left _ hby) (by omega)
 have hold : (Builtin.firstCells inf.size xs.length (.slice oa xs.length (xs.length + sp.length))).run P w.drew = .ok (xs.map bv).toArray w.drew := by
   cases oa with
   | none =>
     obtain ⟨g, ⟨h2, h3⟩, _⟩ := H1.front i (set_get hi); subst h2; exact run_firstCells_none w.drew inf.size 0 0 _
   | some a =>
     obtain ⟨g, ⟨h2, h3, _⟩, _⟩ := H1.front i (set_get hi); obtain ⟨b, o, s⟩ := a; simp only at h2 h3; subst h2; subst h3; have Hb := H1.slb i (set_get hi); refine run_firstCells_some w.drew inf.size xs.length ⟨b, 0, none⟩ xs.length _ (xs.map bv) (by simp [hsz]) ?_; intro k u hu
     have e1 : (⟨b, 0, none⟩ : Addr).add k = ⟨b, k, none⟩ := by
       unfold Addr.add; split
       · rename_i h; rw [h]
       · simp
     rw [List.set_set] at Hb; have hc := Hb.cell i (set_get hi) k; rw [List.getElem?_append_left (by simpa using (List.getElem?_eq_some_iff.1 hu).1), hu] at hc; rw [e1]; exact hc
 rcases Nat.lt_or_ge sp.length ys.length with hg | hg
 · have hrun := run_append_grow_src (P := P) w t tx ty e inf z hr.und hinf hzz oa xs.length (xs.length + sp.length) (xs.map bv) hold _ ys.length _ (hsrc w) (by omega) (by omega) (growslice_fits (by omega) hmul); refine ⟨_, _, hrun, ?_⟩; have hcap := grownCap_ge w (xs.length + ys.length) (xs.length + sp.length) e; generalize grownCap w (xs.length + ys.length) (xs.length + sp.length) e = cap at hcap ⊢
   have hz2 : Builtin.zeroCells z.cells (cap - (xs.length + ys.length)) = (List.replicate (cap - (xs.length + ys.length)) z).toArray := by
     rw [hr.one]; apply Array.ext
     · simp [Builtin.zeroCells]
     · intro j h1 h2; simp [Builtin.zeroCells, Nat.mod_one]
   have hcells : ((xs.map bv ++ ys.map bv).toArray ++ Builtin.zeroCells z.cells (cap - (xs.length + ys.length))) = ((xs ++ ys).map bv ++ List.replicate (cap - (xs.length + ys.length)) z).toArray := by
     rw [hz2]; simp
   rw [hcells]; have H2 := (H.same (w' := w.drew) rfl).alloc (.cells ((xs ++ ys).map bv ++ List.replicate (cap - (xs.length + ys.length)) z).toArray e); have H4 := (Holds.imp H2 (Q := slb bv e (some ⟨w.heap.size, 0, none⟩) (xs ++ ys) (List.replicate (cap - (xs.length + ys.length)) z)) fun g hg => ⟨rfl, rfl, hg⟩); have H5 := H4.dropAt (i + 1); rw [List.eraseIdx_cons_succ] at H5; have H6 : Holds _ (L.set i (slb bv e (some ⟨w.heap.size, 0, none⟩) (xs ++ ys) (List.replicate (cap - (xs.length + ys.length)) z))) := Sat.push i hi H5; have H7 := H6.close i (set_get hi); rw [List.set_set] at H7
   have hc2 : (xs ++ ys).length + (List.replicate (cap - (xs.length + ys.length)) z).length = cap := by simp; omega
   have hl2 : (xs ++ ys).length = xs.length + ys.length := List.length_append; rw [hc2, hl2] at H7; exact h _ _ ((Same.drew w).trans (.alloc _ _)) H7
 · cases oa with
   | none =>
     obtain ⟨g, ⟨h2, h3⟩, _⟩ := H1.front i (set_get hi); subst h3; simp at hg; exact absurd hg hy
   | some a =>
     obtain ⟨g, ⟨h2, h3, _⟩, _⟩ := H1.front i (set_get hi); obtain ⟨b, o, s⟩ := a; simp only at h2 h3; subst h2; subst h3; have Hb := H1.slb i (set_get hi); rw [List.set_set] at Hb; have hgi := set_get (Q := blk b e (xs.map bv ++ sp)) hi
     have hrun := run_append_room_src (P := P) w t tx ty e inf hr.und hinf b 0 xs.length (xs.length + sp.length) _ ys.length _ (hsrc w) (by omega)
       (fun j hj => by
         rw [List.length_map] at hj
         rw [Hb.cell i hgi, hsz, Nat.mul_one, Nat.zero_add, List.getElem?_eq_getElem (by rw [List.length_append, List.length_map]; omega)]; rfl)
       (fun j hj => Hb.frozen i hgi _)
     refine ⟨_, _, hrun, ?_⟩; rw [setCells_eq, hsz, Nat.mul_one, Nat.zero_add]; have H3 := Holds.setCells (o := 0) i (ys.map bv) xs.length Hb hgi; rw [List.set_set, setL_mid _ _ _ (by simp; omega)] at H3
     have e2 : (xs.map bv ++ sp).take (0 + xs.length) ++ ys.map bv ++ (xs.map bv ++ sp).drop (0 + xs.length + (ys.map bv).length) = (xs ++ ys).map bv ++ sp.drop ys.length := by
       simp [List.take_append, List.drop_append]
     rw [e2] at H3; have H4 := Holds.slb' (f := bv) (e := e) (b := b) (xs := xs ++ ys) (sp := sp.drop ys.length) H3 i (set_get hi); rw [List.set_set] at H4; have H5 := H4.close i (set_get hi); rw [List.set_set] at H5
     have hl : (xs ++ ys).length + (sp.drop ys.length).length = xs.length + sp.length := by simp; omega
     have hl2 : (xs ++ ys).length = xs.length + ys.length := List.length_append; rw [hl, hl2] at H5; exact h _ _ (Same.setCells _ _ _ _) H5
theorem r_strK {e pty ity : TypeId} {ats : Array TypeId} {ty : TypeId} (hp : P.underlying pty = some (.pointer e)) (hty : P.underlying ty = some (.pointer e)) (hc : P.cellsOf e = 1) (H : Holds w L) (i : Nat) {v : Value} {xs : List UInt8} {Q : Value → World → Prop}
   (hi : L[i]? = some (SL bv e v xs)) (hn : xs.length ≤ 1099511627776)
   (h : ∀ p w2, Same w w2 → Holds w2 (L.eraseIdx i) → (∀ (K : Value → World → Prop), (∀ w', Same w2 w' → Holds w' (L.eraseIdx i) → K (.string ⟨xs.toArray⟩) w') → ∀ ty2, Ust P #[pty, ity] ty2 #[p, nv xs.length] w2 K) → Q p w2) :
   Usd P ats ty #[v] w Q := by
 obtain ⟨oa, sp, rfl, H1⟩ := H.open i hi; have Hd : Holds w (L.eraseIdx i) := H.dropAt i
 cases oa with
 | none =>
   obtain ⟨g, ⟨h2, h3⟩, _⟩ := H1.front i (set_get hi); subst h2; exact ⟨_, w, Lib.run_unsafeSliceData_nil (P := P) w ats ty _ _, h _ w (.refl w) Hd fun K k ty2 => ⟨_, w, Lib.run_unsafeString_none (P := P) w pty ity ty2 none, k w (.refl w) Hd⟩⟩
 | some a =>
   obtain ⟨g, ⟨h2, h3, _⟩, _⟩ := H1.front i (set_get hi); obtain ⟨b, o, s⟩ := a; simp only at h2 h3; subst h2; subst h3; have Hb := H1.slb i (set_get hi); rw [List.set_set] at Hb; have hgi := set_get (Q := blk b e (xs.map bv ++ sp)) hi; have hobj := Hb.obj i hgi
   have hsh : w.shape? b = some (e, (xs.map bv ++ sp).length) := by
     unfold World.shape?; rw [hobj]; simp
   by_cases hcap : xs.length + sp.length = 0
   · have hx : xs = [] := List.eq_nil_of_length_eq_zero (by omega); subst hx; have hs0 : sp = [] := List.eq_nil_of_length_eq_zero (by omega); subst hs0; exact ⟨_, _, Lib.run_unsafeSliceData_zero (P := P) w ats ty e hty ⟨b, 0, none⟩ 0 _ hsh, h _ _ (.alloc _ _) (Hd.alloc _).drop fun K k ty2 => ⟨_, _, Lib.run_unsafeString_none (P := P) _ pty ity ty2 _, k _ (.refl _) (Hd.alloc _).drop⟩⟩
   · refine ⟨_, w, Lib.run_unsafeSliceData_row (P := P) w ats ty _ _ _ hcap, h _ w (.refl w) Hd fun K k ty2 => ?_⟩
     by_cases hx : xs = []
     · subst hx; exact ⟨_, w, Lib.run_unsafeString_none (P := P) w pty ity ty2 _, k w (.refl w) Hd⟩
     · have hrun := Lib.run_unsafeString_row (P := P) w pty ity ty2 e hp hc b _ hsh xs hx (by simp) (by omega) (fun j x hj => by
         have e1 : (⟨b, 0, none⟩ : Addr).add j = ⟨b, j, none⟩ := by
           unfold Addr.add; split
           · rename_i h; rw [h]
           · simp
         have hjl := (List.getElem?_eq_some_iff.1 hj).1; rw [e1, Hb.cell i hgi j, List.getElem?_append_left (by simpa using hjl), List.getElem?_map, hj]
         rfl)
       refine ⟨_, _, hrun, k _ ⟨?_, ?_, ?_, ?_⟩ ?_⟩
       · unfold World.freeze; split <;> rfl
       · unfold World.freeze; split <;> rfl
       · unfold World.freeze; split <;> rfl
       · unfold World.freeze; split <;> simp
       · -- the row's block alone has changed
         have Hf := Hb.front i hgi; obtain ⟨g, hg, hgs, hL⟩ := Hf
         have he : (L.set i (blk b e (xs.map bv ++ sp))).eraseIdx i = L.eraseIdx i := by rw [List.eraseIdx_set_eq]
         rw [he] at hL; refine Sat.mono hL fun c x hx => ?_; unfold Hp.minus at hx; split at hx
         · cases hx
         · rename_i hgc
           have hcb : c ≠ b := by
             rintro rfl; apply hgc; have : g c = some _ := hg; rw [this]; rfl
           show (w.freeze ⟨b, 0, none⟩ xs.length).heap[c]? = some x; unfold World.freeze; split
           · exact hx
           · simp only [Array.getElem?_modify]; rw [if_neg (fun e => hcb e.symm)]; exact hx
end
end Go.Vc
/- Functions without a body: which one it is, and what it answers. No program in sight. -/
namespace Go.Ev
open Go Go.Vc
variable {P : Program} {w w' : World}
theorem add_off {b o n : Nat} : (⟨b, o, none⟩ : Addr).add n = ⟨b, o + n, none⟩ := by
 unfold Addr.add; split
 · rename_i h; rw [h]; rfl
 · rfl
inductive Xt where
 | idx | cnt | noEsc | mkNo | idxB
def nmX : Xt → String
 | .idx => "internal/bytealg.IndexByteString"
 | .cnt => "internal/bytealg.CountString"
 | .noEsc => "internal/abi.NoEscape"
 | .mkNo => "internal/bytealg.MakeNoZero"
 | .idxB => "internal/bytealg.IndexByte"
def extF (fn : Func) (k : Xt) : Bool := match fn.name == nmX k with
 | true => (match fn.origin == "" with
   | true => true
   | false => fn.origin == nmX k)
 | false => false
def extK (P : Program) (f : FuncId) : Option (Func × Xt) := match P.funcs[f]? with
 | some fn => (match fn.body with
   | some _ => none
   | none => (match extF fn .idx, extF fn .cnt, extF fn .noEsc, extF fn .mkNo, extF fn .idxB with
     | true, _, _, _, _ => some (fn, .idx)
     | _, true, _, _, _ => some (fn, .cnt)
     | _, _, true, _, _ => some (fn, .noEsc)
     | _, _, _, true, _ => some (fn, .mkNo)
     | _, _, _, _, true => some (fn, .idxB)
     | _, _, _, _, _ => none))
 | none => none
theorem extK_ok {f : FuncId} {fn : Func} {k : Xt} (h : extK P f = some (fn, k)) : P.funcs[f]? = some fn ∧ fn.body = none ∧ extF fn k = true := by
 unfold extK at h; split at h
 · rename_i fn' hf; split at h
   · cases h
   · rename_i hb
     split at h <;> first | (simp only [Option.some.injEq, Prod.mk.injEq] at h; obtain ⟨rfl, rfl⟩ := h; exact ⟨hf, hb, by assumption⟩) | cases h
 · cases h
theorem extF_name {fn : Func} {k : Xt} (h : extF fn k = true) : fn.name = nmX k ∧ (fn.origin = "" ∨ fn.origin = nmX k) := by
 unfold extF at h; split at h
 · rename_i h1; split at h
   · rename_i h2; exact ⟨by simpa using h1, .inl (by simpa using h2)⟩
   · exact ⟨by simpa using h1, .inr (by simpa using h)⟩
 · cases h
theorem next_none (k : Xt) {fn : Func} (h : extF fn k = true) : Extern.findNext fn = none := by
 obtain ⟨h1, h2⟩ := extF_name h; unfold Extern.findNext
 rcases h2 with h2 | h2 <;> rw [h1, h2] <;> cases k <;> rfl
theorem find_idx {fn : Func} (h : extF fn .idx = true) : Extern.find fn = some Extern.BytealgIndexByte.indexByte := by
 unfold Extern.find; rw [(extF_name h).1]; rfl
theorem find_idxB {fn : Func} (h : extF fn .idxB = true) : Extern.find fn = some Extern.BytealgIndexByte.indexByte := by
 unfold Extern.find; rw [(extF_name h).1]; rfl
theorem find_cnt {fn : Func} (h : extF fn .cnt = true) : Extern.find fn = some Extern.BytealgCount.count := by
 unfold Extern.find; rw [(extF_name h).1]; rfl
theorem find_noEsc {fn : Func} (h : extF fn .noEsc = true) : Extern.find fn = some Extern.AbiNoEscape.same := by
 unfold Extern.find; rw [(extF_name h).1]; rfl
theorem find_mkNo {fn : Func} (h : extF fn .mkNo = true) : Extern.find fn = some (Extern.BytealgMakeNoZero.makeNoZero fn.params fn.resultTypes) := by
 unfold Extern.find; rw [(extF_name h).1]; rfl
theorem callExt {f : FuncId} {fn : Func} {k : Xt} {args : Array Value} {e : Array Value → Sem Value} {v : Value} (h : extK P f = some (fn, k)) (he : Extern.find fn = some e) (hr : (e args).run P w = .ok v w') : isExt P f = true ∧ (callFunc f args).run P w = .ok (.value v) w' := by
 obtain ⟨h1, h2, h3⟩ := extK_ok h; refine ⟨by simp only [isExt, h1, h2]; rfl, ?_⟩
 have hn : (fn.name == "runtime.NumGoroutine") = false := by rw [(extF_name h3).1]; cases k <;> rfl
 rw [run_callFunc_extern h1 hn (by rw [h2]; rfl) (next_none k h3) he, hr]; rfl
theorem run_loadBytes {b : Nat} : ∀ (l : List Nat) (o : Nat) (acc : ByteArray), (∀ (i : Nat) (n : Nat), l[i]? = some n → w.cell? ⟨b, o + i, none⟩ = some (.int .u8 (n : Int))) →
   (Extern.Bytes.loadBytes ⟨b, o, none⟩ l.length acc).run P w = .ok ⟨acc.data ++ (l.map UInt8.ofNat).toArray⟩ w
 | [], o, acc, h => by
   show Result.ok acc w = _; simp
 | n :: l, o, acc, h => by
   show (Extern.Bytes.loadBytes ⟨b, o, none⟩ (l.length + 1) acc).run P w = _; unfold Extern.Bytes.loadBytes; rw [Sem.run_bind, run_load1 (show w.cell? ⟨b, o, none⟩ = _ from h 0 n rfl)]; simp only [Result.andThen_ok]; rw [add_off]
   have := run_loadBytes l (o + 1) (acc.push ((n : Int).toNat.toUInt8)) fun i m hi => by
     rw [show o + 1 + i = o + (i + 1) by omega]; exact h (i + 1) m hi
   rw [this]
   congr 1
   apply ba_ext; simp
theorem idxB_of {x y c : Value} {s : ByteArray} (h1 : (Extern.Bytes.bytesOf x).run P w = .ok s w) (h2 : (Extern.Bytes.bytesOf y).run P w = .ok s w) : (Extern.BytealgIndexByte.indexByte #[x, c]).run P w = (Extern.BytealgIndexByte.indexByte #[y, c]).run P w := by
 change ((Extern.Bytes.bytesOf x >>= _) : Sem Value).run P w = ((Extern.Bytes.bytesOf y >>= _) : Sem Value).run P w; rw [Sem.run_bind, Sem.run_bind, h1, h2]; rfl
end Go.Ev
/- Chapter 9: trees of which the least two are joined, plain. No program in sight. -/
namespace Go.Mh
def lt (W : List Nat) (x y : Nat) : Prop := W.getD x 0 < W.getD y 0 ∨ (W.getD x 0 = W.getD y 0 ∧ x < y)
instance (W : List Nat) (x y : Nat) : Decidable (lt W x y) := inferInstanceAs (Decidable (_ ∨ _))
def IsLeast (W V : List Nat) (x : Nat) : Prop := x ∈ V ∧ ∀ y ∈ V, y ≠ x → lt W x y
theorem IsLeast.perm {W V V' : List Nat} {x : Nat} (h : IsLeast W V x) (p : V.Perm V') : IsLeast W V' x :=
 ⟨p.mem_iff.1 h.1, fun y hy => h.2 y (p.mem_iff.2 hy)⟩
structure HS where
 W : List Nat
 I : List (Option Nat)
 V : List Nat
def h0 (w : List Nat) : HS := ⟨w, List.replicate w.length none, List.range w.length⟩
structure Join (s s' : HS) (a b : Nat) : Prop where
 la : IsLeast s.W s.V a
 lb : IsLeast s.W (s.V.erase a) b
 W : s'.W = s.W ++ [s.W.getD a 0 + s.W.getD b 0]
 I : s'.I = ((s.I.set a (some s.W.length)).set b (some s.W.length)) ++ [none]
 V : s'.V.Perm (s.W.length :: (s.V.erase a).erase b)
inductive Joins (s0 : HS) : Nat → HS → Prop
 | start : Joins s0 0 s0
 | next {k : Nat} {s s' : HS} {a b : Nat} (h : Joins s0 k s) (j : Join s s' a b) : Joins s0 (k + 1) s'
structure Good (s : HS) : Prop where
 nodup : s.V.Nodup
 lt : ∀ x ∈ s.V, x < s.W.length
 len : s.I.length = s.W.length
 live : ∀ x ∈ s.V, s.I[x]? = some none
 dead : ∀ x, x < s.W.length → x ∉ s.V → ∃ p, s.I[x]? = some (some p) ∧ x < p ∧ p < s.W.length
inductive Up (I : List (Option Nat)) : Nat → Nat → Nat → Prop
 | here (x : Nat) : Up I x 0 x
 | up {x p k y : Nat} (h : I[x]? = some (some p)) (u : Up I p k y) : Up I x (k + 1) y
theorem Up.join {s s' : HS} {a b x k y : Nat} (hg : Good s) (j : Join s s' a b) (h : Up s.I x k y) : Up s'.I x k y := by
 induction h with
 | here x => exact .here x
 | up h u ih =>
   rename_i x p k y; refine .up ?_ ih
   have hx : x < s.W.length := by
     have := (List.getElem?_eq_some_iff.1 h).1; rw [hg.len] at this; exact this
   have h1 : x ≠ a := by
     rintro rfl; rw [hg.live _ j.la.1] at h; cases h
   have h2 : x ≠ b := by
     rintro rfl; rw [hg.live _ (List.mem_of_mem_erase j.lb.1)] at h; cases h
   rw [j.I, List.getElem?_append_left (by rw [List.length_set, List.length_set, hg.len]; exact hx), List.getElem?_set, List.getElem?_set, if_neg (fun e => h2 e.symm), if_neg (fun e => h1 e.symm)]; exact h
def Depths (w out : List Nat) : Prop := ∃ s r, Joins (h0 w) (w.length - 1) s ∧ s.V = [r] ∧ out.length = w.length ∧ ∀ i, i < w.length → Up s.I i (out.getD i 0) r
structure Queue (n : Nat) (s : HS) (lf : List Nat) (j : Nat) : Prop where
 perm : s.V.Perm (lf ++ List.range' j (s.W.length - j))
 jn : n ≤ j ∧ j ≤ s.W.length
 lfn : ∀ x ∈ lf, x < n
 sorted : lf.Pairwise (lt s.W)
 mono : ∀ x y, n ≤ x → x ≤ y → y < s.W.length → s.W.getD x 0 ≤ s.W.getD y 0
 sum : ∀ x ∈ s.V, ∀ y ∈ s.V, x ≠ y → ∀ c, n ≤ c → c < s.W.length → s.W.getD c 0 ≤ s.W.getD x 0 + s.W.getD y 0
def head (W lf : List Nat) (j : Nat) : Nat := match lf with
 | [] => j
 | x :: _ => if j = W.length ∨ W.getD x 0 ≤ W.getD j 0 then x else j
def tail1 (W lf : List Nat) (j : Nat) : List Nat := match lf with
 | [] => []
 | x :: l => if j = W.length ∨ W.getD x 0 ≤ W.getD j 0 then l else x :: l
def tail2 (W lf : List Nat) (j : Nat) : Nat := match lf with
 | [] => j + 1
 | x :: l => if j = W.length ∨ W.getD x 0 ≤ W.getD j 0 then j else j + 1
def incL (out ls : List Nat) : List Nat := ls.foldl (fun o i => o.set i (o.getD i 0 + 1)) out
structure Forest (n : Nat) (s : HS) (l : List (Nat × List Nat)) (out : List Nat) : Prop where
 perm : (l.map (·.1)).Perm s.V
 leaves : (l.flatMap (·.2)).Perm (List.range n)
 up : ∀ t ∈ l, ∀ i ∈ t.2, Up s.I i (out.getD i 0) t.1
 len : out.length = n
def Tot (s : HS) : Nat := (s.V.map fun x => s.W.getD x 0).sum
end Go.Mh
/- Chapter 9: how high the trees are, plain. No program in sight. -/
namespace Go.Mh
def fib : Nat → Nat
 | 0 => 0
 | 1 => 1
 | n + 2 => fib (n + 1) + fib n
structure Hts (s : HS) (h : Nat → Nat) : Prop where
 up : ∀ x ∈ s.V, ∀ i k, Up s.I i k x → k ≤ h x
 wt : ∀ x ∈ s.V, fib (h x + 1) ≤ s.W.getD x 0
 lo : ∀ x ∈ s.V, ∀ y ∈ s.V, 1 ≤ h x → fib (h x) ≤ s.W.getD y 0
def halved (w : List Nat) : List Nat := w.map fun x => x / 2 + 1
inductive LensOf : List Nat → List Nat → Prop
 | fit {w out : List Nat} (h : Depths w out) (hl : ∀ x ∈ out, x ≤ 20) : LensOf w out
 | more {w l out : List Nat} (h : Depths w l) (hl : ¬ ∀ x ∈ l, x ≤ 20) (r : LensOf (halved w) out) : LensOf w out
theorem exists_least {p : Nat → Prop} (h : ∃ n, p n) : ∃ n, p n ∧ ∀ m, p m → n ≤ m := by
 obtain ⟨n, hn⟩ := h
 induction n using Nat.strongRecOn with
 | ind n ih =>
   by_cases q : ∃ m, m < n ∧ p m
   · obtain ⟨m, h1, h2⟩ := q; exact ih m h1 h2
   · exact ⟨n, hn, fun m hm => Nat.le_of_not_lt fun h => q ⟨m, h, hm⟩⟩
end Go.Mh
/- Loops whose measures are told by what holds. -/
namespace Go.Proofs.YtcnjipikapiplaaGreatDoor
open Go Go.Vc
open Classical in
theorem r_loop0n {w : World} {body : (Nat → Value) → Cur 0 → Cur 0} (I : Nat → World → Prop) (n0 : Nat) (h0 : I n0 w)
   (h : ∀ jb n w (k : Cur 0), I n w → (∀ m w', m < n → I m w' → k w') → body jb k w) : VLoop 0 [] w body := by
 refine r_loop0 (fun w' => ∃ n, I n w') (fun w' => if h : ∃ n, I n w' then Classical.choose (Mh.exists_least h) else 0) ⟨n0, h0⟩ ?_; intro jb w1 hx; have e1 := Classical.choose_spec (Mh.exists_least hx); refine h jb _ w1 _ e1.1 fun m w' hm hI => ⟨⟨m, hI⟩, ?_⟩; have hx' : ∃ n, I n w' := ⟨m, hI⟩; have e2 := Classical.choose_spec (Mh.exists_least hx'); show dite _ _ _ < dite _ _ _; rw [dif_pos hx, dif_pos hx']; exact Nat.lt_of_le_of_lt (e2.2 m hI) hm
end Go.Proofs.YtcnjipikapiplaaGreatDoor
/- A verified evaluator for closed calls, first part: its values, its memory, and what they stand for. No program in sight. -/
namespace Go.Ev
open Go Go.Vc
inductive X where
 | b (v : Bool)
 | i (k : IntKind) (n : Int)
 | s (l : List Nat)
 | p (a : Option (Nat × Nat))
 | l (a : Option (Nat × Nat)) (n c : Nat)
 | ni
 | nf
 | fc (t : TypeId) (x : X)
 | g (xs : List X)
 | t (xs : List X)
 | f (fn : Fn) (a c : List X)
 | m (a : Option Nat)
 | e0 (b o q : Nat)
abbrev Sg := Nat → Option (Nat × Nat × Nat)
def str (l : List Nat) : ByteArray := ⟨(l.map UInt8.ofNat).toArray⟩
mutual
def vl (σ : Sg) : X → Option Value
 | .b v => some (.bool v)
 | .i k n => some (.int k n)
 | .s l => some (.string (str l))
 | .p none => some (.pointer none)
 | .p (some a) => match σ a.1 with
   | some r => some (.pointer (some ⟨r.1, r.2.1 + a.2, none⟩))
   | none => none
 | .l none n c => some (.slice none n c)
 | .l (some a) n c => match σ a.1 with
   | some r => some (.slice (some ⟨r.1, r.2.1 + a.2, none⟩) n (c + r.2.2))
   | none => none
 | .ni => some .nilIface
 | .nf => some .nilFunc
 | .fc t x => match vl σ x with
   | some v => some (.iface t v)
   | none => none
 | .g xs => match vls σ xs with
   | some vs => some (.agg vs.toArray)
   | none => none
 | .t xs => match vls σ xs with
   | some vs => some (.tuple vs.toArray)
   | none => none
 | .f fn a c => match vls σ a, vls σ c with
   | some us, some vs => some (.func fn us.toArray vs.toArray)
   | _, _ => none
 | .m none => some (.map none)
 | .m (some b) => match σ b with
   | some r => some (.map (some r.1))
   | none => none
 | .e0 b o q => match σ b with
   | some r => some (.slice (some ⟨r.1, r.2.1 + (if r.2.2 = 0 then o else q), none⟩) 0 r.2.2)
   | none => none
def vls (σ : Sg) : List X → Option (List Value)
 | [] => some []
 | x :: r => match vl σ x, vls σ r with
   | some v, some vs => some (v :: vs)
   | _, _ => none
end
def Ext (σ σ' : Sg) : Prop := ∀ n r, σ n = some r → σ' n = some r
theorem Ext.refl (σ : Sg) : Ext σ σ := fun _ _ h => h
theorem Ext.trans {a b c : Sg} (h : Ext a b) (k : Ext b c) : Ext a c := fun n r e => k n r (h n r e)
mutual
theorem vl_ext {σ σ' : Sg} (h : Ext σ σ') : ∀ (x : X) (v : Value), vl σ x = some v → vl σ' x = some v
 | .b _, _, e => e
 | .i _ _, _, e => e
 | .s _, _, e => e
 | .p none, _, e => e
 | .p (some a), v, e => by
   simp only [vl] at e ⊢
   cases hs : σ a.1 with
   | none => rw [hs] at e; cases e
   | some r => rw [hs] at e; rw [h _ _ hs]; exact e
 | .l none _ _, _, e => e
 | .l (some a) n c, v, e => by
   simp only [vl] at e ⊢
   cases hs : σ a.1 with
   | none => rw [hs] at e; cases e
   | some r => rw [hs] at e; rw [h _ _ hs]; exact e
 | .ni, _, e => e
 | .nf, _, e => e
 | .fc t x, v, e => by
   simp only [vl] at e ⊢
   cases hs : vl σ x with
   | none => rw [hs] at e; cases e
   | some u => rw [hs] at e; rw [vl_ext h x u hs]; exact e
 | .g xs, v, e => by
   simp only [vl] at e ⊢
   cases hs : vls σ xs with
   | none => rw [hs] at e; cases e
   | some u => rw [hs] at e; rw [vls_ext h xs u hs]; exact e
 | .t xs, v, e => by
   simp only [vl] at e ⊢
   cases hs : vls σ xs with
   | none => rw [hs] at e; cases e
   | some u => rw [hs] at e; rw [vls_ext h xs u hs]; exact e
 | .f fn a c, v, e => by
   simp only [vl] at e ⊢
   cases hs : vls σ a with
   | none => rw [hs] at e; cases e
   | some u =>
     cases hc : vls σ c with
     | none => rw [hs, hc] at e; cases e
     | some u' => rw [hs, hc] at e; rw [vls_ext h a u hs, vls_ext h c u' hc]; exact e
 | .m none, _, e => e
 | .m (some b), v, e => by
   simp only [vl] at e ⊢
   cases hs : σ b with
   | none => rw [hs] at e; cases e
   | some r => rw [hs] at e; rw [h _ _ hs]; exact e
 | .e0 b o q, v, e => by
   simp only [vl] at e ⊢
   cases hs : σ b with
   | none => rw [hs] at e; cases e
   | some r => rw [hs] at e; rw [h _ _ hs]; exact e
theorem vls_ext {σ σ' : Sg} (h : Ext σ σ') : ∀ (xs : List X) (vs : List Value), vls σ xs = some vs → vls σ' xs = some vs
 | [], _, e => e
 | x :: r, vs, e => by
   simp only [vls] at e ⊢
   cases hx : vl σ x with
   | none => rw [hx] at e; cases e
   | some u =>
     cases hr : vls σ r with
     | none => rw [hx, hr] at e; cases e
     | some us => rw [hx, hr] at e; rw [vl_ext h x u hx, vls_ext h r us hr]; exact e
end
theorem vls_cons {σ : Sg} {x : X} {r : List X} {vs : List Value} (h : vls σ (x :: r) = some vs) : ∃ v us, vl σ x = some v ∧ vls σ r = some us ∧ vs = v :: us := by
 simp only [vls] at h
 cases hx : vl σ x with
 | none => rw [hx] at h; cases h
 | some u =>
   cases hr : vls σ r with
   | none => rw [hx, hr] at h; cases h
   | some us => rw [hx, hr] at h; exact ⟨u, us, rfl, rfl, (Option.some.inj h).symm⟩
theorem vls_mk {σ : Sg} {x : X} {r : List X} {v : Value} {us : List Value} (h1 : vl σ x = some v) (h2 : vls σ r = some us) : vls σ (x :: r) = some (v :: us) := by
 simp only [vls, h1, h2]
theorem vls_len {σ : Sg} : ∀ {xs : List X} {vs : List Value}, vls σ xs = some vs → xs.length = vs.length
 | [], vs, h => by simp only [vls, Option.some.injEq] at h; subst h; rfl
 | x :: r, vs, h => by
   obtain ⟨v, us, _, h2, rfl⟩ := vls_cons h; simp [vls_len h2]
theorem vls_app {σ : Sg} : ∀ {xs ys : List X} {us vs : List Value}, vls σ xs = some us → vls σ ys = some vs → vls σ (xs ++ ys) = some (us ++ vs)
 | [], ys, us, vs, h, k => by simp only [vls, Option.some.injEq] at h; subst h; exact k
 | x :: r, ys, us, vs, h, k => by
   obtain ⟨v, us', h1, h2, rfl⟩ := vls_cons h; exact vls_mk h1 (vls_app h2 k)
theorem vls_get {σ : Sg} : ∀ {xs : List X} {vs : List Value} {i : Nat} {x : X}, vls σ xs = some vs → xs[i]? = some x → ∃ v, vs[i]? = some v ∧ vl σ x = some v
 | y :: r, vs, 0, x, h, e => by
   obtain ⟨v, us, h1, h2, rfl⟩ := vls_cons h; simp at e; subst e; exact ⟨v, rfl, h1⟩
 | y :: r, vs, i + 1, x, h, e => by
   obtain ⟨v, us, h1, h2, rfl⟩ := vls_cons h; obtain ⟨u, e1, e2⟩ := vls_get h2 (by simpa using e); exact ⟨u, by simpa using e1, e2⟩
theorem vls_set {σ : Sg} : ∀ {xs : List X} {vs : List Value} (i : Nat) {x : X} {v : Value}, vls σ xs = some vs → vl σ x = some v → vls σ (xs.set i x) = some (vs.set i v)
 | [], vs, i, x, v, h, k => by simp only [vls, Option.some.injEq] at h; subst h; rfl
 | y :: r, vs, 0, x, v, h, k => by
   obtain ⟨u, us, h1, h2, rfl⟩ := vls_cons h; exact vls_mk k h2
 | y :: r, vs, i + 1, x, v, h, k => by
   obtain ⟨u, us, h1, h2, rfl⟩ := vls_cons h; exact vls_mk h1 (vls_set i h2 k)
theorem vls_drop {σ : Sg} : ∀ {xs : List X} {vs : List Value} (n : Nat), vls σ xs = some vs → vls σ (xs.drop n) = some (vs.drop n)
 | xs, vs, 0, h => by simpa using h
 | [], vs, n + 1, h => by simp only [vls, Option.some.injEq] at h; subst h; rfl
 | y :: r, vs, n + 1, h => by
   obtain ⟨u, us, h1, h2, rfl⟩ := vls_cons h; simpa using vls_drop n h2
theorem vls_take {σ : Sg} : ∀ {xs : List X} {vs : List Value} (n : Nat), vls σ xs = some vs → vls σ (xs.take n) = some (vs.take n)
 | xs, vs, 0, h => by simp [vls]
 | [], vs, n + 1, h => by simp only [vls, Option.some.injEq] at h; subst h; rfl
 | y :: r, vs, n + 1, h => by
   obtain ⟨u, us, h1, h2, rfl⟩ := vls_cons h; simpa using vls_mk h1 (vls_take n h2)
noncomputable section
inductive T (α : Type) where
 | e
 | lf (k : Nat) (v : α)
 | nd (a b : T α)
def T.get {α : Type} (t : T α) : Nat → Nat → Option α :=
 @T.rec α (fun _ => Nat → Nat → Option α) (fun _ _ => none) (fun k v _ q => @Bool.rec (fun _ => Option α) none (some v) (Nat.beq k q))
   (fun _ _ ga gb i q => @Nat.rec (fun _ => Option α) (ga (Nat.div i 2) q) (fun _ _ => gb (Nat.div i 2) q) (Nat.mod i 2)) t
def T.set {α : Type} (d : Nat) : T α → Nat → Nat → α → T α :=
 @Nat.rec (fun _ => T α → Nat → Nat → α → T α) (fun _ _ k v => .lf k v)
   (fun _ ih t i k v => @T.rec α (fun _ => T α) (@Nat.rec (fun _ => T α) (.nd (ih .e (Nat.div i 2) k v) .e) (fun _ _ => .nd .e (ih .e (Nat.div i 2) k v)) (Nat.mod i 2))
     (fun _ _ => @Nat.rec (fun _ => T α) (.nd (ih .e (Nat.div i 2) k v) .e) (fun _ _ => .nd .e (ih .e (Nat.div i 2) k v)) (Nat.mod i 2))
     (fun a b _ _ => @Nat.rec (fun _ => T α) (.nd (ih a (Nat.div i 2) k v) b) (fun _ _ => .nd a (ih b (Nat.div i 2) k v)) (Nat.mod i 2)) t) d
theorem T.get_e {α : Type} (i q : Nat) : (T.e : T α).get i q = none := rfl
theorem T.get_lf {α : Type} (k : Nat) (v : α) (i q : Nat) : (T.lf k v).get i q = match Nat.beq k q with | true => some v | false => none := by
 show @Bool.rec (fun _ => Option α) none (some v) (Nat.beq k q) = _
 cases Nat.beq k q <;> rfl
theorem T.get_nd {α : Type} (a b : T α) (i q : Nat) : (T.nd a b).get i q = match i % 2 with | 0 => a.get (i / 2) q | _ + 1 => b.get (i / 2) q := by
 show @Nat.rec (fun _ => Option α) (a.get (i / 2) q) (fun _ _ => b.get (i / 2) q) (i % 2) = _
 cases i % 2 <;> rfl
theorem T.set_0 {α : Type} (t : T α) (i k : Nat) (v : α) : T.set 0 t i k v = .lf k v := rfl
theorem T.set_nd {α : Type} (d : Nat) (a b : T α) (i k : Nat) (v : α) : T.set (d + 1) (.nd a b) i k v = match i % 2 with | 0 => .nd (T.set d a (i / 2) k v) b | _ + 1 => .nd a (T.set d b (i / 2) k v) := by
 show @Nat.rec (fun _ => T α) (.nd (T.set d a (i / 2) k v) b) (fun _ _ => .nd a (T.set d b (i / 2) k v)) (i % 2) = _
 cases i % 2 <;> rfl
theorem T.set_e {α : Type} (d : Nat) (i k : Nat) (v : α) : T.set (d + 1) .e i k v = match i % 2 with | 0 => .nd (T.set d .e (i / 2) k v) .e | _ + 1 => .nd .e (T.set d .e (i / 2) k v) := by
 show @Nat.rec (fun _ => T α) (.nd (T.set d .e (i / 2) k v) .e) (fun _ _ => .nd .e (T.set d .e (i / 2) k v)) (i % 2) = _
 cases i % 2 <;> rfl
theorem T.set_lf {α : Type} (d : Nat) (k' : Nat) (v' : α) (i k : Nat) (v : α) : T.set (d + 1) (.lf k' v') i k v = match i % 2 with | 0 => .nd (T.set d .e (i / 2) k v) .e | _ + 1 => .nd .e (T.set d .e (i / 2) k v) := by
 show @Nat.rec (fun _ => T α) (.nd (T.set d .e (i / 2) k v) .e) (fun _ _ => .nd .e (T.set d .e (i / 2) k v)) (i % 2) = _
 cases i % 2 <;> rfl
theorem T.get_set {α : Type} : ∀ (d : Nat) (t : T α) (i k : Nat) (v : α) (j q : Nat) (x : α), (q = k → j = i) → (T.set d t i k v).get j q = some x → (q = k ∧ x = v) ∨ (q ≠ k ∧ t.get j q = some x)
 | 0, t, i, k, v, j, q, x, hj, h => by
   rw [T.set_0, T.get_lf] at h
   cases hb : Nat.beq k q with
   | true => rw [hb] at h; exact .inl ⟨(Nat.eq_of_beq_eq_true hb).symm, (Option.some.inj h).symm⟩
   | false => rw [hb] at h; cases h
 | d + 1, .nd a b, i, k, v, j, q, x, hj, h => by
   rw [T.set_nd] at h
   have hj2 : q = k → j / 2 = i / 2 := fun e => by rw [hj e]
   cases hi : i % 2 with
   | zero =>
     rw [hi] at h; simp only [T.get_nd] at h ⊢
     cases hm : j % 2 with
     | zero =>
       rw [hm] at h; exact T.get_set d a _ k v _ q x hj2 h
     | succ m =>
       rw [hm] at h; exact .inr ⟨fun e => by have := hj e; subst this; omega, h⟩
   | succ n =>
     rw [hi] at h; simp only [T.get_nd] at h ⊢
     cases hm : j % 2 with
     | zero =>
       rw [hm] at h; exact .inr ⟨fun e => by have := hj e; subst this; omega, h⟩
     | succ m =>
       rw [hm] at h; exact T.get_set d b _ k v _ q x hj2 h
 | d + 1, .e, i, k, v, j, q, x, hj, h => by
   rw [T.set_e] at h
   have hj2 : q = k → j / 2 = i / 2 := fun e => by rw [hj e]
   cases hi : i % 2 with
   | zero =>
     rw [hi] at h; simp only [T.get_nd] at h
     cases hm : j % 2 with
     | zero =>
       rw [hm] at h; rcases T.get_set d .e _ k v _ q x hj2 h with h1 | ⟨h1, h2⟩
       · exact .inl h1
       · cases h2
     | succ m => rw [hm] at h; cases h
   | succ n =>
     rw [hi] at h; simp only [T.get_nd] at h
     cases hm : j % 2 with
     | zero => rw [hm] at h; cases h
     | succ m =>
       rw [hm] at h; rcases T.get_set d .e _ k v _ q x hj2 h with h1 | ⟨h1, h2⟩
       · exact .inl h1
       · cases h2
 | d + 1, .lf k' v', i, k, v, j, q, x, hj, h => by
   rw [T.set_lf] at h
   have hj2 : q = k → j / 2 = i / 2 := fun e => by rw [hj e]
   cases hi : i % 2 with
   | zero =>
     rw [hi] at h; simp only [T.get_nd] at h
     cases hm : j % 2 with
     | zero =>
       rw [hm] at h; rcases T.get_set d .e _ k v _ q x hj2 h with h1 | ⟨h1, h2⟩
       · exact .inl h1
       · cases h2
     | succ m => rw [hm] at h; cases h
   | succ n =>
     rw [hi] at h; simp only [T.get_nd] at h
     cases hm : j % 2 with
     | zero => rw [hm] at h; cases h
     | succ m =>
       rw [hm] at h; rcases T.get_set d .e _ k v _ q x hj2 h with h1 | ⟨h1, h2⟩
       · exact .inl h1
       · cases h2
abbrev Blk := TypeId × List X
inductive M where
 | mp (es : List (X × X))
 | it (s : List Nat) (pos : Nat)
structure St where
 h : T (Option Blk)
 n : Nat
 k : Nat
 m : T (Option M)
 g : List (Nat × List X)
def jn {α : Type} : Option (Option α) → Option α
 | some (some c) => some c
 | _ => none
def St.blk (s : St) (b : Nat) : Option Blk := jn (s.h.get b b)
def St.mo (s : St) (b : Nat) : Option M := jn (s.m.get b b)
def St.put (s : St) (b : Nat) (c : Option Blk) : St := ⟨T.set 14 s.h b b c, s.n, s.k, s.m, s.g⟩
def St.mput (s : St) (b : Nat) (c : Option M) : St := ⟨s.h, s.n, s.k, T.set 14 s.m b b c, s.g⟩
theorem tree_put {α : Type} {t : T (Option α)} {b q : Nat} {c : Option α} {x : α} (h : jn ((T.set 14 t b b c).get q q) = some x) : (q = b ∧ c = some x) ∨ (q ≠ b ∧ jn (t.get q q) = some x) := by
 cases hg : T.get (T.set 14 t b b c) q q with
 | none => rw [hg] at h; cases h
 | some y =>
   rw [hg] at h
   cases y with
   | none => cases h
   | some z =>
     obtain rfl : z = x := Option.some.inj h; rcases T.get_set 14 t b b c q q _ (fun e => e) hg with ⟨h1, h2⟩ | ⟨h1, h2⟩
     · exact .inl ⟨h1, h2.symm⟩
     · refine .inr ⟨h1, ?_⟩; rw [h2]; rfl
theorem blk_put {s : St} {b q : Nat} {c : Option Blk} {x : Blk} (h : (s.put b c).blk q = some x) : (q = b ∧ c = some x) ∨ (q ≠ b ∧ s.blk q = some x) := tree_put h
theorem mo_mput {s : St} {b q : Nat} {c : Option M} {x : M} (h : (s.mput b c).mo q = some x) : (q = b ∧ c = some x) ∨ (q ≠ b ∧ s.mo q = some x) := tree_put h
def szOf (P : Program) (e : TypeId) : Nat := match P.info? e with
 | some i => i.size
 | none => 0
def isArrB (P : Program) (e : TypeId) : Bool := match P.underlying e with
 | some (.array _ _) => true
 | _ => false
structure Bs where
 pr : Nat → Prop
 res : Nat → Prop
 gp : Nat → Prop
 gpr : ∀ a, gp a → pr a
def lkG : List (Nat × List X) → Nat → Option (List X)
 | [], _ => none
 | p :: l, g => match Nat.beq p.1 g with
   | true => some p.2
   | false => lkG l g
structure Own (P : Program) (base : Bs) (σ : Sg) (w : World) (b e : Nat) (cs : List X) (rb off k : Nat) (pre vs sp post : List Value) : Prop where
 sg_ : σ b = some (rb, off, k)
 val : vls σ cs = some vs
 pre_ : pre.length = off
 sp_ : sp.length = k * szOf P e
 heap : ∃ fz : Nat × Nat, w.heap[rb]? = some (.cells (pre ++ vs ++ sp ++ post).toArray e fz) ∧ ∀ o, o < (pre ++ vs ++ sp ++ post).length → ¬ (fz.1 ≤ o ∧ o < fz.2)
 low : ¬ base.pr rb
 flat : vs.all sg = true
 mul_ : ∃ q, off = q * szOf P e
 nsp : isArrB P e = true → k = 0
def EsR (σ : Sg) : List (X × X) → List MapEntry → Prop
 | [], [] => True
 | (k, v) :: l, e :: l' => vl σ k = some e.key ∧ vl σ v = some e.val ∧ EsR σ l l'
 | _, _ => False
theorem EsR.ext {σ σ' : Sg} (hx : Ext σ σ') : ∀ {l : List (X × X)} {l' : List MapEntry}, EsR σ l l' → EsR σ' l l'
 | [], [], _ => trivial
 | (k, v) :: l, e :: l', ⟨h1, h2, h3⟩ => ⟨vl_ext hx _ _ h1, vl_ext hx _ _ h2, EsR.ext hx h3⟩
def MOk (σ : Sg) (w : World) (rb : Nat) : M → Prop
 | .mp es => ∃ (l : List MapEntry) (clock : Nat), w.heap[rb]? = some (.map l.toArray clock) ∧ EsR σ es l
 | .it s p => w.heap[rb]? = some (.stringIter (str s) p)
theorem MOk.ext {σ σ' : Sg} {w : World} {rb : Nat} (hx : Ext σ σ') : ∀ {o : M}, MOk σ w rb o → MOk σ' w rb o
 | .mp es, ⟨l, c, h1, h2⟩ => ⟨l, c, h1, h2.ext hx⟩
 | .it s p, h => h
def NoC (w : World) (rb : Nat) : Prop := ∀ c e z, w.heap[rb]? ≠ some (.cells c e z)
theorem MOk.noC {σ : Sg} {w : World} {rb : Nat} : ∀ {o : M}, MOk σ w rb o → NoC w rb ∧ (w.heap[rb]?).isSome = true
 | .mp es, ⟨l, c, h1, _⟩ => ⟨(fun _ _ _ h => by rw [h1] at h; cases h), (by rw [h1]; rfl)⟩
 | .it s p, h => ⟨(fun _ _ _ h' => by rw [show w.heap[rb]? = _ from h] at h'; cases h'), (by rw [show w.heap[rb]? = _ from h]; rfl)⟩
theorem MOk.keep {σ : Sg} {w w' : World} {rb : Nat} (hk : ∀ o, w.heap[rb]? = some o → w'.heap[rb]? = some o) : ∀ {o : M}, MOk σ w rb o → MOk σ w' rb o
 | .mp es, ⟨l, c, h1, h2⟩ => ⟨l, c, hk _ h1, h2⟩
 | .it s p, h => hk _ h
structure Mem (P : Program) (base : Bs) (σ : Sg) (s : St) (w : World) : Prop where
 own : ∀ b e cs, s.blk b = some (e, cs) → ∃ rb off k pre vs sp post, Own P base σ w b e cs rb off k pre vs sp post
 apart : ∀ b c x y r r', s.blk b = some x → s.blk c = some y → b ≠ c → σ b = some r → σ c = some r' → r.1 ≠ r'.1
 mown : ∀ b o, s.mo b = some o → ∃ rb, σ b = some (rb, 0, 0) ∧ ¬ base.pr rb ∧ MOk σ w rb o
 mapart : ∀ b c x y r r', s.mo b = some x → s.mo c = some y → b ≠ c → σ b = some r → σ c = some r' → r.1 ≠ r'.1
 glb : ∀ g xs, lkG s.g g = some xs → base.gp g ∧ ∃ e fz vs, vls (fun _ => none) xs = some vs ∧ w.heap[g]? = some (.cells vs.toArray e fz)
theorem Mem.keepG {P : Program} {base : Bs} {σ : Sg} {s : St} {w w' : World} (h : Mem P base σ s w) (ho : ∀ (c : Nat) (o : Obj), base.pr c → w.heap[c]? = some o → w'.heap[c]? = some o) :
   ∀ g xs, lkG s.g g = some xs → base.gp g ∧ ∃ e fz vs, vls (fun _ => none) xs = some vs ∧ w'.heap[g]? = some (.cells vs.toArray e fz) := fun g xs hg => by
 obtain ⟨h1, e, fz, vs, h2, h3⟩ := h.glb g xs hg; exact ⟨h1, e, fz, vs, h2, ho g _ (base.gpr g h1) h3⟩
theorem Own.ext {P : Program} {base : Bs} {σ σ' : Sg} {w : World} {b e : Nat} {cs : List X} {rb off k : Nat} {pre vs sp post : List Value} (h : Own P base σ w b e cs rb off k pre vs sp post) (hx : Ext σ σ') : Own P base σ' w b e cs rb off k pre vs sp post :=
 ⟨hx _ _ h.sg_, vls_ext hx _ _ h.val, h.pre_, h.sp_, h.heap, h.low, h.flat, h.mul_, h.nsp⟩
theorem Mem.ext {P : Program} {base : Bs} {σ σ' : Sg} {s : St} {w : World} (h : Mem P base σ s w) (hx : Ext σ σ') : Mem P base σ' s w := by
 refine ⟨fun b e cs hb => ?_, fun b c x y r r' hb hc hne h1 h2 => ?_, fun b o hb => ?_, fun b c x y r r' hb hc hne h1 h2 => ?_, h.glb⟩
 · obtain ⟨rb, off, k, pre, vs, sp, post, h1⟩ := h.own b e cs hb; exact ⟨rb, off, k, pre, vs, sp, post, h1.ext hx⟩
 · obtain ⟨e, cs⟩ := x; obtain ⟨e', cs'⟩ := y; obtain ⟨_, _, _, _, _, _, _, g1⟩ := h.own b e cs hb; obtain ⟨_, _, _, _, _, _, _, g2⟩ := h.own c e' cs' hc; have e1 := hx _ _ g1.sg_; have e2 := hx _ _ g2.sg_; rw [h1] at e1; rw [h2] at e2; have f1 := g1.sg_; have f2 := g2.sg_; rw [← e1] at f1; rw [← e2] at f2; exact h.apart b c _ _ _ _ hb hc hne f1 f2
 · obtain ⟨rb, h1, h2, h3⟩ := h.mown b o hb; exact ⟨rb, hx _ _ h1, h2, h3.ext hx⟩
 · obtain ⟨_, g1, _⟩ := h.mown b x hb; obtain ⟨_, g2, _⟩ := h.mown c y hc; have e1 := hx _ _ g1; have e2 := hx _ _ g2; rw [h1] at e1; rw [h2] at e2; rw [← e1] at g1; rw [← e2] at g2; exact h.mapart b c _ _ _ _ hb hc hne g1 g2
structure Fram (base : Bs) (w0 w : World) : Prop where
 same : Same w0 w
 low : ∀ c, base.pr c → c < w.heap.size
 old : ∀ c, base.pr c → w.heap[c]? = w0.heap[c]?
structure FreshN (base : Bs) (σ : Sg) (n k : Nat) : Prop where
 nx : σ n = none
 lt : n < k
 ge : ∀ m, k ≤ m → σ m = none
 rs : ∀ m, base.res m → σ m = none ∧ m ≠ n ∧ m < k
abbrev Fresh (base : Bs) (σ : Sg) (s : St) : Prop := FreshN base σ s.n s.k
end
end Go.Ev
/- A verified evaluator for closed calls, second part: memory that turns; operations that leave the world as it is. No program in sight. -/
namespace Go.Ev
open Go Go.Vc
noncomputable section
variable {P : Program} {base : Bs} {σ : Sg} {s : St} {w w' : World}
theorem Own.keep {b e : Nat} {cs : List X} {rb off k : Nat} {pre vs sp post : List Value} (g : Own P base σ w b e cs rb off k pre vs sp post) (ho : ∀ o, w.heap[rb]? = some o → w'.heap[rb]? = some o) : Own P base σ w' b e cs rb off k pre vs sp post := by
 obtain ⟨fz, h1, h2⟩ := g.heap; exact ⟨g.sg_, g.val, g.pre_, g.sp_, ⟨fz, ho _ h1, h2⟩, g.low, g.flat, g.mul_, g.nsp⟩
theorem Mem.sep (h : Mem P base σ s w) {q rb : Nat} {o : M} (hq : s.mo q = some o) (hc : ∃ c e z, w.heap[rb]? = some (.cells c e z)) : ∀ {r : Nat × Nat × Nat}, σ q = some r → r.1 ≠ rb := by
 intro r hr he; obtain ⟨rb', h1, _, h3⟩ := h.mown q o hq; rw [h1] at hr; obtain rfl := Option.some.inj hr; obtain ⟨c, e, z, hh⟩ := hc; replace he : rb' = rb := he; rw [he] at h3; exact h3.noC.1 c e z hh
theorem Mem.upd (h : Mem P base σ s w) {b e : Nat} {cs cs' : List X} {rb off k : Nat} {pre vs' sp post : List Value} (hb : s.blk b = some (e, cs)) (hn : Own P base σ w' b e cs' rb off k pre vs' sp post)
   (ho : ∀ c o, c ≠ rb → w.heap[c]? = some o → w'.heap[c]? = some o) : Mem P base σ (s.put b (some (e, cs'))) w' := by
 have key : ∀ q x, (s.put b (some (e, cs'))).blk q = some x → ∃ y, s.blk q = some y := by
   intro q x hq; rcases blk_put hq with ⟨rfl, _⟩ | ⟨_, h2⟩
   · exact ⟨_, hb⟩
   · exact ⟨_, h2⟩
 refine ⟨fun q e' cs'' hq => ?_, fun q c x y r r' hq hc hne h1 h2 => ?_, fun q o hq => ?_, fun q c x y r r' hq hc hne h1 h2 => h.mapart q c x y r r' hq hc hne h1 h2, h.keepG fun c o hc => ho c o fun e => hn.low (e ▸ hc)⟩
 · rcases blk_put hq with ⟨rfl, h2⟩ | ⟨hne, h2⟩
   · simp only [Option.some.injEq, Prod.mk.injEq] at h2; obtain ⟨rfl, rfl⟩ := h2; exact ⟨rb, off, k, pre, vs', sp, post, hn⟩
   · obtain ⟨rb', off', k', pre', vs, sp', post', g⟩ := h.own q e' cs'' h2; exact ⟨rb', off', k', pre', vs, sp', post', g.keep (ho _ · (h.apart q b _ _ _ _ h2 hb hne g.sg_ hn.sg_))⟩
 · obtain ⟨x', hx'⟩ := key q x hq; obtain ⟨y', hy'⟩ := key c y hc; exact h.apart q c x' y' r r' hx' hy' hne h1 h2
 · replace hq : s.mo q = some o := hq; obtain ⟨rb', h1, h2, h3⟩ := h.mown q o hq; obtain ⟨rb0, off0, k0, pre0, vs0, sp0, post0, g0⟩ := h.own b e cs hb; obtain ⟨fz, hh, _⟩ := g0.heap
   have hrb : rb0 = rb := by have := g0.sg_; rw [hn.sg_] at this; cases this; rfl
   subst hrb; exact ⟨rb', h1, h2, h3.keep fun o' => ho rb' o' (h.sep hq ⟨_, _, _, hh⟩ h1)⟩
theorem Mem.del (h : Mem P base σ s w) (b : Nat) : Mem P base σ (s.put b none) w := by
 have key : ∀ q x, (s.put b none).blk q = some x → q ≠ b ∧ s.blk q = some x := by
   intro q x hq; rcases blk_put hq with ⟨_, h2⟩ | h2
   · cases h2
   · exact h2
 exact ⟨fun q e cs hq => h.own q e cs (key q _ hq).2, fun q c x y r r' hq hc hne h1 h2 => h.apart q c x y r r' (key q x hq).2 (key c y hc).2 hne h1 h2, h.mown, h.mapart, h.glb⟩
theorem Mem.lose (h : Mem P base σ s w) {b : Nat} {x : Blk} {r : Nat × Nat × Nat} (hb : s.blk b = some x) (hr : σ b = some r) (ho : ∀ c o, c ≠ r.1 → w.heap[c]? = some o → w'.heap[c]? = some o) : Mem P base σ (s.put b none) w' := by
 have key : ∀ q x, (s.put b none).blk q = some x → q ≠ b ∧ s.blk q = some x := by
   intro q x hq; rcases blk_put hq with ⟨_, h2⟩ | h2
   · cases h2
   · exact h2
 have hlow : ¬ base.pr r.1 := by
   obtain ⟨e, cs⟩ := x; obtain ⟨rb0, off0, k0, pre0, vs0, sp0, post0, g0⟩ := h.own b e cs hb; have := g0.sg_; rw [hr] at this; obtain rfl := Option.some.inj this; exact g0.low
 refine ⟨fun q e cs hq => ?_, fun q c x y r r' hq hc hne h1 h2 => h.apart q c x y r r' (key q x hq).2 (key c y hc).2 hne h1 h2, fun q o hq => ?_, h.mapart, h.keepG fun c o hc => ho c o fun e => hlow (e ▸ hc)⟩
 · obtain ⟨hne, hq⟩ := key q _ hq; obtain ⟨rb', off', k', pre', vs, sp', post', g⟩ := h.own q e cs hq; exact ⟨rb', off', k', pre', vs, sp', post', g.keep (ho _ · (h.apart q b _ _ _ _ hq hb hne g.sg_ hr))⟩
 · replace hq : s.mo q = some o := hq; obtain ⟨rb', h1, h2, h3⟩ := h.mown q o hq; obtain ⟨e, cs⟩ := x; obtain ⟨rb0, off0, k0, pre0, vs0, sp0, post0, g0⟩ := h.own b e cs hb; obtain ⟨fz, hh, _⟩ := g0.heap; have := g0.sg_; rw [hr] at this; obtain rfl := Option.some.inj this; exact ⟨rb', h1, h2, h3.keep fun o' => ho rb' o' (h.sep hq ⟨_, _, _, hh⟩ h1)⟩
theorem Mem.mupd (h : Mem P base σ s w) {b rb : Nat} {o o' : M} (hb : s.mo b = some o) (hr : σ b = some (rb, 0, 0)) (hn : MOk σ w' rb o') (ho : ∀ c x, c ≠ rb → w.heap[c]? = some x → w'.heap[c]? = some x) : Mem P base σ (s.mput b (some o')) w' := by
 have key : ∀ q x, (s.mput b (some o')).mo q = some x → ∃ y, s.mo q = some y := by
   intro q x hq; rcases mo_mput hq with ⟨rfl, _⟩ | ⟨_, h2⟩
   · exact ⟨_, hb⟩
   · exact ⟨_, h2⟩
 obtain ⟨rb0, g1, g2, g3⟩ := h.mown b o hb; rw [hr] at g1; cases g1; refine ⟨fun q e cs hq => ?_, h.apart, fun q x hq => ?_, fun q c x y r r' hq hc hne h1 h2 => ?_, h.keepG fun c o hc => ho c o fun e => g2 (e ▸ hc)⟩
 · obtain ⟨rb', off', k', pre', vs, sp', post', g⟩ := h.own q e cs hq; refine ⟨rb', off', k', pre', vs, sp', post', g.keep fun x => ho _ x fun he => ?_⟩; obtain ⟨fz, hh, _⟩ := g.heap; exact g3.noC.1 _ _ _ (he ▸ hh)
 · rcases mo_mput hq with ⟨rfl, h2⟩ | ⟨hne, h2⟩
   · obtain rfl := Option.some.inj h2; exact ⟨rb, hr, g2, hn⟩
   · obtain ⟨rb', h1, h3, h4⟩ := h.mown q x h2; exact ⟨rb', h1, h3, h4.keep fun x => ho _ x (h.mapart q b _ _ _ _ h2 hb hne h1 hr)⟩
 · obtain ⟨x', hx'⟩ := key q x hq; obtain ⟨y', hy'⟩ := key c y hc; exact h.mapart q c x' y' r r' hx' hy' hne h1 h2
def sgPut (σ : Sg) (n : Nat) (r : Nat × Nat × Nat) : Sg := fun m => match Nat.beq m n with
 | true => some r
 | false => σ m
theorem sgPut_same (σ : Sg) (n : Nat) (r : Nat × Nat × Nat) : sgPut σ n r n = some r := by unfold sgPut; rw [Nat.beq_refl]
theorem sgPut_ne {σ : Sg} {n m : Nat} {r : Nat × Nat × Nat} (h : m ≠ n) : sgPut σ n r m = σ m := by
 unfold sgPut
 cases hb : Nat.beq m n with
 | true => exact absurd (Nat.eq_of_beq_eq_true hb) h
 | false => rfl
theorem sgPut_ext {σ : Sg} {n : Nat} {r : Nat × Nat × Nat} (h : σ n = none) : Ext σ (sgPut σ n r) := by
 intro m q hm; rw [sgPut_ne]
 · exact hm
 · rintro rfl; rw [h] at hm; cases hm
def St.new (s : St) (c : Blk) : St := ⟨(s.put s.n (some c)).h, s.k, s.k + 1, s.m, s.g⟩
def St.mnew (s : St) (c : M) : St := ⟨s.h, s.k, s.k + 1, (s.mput s.n (some c)).m, s.g⟩
theorem Fresh.next {s' : St} (hf : Fresh base σ s) (r : Nat × Nat × Nat) (h1 : s'.n = s.k) (h2 : s'.k = s.k + 1) : Fresh base (sgPut σ s.n r) s' := by
 have hl := hf.lt; refine ⟨?_, by omega, fun m hm => ?_, fun m hm => ?_⟩
 · rw [h1, sgPut_ne (by omega)]; exact hf.ge _ (Nat.le_refl _)
 · rw [sgPut_ne (by omega)]; exact hf.ge _ (by omega)
 · obtain ⟨a, b, c⟩ := hf.rs m hm; rw [sgPut_ne b]; exact ⟨a, by omega, by omega⟩
theorem mo_mnew {s : St} {c x : M} {q : Nat} (h : (s.mnew c).mo q = some x) : (q = s.n ∧ c = x) ∨ (q ≠ s.n ∧ s.mo q = some x) := by
 have : (s.mput s.n (some c)).mo q = some x := h; rcases mo_mput this with ⟨h1, h2⟩ | h2
 · exact .inl ⟨h1, Option.some.inj h2⟩
 · exact .inr h2
theorem blk_new {c x : Blk} {q : Nat} (h : (s.new c).blk q = some x) : (q = s.n ∧ c = x) ∨ (q ≠ s.n ∧ s.blk q = some x) := by
 have : (s.put s.n (some c)).blk q = some x := h; rcases blk_put this with ⟨h1, h2⟩ | h2
 · exact .inl ⟨h1, Option.some.inj h2⟩
 · exact .inr h2
theorem Mem.fresh (h : Mem P base σ s w) (hf : Fresh base σ s) {e : TypeId} {cs : List X} {pre vs sp post : List Value} {rb k : Nat} (hv : vls σ cs = some vs) (hsp : sp.length = k * szOf P e) (hbase : ¬ base.pr rb) (hg : vs.all sg = true)
   (hh : ∃ fz : Nat × Nat, w'.heap[rb]? = some (.cells (pre ++ vs ++ sp ++ post).toArray e fz) ∧ ∀ o, o < (pre ++ vs ++ sp ++ post).length → ¬ (fz.1 ≤ o ∧ o < fz.2)) (hno : ∀ b x r, s.blk b = some x → σ b = some r → r.1 ≠ rb)
   (hnm : ∀ b x r, s.mo b = some x → σ b = some r → r.1 ≠ rb) (hml : ∃ q, pre.length = q * szOf P e) (hns : isArrB P e = true → k = 0) (ho : ∀ c o, c ≠ rb → w.heap[c]? = some o → w'.heap[c]? = some o) :
   Mem P base (sgPut σ s.n (rb, pre.length, k)) (s.new (e, cs)) w' ∧ Ext σ (sgPut σ s.n (rb, pre.length, k)) ∧ Fresh base (sgPut σ s.n (rb, pre.length, k)) (s.new (e, cs)) := by
 have hx : Ext σ (sgPut σ s.n (rb, pre.length, k)) := sgPut_ext hf.nx; refine ⟨⟨fun q e' cs' hq => ?_, fun q c x y r r' hq hc hne h1 h2 => ?_, fun q o hq => ?_, fun q c x y r r' hq hc hne h1 h2 => ?_, h.keepG fun c o hc => ho c o fun e => hbase (e ▸ hc)⟩, hx, hf.next _ rfl rfl⟩
 · rcases blk_new hq with ⟨rfl, h2⟩ | ⟨hne, h2⟩
   · simp only [Prod.mk.injEq] at h2; obtain ⟨rfl, rfl⟩ := h2; exact ⟨rb, pre.length, k, pre, vs, sp, post, ⟨sgPut_same _ _ _, vls_ext hx _ _ hv, rfl, hsp, hh, hbase, hg, hml, hns⟩⟩
   · obtain ⟨rb', off', k', pre', vs', sp', post', g⟩ := h.own q e' cs' h2; exact ⟨rb', off', k', pre', vs', sp', post', (g.keep (ho _ · (hno q _ _ h2 g.sg_))).ext hx⟩
 · have old : ∀ q x r, s.blk q = some x → sgPut σ s.n (rb, pre.length, k) q = some r → q ≠ s.n → σ q = some r := fun q x r _ h1 hne => by rw [sgPut_ne hne] at h1; exact h1
   rcases blk_new hq with ⟨rfl, h3⟩ | ⟨hn1, h3⟩ <;> rcases blk_new hc with ⟨rfl, h4⟩ | ⟨hn2, h4⟩
   · exact absurd rfl hne
   · rw [sgPut_same] at h1; cases h1; exact fun e => hno c y r' h4 (old c y r' h4 h2 hn2) e.symm
   · rw [sgPut_same] at h2; cases h2; exact hno q x r h3 (old q x r h3 h1 hn1)
   · exact h.apart q c x y r r' h3 h4 hne (old q x r h3 h1 hn1) (old c y r' h4 h2 hn2)
 · replace hq : s.mo q = some o := hq; obtain ⟨rb', h1, h2, h3⟩ := h.mown q o hq; exact ⟨rb', hx _ _ h1, h2, (h3.keep (ho _ · (hnm q o _ hq h1))).ext hx⟩
 · replace hq : s.mo q = some x := hq; replace hc : s.mo c = some y := hc; obtain ⟨_, g1, _⟩ := h.mown q x hq; obtain ⟨_, g2, _⟩ := h.mown c y hc; have e1 := hx _ _ g1; have e2 := hx _ _ g2; rw [h1] at e1; rw [h2] at e2; rw [← e1] at g1; rw [← e2] at g2; exact h.mapart q c x y _ _ hq hc hne g1 g2
theorem Mem.mbelow (h : Mem P base σ s w) {b : Nat} {x : M} {r : Nat × Nat × Nat} (hb : s.mo b = some x) (hr : σ b = some r) : r.1 < w.heap.size := by
 obtain ⟨rb, h1, _, h3⟩ := h.mown b x hb; rw [h1] at hr; obtain rfl := Option.some.inj hr; show rb < w.heap.size; rcases Nat.lt_or_ge rb w.heap.size with h4 | h4
 · exact h4
 · have := h3.noC.2; rw [Array.getElem?_eq_none h4] at this; cases this
theorem Mem.below (h : Mem P base σ s w) {b : Nat} {x : Blk} {r : Nat × Nat × Nat} (hb : s.blk b = some x) (hr : σ b = some r) : r.1 < w.heap.size := by
 obtain ⟨e', cs'⟩ := x; obtain ⟨rb, off, k, pre, vs, sp, post, g⟩ := h.own b e' cs' hb; have := g.sg_; rw [hr] at this; obtain rfl := Option.some.inj this; show rb < w.heap.size; rcases Nat.lt_or_ge rb w.heap.size with h1 | h1
 · exact h1
 · obtain ⟨fz, this, _⟩ := g.heap; rw [Array.getElem?_eq_none h1] at this; cases this
theorem alloc_oth {o' : Obj} : ∀ c o, c ≠ w.heap.size → w.heap[c]? = some o → (w.alloc o').heap[c]? = some o := by
 intro c o hc hco; show (w.heap.push _)[c]? = _; rw [Array.getElem?_push, if_neg hc]; exact hco
theorem Fram.alloc {w0 : World} (hF : Fram base w0 w) (o : Obj) : Fram base w0 (w.alloc o) := by
 refine ⟨hF.same.trans (.alloc _ _), ?_, fun c hc => ?_⟩
 · intro c hc; show c < (w.heap.push _).size; have := hF.low c hc; simp only [Array.size_push]; omega
 · have := hF.low c hc; show (w.heap.push _)[c]? = _; rw [Array.getElem?_push, if_neg (by omega)]; exact hF.old c hc
theorem Fram.top {w0 : World} (hF : Fram base w0 w) : ¬ base.pr w.heap.size := fun h => Nat.lt_irrefl _ (hF.low _ h)
theorem Mem.alloc (h : Mem P base σ s w) (hf : Fresh base σ s) {w0 : World} (hF : Fram base w0 w) {e : TypeId} {cs : List X} {vs sp : List Value} {k : Nat} (hv : vls σ cs = some vs) (hsp : sp.length = k * szOf P e) (hg : vs.all sg = true) (hns : isArrB P e = true → k = 0) :
   Mem P base (sgPut σ s.n (w.heap.size, 0, k)) (s.new (e, cs)) (w.alloc (.cells (vs ++ sp).toArray e)) ∧ Ext σ (sgPut σ s.n (w.heap.size, 0, k)) ∧ Fresh base (sgPut σ s.n (w.heap.size, 0, k)) (s.new (e, cs)) :=
 h.fresh (w' := w.alloc (.cells (vs ++ sp).toArray e)) (e := e) (pre := []) (post := []) (sp := sp) (rb := w.heap.size) (k := k) hf hv hsp hF.top hg ⟨(0, 0), by show (w.heap.push _)[w.heap.size]? = _; simp, fun o _ hz => by have := hz.2; exact absurd this (Nat.not_lt_zero _)⟩
   (fun b x r hb hr he => by have := h.below hb hr; omega) (fun b x r hb hr he => by have := h.mbelow hb hr; omega) ⟨0, by simp⟩ hns alloc_oth
theorem alloc_at (o : Obj) : (w.alloc o).heap[w.heap.size]? = some o := by show (w.heap.push _)[w.heap.size]? = _; simp
theorem Mem.mnew (h : Mem P base σ s w) (hf : Fresh base σ s) {w0 : World} (hF : Fram base w0 w) {o : M} {ob : Obj} (hn : ∀ w', w'.heap[w.heap.size]? = some ob → MOk σ w' w.heap.size o) :
   Mem P base (sgPut σ s.n (w.heap.size, 0, 0)) (s.mnew o) (w.alloc ob) ∧ Ext σ (sgPut σ s.n (w.heap.size, 0, 0)) ∧ Fresh base (sgPut σ s.n (w.heap.size, 0, 0)) (s.mnew o) := by
 have hx : Ext σ (sgPut σ s.n (w.heap.size, 0, 0)) := sgPut_ext hf.nx
 have low : ∀ {b : Nat} {x : Obj}, w.heap[b]? = some x → b ≠ w.heap.size := fun {b x} hb he => by
   rw [Array.getElem?_eq_none (by omega)] at hb; cases hb
 refine ⟨⟨fun q e cs hq => ?_, fun q c x y r r' hq hc hne h1 h2 => ?_, fun q x hq => ?_, fun q c x y r r' hq hc hne h1 h2 => ?_, h.keepG fun c o _ hco => alloc_oth c o (low hco) hco⟩, hx, hf.next _ rfl rfl⟩
 · replace hq : s.blk q = some (e, cs) := hq; obtain ⟨rb', off', k', pre', vs', sp', post', g⟩ := h.own q e cs hq; exact ⟨rb', off', k', pre', vs', sp', post', (g.keep fun o ho => alloc_oth _ _ (low ho) ho).ext hx⟩
 · replace hq : s.blk q = some x := hq; replace hc : s.blk c = some y := hc; exact (h.ext hx).apart q c x y r r' hq hc hne h1 h2
 · rcases mo_mnew hq with ⟨rfl, rfl⟩ | ⟨hne, h2⟩
   · exact ⟨w.heap.size, sgPut_same _ _ _, hF.top, (hn _ (alloc_at ob)).ext hx⟩
   · obtain ⟨rb', h1, h3, h4⟩ := h.mown q x h2; exact ⟨rb', hx _ _ h1, h3, (h4.keep fun o ho => alloc_oth _ _ (low ho) ho).ext hx⟩
 · have old : ∀ q x r, s.mo q = some x → sgPut σ s.n (w.heap.size, 0, 0) q = some r → q ≠ s.n → σ q = some r := fun q x r _ h1 hne => by rw [sgPut_ne hne] at h1; exact h1
   rcases mo_mnew hq with ⟨rfl, h3⟩ | ⟨hn1, h3⟩ <;> rcases mo_mnew hc with ⟨rfl, h4⟩ | ⟨hn2, h4⟩
   · exact absurd rfl hne
   · rw [sgPut_same] at h1; cases h1
     exact fun e => by have := h.mbelow h4 (old c y r' h4 h2 hn2); omega
   · rw [sgPut_same] at h2; cases h2
     exact fun e => by have := h.mbelow h3 (old q x r h3 h1 hn1); omega
   · exact h.mapart q c x y r r' h3 h4 hne (old q x r h3 h1 hn1) (old c y r' h4 h2 hn2)
def oth (w : World) (rb : Nat) : HProp := fun h => ∀ c o, c ≠ rb → w.heap[c]? = some o → h c = some o
theorem Fram.upd {w0 : World} {rb : Nat} (hF : Fram base w0 w) (hS : Same w w') (hb : ¬ base.pr rb) (ho : ∀ c o, c ≠ rb → w.heap[c]? = some o → w'.heap[c]? = some o) : Fram base w0 w' := by
 refine ⟨hF.same.trans hS, fun c hc => Nat.lt_of_lt_of_le (hF.low c hc) hS.size, fun c hc => ?_⟩; have h1 : c < w.heap.size := hF.low c hc; rw [← hF.old c hc]; have h2 : w.heap[c]? = some w.heap[c] := Array.getElem?_eq_getElem h1; rw [h2]; exact ho c _ (fun e => hb (e ▸ hc)) h2
theorem Fram.drew {w0 : World} (hF : Fram base w0 w) : Fram base w0 w.drew := ⟨hF.same.trans (.drew _), hF.low, hF.old⟩
theorem Mem.drew (h : Mem P base σ s w) : Mem P base σ s w.drew :=
 ⟨fun b e cs hb => let ⟨rb, off, k, pre, vs, sp, post, g⟩ := h.own b e cs hb; ⟨rb, off, k, pre, vs, sp, post, g.keep fun _ ho => ho⟩, h.apart, fun b o hb => let ⟨rb, h1, h2, h3⟩ := h.mown b o hb; ⟨rb, h1, h2, h3.keep fun _ ho => ho⟩, h.mapart, h.glb⟩
def ofV : Value → Option X
 | .bool b => some (.b b)
 | .int k n => some (.i k n)
 | .string s => some (.s (s.data.toList.map UInt8.toNat))
 | .pointer none => some (.p none)
 | .slice none n c => some (.l none n c)
 | .nilIface => some .ni
 | .nilFunc => some .nf
 | .map none => some (.m none)
 | _ => none
theorem str_toNat (s : ByteArray) : str (s.data.toList.map UInt8.toNat) = s := by
 apply ba_ext; simp only [str, List.map_map]; rw [show (UInt8.ofNat ∘ UInt8.toNat) = id by funext x; simp, List.map_id]
theorem vl_ofV {v : Value} {x : X} (h : ofV v = some x) : vl σ x = some v := by
 cases v with
 | bool b => simp only [ofV, Option.some.injEq] at h; subst h; rfl
 | int k n => simp only [ofV, Option.some.injEq] at h; subst h; rfl
 | string s => simp only [ofV, Option.some.injEq] at h; subst h; simp only [vl, str_toNat]
 | pointer a =>
   cases a with
   | none => simp only [ofV, Option.some.injEq] at h; subst h; rfl
   | some a => cases h
 | slice a n c =>
   cases a with
   | none => simp only [ofV, Option.some.injEq] at h; subst h; rfl
   | some a => cases h
 | nilIface => simp only [ofV, Option.some.injEq] at h; subst h; rfl
 | nilFunc => simp only [ofV, Option.some.injEq] at h; subst h; rfl
 | map a =>
   cases a with
   | none => simp only [ofV, Option.some.injEq] at h; subst h; rfl
   | some a => cases h
 | _ => cases h
def ofVs : List Value → Option (List X)
 | [] => some []
 | v :: r => match ofV v, ofVs r with
   | some x, some xs => some (x :: xs)
   | _, _ => none
theorem vls_ofVs : ∀ {vs : List Value} {xs : List X}, ofVs vs = some xs → vls σ xs = some vs
 | [], xs, h => by simp only [ofVs, Option.some.injEq] at h; subst h; rfl
 | v :: r, xs, h => by
   simp only [ofVs] at h
   cases hx : ofV v with
   | none => rw [hx] at h; cases h
   | some x =>
     cases hr : ofVs r with
     | none => rw [hx, hr] at h; cases h
     | some ys =>
       rw [hx, hr] at h; obtain rfl := Option.some.inj h; exact vls_mk (vl_ofV hx) (vls_ofVs hr)
def eqN : List Nat → List Nat → Bool
 | [], [] => true
 | x :: a, y :: b => match Nat.beq (x % 256) (y % 256) with
   | true => eqN a b
   | false => false
 | _, _ => false
theorem eqN_spec : ∀ (a b : List Nat), eqN a b = decide (str a = str b)
 | [], [] => by simp [eqN]
 | [], y :: b => by
   have : ¬ str [] = str (y :: b) := by intro h; have := congrArg ByteArray.size h; simp [str, ByteArray.size] at this
   simp [eqN, this]
 | x :: a, [] => by
   have : ¬ str (x :: a) = str [] := by intro h; have := congrArg ByteArray.size h; simp [str, ByteArray.size] at this
   simp [eqN, this]
 | x :: a, y :: b => by
   have h1 : str (x :: a) = str (y :: b) ↔ x % 256 = y % 256 ∧ str a = str b := by
     constructor
     · intro h; have := congrArg (fun s : ByteArray => s.data.toList) h; simp only [str, List.map_cons, List.cons.injEq] at this; refine ⟨?_, ba_ext (by simpa [str] using this.2)⟩; have := congrArg UInt8.toNat this.1; simpa using this
     · rintro ⟨h1, h2⟩; have h3 := congrArg (fun s : ByteArray => s.data.toList) h2; apply ba_ext; simp only [str, List.map_cons] at h3 ⊢; rw [h3]
       congr 1
       apply UInt8.toNat_inj.1; simpa using h1
   simp only [eqN]
   cases hb : Nat.beq (x % 256) (y % 256) with
   | true =>
     have := Nat.eq_of_beq_eq_true hb; simp only; rw [eqN_spec a b, decide_eq_decide, h1]; simp [this]
   | false =>
     have := Nat.ne_of_beq_eq_false hb
     symm
     rw [decide_eq_false_iff_not, h1]; exact fun e => this e.1
theorem str_app (a b : List Nat) : str (a ++ b) = str a ++ str b := by
 apply ba_ext; simp [str]
theorem str_size (a : List Nat) : (str a).size = a.length := by simp [str, ByteArray.size]
def bpV (op : BinOp) (u v : Value) : Option X := match bp op u v with
 | some r => ofV r
 | none => none
theorem bpV_spec {op : BinOp} {u v : Value} {z : X} (h : bpV op u v = some z) : ∃ r, bp op u v = some r ∧ vl σ z = some r := by
 unfold bpV at h
 cases hr : bp op u v with
 | none => rw [hr] at h; cases h
 | some r => rw [hr] at h; exact ⟨r, rfl, vl_ofV h⟩
def bpS (op : BinOp) (a b : List Nat) : Option X := match op with
 | .add => (match Nat.ble (a.length + b.length) 9223372036854775807 with
   | true => some (.s (a ++ b))
   | false => none)
 | .eql => some (.b (eqN a b))
 | .neq => some (.b !(eqN a b))
 | op => bpV op (.string (str a)) (.string (str b))
theorem bpS_spec {op : BinOp} {a b : List Nat} {z : X} (h : bpS op a b = some z) : ∃ r, bp op (.string (str a)) (.string (str b)) = some r ∧ vl σ z = some r := by
 unfold bpS at h; split at h
 · split at h
   · rename_i hl; obtain rfl := Option.some.inj h; have hl2 := Nat.le_of_ble_eq_true hl; refine ⟨.string (str a ++ str b), ?_, by simp only [vl, str_app]⟩; simp only [bp]; rw [if_neg]; rw [str_size, str_size]; show ¬ _ > (9223372036854775807 : Int); omega
   · cases h
 · obtain rfl := Option.some.inj h; exact ⟨_, rfl, by simp only [vl, eqN_spec, seq_eq]⟩
 · obtain rfl := Option.some.inj h; exact ⟨_, rfl, by simp only [vl, eqN_spec, seq_eq]⟩
 · exact bpV_spec h
def bp64 (op : BinOp) (m n : Nat) : Option X := match op with
 | .add => @Bool.rec (fun _ => Option X) (bpV .add (.int .i64 (.ofNat m)) (.int .i64 (.ofNat n))) (some (.i .i64 (.ofNat (Nat.add m n)))) (Nat.blt (Nat.add m n) 9223372036854775808)
 | .sub => @Bool.rec (fun _ => Option X) (bpV .sub (.int .i64 (.ofNat m)) (.int .i64 (.ofNat n))) (@Bool.rec (fun _ => Option X) (bpV .sub (.int .i64 (.ofNat m)) (.int .i64 (.ofNat n))) (some (.i .i64 (.ofNat (Nat.sub m n)))) (Nat.blt m 9223372036854775808)) (Nat.ble n m)
 | .mul => @Bool.rec (fun _ => Option X) (bpV .mul (.int .i64 (.ofNat m)) (.int .i64 (.ofNat n))) (some (.i .i64 (.ofNat (Nat.mul m n)))) (Nat.blt (Nat.mul m n) 9223372036854775808)
 | .lss => some (.b (Nat.blt m n))
 | .leq => some (.b (Nat.ble m n))
 | .gtr => some (.b (Nat.blt n m))
 | .geq => some (.b (Nat.ble n m))
 | .eql => some (.b (Nat.beq m n))
 | .neq => some (.b (Bool.not (Nat.beq m n)))
 | op => bpV op (.int .i64 (.ofNat m)) (.int .i64 (.ofNat n))
theorem bool_rec {α : Type} (a b : α) (c : Bool) : @Bool.rec (fun _ => α) a b c = if c = true then b else a := by cases c <;> rfl
theorem bp64_spec {op : BinOp} {m n : Nat} {z : X} (h : bp64 op m n = some z) : ∃ r, bp op (.int .i64 (m : Int)) (.int .i64 (n : Int)) = some r ∧ vl σ z = some r := by
 have w : ∀ k : Int, 0 ≤ k → k < 9223372036854775808 → IntKind.i64.wrap k = k := fun k h1 h2 => wrap64 (by omega) (by omega); unfold bp64 at h; split at h
 · rw [bool_rec] at h; split at h
   · rename_i hb; have hb := Nat.le_of_ble_eq_true hb; obtain rfl := Option.some.inj h; refine ⟨_, rfl, ?_⟩; simp only [vl]; rw [w _ (by omega) (by have : Nat.add m n = m + n := rfl; omega)]; rfl
   · exact bpV_spec h
 · rw [bool_rec] at h; split at h
   · rename_i hb; rw [bool_rec] at h; split at h
     · rename_i hb2; have hb := Nat.le_of_ble_eq_true hb; have hb2 := Nat.le_of_ble_eq_true hb2; obtain rfl := Option.some.inj h; refine ⟨_, rfl, ?_⟩; simp only [vl]; rw [w _ (by omega) (by omega)]
       congr 2
       show ((m - n : Nat) : Int) = (m : Int) - (n : Int); omega
     · exact bpV_spec h
   · exact bpV_spec h
 · rw [bool_rec] at h; split at h
   · rename_i hb; have hb := Nat.le_of_ble_eq_true hb; obtain rfl := Option.some.inj h; refine ⟨_, rfl, ?_⟩; simp only [vl]
     have e : (m : Int) * (n : Int) = ((m * n : Nat) : Int) := by simp
     have e2 : Nat.mul m n = m * n := rfl; rw [e, w _ (by omega) (by omega)]; rfl
   · exact bpV_spec h
 · obtain rfl := Option.some.inj h; refine ⟨_, rfl, ?_⟩; simp only [vl]
   congr 2
   rw [Bool.eq_iff_iff, decide_eq_true_iff]; exact ⟨fun h => by have := Nat.le_of_ble_eq_true h; show (m : Int) < n; omega, fun h => Nat.ble_eq_true_of_le (by have : (m : Int) < n := h; omega)⟩
 · obtain rfl := Option.some.inj h; refine ⟨_, rfl, ?_⟩; simp only [vl]
   congr 2
   rw [Bool.eq_iff_iff, decide_eq_true_iff]; exact ⟨fun h => by have := Nat.le_of_ble_eq_true h; show (m : Int) ≤ n; omega, fun h => Nat.ble_eq_true_of_le (by have : (m : Int) ≤ n := h; omega)⟩
 · obtain rfl := Option.some.inj h; refine ⟨_, rfl, ?_⟩; simp only [vl]
   congr 2
   rw [Bool.eq_iff_iff, decide_eq_true_iff]; exact ⟨fun h => by have := Nat.le_of_ble_eq_true h; show (n : Int) < m; omega, fun h => Nat.ble_eq_true_of_le (by have : (n : Int) < m := h; omega)⟩
 · obtain rfl := Option.some.inj h; refine ⟨_, rfl, ?_⟩; simp only [vl]
   congr 2
   rw [Bool.eq_iff_iff, decide_eq_true_iff]; exact ⟨fun h => by have := Nat.le_of_ble_eq_true h; show (n : Int) ≤ m; omega, fun h => Nat.ble_eq_true_of_le (by have : (n : Int) ≤ m := h; omega)⟩
 · obtain rfl := Option.some.inj h; refine ⟨_, rfl, ?_⟩; simp only [vl]
   congr 2
   rw [Bool.eq_iff_iff, beq_iff_eq]
   constructor
   · intro h; rw [Nat.eq_of_beq_eq_true h]
   · intro h
     have : m = n := by omega
     subst this; exact Nat.beq_refl _
 · obtain rfl := Option.some.inj h; refine ⟨_, rfl, ?_⟩; simp only [vl]
   congr 2
   have : Nat.beq m n = ((m : Int) == (n : Int)) := by
     rw [Bool.eq_iff_iff, beq_iff_eq]
     constructor
     · intro h; rw [Nat.eq_of_beq_eq_true h]
     · intro h
       have : m = n := by omega
       subst this; exact Nat.beq_refl _
   rw [this]; rfl
 · exact bpV_spec h
def bpI (op : BinOp) (k : IntKind) (a : Int) (k' : IntKind) (b : Int) : Option X := match k, k', a, b with
 | .i64, .i64, .ofNat m, .ofNat n => bp64 op m n
 | k, k', a, b => bpV op (.int k a) (.int k' b)
theorem bpI_spec {op : BinOp} {k k' : IntKind} {a b : Int} {z : X} (h : bpI op k a k' b = some z) : ∃ r, bp op (.int k a) (.int k' b) = some r ∧ vl σ z = some r := by
 unfold bpI at h; split at h
 · exact bp64_spec h
 · exact bpV_spec h
def bpX (op : BinOp) (x y : X) : Option X := match x, y with
 | .i k a, .i k' b => bpI op k a k' b
 | .s a, .s b => bpS op a b
 | _, _ => none
theorem bpX_spec {op : BinOp} {x y z : X} {u v : Value} (h : bpX op x y = some z) (hx : vl σ x = some u) (hy : vl σ y = some v) : ∃ r, bp op u v = some r ∧ vl σ z = some r := by
 unfold bpX at h; split at h
 · simp only [vl, Option.some.injEq] at hx hy; subst hx; subst hy; exact bpI_spec h
 · simp only [vl, Option.some.injEq] at hx hy; subst hx; subst hy; exact bpS_spec h
 · cases h
def evX (ρ : T X) : Operand → Option X
 | .tmp t => ρ.get t t
 | .const v => ofV v
 | .func f => some (.f (.func f) [] [])
 | _ => none
def EnvR (σ : Sg) (ρ : T X) (r : Env) : Prop := ∀ t x, ρ.get t t = some x → vl σ x = some (r.get t)
theorem evX_spec {ρ : T X} {r : Env} (h : EnvR σ ρ r) {o : Operand} {x : X} (hx : evX ρ o = some x) : vl σ x = some (r.ev o) := by
 cases o with
 | tmp t => exact h t x hx
 | const v => exact vl_ofV hx
 | global g => cases hx
 | func f => obtain rfl := Option.some.inj hx; rfl
def isAg (P : Program) (t : TypeId) : Option Bool := match P.underlying t with
 | some (.struct _) | some (.array _ _) => some true
 | some _ => some false
 | none => none
def ldX (s : St) (b o : Nat) : Option X := match s.blk b with
 | some c => c.2[o]?
 | none => none
def ldAX (s : St) (b o n : Nat) : Option X := match s.blk b with
 | some c => match Nat.beq ((c.2.drop o).take n).length n with
   | true => some (.g ((c.2.drop o).take n))
   | false => none
 | none => none
theorem Own.cell {b e : Nat} {cs : List X} {rb off k : Nat} {pre vs sp post : List Value} (h : Own P base σ w b e cs rb off k pre vs sp post) {o : Nat} (ho : o < vs.length) : w.cell? ⟨rb, off + o, none⟩ = vs[o]? := by
 obtain ⟨fz, hh, _⟩ := h.heap
 have : w.cell? ⟨rb, off + o, none⟩ = (pre ++ vs ++ sp ++ post)[off + o]? := by simp [World.cell?, hh]
 have hp := h.pre_; rw [this, List.append_assoc, List.append_assoc, List.getElem?_append_right (by omega), List.getElem?_append_left (by omega)]
 congr 1
 omega
theorem Own.any {b e : Nat} {cs : List X} {rb off k : Nat} {pre vs sp post : List Value} (h : Own P base σ w b e cs rb off k pre vs sp post) (o : Nat) : w.cell? ⟨rb, o, none⟩ = (pre ++ vs ++ sp ++ post)[o]? := by
 obtain ⟨fz, hh, _⟩ := h.heap; simp [World.cell?, hh]
theorem Own.nofz {b e : Nat} {cs : List X} {rb off k : Nat} {pre vs sp post : List Value} (h : Own P base σ w b e cs rb off k pre vs sp post) {o : Nat} (ho : o < (pre ++ vs ++ sp ++ post).length) : w.frozen? ⟨rb, o, none⟩ = false := by
 obtain ⟨fz, hh, hz⟩ := h.heap; have := hz o ho; obtain ⟨lo, hi⟩ := fz; simp only [World.frozen?, hh]; simp only at this; rw [Bool.and_eq_false_iff, decide_eq_false_iff_not, decide_eq_false_iff_not]; omega
theorem ldX_spec (h : Mem P base σ s w) {b o : Nat} {x : X} (hx : ldX s b o = some x) : ∃ r v, σ b = some r ∧ vl σ x = some v ∧ w.cell? ⟨r.1, r.2.1 + o, none⟩ = some v := by
 unfold ldX at hx
 cases hb : s.blk b with
 | none => rw [hb] at hx; cases hx
 | some c =>
   rw [hb] at hx; obtain ⟨e, cs⟩ := c; obtain ⟨rb, off, k, pre, vs, sp, post, g⟩ := h.own b e cs hb; obtain ⟨v, g1, g2⟩ := vls_get g.val hx; exact ⟨_, v, g.sg_, g2, by rw [g.cell (List.getElem?_eq_some_iff.1 g1).1, g1]⟩
theorem ldAX_spec (h : Mem P base σ s w) {b o n : Nat} {x : X} (hx : ldAX s b o n = some x) : ∃ (r : Nat × Nat × Nat) (vs : List Value), σ b = some r ∧ vl σ x = some (.agg vs.toArray) ∧ vs.length = n ∧ ∀ i v, vs[i]? = some v → w.cell? ((⟨r.1, r.2.1 + o, none⟩ : Addr).add i) = some v := by
 unfold ldAX at hx
 cases hb : s.blk b with
 | none => rw [hb] at hx; cases hx
 | some c =>
   rw [hb] at hx; obtain ⟨e, cs⟩ := c; simp only at hx
   cases hl : Nat.beq ((cs.drop o).take n).length n with
   | false => rw [hl] at hx; cases hx
   | true =>
     rw [hl] at hx; obtain rfl := Option.some.inj hx; obtain ⟨rb, off, k, pre, vs, sp, post, g⟩ := h.own b e cs hb; have h3 := vls_take n (vls_drop o g.val); have h5 := Nat.eq_of_beq_eq_true hl; rw [vls_len h3] at h5; refine ⟨_, _, g.sg_, by simp only [vl, h3], h5, fun i v hi => ?_⟩; rw [add_off]; have hi2 := hi; rw [List.getElem?_take_of_lt (by have := (List.getElem?_eq_some_iff.1 hi).1; omega), List.getElem?_drop] at hi2; rw [show off + o + i = off + (o + i) by omega, g.cell (List.getElem?_eq_some_iff.1 hi2).1, hi2]
end
end Go.Ev
/- A verified evaluator for closed calls, third part: operations that leave the world as it is. No program in sight. -/
namespace Go.Ev
open Go Go.Vc
noncomputable section
variable {P : Program} {base : Bs} {σ : Sg} {s : St} {w w' : World}
def cellsX : X → List X
 | .g xs => xs
 | x => [x]
theorem cellsX_spec {x : X} {v : Value} (h : vl σ x = some v) : vls σ (cellsX x) = some v.cells.toList := by
 have one : ∀ (x : X), cellsX x = [x] → v.cells = #[v] → vl σ x = some v → vls σ (cellsX x) = some v.cells.toList := by
   intro x h1 h2 h3; rw [h1, h2]; exact vls_mk h3 rfl
 cases x with
 | g xs =>
   simp only [vl] at h
   cases hs : vls σ xs with
   | none => rw [hs] at h; cases h
   | some us =>
     rw [hs] at h; obtain rfl := Option.some.inj h; simpa [cellsX, Value.cells] using hs
 | b c => exact one _ rfl (by simp only [vl, Option.some.injEq] at h; subst h; rfl) h
 | i k n => exact one _ rfl (by simp only [vl, Option.some.injEq] at h; subst h; rfl) h
 | s l => exact one _ rfl (by simp only [vl, Option.some.injEq] at h; subst h; rfl) h
 | ni => exact one _ rfl (by simp only [vl, Option.some.injEq] at h; subst h; rfl) h
 | nf => exact one _ rfl (by simp only [vl, Option.some.injEq] at h; subst h; rfl) h
 | p a =>
   refine one _ rfl ?_ h
   cases a with
   | none => simp only [vl, Option.some.injEq] at h; subst h; rfl
   | some a =>
     simp only [vl] at h
     cases hs : σ a.1 with
     | none => rw [hs] at h; cases h
     | some r => rw [hs] at h; obtain rfl := Option.some.inj h; rfl
 | l a n c =>
   refine one _ rfl ?_ h
   cases a with
   | none => simp only [vl, Option.some.injEq] at h; subst h; rfl
   | some a =>
     simp only [vl] at h
     cases hs : σ a.1 with
     | none => rw [hs] at h; cases h
     | some r => rw [hs] at h; obtain rfl := Option.some.inj h; rfl
 | fc t x =>
   refine one _ rfl ?_ h; simp only [vl] at h
   cases hs : vl σ x with
   | none => rw [hs] at h; cases h
   | some r => rw [hs] at h; obtain rfl := Option.some.inj h; rfl
 | t xs =>
   refine one _ rfl ?_ h; simp only [vl] at h
   cases hs : vls σ xs with
   | none => rw [hs] at h; cases h
   | some r => rw [hs] at h; obtain rfl := Option.some.inj h; rfl
 | f fn a c =>
   refine one _ rfl ?_ h; simp only [vl] at h
   cases hs : vls σ a with
   | none => rw [hs] at h; cases h
   | some r =>
     cases hc : vls σ c with
     | none => rw [hs, hc] at h; cases h
     | some r' => rw [hs, hc] at h; obtain rfl := Option.some.inj h; rfl
 | m a =>
   refine one _ rfl ?_ h
   cases a with
   | none => simp only [vl, Option.some.injEq] at h; subst h; rfl
   | some a =>
     simp only [vl] at h
     cases hs : σ a with
     | none => rw [hs] at h; cases h
     | some r => rw [hs] at h; obtain rfl := Option.some.inj h; rfl
 | e0 b o q =>
   refine one _ rfl ?_ h; simp only [vl] at h
   cases hs : σ b with
   | none => rw [hs] at h; cases h
   | some r => rw [hs] at h; obtain rfl := Option.some.inj h; rfl
def setLX : List X → Nat → List X → List X
 | cs, _, [] => cs
 | cs, o, x :: r => setLX (cs.set o x) (o + 1) r
theorem setLX_spec : ∀ {xs cs : List X} {us vs : List Value} (o : Nat), vls σ cs = some vs → vls σ xs = some us → vls σ (setLX cs o xs) = some (setL vs o us)
 | [], cs, us, vs, o, h, k => by simp only [vls, Option.some.injEq] at k; subst k; exact h
 | x :: r, cs, us, vs, o, h, k => by
   obtain ⟨v, us', h1, h2, rfl⟩ := vls_cons k; exact setLX_spec (o + 1) (vls_set o h h1) h2
theorem fold_setL : ∀ (us vs : List Value) (off j : Nat), (us.zipIdx j).foldl (fun (cs : Array Value) x => cs.setIfInBounds (off + x.2) x.1) vs.toArray = (setL vs (off + j) us).toArray
 | [], vs, off, j => rfl
 | u :: us, vs, off, j => by
   rw [List.zipIdx_cons, List.foldl_cons, List.setIfInBounds_toArray, fold_setL us _ off (j + 1), setL]; rfl
def xfill (place : Nat → Option (Nat × Nat)) : List X → List (Nat × X) → Option (List X)
 | cells, [] => some cells
 | cells, (i, x) :: rest => match place i with
   | none => none
   | some q => match Nat.beq (cellsX x).length q.2, Nat.ble (q.1 + (cellsX x).length) cells.length with
     | true, true => xfill place (setLX cells q.1 (cellsX x)) rest
     | _, _ => none
def pvl (σ : Sg) : List (Nat × X) → Option (List (Nat × Value))
 | [] => some []
 | (i, x) :: r => match vl σ x, pvl σ r with
   | some v, some vs => some ((i, v) :: vs)
   | _, _ => none
theorem xfill_spec {place : Nat → Option (Nat × Nat)} : ∀ {ps : List (Nat × X)} {cs cs' : List X} {vs : List Value} {qs : List (Nat × Value)}, xfill place cs ps = some cs' → vls σ cs = some vs → pvl σ ps = some qs →
   ∃ vs', Instr.fill place vs.toArray qs = some vs'.toArray ∧ vls σ cs' = some vs'
 | [], cs, cs', vs, qs, h, h1, h2 => by
   simp only [pvl, Option.some.injEq] at h2; subst h2; obtain rfl := Option.some.inj h; exact ⟨vs, rfl, h1⟩
 | (i, x) :: r, cs, cs', vs, qs, h, h1, h2 => by
   simp only [pvl] at h2
   cases hx : vl σ x with
   | none => rw [hx] at h2; cases h2
   | some v =>
     cases hr : pvl σ r with
     | none => rw [hx, hr] at h2; cases h2
     | some vs2 =>
       rw [hx, hr] at h2; obtain rfl := Option.some.inj h2; simp only [xfill] at h
       cases hp : place i with
       | none => rw [hp] at h; cases h
       | some q =>
         obtain ⟨off, size⟩ := q; rw [hp] at h; simp only at h; have hcx := cellsX_spec hx; have hl1 := vls_len hcx; have hl2 := vls_len h1
         cases hb : Nat.beq (cellsX x).length size with
         | false => rw [hb] at h; cases h
         | true =>
           cases hb2 : Nat.ble (off + (cellsX x).length) cs.length with
           | false => rw [hb, hb2] at h; cases h
           | true =>
             rw [hb, hb2] at h; have e1 := Nat.eq_of_beq_eq_true hb; have e2 := Nat.le_of_ble_eq_true hb2; obtain ⟨vs', g1, g2⟩ := xfill_spec h (setLX_spec off h1 hcx) hr; refine ⟨vs', ?_, g2⟩; rw [Instr.fill]; simp only [hp]; rw [if_neg]
             · rw [← g1]
               congr 1
               have hz : v.cells.zipIdx = (v.cells.toList.zipIdx 0).toArray := by apply Array.ext'; simp
               have := fold_setL v.cells.toList vs off 0; rw [hz, List.foldl_toArray]; simpa using this
             · have hsz : v.cells.toList.length = v.cells.size := Array.length_toList; simp; omega
def xparts (ρ : T X) : List (Nat × Operand) → Option (List (Nat × X))
 | [] => some []
 | (i, o) :: r => match evX ρ o, xparts ρ r with
   | some x, some xs => some ((i, x) :: xs)
   | _, _ => none
theorem xparts_spec {ρ : T X} {r : Env} (hE : EnvR σ ρ r) : ∀ {ps : List (Nat × Operand)} {xs : List (Nat × X)}, xparts ρ ps = some xs → pvl σ xs = some (pmap r.ev ps)
 | [], xs, h => by simp only [xparts, Option.some.injEq] at h; subst h; rfl
 | (i, o) :: q, xs, h => by
   simp only [xparts] at h
   cases hx : evX ρ o with
   | none => rw [hx] at h; cases h
   | some x =>
     cases hr : xparts ρ q with
     | none => rw [hx, hr] at h; cases h
     | some ys =>
       rw [hx, hr] at h; obtain rfl := Option.some.inj h; simp only [pvl, evX_spec hE hx, xparts_spec hE hr, pmap]
def xargs (ρ : T X) : List Operand → Option (List X)
 | [] => some []
 | o :: r => match evX ρ o, xargs ρ r with
   | some x, some xs => some (x :: xs)
   | _, _ => none
theorem xargs_spec {ρ : T X} {r : Env} (hE : EnvR σ ρ r) : ∀ {ps : List Operand} {xs : List X}, xargs ρ ps = some xs → vls σ xs = some (lmap r.ev ps)
 | [], xs, h => by simp only [xargs, Option.some.injEq] at h; subst h; rfl
 | o :: q, xs, h => by
   simp only [xargs] at h
   cases hx : evX ρ o with
   | none => rw [hx] at h; cases h
   | some x =>
     cases hr : xargs ρ q with
     | none => rw [hx, hr] at h; cases h
     | some ys =>
       rw [hx, hr] at h; obtain rfl := Option.some.inj h; exact vls_mk (evX_spec hE hx) (xargs_spec hE hr)
def zeroX (P : Program) (t : TypeId) : Option (List X) := match P.info? t with
 | some i => match i.zero with
   | some z => ofVs z.cells.toList
   | none => none
 | none => none
def bdX (P : Program) (t : TypeId) (ps : List (Nat × X)) : Option X := match P.underlying t with
 | some (.struct fields) => match zeroX P t, fields.toList.mapM (fun f => (P.info? f.type).map fun i => (f.offset, i.size)) with
   | some z, some places => match xfill (places.toArray[·]?) z ps with
     | some cs => some (.g cs)
     | none => none
   | _, _ => none
 | some (.array _ e) => match zeroX P t, P.info? e with
   | some z, some ie => match xfill (fun i => some (i * ie.size, ie.size)) z ps with
     | some cs => some (.g cs)
     | none => none
   | _, _ => none
 | _ => none
theorem zeroX_spec {t : TypeId} {xs : List X} (h : zeroX P t = some xs) : ∃ i z, P.info? t = some i ∧ i.zero = some z ∧ vls σ xs = some z.cells.toList := by
 unfold zeroX at h
 cases hi : P.info? t with
 | none => rw [hi] at h; cases h
 | some i =>
   rw [hi] at h; simp only at h
   cases hz : i.zero with
   | none => rw [hz] at h; cases h
   | some z => rw [hz] at h; exact ⟨i, z, rfl, hz, vls_ofVs h⟩
theorem bdX_spec {t : TypeId} {ps : List (Nat × X)} {x : X} {qs : Array (Nat × Value)} (h : bdX P t ps = some x) (hp : pvl σ ps = some qs.toList) : ∃ v, vl σ x = some v ∧ (Instr.build t qs).run P w = .ok v w := by
 unfold bdX at h; split at h
 · rename_i fields hu; split at h
   · rename_i z places hz hpl; split at h
     · rename_i cs hf; obtain rfl := Option.some.inj h; obtain ⟨i, zv, h1, h2, h3⟩ := zeroX_spec (σ := σ) hz; obtain ⟨vs', g1, g2⟩ := xfill_spec hf h3 hp; refine ⟨.agg vs'.toArray, by simp only [vl, g2], run_build w t qs _ ?_⟩; unfold Program.built; rw [h1, hu]; simp only [h2, hpl]; simpa using g1
     · cases h
   · cases h
 · rename_i n e hu; split at h
   · rename_i z ie hz hie; split at h
     · rename_i cs hf; obtain rfl := Option.some.inj h; obtain ⟨i, zv, h1, h2, h3⟩ := zeroX_spec (σ := σ) hz; obtain ⟨vs', g1, g2⟩ := xfill_spec hf h3 hp; refine ⟨.agg vs'.toArray, by simp only [vl, g2], run_build w t qs _ ?_⟩; unfold Program.built; rw [h1, hu]; simp only [h2, hie]; simpa using g1
     · cases h
   · cases h
 · cases h
def inX (n : Int) (l : Nat) : Option Nat := match n with
 | .ofNat m => match Nat.blt m l with
   | true => some m
   | false => none
 | _ => none
theorem inX_spec {n : Int} {l m : Nat} (h : inX n l = some m) : n = (m : Int) ∧ m < l := by
 unfold inX at h; split at h
 · rename_i k; split at h
   · rename_i hb; obtain rfl := Option.some.inj h; exact ⟨rfl, Nat.le_of_ble_eq_true hb⟩
   · cases h
 · cases h
def natX : X → Option Nat
 | .i _ (.ofNat m) => some m
 | _ => none
theorem natX_spec {x : X} {m : Nat} {v : Value} (h : natX x = some m) (hv : vl σ x = some v) : ∃ k, v = .int k (m : Int) := by
 unfold natX at h; split at h
 · rename_i k m'; obtain rfl := Option.some.inj h; simp only [vl, Option.some.injEq] at hv; exact ⟨k, hv.symm⟩
 · cases h
def bndX (ρ : T X) (d : Nat) : Option Operand → Option Nat
 | none => some d
 | some o => match evX ρ o with
   | some x => natX x
   | none => none
theorem bndX_spec {ρ : T X} {r : Env} (hE : EnvR σ ρ r) {d l : Nat} {o : Option Operand} (h : bndX ρ d o = some l) : bnd (o.map r.ev) d l := by
 cases o with
 | none => simp only [bndX, Option.some.injEq] at h; exact h.symm
 | some o =>
   simp only [bndX] at h
   cases hx : evX ρ o with
   | none => rw [hx] at h; cases h
   | some x =>
     rw [hx] at h; obtain ⟨k, hk⟩ := natX_spec h (evX_spec hE hx); exact ⟨k, hk⟩
theorem str_get {l : List Nat} {m : Nat} (h : m < l.length) : ((str l).data.toList.getD m 0).toNat = l.getD m 0 % 256 := by
 simp only [str]; rw [List.getD_eq_getElem?_getD, List.getD_eq_getElem?_getD, List.getElem?_map, List.getElem?_eq_getElem h]; simp
theorem str_cut {l : List Nat} {a b : Nat} : (str l).extract a b = str ((l.take b).drop a) := by
 apply ByteArray.ext; apply Array.ext'; rw [ByteArray.data_extract, Array.toList_extract, List.extract_eq_take_drop]; simp [str, List.drop_take]
def bytesX : List X → Option (List Nat)
 | [] => some []
 | .i .u8 (.ofNat m) :: r => match bytesX r with
   | some l => some (m :: l)
   | none => none
 | _ => none
theorem bytesX_spec : ∀ {xs : List X} {l : List Nat}, bytesX xs = some l → vls σ xs = some ((l.map fun (m : Nat) => (m : Int)).map (Value.int .u8))
 | [], l, h => by simp only [bytesX, Option.some.injEq] at h; subst h; rfl
 | x :: r, l, h => by
   unfold bytesX at h; split at h
   · rename_i heq; cases heq
   · rename_i m r' heq; cases heq
     cases hr : bytesX r with
     | none => rw [hr] at h; cases h
     | some l' =>
       rw [hr] at h; obtain rfl := Option.some.inj h; exact vls_mk rfl (bytesX_spec hr)
   · cases h
theorem fold_str (l : List Nat) : ∀ (a : List Nat), (l.map fun (m : Nat) => (m : Int)).foldl (fun r n => r.push (UInt8.ofNat n.toNat)) (str a) = str (a ++ l) := by
 induction l with
 | nil => intro a; simp
 | cons c l ih =>
   intro a; rw [List.map_cons, List.foldl_cons]
   have : (str a).push (UInt8.ofNat (c : Int).toNat) = str (a ++ [c]) := by
     apply ba_ext; simp [str, ByteArray.push]
   rw [this, ih, List.append_assoc]; rfl
def strX (s : St) : X → Option X
 | .l none _ _ => some (.s [])
 | .l (some a) n _ => match s.blk a.1 with
   | some c => match Nat.beq ((c.2.drop a.2).take n).length n, bytesX ((c.2.drop a.2).take n) with
     | true, some l => some (.s l)
     | _, _ => none
   | none => none
 | _ => none
theorem strX_spec (h : Mem P base σ s w) {t d e : TypeId} (h1 : P.underlying t = some (.slice e)) (h2 : P.underlying e = some (.int .u8)) (h3 : P.underlying d = some .string) {x y : X} {v : Value} (hx : vl σ x = some v) (hy : strX s x = some y) :
   ∃ u, vl σ y = some u ∧ (convert t d v).run P w = .ok u w := by
 unfold strX at hy; split at hy
 · rename_i n c; obtain rfl := Option.some.inj hy; simp only [vl, Option.some.injEq] at hx; subst hx; refine ⟨.string (str []), rfl, ?_⟩; rw [run_convert_bytes_string (P := P) w t d e none _ c h1 h2 h3]; rfl
 · rename_i a n c; simp only [vl] at hx; split at hy
   · rename_i cb hb; obtain ⟨be, cs⟩ := cb; split at hy
     · rename_i l hl hby
       obtain rfl := Option.some.inj hy; obtain ⟨rb, off, k, pre, vs, sp, post, g⟩ := h.own a.1 be cs hb; rw [g.sg_] at hx; obtain rfl := Option.some.inj hx; simp only at hl hby ⊢; refine ⟨.string (str l), rfl, ?_⟩; have hv := vls_take n (vls_drop a.2 g.val); have hlen := Nat.eq_of_beq_eq_true hl; rw [vls_len hv] at hlen
       have hvb := bytesX_spec (σ := σ) hby
       rw [hv] at hvb; have hvs := Option.some.inj hvb; rw [run_convert_bytes_string (P := P) w t d e _ _ _ h1 h2 h3]
       have hload : (loadCells (⟨rb, off + a.2, none⟩ : Addr) n).run P w = .ok ((l.map fun (m : Nat) => (m : Int)).map (Value.int .u8)).toArray w := by
         have := Vc.run_loadCells (P := P) (w := w) (a := ⟨rb, off + a.2, none⟩) (cs := ((vs.drop a.2).take n).toArray) (fun j v hj => by
           have hj2 : ((vs.drop a.2).take n)[j]? = some v := by simpa using hj
           rw [add_off]; have hjn := (List.getElem?_eq_some_iff.1 hj2).1; rw [List.getElem?_take_of_lt (by omega), List.getElem?_drop] at hj2
           rw [show off + a.2 + j = off + (a.2 + j) by omega, g.cell (List.getElem?_eq_some_iff.1 hj2).1, hj2])
         rw [← hvs]
         have hsz : ((vs.drop a.2).take n).toArray.size = n := by simpa using hlen
         rw [hsz] at this; exact this
       rw [run_bytesToString (P := P) w _ n _ _ hload]; have := fold_str l []; rw [show str [] = ByteArray.empty from rfl] at this; rw [this]; rfl
     · cases hy
   · cases hy
 · cases hy
end
end Go.Ev
/- A verified evaluator for closed calls: equality, maps, methods. No program in sight. -/
namespace Go.Ev
open Go Go.Vc
noncomputable section
variable {P : Program} {base : Bs} {σ : Sg} {s : St} {w w' : World}
def partX (P : Program) (e : TypeId) (xs : List X) (off : Nat) : Option X := match P.underlying e with
 | some (.struct _) | some (.array _ _) => (match P.info? e with
   | some i => some (.g ((xs.drop off).take i.size))
   | none => none)
 | some _ => xs[off]?
 | none => none
theorem cut_arr (vs : List Value) (a n : Nat) : vs.toArray.extract a (a + n) = ((vs.drop a).take n).toArray := by
 apply Array.ext'; rw [Array.toList_extract, List.extract_eq_take_drop]; simp
theorem partX_ok {e : TypeId} {xs : List X} {off : Nat} {x : X} {vs : List Value} (h : partX P e xs off = some x) (hv : vls σ xs = some vs) : ∃ v, vl σ x = some v ∧ ∀ w, (part e vs.toArray off).run P w = .ok v w := by
 unfold partX at h
 have big : ∀ d, P.underlying e = some d → ((∃ fs, d = .struct fs) ∨ ∃ n e, d = .array n e) → (match P.info? e with
   | some i => some (X.g ((xs.drop off).take i.size))
   | none => none) = some x → ∃ v, vl σ x = some v ∧ ∀ w, (part e vs.toArray off).run P w = .ok v w := by
   intro d hu hd h
   cases hi : P.info? e with
   | none => rw [hi] at h; cases h
   | some i =>
     rw [hi] at h; obtain rfl := Option.some.inj h; refine ⟨.agg ((vs.drop off).take i.size).toArray, ?_, fun w => ?_⟩
     · simp only [vl, vls_take i.size (vls_drop off hv)]
     · simp only [part, Sem.run_bind, run_agg_yes hu hd, Result.andThen_ok, if_true, run_sz hi, Sem.run_pure, cut_arr]
 cases hu : P.underlying e with
 | none => rw [hu] at h; cases h
 | some d =>
   rw [hu] at h
   cases d with
   | struct fs => exact big _ hu (.inl ⟨_, rfl⟩) h
   | array n a => exact big _ hu (.inr ⟨_, _, rfl⟩) h
   | _ =>
     obtain ⟨v, g1, g2⟩ := vls_get hv h; refine ⟨v, g2, fun w => ?_⟩
     have g1' : vs.toArray[off]? = some v := by simpa using g1
     simp only [part, Sem.run_bind, run_agg_no hu (fun fs h => by cases h) (fun n e h => by cases h), Result.andThen_ok, Bool.false_eq_true, if_false, g1', Sem.run_pure]
def eq1 : TypeDesc → X → X → Option Bool
 | .bool, .b a, .b b => some (a == b)
 | .int _, .i k a, .i k' b => (match decide (k = k') with
   | true => some (a == b)
   | false => none)
 | .string, .s a, .s b => some (eqN a b)
 | .pointer _, .p none, .p b => some b.isNone
 | .pointer _, .p (some _), .p none => some false
 | .interface _, .ni, .ni => some true
 | .interface _, .ni, .fc _ _ => some false
 | .interface _, .fc _ _, .ni => some false
 | .slice _, .l none _ _, .l b _ _ => some b.isNone
 | .slice _, .l (some _) _ _, .l none _ _ => some false
 | .slice _, .e0 _ _ _, .l none _ _ => some false
 | .slice _, .l none _ _, .e0 _ _ _ => some false
 | .map _ _, .m none, .m b => some b.isNone
 | .map _ _, .m (some _), .m none => some false
 | .func _ _ _, .nf, .nf => some true
 | .func _ _ _, .nf, .f _ _ _ => some false
 | .func _ _ _, .f _ _ _, .nf => some false
 | _, _, _ => none
theorem vl_ps {a : Nat × Nat} {v : Value} (h : vl σ (.p (some a)) = some v) : ∃ q, v = .pointer (some q) := by
 simp only [vl] at h
 cases hs : σ a.1 with
 | none => rw [hs] at h; cases h
 | some r => rw [hs] at h; exact ⟨_, (Option.some.inj h).symm⟩
theorem vl_ls {a : Nat × Nat} {n c : Nat} {v : Value} (h : vl σ (.l (some a) n c) = some v) : ∃ q m d, v = .slice (some q) m d := by
 simp only [vl] at h
 cases hs : σ a.1 with
 | none => rw [hs] at h; cases h
 | some r => rw [hs] at h; exact ⟨_, _, _, (Option.some.inj h).symm⟩
theorem vl_es {b o q : Nat} {v : Value} (h : vl σ (.e0 b o q) = some v) : ∃ p m, v = .slice (some p) 0 m := by
 simp only [vl] at h
 cases hs : σ b with
 | none => rw [hs] at h; cases h
 | some r => rw [hs] at h; exact ⟨_, _, (Option.some.inj h).symm⟩
theorem vl_ms {a : Nat} {v : Value} (h : vl σ (.m (some a)) = some v) : ∃ q, v = .map (some q) := by
 simp only [vl] at h
 cases hs : σ a with
 | none => rw [hs] at h; cases h
 | some r => rw [hs] at h; exact ⟨_, (Option.some.inj h).symm⟩
theorem vl_fs {fn : Fn} {a c : List X} {v : Value} (h : vl σ (.f fn a c) = some v) : ∃ us vs, v = .func fn us.toArray vs.toArray ∧ vls σ a = some us ∧ vls σ c = some vs := by
 simp only [vl] at h
 cases hs : vls σ a with
 | none => rw [hs] at h; cases h
 | some r =>
   cases hc : vls σ c with
   | none => rw [hs, hc] at h; cases h
   | some r' => rw [hs, hc] at h; exact ⟨_, _, (Option.some.inj h).symm, rfl, rfl⟩
theorem vl_fcs {t : TypeId} {x : X} {v : Value} (h : vl σ (.fc t x) = some v) : ∃ u, v = .iface t u ∧ vl σ x = some u := by
 simp only [vl] at h
 cases hs : vl σ x with
 | none => rw [hs] at h; cases h
 | some r => rw [hs] at h; exact ⟨_, (Option.some.inj h).symm, rfl⟩
theorem eq1_ok {t : TypeId} {d : TypeDesc} {x y : X} {u v : Value} {b : Bool} (hu : P.underlying t = some d) (h : eq1 d x y = some b) (hx : vl σ x = some u) (hy : vl σ y = some v) (D : Nat) (w : World) : (Op.equalIn (D + 1) t u v).run P w = .ok b w := by
 unfold eq1 at h; split at h
 · simp only [vl, Option.some.injEq] at hx hy h; subst hx; subst hy; subst h; exact run_equalIn_bool' w D t _ _ hu
 · split at h
   · rename_i hk; have hk := of_decide_eq_true hk; subst hk; simp only [vl, Option.some.injEq] at hx hy h; subst hx; subst hy; subst h; exact run_equalIn_int w D t _ _ _ _ hu
   · cases h
 · simp only [vl, Option.some.injEq] at hx hy h; subst hx; subst hy; subst h; rw [run_equalIn_string w D t _ _ hu, eqN_spec, seq_eq]
 · rename_i q; simp only [vl, Option.some.injEq] at hx h; subst hx; subst h
   cases q with
   | none => simp only [vl, Option.some.injEq] at hy; subst hy; simp [Op.equalIn, run_underlying hu]
   | some q => obtain ⟨q', rfl⟩ := vl_ps hy; simp [Op.equalIn, run_underlying hu]
 · simp only [vl, Option.some.injEq] at hy h; subst hy; subst h; obtain ⟨q', rfl⟩ := vl_ps hx; simp [Op.equalIn, run_underlying hu]
 · simp only [vl, Option.some.injEq] at hx hy h; subst hx; subst hy; subst h; simp [Op.equalIn, run_underlying hu]
 · simp only [vl, Option.some.injEq] at hx h; subst hx; subst h; obtain ⟨q', rfl, _⟩ := vl_fcs hy; simp [Op.equalIn, run_underlying hu]
 · simp only [vl, Option.some.injEq] at hy h; subst hy; subst h; obtain ⟨q', rfl, _⟩ := vl_fcs hx; simp [Op.equalIn, run_underlying hu]
 · rename_i q _ _; simp only [vl, Option.some.injEq] at hx h; subst hx; subst h
   cases q with
   | none => simp only [vl, Option.some.injEq] at hy; subst hy; simp [Op.equalIn, run_underlying hu]
   | some q => obtain ⟨q', _, _, rfl⟩ := vl_ls hy; simp [Op.equalIn, run_underlying hu]
 · simp only [vl, Option.some.injEq] at hy h; subst hy; subst h; obtain ⟨q', _, _, rfl⟩ := vl_ls hx; simp [Op.equalIn, run_underlying hu]
 · simp only [vl, Option.some.injEq] at hy h; subst hy; subst h; obtain ⟨q', _, rfl⟩ := vl_es hx; simp [Op.equalIn, run_underlying hu]
 · simp only [vl, Option.some.injEq] at hx h; subst hx; subst h; obtain ⟨q', _, rfl⟩ := vl_es hy; simp [Op.equalIn, run_underlying hu]
 · rename_i q; simp only [vl, Option.some.injEq] at hx h; subst hx; subst h
   cases q with
   | none => simp only [vl, Option.some.injEq] at hy; subst hy; simp [Op.equalIn, run_underlying hu]
   | some q => obtain ⟨q', rfl⟩ := vl_ms hy; simp [Op.equalIn, run_underlying hu]
 · simp only [vl, Option.some.injEq] at hy h; subst hy; subst h; obtain ⟨q', rfl⟩ := vl_ms hx; simp [Op.equalIn, run_underlying hu]
 · simp only [vl, Option.some.injEq] at hx hy h; subst hx; subst hy; subst h; simp [Op.equalIn, run_underlying hu]
 · simp only [vl, Option.some.injEq] at hx h; subst hx; subst h; obtain ⟨_, _, rfl, _⟩ := vl_fs hy; simp [Op.equalIn, run_underlying hu]
 · simp only [vl, Option.some.injEq] at hy h; subst hy; subst h; obtain ⟨_, _, rfl, _⟩ := vl_fs hx; simp [Op.equalIn, run_underlying hu]
 · cases h
def eqFs (P : Program) (eq : TypeId → X → X → Option Bool) (xs ys : List X) : List Field → Option Bool
 | [] => some true
 | f :: fs => match f.name == "_" with
   | true => eqFs P eq xs ys fs
   | false => (match partX P f.type xs f.offset, partX P f.type ys f.offset with
     | some a, some b => (match eq f.type a b with
       | some true => eqFs P eq xs ys fs
       | some false => some false
       | none => none)
     | _, _ => none)
def eqIs (P : Program) (eq : TypeId → X → X → Option Bool) (e : TypeId) (c : Nat) (xs ys : List X) : List Nat → Option Bool
 | [] => some true
 | i :: is => (match partX P e xs (i * c), partX P e ys (i * c) with
   | some a, some b => (match eq e a b with
     | some true => eqIs P eq e c xs ys is
     | some false => some false
     | none => none)
   | _, _ => none)
def eqT (P : Program) : Nat → TypeId → X → X → Option Bool
 | 0, _, _, _ => none
 | d + 1, t, x, y => match P.underlying t with
   | some (.struct fs) => (match P.stoodInHeld t, x, y with
     | false, .g xs, .g ys => eqFs P (eqT P d) xs ys fs.toList
     | _, _, _ => none)
   | some (.array n e) => (match P.info? e, x, y with
     | some i, .g xs, .g ys => eqIs P (eqT P d) e i.size xs ys (List.range n)
     | _, _, _ => none)
   | some k => eq1 k x y
   | none => none
def EqOk (P : Program) (σ : Sg) (D : Nat) (eq : TypeId → X → X → Option Bool) : Prop := ∀ t x y u v b, eq t x y = some b → vl σ x = some u → vl σ y = some v → ∀ w, (Op.equalIn D t u v).run P w = .ok b w
theorem eqFs_ok {D : Nat} {eq : TypeId → X → X → Option Bool} (he : EqOk P σ D eq) {xs ys : List X} {us vs : List Value} (hx : vls σ xs = some us) (hy : vls σ ys = some vs) : ∀ {fs : List Field} {b : Bool}, eqFs P eq xs ys fs = some b → ∀ w, (Op.eqFields D us.toArray vs.toArray fs).run P w = .ok b w
 | [], b, h, w => by obtain rfl := Option.some.inj h; rfl
 | f :: fs, b, h, w => by
   simp only [eqFs] at h; unfold Op.eqFields
   cases hn : f.name == "_" with
   | true =>
     rw [hn] at h
     have hn' : f.name = "_" := by simpa using hn
     rw [if_neg (by simp [hn'])]; exact eqFs_ok he hx hy h w
   | false =>
     rw [hn] at h
     have hn' : f.name ≠ "_" := by simpa using hn
     rw [if_pos hn']; simp only at h; split at h
     · rename_i a c ha hc; obtain ⟨v1, g1, g2⟩ := partX_ok ha hx; obtain ⟨v2, g3, g4⟩ := partX_ok hc hy; split at h
       · rename_i hb; simp only [Sem.run_bind, g2, g4, Result.andThen_ok, he _ _ _ _ _ _ hb g1 g3, Bool.not_true, Bool.false_eq_true, if_false]; exact eqFs_ok he hx hy h w
       · rename_i hb; obtain rfl := Option.some.inj h; simp only [Sem.run_bind, g2, g4, Result.andThen_ok, he _ _ _ _ _ _ hb g1 g3, Bool.not_false, if_true, Sem.run_pure]
       · cases h
     · cases h
theorem eqIs_ok {D : Nat} {eq : TypeId → X → X → Option Bool} (he : EqOk P σ D eq) {e : TypeId} {xs ys : List X} {us vs : List Value} {c : Nat} (hx : vls σ xs = some us) (hy : vls σ ys = some vs) : ∀ {is : List Nat} {b : Bool}, eqIs P eq e c xs ys is = some b → ∀ w, (Op.eqItems D e c us.toArray vs.toArray is).run P w = .ok b w
 | [], b, h, w => by obtain rfl := Option.some.inj h; rfl
 | i :: is, b, h, w => by
   simp only [eqIs] at h; unfold Op.eqItems; split at h
   · rename_i a q ha hc; obtain ⟨v1, g1, g2⟩ := partX_ok ha hx; obtain ⟨v2, g3, g4⟩ := partX_ok hc hy; split at h
     · rename_i hb; simp only [Sem.run_bind, g2, g4, Result.andThen_ok, he _ _ _ _ _ _ hb g1 g3, Bool.not_true, Bool.false_eq_true, if_false]; exact eqIs_ok he hx hy h w
     · rename_i hb; obtain rfl := Option.some.inj h; simp only [Sem.run_bind, g2, g4, Result.andThen_ok, he _ _ _ _ _ _ hb g1 g3, Bool.not_false, if_true, Sem.run_pure]
     · cases h
   · cases h
theorem eqT_ok (k : Nat) : ∀ d, EqOk P σ (d + k) (eqT P d)
 | 0 => fun t x y u v b h => by simp only [eqT] at h; cases h
 | d + 1 => fun t x y u v b h hx hy w => by
   simp only [eqT] at h
   have hd : d + 1 + k = d + k + 1 := by omega
   rw [hd]
   cases hu : P.underlying t with
   | none => rw [hu] at h; cases h
   | some q =>
     rw [hu] at h
     cases q with
     | struct fs =>
       simp only at h; split at h
       · rename_i xs ys hp; simp only [vl] at hx hy
         cases h1 : vls σ xs with
         | none => rw [h1] at hx; cases hx
         | some us =>
           cases h2 : vls σ ys with
           | none => rw [h2] at hy; cases hy
           | some vs =>
             rw [h1] at hx; rw [h2] at hy; obtain rfl := Option.some.inj hx; obtain rfl := Option.some.inj hy
             have hf : P.fieldsOf t = fs := by unfold Program.fieldsOf; rw [hu]
             rw [run_equalIn_struct w (d + k) t _ _ (by rw [hf]; exact hu) hp, hf]; exact eqFs_ok (eqT_ok k d) h1 h2 h w
       · cases h
     | array n e =>
       simp only at h; split at h
       · rename_i i xs ys hi; simp only [vl] at hx hy
         cases h1 : vls σ xs with
         | none => rw [h1] at hx; cases hx
         | some us =>
           cases h2 : vls σ ys with
           | none => rw [h2] at hy; cases hy
           | some vs =>
             rw [h1] at hx; rw [h2] at hy; obtain rfl := Option.some.inj hx; obtain rfl := Option.some.inj hy; rw [run_equalIn_array w (d + k) _ _ hu hi, show P.cellsOf e = i.size by unfold Program.cellsOf; rw [hi]; rfl]; exact eqIs_ok (eqT_ok k d) h1 h2 h w
       · cases h
     | _ => exact eq1_ok hu h hx hy (d + k) w
def isC : Operand → Bool
 | .const _ => true
 | _ => false
def gdE (P : Program) (t : TypeId) (A B : Operand) : X → X → Bool
 | .ni, .ni => (match isC A with
   | true => true
   | false => isC B)
 | .g _, .g _ => (match P.eqGuardType P.depth t with
   | true => false
   | false => true)
 | _, _ => true
theorem isC_ok {A : Operand} (h : isC A = true) : ∃ v, A = .const v := by
 cases A with
 | const v => exact ⟨v, rfl⟩
 | _ => cases h
theorem vl_nil {x : X} (h : vl σ x = some .nilIface) : x = .ni := by
 cases x with
 | ni => rfl
 | p a => cases a with
   | none => simp [vl] at h
   | some a => obtain ⟨_, h⟩ := vl_ps h; cases h
 | l a n c => cases a with
   | none => simp [vl] at h
   | some a => obtain ⟨_, _, _, h⟩ := vl_ls h; cases h
 | m a => cases a with
   | none => simp [vl] at h
   | some a => obtain ⟨_, h⟩ := vl_ms h; cases h
 | f fn a c => obtain ⟨_, _, h, _⟩ := vl_fs h; cases h
 | e0 b o q => obtain ⟨_, _, h⟩ := vl_es h; cases h
 | fc t x => obtain ⟨_, h, _⟩ := vl_fcs h; cases h
 | g xs => simp only [vl] at h; cases hs : vls σ xs <;> rw [hs] at h <;> cases h
 | t xs => simp only [vl] at h; cases hs : vls σ xs <;> rw [hs] at h <;> cases h
 | _ => simp [vl] at h
theorem vl_agg {x : X} {cs : Array Value} (h : vl σ x = some (.agg cs)) : ∃ xs vs, x = .g xs ∧ vls σ xs = some vs ∧ cs = vs.toArray := by
 cases x with
 | g xs =>
   simp only [vl] at h
   cases hs : vls σ xs with
   | none => rw [hs] at h; cases h
   | some vs => rw [hs] at h; exact ⟨xs, vs, rfl, hs, by have := Option.some.inj h; cases this; rfl⟩
 | p a => cases a with
   | none => simp [vl] at h
   | some a => obtain ⟨_, h⟩ := vl_ps h; cases h
 | l a n c => cases a with
   | none => simp [vl] at h
   | some a => obtain ⟨_, _, _, h⟩ := vl_ls h; cases h
 | m a => cases a with
   | none => simp [vl] at h
   | some a => obtain ⟨_, h⟩ := vl_ms h; cases h
 | f fn a c => obtain ⟨_, _, h, _⟩ := vl_fs h; cases h
 | e0 b o q => obtain ⟨_, _, h⟩ := vl_es h; cases h
 | fc t x => obtain ⟨_, h, _⟩ := vl_fcs h; cases h
 | t xs => simp only [vl] at h; cases hs : vls σ xs <;> rw [hs] at h <;> cases h
 | _ => simp [vl] at h
theorem gd_main {t : TypeId} {A B : Operand} {u v : Value} {op : BinOp} (w : World) (hn : u = .nilIface → v = .nilIface → isC A = true ∨ isC B = true) (ha : ∀ cs ds, u = .agg cs → v = .agg ds → P.eqGuardType P.depth t = false) : (eqGuard op t A B u v).run P w = .ok () w := by
 have key : ∀ q : BinOp, (q = .eql ∨ q = .neq) → (eqGuard q t A B u v).run P w = .ok () w := by
   intro q hq; unfold eqGuard; rw [if_neg (by rcases hq with rfl | rfl <;> decide)]; split
   · rcases hn rfl rfl with h | h
     · obtain ⟨v, rfl⟩ := isC_ok h; rfl
     · obtain ⟨v, rfl⟩ := isC_ok h; simp
   · simp [run_program, ha _ _ rfl rfl]
   · rfl
 cases op with
 | eql => exact key _ (.inl rfl)
 | neq => exact key _ (.inr rfl)
 | _ => rfl
theorem gdE_ok {t : TypeId} {A B : Operand} {x y : X} {u v : Value} {op : BinOp} (h : gdE P t A B x y = true) (hx : vl σ x = some u) (hy : vl σ y = some v) (w : World) : (eqGuard op t A B u v).run P w = .ok () w := by
 refine gd_main w (fun h1 h2 => ?_) fun cs ds h1 h2 => ?_
 · subst h1; subst h2; have h1 := vl_nil hx; have h2 := vl_nil hy; subst h1; subst h2; simp only [gdE] at h
   cases hA : isC A with
   | true => exact .inl rfl
   | false => rw [hA] at h; exact .inr h
 · subst h1; subst h2; obtain ⟨xs, us, rfl, _⟩ := vl_agg hx; obtain ⟨ys, vs, rfl, _⟩ := vl_agg hy; simp only [gdE] at h
   cases hg : P.eqGuardType P.depth t with
   | true => rw [hg] at h; cases h
   | false => rfl
def beX (P : Program) (op : BinOp) (t : TypeId) (A B : Operand) (x y : Option X) : Option X := match x, y with
 | some x, some y => (match gdE P t A B x y with
   | true => (match op with
     | .eql => (match eqT P 20 t x y with
       | some b => some (.b b)
       | none => none)
     | .neq => (match eqT P 20 t x y with
       | some b => some (.b (!b))
       | none => none)
     | _ => none)
   | false => none)
 | _, _ => none
def oddV : Value → Bool
 | .agg _ | .slice _ _ _ | .map _ | .func _ _ _ | .nilFunc | .iface _ _ | .nilIface => true
 | _ => false
theorem eq1_odd {d : TypeDesc} {x y : X} {u v : Value} {b : Bool} (h1 : ∀ k, d ≠ .int k) (h2 : d ≠ .string) (h3 : d ≠ .bool) (h4 : ∀ e, d ≠ .pointer e) (h : eq1 d x y = some b) (hx : vl σ x = some u) (hy : vl σ y = some v) : oddV u = true := by
 unfold eq1 at h; split at h
 · exact absurd rfl h3
 · exact absurd rfl (h1 _)
 · exact absurd rfl h2
 · exact absurd rfl (h4 _)
 · exact absurd rfl (h4 _)
 · simp only [vl, Option.some.injEq] at hx; subst hx; rfl
 · simp only [vl, Option.some.injEq] at hx; subst hx; rfl
 · obtain ⟨_, rfl, _⟩ := vl_fcs hx; rfl
 · simp only [vl, Option.some.injEq] at hx; subst hx; rfl
 · obtain ⟨_, _, _, rfl⟩ := vl_ls hx; rfl
 · obtain ⟨_, _, rfl⟩ := vl_es hx; rfl
 · simp only [vl, Option.some.injEq] at hx; subst hx; rfl
 · simp only [vl, Option.some.injEq] at hx; subst hx; rfl
 · obtain ⟨_, rfl⟩ := vl_ms hx; rfl
 · simp only [vl, Option.some.injEq] at hx; subst hx; rfl
 · simp only [vl, Option.some.injEq] at hx; subst hx; rfl
 · obtain ⟨_, _, rfl, _⟩ := vl_fs hx; rfl
 · cases h
theorem eqT_odd {t : TypeId} {d : TypeDesc} {n : Nat} {x y : X} {u v : Value} {b : Bool} (hd : P.underlying t = some d) (h1 : ∀ k, d ≠ .int k) (h2 : d ≠ .string) (h3 : d ≠ .bool) (h4 : ∀ e, d ≠ .pointer e) (h : eqT P n t x y = some b) (hx : vl σ x = some u) (hy : vl σ y = some v) : oddV u = true := by
 cases n with
 | zero => simp only [eqT] at h; cases h
 | succ n =>
   simp only [eqT, hd] at h
   cases d with
   | struct fs =>
     simp only at h; split at h
     · simp only [vl] at hx; rename_i xs ys hp
       cases hs : vls σ xs <;> rw [hs] at hx
       · cases hx
       · obtain rfl := Option.some.inj hx; rfl
     · cases h
   | array n e =>
     simp only at h; split at h
     · simp only [vl] at hx; rename_i i xs ys hp
       cases hs : vls σ xs <;> rw [hs] at hx
       · cases hx
       · obtain rfl := Option.some.inj hx; rfl
     · cases h
   | _ => exact eq1_odd h1 h2 h3 h4 h hx hy
theorem beX_ok {t : TypeId} {d : TypeDesc} {op : BinOp} {A B : Operand} {x y : Option X} {z : X} {f : Operand → Value} (hd : P.underlying t = some d) (h1 : ∀ k, d ≠ .int k) (h2 : d ≠ .string) (h3 : d ≠ .bool) (h4 : ∀ e, d ≠ .pointer e)
   (h : beX P op t A B x y = some z) (hx : ∀ a, x = some a → vl σ a = some (f A)) (hy : ∀ a, y = some a → vl σ a = some (f B)) {w : World} {K : Value → Prop} (hK : ∀ v, vl σ z = some v → K v) : Be P op t A B (f A) (f B) w K := by
 unfold beX at h; split at h
 · rename_i x y; have hx := hx _ rfl; have hy := hy _ rfl; split at h
   · rename_i hg; have gd := fun w => gdE_ok (op := op) hg hx hy w; have fin : ∀ b : Bool, eqT P 20 t x y = some b → (Op.equal t (f A) (f B)).run P w = .ok b w ∧ oddV (f A) = true := fun b hb => ⟨eqT_ok 9980 20 t x y _ _ b hb hx hy w, eqT_odd hd h1 h2 h3 h4 hb hx hy⟩; split at h
     · split at h
       · rename_i b hb; obtain rfl := Option.some.inj h; obtain ⟨g1, g2⟩ := fin b hb; refine ⟨.bool b, ?_, hK _ rfl⟩; rw [Sem.run_bind, gd w]; simp only [Result.andThen_ok]; clear fin gd hK hx hy; generalize f A = p at g1 g2 ⊢; generalize f B = q at g1 ⊢
         cases p <;> first | exact Bool.noConfusion g2 | (cases q <;> simp only [binOp, Sem.run_bind, g1, Result.andThen_ok, Sem.run_pure])
       · cases h
     · split at h
       · rename_i b hb; obtain rfl := Option.some.inj h; obtain ⟨g1, g2⟩ := fin b hb; refine ⟨.bool (!b), ?_, hK _ rfl⟩; rw [Sem.run_bind, gd w]; simp only [Result.andThen_ok]; clear fin gd hK hx hy; generalize f A = p at g1 g2 ⊢; generalize f B = q at g1 ⊢
         cases p <;> first | exact Bool.noConfusion g2 | (cases q <;> simp only [binOp, Sem.run_bind, g1, Result.andThen_ok, Sem.run_pure])
       · cases h
     · cases h
   · cases h
 · cases h
theorem mgetObj {r : Nat} {es : Array MapEntry} {clock : Nat} (hb : w.heap[r]? = some (.map es clock)) : (getObj r).run P w = .ok (.map es clock) w := by
 simp [getObj, Sem.run, hb]
theorem msetObj {r : Nat} {es : Array MapEntry} {clock : Nat} (o : Obj) (hb : w.heap[r]? = some (.map es clock)) : (setObj r o).run P w = .ok () { w with heap := w.heap.setIfInBounds r o } := by
 simp [setObj, Sem.run, hb]
theorem mfindKey {kt : TypeId} {d : TypeDesc} {k : Value} {l : List MapEntry} {a : Option (Nat × Value)} (hd : P.underlying kt = some d) (h : Instr.findNow d k l 0 = some a) : (Instr.findKey kt k l).run P w = .ok a w := by
 simp [Instr.findKey, run_underlying hd, Result.andThen, h]
def keyOk : TypeDesc → X → Bool
 | .int _, .i _ _ => true
 | .string, .s _ => true
 | _, _ => false
def keyEq : X → X → Option Bool
 | .i k a, .i k' b => (match decide (k = k') with
   | true => some (a == b)
   | false => none)
 | .s a, .s b => some (eqN a b)
 | _, _ => none
def findX (k : X) : List (X × X) → Nat → Option (Option (Nat × X))
 | [], _ => some none
 | e :: es, i => match keyEq k e.1 with
   | some true => some (some (i, e.2))
   | some false => findX k es (i + 1)
   | none => none
theorem keyEq_ok {d : TypeDesc} {x y : X} {u v : Value} {b : Bool} (hk : keyOk d x = true) (h : keyEq x y = some b) (hx : vl σ x = some u) (hy : vl σ y = some v) : Instr.sameNow d u v = some b := by
 unfold keyEq at h; split at h
 · split at h
   · rename_i hk'; have hk' := of_decide_eq_true hk'; subst hk'; simp only [vl, Option.some.injEq] at hx hy h; subst hx; subst hy; subst h
     cases d <;> simp [keyOk] at hk
     simp [Instr.sameNow]
   · cases h
 · simp only [vl, Option.some.injEq] at hx hy h; subst hx; subst hy; subst h
   cases d <;> simp [keyOk] at hk
   simp only [Instr.sameNow]; rw [beq_toListBytes, seq_eq, eqN_spec]
 · cases h
def FX (σ : Sg) (k : X) (es : List (X × X)) (i : Nat) : Option (Nat × X) → Option (Nat × Value) → Prop
 | none, none => True
 | some r, some q => r.1 = q.1 ∧ vl σ r.2 = some q.2 ∧ i ≤ r.1 ∧ (∃ e, es[r.1 - i]? = some e ∧ keyEq k e.1 = some true)
 | _, _ => False
theorem findX_ok {d : TypeDesc} {k : X} {kv : Value} (hk : keyOk d k = true) (hv : vl σ k = some kv) : ∀ {es : List (X × X)} {l : List MapEntry} {i : Nat} {r : Option (Nat × X)}, EsR σ es l → findX k es i = some r →
   ∃ q, Instr.findNow d kv l i = some q ∧ FX σ k es i r q
 | [], [], i, r, _, h => by
   obtain rfl := Option.some.inj h; exact ⟨none, rfl, trivial⟩
 | (a, b) :: es, e :: l, i, r, ⟨h1, h2, h3⟩, h => by
   simp only [findX] at h
   cases hq : keyEq k a with
   | none => rw [hq] at h; cases h
   | some c =>
     have hs := keyEq_ok hk hq hv h1; rw [hq] at h
     cases c with
     | true =>
       obtain rfl := Option.some.inj h; exact ⟨some (i, e.val), by simp [Instr.findNow, hs], rfl, h2, Nat.le_refl _, (a, b), by simp, hq⟩
     | false =>
       obtain ⟨q, g1, g2⟩ := findX_ok hk hv (i := i + 1) h3 h; refine ⟨q, by simp [Instr.findNow, hs, g1], ?_⟩
       cases r with
       | none =>
         cases q with
         | none => trivial
         | some q => exact g2.elim
       | some r =>
         obtain ⟨j, x⟩ := r
         cases q with
         | none => exact g2.elim
         | some q =>
           obtain ⟨j', v⟩ := q; obtain ⟨e1, e2, e3, e', e4, e5⟩ := g2; refine ⟨e1, e2, Nat.le_of_succ_le e3, e', ?_, e5⟩; show ((a, b) :: es)[j - i]? = _; have e3' : i + 1 ≤ j := e3; rw [show j - i = (j - (i + 1)) + 1 by omega, List.getElem?_cons_succ]; exact e4
 | [], _ :: _, _, _, h, _ => h.elim
 | _ :: _, [], _, _, h, _ => h.elim
theorem checkKey_ok {d : TypeDesc} {kt : TypeId} {k : X} {kv : Value} (hd : P.underlying kt = some d) (hk : keyOk d k = true) (hv : vl σ k = some kv) (e : Bool) (n : Nat) (w : World) : (Instr.checkKey e (n + 1) kt kv).run P w = .ok () w := by
 unfold Instr.checkKey; simp only [Sem.run_bind, run_underlying hd, Result.andThen]
 cases d <;> cases k <;> simp [keyOk] at hk
 all_goals (simp only [vl, Option.some.injEq] at hv; subst hv; rfl)
def zeroVX (P : Program) (t : TypeId) : Option X := match P.info? t with
 | some i => (match i.zero with
   | some (.agg cs) => (match ofVs cs.toList with
     | some xs => some (.g xs)
     | none => none)
   | some z => ofV z
   | none => none)
 | none => none
theorem zeroVX_ok {t : TypeId} {x : X} (h : zeroVX P t = some x) : ∃ z, vl σ x = some z ∧ ∀ w, (zeroValue t).run P w = .ok z w := by
 unfold zeroVX at h; split at h
 · rename_i i hi
   have run : ∀ z, i.zero = some z → ∀ w, (zeroValue t).run P w = .ok z w := fun z hz w => by simp [zeroValue, typeInfo, hi, hz]
   split at h
   · rename_i cs hz; split at h
     · rename_i xs hxs; obtain rfl := Option.some.inj h; refine ⟨_, ?_, run _ hz⟩; simp only [vl, vls_ofVs hxs]
     · cases h
   · rename_i z _ hz; exact ⟨_, vl_ofV h, run _ hz⟩
   · cases h
 · cases h
def esX (s : St) : Option Nat → Option (List (X × X))
 | none => some []
 | some b => (match s.mo b with
   | some (.mp es) => some es
   | _ => none)
def lkR (ok : Bool) (v : X) (b : Bool) : X := match ok with
 | true => .t [v, .b b]
 | false => v
def lkX (P : Program) (s : St) (t : TypeId) (x i : Option X) (ok : Bool) : Option X := match P.underlying t, x, i with
 | some (.map k e), some (.m b), some i => (match P.underlying k, esX s b with
   | some d, some es => (match keyOk d i, findX i es 0 with
     | true, some (some q) => some (lkR ok q.2 true)
     | true, some none => (match zeroVX P e with
       | some z => some (lkR ok z false)
       | none => none)
     | _, _ => none)
   | _, _ => none)
 | _, _, _ => none
theorem lkR_ok {ok b : Bool} {x : X} {v : Value} (h : vl σ x = some v) : vl σ (lkR ok x b) = some (if ok then .tuple #[v, .bool b] else v) := by
 cases ok with
 | true => simp only [lkR, vl, vls, h]; rfl
 | false => exact h
theorem lkX_ok (hM : Mem P base σ s w) {t : TypeId} {x i : Option X} {ok : Bool} {z : X} {u v : Value} (h : lkX P s t x i ok = some z) (hx : ∀ a, x = some a → vl σ a = some u) (hi : ∀ a, i = some a → vl σ a = some v) {K : Value → Prop} (hK : ∀ v, vl σ z = some v → K v) : Lk P t u v ok w K := by
 unfold lkX at h; split at h
 · rename_i k e b i ht; have hx := hx _ rfl; have hi := hi _ rfl; split at h
   · rename_i d es hd hes
     -- the entries
     have hent : ∃ l : List MapEntry, EsR σ es l ∧ ((u = .map none ∧ l = []) ∨ ∃ rb clock, u = .map (some rb) ∧ w.heap[rb]? = some (.map l.toArray clock)) := by
       cases b with
       | none =>
         simp only [vl, Option.some.injEq] at hx; obtain rfl := Option.some.inj hes; exact ⟨[], trivial, .inl ⟨hx.symm, rfl⟩⟩
       | some b =>
         simp only [esX] at hes; split at hes
         · rename_i es' hb; obtain rfl := Option.some.inj hes; obtain ⟨rb, g1, g2, l, clock, g3, g4⟩ := hM.mown b _ hb; simp only [vl, g1, Option.some.injEq] at hx; exact ⟨l, g4, .inr ⟨rb, clock, hx.symm, g3⟩⟩
         · cases hes
     obtain ⟨l, hE, hu⟩ := hent
     have fin : ∀ r, keyOk d i = true → findX i es 0 = some r → ∀ (z' : X) (zv : Value), (match r with
         | some q => z' = q.2 ∧ vl σ z' = some zv
         | none => zeroVX P e = some z' ∧ vl σ z' = some zv) → z = lkR ok z' r.isSome → Lk P t u v ok w K := by
       intro r hk hf z' zv hz hzz; obtain ⟨q, g1, g2⟩ := findX_ok hk hi hE hf; have hfk := mfindKey (P := P) (w := w) hd g1; have hck : ∀ b, (Instr.checkKey b 10000 k v).run P w = .ok () w := fun b => checkKey_ok hd hk hi b 9999 w
       refine ⟨if ok then .tuple #[zv, .bool r.isSome] else zv, ?_, hK _ (by rw [hzz]; exact lkR_ok (by
         cases r with
         | none => exact hz.2
         | some r => exact hz.2))⟩
       unfold Instr.lookup; rw [Sem.run_bind, run_underlying ht]
       cases r with
       | none =>
         cases q with
         | some q => exact g2.elim
         | none =>
           obtain ⟨zv', e1, e2⟩ := zeroVX_ok (σ := σ) hz.1; rw [hz.2] at e1; obtain rfl := Option.some.inj e1; rcases hu with ⟨rfl, rfl⟩ | ⟨rb, clock, rfl, g3⟩
           · simp only [Result.andThen_ok, Sem.run_bind, Sem.run_pure, hck, List.toList_toArray, hfk, e2, Option.isSome_none]
           · simp only [Result.andThen_ok, Sem.run_bind, Sem.run_pure, mgetObj g3, hck, List.toList_toArray, hfk, e2, Option.isSome_none]
       | some r =>
         obtain ⟨j, x'⟩ := r
         cases q with
         | none => exact g2.elim
         | some q =>
           obtain ⟨j', v'⟩ := q; obtain ⟨_, e2, _⟩ := g2; obtain ⟨rfl, e3⟩ := hz; simp only at e2 e3; rw [e2] at e3; obtain rfl := Option.some.inj e3; rcases hu with ⟨rfl, rfl⟩ | ⟨rb, clock, rfl, g3⟩
           · simp only [Result.andThen_ok, Sem.run_bind, Sem.run_pure, hck, List.toList_toArray, hfk, Option.isSome_some]
           · simp only [Result.andThen_ok, Sem.run_bind, Sem.run_pure, mgetObj g3, hck, List.toList_toArray, hfk, Option.isSome_some]
     split at h
     · rename_i q hk hf; obtain rfl := Option.some.inj h; obtain ⟨q', g1, g2⟩ := findX_ok hk hi hE hf
       cases q' with
       | none => exact g2.elim
       | some q' => exact fin (some q) hk hf q.2 q'.2 ⟨rfl, g2.2.1⟩ rfl
     · rename_i hk hf; split at h
       · rename_i z' hz; obtain rfl := Option.some.inj h; obtain ⟨zv, e1, _⟩ := zeroVX_ok (σ := σ) hz; exact fin none hk hf z' zv ⟨hz, e1⟩ rfl
       · cases h
     · cases h
   · cases h
 · cases h
def methX (P : Program) (t : TypeId) (name : String) : Option FuncId := match P.info? t, P.underlying t with
 | some i, some (.pointer _) => (match i.methods.toList.find? (·.name == name) with
   | some m => (match m.path.isEmpty, m.func with
     | true, some (f, true) => some f
     | _, _ => none)
   | none => none)
 | _, _ => none
theorem methX_ok {t : TypeId} {name : String} {f : FuncId} {v : Value} (h : methX P t name = some f) (n : Nat) (w : World) : (method (n + 1) t v name).run P w = .ok (f, v) w := by
 unfold methX at h; split at h
 · rename_i i e hi hu; split at h
   · rename_i m hm; split at h
     · rename_i f' hp hf; obtain rfl := Option.some.inj h
       have hm' : i.methods.find? (·.name == name) = some m := by rw [← hm, Array.find?_toList]
       have hpath : m.path.toList = [] := by
         have := Array.isEmpty_iff.1 hp; rw [this]
       unfold method; rw [Sem.run_bind, show (typeInfo t).run P w = .ok i w by simp [typeInfo, hi]]; simp only [Result.andThen_ok, hm', hpath, follow, Sem.run_bind, Sem.run_pure, hf]; simp only [receiverAt, Sem.run_bind, run_underlying hu, Result.andThen_ok, Place.get, Sem.run_pure]
     · cases h
   · cases h
 · cases h
def taR (ok : Bool) (x : X) : Option X := some (match ok with
 | true => .t [x, .b true]
 | false => x)
def taF (P : Program) (a : TypeId) (ok : Bool) : Option X := match ok, zeroVX P a with
 | true, some z => some (.t [z, .b false])
 | _, _ => none
def missB (want : Array (String × TypeId)) (got : Array Method) : Bool := (want.toList.filter fun x => !got.any fun m => m.name == x.1 && m.sig == x.2).isEmpty
def taI (P : Program) (a : TypeId) (ok : Bool) (want : Array (String × TypeId)) : X → Option X
 | .ni => taF P a ok
 | .fc t x => (match P.info? t with
   | some i => (match missB want i.methods with
     | true => taR ok (.fc t x)
     | false => taF P a ok)
   | none => none)
 | _ => none
def taC (P : Program) (a : TypeId) (ok : Bool) : X → Option X
 | .ni => taF P a ok
 | .fc t x => (match Nat.beq t a with
   | true => taR ok x
   | false => taF P a ok)
 | _ => none
def taX (P : Program) (a : TypeId) (ok : Bool) (x : Option X) : Option X := match P.underlying a, x with
 | some (.interface want), some x => taI P a ok want x
 | some _, some x => taC P a ok x
 | _, _ => none
theorem taR_ok {ok : Bool} {x z : X} {v : Value} (h : taR ok x = some z) (hx : vl σ x = some v) : vl σ z = some (if ok then .tuple #[v, .bool true] else v) := by
 obtain rfl := Option.some.inj h
 cases ok with
 | true => simp only [vl, vls, hx]; rfl
 | false => exact hx
theorem taF_ok {a : TypeId} {ok : Bool} {z : X} (h : taF P a ok = some z) : ∃ v, ok = true ∧ vl σ z = some (.tuple #[v, .bool false]) ∧ ∀ w, (zeroValue a).run P w = .ok v w := by
 unfold taF at h; split at h
 · rename_i y hy; obtain rfl := Option.some.inj h; obtain ⟨v, h1, h2⟩ := zeroVX_ok (σ := σ) hy; refine ⟨v, rfl, ?_, h2⟩; simp only [vl, vls, h1]
 · cases h
theorem taX_ok {a xt : TypeId} {ok : Bool} {x : Option X} {z : X} {u : Value} (h : taX P a ok x = some z) (hx : ∀ b, x = some b → vl σ b = some u) {K : Value → Prop} (hK : ∀ v, vl σ z = some v → K v) : Ta P u xt a ok w K := by
 unfold taX at h; split at h
 · rename_i want x hu; have hx := hx _ rfl; unfold taI at h; split at h
   · simp only [vl, Option.some.injEq] at hx; subst hx; obtain ⟨v, rfl, h1, h2⟩ := taF_ok (σ := σ) h; refine ⟨_, ?_, hK _ h1⟩; simp [Instr.typeAssert, run_underlying hu, h2]
   · rename_i t y; obtain ⟨v, rfl, hv⟩ := vl_fcs hx; split at h
     · rename_i i hi; split at h
       · rename_i hm; refine ⟨_, ?_, hK _ (taR_ok h hx)⟩; have hm' : (want.toList.filter fun x => !i.methods.any fun m => m.name == x.1 && m.sig == x.2) = [] := List.isEmpty_iff.1 hm
         have hmm : Instr.missingMethod want i.methods = none := by
           unfold Instr.missingMethod; rw [hm']; rfl
         simp [Instr.typeAssert, run_underlying hu, typeInfo, hi, hmm]
       · rename_i hm; obtain ⟨v', rfl, h1, h2⟩ := taF_ok (σ := σ) h; exact r_taNo hu hi (fun e => by unfold missB at hm; rw [e] at hm; exact Bool.noConfusion hm) h2 (hK _ h1)
     · cases h
   · cases h
 · rename_i d x hni hu; have hx := hx _ rfl; unfold taC at h; split at h
   · simp only [vl, Option.some.injEq] at hx; subst hx; obtain ⟨v, rfl, h1, h2⟩ := taF_ok (σ := σ) h; refine ⟨_, ?_, hK _ h1⟩; simp only [Instr.typeAssert, run_underlying hu, Sem.run_bind, Result.andThen_ok]
     cases d <;> first | exact absurd rfl (hni _) | simp [h2]
   · rename_i t y; obtain ⟨v, rfl, hv⟩ := vl_fcs hx; split at h
     · rename_i ht; obtain rfl := Nat.eq_of_beq_eq_true ht; refine ⟨_, ?_, hK _ (taR_ok h hv)⟩; simp only [Instr.typeAssert, run_underlying hu, Sem.run_bind, Result.andThen_ok]
       cases d <;> first | exact absurd rfl (hni _) | simp
     · rename_i ht; have ht := Nat.ne_of_beq_eq_false ht; obtain ⟨v', rfl, h1, h2⟩ := taF_ok (σ := σ) h; refine ⟨_, ?_, hK _ h1⟩; simp only [Instr.typeAssert, run_underlying hu, Sem.run_bind, Result.andThen_ok]
       cases d <;> first | exact absurd rfl (hni _) | simp [h2, ht]
   · cases h
 · cases h
end
end Go.Ev
/- A verified evaluator for closed calls: pointers that are seen as others. No program in sight. -/
namespace Go.Ev
open Go Go.Vc
noncomputable section
variable {P : Program} {base : Bs} {w0 : World} {σ : Sg} {s : St} {w w' : World}
theorem rowAt_up {p : Program} {fits : TypeId → Bool} {d : Nat} {e : TypeId} {c c' o q n : Nat} (h : rowAt p fits d e c o n = true) (hc : c + q ≤ c') : rowAt p fits d e c' (q * p.cellsOf e + o) n = true := by
 cases d with
 | zero => simp [rowAt] at h
 | succ d =>
   unfold rowAt at h ⊢
   by_cases hs : p.cellsOf e = 0
   · simp [hs] at h
   · simp only [hs, if_false] at h ⊢
     have h1 : (q * p.cellsOf e + o) / p.cellsOf e = q + o / p.cellsOf e := by
       rw [Nat.add_comm, Nat.add_mul_div_right _ _ (Nat.pos_of_ne_zero hs), Nat.add_comm]
     have h2 : (q * p.cellsOf e + o) % p.cellsOf e = o % p.cellsOf e := by rw [Nat.add_comm, Nat.add_mul_mod_self_right]
     rw [h1, h2]; rw [Bool.or_eq_true] at h ⊢; rcases h with h | h
     · left; simp only [Bool.and_eq_true, decide_eq_true_eq] at h ⊢; exact ⟨⟨h.1.1, by have := h.1.2; omega⟩, h.2⟩
     · right; simp only [Bool.and_eq_true, decide_eq_true_eq] at h ⊢; exact ⟨by have := h.1; omega, h.2⟩
theorem liesAt_up {p : Program} {e : TypeId} {c c' o q : Nat} (hc : c + q ≤ c') : ∀ {d : Nat} {u : TypeId} {n : Nat}, liesAt p d e c o u n = true → liesAt p d e c' (q * p.cellsOf e + o) u n = true
 | 0, u, n, h => by simp [liesAt] at h
 | d + 1, u, n, h => by
   unfold liesAt at h ⊢; rw [Bool.or_eq_true] at h ⊢; rcases h with h | h
   · exact .inl (rowAt_up h hc)
   · right; split at h
     · rename_i m u' hu; exact liesAt_up hc h
     · cases h
theorem Own.shape {b e : Nat} {cs : List X} {rb off k : Nat} {pre vs sp post : List Value} (g : Own P base σ w b e cs rb off k pre vs sp post) : w.shape? rb = some (e, (pre ++ vs ++ sp ++ post).length) := by
 obtain ⟨fz, hh, _⟩ := g.heap; simp [World.shape?, hh]
def cpX (P : Program) (s : St) (q d : TypeId) (x : Option X) : Option X := match P.underlying q, P.underlying d, x with
 | some (.pointer _), some .unsafePointer, some (.p none) => some (.p none)
 | some (.pointer t), some .unsafePointer, some (.p (some a)) => (match s.blk a.1, P.info? t with
   | some cb, some i => (match Nat.blt a.2 cb.2.length, Nat.beq i.size 0 with
     | true, false => some (.p (some a))
     | _, _ => none)
   | _, _ => none)
 | some .unsafePointer, some (.pointer _), some (.p none) => some (.p none)
 | some .unsafePointer, some (.pointer u), some (.p (some a)) => (match s.blk a.1, P.info? u with
   | some cb, some i => (match Nat.blt 0 (szOf P cb.1), liesAt P P.depth cb.1 (cb.2.length / szOf P cb.1) a.2 u 1 with
     | true, true => some (.p (some a))
     | _, _ => none)
   | _, _ => none)
 | _, _, _ => none
theorem cellsOf_szOf {e : TypeId} (h : 0 < szOf P e) : P.cellsOf e = szOf P e := by
 unfold szOf at h ⊢; unfold Program.cellsOf
 cases hi : P.info? e with
 | none => rw [hi] at h; exact absurd h (Nat.lt_irrefl _)
 | some i => rfl
theorem cpX_ok (hM : Mem P base σ s w) {q d : TypeId} {x : Option X} {z : X} {u : Value} (h : cpX P s q d x = some z) (hx : ∀ a, x = some a → vl σ a = some u) : vl σ z = some u ∧ (convert q d u).run P w = .ok u w := by
 unfold cpX at h; split at h
 · rename_i t hq hd; obtain rfl := Option.some.inj h; have hx := hx _ rfl; simp only [vl, Option.some.injEq] at hx; subst hx; exact ⟨rfl, by simp [convert, run_underlying hq, run_underlying hd, Conv.unsafePointer]⟩
 · rename_i t a hq hd; have hx := hx _ rfl; split at h
   · rename_i cb i hb hi; split at h
     · rename_i h1 h2; obtain rfl := Option.some.inj h; refine ⟨hx, ?_⟩; obtain ⟨e, cs⟩ := cb; obtain ⟨rb, off, k, pre, vs, sp, post, g⟩ := hM.own a.1 e cs hb; have hx2 := hx; simp only [vl, g.sg_, Option.some.injEq] at hx2; subst hx2; have hsh := g.shape; have hl := vls_len g.val; have hp := g.pre_; have h1 := Nat.le_of_ble_eq_true h1
       have h2 : i.size ≠ 0 := fun e => by rw [e] at h2; cases h2
       simp only at h1
       have hlt : ¬ ((pre ++ vs ++ sp ++ post).length ≤ off + a.2) := by simp only [List.length_append]; omega
       simp only [List.length_append] at hlt hsh; simp [convert, run_underlying hq, run_underlying hd, Conv.unsafePointer, Conv.seenAt, viewAt, cellsIn, hsh, run_sz hi, h2, hlt]
     · cases h
   · cases h
 · rename_i t hq hd; obtain rfl := Option.some.inj h; have hx := hx _ rfl; simp only [vl, Option.some.injEq] at hx; subst hx; exact ⟨rfl, by simp [convert, run_underlying hq, run_underlying hd, Conv.unsafePointer]⟩
 · rename_i t a hq hd; have hx := hx _ rfl; split at h
   · rename_i cb i hb hi; split at h
     · rename_i h1 h2; obtain rfl := Option.some.inj h; refine ⟨hx, ?_⟩; obtain ⟨e, cs⟩ := cb; obtain ⟨rb, off, k, pre, vs, sp, post, g⟩ := hM.own a.1 e cs hb; have hx2 := hx; simp only [vl, g.sg_, Option.some.injEq] at hx2; subst hx2; have hsh := g.shape; have hl := vls_len g.val; have hp := g.pre_; have h1 := Nat.le_of_ble_eq_true h1; simp only at h1 h2; obtain ⟨qq, hqq⟩ := g.mul_; have hc := cellsOf_szOf h1
       have hlies : liesAt P P.depth e ((pre ++ vs ++ sp ++ post).length / P.cellsOf e) (off + a.2) t 1 = true := by
         rw [hqq, ← hc]; refine liesAt_up ?_ h2; rw [hc, Nat.le_div_iff_mul_le h1, Nat.add_mul]; have := Nat.div_mul_le_self cs.length (szOf P e); simp only [List.length_append]; omega
       simp only [List.length_append] at hlies hsh; simp [convert, run_underlying hq, run_underlying hd, Conv.unsafePointer, Conv.seenAt, viewAt, hsh, run_sz hi, variablesAt, hlies]
     · cases h
   · cases h
 · cases h
def capX (P : Program) : List TypeId → Option (List X) → Option X
 | t :: _, some (.l none _ c :: _) => (match P.underlying t with
   | some (.slice _) => some (.i .i64 (c : Int))
   | _ => none)
 | _, _ => none
theorem capX_ok {ats : Array TypeId} {ty : TypeId} {xs : Option (List X)} {vs : List Value} {z : X} (h : capX P ats.toList xs = some z) (hv : ∀ l, xs = some l → vls σ l = some vs) {K : Value → Prop} (hK : ∀ v, vl σ z = some v → K v) : Bc P ats ty vs.toArray w K := by
 unfold capX at h; split at h
 · rename_i t ts n c r hats; obtain ⟨v1, vs1, e1, e2, rfl⟩ := vls_cons (hv _ rfl); simp only [vl, Option.some.injEq] at e1; subst e1
   have hat : ats = (t :: ts).toArray := by rw [← hats]
   subst hat; split at h
   · rename_i e ht; obtain rfl := Option.some.inj h; exact ⟨.int .i64 (c : Int), by simp [Builtin.cap_, run_underlying ht, goInt], hK _ rfl⟩
   · cases h
 · cases h
end
end Go.Ev
