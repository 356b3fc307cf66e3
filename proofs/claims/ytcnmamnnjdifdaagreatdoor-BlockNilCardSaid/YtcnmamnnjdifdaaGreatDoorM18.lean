/- Chapter 18, plain: the links of last bytes, and the text that they lead to. No program in sight. -/
import Derived.WalkKit
set_option linter.unusedVariables false
set_option linter.unusedSimpArgs false
namespace Go.M18

/-- How many bytes of l are less than b. -/
def blw (l : List UInt8) (b : Nat) : Nat := l.countP fun c => decide (c.toNat < b)
def cntB (l : List UInt8) (b : Nat) : Nat := l.countP fun c => c.toNat == b
/-- The counts, then where each byte's next link goes, behind s steps. -/
def nx (l : List UInt8) (s : Nat) (b : Nat) : Nat := if s < l.length then cntB (l.take s) b else blw l b + cntB (l.take (s - l.length)) b
def nxL (l : List UInt8) (s : Nat) : List Nat := (List.range 256).map (nx l s)
def pos (l : List UInt8) (j : Nat) : Nat := blw l (l.getD j 0).toNat + cntB (l.take j) (l.getD j 0).toNat
def lnk (l : List UInt8) : Nat → List Nat
  | 0 => List.replicate l.length 0
  | i + 1 => (lnk l i).set (pos l i) i
def lnS (l : List UInt8) (s : Nat) : List Nat := lnk l (min (s - l.length) l.length)
def links (l : List UInt8) : List Nat := lnk l l.length
def atK (l : List UInt8) (o : Nat) : Nat → Nat
  | 0 => o
  | k + 1 => (links l).getD (atK l o k) 0
def outK (l : List UInt8) (o : Nat) : Nat → List UInt8
  | 0 => []
  | k + 1 => outK l o k ++ [l.getD (atK l o (k + 1)) 0]
/-- The text of last bytes and an origin. -/
def text (l : List UInt8) (o : Nat) : List UInt8 := outK l o l.length
def exB (f : Nat → Nat) : Nat → Nat
  | 0 => 0
  | b + 1 => exB f b + f b
theorem blw_le (l : List UInt8) (b : Nat) : blw l b ≤ l.length := List.countP_le_length
theorem cnt_le (l : List UInt8) (b : Nat) : cntB l b ≤ l.length := List.countP_le_length
theorem blw_succ (l : List UInt8) (b : Nat) : blw l (b + 1) = blw l b + cntB l b := by
  unfold blw cntB
  induction l with
  | nil => rfl
  | cons c l ih =>
    simp only [List.countP_cons, ih]
    by_cases h1 : c.toNat < b
    · have h2 : ¬ c.toNat = b := by omega
      have h3 : c.toNat < b + 1 := by omega
      simp [h1, h2, h3]; omega
    · by_cases h2 : c.toNat = b
      · have h3 : c.toNat < b + 1 := by omega
        simp [h1, h2, h3]; omega
      · have h3 : ¬ c.toNat < b + 1 := by omega
        simp [h1, h2, h3]
theorem blw_zero (l : List UInt8) : blw l 0 = 0 := by
  unfold blw
  rw [List.countP_eq_zero]
  intro c _; simp
theorem exB_blw (l : List UInt8) (b : Nat) : exB (cntB l) b = blw l b := by
  induction b with
  | zero => exact (blw_zero l).symm
  | succ b ih => rw [exB, ih, blw_succ]
theorem take_succ' (l : List UInt8) (i : Nat) (h : i < l.length) : l.take (i + 1) = l.take i ++ [l.getD i 0] := by
  rw [List.take_add_one, List.getElem?_eq_getElem h]
  simp [List.getD, h]
theorem cnt_take_succ (l : List UInt8) (i b : Nat) (h : i < l.length) : cntB (l.take (i + 1)) b = cntB (l.take i) b + if (l.getD i 0).toNat = b then 1 else 0 := by
  rw [take_succ' l i h]
  unfold cntB
  rw [List.countP_append]
  congr 1
  simp [List.countP_cons]
theorem cnt_take_le (l : List UInt8) (i b : Nat) : cntB (l.take i) b ≤ cntB l b := by
  unfold cntB
  exact List.Sublist.countP_le (List.take_sublist i l)
theorem cnt_take_lt (l : List UInt8) (i : Nat) (h : i < l.length) : cntB (l.take i) (l.getD i 0).toNat < cntB l (l.getD i 0).toNat := by
  have h1 := cnt_take_succ l i (l.getD i 0).toNat h
  have h2 := cnt_take_le l (i + 1) (l.getD i 0).toNat
  simp at h1
  simp at h2
  simp only [List.getD] at *
  omega
theorem pos_lt (l : List UInt8) (i : Nat) (h : i < l.length) : pos l i < l.length := by
  unfold pos
  have h1 := cnt_take_lt l i h
  have h2 := blw_le l ((l.getD i 0).toNat + 1)
  rw [blw_succ] at h2
  omega
theorem lnk_len (l : List UInt8) (i : Nat) : (lnk l i).length = l.length := by
  induction i with
  | zero => simp [lnk]
  | succ i ih => simp [lnk, ih]
theorem lnk_lt (l : List UInt8) : ∀ (i : Nat), i ≤ l.length → ∀ x ∈ lnk l i, x < max l.length 1
  | 0, _, x, hx => by simp [lnk] at hx; omega
  | i + 1, h, x, hx => by
    rcases List.mem_or_eq_of_mem_set hx with h1 | h1
    · exact lnk_lt l i (by omega) x h1
    · omega
theorem links_lt (l : List UInt8) (a : Nat) (h : 0 < l.length) : (links l).getD a 0 < l.length := by
  rcases Nat.lt_or_ge a (links l).length with ha | ha
  · have := lnk_lt l l.length (Nat.le_refl _) ((links l)[a]) (List.getElem_mem ha)
    simp [List.getD, ha]; omega
  · simp [List.getD, List.getElem?_eq_none ha]; exact h
theorem atK_lt (l : List UInt8) (o : Nat) (ho : o < l.length) : ∀ k, atK l o k < l.length
  | 0 => ho
  | k + 1 => links_lt l _ (by omega)
theorem outK_len (l : List UInt8) (o : Nat) (k : Nat) : (outK l o k).length = k := by
  induction k with
  | zero => rfl
  | succ k ih => simp [outK, ih]
theorem nxL_len (l : List UInt8) (s : Nat) : (nxL l s).length = 256 := by simp [nxL]
theorem nxL_get (l : List UInt8) (s b : Nat) (h : b < 256) : (nxL l s)[b]? = some (nx l s b) := by simp [nxL, h]
theorem nx_le (l : List UInt8) (s b : Nat) : nx l s b ≤ 2 * l.length := by
  unfold nx
  split
  · have := cnt_le (l.take s) b; simp at this; omega
  · have := blw_le l b; have := cnt_le (l.take (s - l.length)) b; simp at this; omega
theorem byte_lt (l : List UInt8) (i : Nat) : (l.getD i 0).toNat < 256 := UInt8.toNat_lt _
theorem nx_lo {l : List UInt8} {s b : Nat} (h : s < l.length) : nx l s b = cntB (l.take s) b := if_pos h
theorem nx_hi {l : List UInt8} {s b : Nat} (h : l.length ≤ s) : nx l s b = blw l b + cntB (l.take (s - l.length)) b := if_neg (by omega)
/-- A step of counting. -/
theorem nxL_count (l : List UInt8) (s : Nat) (h : s + 1 < l.length) : (nxL l s).set (l.getD s 0).toNat (nx l s (l.getD s 0).toNat + 1) = nxL l (s + 1) := by
  have hb := byte_lt l s
  apply List.ext_getElem?
  intro j
  rw [List.getElem?_set, nxL_len]
  by_cases hj : j < 256
  · rw [nxL_get _ _ _ hj, nxL_get _ _ _ hj, nx_lo (by omega), nx_lo (by omega), nx_lo (by omega), cnt_take_succ l s j (by omega)]
    by_cases e : (l.getD s 0).toNat = j
    · rw [e, if_pos rfl, if_pos hj, if_pos rfl]
    · rw [if_neg e, if_neg e, Nat.add_zero]
  · have h1 : (l.getD s 0).toNat ≠ j := by omega
    rw [if_neg h1, List.getElem?_eq_none (by rw [nxL_len]; omega), List.getElem?_eq_none (by rw [nxL_len]; omega)]
/-- The last step of counting, and what begins makes of the counts. -/
theorem nxL_begin (l : List UInt8) (s : Nat) (h : s + 1 = l.length) :
    (List.range 256).map (exB fun b => ((nxL l s).set (l.getD s 0).toNat (nx l s (l.getD s 0).toNat + 1)).getD b 0) = nxL l (s + 1) := by
  have hc : ∀ b, b < 256 → ((nxL l s).set (l.getD s 0).toNat (nx l s (l.getD s 0).toNat + 1)).getD b 0 = cntB l b := by
    intro b hb
    have ht : cntB l b = cntB (l.take (s + 1)) b := by rw [h, List.take_length]
    have hg : ((nxL l s).set (l.getD s 0).toNat (nx l s (l.getD s 0).toNat + 1))[b]? = some (cntB (l.take (s + 1)) b) := by
      rw [List.getElem?_set, nxL_len, nxL_get _ _ _ hb, nx_lo (by omega), nx_lo (by omega), cnt_take_succ l s b (by omega)]
      by_cases e : (l.getD s 0).toNat = b
      · rw [e, if_pos rfl, if_pos hb, if_pos rfl]
      · rw [if_neg e, if_neg e, Nat.add_zero]
    rw [ht]
    rw [List.getD_eq_getElem?_getD, hg]
    rfl
  have he : ∀ b, b ≤ 256 → exB (fun b => ((nxL l s).set (l.getD s 0).toNat (nx l s (l.getD s 0).toNat + 1)).getD b 0) b = blw l b := by
    intro b
    induction b with
    | zero => intro _; exact (blw_zero l).symm
    | succ b ih => intro hb; rw [exB, ih (by omega), hc b (by omega), blw_succ]
  show _ = (List.range 256).map (nx l (s + 1))
  apply List.map_congr_left
  intro b hb
  rw [List.mem_range] at hb
  rw [he b (by omega), nx_hi (by omega), show s + 1 - l.length = 0 by omega]
  simp [cntB]
theorem nxL_link (l : List UInt8) (s : Nat) (h1 : l.length ≤ s) (h2 : s < 2 * l.length) :
    (nxL l s).set (l.getD (s - l.length) 0).toNat (nx l s (l.getD (s - l.length) 0).toNat + 1) = nxL l (s + 1) := by
  apply List.ext_getElem?
  intro j
  rw [List.getElem?_set, nxL_len]
  by_cases hj : j < 256
  · rw [nxL_get _ _ _ hj, nxL_get _ _ _ hj, nx_hi (by omega), nx_hi (by omega), nx_hi (by omega), show s + 1 - l.length = (s - l.length) + 1 by omega, cnt_take_succ l _ j (by omega)]
    by_cases e : (l.getD (s - l.length) 0).toNat = j
    · rw [e, if_pos rfl, if_pos hj, if_pos rfl, Nat.add_assoc]
    · rw [if_neg e, if_neg e, Nat.add_zero]
  · have h3 : (l.getD (s - l.length) 0).toNat ≠ j := by have := byte_lt l (s - l.length); omega
    rw [if_neg h3, List.getElem?_eq_none (by rw [nxL_len]; omega), List.getElem?_eq_none (by rw [nxL_len]; omega)]
theorem nx_pos (l : List UInt8) (s : Nat) (h1 : l.length ≤ s) : nx l s (l.getD (s - l.length) 0).toNat = pos l (s - l.length) := by
  rw [nx_hi h1]
  rfl
theorem lnS_link (l : List UInt8) (s : Nat) (h1 : l.length ≤ s) (h2 : s < 2 * l.length) : (lnS l s).set (pos l (s - l.length)) (s - l.length) = lnS l (s + 1) := by
  unfold lnS
  rw [Nat.min_eq_left (by omega), Nat.min_eq_left (by omega), show s + 1 - l.length = (s - l.length) + 1 by omega]
  rfl
theorem lnS_low (l : List UInt8) (s : Nat) (h : s < l.length) : lnS l s = lnS l (s + 1) := by
  unfold lnS
  rw [show s - l.length = 0 by omega, show s + 1 - l.length = 0 by omega]
theorem lnS_high (l : List UInt8) (s : Nat) (h : 2 * l.length ≤ s) : lnS l s = links l := by
  unfold lnS links
  rw [Nat.min_eq_right (by omega)]
theorem nxL_high (l : List UInt8) (s : Nat) (h : 2 * l.length ≤ s) : nxL l s = nxL l (s + 1) := by
  unfold nxL
  apply List.map_congr_left
  intro b _
  rcases Nat.lt_or_ge s l.length with h3 | h3
  · omega
  · rw [nx_hi h3, nx_hi (by omega), List.take_of_length_le (by omega), List.take_of_length_le (by omega)]
theorem lnS_len (l : List UInt8) (s : Nat) : (lnS l s).length = l.length := lnk_len _ _
theorem set_mid {α : Type} (f : Nat → α) (l : List α) (j : Nat) (h : j < l.length) : ((List.range j).map f ++ l.drop j).set j (f j) = (List.range (j + 1)).map f ++ l.drop (j + 1) := by
  have hl0 : ((List.range j).map f).length = j := by simp
  rw [List.set_append_right _ _ (by omega), hl0, Nat.sub_self, List.drop_eq_getElem_cons h, List.set_cons_zero, List.range_succ, List.map_append, List.append_assoc]
  rfl
/-- The counts of the first i bytes. -/
def cnL (l : List UInt8) (i : Nat) : List Nat := (List.range 256).map (cntB (l.take i))
theorem cnL_len (l : List UInt8) (i : Nat) : (cnL l i).length = 256 := by simp [cnL]
theorem cnL_get (l : List UInt8) (i b : Nat) (h : b < 256) : (cnL l i)[b]? = some (cntB (l.take i) b) := by simp [cnL, h]
theorem cnL_zero (l : List UInt8) : cnL l 0 = List.replicate 256 0 := by
  unfold cnL
  rw [List.eq_replicate_iff]
  refine ⟨by simp, fun x hx => ?_⟩
  obtain ⟨y, _, rfl⟩ := List.mem_map.1 hx
  simp [cntB]
theorem cnL_succ (l : List UInt8) (i : Nat) (h : i < l.length) : (cnL l i).set (l.getD i 0).toNat (cntB (l.take i) (l.getD i 0).toNat + 1) = cnL l (i + 1) := by
  have hb := byte_lt l i
  apply List.ext_getElem?
  intro j
  rw [List.getElem?_set, cnL_len]
  by_cases hj : j < 256
  · rw [cnL_get _ _ _ hj, cnL_get _ _ _ hj, cnt_take_succ l i j h]
    by_cases e : (l.getD i 0).toNat = j
    · rw [e, if_pos rfl, if_pos hj, if_pos rfl]
    · rw [if_neg e, if_neg e, Nat.add_zero]
  · have h1 : (l.getD i 0).toNat ≠ j := by omega
    rw [if_neg h1, List.getElem?_eq_none (by rw [cnL_len]; omega), List.getElem?_eq_none (by rw [cnL_len]; omega)]
theorem cnL_begin (l : List UInt8) : (List.range 256).map (exB fun b => (cnL l l.length).getD b 0) = nxL l l.length := by
  have hc : ∀ b, b < 256 → (cnL l l.length).getD b 0 = cntB l b := by
    intro b hb
    rw [List.getD_eq_getElem?_getD, cnL_get _ _ _ hb, List.take_length]
    rfl
  have he : ∀ b, b ≤ 256 → exB (fun b => (cnL l l.length).getD b 0) b = blw l b := by
    intro b
    induction b with
    | zero => intro _; exact (blw_zero l).symm
    | succ b ih => intro hb; rw [exB, ih (by omega), hc b (by omega), blw_succ]
  show _ = (List.range 256).map (nx l l.length)
  apply List.map_congr_left
  intro b hb
  rw [List.mem_range] at hb
  rw [he b (by omega), nx_hi (Nat.le_refl _), Nat.sub_self]
  simp [cntB]
theorem cnt_take_le2 (l : List UInt8) (i b : Nat) : cntB (l.take i) b ≤ l.length := Nat.le_trans (cnt_take_le l i b) (cnt_le l b)
theorem ex_le (l : List UInt8) (i : Nat) : ∀ j, j ≤ 256 → exB (fun b => (cnL l i).getD b 0) j ≤ l.length * j
  | 0, _ => by simp [exB]
  | j + 1, h => by
    have h1 := ex_le l i j (by omega)
    have h2 : (cnL l i).getD j 0 ≤ l.length := by
      rw [List.getD_eq_getElem?_getD, cnL_get _ _ _ (by omega)]
      exact cnt_take_le2 l i j
    rw [exB, Nat.mul_succ]
    omega
end Go.M18
