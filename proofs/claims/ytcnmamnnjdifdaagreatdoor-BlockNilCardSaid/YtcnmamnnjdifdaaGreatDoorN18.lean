/- Chapter 18, plain: the links are the sorted places. No program in sight. -/
import Derived.Test.YtcnmamnnjdifdaaGreatDoorM18
set_option linter.unusedVariables false
set_option linter.unusedSimpArgs false
namespace Go.M18
def refBi (l : List UInt8) (b i : Nat) : List Nat := (List.range i).filter fun k => decide ((l.getD k 0).toNat = b)
def refL (l : List UInt8) : Nat → List Nat
  | 0 => []
  | b + 1 => refL l b ++ refBi l b l.length
theorem refBi_succ (l : List UInt8) (b i : Nat) : refBi l b (i + 1) = refBi l b i ++ if (l.getD i 0).toNat = b then [i] else [] := by
  unfold refBi
  rw [List.range_succ, List.filter_append]
  congr 1
  by_cases h : (l.getD i 0).toNat = b
  · rw [if_pos h, List.filter_cons_of_pos (by simpa using h), List.filter_nil]
  · rw [if_neg h, List.filter_cons_of_neg (by simpa using h), List.filter_nil]
theorem refBi_len (l : List UInt8) (b : Nat) : ∀ i, i ≤ l.length → (refBi l b i).length = cntB (l.take i) b
  | 0, _ => by simp [refBi, cntB]
  | i + 1, h => by
    rw [refBi_succ, List.length_append, refBi_len l b i (by omega), cnt_take_succ l i b (by omega)]
    split <;> simp
theorem refL_len (l : List UInt8) : ∀ b, (refL l b).length = blw l b
  | 0 => by rw [blw_zero]; rfl
  | b + 1 => by rw [refL, List.length_append, refL_len l b, refBi_len l b _ (Nat.le_refl _), List.take_length, blw_succ]
theorem blw_all (l : List UInt8) : blw l 256 = l.length := by
  unfold blw
  rw [List.countP_eq_length]
  intro a _
  simpa using UInt8.toNat_lt a
theorem refL_pre (l : List UInt8) (c : Nat) : ∀ d, ∃ r, refL l (c + d) = refL l c ++ r
  | 0 => ⟨[], by simp⟩
  | d + 1 => by
    obtain ⟨r, h⟩ := refL_pre l c d
    exact ⟨r ++ refBi l (c + d) l.length, by rw [← Nat.add_assoc, refL, h, List.append_assoc]⟩
theorem refBi_pre (l : List UInt8) (b i : Nat) : ∀ d, ∃ r, refBi l b (i + d) = refBi l b i ++ r
  | 0 => ⟨[], by simp⟩
  | d + 1 => by
    obtain ⟨r, h⟩ := refBi_pre l b i d
    exact ⟨_, by rw [← Nat.add_assoc, refBi_succ, h, List.append_assoc]⟩
theorem refL_pos (l : List UInt8) (i : Nat) (h : i < l.length) : (refL l 256)[pos l i]? = some i := by
  have hb := byte_lt l i
  obtain ⟨r, hr⟩ := refL_pre l ((l.getD i 0).toNat + 1) (256 - ((l.getD i 0).toNat + 1))
  rw [show (l.getD i 0).toNat + 1 + (256 - ((l.getD i 0).toNat + 1)) = 256 by omega] at hr
  obtain ⟨r2, hr2⟩ := refBi_pre l (l.getD i 0).toNat (i + 1) (l.length - (i + 1))
  rw [show i + 1 + (l.length - (i + 1)) = l.length by omega, refBi_succ, if_pos rfl] at hr2
  rw [hr, refL, hr2]
  have e : pos l i = (refL l (l.getD i 0).toNat).length + (refBi l (l.getD i 0).toNat i).length := by
    rw [refL_len, refBi_len _ _ _ (by omega)]; rfl
  rw [e, List.append_assoc, List.getElem?_append_right (by omega), Nat.add_sub_cancel_left, List.append_assoc, List.append_assoc, List.getElem?_append_right (by omega), Nat.sub_self]
  rfl
theorem pos_inj (l : List UInt8) (i j : Nat) (hi : i < l.length) (hj : j < l.length) (h : pos l i = pos l j) : i = j := by
  have h1 := refL_pos l i hi
  rw [h, refL_pos l j hj] at h1
  injection h1 with h1
  exact h1.symm
theorem lnk_pos (l : List UInt8) : ∀ m, m ≤ l.length → ∀ i, i < m → (lnk l m)[pos l i]? = some i
  | 0, _, i, hi => by omega
  | m + 1, hm, i, hi => by
    rw [lnk, List.getElem?_set, lnk_len]
    by_cases e : pos l m = pos l i
    · rw [if_pos e, if_pos (pos_lt l m (by omega)), pos_inj l m i (by omega) (by omega) e]
    · rw [if_neg e]
      have : i ≠ m := fun h => e (by rw [h])
      exact lnk_pos l m (by omega) i (by omega)
theorem refBi_mem (l : List UInt8) (b i x : Nat) : x ∈ refBi l b i ↔ x < i ∧ (l.getD x 0).toNat = b := by
  unfold refBi
  rw [List.mem_filter, List.mem_range, decide_eq_true_iff]
theorem refL_mem (l : List UInt8) : ∀ b x, x ∈ refL l b ↔ x < l.length ∧ (l.getD x 0).toNat < b
  | 0, x => by simp [refL]
  | b + 1, x => by
    rw [refL, List.mem_append, refL_mem l b x, refBi_mem]
    omega
theorem refL_nodup (l : List UInt8) : ∀ b, (refL l b).Nodup
  | 0 => by simp [refL]
  | b + 1 => by
    rw [refL, List.nodup_append]
    refine ⟨refL_nodup l b, List.Nodup.sublist (List.filter_sublist) List.nodup_range, ?_⟩
    intro x hx y hy e
    subst e
    rw [refL_mem] at hx
    rw [refBi_mem] at hy
    omega
theorem pos_refL (l : List UInt8) (a v : Nat) (h : (refL l 256)[a]? = some v) : v < l.length ∧ pos l v = a := by
  have hv : v < l.length := ((refL_mem l 256 v).1 (List.mem_of_getElem? h)).1
  refine ⟨hv, ?_⟩
  have h1 := refL_pos l v hv
  have hn := refL_nodup l 256
  obtain ⟨ha, ha2⟩ := List.getElem?_eq_some_iff.1 h
  obtain ⟨hp, hp2⟩ := List.getElem?_eq_some_iff.1 h1
  exact (List.getElem_inj hn).1 (hp2.trans ha2.symm)
/-- The links are the sorted places. -/
theorem links_ref (l : List UInt8) : links l = refL l 256 := by
  have hl : (links l).length = l.length := lnk_len _ _
  have hr : (refL l 256).length = l.length := (refL_len l 256).trans (blw_all l)
  apply List.ext_getElem?
  intro a
  rcases Nat.lt_or_ge a l.length with ha | ha
  · obtain ⟨v, h⟩ : ∃ v, (refL l 256)[a]? = some v := ⟨_, List.getElem?_eq_getElem (by rw [hr]; exact ha)⟩
    obtain ⟨hv, hp⟩ := pos_refL l a _ h
    have := lnk_pos l l.length (Nat.le_refl _) _ hv
    rw [hp] at this
    rw [h, ← this]
    rfl
  · rw [List.getElem?_eq_none (by omega), List.getElem?_eq_none (by omega)]
theorem links_len (l : List UInt8) : (links l).length = l.length := lnk_len _ _
theorem links_nodup (l : List UInt8) : (links l).Nodup := by rw [links_ref]; exact refL_nodup l 256
theorem links_mem (l : List UInt8) (x : Nat) (h : x ∈ links l) : x < l.length := by
  rw [links_ref, refL_mem] at h
  exact h.1
end Go.M18
