/- Chapters 15, 17, 18, plain: the last bytes of the sorted rotations lead back to the text. No program in sight. -/
import Derived.Test.YtbccjjbfiodbeaaN18
set_option linter.unusedVariables false
set_option linter.unusedSimpArgs false
namespace Go.M18
abbrev bl := Op.bytesLess
theorem bl_irrefl : ∀ a : List UInt8, bl a a = false
  | [] => rfl
  | a :: x => by
    have := bl_irrefl x
    simp [bl, Op.bytesLess] at this ⊢
    exact this
theorem bl_cons (a b : UInt8) (x y : List UInt8) : bl (a :: x) (b :: y) = (decide (a < b) || (a == b && bl x y)) := rfl
theorem bl_trans : ∀ a b c : List UInt8, bl a b = true → bl b c = true → bl a c = true
  | _, [], _, h, _ => by cases ‹List UInt8› <;> simp [bl, Op.bytesLess] at h
  | _, _ :: _, [], _, h => by simp [bl, Op.bytesLess] at h
  | [], _ :: _, _ :: _, _, _ => rfl
  | a :: x, b :: y, c :: z, h, k => by
    rw [bl_cons] at *
    simp only [Bool.or_eq_true, decide_eq_true_iff, Bool.and_eq_true, beq_iff_eq, UInt8.lt_iff_toNat_lt] at *
    rcases h with h | ⟨rfl, h⟩
    · rcases k with k | ⟨rfl, k⟩
      · exact .inl (by omega)
      · exact .inl h
    · rcases k with k | ⟨rfl, k⟩
      · exact .inl k
      · exact .inr ⟨rfl, bl_trans x y z h k⟩
theorem bl_total : ∀ a b : List UInt8, bl a b = true ∨ a = b ∨ bl b a = true
  | [], [] => .inr (.inl rfl)
  | [], _ :: _ => .inl rfl
  | _ :: _, [] => .inr (.inr rfl)
  | a :: x, b :: y => by
    rw [bl_cons, bl_cons]
    simp only [Bool.or_eq_true, decide_eq_true_iff, Bool.and_eq_true, beq_iff_eq, UInt8.lt_iff_toNat_lt]
    rcases Nat.lt_trichotomy a.toNat b.toNat with h | h | h
    · exact .inl (.inl h)
    · have e : a = b := UInt8.toNat_inj.1 h
      subst e
      rcases bl_total x y with h | h | h
      · exact .inl (.inr ⟨rfl, h⟩)
      · exact .inr (.inl (by rw [h]))
      · exact .inr (.inr (.inr ⟨rfl, h⟩))
    · exact .inr (.inr (.inl h))
theorem bl_asymm {a b : List UInt8} (h : bl a b = true) : bl b a = false := by
  cases k : bl b a with
  | false => rfl
  | true => rw [← bl_irrefl a, bl_trans a b a h k]
/-- a is no greater than b. -/
def ble (a b : List UInt8) : Prop := bl b a = false
theorem ble_antisymm {a b : List UInt8} (h : ble a b) (k : ble b a) : a = b := by
  unfold ble at *
  rcases bl_total a b with h1 | h1 | h1
  · rw [k] at h1; cases h1
  · exact h1
  · rw [h] at h1; cases h1
theorem ble_trans {a b c : List UInt8} (h : ble a b) (k : ble b c) : ble a c := by
  unfold ble at *
  cases e : bl c a with
  | false => rfl
  | true =>
    rcases bl_total a b with h1 | h1 | h1
    · rw [bl_trans c a b e h1] at k; cases k
    · rw [← h1, e] at k; cases k
    · rw [h] at h1; cases h1
theorem bl_snoc (c : UInt8) : ∀ x y : List UInt8, x.length = y.length → bl (x ++ [c]) (y ++ [c]) = bl x y
  | [], [], _ => by simp [bl, Op.bytesLess]
  | a :: x, b :: y, h => by
    rw [List.cons_append, List.cons_append, bl_cons, bl_cons, bl_snoc c x y (by simpa using h)]

def rot (s : List UInt8) (i : Nat) : List UInt8 := s.drop i ++ s.take i
def lastB (r : List UInt8) : UInt8 := r.getD (r.length - 1) 0
def rotR (r : List UInt8) : List UInt8 := lastB r :: r.take (r.length - 1)
theorem lastB_snoc (x : List UInt8) (c : UInt8) : lastB (x ++ [c]) = c := by simp [lastB]
theorem rotR_snoc (x : List UInt8) (c : UInt8) : rotR (x ++ [c]) = c :: x := by
  unfold rotR
  rw [lastB_snoc]
  simp
theorem init_last (r : List UInt8) (h : 0 < r.length) : r = r.take (r.length - 1) ++ [lastB r] := by
  have := take_succ' r (r.length - 1) (by omega)
  rw [show r.length - 1 + 1 = r.length by omega, List.take_length] at this
  exact this
theorem rot_len (s : List UInt8) (i : Nat) (h : i ≤ s.length) : (rot s i).length = s.length := by
  simp [rot]; omega
theorem rot_head (s : List UInt8) (i : Nat) (h : i < s.length) : rot s i = s.getD i 0 :: (s.drop (i + 1) ++ s.take i) := by
  unfold rot
  rw [List.drop_eq_getElem_cons h, List.cons_append, List.getD_eq_getElem?_getD, List.getElem?_eq_getElem h]
  rfl
theorem rot_succ (s : List UInt8) (i : Nat) (h : i < s.length) : rot s (i + 1) = (s.drop (i + 1) ++ s.take i) ++ [s.getD i 0] := by
  unfold rot
  rw [take_succ' s i h, List.append_assoc]
theorem rotR_rot (s : List UInt8) (i : Nat) (h : i < s.length) : rotR (rot s (i + 1)) = rot s i := by
  rw [rot_succ s i h, rotR_snoc, rot_head s i h]
theorem rot_zero (s : List UInt8) : rot s 0 = s := by simp [rot]
theorem rot_full (s : List UInt8) : rot s s.length = s := by simp [rot]
theorem rotR_zero (s : List UInt8) (h : 0 < s.length) : rotR (rot s 0) = rot s (s.length - 1) := by
  rw [rot_zero]
  have := rotR_rot s (s.length - 1) (by omega)
  rw [show s.length - 1 + 1 = s.length by omega, rot_full] at this
  exact this
def aheadP (s : List UInt8) (i k : Nat) : Bool := bl (rot s i) (rot s k) || (decide (rot s i = rot s k) && decide (i < k))
def insP (s : List UInt8) (i : Nat) : List Nat → List Nat
  | [] => [i]
  | k :: r => if aheadP s i k then i :: k :: r else k :: insP s i r
def sortP (s : List UInt8) : Nat → List Nat
  | 0 => []
  | i + 1 => insP s i (sortP s i)
theorem insP_perm (s : List UInt8) (i : Nat) : ∀ l, (insP s i l).Perm (i :: l)
  | [] => .refl _
  | k :: r => by
    rw [insP]
    split
    · exact .refl _
    · exact ((insP_perm s i r).cons k).trans (.swap i k r)
theorem sortP_perm (s : List UInt8) : ∀ n, (sortP s n).Perm (List.range n)
  | 0 => .refl _
  | n + 1 => by
    rw [sortP, List.range_succ]
    exact ((insP_perm s n _).trans ((sortP_perm s n).cons n)).trans (List.perm_append_comm (l₁ := [n]))
theorem ahead_le {s : List UInt8} {i k : Nat} (h : aheadP s i k = true) : ble (rot s i) (rot s k) := by
  unfold aheadP at h
  rw [Bool.or_eq_true, Bool.and_eq_true, decide_eq_true_iff] at h
  rcases h with h | h
  · exact bl_asymm h
  · unfold ble; rw [h.1]; exact bl_irrefl _
theorem not_ahead_le {s : List UInt8} {i k : Nat} (h : aheadP s i k = false) : ble (rot s k) (rot s i) := by
  unfold aheadP at h
  rw [Bool.or_eq_false_iff] at h
  exact h.1
theorem insP_sorted (s : List UInt8) (i : Nat) : ∀ l : List Nat, l.Pairwise (fun a b => ble (rot s a) (rot s b)) → (insP s i l).Pairwise (fun a b => ble (rot s a) (rot s b))
  | [], _ => by simp [insP]
  | k :: r, h => by
    rw [List.pairwise_cons] at h
    rw [insP]
    split
    · rename_i ha
      rw [List.pairwise_cons, List.pairwise_cons]
      refine ⟨fun x hx => ?_, h.1, h.2⟩
      rcases List.mem_cons.1 hx with rfl | hx
      · exact ahead_le ha
      · exact ble_trans (ahead_le ha) (h.1 x hx)
    · rename_i ha
      rw [List.pairwise_cons]
      refine ⟨fun x hx => ?_, insP_sorted s i r h.2⟩
      rcases List.mem_cons.1 ((insP_perm s i r).mem_iff.1 hx) with rfl | hx
      · exact not_ahead_le (by simpa using ha)
      · exact h.1 x hx
theorem sortP_sorted (s : List UInt8) : ∀ n, (sortP s n).Pairwise (fun a b => ble (rot s a) (rot s b))
  | 0 => by simp [sortP]
  | n + 1 => insP_sorted s n _ (sortP_sorted s n)
theorem sortP_len (s : List UInt8) (n : Nat) : (sortP s n).length = n := by rw [(sortP_perm s n).length_eq, List.length_range]
theorem sortP_mem (s : List UInt8) (n x : Nat) : x ∈ sortP s n ↔ x < n := by rw [(sortP_perm s n).mem_iff, List.mem_range]
theorem sortP_nodup (s : List UInt8) (n : Nat) : (sortP s n).Nodup := (sortP_perm s n).symm.nodup List.nodup_range
/-- The last bytes of the sorted rotations. -/
def lastL (s : List UInt8) : List UInt8 := (sortP s s.length).map fun i => lastB (rot s i)
def rots (s : List UInt8) : List (List UInt8) := (sortP s s.length).map (rot s)
theorem lastL_len (s : List UInt8) : (lastL s).length = s.length := by simp [lastL, sortP_len]
theorem rots_len (s : List UInt8) : (rots s).length = s.length := by simp [rots, sortP_len]
theorem map_getD_range {α : Type} (l : List α) (d : α) : (List.range l.length).map (fun j => l.getD j d) = l := by
  apply List.ext_getElem?
  intro i
  rw [List.getElem?_map]
  rcases Nat.lt_or_ge i l.length with h | h
  · rw [List.getElem?_eq_getElem (by simpa using h), List.getElem_range, List.getElem?_eq_getElem h]
    simp [List.getD, h]
  · rw [List.getElem?_eq_none (by simpa using h), List.getElem?_eq_none h]; rfl
theorem links_perm (l : List UInt8) : (links l).Perm (List.range l.length) := by
  rw [List.perm_ext_iff_of_nodup (links_nodup l) List.nodup_range]
  intro a
  rw [List.mem_range, links_ref, refL_mem]
  have := byte_lt l a
  omega
theorem rotR_perm (s : List UInt8) : ((rots s).map rotR).Perm (rots s) := by
  have h1 : (rots s).Perm ((List.range s.length).map (rot s)) := (sortP_perm s s.length).map _
  refine ((h1.map rotR).trans ?_).trans h1.symm
  rw [List.map_map]
  obtain ⟨m, hm⟩ : ∃ m, s.length = m := ⟨_, rfl⟩
  rw [hm]
  cases m with
  | zero => exact .refl _
  | succ m =>
    have e1 : (List.range (m + 1)).map (rotR ∘ rot s) = rot s m :: (List.range m).map (rot s) := by
      rw [List.range_succ_eq_map, List.map_cons, List.map_map]
      have h0 : (rotR ∘ rot s) 0 = rot s m := by
        have := rotR_zero s (by omega)
        rw [hm] at this
        exact this
      rw [h0]
      congr 1
      apply List.map_congr_left
      intro i hi
      rw [List.mem_range] at hi
      exact rotR_rot s i (by omega)
    rw [e1, List.range_succ, List.map_append]
    exact List.perm_append_comm (l₁ := [_])
theorem refL_sorted (l : List UInt8) : ∀ b, (refL l b).Pairwise (fun j k => (l.getD j 0).toNat < (l.getD k 0).toNat ∨ (l.getD j 0 = l.getD k 0 ∧ j < k))
  | 0 => by simp [refL]
  | b + 1 => by
    rw [refL, List.pairwise_append]
    refine ⟨refL_sorted l b, ?_, ?_⟩
    · refine List.Pairwise.imp_of_mem ?_ ((List.pairwise_lt_range (n := l.length)).sublist (List.filter_sublist (p := fun k => decide ((l.getD k 0).toNat = b))))
      intro j k hj hk hlt
      have h1 := (refBi_mem l b l.length j).1 hj
      have h2 := (refBi_mem l b l.length k).1 hk
      exact .inr ⟨UInt8.toNat_inj.1 (h1.2.trans h2.2.symm), hlt⟩
    · intro j hj k hk
      rw [refL_mem] at hj
      rw [refBi_mem] at hk
      exact .inl (by omega)
theorem lastL_get (s : List UInt8) (j : Nat) (h : j < s.length) : (lastL s).getD j 0 = lastB ((rots s).getD j []) := by
  have hj : j < (sortP s s.length).length := by rw [sortP_len]; exact h
  simp [lastL, rots, List.getD, hj]
theorem rots_mem_len (s : List UInt8) (j : Nat) (h : j < s.length) : ((rots s).getD j []).length = s.length := by
  have hj : j < (sortP s s.length).length := by rw [sortP_len]; exact h
  have hm := (sortP_mem s s.length _).1 (List.getElem_mem hj)
  simp only [rots, List.getD, List.getElem?_map, List.getElem?_eq_getElem hj]
  exact rot_len s _ (by omega)
/-- Behind a link, the rotation is one further. -/
theorem rots_link (s : List UInt8) (a : Nat) (h : a < s.length) : rotR ((rots s).getD ((links (lastL s)).getD a 0) []) = (rots s).getD a [] := by
  have hll := lastL_len s
  have hrl := rots_len s
  have hq : (links (lastL s)).map (fun j => rotR ((rots s).getD j [])) = rots s := by
    refine List.Perm.eq_of_pairwise (le := ble) (fun a b _ _ => ble_antisymm) ?_ ?_ ?_
    · rw [List.pairwise_map, links_ref]
      refine List.Pairwise.imp_of_mem ?_ (refL_sorted (lastL s) 256)
      intro j k hj hk hjk
      have hj := ((refL_mem _ _ _).1 hj).1
      have hk := ((refL_mem _ _ _).1 hk).1
      rw [hll] at hj hk
      rw [lastL_get s j hj, lastL_get s k hk] at hjk
      have lj := rots_mem_len s j hj
      have lk := rots_mem_len s k hk
      unfold ble rotR
      rw [bl_cons]
      rcases hjk with h1 | ⟨h1, h2⟩
      · rw [Bool.or_eq_false_iff, decide_eq_false_iff_not, Bool.and_eq_false_iff]
        refine ⟨by rw [UInt8.lt_iff_toNat_lt]; omega, .inl ?_⟩
        rw [beq_eq_false_iff_ne]
        intro e; rw [e] at h1; omega
      · rw [h1, Bool.or_eq_false_iff, decide_eq_false_iff_not, Bool.and_eq_false_iff]
        refine ⟨by rw [UInt8.lt_iff_toNat_lt]; omega, .inr ?_⟩
        have hs : (rots s).Pairwise ble := by
          unfold rots; rw [List.pairwise_map]; exact sortP_sorted s s.length
        have h3 := List.pairwise_iff_getElem.1 hs j k (by omega) (by omega) h2
        have ej : (rots s)[j]'(by omega) = (rots s).getD j [] := by simp [List.getD, hrl, hj]
        have ek : (rots s)[k]'(by omega) = (rots s).getD k [] := by simp [List.getD, hrl, hk]
        rw [ej, ek] at h3
        unfold ble at h3
        rw [init_last ((rots s).getD j []) (by omega), init_last ((rots s).getD k []) (by omega), ← h1] at h3
        rw [bl_snoc _ _ _ (by simp only [List.length_take]; omega)] at h3
        exact h3
    · unfold rots; rw [List.pairwise_map]; exact sortP_sorted s s.length
    · have h1 := (links_perm (lastL s)).map (fun j => rotR ((rots s).getD j []))
      refine h1.trans ?_
      have h2 : (List.range (lastL s).length).map (fun j => rotR ((rots s).getD j [])) = (rots s).map rotR := by
        have := congrArg (List.map rotR) (map_getD_range (rots s) [])
        rw [List.map_map] at this
        rw [hll, ← hrl]
        exact this
      rw [h2]
      exact rotR_perm s
  have hlk : a < (links (lastL s)).length := by rw [links_len, hll]; exact h
  have := congrArg (fun l => l.getD a []) hq
  simp only [List.getD, List.getElem?_map, List.getElem?_eq_getElem hlk] at this ⊢
  exact this
/-- The way back. -/
theorem outK_back (s : List UInt8) (o : Nat) (ho : o < s.length) (h0 : (sortP s s.length)[o]? = some 0) :
    ∀ k, k ≤ s.length → (rots s).getD (atK (lastL s) o k) [] = rot s k ∧ outK (lastL s) o k = s.take k
  | 0, _ => by
    refine ⟨?_, by rw [List.take_zero]; rfl⟩
    show (rots s).getD o [] = rot s 0
    simp [rots, List.getD, h0]
  | k + 1, hk => by
    obtain ⟨h1, h2⟩ := outK_back s o ho h0 k (by omega)
    have ha := atK_lt (lastL s) o (by rw [lastL_len]; exact ho) k
    have ha' := atK_lt (lastL s) o (by rw [lastL_len]; exact ho) (k + 1)
    rw [lastL_len] at ha ha'
    have h3 := rots_link s _ ha
    rw [h1] at h3
    have h4 : atK (lastL s) o (k + 1) = (links (lastL s)).getD (atK (lastL s) o k) 0 := rfl
    rw [← h4] at h3
    have hl := rots_mem_len s _ ha'
    have h5 := init_last ((rots s).getD (atK (lastL s) o (k + 1)) []) (by omega)
    have h6 := lastL_get s _ ha'
    rw [rot_head s k (by omega)] at h3
    unfold rotR at h3
    obtain ⟨h7, h8⟩ := List.cons.inj h3
    refine ⟨?_, ?_⟩
    · rw [h5, h7, h8, rot_succ s k (by omega)]
    · rw [outK, h2, h6, h7, take_succ' s k (by omega)]
theorem text_back (s : List UInt8) (o : Nat) (ho : o < s.length) (h0 : (sortP s s.length)[o]? = some 0) : text (lastL s) o = s := by
  unfold text
  rw [lastL_len, (outK_back s o ho h0 s.length (Nat.le_refl _)).2, List.take_length]
end Go.M18
