/- Rules for rows that are read wherever they lie. No program in sight but the engine's. -/
import Derived.Test.YtbhbdleffackaaaGreatDoorSu
set_option linter.unusedVariables false
set_option linter.unusedSimpArgs false
namespace Go.Proofs.YtbhbdleffackaaaGreatDoor
open Go Go.Vc
namespace S4r
section
variable {α : Type} {P : Program} {w : World} {L : List HProp}
/-- A row of elements of several cells each, wherever it is held. -/
def InG (F : α → List Value) (k : Nat) (L : List HProp) (a : Option Addr) (xs : List α) : Prop :=
  ∀ w', Holds w' L → ∀ i x, xs[i]? = some x → ∃ p : Addr, a = some p ∧ ∀ j v, (F x)[j]? = some v → w'.cell? ((p.add (i * k)).add j) = some v
theorem InG.up {F : α → List Value} {k : Nat} {a : Option Addr} {xs : List α} {Q : HProp} (h : InG F k L a xs) : InG F k (Q :: L) a xs := fun w' H => h w' H.drop
theorem r_ldG {F : α → List Value} {k : Nat} {a : Option Addr} {xs : List α} {x : α} {i l c : Nat} {q : IntKind} {K : Value → Prop} (hT : InG F k L a xs) (H : Holds w L) (hx : xs[i]? = some x) (hk : (F x).length = k) (hi : i < l) (h : K (.agg (F x).toArray)) :
    Ias k (.slice a l c) (.int q (i : Int)) fun y => LdA k y w K := by
  obtain ⟨p, rfl, hc⟩ := hT w H i x hx
  refine r_iasP hi ?_
  refine r_ldAP (cs := (F x).toArray) (by simpa using hk) (fun j v hv => hc j v (by simpa using hv)) h
theorem flatL_in {F : α → List Value} {k : Nat} (hF : ∀ x, (F x).length = k) : ∀ (xs : List α) (q : Nat) (u : Value), (flatL F xs)[q]? = some u → ∃ i j x, xs[i]? = some x ∧ (F x)[j]? = some u ∧ q = i * k + j
  | [], q, u, h => by simp [flatL] at h
  | y :: r, q, u, h => by
    rw [flatL] at h
    rcases Nat.lt_or_ge q (F y).length with h1 | h1
    · rw [List.getElem?_append_left h1] at h
      exact ⟨0, q, y, rfl, h, by omega⟩
    · rw [List.getElem?_append_right h1] at h
      obtain ⟨i, j, x, h2, h3, h4⟩ := flatL_in hF r _ u h
      refine ⟨i + 1, j, x, by simpa using h2, h3, ?_⟩
      rw [hF] at h1 h4
      rw [Nat.add_mul]; omega
/-- A row of one's own is readable as any. -/
theorem InG.own {F : α → List Value} {k : Nat} {e : TypeId} {oa : Option Addr} {n c : Nat} {xs : List α} (i : Nat) (hi : L[i]? = some (RW F k e (.slice oa n c) xs)) (hF : ∀ x, (F x).length = k) : InG F k L oa xs := by
  intro w' H' q x hx
  obtain ⟨oa', m, sp, hv, H1⟩ := H'.openRW i hi
  cases hv
  have hlt : q < xs.length := (List.getElem?_eq_some_iff.1 hx).1
  obtain ⟨b, rfl, hsp, Hb⟩ := H1.rwb i (set_get hi) (.inl (by omega))
  refine ⟨⟨b, 0, none⟩, rfl, fun j v hj => ?_⟩
  have hjk : j < k := by have := (List.getElem?_eq_some_iff.1 hj).1; rw [hF] at this; exact this
  have h1 := flatL_get hF xs q x hx
  have h2 : (flatL F xs)[q * k + j]? = some v := by
    have : ((flatL F xs).drop (q * k)).take k = F x := h1
    rw [← this, List.getElem?_take_of_lt hjk, List.getElem?_drop] at hj
    exact hj
  rw [Addr.add_add]
  have e1 : (⟨b, 0, none⟩ : Addr).add (q * k + j) = ⟨b, q * k + j, none⟩ := by
    unfold Addr.add; split
    · rename_i h; rw [h]
    · simp
  rw [e1, Hb.cell i (by rw [List.set_set]; exact set_get hi) (q * k + j), List.getElem?_append_left (List.getElem?_eq_some_iff.1 h2).1]
  exact h2
/-- append(nil, ys...): a row of one's own. -/
theorem r_apF0 {t e : TypeId} {k : Nat} [hr : RowN P t e k] (H : Holds w L) {F : α → List Value} {ys : List α} {a : Option Addr} {c' : Nat} {ty : TypeId} {K : Value → World → Prop} (hT : InG F k L a ys) (hF : ∀ y, (F y).length = k) (hs : ys.length ≤ 1000)
    (h : ∀ v w', Same w w' → Holds w' (RW F k e v ys :: L) → K v w') : Ap P #[t, t] ty #[.slice none 0 0, .slice a ys.length c'] w K := by
  obtain ⟨inf, z, hinf, hsz, hby, hzz, hzk⟩ := hr.inf
  have hlen := flatL_len (k := k) hF
  by_cases hy : ys = []
  · subst hy
    have hsrc : Src P inf.size t (.slice a 0 c') 0 [] w := by
      cases a with
      | none => exact Src.ofNil w hr.und c'
      | some p => exact Src.ofSlice w hr.und p 0 c' [] (by simp) (fun j u hu => by simp at hu) (fun _ h => by cases h)
    exact ⟨_, _, run_append_nothing w t t ty e inf hr.und hinf none 0 0 (by omega) _ hsrc, h _ _ (.refl _) (H.nilRW F k e)⟩
  have hn : 0 < ys.length := List.length_pos_iff.2 hy
  obtain ⟨p, rfl, _⟩ := hT w H 0 ys[0] (List.getElem?_eq_getElem hn)
  have hnews : ∀ q u, (flatL F ys)[q]? = some u → w.cell? (p.add q) = some u := by
    intro q u hu
    obtain ⟨i, j, x, h1, h2, rfl⟩ := flatL_in hF ys q u hu
    obtain ⟨p', hp, h3⟩ := hT w H i x h1
    obtain rfl := Option.some.inj hp
    rw [← Addr.add_add]
    exact h3 j u h2
  have hmul : ys.length * inf.bytes ≤ 140737488355328 := Nat.le_trans (Nat.mul_le_mul_left _ hby) (by omega)
  have hrun := run_append_nil (P := P) w t ty e inf z hr.und hinf hzz p ys.length c' (flatL F ys) (by rw [hlen, hsz]) hnews hn (by omega) (by omega)
  refine ⟨_, _, hrun, ?_⟩
  have hcap := grownCap_ge w ys.length 0 e
  generalize grownCap w ys.length 0 e = cap at hcap ⊢
  have H2 := (H.same (w' := w.drew) rfl).alloc (.cells ((flatL F ys).toArray ++ Builtin.zeroCells z.cells (cap - ys.length)) e)
  have hc : ((flatL F ys).toArray ++ Builtin.zeroCells z.cells (cap - ys.length)) = (flatL F ys ++ (Builtin.zeroCells z.cells (cap - ys.length)).toList).toArray := by simp
  rw [hc] at H2 ⊢
  refine h _ _ ((Same.drew w).trans (.alloc _ _)) (Holds.imp H2 fun g hg => ⟨some ⟨_, 0, none⟩, cap - ys.length, (Builtin.zeroCells z.cells (cap - ys.length)).toList, ?_, rfl, rfl, ?_, hg⟩)
  · congr 1; omega
  · rw [zeroCells_len, hzk]
end
end S4r
end Go.Proofs.YtbhbdleffackaaaGreatDoor
