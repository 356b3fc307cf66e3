/- More rules of the separation layer: ranges over strings, slices of many-cell elements, what lies below. -/
import Derived.Test.YtbccjjbfiodbeaaDoorSq
import Derived.Laws.RangeString
import Derived.Lib.OthersKept
set_option linter.unusedVariables false
set_option linter.unusedSimpArgs false
namespace Go.Vc
variable {P : Program} {w : World} {L : List HProp}
/-- Where a string's iterator stands. -/
def itPos (w : World) (b : Nat) : Nat := match w.heap[b]? with
  | some (.stringIter _ p) => p
  | _ => 0
theorem itPos_of (H : Holds w L) (i : Nat) {b p : Nat} {s : ByteArray} (hi : L[i]? = some (blkO b (.stringIter s p))) : itPos w b = p := by
  unfold itPos; rw [H.obj i hi]
theorem r_rg {t : TypeId} {s : ByteArray} {K : Value → World → Prop} (ht : P.underlying t = some .string) (H : Holds w L)
    (h : ∀ b w', Same w w' → Holds w' (blkO b (.stringIter s 0) :: L) → K (.pointer (some ⟨b, 0, none⟩)) w') : Rg P t (.string s) w K :=
  ⟨_, _, run_range_string w t s ht, h _ _ (.alloc _ _) (H.alloc _)⟩
theorem r_nxT (H : Holds w L) (i : Nat) {t : TypeId} {s : ByteArray} {b p : Nat} {K : Value → World → Prop} (hi : L[i]? = some (blkO b (.stringIter s p))) (hp : p < s.size)
    (h : ∀ w', Same w w' → Holds w' (L.set i (blkO b (.stringIter s (p + (Utf8.decode s p).2)))) → K (.tuple #[.bool true, .int .i64 p, .int .i32 (Utf8.decode s p).1]) w') :
    Nx P (.pointer (some ⟨b, 0, none⟩)) true t w K := by
  have ho := H.obj i hi
  refine ⟨_, _, Lib.run_next_any_at w b s p t ho hp, h _ ⟨rfl, rfl, rfl, by simp [World.iterAt]⟩ (H.upd i hi ?_ ?_)⟩
  · have : b < w.heap.size := by
      rcases Nat.lt_or_ge b w.heap.size with h1 | h1
      · exact h1
      · rw [Array.getElem?_eq_none h1] at ho; cases ho
    simp [World.iterAt, Array.getElem?_setIfInBounds, this]
  · intro c hc
    simp only [World.iterAt, Array.getElem?_setIfInBounds]
    rw [if_neg (by omega)]
theorem r_nxE (H : Holds w L) (i : Nat) {t : TypeId} {s : ByteArray} {b p : Nat} {K : Value → World → Prop} (hi : L[i]? = some (blkO b (.stringIter s p))) (hp : ¬ p < s.size)
    (h : K (.tuple #[.bool false]) w) : Nx P (.pointer (some ⟨b, 0, none⟩)) true t w K :=
  ⟨_, _, Lib.run_next_end_at w b s p t (H.obj i hi) hp, h⟩
theorem r_ex10 {a : Value} {K : Value → Prop} (h : K a) : Ex (.tuple #[a]) 0 K := r_ex rfl h
/-- A row that is built whole. -/
theorem r_bsK {t e : TypeId} {n : Nat} {ps : Array (Nat × Value)} {K : Value → World → Prop} (cells : List Value) (H : Holds w L)
    (h : (Instr.buildSlice t n ps).run P w = .ok (.slice (some ⟨w.heap.size, 0, none⟩) n n) (w.alloc (.cells cells.toArray e)))
    (k : ∀ b w', Same w w' → Holds w' (blk b e cells :: L) → K (.slice (some ⟨b, 0, none⟩) n n) w') : Bs P t n ps w K :=
  ⟨_, _, h, k _ _ (.alloc _ _) (H.alloc _)⟩
theorem SL_of_blk (i : Nat) {α : Type} {f : α → Value} {e : TypeId} {b : Nat} (xs : List α) (H : Holds w L) (hi : L[i]? = some (blk b e (xs.map f))) : Holds w (L.set i (SL f e (.slice (some ⟨b, 0, none⟩) xs.length xs.length) xs)) :=
  H.at i hi fun g hg => ⟨some ⟨b, 0, none⟩, [], by simp, rfl, rfl, by simpa using hg⟩
/-- The address of a row's element, where the row begins its block. -/
theorem r_ias0 {size b l c : Nat} {k : IntKind} {n : Nat} {K : Value → Prop} (h : n < l) (hk : K (.pointer (some ⟨b, n * size, none⟩))) : Ias size (.slice (some ⟨b, 0, none⟩) l c) (.int k (n : Int)) K := by
  refine r_iasP h ?_
  have e1 : (⟨b, 0, none⟩ : Addr).add (n * size) = ⟨b, n * size, none⟩ := by
    unfold Addr.add; split
    · rename_i h; rw [h]
    · simp
  rw [e1]; exact hk
theorem r_shl1 {b : Nat} {k : IntKind} {K : Value → Prop} (hb : b ≤ 62) (h : K (.int .i64 ((2 ^ b : Nat) : Int))) : Bp .shl (.int .i64 1) (.int k (b : Int)) K := by
  refine ⟨.int .i64 ((2 ^ b : Nat) : Int), ?_, h⟩
  have h1 : (2 ^ b : Nat) ≤ 2 ^ 62 := Nat.pow_le_pow_right (by omega) hb
  have h2 : IntKind.i64.bits = 64 := rfl
  simp only [bp]
  rw [if_neg (by omega), Int.toNat_natCast, h2, Nat.min_eq_left (by omega), Int.one_mul]
  congr 2
  have h3 : ((2 : Int) ^ b) = ((2 ^ b : Nat) : Int) := by simp
  rw [h3]
  clear h
  generalize (2 ^ b : Nat) = x at h1 ⊢
  exact wrap64 (by omega) (by omega)
theorem r_mulE {a b : Int} (c : Int) {K : Value → Prop} (hc : a * b = c) (h1 : -9223372036854775808 ≤ c) (h2 : c ≤ 9223372036854775807) (h : K (.int .i64 c)) : Bp .mul (.int .i64 a) (.int .i64 b) K := by
  subst hc; exact r_mul h1 h2 h
theorem r_addE {a b : Int} (c : Int) {K : Value → Prop} (hc : a + b = c) (h1 : -9223372036854775808 ≤ c) (h2 : c ≤ 9223372036854775807) (h : K (.int .i64 c)) : Bp .add (.int .i64 a) (.int .i64 b) K := by
  subst hc; exact r_add h1 h2 h
end Go.Vc
