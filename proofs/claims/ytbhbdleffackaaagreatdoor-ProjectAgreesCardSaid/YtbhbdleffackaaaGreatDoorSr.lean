/- More rules of the separation layer: ranges over strings, slices of many-cell elements, what lies below. -/
import Derived.Test.YtbhbdleffackaaaGreatDoorSq
import Derived.Laws.RangeString
import Derived.Lib.OthersKept
set_option linter.unusedVariables false
set_option linter.unusedSimpArgs false
namespace Go.Vc
variable {P : Program} {w : World} {L : List HProp}
/-- Where a string's iterator stands. -/
def itPos (w : World) (b : Nat) : Nat := match w.heap[b]? with
  | some (.stringIter _ p) => p
  | _ => 0
theorem itPos_of (H : Holds w L) (i : Nat) {b p : Nat} {s : ByteArray} (hi : L[i]? = some (blkO b (.stringIter s p))) : itPos w b = p := by
  unfold itPos; rw [H.obj i hi]
theorem r_rg {t : TypeId} {s : ByteArray} {K : Value → World → Prop} (ht : P.underlying t = some .string) (H : Holds w L)
    (h : ∀ b w', Same w w' → Holds w' (blkO b (.stringIter s 0) :: L) → K (.pointer (some ⟨b, 0, none⟩)) w') : Rg P t (.string s) w K :=
  ⟨_, _, run_range_string w t s ht, h _ _ (.alloc _ _) (H.alloc _)⟩
theorem r_nxT (H : Holds w L) (i : Nat) {t : TypeId} {s : ByteArray} {b p : Nat} {K : Value → World → Prop} (hi : L[i]? = some (blkO b (.stringIter s p))) (hp : p < s.size)
    (h : ∀ w', Same w w' → Holds w' (L.set i (blkO b (.stringIter s (p + (Utf8.decode s p).2)))) → K (.tuple #[.bool true, .int .i64 p, .int .i32 (Utf8.decode s p).1]) w') :
    Nx P (.pointer (some ⟨b, 0, none⟩)) true t w K := by
  have ho := H.obj i hi
  refine ⟨_, _, Lib.run_next_any_at w b s p t ho hp, h _ ⟨rfl, rfl, rfl, by simp [World.iterAt]⟩ (H.upd i hi ?_ ?_)⟩
  · have : b < w.heap.size := by
      rcases Nat.lt_or_ge b w.heap.size with h1 | h1
      · exact h1
      · rw [Array.getElem?_eq_none h1] at ho; cases ho
    simp [World.iterAt, Array.getElem?_setIfInBounds, this]
  · intro c hc
    simp only [World.iterAt, Array.getElem?_setIfInBounds]
    rw [if_neg (by omega)]
theorem r_nxE (H : Holds w L) (i : Nat) {t : TypeId} {s : ByteArray} {b p : Nat} {K : Value → World → Prop} (hi : L[i]? = some (blkO b (.stringIter s p))) (hp : ¬ p < s.size)
    (h : K (.tuple #[.bool false]) w) : Nx P (.pointer (some ⟨b, 0, none⟩)) true t w K :=
  ⟨_, _, Lib.run_next_end_at w b s p t (H.obj i hi) hp, h⟩
theorem r_ex10 {a : Value} {K : Value → Prop} (h : K a) : Ex (.tuple #[a]) 0 K := r_ex rfl h
/-- A row that is built whole. -/
theorem r_bsK {t e : TypeId} {n : Nat} {ps : Array (Nat × Value)} {K : Value → World → Prop} (cells : List Value) (H : Holds w L)
    (h : (Instr.buildSlice t n ps).run P w = .ok (.slice (some ⟨w.heap.size, 0, none⟩) n n) (w.alloc (.cells cells.toArray e)))
    (k : ∀ b w', Same w w' → Holds w' (blk b e cells :: L) → K (.slice (some ⟨b, 0, none⟩) n n) w') : Bs P t n ps w K :=
  ⟨_, _, h, k _ _ (.alloc _ _) (H.alloc _)⟩
theorem SL_of_blk (i : Nat) {α : Type} {f : α → Value} {e : TypeId} {b : Nat} (xs : List α) (H : Holds w L) (hi : L[i]? = some (blk b e (xs.map f))) : Holds w (L.set i (SL f e (.slice (some ⟨b, 0, none⟩) xs.length xs.length) xs)) :=
  H.at i hi fun g hg => ⟨some ⟨b, 0, none⟩, [], by simp, rfl, rfl, by simpa using hg⟩
/-- The address of a row's element, where the row begins its block. -/
theorem r_ias0 {size b l c : Nat} {k : IntKind} {n : Nat} {K : Value → Prop} (h : n < l) (hk : K (.pointer (some ⟨b, n * size, none⟩))) : Ias size (.slice (some ⟨b, 0, none⟩) l c) (.int k (n : Int)) K := by
  refine r_iasP h ?_
  have e1 : (⟨b, 0, none⟩ : Addr).add (n * size) = ⟨b, n * size, none⟩ := by
    unfold Addr.add; split
    · rename_i h; rw [h]
    · simp
  rw [e1]; exact hk
theorem r_fd {off : Nat} {cs : Array Value} {v : Value} {K : Value → Prop} (h : cs[off]? = some v) (k : K v) : Fd off (.agg cs) K := ⟨cs, v, rfl, h, k⟩
theorem r_inv {m : Sem Next} {f : FuncId} {args : Array Value} {K : Value → World → Prop} (h : m.run P w = .ok (.enter f args) w) (k : Cl P f args w K) : Inv P m w K := ⟨f, args, h, k.2⟩
theorem r_ta {x : Value} {xt at_ : TypeId} {ok : Bool} {K : Value → Prop} (v : Value) (h : (Instr.typeAssert x xt at_ ok).run P w = .ok v w) (k : K v) : Ta P x xt at_ ok w K := ⟨v, h, k⟩
theorem r_shl1 {b : Nat} {k : IntKind} {K : Value → Prop} (hb : b ≤ 62) (h : K (.int .i64 ((2 ^ b : Nat) : Int))) : Bp .shl (.int .i64 1) (.int k (b : Int)) K := by
  refine ⟨.int .i64 ((2 ^ b : Nat) : Int), ?_, h⟩
  have h1 : (2 ^ b : Nat) ≤ 2 ^ 62 := Nat.pow_le_pow_right (by omega) hb
  have h2 : IntKind.i64.bits = 64 := rfl
  simp only [bp]
  rw [if_neg (by omega), Int.toNat_natCast, h2, Nat.min_eq_left (by omega), Int.one_mul]
  congr 2
  have h3 : ((2 : Int) ^ b) = ((2 ^ b : Nat) : Int) := by simp
  rw [h3]
  clear h
  generalize (2 ^ b : Nat) = x at h1 ⊢
  exact wrap64 (by omega) (by omega)
/-! unsigned numbers -/
theorem r_ciu64 {k' : IntKind} {n : Int} {K : Value → Prop} (h1 : 0 ≤ n) (h2 : n < 18446744073709551616) (h : K (.int .u64 n)) : Ci .u64 (.int k' n) K := by
  have : Ci .u64 (.int k' n) K := r_ci (by rw [show IntKind.u64.wrap n = n from by show n % 18446744073709551616 = n; omega]; exact h)
  exact this
theorem wrapU32 {z : Int} (h1 : 0 ≤ z) (h2 : z < 4294967296) : IntKind.u32.wrap z = z := by show z % 4294967296 = z; omega
theorem wrapU8 {z : Int} (h1 : 0 ≤ z) (h2 : z < 256) : IntKind.u8.wrap z = z := by show z % 256 = z; omega
theorem r_shrU {s n : Nat} {k k' : IntKind} {K : Value → Prop} (hn : n ≤ k.bits) (h : K (.int k ((s / 2 ^ n : Nat) : Int))) : Bp .shr (.int k (s : Int)) (.int k' (n : Int)) K := by
  refine ⟨_, ?_, h⟩
  simp only [bp]
  rw [if_neg (by omega), Int.toNat_natCast, Nat.min_eq_left hn, Int.fdiv_eq_ediv_of_nonneg _ (by
    have : (0 : Int) ≤ ((2 ^ n : Nat) : Int) := Int.natCast_nonneg _
    simpa using this)]
  simp
theorem r_shlU32 {s n : Nat} {k' : IntKind} {K : Value → Prop} (hn : n ≤ 32) (h : K (.int .u32 ((s * 2 ^ n % 4294967296 : Nat) : Int))) : Bp .shl (.int .u32 (s : Int)) (.int k' (n : Int)) K := by
  refine ⟨_, ?_, h⟩
  have hb : IntKind.u32.bits = 32 := rfl
  simp only [bp]
  rw [if_neg (by omega), Int.toNat_natCast, hb, Nat.min_eq_left hn]
  show some (Value.int .u32 ((s : Int) * 2 ^ n % 4294967296)) = _
  simp
theorem r_xorU32 {s t : Nat} {K : Value → Prop} (hs : s < 4294967296) (ht : t < 4294967296) (h : K (.int .u32 ((s ^^^ t : Nat) : Int))) : Bp .xor (.int .u32 (s : Int)) (.int .u32 (t : Int)) K := by
  refine ⟨_, ?_, h⟩
  have hb : IntKind.u32.bits = 32 := rfl
  have hx : s ^^^ t < 2 ^ 32 := Nat.xor_lt_two_pow (by simpa using hs) (by simpa using ht)
  simp only [bp, if_true]
  rw [hb, BitVec.toNat_xor, BitVec.toNat_ofInt, BitVec.toNat_ofInt]
  have e1 : ((s : Int) % ((2 ^ 32 : Nat) : Int)).toNat = s := by omega
  have e2 : ((t : Int) % ((2 ^ 32 : Nat) : Int)).toNat = t := by omega
  rw [e1, e2, wrapU32 (by omega) (by omega)]
theorem r_mulU32 {s t : Nat} {K : Value → Prop} (h1 : s * t < 4294967296) (h : K (.int .u32 ((s * t : Nat) : Int))) : Bp .mul (.int .u32 (s : Int)) (.int .u32 (t : Int)) K := by
  refine ⟨_, ?_, h⟩
  simp only [bp, if_true]
  rw [← Int.natCast_mul, wrapU32 (by omega) (by omega)]
/-- A row that is written from left to right. -/
def filled {α : Type} (xs : List α) (z : α) (n i : Nat) : List α := xs.take i ++ List.replicate (n - i) z
theorem filled_len {α : Type} {xs : List α} {z : α} {n i : Nat} (hi : i ≤ n) (hn : xs.length = n) : (filled xs z n i).length = n := by simp [filled, hn]; omega
theorem filled_zero {α : Type} (xs : List α) (z : α) (n : Nat) : filled xs z n 0 = List.replicate n z := by simp [filled]
theorem filled_all {α : Type} {xs : List α} {z : α} {n : Nat} (hn : xs.length = n) : filled xs z n n = xs := by simp [filled, ← hn]
theorem filled_set {α : Type} {xs : List α} {z x : α} {n i : Nat} (hi : i < n) (hn : xs.length = n) (hx : xs[i]? = some x) : (filled xs z n i).set i x = filled xs z n (i + 1) := by
  unfold filled
  have hl : (xs.take i).length = i := by simp; omega
  rw [List.set_append_right _ _ (by omega), hl, Nat.sub_self, List.take_add_one, hx, show n - i = (n - (i + 1)) + 1 by omega, List.replicate_succ, List.set_cons_zero, List.append_assoc]
  rfl
theorem r_orU8 {s t : Nat} {K : Value → Prop} (hs : s < 256) (ht : t < 256) (h : K (.int .u8 ((s ||| t : Nat) : Int))) : Bp .or (.int .u8 (s : Int)) (.int .u8 (t : Int)) K := by
  refine ⟨_, ?_, h⟩
  have hb : IntKind.u8.bits = 8 := rfl
  have hx : s ||| t < 2 ^ 8 := Nat.or_lt_two_pow (by simpa using hs) (by simpa using ht)
  simp only [bp, if_true]
  rw [hb, BitVec.toNat_or, BitVec.toNat_ofInt, BitVec.toNat_ofInt]
  have e1 : ((s : Int) % ((2 ^ 8 : Nat) : Int)).toNat = s := by omega
  have e2 : ((t : Int) % ((2 ^ 8 : Nat) : Int)).toNat = t := by omega
  rw [e1, e2, wrapU8 (by omega) (by omega)]
theorem r_andU32 {s t : Nat} {K : Value → Prop} (hs : s < 4294967296) (ht : t < 4294967296) (h : K (.int .u32 ((s &&& t : Nat) : Int))) : Bp .and (.int .u32 (s : Int)) (.int .u32 (t : Int)) K := by
  refine ⟨_, ?_, h⟩
  have hb : IntKind.u32.bits = 32 := rfl
  have hx : s &&& t ≤ s := Nat.and_le_left
  simp only [bp, if_true]
  rw [hb, BitVec.toNat_and, BitVec.toNat_ofInt, BitVec.toNat_ofInt]
  have e1 : ((s : Int) % ((2 ^ 32 : Nat) : Int)).toNat = s := by omega
  have e2 : ((t : Int) % ((2 ^ 32 : Nat) : Int)).toNat = t := by omega
  rw [e1, e2, wrapU32 (by omega) (by omega)]
theorem r_shlU8 {s n : Nat} {k' : IntKind} {K : Value → Prop} (hn : n ≤ 8) (h : K (.int .u8 ((s * 2 ^ n % 256 : Nat) : Int))) : Bp .shl (.int .u8 (s : Int)) (.int k' (n : Int)) K := by
  refine ⟨_, ?_, h⟩
  have hb : IntKind.u8.bits = 8 := rfl
  simp only [bp]
  rw [if_neg (by omega), Int.toNat_natCast, hb, Nat.min_eq_left hn]
  show some (Value.int .u8 ((s : Int) * 2 ^ n % 256)) = _
  simp
theorem r_mulE {a b : Int} (c : Int) {K : Value → Prop} (hc : a * b = c) (h1 : -9223372036854775808 ≤ c) (h2 : c ≤ 9223372036854775807) (h : K (.int .i64 c)) : Bp .mul (.int .i64 a) (.int .i64 b) K := by
  subst hc; exact r_mul h1 h2 h
theorem r_addE {a b : Int} (c : Int) {K : Value → Prop} (hc : a + b = c) (h1 : -9223372036854775808 ≤ c) (h2 : c ≤ 9223372036854775807) (h : K (.int .i64 c)) : Bp .add (.int .i64 a) (.int .i64 b) K := by
  subst hc; exact r_add h1 h2 h
end Go.Vc
