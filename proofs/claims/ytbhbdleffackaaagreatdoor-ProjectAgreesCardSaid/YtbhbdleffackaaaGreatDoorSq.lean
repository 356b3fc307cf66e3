/- Slices of one-cell elements in the separation layer: index, append, make, to a string. -/
import Derived.Test.YtbhbdleffackaaaGreatDoorSl
set_option linter.unusedVariables false
set_option linter.unusedSimpArgs false
namespace Go.Vc

abbrev iv (n : Int) : Value := .int .i64 n
abbrev nv (n : Nat) : Value := .int .i64 (n : Int)
abbrev bv (c : UInt8) : Value := .int .u8 (c.toNat : Int)
abbrev uv (n : Nat) : Value := .int .u32 (n : Int)
abbrev stv (s : ByteArray) : Value := .string s

theorem Sat.at : ∀ {L : List HProp} {h : Hp} (i : Nat) {P Q : HProp}, Sat L h → L[i]? = some P → (∀ g, P g → Q g) → Sat (L.set i Q) h := by
  intro L h i P Q H hi hpq
  exact Sat.push i hi ((H.pull i hi).imp hpq)
theorem Holds.at {w : World} {L : List HProp} (H : Holds w L) (i : Nat) {P Q : HProp} (hi : L[i]? = some P) (hpq : ∀ g, P g → Q g) : Holds w (L.set i Q) := Sat.at i H hi hpq
theorem Holds.atEx {α : Type} {w : World} {L : List HProp} (H : Holds w L) (i : Nat) {P : HProp} {Q : α → HProp} (hi : L[i]? = some P) (hpq : ∀ g, P g → ∃ x, Q x g) : ∃ x, Holds w (L.set i (Q x)) := by
  obtain ⟨g, hg, hs, hL⟩ := H.front i hi
  obtain ⟨x, hx⟩ := hpq g hg
  exact ⟨x, Sat.push i hi ⟨g, hx, hs, hL⟩⟩
theorem Holds.atPure {p : Prop} {w : World} {L : List HProp} (H : Holds w L) (i : Nat) {P Q : HProp} (hi : L[i]? = some P) (hpq : ∀ g, P g → p ∧ Q g) : p ∧ Holds w (L.set i Q) := by
  obtain ⟨g, hg, hs, hL⟩ := H.front i hi
  exact ⟨(hpq g hg).1, Sat.push i hi ⟨g, (hpq g hg).2, hs, hL⟩⟩

section
variable {α : Type}
def slb (f : α → Value) (e : TypeId) (oa : Option Addr) (xs : List α) (sp : List Value) : HProp :=
  match oa with
  | none => pur (xs = [] ∧ sp = [])
  | some a => fun h => a.off = 0 ∧ a.spot = none ∧ blk a.block e (xs.map f ++ sp) h
def SL (f : α → Value) (e : TypeId) (v : Value) (xs : List α) : HProp := fun h => ∃ oa sp, v = .slice oa xs.length (xs.length + sp.length) ∧ slb f e oa xs sp h

theorem Holds.open {w : World} {L : List HProp} (H : Holds w L) (i : Nat) {f : α → Value} {e : TypeId} {v : Value} {xs : List α} (hi : L[i]? = some (SL f e v xs)) :
    ∃ oa sp, v = .slice oa xs.length (xs.length + sp.length) ∧ Holds w (L.set i (slb f e oa xs sp)) := by
  obtain ⟨g, ⟨oa, sp, hv, hg⟩, hs, hL⟩ := H.front i hi
  exact ⟨oa, sp, hv, Sat.push i hi ⟨g, hg, hs, hL⟩⟩
theorem Holds.close {w : World} {L : List HProp} (H : Holds w L) (i : Nat) {f : α → Value} {e : TypeId} {oa : Option Addr} {xs : List α} {sp : List Value} (hi : L[i]? = some (slb f e oa xs sp)) :
    Holds w (L.set i (SL f e (.slice oa xs.length (xs.length + sp.length)) xs)) := H.at i hi fun g hg => ⟨oa, sp, rfl, hg⟩
theorem SL_nil (f : α → Value) (e : TypeId) (h : Hp) : SL f e (.slice none 0 0) [] h := ⟨none, [], rfl, rfl, rfl⟩
theorem Holds.nilSL {w : World} {L : List HProp} (H : Holds w L) (f : α → Value) (e : TypeId) : Holds w (SL f e (.slice none 0 0) [] :: L) :=
  ⟨fun _ => none, SL_nil f e _, (fun b o h => by cases h), by
    have h0 : (hp w).minus (fun _ => none) = hp w := by funext b; simp [Hp.minus]
    rw [h0]; exact H⟩
theorem Holds.slb {w : World} {L : List HProp} (H : Holds w L) (i : Nat) {f : α → Value} {e : TypeId} {b : Nat} {xs : List α} {sp : List Value} (hi : L[i]? = some (slb f e (some ⟨b, 0, none⟩) xs sp)) :
    Holds w (L.set i (blk b e (xs.map f ++ sp))) := H.at i hi fun g hg => hg.2.2
theorem Holds.slb' {w : World} {L : List HProp} (H : Holds w L) (i : Nat) {f : α → Value} {e : TypeId} {b : Nat} {xs : List α} {sp : List Value} (hi : L[i]? = some (blk b e (xs.map f ++ sp))) :
    Holds w (L.set i (Vc.slb f e (some ⟨b, 0, none⟩) xs sp)) := H.at i hi fun g hg => ⟨rfl, rfl, hg⟩
theorem set_get {L : List HProp} {i : Nat} {P Q : HProp} (hi : L[i]? = some P) : (L.set i Q)[i]? = some Q := by
  have : i < L.length := (List.getElem?_eq_some_iff.1 hi).1
  simp [this]
theorem r_ias1 (i : Nat) {w : World} {L : List HProp} (H : Holds w L) {f : α → Value} {e : TypeId} {oa : Option Addr} {xs : List α} {sp : List Value} {l c : Nat} {k : IntKind} {n : Int} {K : Value → Prop}
    (hi : L[i]? = some (Vc.slb f e oa xs sp)) (h0 : 0 ≤ n) (h1 : n < (l : Int)) (hl : l ≤ xs.length) (h : ∀ b, oa = some ⟨b, 0, none⟩ → K (.pointer (some ⟨b, n.toNat, none⟩))) : Ias 1 (.slice oa l c) (.int k n) K := by
  cases oa with
  | none =>
    obtain ⟨g, ⟨h2, _⟩, _⟩ := H.front i hi
    subst h2
    simp at hl; omega
  | some a =>
    obtain ⟨g, ⟨h2, h3, _⟩, _⟩ := H.front i hi
    obtain ⟨b, o, s⟩ := a
    simp only at h2 h3
    subst h2; subst h3
    refine r_ias h0 h1 ?_
    simpa using h b rfl
theorem r_iasN (i : Nat) {w : World} {L : List HProp} (H : Holds w L) {f : α → Value} {e : TypeId} {oa : Option Addr} {xs : List α} {sp : List Value} {l c : Nat} {k : IntKind} {m : Nat} {K : Value → Prop}
    (hi : L[i]? = some (Vc.slb f e oa xs sp)) (h1 : m < l) (hl : l ≤ xs.length) (h : ∀ b, oa = some ⟨b, 0, none⟩ → K (.pointer (some ⟨b, m, none⟩))) : Ias 1 (.slice oa l c) (.int k (m : Int)) K :=
  r_ias1 i H hi (by omega) (by omega) hl (by rw [Int.toNat_natCast]; exact h)
theorem r_ldsl (i : Nat) {w : World} {L : List HProp} (H : Holds w L) {f : α → Value} {e : TypeId} {b o : Nat} {xs : List α} {sp : List Value} {x : α} {K : Value → Prop}
    (hi : L[i]? = some (Vc.slb f e (some ⟨b, 0, none⟩) xs sp)) (hx : xs[o]? = some x) (h : K (f x)) : Ld (.pointer (some ⟨b, o, none⟩)) w K := by
  have hlt : o < xs.length := (List.getElem?_eq_some_iff.1 hx).1
  refine r_ld i (H.slb i hi) (set_get hi) (v := f x) ?_ h
  rw [List.getElem?_append_left (by simpa using hlt), List.getElem?_map, hx]
  rfl
theorem r_stsl (i : Nat) {w : World} {L : List HProp} (H : Holds w L) {f : α → Value} {e : TypeId} {b o : Nat} {xs : List α} {sp : List Value} {v : Value} {K : World → Prop} (x : α)
    (hi : L[i]? = some (Vc.slb f e (some ⟨b, 0, none⟩) xs sp)) (ho : o < xs.length) (hv : v = f x) (hs : sg v = true) (h : ∀ w', Same w w' → Holds w' (L.set i (Vc.slb f e (some ⟨b, 0, none⟩) (xs.set o x) sp)) → K w') :
    St (.pointer (some ⟨b, o, none⟩)) v w K := by
  subst hv
  refine r_st i (H.slb i hi) (set_get hi) (by simp; omega) hs fun w' S H' => h w' S ?_
  have h1 := H'.slb' (f := f) (xs := xs.set o x) (sp := sp) i (b := b) (e := e) (by
    rw [List.set_set, List.set_append_left _ _ (by simpa using ho)]
    rw [set_get hi, ← List.map_set])
  simpa [List.set_set] using h1
end

theorem r_ssl0 {size : Nat} {a : Option Addr} {n c i : Nat} {k : IntKind} {K : Value → Prop} (h1 : i ≤ c) (h : K (.slice a i c)) : Ssl size (.slice a n c) none (some (.int k (i : Int))) K := by
  refine ⟨a, n, c, 0, i, rfl, rfl, ⟨k, rfl⟩, Nat.zero_le _, h1, ?_⟩
  have e : (if c = 0 then a else a.map (·.add (0 * size))) = a := by
    split
    · rfl
    · cases a with
      | none => rfl
      | some x => simp [Addr.add]
  rw [e, Nat.sub_zero, Nat.sub_zero]
  exact h
theorem ext1 {s : ByteArray} {m : Nat} (h : m < s.size) : s.extract m (m + 1) = ⟨[s.data.toList.getD m 0].toArray⟩ := by
  apply ByteArray.ext
  apply Array.ext'
  rw [ByteArray.data_extract, Array.toList_extract]
  have hd : m < s.data.toList.length := by simpa using h
  rw [List.extract_eq_take_drop, List.drop_eq_getElem_cons hd, Nat.add_sub_cancel_left, List.take_succ_cons, List.take_zero, List.getD_eq_getElem?_getD, List.getElem?_eq_getElem hd]
  rfl
theorem r_sst1 {s : ByteArray} {k k' : IntKind} {m : Nat} {K : Value → Prop} (h1 : m < s.size) (h : K (.string ⟨[s.data.toList.getD m 0].toArray⟩)) : Sst (.string s) (some (.int k (m : Int))) (some (.int k' ((m + 1 : Nat) : Int))) K :=
  r_sst ⟨k, rfl⟩ ⟨k', rfl⟩ (by omega) (by omega) (by rw [ext1 h1]; exact h)
theorem r_catL {xs ys : List UInt8} {K : Value → Prop} (hs : xs.length + ys.length ≤ 9223372036854775807) (h : K (.string ⟨(xs ++ ys).toArray⟩)) : Bp .add (.string ⟨xs.toArray⟩) (.string ⟨ys.toArray⟩) K :=
  r_cat (by simpa [ByteArray.size] using by omega) (by
    have e : (⟨xs.toArray⟩ : ByteArray) ++ ⟨ys.toArray⟩ = ⟨(xs ++ ys).toArray⟩ := by
      apply ByteArray.ext
      rw [ByteArray.data_append]
      simp
    rw [e]; exact h)
theorem ba_list (s : ByteArray) : s = ⟨s.data.toList.toArray⟩ := by cases s; rfl
/-- Cells written one behind the other. -/
def setL (cs : List Value) (o : Nat) : List Value → List Value
  | [] => cs
  | v :: r => setL (cs.set o v) (o + 1) r
theorem setL_len : ∀ (vs cs : List Value) (o : Nat), (setL cs o vs).length = cs.length
  | [], _, _ => rfl
  | v :: r, cs, o => by rw [setL, setL_len r, List.length_set]
theorem Same.setCells : ∀ (vs : List Value) (w : World) (a : Addr) (i : Nat), Same w (setCells w a vs i)
  | [], w, _, _ => .refl w
  | v :: r, w, a, i => (Same.setCell w _ v).trans (Same.setCells r _ a (i + 1))
theorem Holds.setCells (i : Nat) {b o : Nat} {t : TypeId} : ∀ (vs : List Value) {w : World} {L : List HProp} {cs : List Value} (k : Nat) (_ : Holds w L) (_ : L[i]? = some (blk b t cs)),
    Holds (Vc.setCells w ⟨b, o, none⟩ vs k) (L.set i (blk b t (setL cs (o + k) vs)))
  | [], w, L, cs, k, H, hi => by
    rw [setL]
    have : L.set i (blk b t cs) = L := by
      apply List.ext_getElem?
      intro j
      rw [List.getElem?_set]
      split
      · rename_i e; subst e; rw [hi]; split
        · rfl
        · rename_i h; rw [List.getElem?_eq_none (by omega)] at hi; cases hi
      · rfl
    rw [this]
    exact H
  | v :: r, w, L, cs, k, H, hi => by
    rw [Vc.setCells, setL]
    have e1 : (⟨b, o, none⟩ : Addr).add k = ⟨b, o + k, none⟩ := by
      unfold Addr.add; split
      · rename_i h; rw [h]; rfl
      · rfl
    rw [e1]
    have H2 := H.set i hi (o + k) v
    have := Holds.setCells (o := o) i r (k + 1) H2 (set_get hi)
    rw [List.set_set] at this
    exact this
theorem r_stA (i : Nat) {w : World} {L : List HProp} (H : Holds w L) {n b o : Nat} {t : TypeId} {cs vs : List Value} {K : World → Prop} (hi : L[i]? = some (blk b t cs)) (ho : o + n ≤ cs.length) (hn : vs.length = n) (hs : vs.all sg = true)
    (h : ∀ w', Same w w' → Holds w' (L.set i (blk b t (setL cs o vs))) → K w') : StA n (.pointer (some ⟨b, o, none⟩)) (.agg vs.toArray) w K := by
  refine ⟨_, vs.toArray, rfl, rfl, by simpa using hn, fun j hj => ?_, by simpa using hs, ?_⟩
  · have e1 : (⟨b, o, none⟩ : Addr).add j = ⟨b, o + j, none⟩ := by
      unfold Addr.add; split
      · rename_i h; rw [h]; rfl
      · rfl
    rw [e1]
    refine ⟨?_, H.frozen i hi (o + j)⟩
    rw [H.cell i hi (o + j), List.getElem?_eq_getElem (by omega)]
    rfl
  · exact h _ (.setCells _ _ _ _) (Holds.setCells i vs 0 H hi)
theorem drop_ext {s : ByteArray} {m : Nat} : s.extract m s.size = ⟨(s.data.toList.drop m).toArray⟩ := by
  apply ByteArray.ext
  apply Array.ext'
  rw [ByteArray.data_extract, Array.toList_extract, List.extract_eq_take_drop]
  rw [List.take_of_length_le (by simp)]
theorem take_ext {s : ByteArray} {m : Nat} : s.extract 0 m = ⟨(s.data.toList.take m).toArray⟩ := by
  apply ByteArray.ext
  apply Array.ext'
  rw [ByteArray.data_extract, Array.toList_extract, List.extract_eq_take_drop, Nat.sub_zero, List.drop_zero]
theorem r_sstD {s : ByteArray} {k : IntKind} {m : Nat} {K : Value → Prop} (h1 : m ≤ s.size) (h : K (.string ⟨(s.data.toList.drop m).toArray⟩)) : Sst (.string s) (some (.int k (m : Int))) none K :=
  r_sst ⟨k, rfl⟩ rfl h1 (Nat.le_refl _) (by rw [drop_ext]; exact h)
theorem r_sstT {s : ByteArray} {k : IntKind} {m : Nat} {K : Value → Prop} (h1 : m ≤ s.size) (h : K (.string ⟨(s.data.toList.take m).toArray⟩)) : Sst (.string s) none (some (.int k (m : Int))) K :=
  r_sst rfl ⟨k, rfl⟩ (Nat.zero_le _) h1 (by rw [take_ext]; exact h)
theorem r_slss {a b : ByteArray} {K : Value → Prop} (h : K (.bool (Op.bytesLess a.data.toList b.data.toList))) : Bp .lss (.string a) (.string b) K :=
  ⟨_, rfl, by rw [ByteArray.toList_eq, ByteArray.toList_eq]; exact h⟩
theorem ba_inj {xs ys : List UInt8} : (⟨xs.toArray⟩ : ByteArray) = ⟨ys.toArray⟩ ↔ xs = ys := by
  constructor
  · intro h
    have := congrArg (fun b : ByteArray => b.data.toList) h
    simpa using this
  · rintro rfl; rfl
theorem r_seqL {xs ys : List UInt8} {K : Value → Prop} (h : K (.bool (decide (xs = ys)))) : Bp .eql (.string ⟨xs.toArray⟩) (.string ⟨ys.toArray⟩) K :=
  r_seq (by rw [show decide ((⟨xs.toArray⟩ : ByteArray) = ⟨ys.toArray⟩) = decide (xs = ys) from by rw [Bool.eq_iff_iff, decide_eq_true_iff, decide_eq_true_iff, ba_inj]]; exact h)
theorem r_iasP {size : Nat} {p : Addr} {l c : Nat} {k : IntKind} {n : Nat} {K : Value → Prop} (h : n < l) (hk : K (.pointer (some (p.add (n * size))))) : Ias size (.slice (some p) l c) (.int k (n : Int)) K :=
  ⟨p, l, c, k, n, rfl, rfl, by omega, by omega, by rw [Int.toNat_natCast]; exact hk⟩
theorem r_ldAP {n : Nat} {p : Addr} {w : World} {cs : Array Value} {K : Value → Prop} (hn : cs.size = n) (hc : ∀ (j : Nat) v, cs[j]? = some v → w.cell? (p.add j) = some v) (hk : K (.agg cs)) : LdA n (.pointer (some p)) w K :=
  ⟨p, cs, rfl, hn, hc, hk⟩
theorem r_ldP {p : Addr} {w : World} {v : Value} {K : Value → Prop} (hc : w.cell? p = some v) (hk : K v) : Ld (.pointer (some p)) w K := ⟨p, v, rfl, hc, hk⟩
/-- What the tables say of a slice type of one-cell elements. -/
class Row (P : Program) (t : TypeId) (e : outParam TypeId) (z : outParam Value) : Prop where
  und : P.underlying t = some (.slice e)
  inf : ∃ i, P.info? e = some i ∧ i.size = 1 ∧ i.bytes ≤ 32 ∧ i.zero = some z
  one : z.cells = #[z]

section
variable {α : Type} {P : Program} {w : World} {L : List HProp}
theorem r_ms {t e : TypeId} {z : Value} [hr : Row P t e z] (H : Holds w L) {f : α → Value} {x : α} (hz : z = f x) {k k' : IntKind} {n : Int} {K : Value → World → Prop} (h0 : 0 ≤ n) (h1 : n ≤ 1099511627776)
    (h : ∀ b w', Same w w' → Holds w' (slb f e (some ⟨b, 0, none⟩) (List.replicate n.toNat x) [] :: L) → K (.slice (some ⟨b, 0, none⟩) n.toNat n.toNat) w') : Ms P t (.int k n) (.int k' n) w K := by
  obtain ⟨i, hi, hsz, hby, hzz⟩ := hr.inf
  have hrun := run_make (P := P) w t e i z hr.und hi hzz k k' n n h0 (Int.le_refl _) (by
    have : (i.bytes : Int) * n ≤ 32 * n := Int.mul_le_mul_of_nonneg_right (by omega) h0
    omega) (by omega)
  refine ⟨_, _, hrun, h _ _ (.alloc _ _) ?_⟩
  have hc : madeCells z.cells (n.toNat * i.size) = ((List.replicate n.toNat x).map f).toArray := by
    rw [hsz, Nat.mul_one, hr.one]
    apply Array.ext
    · simp [madeCells]
    · intro j h1 h2
      simp [madeCells, hz, Nat.mod_one]
  have := H.alloc (.cells (madeCells z.cells (n.toNat * i.size)) e)
  rw [hc] at this ⊢
  refine Holds.imp this fun g hg => ⟨rfl, rfl, ?_⟩
  rw [List.append_nil]
  exact hg
theorem r_bs1 {t e : TypeId} {z : Value} [hr : Row P t e z] (H : Holds w L) {v : Value} {K : Value → World → Prop} (hs : sg v = true)
    (h : ∀ b w', Same w w' → Holds w' (blk b e [v] :: L) → K (.slice (some ⟨b, 0, none⟩) 1 1) w') : Bs P t 1 #[(0, v)] w K := by
  obtain ⟨i, hi, hsz, hby, hzz⟩ := hr.inf
  have hcells : v.cells = #[v] := by cases v <;> first | rfl | simp [sg] at hs
  refine ⟨.slice (some ⟨w.heap.size, 0, none⟩) 1 1, w.alloc (.cells #[v] e), ?_, h _ _ (.alloc _ _) (H.alloc _)⟩
  have hc : (Array.map (fun x => [z][x % 1]?.getD default) (Array.range 1)).setIfInBounds 0 v = #[v] := by
    apply Array.ext
    · simp
    · intro j h1 h2
      have : j = 0 := by simpa using h2
      subst this
      simp
  simp [Instr.buildSlice, run_underlying hr.und, sizeOf, typeInfo, hi, hsz, zeroValue, hzz, Instr.fill, hcells, newRow, newObj, hr.one]
  rw [hc]
  rfl
theorem sg_one {v : Value} (h : sg v = true) : v.oneCell' = true := by
  cases v <;> first | rfl | simp [sg] at h
/-- append(s, ys...) of a slice of its own; ys lies in a row that is read alone. -/
theorem r_ap {t e : TypeId} {z : Value} [hr : Row P t e z] (H : Holds w L) (i j : Nat) {f : α → Value} {oa : Option Addr} {xs ys : List α} {sp : List Value} {l c m c' b2 : Nat} {cs : List Value} {ty : TypeId} {K : Value → World → Prop}
    (hi : L[i]? = some (slb f e oa xs sp)) (hj : L[j]? = some (blk b2 e cs)) (hcs : cs.take m = ys.map f) (hm : m = ys.length) (hl : l = xs.length) (hc : c = xs.length + sp.length) (hs : ∀ y, sg (f y) = true)
    (hn : xs.length + ys.length ≤ 1099511627776) (hne : 0 < ys.length)
    (h : ∀ oa' sp' w', Same w w' → Holds w' (L.set i (slb f e oa' (xs ++ ys) sp')) → K (.slice oa' (xs.length + ys.length) (xs.length + ys.length + sp'.length)) w') :
    Ap P #[t, t] ty #[.slice oa l c, .slice (some ⟨b2, 0, none⟩) m c'] w K := by
  subst hl hc hm
  obtain ⟨inf, hinf, hsz, hby, hzz⟩ := hr.inf
  have hnews : ∀ k u, (ys.map f)[k]? = some u → w.cell? ((⟨b2, 0, none⟩ : Addr).add k) = some u := by
    intro k u hu
    have e1 : (⟨b2, 0, none⟩ : Addr).add k = ⟨b2, k, none⟩ := by
      unfold Addr.add; split
      · rename_i h; rw [h]
      · simp
    rw [e1, H.cell j hj k]
    have hk : k < ys.length := by have := (List.getElem?_eq_some_iff.1 hu).1; simpa using this
    rw [← hu, ← hcs, List.getElem?_take_of_lt hk]
  have hmul : (xs.length + ys.length) * inf.bytes ≤ 140737488355328 :=
    Nat.le_trans (Nat.mul_le_mul_left _ hby) (by omega)
  have grow : ∀ (b : Addr) (olds : List Value), olds = xs.map f → (∀ k v, olds[k]? = some v → w.cell? (b.add k) = some v) → sp.length < ys.length →
      (∃ o, L[i]? = some o) → Ap P #[t, t] ty #[.slice (some b) xs.length (xs.length + sp.length), .slice (some ⟨b2, 0, none⟩) ys.length c'] w K := by
    intro b olds ho hold hg _
    subst ho
    have hrun := run_append_grow (P := P) w t ty e inf z hr.und hinf hzz b xs.length (xs.length + sp.length) (xs.map f) (by simp [hsz]) hold
      ⟨b2, 0, none⟩ ys.length c' (ys.map f) (by simp [hsz]) hnews (by omega) (by omega) (growslice_fits (by omega) hmul)
    refine ⟨_, _, hrun, ?_⟩
    have hcap := grownCap_ge w (xs.length + ys.length) (xs.length + sp.length) e
    generalize grownCap w (xs.length + ys.length) (xs.length + sp.length) e = cap at hcap ⊢
    have hz2 : Builtin.zeroCells z.cells (cap - (xs.length + ys.length)) = (List.replicate (cap - (xs.length + ys.length)) z).toArray := by
      rw [hr.one]
      apply Array.ext
      · simp [Builtin.zeroCells]
      · intro j h1 h2
        simp [Builtin.zeroCells, Nat.mod_one]
    have hcells : ((xs.map f).toArray ++ (ys.map f).toArray ++ Builtin.zeroCells z.cells (cap - (xs.length + ys.length))) = ((xs ++ ys).map f ++ List.replicate (cap - (xs.length + ys.length)) z).toArray := by
      rw [hz2]; simp
    rw [hcells]
    have H1 : Holds w.drew L := H.same rfl
    have H2 := H1.alloc (.cells ((xs ++ ys).map f ++ List.replicate (cap - (xs.length + ys.length)) z).toArray e)
    have H3 : Holds (w.drew.alloc (.cells ((xs ++ ys).map f ++ List.replicate (cap - (xs.length + ys.length)) z).toArray e)) (L.set i (slb f e (some ⟨w.heap.size, 0, none⟩) (xs ++ ys) (List.replicate (cap - (xs.length + ys.length)) z))) := by
      -- the new block in the place of the old row
      have H4 := (Holds.imp H2 (Q := slb f e (some ⟨w.heap.size, 0, none⟩) (xs ++ ys) (List.replicate (cap - (xs.length + ys.length)) z)) fun g hg => ⟨rfl, rfl, hg⟩)
      have H5 := H4.dropAt (i + 1)
      rw [List.eraseIdx_cons_succ] at H5
      exact Sat.push i hi H5
    have := h (some ⟨w.heap.size, 0, none⟩) (List.replicate (cap - (xs.length + ys.length)) z) _ ((Same.drew w).trans (.alloc _ _)) H3
    have hc2 : xs.length + ys.length + (List.replicate (cap - (xs.length + ys.length)) z).length = cap := by simp; omega
    rw [hc2] at this
    exact this
  cases oa with
  | none =>
    obtain ⟨g, ⟨h2, h3⟩, _⟩ := H.front i hi
    subst h2; subst h3
    simp only [List.length_nil, Nat.zero_add, List.nil_append] at hn hmul h ⊢
    have hrun := run_append_nil (P := P) w t ty e inf z hr.und hinf hzz ⟨b2, 0, none⟩ ys.length c' (ys.map f) (by simp [hsz]) hnews (by omega) (by omega) (by omega)
    refine ⟨_, _, hrun, ?_⟩
    have hcap := grownCap_ge w ys.length 0 e
    generalize grownCap w ys.length 0 e = cap at hcap ⊢
    have hz2 : Builtin.zeroCells z.cells (cap - ys.length) = (List.replicate (cap - ys.length) z).toArray := by
      rw [hr.one]
      apply Array.ext
      · simp [Builtin.zeroCells]
      · intro j h1 h2
        simp [Builtin.zeroCells, Nat.mod_one]
    have hcells : ((ys.map f).toArray ++ Builtin.zeroCells z.cells (cap - ys.length)) = (ys.map f ++ List.replicate (cap - ys.length) z).toArray := by
      rw [hz2]; simp
    rw [hcells]
    have H2 := (H.same (w' := w.drew) rfl).alloc (.cells (ys.map f ++ List.replicate (cap - ys.length) z).toArray e)
    have H4 := (Holds.imp H2 (Q := slb f e (some ⟨w.heap.size, 0, none⟩) ys (List.replicate (cap - ys.length) z)) fun g hg => ⟨rfl, rfl, hg⟩)
    have H5 := H4.dropAt (i + 1)
    rw [List.eraseIdx_cons_succ] at H5
    have := h (some ⟨w.heap.size, 0, none⟩) (List.replicate (cap - ys.length) z) _ ((Same.drew w).trans (.alloc _ _)) (Sat.push i hi H5)
    have hc2 : ys.length + (List.replicate (cap - ys.length) z).length = cap := by simp; omega
    rw [hc2] at this
    exact this
  | some a =>
    obtain ⟨g, ⟨h2, h3, _⟩, _⟩ := H.front i hi
    obtain ⟨b, o, s⟩ := a
    simp only at h2 h3
    subst h2; subst h3
    have Hb := H.slb i hi
    have hgi : (L.set i (blk b e (xs.map f ++ sp)))[i]? = some (blk b e (xs.map f ++ sp)) := set_get hi
    have hold : ∀ k v, (xs.map f)[k]? = some v → w.cell? ((⟨b, 0, none⟩ : Addr).add k) = some v := by
      intro k v hv
      have e1 : (⟨b, 0, none⟩ : Addr).add k = ⟨b, k, none⟩ := by
        unfold Addr.add; split
        · rename_i h; rw [h]
        · simp
      rw [e1, Hb.cell i hgi k, List.getElem?_append_left (by simpa using (List.getElem?_eq_some_iff.1 hv).1)]
      exact hv
    rcases Nat.lt_or_ge sp.length ys.length with hg | hg
    · exact grow ⟨b, 0, none⟩ _ rfl hold hg ⟨_, hi⟩
    · have hobj := Hb.obj i hgi
      have hrun := run_append_room (P := P) w t ty e inf hr.und hinf b xs.length (xs.length + sp.length) (xs.map f ++ sp).toArray hobj
        ⟨b2, 0, none⟩ ys.length c' (ys.map f) (by simp [hsz]) hnews (by simpa using fun y _ => sg_one (hs y)) (by omega) (by simp [hsz]; omega)
      refine ⟨_, _, hrun, ?_⟩
      have hcells : (((xs.map f ++ sp).toArray.toList.take (xs.length * inf.size) ++ ys.map f ++ (xs.map f ++ sp).toArray.toList.drop (xs.length * inf.size + (ys.map f).length)).toArray) = ((xs ++ ys).map f ++ sp.drop ys.length).toArray := by
        rw [hsz]
        simp [List.take_append, List.drop_append]
      rw [hcells]
      have H3 : Holds (w.setRow b ((xs ++ ys).map f ++ sp.drop ys.length).toArray) (L.set i (slb f e (some ⟨b, 0, none⟩) (xs ++ ys) (sp.drop ys.length))) := by
        have := Hb.upd (w' := w.setRow b ((xs ++ ys).map f ++ sp.drop ys.length).toArray) i hgi (o' := .cells ((xs ++ ys).map f ++ sp.drop ys.length).toArray e) (setRow_heap w b _ _ e _ hobj) fun c hc => setRow_other w b c _ hc
        have h4 := Holds.slb' (f := f) (e := e) (b := b) (xs := xs ++ ys) (sp := sp.drop ys.length) this i (by rw [List.set_set]; exact set_get hi)
        simpa [List.set_set] using h4
      have hlen : xs.length + sp.length = xs.length + ys.length + (sp.drop ys.length).length := by simp; omega
      rw [hlen]
      exact h _ _ _ ⟨rfl, rfl, rfl, by simp⟩ H3

/-- append(s, x) of a slice of its own. -/
theorem r_app1 {t e : TypeId} {z : Value} [hr : Row P t e z] (H : Holds w L) (i : Nat) {f : α → Value} {v : Value} {xs : List α} {ty : TypeId} {K : Value → World → Prop}
    (hi : L[i]? = some (SL f e v xs)) (x : α) (hs : ∀ y, sg (f y) = true) (hn : xs.length + 1 ≤ 1099511627776)
    (h : ∀ v' w', Same w w' → Holds w' (L.set i (SL f e v' (xs ++ [x]))) → K v' w') : Bs P t 1 #[(0, f x)] w fun y w2 => Ap P #[t, t] ty #[v, y] w2 K := by
  obtain ⟨oa, sp, rfl, H1⟩ := H.open i hi
  refine r_bs1 H1 (hs x) fun b3 w3 S3 H3 => ?_
  refine r_ap (f := f) (ys := [x]) H3 (i + 1) 0 (xs := xs) (sp := sp) (by rw [List.getElem?_cons_succ]; exact set_get hi) rfl rfl rfl rfl rfl hs (by rw [List.length_singleton]; omega) (by simp) fun oa' sp' w4 S4 H4 => ?_
  rw [List.set_cons_succ, List.set_set] at H4
  have H5 := H4.drop.close i (set_get hi)
  rw [List.set_set] at H5
  have e : xs.length + [x].length = (xs ++ [x]).length := by simp
  rw [e]
  exact h _ _ (S3.trans S4) H5
theorem foldl_push (l : List UInt8) : ∀ (s : ByteArray), (l.map fun c => (c.toNat : Int)).foldl (fun r n => r.push (UInt8.ofNat n.toNat)) s = ⟨(s.data.toList ++ l).toArray⟩ := by
  induction l with
  | nil => intro s; simp
  | cons c l ih =>
    intro s
    rw [List.map_cons, List.foldl_cons, ih]
    simp [ByteArray.push]
class Bytes (P : Program) (t e d : TypeId) : Prop where
  und : P.underlying t = some (.slice e)
  el : P.underlying e = some (.int .u8)
  str : P.underlying d = some .string
/-- string(b) -/
theorem r_cbs {t e d : TypeId} [hr : Bytes P t e d] (H : Holds w L) (i : Nat) {oa : Option Addr} {xs : List UInt8} {sp : List Value} {l c : Nat} {K : Value → World → Prop}
    (hi : L[i]? = some (slb bv e oa xs sp)) (hl : l = xs.length) (h : K (.string ⟨xs.toArray⟩) w) : Cw P t d (.slice oa l c) w K := by
  subst hl
  cases oa with
  | none =>
    obtain ⟨g, ⟨h2, h3⟩, _⟩ := H.front i hi
    subst h2
    refine ⟨.string ⟨[].toArray⟩, w, ?_, h⟩
    rw [run_convert_bytes_string (P := P) w t d e none _ c hr.und hr.el hr.str]
    rfl
  | some a =>
    obtain ⟨g, ⟨h2, h3, _⟩, _⟩ := H.front i hi
    obtain ⟨b, o, s⟩ := a
    simp only at h2 h3
    subst h2; subst h3
    have Hb := H.slb i hi
    refine ⟨_, w, ?_, h⟩
    rw [run_convert_bytes_string (P := P) w t d e _ _ c hr.und hr.el hr.str]
    have hload : (loadCells (⟨b, 0, none⟩ : Addr) xs.length).run P w = .ok ((xs.map fun c => (c.toNat : Int)).map (Value.int .u8)).toArray w := by
      have hcells : ((xs.map fun c => (c.toNat : Int)).map (Value.int .u8)) = xs.map bv := by rw [List.map_map]; rfl
      rw [hcells]
      have := run_loadCells (P := P) (w := w) (a := ⟨b, 0, none⟩) (cs := (xs.map bv).toArray) (fun j v hv => by
        have e1 : (⟨b, 0, none⟩ : Addr).add j = ⟨b, j, none⟩ := by
          unfold Addr.add; split
          · rename_i h; rw [h]
          · simp
        rw [e1, Hb.cell i (set_get hi) j]
        have hv' : (xs.map bv)[j]? = some v := by simpa using hv
        rw [List.getElem?_append_left (List.getElem?_eq_some_iff.1 hv').1]
        exact hv')
      simpa using this
    rw [run_bytesToString (P := P) w _ xs.length c _ hload, foldl_push]
    simp
end
end Go.Vc
