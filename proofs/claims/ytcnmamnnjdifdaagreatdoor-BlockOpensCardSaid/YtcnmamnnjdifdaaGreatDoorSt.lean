/- Rows of elements of many cells: append, and reading. No program in sight. -/
import Derived.Test.YtcnmamnnjdifdaaGreatDoorSr
set_option linter.unusedVariables false
set_option linter.unusedSimpArgs false
namespace Go.Vc
/-- What the tables say of a slice type of elements of k cells. -/
class RowN (P : Program) (t : TypeId) (e : outParam TypeId) (k : outParam Nat) : Prop where
  und : P.underlying t = some (.slice e)
  inf : ∃ i z, P.info? e = some i ∧ i.size = k ∧ i.bytes ≤ 256 ∧ i.zero = some z ∧ z.cells.size = k
variable {α : Type} {P : Program} {w : World} {L : List HProp}
def flatL (F : α → List Value) : List α → List Value
  | [] => []
  | x :: r => F x ++ flatL F r
theorem flatL_app (F : α → List Value) (a b : List α) : flatL F (a ++ b) = flatL F a ++ flatL F b := by
  induction a with
  | nil => rfl
  | cons x r ih => simp [flatL, ih]
theorem flatL_len {F : α → List Value} {k : Nat} (hF : ∀ x, (F x).length = k) (xs : List α) : (flatL F xs).length = xs.length * k := by
  induction xs with
  | nil => simp [flatL]
  | cons x r ih => simp [flatL, ih, hF, Nat.add_mul]; omega
theorem flatL_get {F : α → List Value} {k : Nat} (hF : ∀ x, (F x).length = k) : ∀ (xs : List α) (i : Nat) (x : α), xs[i]? = some x → ((flatL F xs).drop (i * k)).take k = F x
  | y :: r, 0, x, h => by
    simp at h; subst h
    have := hF y
    simp [flatL, List.take_append, this]
  | y :: r, i + 1, x, h => by
    have h1 := flatL_get hF r i x (by simpa using h)
    have := hF y
    rw [flatL, List.drop_append, this, List.drop_of_length_le (by rw [this, Nat.add_mul]; omega), List.nil_append, show (i + 1) * k - k = i * k by rw [Nat.add_mul]; omega]
    exact h1
def rwb (F : α → List Value) (k : Nat) (e : TypeId) (oa : Option Addr) (xs : List α) (m : Nat) (sp : List Value) : HProp :=
  match oa with
  | none => pur (xs = [] ∧ m = 0)
  | some a => fun h => a.off = 0 ∧ a.spot = none ∧ sp.length = m * k ∧ blk a.block e (flatL F xs ++ sp) h
def RW (F : α → List Value) (k : Nat) (e : TypeId) (v : Value) (xs : List α) : HProp := fun h => ∃ oa m sp, v = .slice oa xs.length (xs.length + m) ∧ rwb F k e oa xs m sp h
theorem Holds.openRW (H : Holds w L) (i : Nat) {F : α → List Value} {k : Nat} {e : TypeId} {v : Value} {xs : List α} (hi : L[i]? = some (RW F k e v xs)) :
    ∃ oa m sp, v = .slice oa xs.length (xs.length + m) ∧ Holds w (L.set i (rwb F k e oa xs m sp)) := by
  obtain ⟨g, ⟨oa, m, sp, hv, hg⟩, hs, hL⟩ := H.front i hi
  exact ⟨oa, m, sp, hv, Sat.push i hi ⟨g, hg, hs, hL⟩⟩
theorem Holds.closeRW (H : Holds w L) (i : Nat) {F : α → List Value} {k : Nat} {e : TypeId} {oa : Option Addr} {xs : List α} {m : Nat} {sp : List Value} (hi : L[i]? = some (rwb F k e oa xs m sp)) :
    Holds w (L.set i (RW F k e (.slice oa xs.length (xs.length + m)) xs)) := H.at i hi fun g hg => ⟨oa, m, sp, rfl, hg⟩
theorem Holds.nilRW (H : Holds w L) (F : α → List Value) (k : Nat) (e : TypeId) : Holds w (RW F k e (.slice none 0 0) [] :: L) :=
  ⟨fun _ => none, ⟨none, 0, [], rfl, rfl, rfl⟩, (fun b o h => by cases h), by
    have h0 : (hp w).minus (fun _ => none) = hp w := by funext b; simp [Hp.minus]
    rw [h0]; exact H⟩
theorem RW_of_blk (i : Nat) {F : α → List Value} {k : Nat} {e : TypeId} {b : Nat} (xs : List α) (H : Holds w L) (hi : L[i]? = some (blk b e (flatL F xs))) : Holds w (L.set i (RW F k e (.slice (some ⟨b, 0, none⟩) xs.length xs.length) xs)) :=
  H.at i hi fun g hg => ⟨some ⟨b, 0, none⟩, 0, [], by simp, rfl, rfl, by simp, by simpa using hg⟩
/-- Its block is known, where it has an element. -/
theorem Holds.rwb (H : Holds w L) (i : Nat) {F : α → List Value} {k : Nat} {e : TypeId} {oa : Option Addr} {xs : List α} {m : Nat} {sp : List Value} (hi : L[i]? = some (rwb F k e oa xs m sp)) (hx : 0 < xs.length ∨ 0 < m) :
    ∃ b, oa = some ⟨b, 0, none⟩ ∧ sp.length = m * k ∧ Holds w (L.set i (blk b e (flatL F xs ++ sp))) := by
  cases oa with
  | none =>
    obtain ⟨g, ⟨h1, h2⟩, _⟩ := H.front i hi
    subst h1; subst h2
    simp at hx
  | some a =>
    obtain ⟨g, ⟨h1, h2, h3, h4⟩, hs, hL⟩ := H.front i hi
    obtain ⟨b, o, s⟩ := a
    simp only at h1 h2
    subst h1; subst h2
    exact ⟨b, rfl, h3, Sat.push i hi ⟨g, h4, hs, hL⟩⟩
theorem zeroCells_len (z : Array Value) (n : Nat) : (Builtin.zeroCells z n).toList.length = n * z.size := by simp [Builtin.zeroCells]
/-- append(s, ys...) of a row of its own; ys lies in a row that is read alone. -/
theorem r_apN {t e : TypeId} {k : Nat} [hr : RowN P t e k] (H : Holds w L) (i j : Nat) {F : α → List Value} {v : Value} {xs ys : List α} {m' c' b2 : Nat} {cs : List Value} {ty : TypeId} {K : Value → World → Prop}
    (hi : L[i]? = some (RW F k e v xs)) (hj : L[j]? = some (blk b2 e cs)) (hij : j ≠ i) (hcs : cs.take (ys.length * k) = flatL F ys) (hm : m' = ys.length) (hF : ∀ y, (F y).length = k) (hs : ∀ y, ∀ u ∈ F y, sg u = true)
    (hn : xs.length + ys.length ≤ 68719476736) (hne : 0 < ys.length) (hk : 0 < k)
    (h : ∀ v' w', Same w w' → Holds w' (L.set i (RW F k e v' (xs ++ ys))) → K v' w') :
    Ap P #[t, t] ty #[v, .slice (some ⟨b2, 0, none⟩) m' c'] w K := by
  obtain ⟨oa, m, sp, rfl, H⟩ := H.openRW i hi
  have hi1 : (L.set i (Vc.rwb F k e oa xs m sp))[i]? = some (Vc.rwb F k e oa xs m sp) := set_get hi
  have hj1 : (L.set i (Vc.rwb F k e oa xs m sp))[j]? = some (blk b2 e cs) := by rw [List.getElem?_set_ne (fun e => hij e.symm)]; exact hj
  subst hm
  obtain ⟨inf, z, hinf, hsz, hby, hzz, hzk⟩ := hr.inf
  have hlen := flatL_len (k := k) hF
  have hsg : ∀ u ∈ flatL F ys, u.oneCell' = true := by
    intro u hu
    clear hcs hne hn h
    induction ys with
    | nil => simp [flatL] at hu
    | cons y r ih =>
      rw [flatL, List.mem_append] at hu
      rcases hu with hu | hu
      · exact sg_one (hs y u hu)
      · exact ih hu
  have hnews : ∀ q u, (flatL F ys)[q]? = some u → w.cell? ((⟨b2, 0, none⟩ : Addr).add q) = some u := by
    intro q u hu
    have e1 : (⟨b2, 0, none⟩ : Addr).add q = ⟨b2, q, none⟩ := by
      unfold Addr.add; split
      · rename_i h; rw [h]
      · simp
    rw [e1, H.cell j hj1 q]
    have hq : q < ys.length * k := by have := (List.getElem?_eq_some_iff.1 hu).1; rw [hlen] at this; exact this
    rw [← hu, ← hcs, List.getElem?_take_of_lt hq]
  have hmul : (xs.length + ys.length) * inf.bytes ≤ 140737488355328 :=
    Nat.le_trans (Nat.mul_le_mul_left _ hby) (by omega)
  have fin : ∀ (b' cap : Nat) (w' : World) (sp' : List Value) (L' : List HProp), xs.length + ys.length ≤ cap → sp'.length = (cap - (xs.length + ys.length)) * k → Same w w' →
      Holds w' (blk b' e (flatL F (xs ++ ys) ++ sp') :: L.eraseIdx i) → K (.slice (some ⟨b', 0, none⟩) (xs.length + ys.length) cap) w' := by
    intro b' cap w' sp' L' hc hsp S' H'
    have H4 := Holds.imp H' (Q := RW F k e (.slice (some ⟨b', 0, none⟩) (xs.length + ys.length) cap) (xs ++ ys)) fun g hg => ⟨some ⟨b', 0, none⟩, cap - (xs.length + ys.length), sp', by
      rw [List.length_append]; congr 1; omega, rfl, rfl, hsp, hg⟩
    exact h _ _ S' (Sat.push i hi H4)
  cases oa with
  | none =>
    obtain ⟨g, ⟨h2, h3⟩, _⟩ := H.front i hi1
    subst h2; subst h3
    simp only [List.length_nil, Nat.zero_add, List.nil_append] at hn hmul fin ⊢
    have hrun := run_append_nil (P := P) w t ty e inf z hr.und hinf hzz ⟨b2, 0, none⟩ ys.length c' (flatL F ys) (by rw [hlen, hsz]) hnews (by omega) (by omega) (by omega)
    refine ⟨_, _, hrun, ?_⟩
    have hcap := grownCap_ge w ys.length 0 e
    generalize grownCap w ys.length 0 e = cap at hcap ⊢
    have H2 := (H.same (w' := w.drew) rfl).alloc (.cells ((flatL F ys).toArray ++ Builtin.zeroCells z.cells (cap - ys.length)) e)
    have H5 := H2.dropAt (i + 1)
    rw [List.eraseIdx_cons_succ, List.eraseIdx_set_eq] at H5
    refine fin _ cap _ (Builtin.zeroCells z.cells (cap - ys.length)).toList L (by omega) (by rw [zeroCells_len, hzk]) ((Same.drew w).trans (.alloc _ _)) ?_
    have hc : ((flatL F ys).toArray ++ Builtin.zeroCells z.cells (cap - ys.length)) = (flatL F ys ++ (Builtin.zeroCells z.cells (cap - ys.length)).toList).toArray := by simp
    rw [hc] at H5 ⊢
    exact H5
  | some a =>
    have h4 := H.rwb i hi1
    obtain ⟨g, ⟨h2, h3, hspl, _⟩, _⟩ := H.front i hi1
    obtain ⟨b, o, s⟩ := a
    simp only at h2 h3
    subst h2; subst h3
    have Hb : Holds w (L.set i (blk b e (flatL F xs ++ sp))) := by
      have := H.at i hi1 (Q := blk b e (flatL F xs ++ sp)) fun g hg => hg.2.2.2
      rw [List.set_set] at this
      exact this
    have hgi : (L.set i (blk b e (flatL F xs ++ sp)))[i]? = some (blk b e (flatL F xs ++ sp)) := set_get hi
    have hold : ∀ q u, (flatL F xs)[q]? = some u → w.cell? ((⟨b, 0, none⟩ : Addr).add q) = some u := by
      intro q u hu
      have e1 : (⟨b, 0, none⟩ : Addr).add q = ⟨b, q, none⟩ := by
        unfold Addr.add; split
        · rename_i h; rw [h]
        · simp
      rw [e1, Hb.cell i hgi q, List.getElem?_append_left (List.getElem?_eq_some_iff.1 hu).1]
      exact hu
    rcases Nat.lt_or_ge m ys.length with hg | hg
    · have hrun := run_append_grow (P := P) w t ty e inf z hr.und hinf hzz ⟨b, 0, none⟩ xs.length (xs.length + m) (flatL F xs) (by rw [hlen, hsz]) hold
        ⟨b2, 0, none⟩ ys.length c' (flatL F ys) (by rw [hlen, hsz]) hnews (by omega) (by omega) (growslice_fits (by omega) hmul)
      refine ⟨_, _, hrun, ?_⟩
      have hcap := grownCap_ge w (xs.length + ys.length) (xs.length + m) e
      generalize grownCap w (xs.length + ys.length) (xs.length + m) e = cap at hcap ⊢
      have H2 := (Hb.same (w' := w.drew) rfl).alloc (.cells ((flatL F xs).toArray ++ (flatL F ys).toArray ++ Builtin.zeroCells z.cells (cap - (xs.length + ys.length))) e)
      have H5 := H2.dropAt (i + 1)
      rw [List.eraseIdx_cons_succ, List.eraseIdx_set_eq] at H5
      refine fin _ cap _ (Builtin.zeroCells z.cells (cap - (xs.length + ys.length))).toList L (by omega) (by rw [zeroCells_len, hzk]) ((Same.drew w).trans (.alloc _ _)) ?_
      have hc : ((flatL F xs).toArray ++ (flatL F ys).toArray ++ Builtin.zeroCells z.cells (cap - (xs.length + ys.length))) = (flatL F (xs ++ ys) ++ (Builtin.zeroCells z.cells (cap - (xs.length + ys.length))).toList).toArray := by
        rw [flatL_app]; simp
      rw [hc] at H5 ⊢
      exact H5
    · have hobj := Hb.obj i hgi
      have hroom : (xs.length + ys.length) * k ≤ (xs.length + m) * k := Nat.mul_le_mul_right _ (by omega)
      have hrun := run_append_room (P := P) w t ty e inf hr.und hinf b xs.length (xs.length + m) (flatL F xs ++ sp).toArray hobj
        ⟨b2, 0, none⟩ ys.length c' (flatL F ys) (by rw [hlen, hsz]) hnews hsg (by omega) (by
          rw [hsz, List.size_toArray, List.length_append, hspl]
          have e1 := hlen xs
          have e2 := hlen ys
          rw [Nat.add_mul, Nat.add_mul] at hroom
          omega)
      refine ⟨_, _, hrun, ?_⟩
      have hcells : (((flatL F xs ++ sp).toArray.toList.take (xs.length * inf.size) ++ flatL F ys ++ (flatL F xs ++ sp).toArray.toList.drop (xs.length * inf.size + (flatL F ys).length)).toArray) = (flatL F (xs ++ ys) ++ sp.drop (ys.length * k)).toArray := by
        rw [hsz, flatL_app]
        simp [List.take_append, List.drop_append, hlen]
      rw [hcells]
      have H3 : Holds (w.setRow b (flatL F (xs ++ ys) ++ sp.drop (ys.length * k)).toArray) (L.set i (blk b e (flatL F (xs ++ ys) ++ sp.drop (ys.length * k)))) := by
        have := Hb.upd (w' := w.setRow b (flatL F (xs ++ ys) ++ sp.drop (ys.length * k)).toArray) i hgi (o' := .cells (flatL F (xs ++ ys) ++ sp.drop (ys.length * k)).toArray e) (setRow_heap w b _ _ e _ hobj) fun c hc => setRow_other w b c _ hc
        rw [List.set_set] at this
        exact this
      have H6 := H3.front i (set_get hi)
      rw [List.eraseIdx_set_eq] at H6
      refine fin b (xs.length + m) _ (sp.drop (ys.length * k)) L (by omega) ?_ ⟨rfl, rfl, rfl, by simp⟩ H6
      rw [List.length_drop, hspl, show xs.length + m - (xs.length + ys.length) = m - ys.length by omega, Nat.sub_mul]
/-- append(s, x) of a row of its own, x written whole. -/
theorem r_appN {t e : TypeId} {k : Nat} [hr : RowN P t e k] (H : Holds w L) (i : Nat) {F : α → List Value} {v : Value} {xs : List α} {ps : Array (Nat × Value)} {ty : TypeId} {K : Value → World → Prop} (x : α)
    (hi : L[i]? = some (RW F k e v xs)) (hb : (Instr.buildSlice t 1 ps).run P w = .ok (.slice (some ⟨w.heap.size, 0, none⟩) 1 1) (w.alloc (.cells (F x).toArray e)))
    (hF : ∀ y, (F y).length = k) (hs : ∀ y, ∀ u ∈ F y, sg u = true)
    (hn : xs.length + 1 ≤ 68719476736) (hk : 0 < k)
    (h : ∀ v' w', Same w w' → Holds w' (L.set i (RW F k e v' (xs ++ [x]))) → K v' w') : Bs P t 1 ps w fun y w2 => Ap P #[t, t] ty #[v, y] w2 K := by
  refine r_bsK (F x) H hb fun b3 w3 S3 H3 => ?_
  refine r_apN (F := F) (ys := [x]) H3 (i + 1) 0 (by rw [List.getElem?_cons_succ]; exact hi) rfl (by omega) (by simp [flatL, List.take_of_length_le, hF]) rfl hF hs (by simpa using hn) (by simp) hk fun v' w4 S4 H4 => ?_
  rw [List.set_cons_succ] at H4
  exact h _ _ (S3.trans S4) H4.drop
/-- An element of a row is loaded whole. -/
theorem r_ldN (i : Nat) (H : Holds w L) {F : α → List Value} {k : Nat} {e : TypeId} {oa : Option Addr} {xs : List α} {m : Nat} {sp : List Value} {l c q : Nat} {kk : IntKind} {x : α} {K : Value → Prop}
    (hi : L[i]? = some (rwb F k e oa xs m sp)) (hx : xs[q]? = some x) (hF : ∀ y, (F y).length = k) (hl : q < l) (h : K (.agg (F x).toArray)) :
    Ias k (.slice oa l c) (.int kk (q : Int)) fun y => LdA k y w K := by
  have hlt : q < xs.length := (List.getElem?_eq_some_iff.1 hx).1
  obtain ⟨b, rfl, hsp, Hb⟩ := H.rwb i hi (.inl (by omega))
  refine r_ias0 hl ?_
  refine r_ldA i Hb (F x) (set_get hi) ?_ (hF x) h
  have h1 := flatL_get hF xs q x hx
  have hq : q * k + k ≤ xs.length * k := by
    have : (q + 1) * k ≤ xs.length * k := Nat.mul_le_mul_right _ (by omega)
    rw [Nat.add_mul, Nat.one_mul] at this
    exact this
  have hlen := flatL_len (k := k) hF xs
  rw [List.drop_append_of_le_length (by omega), List.take_append_of_le_length (by rw [List.length_drop]; omega)]
  exact h1
theorem r_bpK {op : BinOp} {x y : Value} {K : Value → Prop} (v : Value) (h : bp op x y = some v) (k : K v) : Bp op x y K := ⟨v, h, k⟩
theorem r_ciK {k k' : IntKind} {n : Int} {K : Value → Prop} (m : Int) (h : k.wrap n = m) (hk : K (.int k m)) : Ci k (.int k' n) K := ⟨k', n, rfl, by rw [h]; exact hk⟩
theorem least_some {l : List String} (h : l ≠ []) : ∃ m, Instr.least l = some m := by
  cases l with
  | nil => exact absurd rfl h
  | cons s r => exact ⟨_, rfl⟩
theorem missing_some {want : Array (String × TypeId)} {got : Array Method} (h : (want.toList.filter fun x => !got.any fun m => m.name == x.1 && m.sig == x.2) ≠ []) : ∃ m, Instr.missingMethod want got = some m := by
  have h2 : ((want.toList.filter fun x => !got.any fun m => m.name == x.1 && m.sig == x.2).map (·.1)) ≠ [] := by simpa using h
  unfold Instr.missingMethod
  simp only
  generalize ((want.toList.filter fun x => !got.any fun m => m.name == x.1 && m.sig == x.2).map (·.1)) = l at *
  rw [List.partition_eq_filter_filter]
  simp only
  by_cases h3 : l.filter (fun a => decide (¬ (a.contains (Char.ofNat 46)) = true)) = []
  · have h5 : l.filter (fun a => a.contains (Char.ofNat 46)) ≠ [] := by
      intro h4
      apply h2
      refine List.eq_nil_iff_forall_not_mem.2 fun x hx => ?_
      by_cases hc : (x.contains (Char.ofNat 46)) = true
      · have : x ∈ l.filter (fun a => a.contains (Char.ofNat 46)) := List.mem_filter.2 ⟨hx, hc⟩
        rw [h4] at this; cases this
      · have : x ∈ l.filter (fun a => decide (¬ (a.contains (Char.ofNat 46)) = true)) := List.mem_filter.2 ⟨hx, by simpa using hc⟩
        rw [h3] at this; cases this
    obtain ⟨m, hm⟩ := least_some (l := (l.filter (fun a => a.contains (Char.ofNat 46))).map fun id => (id.splitOn ".").getLastD id) (by simpa using h5)
    cases hx : Instr.least (l.filter (not ∘ fun a => a.contains (Char.ofNat 46))) with
    | some y => exact ⟨y, by simp⟩
    | none => exact ⟨m, by simpa using hm⟩
  · have h6 : l.filter (not ∘ fun a => a.contains (Char.ofNat 46)) ≠ [] := by
      intro h4
      apply h3
      rw [← h4]
      congr 1
      funext a
      simp
    obtain ⟨m, hm⟩ := least_some h6
    exact ⟨m, by rw [hm]; rfl⟩
/-- An assertion to an interface that its dynamic type has not all methods of. -/
theorem r_taNo {P : Program} {t at_ xt : TypeId} {v z : Value} {want : Array (String × TypeId)} {i : TypeInfo} {K : Value → Prop} (hu : P.underlying at_ = some (.interface want)) (hi : P.info? t = some i)
    (hm : (want.toList.filter fun x => !i.methods.any fun m => m.name == x.1 && m.sig == x.2) ≠ []) (hz : ∀ w, (zeroValue at_).run P w = .ok z w) (k : K (.tuple #[z, .bool false])) : Ta P (.iface t v) xt at_ true w K := by
  obtain ⟨m, hm⟩ := missing_some hm
  refine ⟨_, ?_, k⟩
  simp [Instr.typeAssert, run_underlying hu, typeInfo, hi, hm, hz]
end Go.Vc
