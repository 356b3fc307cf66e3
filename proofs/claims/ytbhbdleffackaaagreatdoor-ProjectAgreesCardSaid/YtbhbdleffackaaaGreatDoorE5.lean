/- A verified evaluator for closed calls, fifth part: operations that turn memory. No program in sight. -/
import Derived.Test.YtbhbdleffackaaaGreatDoorE4
import Derived.Deep.AppendSrc
set_option linter.unusedVariables false
set_option linter.unusedSimpArgs false
namespace Go.Ev
open Go Go.Vc
noncomputable section
variable {P : Program} {base : Bs} {w0 : World} {σ : Sg} {s : St} {w w' : World} {ρ : T X} {r : Env}
structure Wo (P : Program) (base : Bs) (w0 : World) (σ : Sg) (s : St) (w : World) : Prop where
  mem : Mem P base σ s w
  fresh : Fresh base σ s
  fram : Fram base w0 w
theorem Wo.drew (h : Wo P base w0 σ s w) : Wo P base w0 σ s w.drew := ⟨h.mem.drew, h.fresh, h.fram.drew⟩
theorem setL_eq : ∀ (us l : List Value) (o : Nat), o + us.length ≤ l.length → setL l o us = l.take o ++ us ++ l.drop (o + us.length)
  | [], l, o, h => by simp [setL]
  | u :: us, l, o, h => by
    simp only [List.length_cons] at h
    rw [setL, setL_eq us (l.set o u) (o + 1) (by rw [List.length_set]; omega)]
    have h1 : (l.set o u).take (o + 1) = l.take o ++ [u] := by
      rw [List.take_add_one, List.take_set_of_le (Nat.le_refl _), List.getElem?_set_self (by omega)]
      rfl
    have h2 : (l.set o u).drop (o + 1 + us.length) = l.drop (o + (us.length + 1)) := by
      rw [List.drop_set_of_lt (by omega)]
      congr 1
      omega
    rw [h1, h2]
    simp
theorem heap_setCells {b : Nat} {t : TypeId} {fz : Nat × Nat} : ∀ (vs : List Value) {w : World} {cs : List Value} (o : Nat), w.heap[b]? = some (.cells cs.toArray t fz) →
    (w.setCells b o vs).heap[b]? = some (.cells (setL cs o vs).toArray t fz) ∧ ∀ c, c ≠ b → (w.setCells b o vs).heap[c]? = w.heap[c]?
  | [], w, cs, o, h => ⟨h, fun _ _ => rfl⟩
  | v :: r, w, cs, o, h => by
    have h1 : (w.setCell ⟨b, o, none⟩ v).heap[b]? = some (.cells (cs.set o v).toArray t fz) := by simp [World.setCell, Array.getElem?_modify, h]
    have h2 : ∀ c, c ≠ b → (w.setCell ⟨b, o, none⟩ v).heap[c]? = w.heap[c]? := fun c hc => by
      simp only [World.setCell, Array.getElem?_modify]; rw [if_neg (by simpa using fun h => hc h.symm)]
    obtain ⟨g1, g2⟩ := heap_setCells r (o + 1) h1
    exact ⟨g1, fun c hc => (g2 c hc).trans (h2 c hc)⟩
theorem same_setCells : ∀ (vs : List Value) (w : World) (b o : Nat), Same w (w.setCells b o vs)
  | [], w, _, _ => .refl w
  | v :: r, w, b, o => (Same.setCell w _ v).trans (same_setCells r _ b (o + 1))
/-- A block's real cells are written, from a place on, over what is of it and what is spare. -/
theorem Own.write {b e : Nat} {cs : List X} {rb off k : Nat} {pre vs sp post : List Value} (g : Own P base σ w b e cs rb off k pre vs sp post) (o : Nat) (us : List Value) (ho : o + us.length ≤ vs.length + sp.length) :
    (∃ fz : Nat × Nat, (w.setCells rb (off + o) us).heap[rb]? = some (.cells (pre ++ ((vs ++ sp).take o ++ us ++ (vs ++ sp).drop (o + us.length)) ++ post).toArray e fz) ∧ ∀ q, q < (pre ++ vs ++ sp ++ post).length → ¬ (fz.1 ≤ q ∧ q < fz.2)) ∧
      (∀ c x, c ≠ rb → w.heap[c]? = some x → (w.setCells rb (off + o) us).heap[c]? = some x) := by
  obtain ⟨fz, hh, hz⟩ := g.heap
  obtain ⟨g1, g2⟩ := heap_setCells us (off + o) hh
  refine ⟨⟨fz, ?_, hz⟩, fun c x hc hx => (g2 c hc).trans hx⟩
  rw [g1]
  congr 3
  have hp := g.pre_
  rw [setL_eq us _ _ (by simp; omega)]
  have e1 : pre ++ vs ++ sp ++ post = pre ++ ((vs ++ sp) ++ post) := by simp
  rw [e1, ← hp, List.take_append, List.take_of_length_le (by omega), Nat.add_sub_cancel_left, List.take_append_of_le_length (by simp; omega), List.drop_append, List.drop_of_length_le (by omega), List.nil_append,
    show pre.length + o + us.length - pre.length = o + us.length by omega, List.drop_append_of_le_length (by simp; omega)]
  simp
def stX (s : St) (a : Nat × Nat) (x : X) : Option St := match s.blk a.1 with
  | some c => (match Nat.blt a.2 c.2.length with
    | true => some (s.put a.1 (some (c.1, c.2.set a.2 x)))
    | false => none)
  | none => none
def flatX : X → Bool
  | .g _ | .t _ => false
  | _ => true
theorem flatX_sg {x : X} {v : Value} (h : flatX x = true) (hv : vl σ x = some v) : sg v = true := by
  cases x with
  | g xs => cases h
  | t xs => cases h
  | b c => simp only [vl, Option.some.injEq] at hv; subst hv; rfl
  | i k n => simp only [vl, Option.some.injEq] at hv; subst hv; rfl
  | s l => simp only [vl, Option.some.injEq] at hv; subst hv; rfl
  | ni => simp only [vl, Option.some.injEq] at hv; subst hv; rfl
  | nf => simp only [vl, Option.some.injEq] at hv; subst hv; rfl
  | p a =>
    cases a with
    | none => simp only [vl, Option.some.injEq] at hv; subst hv; rfl
    | some a =>
      simp only [vl] at hv
      cases hs : σ a.1 with
      | none => rw [hs] at hv; cases hv
      | some r => rw [hs] at hv; obtain rfl := Option.some.inj hv; rfl
  | l a n c =>
    cases a with
    | none => simp only [vl, Option.some.injEq] at hv; subst hv; rfl
    | some a =>
      simp only [vl] at hv
      cases hs : σ a.1 with
      | none => rw [hs] at hv; cases hv
      | some r => rw [hs] at hv; obtain rfl := Option.some.inj hv; rfl
  | fc t x =>
    simp only [vl] at hv
    cases hs : vl σ x with
    | none => rw [hs] at hv; cases hv
    | some r => rw [hs] at hv; obtain rfl := Option.some.inj hv; rfl
  | f fn a c =>
    simp only [vl] at hv
    cases hs : vls σ a with
    | none => rw [hs] at hv; cases hv
    | some r =>
      cases hc : vls σ c with
      | none => rw [hs, hc] at hv; cases hv
      | some r' => rw [hs, hc] at hv; obtain rfl := Option.some.inj hv; rfl
  | m a =>
    cases a with
    | none => simp only [vl, Option.some.injEq] at hv; subst hv; rfl
    | some a =>
      simp only [vl] at hv
      cases hs : σ a with
      | none => rw [hs] at hv; cases hv
      | some r => rw [hs] at hv; obtain rfl := Option.some.inj hv; rfl
  | e0 b o q =>
    simp only [vl] at hv
    cases hs : σ b with
    | none => rw [hs] at hv; cases hv
    | some r => rw [hs] at hv; obtain rfl := Option.some.inj hv; rfl
def flatXs : List X → Bool
  | [] => true
  | x :: r => match flatX x with
    | true => flatXs r
    | false => false
theorem flatXs_sg : ∀ {xs : List X} {vs : List Value}, flatXs xs = true → vls σ xs = some vs → vs.all sg = true
  | [], vs, _, h => by simp only [vls, Option.some.injEq] at h; subst h; rfl
  | x :: r, vs, hf, h => by
    obtain ⟨v, us, h1, h2, rfl⟩ := vls_cons h
    simp only [flatXs] at hf
    cases hx : flatX x with
    | false => rw [hx] at hf; cases hf
    | true =>
      rw [hx] at hf
      rw [List.all_cons, flatX_sg hx h1, flatXs_sg hf h2]
      rfl
theorem setCells_one {b o : Nat} {v : Value} : w.setCells b o [v] = w.setCell ⟨b, o, none⟩ v := rfl
theorem all_take_drop {vs us : List Value} {o : Nat} (h1 : vs.all sg = true) (h2 : us.all sg = true) (n : Nat) : (vs.take o ++ us ++ vs.drop n).all sg = true := by
  rw [List.all_append, List.all_append, Bool.and_eq_true, Bool.and_eq_true]
  refine ⟨⟨List.all_eq_true.2 fun x hx => List.all_eq_true.1 h1 x (List.mem_of_mem_take hx), h2⟩, List.all_eq_true.2 fun x hx => List.all_eq_true.1 h1 x (List.mem_of_mem_drop hx)⟩
/-- Cells of a block are written. -/
theorem Wo.write (h : Wo P base w0 σ s w) {b e : Nat} {cs xs : List X} {us : List Value} {o : Nat} (hb : s.blk b = some (e, cs)) (hx : vls σ xs = some us) (hf : us.all sg = true) (ho : o + xs.length ≤ cs.length) {q : Nat × Nat × Nat} (hq : σ b = some q) :
    Wo P base w0 σ (s.put b (some (e, setLX cs o xs))) (w.setCells q.1 (q.2.1 + o) us) ∧ (∀ j, j < us.length → (w.cell? ⟨q.1, q.2.1 + o + j, none⟩).isSome = true ∧ w.frozen? ⟨q.1, q.2.1 + o + j, none⟩ = false) := by
  obtain ⟨rb, off, k, pre, vs, sp, post, g⟩ := h.mem.own b e cs hb
  have hg := g.sg_
  rw [hq] at hg
  obtain rfl := Option.some.inj hg
  have l1 := vls_len g.val
  have l2 := vls_len hx
  obtain ⟨⟨fz, h1, hz⟩, h2⟩ := g.write o us (by omega)
  refine ⟨⟨h.mem.upd hb (w' := w.setCells rb (off + o) us) (post := post) ⟨g.sg_, setLX_spec o g.val hx, g.pre_, g.sp_, ⟨fz, ?_, fun q hq => hz q ?_⟩, g.low, ?_, g.mul_, g.nsp⟩ h2, h.fresh, h.fram.upd (same_setCells _ _ _ _) g.low h2⟩, fun j hj => ⟨?_, ?_⟩⟩
  · show (w.setCells rb (off + o) us).heap[rb]? = _
    rw [h1, setL_eq us vs o (by omega), List.take_append_of_le_length (by omega), List.drop_append_of_le_length (by omega)]
    simp
  · have := setL_len us vs o
    simp only [List.length_append] at hq ⊢
    omega
  · rw [setL_eq us vs o (by omega)]
    exact all_take_drop g.flat hf _
  · show (w.cell? ⟨rb, off + o + j, none⟩).isSome = true
    rw [Nat.add_assoc, g.cell (by omega)]
    simp
    omega
  · show w.frozen? ⟨rb, off + o + j, none⟩ = false
    rw [Nat.add_assoc]
    exact g.nofz (by have := g.pre_; simp only [List.length_append]; omega)
def sizeX (P : Program) (t : TypeId) : Option (Nat × Nat) := match P.info? t with
  | some i => some (i.size, i.bytes)
  | none => none
/-- The source of an append: its elements' cells. -/
def srcX (P : Program) (s : St) (k : Nat) (tx : TypeId) (y : X) : Option (Nat × List X) := match P.underlying tx, y with
  | some .string, .s l => (match Nat.beq k 1 with
    | true => some (l.length, l.map fun m => .i .u8 ((m % 256 : Nat) : Int))
    | false => none)
  | some (.slice _), .l none 0 _ => some (0, [])
  | some (.slice _), .e0 _ _ _ => some (0, [])
  | some (.slice _), .l (some b) m _ => (match s.blk b.1 with
    | some c => (match Nat.beq ((c.2.drop b.2).take (m * k)).length (m * k) with
      | true => some (m, (c.2.drop b.2).take (m * k))
      | false => none)
    | none => none)
  | _, _ => none
theorem srcX_ok (hM : Mem P base σ s w) {k : Nat} {tx : TypeId} {y : X} {v : Value} {n : Nat} {xs : List X} (h : srcX P s k tx y = some (n, xs)) (hv : vl σ y = some v) : ∃ us, vls σ xs = some us ∧ us.all sg = true ∧ Src P k tx v n us w := by
  unfold srcX at h
  split at h
  · rename_i l hu
    split at h
    · rename_i hk
      obtain rfl := Nat.eq_of_beq_eq_true hk
      simp only [Option.some.injEq, Prod.mk.injEq] at h
      obtain ⟨rfl, rfl⟩ := h
      simp only [vl, Option.some.injEq] at hv
      subst hv
      have hb : byteCells (str l) = l.map fun m => Value.int .u8 ((m % 256 : Nat) : Int) := by
        unfold byteCells str
        simp
      have hs := Src.ofString (P := P) w hu (str l)
      rw [str_size, hb] at hs
      refine ⟨_, ?_, ?_, hs⟩
      · clear hs hb
        induction l with
        | nil => rfl
        | cons c l ih => exact vls_mk rfl ih
      · simp [sg]
    · cases h
  · rename_i e c hu
    simp only [Option.some.injEq, Prod.mk.injEq] at h
    obtain ⟨rfl, rfl⟩ := h
    simp only [vl, Option.some.injEq] at hv
    subst hv
    exact ⟨[], rfl, rfl, Src.ofNil (P := P) w hu _⟩
  · rename_i e b o q hu
    simp only [Option.some.injEq, Prod.mk.injEq] at h
    obtain ⟨rfl, rfl⟩ := h
    simp only [vl] at hv
    cases hs : σ b with
    | none => rw [hs] at hv; cases hv
    | some r =>
      rw [hs] at hv
      obtain rfl := Option.some.inj hv
      exact ⟨[], rfl, rfl, Src.ofSlice (P := P) w hu _ 0 _ [] (by simp) (fun j v hj => by simp at hj) (fun v hv => by simp at hv)⟩
  · rename_i e b m c hu
    split at h
    · rename_i cb hb
      split at h
      · rename_i hl
        simp only [Option.some.injEq, Prod.mk.injEq] at h
        obtain ⟨rfl, rfl⟩ := h
        obtain ⟨be, cs⟩ := cb
        obtain ⟨rb, off, kk, pre, vs, sp, post, g⟩ := hM.own b.1 be cs hb
        simp only [vl, g.sg_, Option.some.injEq] at hv
        subst hv
        have h3 := vls_take (m * k) (vls_drop b.2 g.val)
        have h5 := Nat.eq_of_beq_eq_true hl
        rw [vls_len h3] at h5
        have hfl : ((vs.drop b.2).take (m * k)).all sg = true := List.all_eq_true.2 fun x hx => List.all_eq_true.1 g.flat x (List.mem_of_mem_drop (List.mem_of_mem_take hx))
        refine ⟨_, h3, hfl, Src.ofSlice (P := P) w hu _ m _ _ h5 (fun j u hj => ?_) fun u hu2 => sg_one (List.all_eq_true.1 hfl u hu2)⟩
        rw [add_off]
        have hj2 := hj
        rw [List.getElem?_take_of_lt (by have := (List.getElem?_eq_some_iff.1 hj).1; omega), List.getElem?_drop] at hj2
        show w.cell? ⟨rb, off + b.2 + j, none⟩ = _
        rw [show off + b.2 + j = off + (b.2 + j) by omega, g.cell (List.getElem?_eq_some_iff.1 hj2).1, hj2]
      · cases h
    · cases h
  · cases h
end
end Go.Ev
