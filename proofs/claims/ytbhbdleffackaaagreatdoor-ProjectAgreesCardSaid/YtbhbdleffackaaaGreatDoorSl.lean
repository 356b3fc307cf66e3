/- Memory in separate pieces: what a world holds, block by block; and the rules by which a formula's nodes are met. No program in sight. -/
import Derived.Test.YtbhbdleffackaaaGreatDoorVc
import Derived.Deep.DeepAppendRoom
set_option linter.unusedVariables false
set_option linter.unusedSimpArgs false
namespace Go.Vc

abbrev Hp := Nat → Option Obj
abbrev HProp := Hp → Prop
def Hp.sub (h g : Hp) : Prop := ∀ b o, h b = some o → g b = some o
def Hp.minus (h g : Hp) : Hp := fun b => if (g b).isSome = true then none else h b
def Sat : List HProp → Hp → Prop
  | [], _ => True
  | P :: L, h => ∃ g, P g ∧ g.sub h ∧ Sat L (h.minus g)
def hp (w : World) : Hp := fun b => w.heap[b]?
def Holds (w : World) (L : List HProp) : Prop := Sat L (hp w)
def blkO (b : Nat) (o : Obj) : HProp := fun h => h b = some o
/-- A block of cells, not frozen. -/
def blk (b : Nat) (t : TypeId) (cs : List Value) : HProp := blkO b (.cells cs.toArray t)
def pur (p : Prop) : HProp := fun _ => p
/-- The streams stand as they were; blocks may have come. -/
structure Same (w w' : World) : Prop where
  os : w'.os = w.os
  tape : w'.tape = w.tape
  output : w'.output = w.output
  size : w.heap.size ≤ w'.heap.size
theorem Same.refl (w : World) : Same w w := ⟨rfl, rfl, rfl, Nat.le_refl _⟩
theorem Same.trans {a b c : World} (h : Same a b) (k : Same b c) : Same a c := ⟨k.os.trans h.os, k.tape.trans h.tape, k.output.trans h.output, Nat.le_trans h.size k.size⟩

theorem Sat.mono : ∀ {L : List HProp} {h g : Hp}, Sat L h → h.sub g → Sat L g
  | [], _, _, _, _ => trivial
  | P :: L, h, g, ⟨k, hp, hs, hL⟩, hg => ⟨k, hp, fun b o hb => hg b o (hs b o hb), hL.mono fun b o hb => by
    unfold Hp.minus at hb ⊢
    split
    · rename_i h1; rw [if_pos h1] at hb; cases hb
    · rename_i h1; rw [if_neg h1] at hb; exact hg b o hb⟩
theorem Sat.swap {P Q : HProp} {L : List HProp} {h : Hp} (H : Sat (P :: Q :: L) h) : Sat (Q :: P :: L) h := by
  obtain ⟨g, hg, hgs, k, hk, hks, hL⟩ := H
  have kn : ∀ b o, k b = some o → g b = none ∧ h b = some o := fun b o hb => by
    have := hks b o hb
    unfold Hp.minus at this
    split at this
    · cases this
    · rename_i h1; simp at h1; exact ⟨h1, this⟩
  refine ⟨k, hk, fun b o hb => (kn b o hb).2, g, hg, fun b o hb => ?_, hL.mono fun b o hb => ?_⟩
  · unfold Hp.minus
    rw [if_neg ?_]
    · exact hgs b o hb
    · intro h1
      obtain ⟨x, hx⟩ := Option.isSome_iff_exists.1 h1
      rw [(kn b x hx).1] at hb; cases hb
  · unfold Hp.minus at hb ⊢
    split at hb
    · cases hb
    · rename_i h1
      split at hb
      · cases hb
      · rename_i h2; rw [if_neg h2, if_neg h1]; exact hb
theorem Sat.pull : ∀ {L : List HProp} {h : Hp} (i : Nat) {P : HProp}, Sat L h → L[i]? = some P → Sat (P :: L.eraseIdx i) h
  | Q :: L, h, 0, P, H, hi => by simp at hi; subst hi; exact H
  | Q :: L, h, i + 1, P, ⟨g, hg, hs, hL⟩, hi => Sat.swap ⟨g, hg, hs, hL.pull i (by simpa using hi)⟩
theorem Sat.push : ∀ {L : List HProp} {h : Hp} (i : Nat) {P Q : HProp}, L[i]? = some Q → Sat (P :: L.eraseIdx i) h → Sat (L.set i P) h
  | R :: L, h, 0, P, Q, _, H => H
  | R :: L, h, i + 1, P, Q, hi, H => by
    obtain ⟨g, hg, hs, hL⟩ := Sat.swap H
    exact ⟨g, hg, hs, Sat.push i (by simpa using hi) hL⟩
theorem Holds.front {w : World} {L : List HProp} (H : Holds w L) (i : Nat) {P : HProp} (hi : L[i]? = some P) : Holds w (P :: L.eraseIdx i) := Sat.pull i H hi
theorem Holds.swap {w : World} {P Q : HProp} {L : List HProp} (H : Holds w (P :: Q :: L)) : Holds w (Q :: P :: L) := Sat.swap H
theorem Holds.drop {w : World} {P : HProp} {L : List HProp} (H : Holds w (P :: L)) : Holds w L := by
  obtain ⟨g, _, _, hL⟩ := H
  exact hL.mono fun b o hb => by
    unfold Hp.minus at hb
    split at hb
    · cases hb
    · exact hb
theorem Holds.dropAt {w : World} {L : List HProp} (H : Holds w L) (i : Nat) : Holds w (L.eraseIdx i) := by
  cases h : L[i]? with
  | none => rw [List.eraseIdx_of_length_le (by simpa using h)]; exact H
  | some P => exact (H.front i h).drop
theorem Sat.imp {P Q : HProp} {L : List HProp} {h : Hp} (H : Sat (P :: L) h) (hpq : ∀ h, P h → Q h) : Sat (Q :: L) h := by
  obtain ⟨g, hg, hs, hL⟩ := H
  exact ⟨g, hpq _ hg, hs, hL⟩
theorem Holds.imp {P Q : HProp} {L : List HProp} {w : World} (H : Holds w (P :: L)) (hpq : ∀ h, P h → Q h) : Holds w (Q :: L) := Sat.imp H hpq
theorem Holds.ex {α : Type} {P : α → HProp} {L : List HProp} {w : World} (H : Holds w ((fun h => ∃ x, P x h) :: L)) : ∃ x, Holds w (P x :: L) := by
  obtain ⟨g, ⟨x, hx⟩, hs, hL⟩ := H
  exact ⟨x, g, hx, hs, hL⟩
theorem Holds.pure {p : Prop} {P : HProp} {L : List HProp} {w : World} (H : Holds w ((fun h => p ∧ P h) :: L)) : p ∧ Holds w (P :: L) := by
  obtain ⟨g, ⟨hp, hg⟩, hs, hL⟩ := H
  exact ⟨hp, g, hg, hs, hL⟩
theorem Sat.unpack : ∀ {A L : List HProp} {h : Hp}, Sat (Sat A :: L) h → Sat (A ++ L) h
  | [], L, h, ⟨g, _, _, hL⟩ => hL.mono fun b o hb => by
    unfold Hp.minus at hb
    split at hb
    · cases hb
    · exact hb
  | P :: A, L, h, ⟨g, ⟨k, hk, hks, hA⟩, hgs, hL⟩ => by
    refine ⟨k, hk, fun b o hb => hgs b o (hks b o hb), Sat.unpack ⟨g.minus k, hA, fun b o hb => ?_, hL.mono fun b o hb => ?_⟩⟩
    · unfold Hp.minus at hb ⊢
      split at hb
      · cases hb
      · rename_i h1; rw [if_neg h1]; exact hgs b o hb
    · unfold Hp.minus at hb ⊢
      split at hb
      · cases hb
      · rename_i h1
        have h1' : g b = none := by simpa using h1
        have h2 : k b = none := by
          cases hk : k b with
          | none => rfl
          | some x => rw [hks b x hk] at h1'; cases h1'
        simp [h1', h2, hb]
theorem Sat.pack : ∀ {A L : List HProp} {h : Hp}, Sat (A ++ L) h → Sat (Sat A :: L) h
  | [], L, h, H => by
    refine ⟨fun _ => none, trivial, ?_, ?_⟩
    · intro b o hb; cases hb
    · have e : h.minus (fun _ => none) = h := by funext b; simp [Hp.minus]
      rw [e]; exact H
  | P :: A, L, h, ⟨k, hk, hks, H⟩ => by
    obtain ⟨g, hg, hgs, hL⟩ := Sat.pack H
    have gk : ∀ b o, g b = some o → k b = none ∧ h b = some o := fun b o hb => by
      have := hgs b o hb
      unfold Hp.minus at this
      split at this
      · cases this
      · rename_i h1; simp at h1; exact ⟨h1, this⟩
    refine ⟨fun b => (k b).or (g b), ⟨k, hk, fun b o hb => by simp [hb], hg.mono fun b o hb => ?_⟩, fun b o hb => ?_, hL.mono fun b o hb => ?_⟩
    · unfold Hp.minus
      simp [(gk b o hb).1, hb]
    · cases hkb : k b with
      | none => simp [hkb] at hb; exact (gk b o hb).2
      | some x => simp [hkb] at hb; subst hb; exact hks b x hkb
    · unfold Hp.minus at hb ⊢
      split at hb
      · cases hb
      · rename_i h1
        split at hb
        · cases hb
        · rename_i h2
          simp at h1 h2
          simp [h1, h2, hb]
theorem Holds.pack {A L : List HProp} {w : World} (H : Holds w (A ++ L)) : Holds w (Sat A :: L) := Sat.pack H
theorem Holds.unpack {A L : List HProp} {w : World} (H : Holds w (Sat A :: L)) : Holds w (A ++ L) := Sat.unpack H

/-! ### Blocks -/
theorem Holds.obj {w : World} {L : List HProp} (H : Holds w L) (i : Nat) {b : Nat} {o : Obj} (hi : L[i]? = some (blkO b o)) : w.heap[b]? = some o := by
  obtain ⟨g, hg, hs, _⟩ := H.front i hi
  exact hs b o hg
theorem Holds.upd {w w' : World} {L : List HProp} (H : Holds w L) (i : Nat) {b : Nat} {o o' : Obj} (hi : L[i]? = some (blkO b o)) (hb : w'.heap[b]? = some o') (ho : ∀ c, c ≠ b → w'.heap[c]? = w.heap[c]?) :
    Holds w' (L.set i (blkO b o')) := by
  obtain ⟨g, hg, hs, hL⟩ := H.front i hi
  refine Sat.push i hi ⟨fun c => if c = b then some o' else none, by simp [blkO], fun c o hc => ?_, hL.mono fun c o hc => ?_⟩
  · by_cases e : c = b
    · subst e; simp at hc; subst hc; exact hb
    · simp [e] at hc
  · unfold Hp.minus at hc ⊢
    by_cases e : c = b
    · subst e
      rw [if_pos (by rw [show g c = some _ from hg]; rfl)] at hc; cases hc
    · simp only [e, if_false, Option.isSome_none, Bool.false_eq_true]
      split at hc
      · cases hc
      · show w'.heap[c]? = _; rw [ho c e]; exact hc
theorem Holds.new {w w' : World} {L : List HProp} (H : Holds w L) {b : Nat} {o : Obj} (hn : w.heap[b]? = none) (hb : w'.heap[b]? = some o) (ho : ∀ c, c ≠ b → w'.heap[c]? = w.heap[c]?) :
    Holds w' (blkO b o :: L) := by
  refine ⟨fun c => if c = b then some o else none, by simp [blkO], fun c x hc => ?_, Sat.mono H fun c x hc => ?_⟩
  · by_cases e : c = b
    · subst e; simp at hc; subst hc; exact hb
    · simp [e] at hc
  · unfold Hp.minus
    by_cases e : c = b
    · subst e; rw [show hp w c = none from hn] at hc; cases hc
    · simp only [e, if_false, Option.isSome_none, Bool.false_eq_true]
      show w'.heap[c]? = _; rw [ho c e]; exact hc
theorem Holds.same {w w' : World} {L : List HProp} (H : Holds w L) (h : w'.heap = w.heap) : Holds w' L := by
  unfold Holds hp at *
  rw [h]; exact H
theorem Holds.cell {w : World} {L : List HProp} (H : Holds w L) (i : Nat) {b : Nat} {t : TypeId} {cs : List Value} (hi : L[i]? = some (blk b t cs)) (o : Nat) : w.cell? ⟨b, o, none⟩ = cs[o]? := by
  have := H.obj i hi
  simp [World.cell?, this]
theorem Holds.frozen {w : World} {L : List HProp} (H : Holds w L) (i : Nat) {b : Nat} {t : TypeId} {cs : List Value} (hi : L[i]? = some (blk b t cs)) (o : Nat) : w.frozen? ⟨b, o, none⟩ = false := by
  have := H.obj i hi
  simp [World.frozen?, this]
theorem Holds.set {w : World} {L : List HProp} (H : Holds w L) (i : Nat) {b : Nat} {t : TypeId} {cs : List Value} (hi : L[i]? = some (blk b t cs)) (o : Nat) (v : Value) :
    Holds (w.setCell ⟨b, o, none⟩ v) (L.set i (blk b t (cs.set o v))) := by
  have h := H.obj i hi
  refine H.upd i hi ?_ fun c hc => ?_
  · simp [World.setCell, Array.getElem?_modify, h]
  · simp only [World.setCell, Array.getElem?_modify]; rw [if_neg (by simpa using fun h => hc h.symm)]
theorem Same.setCell (w : World) (a : Addr) (v : Value) : Same w (w.setCell a v) := ⟨rfl, rfl, rfl, by simp [World.setCell]⟩
theorem Same.drew (w : World) : Same w w.drew := ⟨rfl, rfl, rfl, Nat.le_refl _⟩
theorem Same.alloc (w : World) (o : Obj) : Same w (w.alloc o) := ⟨rfl, rfl, rfl, by simp⟩
theorem Holds.alloc {w : World} {L : List HProp} (H : Holds w L) (o : Obj) : Holds (w.alloc o) (blkO w.heap.size o :: L) := by
  refine H.new (by simp) ?_ fun c hc => ?_
  · show (w.heap.push o)[w.heap.size]? = _; simp
  · show (w.heap.push o)[c]? = _
    rw [Array.getElem?_push, if_neg (by omega)]

/-- All that was there. -/
def whole (w : World) : HProp := fun h => ∀ b o, w.heap[b]? = some o → h b = some o
theorem holds_whole (w : World) : Holds w [whole w] := ⟨hp w, fun b o h => h, fun b o h => h, trivial⟩
theorem below_whole {w w' : World} (S : Same w w') {L : List HProp} (H : Holds w' (whole w :: L)) : RowKit.Below w.heap.size w w' := by
  refine ⟨S.os, S.tape, S.output, S.size, fun k hk => ?_⟩
  obtain ⟨g, hg, hs, _⟩ := H
  have h1 : w.heap[k]? = some w.heap[k] := Array.getElem?_eq_getElem hk
  rw [h1]
  exact hs k _ (hg k _ h1)
/-- A law's contract, as its row wants it. -/
theorem calls_of_law {P : Program} {f : FuncId} {args : Array Value} {w : World} (h : ∀ K : Value → World → Prop, (∀ w', Same w w' → Holds w' [whole w] → K (.bool true) w') → Cl P f args w K) :
    Calls P f args w fun e w' => e = .returned (.bool true) ∧ RowKit.Below w.heap.size w w' :=
  (h (fun v w' => v = .bool true ∧ RowKit.Below w.heap.size w w') fun w' S H => ⟨rfl, below_whole S H⟩).2.mono fun e w' ⟨v, he, hv, hb⟩ => ⟨by rw [he, hv], hb⟩

/-! ### Nodes -/
section
variable {P : Program} {w : World} {L : List HProp}
theorem r_nc {a : Addr} {A : Prop} (h : A) : Nc (.pointer (some a)) A := ⟨⟨a, rfl⟩, h⟩
theorem r_fo {off b o : Nat} {K : Value → Prop} (h : K (.pointer (some ⟨b, o + off, none⟩))) : Fo off (.pointer (some ⟨b, o, none⟩)) K := by
  refine ⟨_, rfl, ?_⟩
  unfold Addr.add
  split
  · rename_i h0; subst h0; exact h
  · exact h
theorem r_fo0 {off b : Nat} {K : Value → Prop} (h : K (.pointer (some ⟨b, off, none⟩))) : Fo off (.pointer (some ⟨b, 0, none⟩)) K := r_fo (by rw [Nat.zero_add]; exact h)
theorem r_ld (i : Nat) (H : Holds w L) {b o : Nat} {t : TypeId} {cs : List Value} {v : Value} {K : Value → Prop} (hi : L[i]? = some (blk b t cs)) (hc : cs[o]? = some v) (h : K v) :
    Ld (.pointer (some ⟨b, o, none⟩)) w K := ⟨_, v, rfl, (H.cell i hi o).trans hc, h⟩
theorem r_st (i : Nat) (H : Holds w L) {b o : Nat} {t : TypeId} {cs : List Value} {v : Value} {K : World → Prop} (hi : L[i]? = some (blk b t cs)) (ho : o < cs.length) (hs : sg v = true)
    (h : ∀ w', Same w w' → Holds w' (L.set i (blk b t (cs.set o v))) → K w') : St (.pointer (some ⟨b, o, none⟩)) v w K :=
  ⟨_, cs[o], rfl, (H.cell i hi o).trans (by simp [ho]), H.frozen i hi o, hs, h _ (.setCell _ _ _) (H.set i hi o v)⟩
theorem r_new {z : Value} {t : TypeId} (H : Holds w L) {K : Value → World → Prop} (h : ∀ b w', Same w w' → Holds w' (blk b t z.cells.toList :: L) → K (.pointer (some ⟨b, 0, none⟩)) w') : New z t w K :=
  h _ _ (.alloc _ _) (H.alloc _)
theorem r_dr (H : Holds w L) {K : World → Prop} (h : ∀ w', Same w w' → Holds w' L → K w') : Dr w K := h _ (.drew _) (H.same rfl)
theorem r_vif {b : Bool} {A B : Prop} (h1 : b = true → A) (h2 : b = false → B) : Vif (.bool b) A B := by
  cases b
  · exact h2 rfl
  · exact h1 rfl
theorem r_join0 {rest : (Nat → Value) → Cur 0} {br : Cur 0 → Prop} (J : World → Prop) (hJ : ∀ jb w, J w → rest jb w) (h : br J) : VJoin 0 rest br := ⟨J, fun jb w hw => hJ jb w hw, h⟩
theorem r_join1 {rest : (Nat → Value) → Cur 1} {br : Cur 1 → Prop} (J : Value → World → Prop) (hJ : ∀ jb x w, J x w → rest jb x w) (h : br J) : VJoin 1 rest br := ⟨J, fun jb x w hw => hJ jb x w hw, h⟩
theorem r_join2 {rest : (Nat → Value) → Cur 2} {br : Cur 2 → Prop} (J : Value → Value → World → Prop) (hJ : ∀ jb x y w, J x y w → rest jb x y w) (h : br J) : VJoin 2 rest br := ⟨J, fun jb x y w hw => hJ jb x y w hw, h⟩
theorem r_join3 {rest : (Nat → Value) → Cur 3} {br : Cur 3 → Prop} (J : Value → Value → Value → World → Prop) (hJ : ∀ jb x y z w, J x y z w → rest jb x y z w) (h : br J) : VJoin 3 rest br := ⟨J, fun jb x y z w hw => hJ jb x y z w hw, h⟩
theorem r_ke {a : List Value} {X : Prop} (h : X) : KE a a X := ⟨rfl, h⟩
theorem r_loop0 {w : World} {body : (Nat → Value) → Cur 0 → Cur 0} (I : World → Prop) (μ : World → Nat) (h0 : I w)
    (h : ∀ jb w, I w → body jb (fun w' => I w' ∧ μ w' < μ w) w) : VLoop 0 [] w body :=
  ⟨fun _ w => I w, fun _ w => μ w, h0, fun jb us u hl hI => match us, hl with | [], _ => h jb u hI⟩
theorem r_loop1 {w : World} {a : Value} {body : (Nat → Value) → Cur 1 → Cur 1} (I : Value → World → Prop) (μ : Value → World → Nat) (h0 : I a w)
    (h : ∀ jb x w, I x w → body jb (fun x' w' => I x' w' ∧ μ x' w' < μ x w) x w) : VLoop 1 [a] w body :=
  ⟨fun l w => match l with | [x] => I x w | _ => False, fun l w => match l with | [x] => μ x w | _ => 0, h0, fun jb us u hl hI => match us, hl with | [x], _ => h jb x u hI⟩
theorem r_loop2 {w : World} {a b : Value} {body : (Nat → Value) → Cur 2 → Cur 2} (I : Value → Value → World → Prop) (μ : Value → Value → World → Nat) (h0 : I a b w)
    (h : ∀ jb x y w, I x y w → body jb (fun x' y' w' => I x' y' w' ∧ μ x' y' w' < μ x y w) x y w) : VLoop 2 [a, b] w body :=
  ⟨fun l w => match l with | [x, y] => I x y w | _ => False, fun l w => match l with | [x, y] => μ x y w | _ => 0, h0, fun jb us u hl hI => match us, hl with | [x, y], _ => h jb x y u hI⟩
theorem r_loop3 {w : World} {a b c : Value} {body : (Nat → Value) → Cur 3 → Cur 3} (I : Value → Value → Value → World → Prop) (μ : Value → Value → Value → World → Nat) (h0 : I a b c w)
    (h : ∀ jb x y z w, I x y z w → body jb (fun x' y' z' w' => I x' y' z' w' ∧ μ x' y' z' w' < μ x y z w) x y z w) : VLoop 3 [a, b, c] w body :=
  ⟨fun l w => match l with | [x, y, z] => I x y z w | _ => False, fun l w => match l with | [x, y, z] => μ x y z w | _ => 0, h0, fun jb us u hl hI => match us, hl with | [x, y, z], _ => h jb x y z u hI⟩
theorem r_loop4 {w : World} {a b c d : Value} {body : (Nat → Value) → Cur 4 → Cur 4} (I : Value → Value → Value → Value → World → Prop) (μ : Value → Value → Value → Value → World → Nat) (h0 : I a b c d w)
    (h : ∀ jb x y z t w, I x y z t w → body jb (fun x' y' z' t' w' => I x' y' z' t' w' ∧ μ x' y' z' t' w' < μ x y z t w) x y z t w) : VLoop 4 [a, b, c, d] w body :=
  ⟨fun l w => match l with | [x, y, z, t] => I x y z t w | _ => False, fun l w => match l with | [x, y, z, t] => μ x y z t w | _ => 0, h0, fun jb us u hl hI => match us, hl with | [x, y, z, t], _ => h jb x y z t u hI⟩
/-- Whole numbers: no wrap where the bounds are known. -/
theorem wrap64 {n : Int} (h1 : -9223372036854775808 ≤ n) (h2 : n ≤ 9223372036854775807) : IntKind.i64.wrap n = n := IntWalk.i64_in n ⟨h1, h2⟩
theorem r_add {a b : Int} {K : Value → Prop} (h1 : -9223372036854775808 ≤ a + b) (h2 : a + b ≤ 9223372036854775807) (h : K (.int .i64 (a + b))) : Bp .add (.int .i64 a) (.int .i64 b) K :=
  ⟨.int .i64 (a + b), by simp only [bp, if_true]; rw [wrap64 h1 h2], h⟩
theorem r_sub {a b : Int} {K : Value → Prop} (h1 : -9223372036854775808 ≤ a - b) (h2 : a - b ≤ 9223372036854775807) (h : K (.int .i64 (a - b))) : Bp .sub (.int .i64 a) (.int .i64 b) K :=
  ⟨.int .i64 (a - b), by simp only [bp, if_true]; rw [wrap64 h1 h2], h⟩
theorem r_mul {a b : Int} {K : Value → Prop} (h1 : -9223372036854775808 ≤ a * b) (h2 : a * b ≤ 9223372036854775807) (h : K (.int .i64 (a * b))) : Bp .mul (.int .i64 a) (.int .i64 b) K :=
  ⟨.int .i64 (a * b), by simp only [bp, if_true]; rw [wrap64 h1 h2], h⟩
theorem r_quo {a b : Int} {K : Value → Prop} (h0 : 0 ≤ a) (hb : 0 < b) (h2 : a ≤ 9223372036854775807) (h : K (.int .i64 (a / b))) : Bp .quo (.int .i64 a) (.int .i64 b) K := by
  refine ⟨.int .i64 (a / b), ?_, h⟩
  have e : a.tdiv b = a / b := Int.tdiv_eq_ediv_of_nonneg h0
  have h3 : 0 ≤ a / b := Int.ediv_nonneg h0 (by omega)
  have h4 : a / b ≤ a := Int.ediv_le_self b h0
  show (if IntKind.i64 = IntKind.i64 ∧ b ≠ 0 then some (Value.int .i64 (IntKind.i64.wrap (a.tdiv b))) else none) = _
  rw [if_pos ⟨rfl, by omega⟩, e, wrap64 (by omega) (by omega)]
theorem r_rem {a b : Int} {K : Value → Prop} (h0 : 0 ≤ a) (hb : 0 < b) (h : K (.int .i64 (a % b))) : Bp .rem (.int .i64 a) (.int .i64 b) K := by
  refine ⟨.int .i64 (a % b), ?_, h⟩
  have e : a.tmod b = a % b := Int.tmod_eq_emod_of_nonneg h0
  show (if IntKind.i64 = IntKind.i64 ∧ b ≠ 0 then some (Value.int .i64 (a.tmod b)) else none) = _
  rw [if_pos ⟨rfl, by omega⟩, e]
theorem r_quoE {a b q : Int} {K : Value → Prop} (hq : a.tdiv b = q) (hb : b ≠ 0) (h1 : -9223372036854775808 ≤ q) (h2 : q ≤ 9223372036854775807) (h : K (.int .i64 q)) : Bp .quo (.int .i64 a) (.int .i64 b) K := by
  refine ⟨.int .i64 q, ?_, h⟩
  show (if IntKind.i64 = IntKind.i64 ∧ b ≠ 0 then some (Value.int .i64 (IntKind.i64.wrap (a.tdiv b))) else none) = _
  rw [if_pos ⟨rfl, hb⟩, hq, wrap64 h1 h2]
theorem r_remE {a b r : Int} {K : Value → Prop} (hr : a.tmod b = r) (hb : b ≠ 0) (h : K (.int .i64 r)) : Bp .rem (.int .i64 a) (.int .i64 b) K := by
  refine ⟨.int .i64 r, ?_, h⟩
  show (if IntKind.i64 = IntKind.i64 ∧ b ≠ 0 then some (Value.int .i64 (a.tmod b)) else none) = _
  rw [if_pos ⟨rfl, hb⟩, hr]
theorem r_bp {op : BinOp} {x y v : Value} {K : Value → Prop} (hb : bp op x y = some v) (h : K v) : Bp op x y K := ⟨v, hb, h⟩
theorem r_eql {k : IntKind} {a b : Int} {K : Value → Prop} (h : K (.bool (a == b))) : Bp .eql (.int k a) (.int k b) K := ⟨.bool (a == b), by simp only [bp, if_true], h⟩
theorem r_neq {k : IntKind} {a b : Int} {K : Value → Prop} (h : K (.bool (a != b))) : Bp .neq (.int k a) (.int k b) K := ⟨.bool (a != b), by simp only [bp, if_true], h⟩
theorem r_lss {k : IntKind} {a b : Int} {K : Value → Prop} (h : K (.bool (decide (a < b)))) : Bp .lss (.int k a) (.int k b) K := ⟨.bool (decide (a < b)), by simp only [bp, if_true], h⟩
theorem r_leq {k : IntKind} {a b : Int} {K : Value → Prop} (h : K (.bool (decide (a ≤ b)))) : Bp .leq (.int k a) (.int k b) K := ⟨.bool (decide (a ≤ b)), by simp only [bp, if_true], h⟩
theorem r_gtr {k : IntKind} {a b : Int} {K : Value → Prop} (h : K (.bool (decide (b < a)))) : Bp .gtr (.int k a) (.int k b) K := ⟨.bool (decide (b < a)), by simp only [bp, if_true, gt_iff_lt, ge_iff_le], h⟩
theorem r_geq {k : IntKind} {a b : Int} {K : Value → Prop} (h : K (.bool (decide (b ≤ a)))) : Bp .geq (.int k a) (.int k b) K := ⟨.bool (decide (b ≤ a)), by simp only [bp, if_true, gt_iff_lt, ge_iff_le], h⟩
theorem ba_ext {a b : ByteArray} (h : a.data.toList = b.data.toList) : a = b := by
  obtain ⟨⟨a⟩⟩ := a
  obtain ⟨⟨b⟩⟩ := b
  simp at h
  rw [h]
theorem seq_eq (a b : ByteArray) : (a.toList == b.toList) = decide (a = b) := by
  rw [Bool.eq_iff_iff, beq_iff_eq, decide_eq_true_iff, ByteArray.toList_eq, ByteArray.toList_eq]
  exact ⟨ba_ext, fun h => by rw [h]⟩
theorem ba_nil (a : ByteArray) : a = ⟨#[]⟩ ↔ a.size = 0 := by
  constructor
  · rintro rfl; rfl
  · intro h
    apply ba_ext
    have : a.data.toList.length = 0 := by simpa using h
    rw [List.eq_nil_of_length_eq_zero this]
theorem r_seq0 {a : ByteArray} {K : Value → Prop} (h : K (.bool (decide (a.size = 0)))) : Bp .eql (.string a) (.string ⟨#[]⟩) K :=
  ⟨_, rfl, by rw [seq_eq, show decide (a = ⟨#[]⟩) = decide (a.size = 0) from by rw [Bool.eq_iff_iff, decide_eq_true_iff, decide_eq_true_iff, ba_nil]]; exact h⟩
theorem r_sne0 {a : ByteArray} {K : Value → Prop} (h : K (.bool (decide (¬ a.size = 0)))) : Bp .neq (.string a) (.string ⟨#[]⟩) K :=
  ⟨_, rfl, by rw [seq_eq, show (!decide (a = ⟨#[]⟩)) = decide (¬ a.size = 0) from by rw [Bool.eq_iff_iff, Bool.not_eq_true', decide_eq_false_iff_not, decide_eq_true_iff, ba_nil]]; exact h⟩
theorem r_seq {a b : ByteArray} {K : Value → Prop} (h : K (.bool (decide (a = b)))) : Bp .eql (.string a) (.string b) K := ⟨_, rfl, by rw [seq_eq]; exact h⟩
theorem r_sne {a b : ByteArray} {K : Value → Prop} (h : K (.bool (!decide (a = b)))) : Bp .neq (.string a) (.string b) K := ⟨_, rfl, by rw [seq_eq]; exact h⟩
theorem r_cat {a b : ByteArray} {K : Value → Prop} (hs : a.size + b.size ≤ 9223372036854775807) (h : K (.string (a ++ b))) : Bp .add (.string a) (.string b) K := by
  refine ⟨.string (a ++ b), ?_, h⟩
  simp only [bp]
  rw [if_neg (by show ¬ _ > (9223372036854775807 : Int); omega)]
theorem r_not {b : Bool} {K : Value → Prop} (h : K (.bool !b)) : Up .not (.bool b) K := ⟨_, rfl, h⟩
theorem r_bn0 {e : TypeId} {neg : Bool} {a : Option Addr} {K : Value → Prop} (h : K (.bool (if neg then !a.isNone else a.isNone))) : Bn P e neg (.pointer a) (.pointer none) K := by
  cases a
  · exact .inl ⟨_, rfl, h⟩
  · exact .inl ⟨_, rfl, h⟩
theorem r_bnS {e : TypeId} {neg : Bool} {a : Addr} {K : Value → Prop} (h : K (.bool neg)) : Bn P e neg (.pointer (some a)) (.pointer none) K :=
  .inl ⟨false, rfl, by cases neg <;> exact h⟩
theorem r_bnN {e : TypeId} {neg : Bool} {K : Value → Prop} (h : K (.bool !neg)) : Bn P e neg (.pointer none) (.pointer none) K :=
  .inl ⟨true, rfl, by cases neg <;> exact h⟩
theorem r_vt {A B : Prop} (h : A) : Vif (.bool true) A B := h
theorem r_vf {A B : Prop} (h : B) : Vif (.bool false) A B := h
theorem r_vtd {c : Bool} {A B : Prop} (hc : c = true) (h : A) : Vif (.bool c) A B := by subst hc; exact h
theorem r_vfd {c : Bool} {A B : Prop} (hc : c = false) (h : B) : Vif (.bool c) A B := by subst hc; exact h
theorem r_vtD {p : Prop} [Decidable p] {A B : Prop} (hc : p) (h : A) : Vif (.bool (decide p)) A B := r_vtd (decide_eq_true hc) h
theorem r_vfD {p : Prop} [Decidable p] {A B : Prop} (hc : ¬ p) (h : B) : Vif (.bool (decide p)) A B := r_vfd (decide_eq_false hc) h
theorem r_vtE {a b : Int} {A B : Prop} (hc : a = b) (h : A) : Vif (.bool (a == b)) A B := r_vtd (beq_iff_eq.2 hc) h
theorem r_vfE {a b : Int} {A B : Prop} (hc : ¬ a = b) (h : B) : Vif (.bool (a == b)) A B := r_vfd (beq_eq_false_iff_ne.2 hc) h
theorem r_vtN {a b : Int} {A B : Prop} (hc : ¬ a = b) (h : A) : Vif (.bool (a != b)) A B := r_vtd (bne_iff_ne.2 hc) h
theorem r_vfN {a b : Int} {A B : Prop} (hc : a = b) (h : B) : Vif (.bool (a != b)) A B := r_vfd (by subst hc; simp) h
/-- A test that is not decided: both ways, each with its fact. -/
theorem r_ifD {p : Prop} [Decidable p] {A B : Prop} (h1 : p → A) (h2 : ¬ p → B) : Vif (.bool (decide p)) A B := r_vif (fun h => h1 (of_decide_eq_true h)) fun h => h2 (of_decide_eq_false h)
theorem r_ifE {a b : Int} {A B : Prop} (h1 : a = b → A) (h2 : ¬ a = b → B) : Vif (.bool (a == b)) A B := r_vif (fun h => h1 (beq_iff_eq.1 h)) fun h => h2 (beq_eq_false_iff_ne.1 h)
theorem r_ifN {a b : Int} {A B : Prop} (h1 : ¬ a = b → A) (h2 : a = b → B) : Vif (.bool (a != b)) A B := r_vif (fun h => h1 (bne_iff_ne.1 h)) fun h => h2 (by simpa using h)
theorem r_ifNE {a b : Int} {A B : Prop} (h1 : ¬ a = b → A) (h2 : a = b → B) : Vif (.bool (!(a == b))) A B := r_vif (fun h => h1 (by simpa using h)) fun h => h2 (by simpa using h)
theorem r_bb {neg a b : Bool} {K : Value → Prop} (h : K (.bool (if neg then !(a == b) else a == b))) : Bb neg (.bool a) (.bool b) K := ⟨a, b, rfl, rfl, h⟩
theorem r_lns {s : ByteArray} {K : Value → Prop} (h : K (.int .i64 (s.size : Int))) : Lns (.string s) K := ⟨s, rfl, h⟩
theorem r_lnl {a : Option Addr} {l c : Nat} {K : Value → Prop} (h : K (.int .i64 (l : Int))) : Lnl (.slice a l c) K := ⟨a, l, c, rfl, h⟩
theorem r_ixs {s : ByteArray} {k : IntKind} {n : Int} {K : Value → Prop} (h0 : 0 ≤ n) (h1 : n < (s.size : Int)) (h : K (.int .u8 ((s.data.toList.getD n.toNat 0).toNat : Int))) : Ixs (.string s) (.int k n) K :=
  ⟨s, k, n, rfl, rfl, h0, h1, h⟩
theorem r_iaa {len size b o : Nat} {k : IntKind} {n : Int} {K : Value → Prop} (h0 : 0 ≤ n) (h1 : n < (len : Int)) (h : K (.pointer (some ⟨b, o + n.toNat * size, none⟩))) :
    Iaa len size (.pointer (some ⟨b, o, none⟩)) (.int k n) K := by
  refine ⟨_, k, n, rfl, rfl, h0, h1, ?_⟩
  unfold Addr.add
  split
  · rename_i e; rw [e] at h; exact h
  · exact h
theorem r_ias {size b o l c : Nat} {k : IntKind} {n : Int} {K : Value → Prop} (h0 : 0 ≤ n) (h1 : n < (l : Int)) (h : K (.pointer (some ⟨b, o + n.toNat * size, none⟩))) :
    Ias size (.slice (some ⟨b, o, none⟩) l c) (.int k n) K := by
  refine ⟨_, l, c, k, n, rfl, rfl, h0, h1, ?_⟩
  unfold Addr.add
  split
  · rename_i e; rw [e] at h; exact h
  · exact h
theorem r_ex {vs : Array Value} {i : Nat} {v : Value} {K : Value → Prop} (hv : vs[i]? = some v) (h : K v) : Ex (.tuple vs) i K := ⟨vs, v, rfl, hv, h⟩
theorem r_bnST {a : Addr} {e : TypeId} {K : Value → Prop} (h : K (.bool true)) : Bn P e true (.pointer (some a)) (.pointer none) K := r_bnS h
theorem r_bnSF {a : Addr} {e : TypeId} {K : Value → Prop} (h : K (.bool false)) : Bn P e false (.pointer (some a)) (.pointer none) K := r_bnS h
theorem r_bnNT {e : TypeId} {K : Value → Prop} (h : K (.bool true)) : Bn P e false (.pointer none) (.pointer none) K := r_bnN h
theorem r_bnNF {e : TypeId} {K : Value → Prop} (h : K (.bool false)) : Bn P e true (.pointer none) (.pointer none) K := r_bnN h
theorem r_notT {K : Value → Prop} (h : K (.bool false)) : Up .not (.bool true) K := r_not h
theorem r_notF {K : Value → Prop} (h : K (.bool true)) : Up .not (.bool false) K := r_not h
theorem r_pkT {a b : Value} {K : Value → Prop} (h : K a) : Pk (.bool true) a b K := h
theorem r_pkF {a b : Value} {K : Value → Prop} (h : K b) : Pk (.bool false) a b K := h
theorem r_pkB {c : Bool} {K : Value → Prop} (h : K (.bool c)) : Pk (.bool c) (.bool true) (.bool false) K := by
  cases c
  · exact h
  · exact h
theorem r_ex20 {a b : Value} {K : Value → Prop} (h : K a) : Ex (.tuple #[a, b]) 0 K := r_ex rfl h
theorem r_ex21 {a b : Value} {K : Value → Prop} (h : K b) : Ex (.tuple #[a, b]) 1 K := r_ex rfl h
theorem r_ex30 {a b c : Value} {K : Value → Prop} (h : K a) : Ex (.tuple #[a, b, c]) 0 K := r_ex rfl h
theorem r_ex31 {a b c : Value} {K : Value → Prop} (h : K b) : Ex (.tuple #[a, b, c]) 1 K := r_ex rfl h
theorem r_ex32 {a b c : Value} {K : Value → Prop} (h : K c) : Ex (.tuple #[a, b, c]) 2 K := r_ex rfl h
theorem r_vift {p : Prop} [Decidable p] {A B : Prop} (hc : p) (h : A) : Vif (.bool (decide p)) A B := r_vtD hc h
theorem r_viff {p : Prop} [Decidable p] {A B : Prop} (hc : ¬ p) (h : B) : Vif (.bool (decide p)) A B := r_vfD hc h
theorem r_ci {k k' : IntKind} {n : Int} {K : Value → Prop} (h : K (.int k (k.wrap n))) : Ci k (.int k' n) K := ⟨k', n, rfl, h⟩
theorem r_remK {k : IntKind} {a b : Int} {K : Value → Prop} (h0 : 0 ≤ a) (hb : 0 < b) (h : K (.int k (a % b))) : Bp .rem (.int k a) (.int k b) K := by
  refine ⟨.int k (a % b), ?_, h⟩
  have e : a.tmod b = a % b := Int.tmod_eq_emod_of_nonneg h0
  show (if k = k ∧ b ≠ 0 then some (Value.int k (a.tmod b)) else none) = _
  rw [if_pos ⟨rfl, by omega⟩, e]
theorem r_ci64 {k' : IntKind} {n : Int} {K : Value → Prop} (h1 : -9223372036854775808 ≤ n) (h2 : n ≤ 9223372036854775807) (h : K (.int .i64 n)) : Ci .i64 (.int k' n) K :=
  ⟨k', n, rfl, by rw [wrap64 h1 h2]; exact h⟩
theorem r_ciu8 {k' : IntKind} {n : Int} {K : Value → Prop} (h1 : 0 ≤ n) (h2 : n ≤ 255) (h : K (.int .u8 n)) : Ci .u8 (.int k' n) K :=
  ⟨k', n, rfl, by rw [show IntKind.u8.wrap n = n from by show n % 256 = n; omega]; exact h⟩
theorem r_ciu32 {k' : IntKind} {n : Int} {K : Value → Prop} (h1 : 0 ≤ n) (h2 : n ≤ 4294967295) (h : K (.int .u32 n)) : Ci .u32 (.int k' n) K :=
  ⟨k', n, rfl, by rw [show IntKind.u32.wrap n = n from by show n % 4294967296 = n; omega]; exact h⟩
theorem r_sst {s : ByteArray} {lo hi : Option Value} {l h : Nat} {K : Value → Prop} (hl : bnd lo 0 l) (hh : bnd hi s.size h) (h1 : l ≤ h) (h2 : h ≤ s.size) (hk : K (.string (s.extract l h))) : Sst (.string s) lo hi K :=
  ⟨s, l, h, rfl, hl, hh, h1, h2, hk⟩
theorem r_ldA (i : Nat) (H : Holds w L) {n b o : Nat} {t : TypeId} {cs : List Value} {K : Value → Prop} (sub : List Value) (hi : L[i]? = some (blk b t cs)) (hs : (cs.drop o).take n = sub) (hn : sub.length = n)
    (h : K (.agg sub.toArray)) : LdA n (.pointer (some ⟨b, o, none⟩)) w K := by
  refine ⟨_, sub.toArray, rfl, by simpa using hn, fun j v hv => ?_, h⟩
  have e1 : (⟨b, o, none⟩ : Addr).add j = ⟨b, o + j, none⟩ := by
    unfold Addr.add; split
    · rename_i h; rw [h]; rfl
    · rfl
  rw [e1, H.cell i hi]
  have hv' : sub[j]? = some v := by simpa using hv
  have hj : j < n := by rw [← hn]; exact (List.getElem?_eq_some_iff.1 hv').1
  rw [← hv', ← hs, List.getElem?_take_of_lt hj, List.getElem?_drop]
theorem r_ixa1 {len : Nat} {sub : List Value} {k : IntKind} {n : Int} {K : Value → Prop} (v : Value) (h0 : 0 ≤ n) (h1 : n < (len : Int)) (hv : sub[n.toNat]? = some v) (h : K v) : Ixa len 1 false (.agg sub.toArray) (.int k n) K :=
  ⟨_, k, n, rfl, rfl, h0, h1, v, by simpa using hv, h⟩
theorem r_ixsN {s : ByteArray} {k : IntKind} {m : Nat} {K : Value → Prop} (h1 : m < s.size) (h : K (.int .u8 ((s.data.toList.getD m 0).toNat : Int))) : Ixs (.string s) (.int k (m : Int)) K :=
  r_ixs (by omega) (by omega) (by rw [Int.toNat_natCast]; exact h)
theorem r_iaaN {len b o m : Nat} {k : IntKind} {K : Value → Prop} (h1 : m < len) (h : K (.pointer (some ⟨b, o + m, none⟩))) : Iaa len 1 (.pointer (some ⟨b, o, none⟩)) (.int k (m : Int)) K :=
  r_iaa (by omega) (by omega) (by rw [Int.toNat_natCast, Nat.mul_one]; exact h)
theorem r_add1N {a : Nat} {K : Value → Prop} (h2 : a < 9223372036854775807) (h : K (.int .i64 ((a + 1 : Nat) : Int))) : Bp .add (.int .i64 (a : Int)) (.int .i64 1) K := r_add (by omega) (by omega) h
theorem r_sub1N {a : Nat} {K : Value → Prop} (h2 : 1 ≤ a) (h3 : a < 9223372036854775807) (h : K (.int .i64 ((a - 1 : Nat) : Int))) : Bp .sub (.int .i64 (a : Int)) (.int .i64 1) K :=
  r_sub (by omega) (by omega) (by rw [show (a : Int) - 1 = ((a - 1 : Nat) : Int) by omega]; exact h)
theorem r_addN {a b : Nat} {K : Value → Prop} (h2 : a + b < 9223372036854775807) (h : K (.int .i64 ((a + b : Nat) : Int))) : Bp .add (.int .i64 (a : Int)) (.int .i64 (b : Int)) K := r_add (by omega) (by omega) h
theorem r_bd {t : TypeId} {ps : Array (Nat × Value)} {v : Value} {K : Value → Prop} (h : (Instr.build t ps).run P w = .ok v w) (k : K v) : Bd P t ps w K := ⟨v, h, k⟩
theorem r_be {op : BinOp} {t : TypeId} {X Y : Operand} {x y v : Value} {K : Value → Prop} (h : (do eqGuard op t X Y x y; binOp op t x y).run P w = .ok v w) (k : K v) : Be P op t X Y x y w K := ⟨v, h, k⟩
theorem r_ln {ats : Array TypeId} {t : TypeId} {args : Array Value} {v : Value} {K : Value → Prop} (h : (Builtin.len_ ats t args).run P w = .ok v w) (k : K v) : Ln P ats t args w K := ⟨v, h, k⟩
theorem r_min {ats : Array TypeId} {t : TypeId} {k : IntKind} {a b : Int} {K : Value → Prop} (h : K (.int k (min a b))) : Bmin P ats t #[.int k a, .int k b] w K := by
  refine ⟨.int k (if b < a then b else a), by simp [Builtin.min_, Builtin.min2, Sem.run_pure, List.foldlM], ?_⟩
  have : (if b < a then b else a) = min a b := by split <;> omega
  rw [this]; exact h
theorem r_max {ats : Array TypeId} {t : TypeId} {k : IntKind} {a b : Int} {K : Value → Prop} (h : K (.int k (max a b))) : Bmax P ats t #[.int k a, .int k b] w K := by
  refine ⟨.int k (if b > a then b else a), by simp [Builtin.max_, Builtin.max2, Sem.run_pure, List.foldlM], ?_⟩
  have : (if b > a then b else a) = max a b := by split <;> omega
  rw [this]; exact h
theorem r_rk {N : Node} {v : Value} {A : Prop} (h : N w fun u => u = v) (hA : A) : Rk N v w A := ⟨h, hA⟩
theorem r_cl {f : FuncId} {args : Array Value} {K K' : Value → World → Prop} (h : Cl P f args w K) (hk : ∀ v w', K v w' → K' v w') : Cl P f args w K' :=
  ⟨h.1, h.2.mono fun e w' ⟨v, he, hv⟩ => ⟨v, he, hk v w' hv⟩⟩
end
end Go.Vc
