/- Several texts in one: Sl, Sq, Sr, St, Su, M01, Mb, Mp, M10, Mc, Mz, Mx, Mv, E1, E2, M18, Cl, Rb, P13, D11, C10, C14, W08, W01, W10, W8c, W12, W02, U18. -/
import Derived.Test.YtgaiocpkjaaphaaGreatDoorVc
import Derived.Deep.DeepAppendRoom
import Derived.Laws.RangeString
import Derived.Lib.OthersKept
import Derived.Deep.Upon
import Derived.Laws.CopyRow
import Derived.Laws.IdiomCopy
import Derived.Laws.IdiomStrings
import Derived.WalkKit
import Derived.Test.YtgaiocpkjaaphaaGreatDoorFm
set_option linter.unusedVariables false
set_option linter.unusedSimpArgs false
namespace Go.Vc
abbrev Hp := Nat → Option Obj
abbrev HProp := Hp → Prop
def Hp.sub (h g : Hp) : Prop := ∀ b o, h b = some o → g b = some o
def Hp.minus (h g : Hp) : Hp := fun b => if (g b).isSome = true then none else h b
def Sat : List HProp → Hp → Prop
 | [], _ => True
 | P :: L, h => ∃ g, P g ∧ g.sub h ∧ Sat L (h.minus g)
def hp (w : World) : Hp := fun b => w.heap[b]?
def Holds (w : World) (L : List HProp) : Prop := Sat L (hp w)
def blkO (b : Nat) (o : Obj) : HProp := fun h => h b = some o
def blk (b : Nat) (t : TypeId) (cs : List Value) : HProp := blkO b (.cells cs.toArray t)
def pur (p : Prop) : HProp := fun _ => p
structure Same (w w' : World) : Prop where
 os : w'.os = w.os
 tape : w'.tape = w.tape
 output : w'.output = w.output
 size : w.heap.size ≤ w'.heap.size
theorem Same.refl (w : World) : Same w w := ⟨rfl, rfl, rfl, Nat.le_refl _⟩
theorem Same.trans {a b c : World} (h : Same a b) (k : Same b c) : Same a c := ⟨k.os.trans h.os, k.tape.trans h.tape, k.output.trans h.output, Nat.le_trans h.size k.size⟩
theorem Sat.mono : ∀ {L : List HProp} {h g : Hp}, Sat L h → h.sub g → Sat L g
 | [], _, _, _, _ => trivial
 | P :: L, h, g, ⟨k, hp, hs, hL⟩, hg => ⟨k, hp, fun b o hb => hg b o (hs b o hb), hL.mono fun b o hb => by
   unfold Hp.minus at hb ⊢; split
   · rename_i h1; rw [if_pos h1] at hb; cases hb
   · rename_i h1; rw [if_neg h1] at hb; exact hg b o hb⟩
theorem Sat.swap {P Q : HProp} {L : List HProp} {h : Hp} (H : Sat (P :: Q :: L) h) : Sat (Q :: P :: L) h := by
 obtain ⟨g, hg, hgs, k, hk, hks, hL⟩ := H
 have kn : ∀ b o, k b = some o → g b = none ∧ h b = some o := fun b o hb => by
   have := hks b o hb; unfold Hp.minus at this; split at this
   · cases this
   · rename_i h1; simp at h1; exact ⟨h1, this⟩
 refine ⟨k, hk, fun b o hb => (kn b o hb).2, g, hg, fun b o hb => ?_, hL.mono fun b o hb => ?_⟩
 · unfold Hp.minus; rw [if_neg ?_]
   · exact hgs b o hb
   · intro h1; obtain ⟨x, hx⟩ := Option.isSome_iff_exists.1 h1; rw [(kn b x hx).1] at hb; cases hb
 · unfold Hp.minus at hb ⊢; split at hb
   · cases hb
   · rename_i h1; split at hb
     · cases hb
     · rename_i h2; rw [if_neg h2, if_neg h1]; exact hb
theorem Sat.pull : ∀ {L : List HProp} {h : Hp} (i : Nat) {P : HProp}, Sat L h → L[i]? = some P → Sat (P :: L.eraseIdx i) h
 | Q :: L, h, 0, P, H, hi => by simp at hi; subst hi; exact H
 | Q :: L, h, i + 1, P, ⟨g, hg, hs, hL⟩, hi => Sat.swap ⟨g, hg, hs, hL.pull i (by simpa using hi)⟩
theorem Sat.push : ∀ {L : List HProp} {h : Hp} (i : Nat) {P Q : HProp}, L[i]? = some Q → Sat (P :: L.eraseIdx i) h → Sat (L.set i P) h
 | R :: L, h, 0, P, Q, _, H => H
 | R :: L, h, i + 1, P, Q, hi, H => by
   obtain ⟨g, hg, hs, hL⟩ := Sat.swap H; exact ⟨g, hg, hs, Sat.push i (by simpa using hi) hL⟩
theorem Holds.front {w : World} {L : List HProp} (H : Holds w L) (i : Nat) {P : HProp} (hi : L[i]? = some P) : Holds w (P :: L.eraseIdx i) := Sat.pull i H hi
theorem Holds.swap {w : World} {P Q : HProp} {L : List HProp} (H : Holds w (P :: Q :: L)) : Holds w (Q :: P :: L) := Sat.swap H
theorem Holds.drop {w : World} {P : HProp} {L : List HProp} (H : Holds w (P :: L)) : Holds w L := by
 obtain ⟨g, _, _, hL⟩ := H
 exact hL.mono fun b o hb => by
   unfold Hp.minus at hb; split at hb
   · cases hb
   · exact hb
theorem Holds.dropAt {w : World} {L : List HProp} (H : Holds w L) (i : Nat) : Holds w (L.eraseIdx i) := by
 cases h : L[i]? with
 | none => rw [List.eraseIdx_of_length_le (by simpa using h)]; exact H
 | some P => exact (H.front i h).drop
theorem Sat.imp {P Q : HProp} {L : List HProp} {h : Hp} (H : Sat (P :: L) h) (hpq : ∀ h, P h → Q h) : Sat (Q :: L) h := by
 obtain ⟨g, hg, hs, hL⟩ := H; exact ⟨g, hpq _ hg, hs, hL⟩
theorem Holds.imp {P Q : HProp} {L : List HProp} {w : World} (H : Holds w (P :: L)) (hpq : ∀ h, P h → Q h) : Holds w (Q :: L) := Sat.imp H hpq
theorem Holds.ex {α : Type} {P : α → HProp} {L : List HProp} {w : World} (H : Holds w ((fun h => ∃ x, P x h) :: L)) : ∃ x, Holds w (P x :: L) := by
 obtain ⟨g, ⟨x, hx⟩, hs, hL⟩ := H; exact ⟨x, g, hx, hs, hL⟩
theorem Holds.pure {p : Prop} {P : HProp} {L : List HProp} {w : World} (H : Holds w ((fun h => p ∧ P h) :: L)) : p ∧ Holds w (P :: L) := by
 obtain ⟨g, ⟨hp, hg⟩, hs, hL⟩ := H; exact ⟨hp, g, hg, hs, hL⟩
theorem Sat.unpack : ∀ {A L : List HProp} {h : Hp}, Sat (Sat A :: L) h → Sat (A ++ L) h
 | [], L, h, ⟨g, _, _, hL⟩ => hL.mono fun b o hb => by
   unfold Hp.minus at hb; split at hb
   · cases hb
   · exact hb
 | P :: A, L, h, ⟨g, ⟨k, hk, hks, hA⟩, hgs, hL⟩ => by
   refine ⟨k, hk, fun b o hb => hgs b o (hks b o hb), Sat.unpack ⟨g.minus k, hA, fun b o hb => ?_, hL.mono fun b o hb => ?_⟩⟩
   · unfold Hp.minus at hb ⊢; split at hb
     · cases hb
     · rename_i h1; rw [if_neg h1]; exact hgs b o hb
   · unfold Hp.minus at hb ⊢; split at hb
     · cases hb
     · rename_i h1
       have h1' : g b = none := by simpa using h1
       have h2 : k b = none := by
         cases hk : k b with
         | none => rfl
         | some x => rw [hks b x hk] at h1'; cases h1'
       simp [h1', h2, hb]
theorem Sat.pack : ∀ {A L : List HProp} {h : Hp}, Sat (A ++ L) h → Sat (Sat A :: L) h
 | [], L, h, H => by
   refine ⟨fun _ => none, trivial, ?_, ?_⟩
   · intro b o hb; cases hb
   · have e : h.minus (fun _ => none) = h := by funext b; simp [Hp.minus]
     rw [e]; exact H
 | P :: A, L, h, ⟨k, hk, hks, H⟩ => by
   obtain ⟨g, hg, hgs, hL⟩ := Sat.pack H
   have gk : ∀ b o, g b = some o → k b = none ∧ h b = some o := fun b o hb => by
     have := hgs b o hb; unfold Hp.minus at this; split at this
     · cases this
     · rename_i h1; simp at h1; exact ⟨h1, this⟩
   refine ⟨fun b => (k b).or (g b), ⟨k, hk, fun b o hb => by simp [hb], hg.mono fun b o hb => ?_⟩, fun b o hb => ?_, hL.mono fun b o hb => ?_⟩
   · unfold Hp.minus; simp [(gk b o hb).1, hb]
   · cases hkb : k b with
     | none => simp [hkb] at hb; exact (gk b o hb).2
     | some x => simp [hkb] at hb; subst hb; exact hks b x hkb
   · unfold Hp.minus at hb ⊢; split at hb
     · cases hb
     · rename_i h1; split at hb
       · cases hb
       · rename_i h2; simp at h1 h2; simp [h1, h2, hb]
theorem Holds.pack {A L : List HProp} {w : World} (H : Holds w (A ++ L)) : Holds w (Sat A :: L) := Sat.pack H
theorem Holds.unpack {A L : List HProp} {w : World} (H : Holds w (Sat A :: L)) : Holds w (A ++ L) := Sat.unpack H
theorem Holds.obj {w : World} {L : List HProp} (H : Holds w L) (i : Nat) {b : Nat} {o : Obj} (hi : L[i]? = some (blkO b o)) : w.heap[b]? = some o := by
 obtain ⟨g, hg, hs, _⟩ := H.front i hi; exact hs b o hg
theorem Holds.upd {w w' : World} {L : List HProp} (H : Holds w L) (i : Nat) {b : Nat} {o o' : Obj} (hi : L[i]? = some (blkO b o)) (hb : w'.heap[b]? = some o') (ho : ∀ c, c ≠ b → w'.heap[c]? = w.heap[c]?) :
   Holds w' (L.set i (blkO b o')) := by
 obtain ⟨g, hg, hs, hL⟩ := H.front i hi; refine Sat.push i hi ⟨fun c => if c = b then some o' else none, by simp [blkO], fun c o hc => ?_, hL.mono fun c o hc => ?_⟩
 · by_cases e : c = b
   · subst e; simp at hc; subst hc; exact hb
   · simp [e] at hc
 · unfold Hp.minus at hc ⊢
   by_cases e : c = b
   · subst e; rw [if_pos (by rw [show g c = some _ from hg]; rfl)] at hc; cases hc
   · simp only [e, if_false, Option.isSome_none, Bool.false_eq_true]; split at hc
     · cases hc
     · show w'.heap[c]? = _; rw [ho c e]; exact hc
theorem Holds.new {w w' : World} {L : List HProp} (H : Holds w L) {b : Nat} {o : Obj} (hn : w.heap[b]? = none) (hb : w'.heap[b]? = some o) (ho : ∀ c, c ≠ b → w'.heap[c]? = w.heap[c]?) :
   Holds w' (blkO b o :: L) := by
 refine ⟨fun c => if c = b then some o else none, by simp [blkO], fun c x hc => ?_, Sat.mono H fun c x hc => ?_⟩
 · by_cases e : c = b
   · subst e; simp at hc; subst hc; exact hb
   · simp [e] at hc
 · unfold Hp.minus
   by_cases e : c = b
   · subst e; rw [show hp w c = none from hn] at hc; cases hc
   · simp only [e, if_false, Option.isSome_none, Bool.false_eq_true]; show w'.heap[c]? = _; rw [ho c e]; exact hc
theorem Holds.same {w w' : World} {L : List HProp} (H : Holds w L) (h : w'.heap = w.heap) : Holds w' L := by
 unfold Holds hp at *; rw [h]; exact H
theorem Holds.cell {w : World} {L : List HProp} (H : Holds w L) (i : Nat) {b : Nat} {t : TypeId} {cs : List Value} (hi : L[i]? = some (blk b t cs)) (o : Nat) : w.cell? ⟨b, o, none⟩ = cs[o]? := by
 have := H.obj i hi; simp [World.cell?, this]
theorem Holds.frozen {w : World} {L : List HProp} (H : Holds w L) (i : Nat) {b : Nat} {t : TypeId} {cs : List Value} (hi : L[i]? = some (blk b t cs)) (o : Nat) : w.frozen? ⟨b, o, none⟩ = false := by
 have := H.obj i hi; simp [World.frozen?, this]
theorem Holds.set {w : World} {L : List HProp} (H : Holds w L) (i : Nat) {b : Nat} {t : TypeId} {cs : List Value} (hi : L[i]? = some (blk b t cs)) (o : Nat) (v : Value) :
   Holds (w.setCell ⟨b, o, none⟩ v) (L.set i (blk b t (cs.set o v))) := by
 have h := H.obj i hi; refine H.upd i hi ?_ fun c hc => ?_
 · simp [World.setCell, Array.getElem?_modify, h]
 · simp only [World.setCell, Array.getElem?_modify]; rw [if_neg (by simpa using fun h => hc h.symm)]
theorem Same.setCell (w : World) (a : Addr) (v : Value) : Same w (w.setCell a v) := ⟨rfl, rfl, rfl, by simp [World.setCell]⟩
theorem Same.drew (w : World) : Same w w.drew := ⟨rfl, rfl, rfl, Nat.le_refl _⟩
theorem Same.alloc (w : World) (o : Obj) : Same w (w.alloc o) := ⟨rfl, rfl, rfl, by simp⟩
theorem Holds.alloc {w : World} {L : List HProp} (H : Holds w L) (o : Obj) : Holds (w.alloc o) (blkO w.heap.size o :: L) := by
 refine H.new (by simp) ?_ fun c hc => ?_
 · show (w.heap.push o)[w.heap.size]? = _; simp
 · show (w.heap.push o)[c]? = _; rw [Array.getElem?_push, if_neg (by omega)]
def whole (w : World) : HProp := fun h => ∀ b o, w.heap[b]? = some o → h b = some o
theorem holds_whole (w : World) : Holds w [whole w] := ⟨hp w, fun b o h => h, fun b o h => h, trivial⟩
theorem below_whole {w w' : World} (S : Same w w') {L : List HProp} (H : Holds w' (whole w :: L)) : RowKit.Below w.heap.size w w' := by
 refine ⟨S.os, S.tape, S.output, S.size, fun k hk => ?_⟩; obtain ⟨g, hg, hs, _⟩ := H; have h1 : w.heap[k]? = some w.heap[k] := Array.getElem?_eq_getElem hk; rw [h1]; exact hs k _ (hg k _ h1)
theorem calls_of_law {P : Program} {f : FuncId} {args : Array Value} {w : World} (h : ∀ K : Value → World → Prop, (∀ w', Same w w' → Holds w' [whole w] → K (.bool true) w') → Cl P f args w K) :
   Calls P f args w fun e w' => e = .returned (.bool true) ∧ RowKit.Below w.heap.size w w' :=
 (h (fun v w' => v = .bool true ∧ RowKit.Below w.heap.size w w') fun w' S H => ⟨rfl, below_whole S H⟩).2.mono fun e w' ⟨v, he, hv, hb⟩ => ⟨by rw [he, hv], hb⟩
section
variable {P : Program} {w : World} {L : List HProp}
theorem r_nc {a : Addr} {A : Prop} (h : A) : Nc (.pointer (some a)) A := ⟨⟨a, rfl⟩, h⟩
theorem r_fo {off b o : Nat} {K : Value → Prop} (h : K (.pointer (some ⟨b, o + off, none⟩))) : Fo off (.pointer (some ⟨b, o, none⟩)) K := by
 refine ⟨_, rfl, ?_⟩; unfold Addr.add; split
 · rename_i h0; subst h0; exact h
 · exact h
theorem r_fo0 {off b : Nat} {K : Value → Prop} (h : K (.pointer (some ⟨b, off, none⟩))) : Fo off (.pointer (some ⟨b, 0, none⟩)) K := r_fo (by rw [Nat.zero_add]; exact h)
theorem r_ld (i : Nat) (H : Holds w L) {b o : Nat} {t : TypeId} {cs : List Value} {v : Value} {K : Value → Prop} (hi : L[i]? = some (blk b t cs)) (hc : cs[o]? = some v) (h : K v) :
   Ld (.pointer (some ⟨b, o, none⟩)) w K := ⟨_, v, rfl, (H.cell i hi o).trans hc, h⟩
theorem r_st (i : Nat) (H : Holds w L) {b o : Nat} {t : TypeId} {cs : List Value} {v : Value} {K : World → Prop} (hi : L[i]? = some (blk b t cs)) (ho : o < cs.length) (hs : sg v = true)
   (h : ∀ w', Same w w' → Holds w' (L.set i (blk b t (cs.set o v))) → K w') : St (.pointer (some ⟨b, o, none⟩)) v w K :=
 ⟨_, cs[o], rfl, (H.cell i hi o).trans (by simp [ho]), H.frozen i hi o, hs, h _ (.setCell _ _ _) (H.set i hi o v)⟩
theorem r_new {z : Value} {t : TypeId} (H : Holds w L) {K : Value → World → Prop} (h : ∀ b w', Same w w' → Holds w' (blk b t z.cells.toList :: L) → K (.pointer (some ⟨b, 0, none⟩)) w') : New z t w K :=
 h _ _ (.alloc _ _) (H.alloc _)
theorem r_dr (H : Holds w L) {K : World → Prop} (h : ∀ w', Same w w' → Holds w' L → K w') : Dr w K := h _ (.drew _) (H.same rfl)
theorem r_vif {b : Bool} {A B : Prop} (h1 : b = true → A) (h2 : b = false → B) : Vif (.bool b) A B := by
 cases b
 · exact h2 rfl
 · exact h1 rfl
theorem r_join0 {rest : (Nat → Value) → Cur 0} {br : Cur 0 → Prop} (J : World → Prop) (hJ : ∀ jb w, J w → rest jb w) (h : br J) : VJoin 0 rest br := ⟨J, fun jb w hw => hJ jb w hw, h⟩
theorem r_join1 {rest : (Nat → Value) → Cur 1} {br : Cur 1 → Prop} (J : Value → World → Prop) (hJ : ∀ jb x w, J x w → rest jb x w) (h : br J) : VJoin 1 rest br := ⟨J, fun jb x w hw => hJ jb x w hw, h⟩
theorem r_join2 {rest : (Nat → Value) → Cur 2} {br : Cur 2 → Prop} (J : Value → Value → World → Prop) (hJ : ∀ jb x y w, J x y w → rest jb x y w) (h : br J) : VJoin 2 rest br := ⟨J, fun jb x y w hw => hJ jb x y w hw, h⟩
theorem r_ke {a : List Value} {X : Prop} (h : X) : KE a a X := ⟨rfl, h⟩
theorem r_loop0 {w : World} {body : (Nat → Value) → Cur 0 → Cur 0} (I : World → Prop) (μ : World → Nat) (h0 : I w)
   (h : ∀ jb w, I w → body jb (fun w' => I w' ∧ μ w' < μ w) w) : VLoop 0 [] w body :=
 ⟨fun _ w => I w, fun _ w => μ w, h0, fun jb us u hl hI => match us, hl with | [], _ => h jb u hI⟩
theorem r_loop1 {w : World} {a : Value} {body : (Nat → Value) → Cur 1 → Cur 1} (I : Value → World → Prop) (μ : Value → World → Nat) (h0 : I a w)
   (h : ∀ jb x w, I x w → body jb (fun x' w' => I x' w' ∧ μ x' w' < μ x w) x w) : VLoop 1 [a] w body :=
 ⟨fun l w => match l with | [x] => I x w | _ => False, fun l w => match l with | [x] => μ x w | _ => 0, h0, fun jb us u hl hI => match us, hl with | [x], _ => h jb x u hI⟩
theorem r_loop2 {w : World} {a b : Value} {body : (Nat → Value) → Cur 2 → Cur 2} (I : Value → Value → World → Prop) (μ : Value → Value → World → Nat) (h0 : I a b w)
   (h : ∀ jb x y w, I x y w → body jb (fun x' y' w' => I x' y' w' ∧ μ x' y' w' < μ x y w) x y w) : VLoop 2 [a, b] w body :=
 ⟨fun l w => match l with | [x, y] => I x y w | _ => False, fun l w => match l with | [x, y] => μ x y w | _ => 0, h0, fun jb us u hl hI => match us, hl with | [x, y], _ => h jb x y u hI⟩
theorem r_loop3 {w : World} {a b c : Value} {body : (Nat → Value) → Cur 3 → Cur 3} (I : Value → Value → Value → World → Prop) (μ : Value → Value → Value → World → Nat) (h0 : I a b c w)
   (h : ∀ jb x y z w, I x y z w → body jb (fun x' y' z' w' => I x' y' z' w' ∧ μ x' y' z' w' < μ x y z w) x y z w) : VLoop 3 [a, b, c] w body :=
 ⟨fun l w => match l with | [x, y, z] => I x y z w | _ => False, fun l w => match l with | [x, y, z] => μ x y z w | _ => 0, h0, fun jb us u hl hI => match us, hl with | [x, y, z], _ => h jb x y z u hI⟩
theorem wrap64 {n : Int} (h1 : -9223372036854775808 ≤ n) (h2 : n ≤ 9223372036854775807) : IntKind.i64.wrap n = n := IntWalk.i64_in n ⟨h1, h2⟩
theorem r_add {a b : Int} {K : Value → Prop} (h1 : -9223372036854775808 ≤ a + b) (h2 : a + b ≤ 9223372036854775807) (h : K (.int .i64 (a + b))) : Bp .add (.int .i64 a) (.int .i64 b) K :=
 ⟨.int .i64 (a + b), by simp only [bp, if_true]; rw [wrap64 h1 h2], h⟩
theorem r_sub {a b : Int} {K : Value → Prop} (h1 : -9223372036854775808 ≤ a - b) (h2 : a - b ≤ 9223372036854775807) (h : K (.int .i64 (a - b))) : Bp .sub (.int .i64 a) (.int .i64 b) K :=
 ⟨.int .i64 (a - b), by simp only [bp, if_true]; rw [wrap64 h1 h2], h⟩
theorem r_mul {a b : Int} {K : Value → Prop} (h1 : -9223372036854775808 ≤ a * b) (h2 : a * b ≤ 9223372036854775807) (h : K (.int .i64 (a * b))) : Bp .mul (.int .i64 a) (.int .i64 b) K :=
 ⟨.int .i64 (a * b), by simp only [bp, if_true]; rw [wrap64 h1 h2], h⟩
theorem r_quo {a b : Int} {K : Value → Prop} (h0 : 0 ≤ a) (hb : 0 < b) (h2 : a ≤ 9223372036854775807) (h : K (.int .i64 (a / b))) : Bp .quo (.int .i64 a) (.int .i64 b) K := by
 refine ⟨.int .i64 (a / b), ?_, h⟩; have e : a.tdiv b = a / b := Int.tdiv_eq_ediv_of_nonneg h0; have h3 : 0 ≤ a / b := Int.ediv_nonneg h0 (by omega); have h4 : a / b ≤ a := Int.ediv_le_self b h0; show (if IntKind.i64 = IntKind.i64 ∧ b ≠ 0 then some (Value.int .i64 (IntKind.i64.wrap (a.tdiv b))) else none) = _; rw [if_pos ⟨rfl, by omega⟩, e, wrap64 (by omega) (by omega)]
theorem r_quoE {a b q : Int} {K : Value → Prop} (hq : a.tdiv b = q) (hb : b ≠ 0) (h1 : -9223372036854775808 ≤ q) (h2 : q ≤ 9223372036854775807) (h : K (.int .i64 q)) : Bp .quo (.int .i64 a) (.int .i64 b) K := by
 refine ⟨.int .i64 q, ?_, h⟩; show (if IntKind.i64 = IntKind.i64 ∧ b ≠ 0 then some (Value.int .i64 (IntKind.i64.wrap (a.tdiv b))) else none) = _; rw [if_pos ⟨rfl, hb⟩, hq, wrap64 h1 h2]
theorem r_remE {a b r : Int} {K : Value → Prop} (hr : a.tmod b = r) (hb : b ≠ 0) (h : K (.int .i64 r)) : Bp .rem (.int .i64 a) (.int .i64 b) K := by
 refine ⟨.int .i64 r, ?_, h⟩; show (if IntKind.i64 = IntKind.i64 ∧ b ≠ 0 then some (Value.int .i64 (a.tmod b)) else none) = _; rw [if_pos ⟨rfl, hb⟩, hr]
theorem r_bp {op : BinOp} {x y v : Value} {K : Value → Prop} (hb : bp op x y = some v) (h : K v) : Bp op x y K := ⟨v, hb, h⟩
theorem r_eql {k : IntKind} {a b : Int} {K : Value → Prop} (h : K (.bool (a == b))) : Bp .eql (.int k a) (.int k b) K := ⟨.bool (a == b), by simp only [bp, if_true], h⟩
theorem r_neq {k : IntKind} {a b : Int} {K : Value → Prop} (h : K (.bool (a != b))) : Bp .neq (.int k a) (.int k b) K := ⟨.bool (a != b), by simp only [bp, if_true], h⟩
theorem r_lss {k : IntKind} {a b : Int} {K : Value → Prop} (h : K (.bool (decide (a < b)))) : Bp .lss (.int k a) (.int k b) K := ⟨.bool (decide (a < b)), by simp only [bp, if_true], h⟩
theorem r_leq {k : IntKind} {a b : Int} {K : Value → Prop} (h : K (.bool (decide (a ≤ b)))) : Bp .leq (.int k a) (.int k b) K := ⟨.bool (decide (a ≤ b)), by simp only [bp, if_true], h⟩
theorem r_gtr {k : IntKind} {a b : Int} {K : Value → Prop} (h : K (.bool (decide (b < a)))) : Bp .gtr (.int k a) (.int k b) K := ⟨.bool (decide (b < a)), by simp only [bp, if_true, gt_iff_lt, ge_iff_le], h⟩
theorem r_geq {k : IntKind} {a b : Int} {K : Value → Prop} (h : K (.bool (decide (b ≤ a)))) : Bp .geq (.int k a) (.int k b) K := ⟨.bool (decide (b ≤ a)), by simp only [bp, if_true, gt_iff_lt, ge_iff_le], h⟩
theorem ba_ext {a b : ByteArray} (h : a.data.toList = b.data.toList) : a = b := by
 obtain ⟨⟨a⟩⟩ := a; obtain ⟨⟨b⟩⟩ := b; simp at h; rw [h]
theorem seq_eq (a b : ByteArray) : (a.toList == b.toList) = decide (a = b) := by
 rw [Bool.eq_iff_iff, beq_iff_eq, decide_eq_true_iff, ByteArray.toList_eq, ByteArray.toList_eq]; exact ⟨ba_ext, fun h => by rw [h]⟩
theorem ba_nil (a : ByteArray) : a = ⟨#[]⟩ ↔ a.size = 0 := by
 constructor
 · rintro rfl; rfl
 · intro h; apply ba_ext
   have : a.data.toList.length = 0 := by simpa using h
   rw [List.eq_nil_of_length_eq_zero this]
theorem r_seq0 {a : ByteArray} {K : Value → Prop} (h : K (.bool (decide (a.size = 0)))) : Bp .eql (.string a) (.string ⟨#[]⟩) K :=
 ⟨_, rfl, by rw [seq_eq, show decide (a = ⟨#[]⟩) = decide (a.size = 0) from by rw [Bool.eq_iff_iff, decide_eq_true_iff, decide_eq_true_iff, ba_nil]]; exact h⟩
theorem r_sne0 {a : ByteArray} {K : Value → Prop} (h : K (.bool (decide (¬ a.size = 0)))) : Bp .neq (.string a) (.string ⟨#[]⟩) K :=
 ⟨_, rfl, by rw [seq_eq, show (!decide (a = ⟨#[]⟩)) = decide (¬ a.size = 0) from by rw [Bool.eq_iff_iff, Bool.not_eq_true', decide_eq_false_iff_not, decide_eq_true_iff, ba_nil]]; exact h⟩
theorem r_seq {a b : ByteArray} {K : Value → Prop} (h : K (.bool (decide (a = b)))) : Bp .eql (.string a) (.string b) K := ⟨_, rfl, by rw [seq_eq]; exact h⟩
theorem r_cat {a b : ByteArray} {K : Value → Prop} (hs : a.size + b.size ≤ 9223372036854775807) (h : K (.string (a ++ b))) : Bp .add (.string a) (.string b) K := by
 refine ⟨.string (a ++ b), ?_, h⟩; simp only [bp]; rw [if_neg (by show ¬ _ > (9223372036854775807 : Int); omega)]
theorem r_not {b : Bool} {K : Value → Prop} (h : K (.bool !b)) : Up .not (.bool b) K := ⟨_, rfl, h⟩
theorem r_bnS {e : TypeId} {neg : Bool} {a : Addr} {K : Value → Prop} (h : K (.bool neg)) : Bn P e neg (.pointer (some a)) (.pointer none) K :=
 .inl ⟨false, rfl, by cases neg <;> exact h⟩
theorem r_vt {A B : Prop} (h : A) : Vif (.bool true) A B := h
theorem r_vf {A B : Prop} (h : B) : Vif (.bool false) A B := h
theorem r_vtd {c : Bool} {A B : Prop} (hc : c = true) (h : A) : Vif (.bool c) A B := by subst hc; exact h
theorem r_vfd {c : Bool} {A B : Prop} (hc : c = false) (h : B) : Vif (.bool c) A B := by subst hc; exact h
theorem r_vtD {p : Prop} [Decidable p] {A B : Prop} (hc : p) (h : A) : Vif (.bool (decide p)) A B := r_vtd (decide_eq_true hc) h
theorem r_vfD {p : Prop} [Decidable p] {A B : Prop} (hc : ¬ p) (h : B) : Vif (.bool (decide p)) A B := r_vfd (decide_eq_false hc) h
theorem r_vtE {a b : Int} {A B : Prop} (hc : a = b) (h : A) : Vif (.bool (a == b)) A B := r_vtd (beq_iff_eq.2 hc) h
theorem r_vfE {a b : Int} {A B : Prop} (hc : ¬ a = b) (h : B) : Vif (.bool (a == b)) A B := r_vfd (beq_eq_false_iff_ne.2 hc) h
theorem r_vfN {a b : Int} {A B : Prop} (hc : a = b) (h : B) : Vif (.bool (a != b)) A B := r_vfd (by subst hc; simp) h
theorem r_ifD {p : Prop} [Decidable p] {A B : Prop} (h1 : p → A) (h2 : ¬ p → B) : Vif (.bool (decide p)) A B := r_vif (fun h => h1 (of_decide_eq_true h)) fun h => h2 (of_decide_eq_false h)
theorem r_ifE {a b : Int} {A B : Prop} (h1 : a = b → A) (h2 : ¬ a = b → B) : Vif (.bool (a == b)) A B := r_vif (fun h => h1 (beq_iff_eq.1 h)) fun h => h2 (beq_eq_false_iff_ne.1 h)
theorem r_ifN {a b : Int} {A B : Prop} (h1 : ¬ a = b → A) (h2 : a = b → B) : Vif (.bool (a != b)) A B := r_vif (fun h => h1 (bne_iff_ne.1 h)) fun h => h2 (by simpa using h)
theorem r_bb {neg a b : Bool} {K : Value → Prop} (h : K (.bool (if neg then !(a == b) else a == b))) : Bb neg (.bool a) (.bool b) K := ⟨a, b, rfl, rfl, h⟩
theorem r_lns {s : ByteArray} {K : Value → Prop} (h : K (.int .i64 (s.size : Int))) : Lns (.string s) K := ⟨s, rfl, h⟩
theorem r_lnl {a : Option Addr} {l c : Nat} {K : Value → Prop} (h : K (.int .i64 (l : Int))) : Lnl (.slice a l c) K := ⟨a, l, c, rfl, h⟩
theorem r_ixs {s : ByteArray} {k : IntKind} {n : Int} {K : Value → Prop} (h0 : 0 ≤ n) (h1 : n < (s.size : Int)) (h : K (.int .u8 ((s.data.toList.getD n.toNat 0).toNat : Int))) : Ixs (.string s) (.int k n) K :=
 ⟨s, k, n, rfl, rfl, h0, h1, h⟩
theorem r_iaa {len size b o : Nat} {k : IntKind} {n : Int} {K : Value → Prop} (h0 : 0 ≤ n) (h1 : n < (len : Int)) (h : K (.pointer (some ⟨b, o + n.toNat * size, none⟩))) :
   Iaa len size (.pointer (some ⟨b, o, none⟩)) (.int k n) K := by
 refine ⟨_, k, n, rfl, rfl, h0, h1, ?_⟩; unfold Addr.add; split
 · rename_i e; rw [e] at h; exact h
 · exact h
theorem r_ias {size b o l c : Nat} {k : IntKind} {n : Int} {K : Value → Prop} (h0 : 0 ≤ n) (h1 : n < (l : Int)) (h : K (.pointer (some ⟨b, o + n.toNat * size, none⟩))) :
   Ias size (.slice (some ⟨b, o, none⟩) l c) (.int k n) K := by
 refine ⟨_, l, c, k, n, rfl, rfl, h0, h1, ?_⟩; unfold Addr.add; split
 · rename_i e; rw [e] at h; exact h
 · exact h
theorem r_ex {vs : Array Value} {i : Nat} {v : Value} {K : Value → Prop} (hv : vs[i]? = some v) (h : K v) : Ex (.tuple vs) i K := ⟨vs, v, rfl, hv, h⟩
theorem r_bnST {a : Addr} {e : TypeId} {K : Value → Prop} (h : K (.bool true)) : Bn P e true (.pointer (some a)) (.pointer none) K := r_bnS h
theorem r_bnSF {a : Addr} {e : TypeId} {K : Value → Prop} (h : K (.bool false)) : Bn P e false (.pointer (some a)) (.pointer none) K := r_bnS h
theorem r_notT {K : Value → Prop} (h : K (.bool false)) : Up .not (.bool true) K := r_not h
theorem r_notF {K : Value → Prop} (h : K (.bool true)) : Up .not (.bool false) K := r_not h
theorem r_ex20 {a b : Value} {K : Value → Prop} (h : K a) : Ex (.tuple #[a, b]) 0 K := r_ex rfl h
theorem r_ex21 {a b : Value} {K : Value → Prop} (h : K b) : Ex (.tuple #[a, b]) 1 K := r_ex rfl h
theorem r_ex30 {a b c : Value} {K : Value → Prop} (h : K a) : Ex (.tuple #[a, b, c]) 0 K := r_ex rfl h
theorem r_ex31 {a b c : Value} {K : Value → Prop} (h : K b) : Ex (.tuple #[a, b, c]) 1 K := r_ex rfl h
theorem r_ex32 {a b c : Value} {K : Value → Prop} (h : K c) : Ex (.tuple #[a, b, c]) 2 K := r_ex rfl h
theorem r_ci {k k' : IntKind} {n : Int} {K : Value → Prop} (h : K (.int k (k.wrap n))) : Ci k (.int k' n) K := ⟨k', n, rfl, h⟩
theorem r_remK {k : IntKind} {a b : Int} {K : Value → Prop} (h0 : 0 ≤ a) (hb : 0 < b) (h : K (.int k (a % b))) : Bp .rem (.int k a) (.int k b) K := by
 refine ⟨.int k (a % b), ?_, h⟩; have e : a.tmod b = a % b := Int.tmod_eq_emod_of_nonneg h0; show (if k = k ∧ b ≠ 0 then some (Value.int k (a.tmod b)) else none) = _; rw [if_pos ⟨rfl, by omega⟩, e]
theorem r_ci64 {k' : IntKind} {n : Int} {K : Value → Prop} (h1 : -9223372036854775808 ≤ n) (h2 : n ≤ 9223372036854775807) (h : K (.int .i64 n)) : Ci .i64 (.int k' n) K :=
 ⟨k', n, rfl, by rw [wrap64 h1 h2]; exact h⟩
theorem r_ciu8 {k' : IntKind} {n : Int} {K : Value → Prop} (h1 : 0 ≤ n) (h2 : n ≤ 255) (h : K (.int .u8 n)) : Ci .u8 (.int k' n) K :=
 ⟨k', n, rfl, by rw [show IntKind.u8.wrap n = n from by show n % 256 = n; omega]; exact h⟩
theorem r_ciu32 {k' : IntKind} {n : Int} {K : Value → Prop} (h1 : 0 ≤ n) (h2 : n ≤ 4294967295) (h : K (.int .u32 n)) : Ci .u32 (.int k' n) K :=
 ⟨k', n, rfl, by rw [show IntKind.u32.wrap n = n from by show n % 4294967296 = n; omega]; exact h⟩
theorem r_sst {s : ByteArray} {lo hi : Option Value} {l h : Nat} {K : Value → Prop} (hl : bnd lo 0 l) (hh : bnd hi s.size h) (h1 : l ≤ h) (h2 : h ≤ s.size) (hk : K (.string (s.extract l h))) : Sst (.string s) lo hi K :=
 ⟨s, l, h, rfl, hl, hh, h1, h2, hk⟩
theorem r_ldA (i : Nat) (H : Holds w L) {n b o : Nat} {t : TypeId} {cs : List Value} {K : Value → Prop} (sub : List Value) (hi : L[i]? = some (blk b t cs)) (hs : (cs.drop o).take n = sub) (hn : sub.length = n)
   (h : K (.agg sub.toArray)) : LdA n (.pointer (some ⟨b, o, none⟩)) w K := by
 refine ⟨_, sub.toArray, rfl, by simpa using hn, fun j v hv => ?_, h⟩
 have e1 : (⟨b, o, none⟩ : Addr).add j = ⟨b, o + j, none⟩ := by
   unfold Addr.add; split
   · rename_i h; rw [h]; rfl
   · rfl
 rw [e1, H.cell i hi]
 have hv' : sub[j]? = some v := by simpa using hv
 have hj : j < n := by rw [← hn]; exact (List.getElem?_eq_some_iff.1 hv').1
 rw [← hv', ← hs, List.getElem?_take_of_lt hj, List.getElem?_drop]
theorem r_ixa1 {len : Nat} {sub : List Value} {k : IntKind} {n : Int} {K : Value → Prop} (v : Value) (h0 : 0 ≤ n) (h1 : n < (len : Int)) (hv : sub[n.toNat]? = some v) (h : K v) : Ixa len 1 false (.agg sub.toArray) (.int k n) K :=
 ⟨_, k, n, rfl, rfl, h0, h1, v, by simpa using hv, h⟩
theorem r_ixsN {s : ByteArray} {k : IntKind} {m : Nat} {K : Value → Prop} (h1 : m < s.size) (h : K (.int .u8 ((s.data.toList.getD m 0).toNat : Int))) : Ixs (.string s) (.int k (m : Int)) K :=
 r_ixs (by omega) (by omega) (by rw [Int.toNat_natCast]; exact h)
theorem r_iaaN {len b o m : Nat} {k : IntKind} {K : Value → Prop} (h1 : m < len) (h : K (.pointer (some ⟨b, o + m, none⟩))) : Iaa len 1 (.pointer (some ⟨b, o, none⟩)) (.int k (m : Int)) K :=
 r_iaa (by omega) (by omega) (by rw [Int.toNat_natCast, Nat.mul_one]; exact h)
theorem r_add1N {a : Nat} {K : Value → Prop} (h2 : a < 9223372036854775807) (h : K (.int .i64 ((a + 1 : Nat) : Int))) : Bp .add (.int .i64 (a : Int)) (.int .i64 1) K := r_add (by omega) (by omega) h
theorem r_sub1N {a : Nat} {K : Value → Prop} (h2 : 1 ≤ a) (h3 : a < 9223372036854775807) (h : K (.int .i64 ((a - 1 : Nat) : Int))) : Bp .sub (.int .i64 (a : Int)) (.int .i64 1) K :=
 r_sub (by omega) (by omega) (by rw [show (a : Int) - 1 = ((a - 1 : Nat) : Int) by omega]; exact h)
theorem r_addN {a b : Nat} {K : Value → Prop} (h2 : a + b < 9223372036854775807) (h : K (.int .i64 ((a + b : Nat) : Int))) : Bp .add (.int .i64 (a : Int)) (.int .i64 (b : Int)) K := r_add (by omega) (by omega) h
theorem r_bd {t : TypeId} {ps : Array (Nat × Value)} {v : Value} {K : Value → Prop} (h : (Instr.build t ps).run P w = .ok v w) (k : K v) : Bd P t ps w K := ⟨v, h, k⟩
theorem r_be {op : BinOp} {t : TypeId} {X Y : Operand} {x y v : Value} {K : Value → Prop} (h : (do eqGuard op t X Y x y; binOp op t x y).run P w = .ok v w) (k : K v) : Be P op t X Y x y w K := ⟨v, h, k⟩
theorem r_min {ats : Array TypeId} {t : TypeId} {k : IntKind} {a b : Int} {K : Value → Prop} (h : K (.int k (min a b))) : Bmin P ats t #[.int k a, .int k b] w K := by
 refine ⟨.int k (if b < a then b else a), by simp [Builtin.min_, Builtin.min2, Sem.run_pure, List.foldlM], ?_⟩
 have : (if b < a then b else a) = min a b := by split <;> omega
 rw [this]; exact h
theorem r_max {ats : Array TypeId} {t : TypeId} {k : IntKind} {a b : Int} {K : Value → Prop} (h : K (.int k (max a b))) : Bmax P ats t #[.int k a, .int k b] w K := by
 refine ⟨.int k (if b > a then b else a), by simp [Builtin.max_, Builtin.max2, Sem.run_pure, List.foldlM], ?_⟩
 have : (if b > a then b else a) = max a b := by split <;> omega
 rw [this]; exact h
theorem r_rk {N : Node} {v : Value} {A : Prop} (h : N w fun u => u = v) (hA : A) : Rk N v w A := ⟨h, hA⟩
theorem r_cl {f : FuncId} {args : Array Value} {K K' : Value → World → Prop} (h : Cl P f args w K) (hk : ∀ v w', K v w' → K' v w') : Cl P f args w K' :=
 ⟨h.1, h.2.mono fun e w' ⟨v, he, hv⟩ => ⟨v, he, hk v w' hv⟩⟩
end
end Go.Vc
namespace Go.Vc
abbrev iv (n : Int) : Value := .int .i64 n
abbrev nv (n : Nat) : Value := .int .i64 (n : Int)
abbrev bv (c : UInt8) : Value := .int .u8 (c.toNat : Int)
abbrev uv (n : Nat) : Value := .int .u32 (n : Int)
abbrev stv (s : ByteArray) : Value := .string s
theorem Sat.at : ∀ {L : List HProp} {h : Hp} (i : Nat) {P Q : HProp}, Sat L h → L[i]? = some P → (∀ g, P g → Q g) → Sat (L.set i Q) h := by
 intro L h i P Q H hi hpq; exact Sat.push i hi ((H.pull i hi).imp hpq)
theorem Holds.at {w : World} {L : List HProp} (H : Holds w L) (i : Nat) {P Q : HProp} (hi : L[i]? = some P) (hpq : ∀ g, P g → Q g) : Holds w (L.set i Q) := Sat.at i H hi hpq
theorem Holds.atEx {α : Type} {w : World} {L : List HProp} (H : Holds w L) (i : Nat) {P : HProp} {Q : α → HProp} (hi : L[i]? = some P) (hpq : ∀ g, P g → ∃ x, Q x g) : ∃ x, Holds w (L.set i (Q x)) := by
 obtain ⟨g, hg, hs, hL⟩ := H.front i hi; obtain ⟨x, hx⟩ := hpq g hg; exact ⟨x, Sat.push i hi ⟨g, hx, hs, hL⟩⟩
theorem Holds.atPure {p : Prop} {w : World} {L : List HProp} (H : Holds w L) (i : Nat) {P Q : HProp} (hi : L[i]? = some P) (hpq : ∀ g, P g → p ∧ Q g) : p ∧ Holds w (L.set i Q) := by
 obtain ⟨g, hg, hs, hL⟩ := H.front i hi; exact ⟨(hpq g hg).1, Sat.push i hi ⟨g, (hpq g hg).2, hs, hL⟩⟩
section
variable {α : Type}
def slb (f : α → Value) (e : TypeId) (oa : Option Addr) (xs : List α) (sp : List Value) : HProp :=
 match oa with
 | none => pur (xs = [] ∧ sp = [])
 | some a => fun h => a.off = 0 ∧ a.spot = none ∧ blk a.block e (xs.map f ++ sp) h
def SL (f : α → Value) (e : TypeId) (v : Value) (xs : List α) : HProp := fun h => ∃ oa sp, v = .slice oa xs.length (xs.length + sp.length) ∧ slb f e oa xs sp h
theorem Holds.open {w : World} {L : List HProp} (H : Holds w L) (i : Nat) {f : α → Value} {e : TypeId} {v : Value} {xs : List α} (hi : L[i]? = some (SL f e v xs)) :
   ∃ oa sp, v = .slice oa xs.length (xs.length + sp.length) ∧ Holds w (L.set i (slb f e oa xs sp)) := by
 obtain ⟨g, ⟨oa, sp, hv, hg⟩, hs, hL⟩ := H.front i hi; exact ⟨oa, sp, hv, Sat.push i hi ⟨g, hg, hs, hL⟩⟩
theorem Holds.close {w : World} {L : List HProp} (H : Holds w L) (i : Nat) {f : α → Value} {e : TypeId} {oa : Option Addr} {xs : List α} {sp : List Value} (hi : L[i]? = some (slb f e oa xs sp)) :
   Holds w (L.set i (SL f e (.slice oa xs.length (xs.length + sp.length)) xs)) := H.at i hi fun g hg => ⟨oa, sp, rfl, hg⟩
theorem SL_nil (f : α → Value) (e : TypeId) (h : Hp) : SL f e (.slice none 0 0) [] h := ⟨none, [], rfl, rfl, rfl⟩
theorem Holds.nilSL {w : World} {L : List HProp} (H : Holds w L) (f : α → Value) (e : TypeId) : Holds w (SL f e (.slice none 0 0) [] :: L) :=
 ⟨fun _ => none, SL_nil f e _, (fun b o h => by cases h), by
   have h0 : (hp w).minus (fun _ => none) = hp w := by funext b; simp [Hp.minus]
   rw [h0]; exact H⟩
theorem Holds.slb {w : World} {L : List HProp} (H : Holds w L) (i : Nat) {f : α → Value} {e : TypeId} {b : Nat} {xs : List α} {sp : List Value} (hi : L[i]? = some (slb f e (some ⟨b, 0, none⟩) xs sp)) :
   Holds w (L.set i (blk b e (xs.map f ++ sp))) := H.at i hi fun g hg => hg.2.2
theorem Holds.slb' {w : World} {L : List HProp} (H : Holds w L) (i : Nat) {f : α → Value} {e : TypeId} {b : Nat} {xs : List α} {sp : List Value} (hi : L[i]? = some (blk b e (xs.map f ++ sp))) :
   Holds w (L.set i (Vc.slb f e (some ⟨b, 0, none⟩) xs sp)) := H.at i hi fun g hg => ⟨rfl, rfl, hg⟩
theorem set_get {L : List HProp} {i : Nat} {P Q : HProp} (hi : L[i]? = some P) : (L.set i Q)[i]? = some Q := by
 have : i < L.length := (List.getElem?_eq_some_iff.1 hi).1; simp [this]
theorem r_ias1 (i : Nat) {w : World} {L : List HProp} (H : Holds w L) {f : α → Value} {e : TypeId} {oa : Option Addr} {xs : List α} {sp : List Value} {l c : Nat} {k : IntKind} {n : Int} {K : Value → Prop}
   (hi : L[i]? = some (Vc.slb f e oa xs sp)) (h0 : 0 ≤ n) (h1 : n < (l : Int)) (hl : l ≤ xs.length) (h : ∀ b, oa = some ⟨b, 0, none⟩ → K (.pointer (some ⟨b, n.toNat, none⟩))) : Ias 1 (.slice oa l c) (.int k n) K := by
 cases oa with
 | none =>
   obtain ⟨g, ⟨h2, _⟩, _⟩ := H.front i hi; subst h2; simp at hl; omega
 | some a =>
   obtain ⟨g, ⟨h2, h3, _⟩, _⟩ := H.front i hi; obtain ⟨b, o, s⟩ := a; simp only at h2 h3; subst h2; subst h3; refine r_ias h0 h1 ?_; simpa using h b rfl
theorem r_iasN (i : Nat) {w : World} {L : List HProp} (H : Holds w L) {f : α → Value} {e : TypeId} {oa : Option Addr} {xs : List α} {sp : List Value} {l c : Nat} {k : IntKind} {m : Nat} {K : Value → Prop}
   (hi : L[i]? = some (Vc.slb f e oa xs sp)) (h1 : m < l) (hl : l ≤ xs.length) (h : ∀ b, oa = some ⟨b, 0, none⟩ → K (.pointer (some ⟨b, m, none⟩))) : Ias 1 (.slice oa l c) (.int k (m : Int)) K :=
 r_ias1 i H hi (by omega) (by omega) hl (by rw [Int.toNat_natCast]; exact h)
theorem r_ldsl (i : Nat) {w : World} {L : List HProp} (H : Holds w L) {f : α → Value} {e : TypeId} {b o : Nat} {xs : List α} {sp : List Value} {x : α} {K : Value → Prop}
   (hi : L[i]? = some (Vc.slb f e (some ⟨b, 0, none⟩) xs sp)) (hx : xs[o]? = some x) (h : K (f x)) : Ld (.pointer (some ⟨b, o, none⟩)) w K := by
 have hlt : o < xs.length := (List.getElem?_eq_some_iff.1 hx).1; refine r_ld i (H.slb i hi) (set_get hi) (v := f x) ?_ h; rw [List.getElem?_append_left (by simpa using hlt), List.getElem?_map, hx]; rfl
theorem r_stsl (i : Nat) {w : World} {L : List HProp} (H : Holds w L) {f : α → Value} {e : TypeId} {b o : Nat} {xs : List α} {sp : List Value} {v : Value} {K : World → Prop} (x : α)
   (hi : L[i]? = some (Vc.slb f e (some ⟨b, 0, none⟩) xs sp)) (ho : o < xs.length) (hv : v = f x) (hs : sg v = true) (h : ∀ w', Same w w' → Holds w' (L.set i (Vc.slb f e (some ⟨b, 0, none⟩) (xs.set o x) sp)) → K w') :
   St (.pointer (some ⟨b, o, none⟩)) v w K := by
 subst hv; refine r_st i (H.slb i hi) (set_get hi) (by simp; omega) hs fun w' S H' => h w' S ?_
 have h1 := H'.slb' (f := f) (xs := xs.set o x) (sp := sp) i (b := b) (e := e) (by
   rw [List.set_set, List.set_append_left _ _ (by simpa using ho)]
   rw [set_get hi, ← List.map_set])
 simpa [List.set_set] using h1
end
theorem r_ssl0 {size : Nat} {a : Option Addr} {n c i : Nat} {k : IntKind} {K : Value → Prop} (h1 : i ≤ c) (h : K (.slice a i c)) : Ssl size (.slice a n c) none (some (.int k (i : Int))) K := by
 refine ⟨a, n, c, 0, i, rfl, rfl, ⟨k, rfl⟩, Nat.zero_le _, h1, ?_⟩
 have e : (if c = 0 then a else a.map (·.add (0 * size))) = a := by
   split
   · rfl
   · cases a with
     | none => rfl
     | some x => simp [Addr.add]
 rw [e, Nat.sub_zero, Nat.sub_zero]; exact h
theorem ext1 {s : ByteArray} {m : Nat} (h : m < s.size) : s.extract m (m + 1) = ⟨[s.data.toList.getD m 0].toArray⟩ := by
 apply ByteArray.ext; apply Array.ext'; rw [ByteArray.data_extract, Array.toList_extract]
 have hd : m < s.data.toList.length := by simpa using h
 rw [List.extract_eq_take_drop, List.drop_eq_getElem_cons hd, Nat.add_sub_cancel_left, List.take_succ_cons, List.take_zero, List.getD_eq_getElem?_getD, List.getElem?_eq_getElem hd]; rfl
theorem r_sst1 {s : ByteArray} {k k' : IntKind} {m : Nat} {K : Value → Prop} (h1 : m < s.size) (h : K (.string ⟨[s.data.toList.getD m 0].toArray⟩)) : Sst (.string s) (some (.int k (m : Int))) (some (.int k' ((m + 1 : Nat) : Int))) K :=
 r_sst ⟨k, rfl⟩ ⟨k', rfl⟩ (by omega) (by omega) (by rw [ext1 h1]; exact h)
theorem r_catL {xs ys : List UInt8} {K : Value → Prop} (hs : xs.length + ys.length ≤ 9223372036854775807) (h : K (.string ⟨(xs ++ ys).toArray⟩)) : Bp .add (.string ⟨xs.toArray⟩) (.string ⟨ys.toArray⟩) K :=
 r_cat (by simpa [ByteArray.size] using by omega) (by
   have e : (⟨xs.toArray⟩ : ByteArray) ++ ⟨ys.toArray⟩ = ⟨(xs ++ ys).toArray⟩ := by
     apply ByteArray.ext; rw [ByteArray.data_append]; simp
   rw [e]; exact h)
def setL (cs : List Value) (o : Nat) : List Value → List Value
 | [] => cs
 | v :: r => setL (cs.set o v) (o + 1) r
theorem setL_len : ∀ (vs cs : List Value) (o : Nat), (setL cs o vs).length = cs.length
 | [], _, _ => rfl
 | v :: r, cs, o => by rw [setL, setL_len r, List.length_set]
theorem Same.setCells : ∀ (vs : List Value) (w : World) (a : Addr) (i : Nat), Same w (setCells w a vs i)
 | [], w, _, _ => .refl w
 | v :: r, w, a, i => (Same.setCell w _ v).trans (Same.setCells r _ a (i + 1))
theorem Holds.setCells (i : Nat) {b o : Nat} {t : TypeId} : ∀ (vs : List Value) {w : World} {L : List HProp} {cs : List Value} (k : Nat) (_ : Holds w L) (_ : L[i]? = some (blk b t cs)),
   Holds (Vc.setCells w ⟨b, o, none⟩ vs k) (L.set i (blk b t (setL cs (o + k) vs)))
 | [], w, L, cs, k, H, hi => by
   rw [setL]
   have : L.set i (blk b t cs) = L := by
     apply List.ext_getElem?; intro j; rw [List.getElem?_set]; split
     · rename_i e; subst e; rw [hi]; split
       · rfl
       · rename_i h; rw [List.getElem?_eq_none (by omega)] at hi; cases hi
     · rfl
   rw [this]; exact H
 | v :: r, w, L, cs, k, H, hi => by
   rw [Vc.setCells, setL]
   have e1 : (⟨b, o, none⟩ : Addr).add k = ⟨b, o + k, none⟩ := by
     unfold Addr.add; split
     · rename_i h; rw [h]; rfl
     · rfl
   rw [e1]; have H2 := H.set i hi (o + k) v; have := Holds.setCells (o := o) i r (k + 1) H2 (set_get hi); rw [List.set_set] at this; exact this
theorem r_stA (i : Nat) {w : World} {L : List HProp} (H : Holds w L) {n b o : Nat} {t : TypeId} {cs vs : List Value} {K : World → Prop} (hi : L[i]? = some (blk b t cs)) (ho : o + n ≤ cs.length) (hn : vs.length = n) (hs : vs.all sg = true)
   (h : ∀ w', Same w w' → Holds w' (L.set i (blk b t (setL cs o vs))) → K w') : StA n (.pointer (some ⟨b, o, none⟩)) (.agg vs.toArray) w K := by
 refine ⟨_, vs.toArray, rfl, rfl, by simpa using hn, fun j hj => ?_, by simpa using hs, ?_⟩
 · have e1 : (⟨b, o, none⟩ : Addr).add j = ⟨b, o + j, none⟩ := by
     unfold Addr.add; split
     · rename_i h; rw [h]; rfl
     · rfl
   rw [e1]; refine ⟨?_, H.frozen i hi (o + j)⟩; rw [H.cell i hi (o + j), List.getElem?_eq_getElem (by omega)]; rfl
 · exact h _ (.setCells _ _ _ _) (Holds.setCells i vs 0 H hi)
theorem drop_ext {s : ByteArray} {m : Nat} : s.extract m s.size = ⟨(s.data.toList.drop m).toArray⟩ := by
 apply ByteArray.ext; apply Array.ext'; rw [ByteArray.data_extract, Array.toList_extract, List.extract_eq_take_drop]; rw [List.take_of_length_le (by simp)]
theorem take_ext {s : ByteArray} {m : Nat} : s.extract 0 m = ⟨(s.data.toList.take m).toArray⟩ := by
 apply ByteArray.ext; apply Array.ext'; rw [ByteArray.data_extract, Array.toList_extract, List.extract_eq_take_drop, Nat.sub_zero, List.drop_zero]
theorem r_sstD {s : ByteArray} {k : IntKind} {m : Nat} {K : Value → Prop} (h1 : m ≤ s.size) (h : K (.string ⟨(s.data.toList.drop m).toArray⟩)) : Sst (.string s) (some (.int k (m : Int))) none K :=
 r_sst ⟨k, rfl⟩ rfl h1 (Nat.le_refl _) (by rw [drop_ext]; exact h)
theorem r_sstT {s : ByteArray} {k : IntKind} {m : Nat} {K : Value → Prop} (h1 : m ≤ s.size) (h : K (.string ⟨(s.data.toList.take m).toArray⟩)) : Sst (.string s) none (some (.int k (m : Int))) K :=
 r_sst rfl ⟨k, rfl⟩ (Nat.zero_le _) h1 (by rw [take_ext]; exact h)
theorem ba_inj {xs ys : List UInt8} : (⟨xs.toArray⟩ : ByteArray) = ⟨ys.toArray⟩ ↔ xs = ys := by
 constructor
 · intro h; have := congrArg (fun b : ByteArray => b.data.toList) h; simpa using this
 · rintro rfl; rfl
theorem r_seqL {xs ys : List UInt8} {K : Value → Prop} (h : K (.bool (decide (xs = ys)))) : Bp .eql (.string ⟨xs.toArray⟩) (.string ⟨ys.toArray⟩) K :=
 r_seq (by rw [show decide ((⟨xs.toArray⟩ : ByteArray) = ⟨ys.toArray⟩) = decide (xs = ys) from by rw [Bool.eq_iff_iff, decide_eq_true_iff, decide_eq_true_iff, ba_inj]]; exact h)
theorem r_iasP {size : Nat} {p : Addr} {l c : Nat} {k : IntKind} {n : Nat} {K : Value → Prop} (h : n < l) (hk : K (.pointer (some (p.add (n * size))))) : Ias size (.slice (some p) l c) (.int k (n : Int)) K :=
 ⟨p, l, c, k, n, rfl, rfl, by omega, by omega, by rw [Int.toNat_natCast]; exact hk⟩
theorem r_ldAP {n : Nat} {p : Addr} {w : World} {cs : Array Value} {K : Value → Prop} (hn : cs.size = n) (hc : ∀ (j : Nat) v, cs[j]? = some v → w.cell? (p.add j) = some v) (hk : K (.agg cs)) : LdA n (.pointer (some p)) w K :=
 ⟨p, cs, rfl, hn, hc, hk⟩
theorem r_ldP {p : Addr} {w : World} {v : Value} {K : Value → Prop} (hc : w.cell? p = some v) (hk : K v) : Ld (.pointer (some p)) w K := ⟨p, v, rfl, hc, hk⟩
class Row (P : Program) (t : TypeId) (e : outParam TypeId) (z : outParam Value) : Prop where
 und : P.underlying t = some (.slice e)
 inf : ∃ i, P.info? e = some i ∧ i.size = 1 ∧ i.bytes ≤ 32 ∧ i.zero = some z
 one : z.cells = #[z]
section
variable {α : Type} {P : Program} {w : World} {L : List HProp}
theorem r_ms {t e : TypeId} {z : Value} [hr : Row P t e z] (H : Holds w L) {f : α → Value} {x : α} (hz : z = f x) {k k' : IntKind} {n : Int} {K : Value → World → Prop} (h0 : 0 ≤ n) (h1 : n ≤ 1099511627776)
   (h : ∀ b w', Same w w' → Holds w' (slb f e (some ⟨b, 0, none⟩) (List.replicate n.toNat x) [] :: L) → K (.slice (some ⟨b, 0, none⟩) n.toNat n.toNat) w') : Ms P t (.int k n) (.int k' n) w K := by
 obtain ⟨i, hi, hsz, hby, hzz⟩ := hr.inf
 have hrun := run_make (P := P) w t e i z hr.und hi hzz k k' n n h0 (Int.le_refl _) (by
   have : (i.bytes : Int) * n ≤ 32 * n := Int.mul_le_mul_of_nonneg_right (by omega) h0
   omega) (by omega)
 refine ⟨_, _, hrun, h _ _ (.alloc _ _) ?_⟩
 have hc : madeCells z.cells (n.toNat * i.size) = ((List.replicate n.toNat x).map f).toArray := by
   rw [hsz, Nat.mul_one, hr.one]; apply Array.ext
   · simp [madeCells]
   · intro j h1 h2; simp [madeCells, hz, Nat.mod_one]
 have := H.alloc (.cells (madeCells z.cells (n.toNat * i.size)) e); rw [hc] at this ⊢; refine Holds.imp this fun g hg => ⟨rfl, rfl, ?_⟩; rw [List.append_nil]; exact hg
theorem r_bs1 {t e : TypeId} {z : Value} [hr : Row P t e z] (H : Holds w L) {v : Value} {K : Value → World → Prop} (hs : sg v = true)
   (h : ∀ b w', Same w w' → Holds w' (blk b e [v] :: L) → K (.slice (some ⟨b, 0, none⟩) 1 1) w') : Bs P t 1 #[(0, v)] w K := by
 obtain ⟨i, hi, hsz, hby, hzz⟩ := hr.inf
 have hcells : v.cells = #[v] := by cases v <;> first | rfl | simp [sg] at hs
 refine ⟨.slice (some ⟨w.heap.size, 0, none⟩) 1 1, w.alloc (.cells #[v] e), ?_, h _ _ (.alloc _ _) (H.alloc _)⟩
 have hc : (Array.map (fun x => [z][x % 1]?.getD default) (Array.range 1)).setIfInBounds 0 v = #[v] := by
   apply Array.ext
   · simp
   · intro j h1 h2
     have : j = 0 := by simpa using h2
     subst this; simp
 simp [Instr.buildSlice, run_underlying hr.und, sizeOf, typeInfo, hi, hsz, zeroValue, hzz, Instr.fill, hcells, newRow, newObj, hr.one]; rw [hc]; rfl
theorem sg_one {v : Value} (h : sg v = true) : v.oneCell' = true := by
 cases v <;> first | rfl | simp [sg] at h
theorem r_ap {t e : TypeId} {z : Value} [hr : Row P t e z] (H : Holds w L) (i j : Nat) {f : α → Value} {oa : Option Addr} {xs ys : List α} {sp : List Value} {l c m c' b2 : Nat} {cs : List Value} {ty : TypeId} {K : Value → World → Prop}
   (hi : L[i]? = some (slb f e oa xs sp)) (hj : L[j]? = some (blk b2 e cs)) (hcs : cs.take m = ys.map f) (hm : m = ys.length) (hl : l = xs.length) (hc : c = xs.length + sp.length) (hs : ∀ y, sg (f y) = true)
   (hn : xs.length + ys.length ≤ 1099511627776) (hne : 0 < ys.length)
   (h : ∀ oa' sp' w', Same w w' → Holds w' (L.set i (slb f e oa' (xs ++ ys) sp')) → K (.slice oa' (xs.length + ys.length) (xs.length + ys.length + sp'.length)) w') :
   Ap P #[t, t] ty #[.slice oa l c, .slice (some ⟨b2, 0, none⟩) m c'] w K := by
 subst hl hc hm; obtain ⟨inf, hinf, hsz, hby, hzz⟩ := hr.inf
 have hnews : ∀ k u, (ys.map f)[k]? = some u → w.cell? ((⟨b2, 0, none⟩ : Addr).add k) = some u := by
   intro k u hu
   have e1 : (⟨b2, 0, none⟩ : Addr).add k = ⟨b2, k, none⟩ := by
     unfold Addr.add; split
     · rename_i h; rw [h]
     · simp
   rw [e1, H.cell j hj k]
   have hk : k < ys.length := by have := (List.getElem?_eq_some_iff.1 hu).1; simpa using this
   rw [← hu, ← hcs, List.getElem?_take_of_lt hk]
 have hmul : (xs.length + ys.length) * inf.bytes ≤ 140737488355328 :=
   Nat.le_trans (Nat.mul_le_mul_left _ hby) (by omega)
 have grow : ∀ (b : Addr) (olds : List Value), olds = xs.map f → (∀ k v, olds[k]? = some v → w.cell? (b.add k) = some v) → sp.length < ys.length →
     (∃ o, L[i]? = some o) → Ap P #[t, t] ty #[.slice (some b) xs.length (xs.length + sp.length), .slice (some ⟨b2, 0, none⟩) ys.length c'] w K := by
   intro b olds ho hold hg _; subst ho
   have hrun := run_append_grow (P := P) w t ty e inf z hr.und hinf hzz b xs.length (xs.length + sp.length) (xs.map f) (by simp [hsz]) hold
     ⟨b2, 0, none⟩ ys.length c' (ys.map f) (by simp [hsz]) hnews (by omega) (by omega) (growslice_fits (by omega) hmul)
   refine ⟨_, _, hrun, ?_⟩; have hcap := grownCap_ge w (xs.length + ys.length) (xs.length + sp.length) e; generalize grownCap w (xs.length + ys.length) (xs.length + sp.length) e = cap at hcap ⊢
   have hz2 : Builtin.zeroCells z.cells (cap - (xs.length + ys.length)) = (List.replicate (cap - (xs.length + ys.length)) z).toArray := by
     rw [hr.one]; apply Array.ext
     · simp [Builtin.zeroCells]
     · intro j h1 h2; simp [Builtin.zeroCells, Nat.mod_one]
   have hcells : ((xs.map f).toArray ++ (ys.map f).toArray ++ Builtin.zeroCells z.cells (cap - (xs.length + ys.length))) = ((xs ++ ys).map f ++ List.replicate (cap - (xs.length + ys.length)) z).toArray := by
     rw [hz2]; simp
   rw [hcells]; have H1 : Holds w.drew L := H.same rfl; have H2 := H1.alloc (.cells ((xs ++ ys).map f ++ List.replicate (cap - (xs.length + ys.length)) z).toArray e)
   have H3 : Holds (w.drew.alloc (.cells ((xs ++ ys).map f ++ List.replicate (cap - (xs.length + ys.length)) z).toArray e)) (L.set i (slb f e (some ⟨w.heap.size, 0, none⟩) (xs ++ ys) (List.replicate (cap - (xs.length + ys.length)) z))) := by
     -- the new block in the place of the old row
     have H4 := (Holds.imp H2 (Q := slb f e (some ⟨w.heap.size, 0, none⟩) (xs ++ ys) (List.replicate (cap - (xs.length + ys.length)) z)) fun g hg => ⟨rfl, rfl, hg⟩); have H5 := H4.dropAt (i + 1); rw [List.eraseIdx_cons_succ] at H5; exact Sat.push i hi H5
   have := h (some ⟨w.heap.size, 0, none⟩) (List.replicate (cap - (xs.length + ys.length)) z) _ ((Same.drew w).trans (.alloc _ _)) H3
   have hc2 : xs.length + ys.length + (List.replicate (cap - (xs.length + ys.length)) z).length = cap := by simp; omega
   rw [hc2] at this; exact this
 cases oa with
 | none =>
   obtain ⟨g, ⟨h2, h3⟩, _⟩ := H.front i hi; subst h2; subst h3; simp only [List.length_nil, Nat.zero_add, List.nil_append] at hn hmul h ⊢; have hrun := run_append_nil (P := P) w t ty e inf z hr.und hinf hzz ⟨b2, 0, none⟩ ys.length c' (ys.map f) (by simp [hsz]) hnews (by omega) (by omega) (by omega); refine ⟨_, _, hrun, ?_⟩; have hcap := grownCap_ge w ys.length 0 e; generalize grownCap w ys.length 0 e = cap at hcap ⊢
   have hz2 : Builtin.zeroCells z.cells (cap - ys.length) = (List.replicate (cap - ys.length) z).toArray := by
     rw [hr.one]; apply Array.ext
     · simp [Builtin.zeroCells]
     · intro j h1 h2; simp [Builtin.zeroCells, Nat.mod_one]
   have hcells : ((ys.map f).toArray ++ Builtin.zeroCells z.cells (cap - ys.length)) = (ys.map f ++ List.replicate (cap - ys.length) z).toArray := by
     rw [hz2]; simp
   rw [hcells]; have H2 := (H.same (w' := w.drew) rfl).alloc (.cells (ys.map f ++ List.replicate (cap - ys.length) z).toArray e); have H4 := (Holds.imp H2 (Q := slb f e (some ⟨w.heap.size, 0, none⟩) ys (List.replicate (cap - ys.length) z)) fun g hg => ⟨rfl, rfl, hg⟩); have H5 := H4.dropAt (i + 1); rw [List.eraseIdx_cons_succ] at H5; have := h (some ⟨w.heap.size, 0, none⟩) (List.replicate (cap - ys.length) z) _ ((Same.drew w).trans (.alloc _ _)) (Sat.push i hi H5)
   have hc2 : ys.length + (List.replicate (cap - ys.length) z).length = cap := by simp; omega
   rw [hc2] at this; exact this
 | some a =>
   obtain ⟨g, ⟨h2, h3, _⟩, _⟩ := H.front i hi; obtain ⟨b, o, s⟩ := a; simp only at h2 h3; subst h2; subst h3; have Hb := H.slb i hi; have hgi : (L.set i (blk b e (xs.map f ++ sp)))[i]? = some (blk b e (xs.map f ++ sp)) := set_get hi
   have hold : ∀ k v, (xs.map f)[k]? = some v → w.cell? ((⟨b, 0, none⟩ : Addr).add k) = some v := by
     intro k v hv
     have e1 : (⟨b, 0, none⟩ : Addr).add k = ⟨b, k, none⟩ := by
       unfold Addr.add; split
       · rename_i h; rw [h]
       · simp
     rw [e1, Hb.cell i hgi k, List.getElem?_append_left (by simpa using (List.getElem?_eq_some_iff.1 hv).1)]; exact hv
   rcases Nat.lt_or_ge sp.length ys.length with hg | hg
   · exact grow ⟨b, 0, none⟩ _ rfl hold hg ⟨_, hi⟩
   · have hobj := Hb.obj i hgi
     have hrun := run_append_room (P := P) w t ty e inf hr.und hinf b xs.length (xs.length + sp.length) (xs.map f ++ sp).toArray hobj
       ⟨b2, 0, none⟩ ys.length c' (ys.map f) (by simp [hsz]) hnews (by simpa using fun y _ => sg_one (hs y)) (by omega) (by simp [hsz]; omega)
     refine ⟨_, _, hrun, ?_⟩
     have hcells : (((xs.map f ++ sp).toArray.toList.take (xs.length * inf.size) ++ ys.map f ++ (xs.map f ++ sp).toArray.toList.drop (xs.length * inf.size + (ys.map f).length)).toArray) = ((xs ++ ys).map f ++ sp.drop ys.length).toArray := by
       rw [hsz]; simp [List.take_append, List.drop_append]
     rw [hcells]
     have H3 : Holds (w.setRow b ((xs ++ ys).map f ++ sp.drop ys.length).toArray) (L.set i (slb f e (some ⟨b, 0, none⟩) (xs ++ ys) (sp.drop ys.length))) := by
       have := Hb.upd (w' := w.setRow b ((xs ++ ys).map f ++ sp.drop ys.length).toArray) i hgi (o' := .cells ((xs ++ ys).map f ++ sp.drop ys.length).toArray e) (setRow_heap w b _ _ e _ hobj) fun c hc => setRow_other w b c _ hc; have h4 := Holds.slb' (f := f) (e := e) (b := b) (xs := xs ++ ys) (sp := sp.drop ys.length) this i (by rw [List.set_set]; exact set_get hi); simpa [List.set_set] using h4
     have hlen : xs.length + sp.length = xs.length + ys.length + (sp.drop ys.length).length := by simp; omega
     rw [hlen]; exact h _ _ _ ⟨rfl, rfl, rfl, by simp⟩ H3
theorem r_app1 {t e : TypeId} {z : Value} [hr : Row P t e z] (H : Holds w L) (i : Nat) {f : α → Value} {v : Value} {xs : List α} {ty : TypeId} {K : Value → World → Prop}
   (hi : L[i]? = some (SL f e v xs)) (x : α) (hs : ∀ y, sg (f y) = true) (hn : xs.length + 1 ≤ 1099511627776)
   (h : ∀ v' w', Same w w' → Holds w' (L.set i (SL f e v' (xs ++ [x]))) → K v' w') : Bs P t 1 #[(0, f x)] w fun y w2 => Ap P #[t, t] ty #[v, y] w2 K := by
 obtain ⟨oa, sp, rfl, H1⟩ := H.open i hi; refine r_bs1 H1 (hs x) fun b3 w3 S3 H3 => ?_; refine r_ap (f := f) (ys := [x]) H3 (i + 1) 0 (xs := xs) (sp := sp) (by rw [List.getElem?_cons_succ]; exact set_get hi) rfl rfl rfl rfl rfl hs (by rw [List.length_singleton]; omega) (by simp) fun oa' sp' w4 S4 H4 => ?_; rw [List.set_cons_succ, List.set_set] at H4; have H5 := H4.drop.close i (set_get hi); rw [List.set_set] at H5
 have e : xs.length + [x].length = (xs ++ [x]).length := by simp
 rw [e]; exact h _ _ (S3.trans S4) H5
theorem foldl_push (l : List UInt8) : ∀ (s : ByteArray), (l.map fun c => (c.toNat : Int)).foldl (fun r n => r.push (UInt8.ofNat n.toNat)) s = ⟨(s.data.toList ++ l).toArray⟩ := by
 induction l with
 | nil => intro s; simp
 | cons c l ih =>
   intro s; rw [List.map_cons, List.foldl_cons, ih]; simp [ByteArray.push]
class Bytes (P : Program) (t e d : TypeId) : Prop where
 und : P.underlying t = some (.slice e)
 el : P.underlying e = some (.int .u8)
 str : P.underlying d = some .string
theorem r_cbs {t e d : TypeId} [hr : Bytes P t e d] (H : Holds w L) (i : Nat) {oa : Option Addr} {xs : List UInt8} {sp : List Value} {l c : Nat} {K : Value → World → Prop}
   (hi : L[i]? = some (slb bv e oa xs sp)) (hl : l = xs.length) (h : K (.string ⟨xs.toArray⟩) w) : Cw P t d (.slice oa l c) w K := by
 subst hl
 cases oa with
 | none =>
   obtain ⟨g, ⟨h2, h3⟩, _⟩ := H.front i hi; subst h2; refine ⟨.string ⟨[].toArray⟩, w, ?_, h⟩; rw [run_convert_bytes_string (P := P) w t d e none _ c hr.und hr.el hr.str]; rfl
 | some a =>
   obtain ⟨g, ⟨h2, h3, _⟩, _⟩ := H.front i hi; obtain ⟨b, o, s⟩ := a; simp only at h2 h3; subst h2; subst h3; have Hb := H.slb i hi; refine ⟨_, w, ?_, h⟩; rw [run_convert_bytes_string (P := P) w t d e _ _ c hr.und hr.el hr.str]
   have hload : (loadCells (⟨b, 0, none⟩ : Addr) xs.length).run P w = .ok ((xs.map fun c => (c.toNat : Int)).map (Value.int .u8)).toArray w := by
     have hcells : ((xs.map fun c => (c.toNat : Int)).map (Value.int .u8)) = xs.map bv := by rw [List.map_map]; rfl
     rw [hcells]
     have := run_loadCells (P := P) (w := w) (a := ⟨b, 0, none⟩) (cs := (xs.map bv).toArray) (fun j v hv => by
       have e1 : (⟨b, 0, none⟩ : Addr).add j = ⟨b, j, none⟩ := by
         unfold Addr.add; split
         · rename_i h; rw [h]
         · simp
       rw [e1, Hb.cell i (set_get hi) j]
       have hv' : (xs.map bv)[j]? = some v := by simpa using hv
       rw [List.getElem?_append_left (List.getElem?_eq_some_iff.1 hv').1]
       exact hv')
     simpa using this
   rw [run_bytesToString (P := P) w _ xs.length c _ hload, foldl_push]; simp
end
end Go.Vc
namespace Go.Vc
variable {P : Program} {w : World} {L : List HProp}
def itPos (w : World) (b : Nat) : Nat := match w.heap[b]? with
 | some (.stringIter _ p) => p
 | _ => 0
theorem r_bsK {t e : TypeId} {n : Nat} {ps : Array (Nat × Value)} {K : Value → World → Prop} (cells : List Value) (H : Holds w L)
   (h : (Instr.buildSlice t n ps).run P w = .ok (.slice (some ⟨w.heap.size, 0, none⟩) n n) (w.alloc (.cells cells.toArray e)))
   (k : ∀ b w', Same w w' → Holds w' (blk b e cells :: L) → K (.slice (some ⟨b, 0, none⟩) n n) w') : Bs P t n ps w K :=
 ⟨_, _, h, k _ _ (.alloc _ _) (H.alloc _)⟩
theorem SL_of_blk (i : Nat) {α : Type} {f : α → Value} {e : TypeId} {b : Nat} (xs : List α) (H : Holds w L) (hi : L[i]? = some (blk b e (xs.map f))) : Holds w (L.set i (SL f e (.slice (some ⟨b, 0, none⟩) xs.length xs.length) xs)) :=
 H.at i hi fun g hg => ⟨some ⟨b, 0, none⟩, [], by simp, rfl, rfl, by simpa using hg⟩
theorem r_ias0 {size b l c : Nat} {k : IntKind} {n : Nat} {K : Value → Prop} (h : n < l) (hk : K (.pointer (some ⟨b, n * size, none⟩))) : Ias size (.slice (some ⟨b, 0, none⟩) l c) (.int k (n : Int)) K := by
 refine r_iasP h ?_
 have e1 : (⟨b, 0, none⟩ : Addr).add (n * size) = ⟨b, n * size, none⟩ := by
   unfold Addr.add; split
   · rename_i h; rw [h]
   · simp
 rw [e1]; exact hk
theorem r_inv {m : Sem Next} {f : FuncId} {args : Array Value} {K : Value → World → Prop} (h : m.run P w = .ok (.enter f args) w) (k : Cl P f args w K) : Inv P m w K := ⟨f, args, h, k.2⟩
theorem r_shl1 {b : Nat} {k : IntKind} {K : Value → Prop} (hb : b ≤ 62) (h : K (.int .i64 ((2 ^ b : Nat) : Int))) : Bp .shl (.int .i64 1) (.int k (b : Int)) K := by
 refine ⟨.int .i64 ((2 ^ b : Nat) : Int), ?_, h⟩; have h1 : (2 ^ b : Nat) ≤ 2 ^ 62 := Nat.pow_le_pow_right (by omega) hb; have h2 : IntKind.i64.bits = 64 := rfl; simp only [bp]; rw [if_neg (by omega), Int.toNat_natCast, h2, Nat.min_eq_left (by omega), Int.one_mul]
 congr 2
 have h3 : ((2 : Int) ^ b) = ((2 ^ b : Nat) : Int) := by simp
 rw [h3]; clear h; generalize (2 ^ b : Nat) = x at h1 ⊢; exact wrap64 (by omega) (by omega)
theorem r_ciu64 {k' : IntKind} {n : Int} {K : Value → Prop} (h1 : 0 ≤ n) (h2 : n < 18446744073709551616) (h : K (.int .u64 n)) : Ci .u64 (.int k' n) K := by
 have : Ci .u64 (.int k' n) K := r_ci (by rw [show IntKind.u64.wrap n = n from by show n % 18446744073709551616 = n; omega]; exact h); exact this
theorem wrapU32 {z : Int} (h1 : 0 ≤ z) (h2 : z < 4294967296) : IntKind.u32.wrap z = z := by show z % 4294967296 = z; omega
theorem wrapU8 {z : Int} (h1 : 0 ≤ z) (h2 : z < 256) : IntKind.u8.wrap z = z := by show z % 256 = z; omega
theorem r_shrU {s n : Nat} {k k' : IntKind} {K : Value → Prop} (hn : n ≤ k.bits) (h : K (.int k ((s / 2 ^ n : Nat) : Int))) : Bp .shr (.int k (s : Int)) (.int k' (n : Int)) K := by
 refine ⟨_, ?_, h⟩; simp only [bp]
 rw [if_neg (by omega), Int.toNat_natCast, Nat.min_eq_left hn, Int.fdiv_eq_ediv_of_nonneg _ (by
   have : (0 : Int) ≤ ((2 ^ n : Nat) : Int) := Int.natCast_nonneg _
   simpa using this)]
 simp
theorem r_shlU32 {s n : Nat} {k' : IntKind} {K : Value → Prop} (hn : n ≤ 32) (h : K (.int .u32 ((s * 2 ^ n % 4294967296 : Nat) : Int))) : Bp .shl (.int .u32 (s : Int)) (.int k' (n : Int)) K := by
 refine ⟨_, ?_, h⟩; have hb : IntKind.u32.bits = 32 := rfl; simp only [bp]; rw [if_neg (by omega), Int.toNat_natCast, hb, Nat.min_eq_left hn]; show some (Value.int .u32 ((s : Int) * 2 ^ n % 4294967296)) = _; simp
theorem r_xorU32 {s t : Nat} {K : Value → Prop} (hs : s < 4294967296) (ht : t < 4294967296) (h : K (.int .u32 ((s ^^^ t : Nat) : Int))) : Bp .xor (.int .u32 (s : Int)) (.int .u32 (t : Int)) K := by
 refine ⟨_, ?_, h⟩; have hb : IntKind.u32.bits = 32 := rfl; have hx : s ^^^ t < 2 ^ 32 := Nat.xor_lt_two_pow (by simpa using hs) (by simpa using ht); simp only [bp, if_true]; rw [hb, BitVec.toNat_xor, BitVec.toNat_ofInt, BitVec.toNat_ofInt]
 have e1 : ((s : Int) % ((2 ^ 32 : Nat) : Int)).toNat = s := by omega
 have e2 : ((t : Int) % ((2 ^ 32 : Nat) : Int)).toNat = t := by omega
 rw [e1, e2, wrapU32 (by omega) (by omega)]
theorem r_mulU32 {s t : Nat} {K : Value → Prop} (h1 : s * t < 4294967296) (h : K (.int .u32 ((s * t : Nat) : Int))) : Bp .mul (.int .u32 (s : Int)) (.int .u32 (t : Int)) K := by
 refine ⟨_, ?_, h⟩; simp only [bp, if_true]; rw [← Int.natCast_mul, wrapU32 (by omega) (by omega)]
def filled {α : Type} (xs : List α) (z : α) (n i : Nat) : List α := xs.take i ++ List.replicate (n - i) z
theorem filled_len {α : Type} {xs : List α} {z : α} {n i : Nat} (hi : i ≤ n) (hn : xs.length = n) : (filled xs z n i).length = n := by simp [filled, hn]; omega
theorem filled_zero {α : Type} (xs : List α) (z : α) (n : Nat) : filled xs z n 0 = List.replicate n z := by simp [filled]
theorem filled_all {α : Type} {xs : List α} {z : α} {n : Nat} (hn : xs.length = n) : filled xs z n n = xs := by simp [filled, ← hn]
theorem filled_set {α : Type} {xs : List α} {z x : α} {n i : Nat} (hi : i < n) (hn : xs.length = n) (hx : xs[i]? = some x) : (filled xs z n i).set i x = filled xs z n (i + 1) := by
 unfold filled
 have hl : (xs.take i).length = i := by simp; omega
 rw [List.set_append_right _ _ (by omega), hl, Nat.sub_self, List.take_add_one, hx, show n - i = (n - (i + 1)) + 1 by omega, List.replicate_succ, List.set_cons_zero, List.append_assoc]; rfl
theorem r_orU8 {s t : Nat} {K : Value → Prop} (hs : s < 256) (ht : t < 256) (h : K (.int .u8 ((s ||| t : Nat) : Int))) : Bp .or (.int .u8 (s : Int)) (.int .u8 (t : Int)) K := by
 refine ⟨_, ?_, h⟩; have hb : IntKind.u8.bits = 8 := rfl; have hx : s ||| t < 2 ^ 8 := Nat.or_lt_two_pow (by simpa using hs) (by simpa using ht); simp only [bp, if_true]; rw [hb, BitVec.toNat_or, BitVec.toNat_ofInt, BitVec.toNat_ofInt]
 have e1 : ((s : Int) % ((2 ^ 8 : Nat) : Int)).toNat = s := by omega
 have e2 : ((t : Int) % ((2 ^ 8 : Nat) : Int)).toNat = t := by omega
 rw [e1, e2, wrapU8 (by omega) (by omega)]
theorem r_andU32 {s t : Nat} {K : Value → Prop} (hs : s < 4294967296) (ht : t < 4294967296) (h : K (.int .u32 ((s &&& t : Nat) : Int))) : Bp .and (.int .u32 (s : Int)) (.int .u32 (t : Int)) K := by
 refine ⟨_, ?_, h⟩; have hb : IntKind.u32.bits = 32 := rfl; have hx : s &&& t ≤ s := Nat.and_le_left; simp only [bp, if_true]; rw [hb, BitVec.toNat_and, BitVec.toNat_ofInt, BitVec.toNat_ofInt]
 have e1 : ((s : Int) % ((2 ^ 32 : Nat) : Int)).toNat = s := by omega
 have e2 : ((t : Int) % ((2 ^ 32 : Nat) : Int)).toNat = t := by omega
 rw [e1, e2, wrapU32 (by omega) (by omega)]
theorem r_shlU8 {s n : Nat} {k' : IntKind} {K : Value → Prop} (hn : n ≤ 8) (h : K (.int .u8 ((s * 2 ^ n % 256 : Nat) : Int))) : Bp .shl (.int .u8 (s : Int)) (.int k' (n : Int)) K := by
 refine ⟨_, ?_, h⟩; have hb : IntKind.u8.bits = 8 := rfl; simp only [bp]; rw [if_neg (by omega), Int.toNat_natCast, hb, Nat.min_eq_left hn]; show some (Value.int .u8 ((s : Int) * 2 ^ n % 256)) = _; simp
theorem r_mulE {a b : Int} (c : Int) {K : Value → Prop} (hc : a * b = c) (h1 : -9223372036854775808 ≤ c) (h2 : c ≤ 9223372036854775807) (h : K (.int .i64 c)) : Bp .mul (.int .i64 a) (.int .i64 b) K := by
 subst hc; exact r_mul h1 h2 h
end Go.Vc
namespace Go.Vc
class RowN (P : Program) (t : TypeId) (e : outParam TypeId) (k : outParam Nat) : Prop where
 und : P.underlying t = some (.slice e)
 inf : ∃ i z, P.info? e = some i ∧ i.size = k ∧ i.bytes ≤ 256 ∧ i.zero = some z ∧ z.cells.size = k
variable {α : Type} {P : Program} {w : World} {L : List HProp}
def flatL (F : α → List Value) : List α → List Value
 | [] => []
 | x :: r => F x ++ flatL F r
theorem flatL_app (F : α → List Value) (a b : List α) : flatL F (a ++ b) = flatL F a ++ flatL F b := by
 induction a with
 | nil => rfl
 | cons x r ih => simp [flatL, ih]
theorem flatL_len {F : α → List Value} {k : Nat} (hF : ∀ x, (F x).length = k) (xs : List α) : (flatL F xs).length = xs.length * k := by
 induction xs with
 | nil => simp [flatL]
 | cons x r ih => simp [flatL, ih, hF, Nat.add_mul]; omega
theorem flatL_get {F : α → List Value} {k : Nat} (hF : ∀ x, (F x).length = k) : ∀ (xs : List α) (i : Nat) (x : α), xs[i]? = some x → ((flatL F xs).drop (i * k)).take k = F x
 | y :: r, 0, x, h => by
   simp at h; subst h; have := hF y; simp [flatL, List.take_append, this]
 | y :: r, i + 1, x, h => by
   have h1 := flatL_get hF r i x (by simpa using h); have := hF y; rw [flatL, List.drop_append, this, List.drop_of_length_le (by rw [this, Nat.add_mul]; omega), List.nil_append, show (i + 1) * k - k = i * k by rw [Nat.add_mul]; omega]; exact h1
def rwb (F : α → List Value) (k : Nat) (e : TypeId) (oa : Option Addr) (xs : List α) (m : Nat) (sp : List Value) : HProp :=
 match oa with
 | none => pur (xs = [] ∧ m = 0)
 | some a => fun h => a.off = 0 ∧ a.spot = none ∧ sp.length = m * k ∧ blk a.block e (flatL F xs ++ sp) h
def RW (F : α → List Value) (k : Nat) (e : TypeId) (v : Value) (xs : List α) : HProp := fun h => ∃ oa m sp, v = .slice oa xs.length (xs.length + m) ∧ rwb F k e oa xs m sp h
theorem Holds.openRW (H : Holds w L) (i : Nat) {F : α → List Value} {k : Nat} {e : TypeId} {v : Value} {xs : List α} (hi : L[i]? = some (RW F k e v xs)) :
   ∃ oa m sp, v = .slice oa xs.length (xs.length + m) ∧ Holds w (L.set i (rwb F k e oa xs m sp)) := by
 obtain ⟨g, ⟨oa, m, sp, hv, hg⟩, hs, hL⟩ := H.front i hi; exact ⟨oa, m, sp, hv, Sat.push i hi ⟨g, hg, hs, hL⟩⟩
theorem Holds.nilRW (H : Holds w L) (F : α → List Value) (k : Nat) (e : TypeId) : Holds w (RW F k e (.slice none 0 0) [] :: L) :=
 ⟨fun _ => none, ⟨none, 0, [], rfl, rfl, rfl⟩, (fun b o h => by cases h), by
   have h0 : (hp w).minus (fun _ => none) = hp w := by funext b; simp [Hp.minus]
   rw [h0]; exact H⟩
theorem Holds.rwb (H : Holds w L) (i : Nat) {F : α → List Value} {k : Nat} {e : TypeId} {oa : Option Addr} {xs : List α} {m : Nat} {sp : List Value} (hi : L[i]? = some (rwb F k e oa xs m sp)) (hx : 0 < xs.length ∨ 0 < m) :
   ∃ b, oa = some ⟨b, 0, none⟩ ∧ sp.length = m * k ∧ Holds w (L.set i (blk b e (flatL F xs ++ sp))) := by
 cases oa with
 | none =>
   obtain ⟨g, ⟨h1, h2⟩, _⟩ := H.front i hi; subst h1; subst h2; simp at hx
 | some a =>
   obtain ⟨g, ⟨h1, h2, h3, h4⟩, hs, hL⟩ := H.front i hi; obtain ⟨b, o, s⟩ := a; simp only at h1 h2; subst h1; subst h2; exact ⟨b, rfl, h3, Sat.push i hi ⟨g, h4, hs, hL⟩⟩
theorem zeroCells_len (z : Array Value) (n : Nat) : (Builtin.zeroCells z n).toList.length = n * z.size := by simp [Builtin.zeroCells]
theorem r_apN {t e : TypeId} {k : Nat} [hr : RowN P t e k] (H : Holds w L) (i j : Nat) {F : α → List Value} {v : Value} {xs ys : List α} {m' c' b2 : Nat} {cs : List Value} {ty : TypeId} {K : Value → World → Prop}
   (hi : L[i]? = some (RW F k e v xs)) (hj : L[j]? = some (blk b2 e cs)) (hij : j ≠ i) (hcs : cs.take (ys.length * k) = flatL F ys) (hm : m' = ys.length) (hF : ∀ y, (F y).length = k) (hs : ∀ y, ∀ u ∈ F y, sg u = true)
   (hn : xs.length + ys.length ≤ 68719476736) (hne : 0 < ys.length) (hk : 0 < k)
   (h : ∀ v' w', Same w w' → Holds w' (L.set i (RW F k e v' (xs ++ ys))) → K v' w') :
   Ap P #[t, t] ty #[v, .slice (some ⟨b2, 0, none⟩) m' c'] w K := by
 obtain ⟨oa, m, sp, rfl, H⟩ := H.openRW i hi; have hi1 : (L.set i (Vc.rwb F k e oa xs m sp))[i]? = some (Vc.rwb F k e oa xs m sp) := set_get hi
 have hj1 : (L.set i (Vc.rwb F k e oa xs m sp))[j]? = some (blk b2 e cs) := by rw [List.getElem?_set_ne (fun e => hij e.symm)]; exact hj
 subst hm; obtain ⟨inf, z, hinf, hsz, hby, hzz, hzk⟩ := hr.inf; have hlen := flatL_len (k := k) hF
 have hsg : ∀ u ∈ flatL F ys, u.oneCell' = true := by
   intro u hu; clear hcs hne hn h
   induction ys with
   | nil => simp [flatL] at hu
   | cons y r ih =>
     rw [flatL, List.mem_append] at hu; rcases hu with hu | hu
     · exact sg_one (hs y u hu)
     · exact ih hu
 have hnews : ∀ q u, (flatL F ys)[q]? = some u → w.cell? ((⟨b2, 0, none⟩ : Addr).add q) = some u := by
   intro q u hu
   have e1 : (⟨b2, 0, none⟩ : Addr).add q = ⟨b2, q, none⟩ := by
     unfold Addr.add; split
     · rename_i h; rw [h]
     · simp
   rw [e1, H.cell j hj1 q]
   have hq : q < ys.length * k := by have := (List.getElem?_eq_some_iff.1 hu).1; rw [hlen] at this; exact this
   rw [← hu, ← hcs, List.getElem?_take_of_lt hq]
 have hmul : (xs.length + ys.length) * inf.bytes ≤ 140737488355328 :=
   Nat.le_trans (Nat.mul_le_mul_left _ hby) (by omega)
 have fin : ∀ (b' cap : Nat) (w' : World) (sp' : List Value) (L' : List HProp), xs.length + ys.length ≤ cap → sp'.length = (cap - (xs.length + ys.length)) * k → Same w w' →
     Holds w' (blk b' e (flatL F (xs ++ ys) ++ sp') :: L.eraseIdx i) → K (.slice (some ⟨b', 0, none⟩) (xs.length + ys.length) cap) w' := by
   intro b' cap w' sp' L' hc hsp S' H'
   have H4 := Holds.imp H' (Q := RW F k e (.slice (some ⟨b', 0, none⟩) (xs.length + ys.length) cap) (xs ++ ys)) fun g hg => ⟨some ⟨b', 0, none⟩, cap - (xs.length + ys.length), sp', by
     rw [List.length_append]; congr 1; omega, rfl, rfl, hsp, hg⟩
   exact h _ _ S' (Sat.push i hi H4)
 cases oa with
 | none =>
   obtain ⟨g, ⟨h2, h3⟩, _⟩ := H.front i hi1; subst h2; subst h3; simp only [List.length_nil, Nat.zero_add, List.nil_append] at hn hmul fin ⊢; have hrun := run_append_nil (P := P) w t ty e inf z hr.und hinf hzz ⟨b2, 0, none⟩ ys.length c' (flatL F ys) (by rw [hlen, hsz]) hnews (by omega) (by omega) (by omega); refine ⟨_, _, hrun, ?_⟩; have hcap := grownCap_ge w ys.length 0 e; generalize grownCap w ys.length 0 e = cap at hcap ⊢; have H2 := (H.same (w' := w.drew) rfl).alloc (.cells ((flatL F ys).toArray ++ Builtin.zeroCells z.cells (cap - ys.length)) e); have H5 := H2.dropAt (i + 1); rw [List.eraseIdx_cons_succ, List.eraseIdx_set_eq] at H5; refine fin _ cap _ (Builtin.zeroCells z.cells (cap - ys.length)).toList L (by omega) (by rw [zeroCells_len, hzk]) ((Same.drew w).trans (.alloc _ _)) ?_
   have hc : ((flatL F ys).toArray ++ Builtin.zeroCells z.cells (cap - ys.length)) = (flatL F ys ++ (Builtin.zeroCells z.cells (cap - ys.length)).toList).toArray := by simp
   rw [hc] at H5 ⊢; exact H5
 | some a =>
   have h4 := H.rwb i hi1; obtain ⟨g, ⟨h2, h3, hspl, _⟩, _⟩ := H.front i hi1; obtain ⟨b, o, s⟩ := a; simp only at h2 h3; subst h2; subst h3
   have Hb : Holds w (L.set i (blk b e (flatL F xs ++ sp))) := by
     have := H.at i hi1 (Q := blk b e (flatL F xs ++ sp)) fun g hg => hg.2.2.2; rw [List.set_set] at this; exact this
   have hgi : (L.set i (blk b e (flatL F xs ++ sp)))[i]? = some (blk b e (flatL F xs ++ sp)) := set_get hi
   have hold : ∀ q u, (flatL F xs)[q]? = some u → w.cell? ((⟨b, 0, none⟩ : Addr).add q) = some u := by
     intro q u hu
     have e1 : (⟨b, 0, none⟩ : Addr).add q = ⟨b, q, none⟩ := by
       unfold Addr.add; split
       · rename_i h; rw [h]
       · simp
     rw [e1, Hb.cell i hgi q, List.getElem?_append_left (List.getElem?_eq_some_iff.1 hu).1]; exact hu
   rcases Nat.lt_or_ge m ys.length with hg | hg
   · have hrun := run_append_grow (P := P) w t ty e inf z hr.und hinf hzz ⟨b, 0, none⟩ xs.length (xs.length + m) (flatL F xs) (by rw [hlen, hsz]) hold
       ⟨b2, 0, none⟩ ys.length c' (flatL F ys) (by rw [hlen, hsz]) hnews (by omega) (by omega) (growslice_fits (by omega) hmul)
     refine ⟨_, _, hrun, ?_⟩; have hcap := grownCap_ge w (xs.length + ys.length) (xs.length + m) e; generalize grownCap w (xs.length + ys.length) (xs.length + m) e = cap at hcap ⊢; have H2 := (Hb.same (w' := w.drew) rfl).alloc (.cells ((flatL F xs).toArray ++ (flatL F ys).toArray ++ Builtin.zeroCells z.cells (cap - (xs.length + ys.length))) e); have H5 := H2.dropAt (i + 1); rw [List.eraseIdx_cons_succ, List.eraseIdx_set_eq] at H5; refine fin _ cap _ (Builtin.zeroCells z.cells (cap - (xs.length + ys.length))).toList L (by omega) (by rw [zeroCells_len, hzk]) ((Same.drew w).trans (.alloc _ _)) ?_
     have hc : ((flatL F xs).toArray ++ (flatL F ys).toArray ++ Builtin.zeroCells z.cells (cap - (xs.length + ys.length))) = (flatL F (xs ++ ys) ++ (Builtin.zeroCells z.cells (cap - (xs.length + ys.length))).toList).toArray := by
       rw [flatL_app]; simp
     rw [hc] at H5 ⊢; exact H5
   · have hobj := Hb.obj i hgi; have hroom : (xs.length + ys.length) * k ≤ (xs.length + m) * k := Nat.mul_le_mul_right _ (by omega)
     have hrun := run_append_room (P := P) w t ty e inf hr.und hinf b xs.length (xs.length + m) (flatL F xs ++ sp).toArray hobj
       ⟨b2, 0, none⟩ ys.length c' (flatL F ys) (by rw [hlen, hsz]) hnews hsg (by omega) (by
         rw [hsz, List.size_toArray, List.length_append, hspl]; have e1 := hlen xs; have e2 := hlen ys; rw [Nat.add_mul, Nat.add_mul] at hroom
         omega)
     refine ⟨_, _, hrun, ?_⟩
     have hcells : (((flatL F xs ++ sp).toArray.toList.take (xs.length * inf.size) ++ flatL F ys ++ (flatL F xs ++ sp).toArray.toList.drop (xs.length * inf.size + (flatL F ys).length)).toArray) = (flatL F (xs ++ ys) ++ sp.drop (ys.length * k)).toArray := by
       rw [hsz, flatL_app]; simp [List.take_append, List.drop_append, hlen]
     rw [hcells]
     have H3 : Holds (w.setRow b (flatL F (xs ++ ys) ++ sp.drop (ys.length * k)).toArray) (L.set i (blk b e (flatL F (xs ++ ys) ++ sp.drop (ys.length * k)))) := by
       have := Hb.upd (w' := w.setRow b (flatL F (xs ++ ys) ++ sp.drop (ys.length * k)).toArray) i hgi (o' := .cells (flatL F (xs ++ ys) ++ sp.drop (ys.length * k)).toArray e) (setRow_heap w b _ _ e _ hobj) fun c hc => setRow_other w b c _ hc; rw [List.set_set] at this; exact this
     have H6 := H3.front i (set_get hi); rw [List.eraseIdx_set_eq] at H6; refine fin b (xs.length + m) _ (sp.drop (ys.length * k)) L (by omega) ?_ ⟨rfl, rfl, rfl, by simp⟩ H6; rw [List.length_drop, hspl, show xs.length + m - (xs.length + ys.length) = m - ys.length by omega, Nat.sub_mul]
theorem r_appN {t e : TypeId} {k : Nat} [hr : RowN P t e k] (H : Holds w L) (i : Nat) {F : α → List Value} {v : Value} {xs : List α} {ps : Array (Nat × Value)} {ty : TypeId} {K : Value → World → Prop} (x : α)
   (hi : L[i]? = some (RW F k e v xs)) (hb : (Instr.buildSlice t 1 ps).run P w = .ok (.slice (some ⟨w.heap.size, 0, none⟩) 1 1) (w.alloc (.cells (F x).toArray e)))
   (hF : ∀ y, (F y).length = k) (hs : ∀ y, ∀ u ∈ F y, sg u = true)
   (hn : xs.length + 1 ≤ 68719476736) (hk : 0 < k)
   (h : ∀ v' w', Same w w' → Holds w' (L.set i (RW F k e v' (xs ++ [x]))) → K v' w') : Bs P t 1 ps w fun y w2 => Ap P #[t, t] ty #[v, y] w2 K := by
 refine r_bsK (F x) H hb fun b3 w3 S3 H3 => ?_; refine r_apN (F := F) (ys := [x]) H3 (i + 1) 0 (by rw [List.getElem?_cons_succ]; exact hi) rfl (by omega) (by simp [flatL, List.take_of_length_le, hF]) rfl hF hs (by simpa using hn) (by simp) hk fun v' w4 S4 H4 => ?_; rw [List.set_cons_succ] at H4; exact h _ _ (S3.trans S4) H4.drop
theorem r_ldN (i : Nat) (H : Holds w L) {F : α → List Value} {k : Nat} {e : TypeId} {oa : Option Addr} {xs : List α} {m : Nat} {sp : List Value} {l c q : Nat} {kk : IntKind} {x : α} {K : Value → Prop}
   (hi : L[i]? = some (rwb F k e oa xs m sp)) (hx : xs[q]? = some x) (hF : ∀ y, (F y).length = k) (hl : q < l) (h : K (.agg (F x).toArray)) :
   Ias k (.slice oa l c) (.int kk (q : Int)) fun y => LdA k y w K := by
 have hlt : q < xs.length := (List.getElem?_eq_some_iff.1 hx).1; obtain ⟨b, rfl, hsp, Hb⟩ := H.rwb i hi (.inl (by omega)); refine r_ias0 hl ?_; refine r_ldA i Hb (F x) (set_get hi) ?_ (hF x) h; have h1 := flatL_get hF xs q x hx
 have hq : q * k + k ≤ xs.length * k := by
   have : (q + 1) * k ≤ xs.length * k := Nat.mul_le_mul_right _ (by omega); rw [Nat.add_mul, Nat.one_mul] at this; exact this
 have hlen := flatL_len (k := k) hF xs; rw [List.drop_append_of_le_length (by omega), List.take_append_of_le_length (by rw [List.length_drop]; omega)]; exact h1
theorem r_bpK {op : BinOp} {x y : Value} {K : Value → Prop} (v : Value) (h : bp op x y = some v) (k : K v) : Bp op x y K := ⟨v, h, k⟩
theorem least_some {l : List String} (h : l ≠ []) : ∃ m, Instr.least l = some m := by
 cases l with
 | nil => exact absurd rfl h
 | cons s r => exact ⟨_, rfl⟩
theorem missing_some {want : Array (String × TypeId)} {got : Array Method} (h : (want.toList.filter fun x => !got.any fun m => m.name == x.1 && m.sig == x.2) ≠ []) : ∃ m, Instr.missingMethod want got = some m := by
 have h2 : ((want.toList.filter fun x => !got.any fun m => m.name == x.1 && m.sig == x.2).map (·.1)) ≠ [] := by simpa using h
 unfold Instr.missingMethod; simp only; generalize ((want.toList.filter fun x => !got.any fun m => m.name == x.1 && m.sig == x.2).map (·.1)) = l at *; rw [List.partition_eq_filter_filter]; simp only
 by_cases h3 : l.filter (fun a => decide (¬ (a.contains '.') = true)) = []
 · have h5 : l.filter (fun a => a.contains '.') ≠ [] := by
     intro h4; apply h2; refine List.eq_nil_iff_forall_not_mem.2 fun x hx => ?_
     by_cases hc : (x.contains '.') = true
     · have : x ∈ l.filter (fun a => a.contains '.') := List.mem_filter.2 ⟨hx, hc⟩; rw [h4] at this; cases this
     · have : x ∈ l.filter (fun a => decide (¬ (a.contains '.') = true)) := List.mem_filter.2 ⟨hx, by simpa using hc⟩; rw [h3] at this; cases this
   obtain ⟨m, hm⟩ := least_some (l := (l.filter (fun a => a.contains '.')).map fun id => (id.splitOn ".").getLastD id) (by simpa using h5)
   cases hx : Instr.least (l.filter (not ∘ fun a => a.contains '.')) with
   | some y => exact ⟨y, by simp⟩
   | none => exact ⟨m, by simpa using hm⟩
 · have h6 : l.filter (not ∘ fun a => a.contains '.') ≠ [] := by
     intro h4; apply h3; rw [← h4]
     congr 1
     funext a
     simp
   obtain ⟨m, hm⟩ := least_some h6; exact ⟨m, by rw [hm]; rfl⟩
theorem r_taNo {P : Program} {t at_ xt : TypeId} {v z : Value} {want : Array (String × TypeId)} {i : TypeInfo} {K : Value → Prop} (hu : P.underlying at_ = some (.interface want)) (hi : P.info? t = some i)
   (hm : (want.toList.filter fun x => !i.methods.any fun m => m.name == x.1 && m.sig == x.2) ≠ []) (hz : ∀ w, (zeroValue at_).run P w = .ok z w) (k : K (.tuple #[z, .bool false])) : Ta P (.iface t v) xt at_ true w K := by
 obtain ⟨m, hm⟩ := missing_some hm; refine ⟨_, ?_, k⟩; simp [Instr.typeAssert, run_underlying hu, typeInfo, hi, hm, hz]
end Go.Vc
namespace Go.Vc
variable {P : Program} {w : World} {L : List HProp}
theorem r_orU32 {s t : Nat} {K : Value → Prop} (hs : s < 4294967296) (ht : t < 4294967296) (h : K (.int .u32 ((s ||| t : Nat) : Int))) : Bp .or (.int .u32 (s : Int)) (.int .u32 (t : Int)) K := by
 refine ⟨_, ?_, h⟩; have hb : IntKind.u32.bits = 32 := rfl; have hx : s ||| t < 2 ^ 32 := Nat.or_lt_two_pow (by simpa using hs) (by simpa using ht); simp only [bp, if_true]; rw [hb, BitVec.toNat_or, BitVec.toNat_ofInt, BitVec.toNat_ofInt]
 have e1 : ((s : Int) % ((2 ^ 32 : Nat) : Int)).toNat = s := by omega
 have e2 : ((t : Int) % ((2 ^ 32 : Nat) : Int)).toNat = t := by omega
 rw [e1, e2, wrapU32 (by omega) (by omega)]
theorem r_addU32 {s t : Nat} {K : Value → Prop} (h1 : s + t < 4294967296) (h : K (.int .u32 ((s + t : Nat) : Int))) : Bp .add (.int .u32 (s : Int)) (.int .u32 (t : Int)) K := by
 refine ⟨_, ?_, h⟩; simp only [bp, if_true]; rw [← Int.natCast_add, wrapU32 (by omega) (by omega)]
theorem r_subU32 {s t : Nat} {K : Value → Prop} (h0 : t ≤ s) (h1 : s < 4294967296) (h : K (.int .u32 ((s - t : Nat) : Int))) : Bp .sub (.int .u32 (s : Int)) (.int .u32 (t : Int)) K := by
 refine ⟨_, ?_, h⟩; simp only [bp, if_true]; rw [show (s : Int) - (t : Int) = ((s - t : Nat) : Int) by omega, wrapU32 (by omega) (by omega)]
theorem r_subU8 {s t : Nat} {K : Value → Prop} (h0 : t ≤ s) (h1 : s < 256) (h : K (.int .u8 ((s - t : Nat) : Int))) : Bp .sub (.int .u8 (s : Int)) (.int .u8 (t : Int)) K := by
 refine ⟨_, ?_, h⟩; simp only [bp, if_true]; rw [show (s : Int) - (t : Int) = ((s - t : Nat) : Int) by omega, wrapU8 (by omega) (by omega)]
theorem Sat_tail {P : HProp} {L L' : List HProp} {h : Hp} (hL : ∀ h, Sat L h → Sat L' h) (H : Sat (P :: L) h) : Sat (P :: L') h := by
 obtain ⟨g, hg, hs, hr⟩ := H; exact ⟨g, hg, hs, hL _ hr⟩
def live : List (Option HProp) → List HProp
 | [] => []
 | none :: M => live M
 | some P :: M => P :: live M
def dead : List (Option HProp) → Nat → List (Option HProp)
 | [], _ => []
 | _ :: M, 0 => none :: M
 | x :: M, i + 1 => x :: dead M i
def sel : List Nat → List (Option HProp) → Option (List HProp)
 | [], _ => some []
 | i :: is, M => match M[i]? with
   | some (some P) => (match sel is (dead M i) with
     | some R => some (P :: R)
     | none => none)
   | _ => none
theorem live_pull : ∀ (M : List (Option HProp)) (i : Nat) {P : HProp} {L : List HProp} {h : Hp}, M[i]? = some (some P) → Sat (live M ++ L) h → Sat (P :: (live (dead M i) ++ L)) h
 | [], i, P, L, h, hi, H => by simp at hi
 | none :: M, 0, P, L, h, hi, H => by simp at hi
 | some Q :: M, 0, P, L, h, hi, H => by
   simp at hi; subst hi; exact H
 | none :: M, i + 1, P, L, h, hi, H => live_pull M i (by simpa using hi) H
 | some Q :: M, i + 1, P, L, h, hi, H => Sat.swap (Sat_tail (fun h' H' => live_pull M i (by simpa using hi) H') H)
theorem live_drop : ∀ (M : List (Option HProp)) {L : List HProp} {h : Hp}, Sat (live M ++ L) h → Sat L h
 | [], _, _, H => H
 | none :: M, _, _, H => live_drop M H
 | some Q :: M, L, h, H => live_drop M (by
   obtain ⟨g, _, _, hL⟩ := H
   exact hL.mono fun b o hb => by
     unfold Hp.minus at hb; split at hb
     · cases hb
     · exact hb)
theorem sel_sat : ∀ (is : List Nat) {M : List (Option HProp)} {R L : List HProp} {h : Hp}, sel is M = some R → Sat (live M ++ L) h → Sat (R ++ L) h
 | [], M, R, L, h, hR, H => by
   cases hR; exact live_drop M H
 | i :: is, M, R, L, h, hR, H => by
   unfold sel at hR; split at hR
   · rename_i P hP; split at hR
     · rename_i R' hR'; cases hR; exact Sat_tail (fun h' H' => sel_sat is hR' H') (live_pull M i hP H)
     · cases hR
   · cases hR
theorem live_some : ∀ (F : List HProp), live (F.map some) = F
 | [] => rfl
 | P :: F => by rw [List.map_cons, live, live_some F]
theorem Holds.ord (n : Nat) (is : List Nat) (H : Holds w L) {R : List HProp} (hR : sel is ((L.take n).map some) = some R) : Holds w (R ++ L.drop n) := by
 refine sel_sat is hR ?_; rw [live_some, List.take_append_drop]; exact H
theorem set_back {i j : Nat} {X Y Q : HProp} (hij : i ≠ j) (hj : L[j]? = some Q) : ((L.set j X).set i Y).set j Q = L.set i Y := by
 have e : L.set j Q = L := by
   have hl : j < L.length := (List.getElem?_eq_some_iff.1 hj).1; have h2 : L[j] = Q := (List.getElem?_eq_some_iff.1 hj).2; rw [← h2, List.set_getElem_self]
 have e1 : (L.set j X).set i Y = (L.set i Y).set j X := List.set_comm _ _ (Ne.symm hij); have e2 : (L.set i Y).set j Q = (L.set j Q).set i Y := List.set_comm _ _ hij; rw [e1, List.set_set, e2, e]
theorem r_apS {α : Type} {t e : TypeId} {z : Value} [hr : Row P t e z] (H : Holds w L) (i j : Nat) (hij : i ≠ j) {f : α → Value} {v v2 : Value} {xs ys : List α} {ty : TypeId} {K : Value → World → Prop}
   (hi : L[i]? = some (SL f e v xs)) (hj : L[j]? = some (SL f e v2 ys)) (hs : ∀ y, sg (f y) = true) (hn : xs.length + ys.length ≤ 1099511627776)
   (h : ∀ v' w', Same w w' → Holds w' (L.set i (SL f e v' (xs ++ ys))) → K v' w') : Ap P #[t, t] ty #[v, v2] w K := by
 obtain ⟨inf, hinf, hsz, hby, hzz⟩ := hr.inf
 have nothing : ys = [] → (∃ oa c, v2 = .slice oa 0 c) → Ap P #[t, t] ty #[v, v2] w K := by
   rintro rfl ⟨oa2, c2, rfl⟩; obtain ⟨oa, sp, rfl, _⟩ := H.open i hi
   have hsrc : Src P inf.size t (.slice oa2 0 c2) 0 [] w := by
     cases oa2 with
     | none => exact Src.ofNil w hr.und c2
     | some a => exact Src.ofSlice w hr.und a 0 c2 [] (by simp) (fun j u hu => by simp at hu) (fun _ h => by cases h)
   refine ⟨_, _, run_append_nothing w t t ty e inf hr.und hinf oa xs.length (xs.length + sp.length) (by omega) _ hsrc, h _ _ (.refl _) ?_⟩
   rw [List.append_nil, show L.set i (SL f e (.slice oa xs.length (xs.length + sp.length)) xs) = L from by
     have hl : i < L.length := (List.getElem?_eq_some_iff.1 hi).1; have e1 : L[i] = _ := (List.getElem?_eq_some_iff.1 hi).2
     rw [← e1, List.set_getElem_self]]
   exact H
 obtain ⟨oa2, sp2, rfl, H1⟩ := H.open j hj
 cases oa2 with
 | none =>
   obtain ⟨g, ⟨h2, _⟩, _⟩ := H1.front j (set_get hj); exact nothing h2 ⟨_, _, by rw [h2]; rfl⟩
 | some a =>
   obtain ⟨g, ⟨h2, h3, _⟩, _⟩ := H1.front j (set_get hj); obtain ⟨b2, o, s⟩ := a; simp only at h2 h3; subst h2; subst h3
   by_cases hy : ys = []
   · exact nothing hy ⟨_, _, by rw [hy]; rfl⟩
   · have hy0 : 0 < ys.length := List.length_pos_iff.2 hy; have H2 := H1.slb j (set_get hj); rw [List.set_set] at H2
     have hi2 : (L.set j (blk b2 e (ys.map f ++ sp2)))[i]? = some (SL f e v xs) := by rw [List.getElem?_set_ne (Ne.symm hij)]; exact hi
     obtain ⟨oa, sp, rfl, H3⟩ := H2.open i hi2; refine r_ap (f := f) (ys := ys) H3 i j (xs := xs) (sp := sp) (set_get hi2) (by rw [List.getElem?_set_ne hij]; exact set_get hj) (by simp) rfl rfl rfl hs hn hy0 fun oa' sp' w4 S4 H4 => ?_; rw [List.set_set] at H4; have hi3 : (L.set j (blk b2 e (ys.map f ++ sp2)))[i]? = some (SL f e (.slice oa xs.length (xs.length + sp.length)) xs) := hi2; have H5 := H4.close i (set_get hi3); rw [List.set_set] at H5; have H6 := H5.at j (Q := SL f e (.slice (some ⟨b2, 0, none⟩) ys.length (ys.length + sp2.length)) ys) (by rw [List.getElem?_set_ne hij]; exact set_get hj) fun g hg => ⟨some ⟨b2, 0, none⟩, sp2, rfl, rfl, rfl, hg⟩; rw [set_back hij hj] at H6
     have e1 : xs.length + ys.length = (xs ++ ys).length := by simp
     rw [e1]; exact h _ _ S4 H6
theorem r_mf {fn : Fn} {f c : Array Value} {K : Value → Prop} (v : Value) (h : (Instr.makeFunc fn f c).run P w = .ok v w) (k : K v) : Mf P fn f c w K := ⟨v, h, k⟩
theorem r_app1K {α : Type} {t e : TypeId} {z : Value} [hr : Row P t e z] (H : Holds w L) (i : Nat) {f : α → Value} {v : Value} {xs : List α} {ty : TypeId} {N : Node} {K : Value → World → Prop}
   (hi : L[i]? = some (SL f e v xs)) (x : α) (hs : ∀ y, sg (f y) = true) (hn : xs.length + 1 ≤ 1099511627776) (hN : ∀ w', Holds w' L → N w' fun u => u = v)
   (h : ∀ v' w', Same w w' → Holds w' (L.set i (SL f e v' (xs ++ [x]))) → K v' w') : Bs P t 1 #[(0, f x)] w fun y w2 => Rk N v w2 (Ap P #[t, t] ty #[v, y] w2 K) := by
 refine r_bs1 H (hs x) fun b3 w3 S3 H3 => r_rk (hN _ H3.drop) ?_; obtain ⟨oa, sp, rfl, H4⟩ := H3.open (i + 1) (by rw [List.getElem?_cons_succ]; exact hi); rw [List.set_cons_succ] at H4; refine r_ap (f := f) (ys := [x]) H4 (i + 1) 0 (xs := xs) (sp := sp) (by rw [List.getElem?_cons_succ]; exact set_get hi) rfl rfl rfl rfl rfl hs (by rw [List.length_singleton]; omega) (by simp) fun oa' sp' w4 S4 H4 => ?_; rw [List.set_cons_succ, List.set_set] at H4; have H5 := H4.drop.close i (set_get hi); rw [List.set_set] at H5
 have e : xs.length + [x].length = (xs ++ [x]).length := by simp
 rw [e]; exact h _ _ (S3.trans S4) H5
theorem r_sslLH {size : Nat} {a : Option Addr} {n c l h : Nat} {k k' : IntKind} {K : Value → Prop} (h1 : l ≤ h) (h2 : h ≤ c) (hK : K (.slice (if c = l then a else a.map (·.add (l * size))) (h - l) (c - l))) :
   Ssl size (.slice a n c) (some (.int k (l : Int))) (some (.int k' (h : Int))) K := ⟨a, n, c, l, h, rfl, ⟨k, rfl⟩, ⟨k', rfl⟩, h1, h2, hK⟩
theorem r_cp {ats : Array TypeId} {t : TypeId} {args : Array Value} {K : Value → World → Prop} {v : Value} {w' : World} (h : (Builtin.copy_ ats t args).run P w = .ok v w') (k : K v w') : Cp P ats t args w K := ⟨v, w', h, k⟩
theorem r_lnS {α : Type} (i : Nat) (H : Holds w L) {f : α → Value} {e : TypeId} {v : Value} {xs : List α} {K : Value → Prop} (hi : L[i]? = some (SL f e v xs)) (h : K (nv xs.length)) : Lnl v K := by
 obtain ⟨oa, sp, rfl, _⟩ := H.open i hi; exact r_lnl h
theorem r_getS {α : Type} (i : Nat) (H : Holds w L) {f : α → Value} {e : TypeId} {v : Value} {xs : List α} {k : IntKind} {j : Nat} {x : α} {K : Value → Prop} (hi : L[i]? = some (SL f e v xs)) (hx : xs[j]? = some x) (h : K (f x)) :
   Ias 1 v (.int k (j : Int)) fun p => Ld p w K := by
 obtain ⟨oa, sp, rfl, H1⟩ := H.open i hi; have hj : j < xs.length := (List.getElem?_eq_some_iff.1 hx).1; refine r_iasN i H1 (set_get hi) hj (Nat.le_refl _) fun b hb => ?_; subst hb; exact r_ldsl i H1 (set_get hi) hx h
theorem r_setS {α : Type} (i : Nat) (H : Holds w L) {f : α → Value} {e : TypeId} {v : Value} {xs : List α} {k : IntKind} {j : Nat} (x : α) {K : World → Prop} (hi : L[i]? = some (SL f e v xs)) (hj : j < xs.length) (hs : sg (f x) = true)
   (h : ∀ w', Same w w' → Holds w' (L.set i (SL f e v (xs.set j x))) → K w') : Ias 1 v (.int k (j : Int)) fun p => St p (f x) w K := by
 obtain ⟨oa, sp, rfl, H1⟩ := H.open i hi; refine r_iasN i H1 (set_get hi) hj (Nat.le_refl _) fun b hb => ?_; subst hb; refine r_stsl i H1 x (set_get hi) hj rfl hs fun w2 S2 H2 => ?_; rw [List.set_set] at H2; have H3 := H2.close i (set_get hi); rw [List.set_set, List.length_set] at H3; exact h _ S2 H3
theorem SL_sg {α : Type} {f : α → Value} {e : TypeId} {v : Value} {xs : List α} (H : Holds w L) (i : Nat) (hi : L[i]? = some (SL f e v xs)) : sg v = true := by
 obtain ⟨oa, sp, rfl, _⟩ := H.open i hi; rfl
theorem mid_get {α : Type} {f : α → Value} (pre : List Value) {post : List Value} {xs : List α} {j : Nat} {x : α} (h : xs[j]? = some x) : (pre ++ (xs.map f ++ post))[pre.length + j]? = some (f x) := by
 have hj : j < xs.length := (List.getElem?_eq_some_iff.1 h).1; rw [List.getElem?_append_right (by omega), Nat.add_sub_cancel_left, List.getElem?_append_left (by simpa using hj), List.getElem?_map, h]; rfl
theorem mid_set {α : Type} {f : α → Value} (pre : List Value) {post : List Value} {xs : List α} {j : Nat} (x : α) (h : j < xs.length) : (pre ++ (xs.map f ++ post)).set (pre.length + j) (f x) = pre ++ ((xs.set j x).map f ++ post) := by
 rw [List.set_append_right _ _ (by omega), Nat.add_sub_cancel_left, List.set_append_left _ _ (by simpa using h), List.map_set]
end Go.Vc
namespace Go.M01
def valB (l : List Bool) : Nat := l.foldl (fun a b => 2 * a + b.toNat) 0
theorem valB_snoc (l : List Bool) (b : Bool) : valB (l ++ [b]) = 2 * valB l + b.toNat := by simp [valB]
theorem valB_lt (l : List Bool) : valB l < 2 ^ l.length := by
 have h : ∀ n (l : List Bool), l.length = n → valB l < 2 ^ n := by
   intro n
   induction n with
   | zero => intro l hl; rw [List.length_eq_zero_iff.1 hl]; decide
   | succ n ih =>
     intro l hl
     have hne : l ≠ [] := by rintro rfl; simp at hl
     rw [← List.dropLast_concat_getLast hne, valB_snoc, Nat.pow_succ]; have h1 := ih l.dropLast (by simp [hl]); have h2 := Bool.toNat_le (l.getLast hne); omega
 exact h _ l rfl
def byteAt (bs : List Bool) (i : Nat) : UInt8 := UInt8.ofNat (valB ((bs.drop (8 * i)).take 8))
def wholeB (bs : List Bool) : List UInt8 := (List.range (bs.length / 8)).map (byteAt bs)
def restB (bs : List Bool) : Nat := valB (bs.drop (8 * (bs.length / 8))) * 2 ^ (8 - bs.length % 8) % 256
theorem or_bit : ∀ r, r < 8 → ∀ v, v < 128 → ∀ b : Bool, v < 2 ^ r → (v * 2 ^ (8 - r) % 256) ||| (b.toNat * 2 ^ (7 - r) % 256) = (2 * v + b.toNat) * 2 ^ (7 - r) := by decide +kernel
theorem wholeB_len (bs : List Bool) : (wholeB bs).length = bs.length / 8 := by simp [wholeB]
theorem put_bit (bs : List Bool) (b : Bool) (h : bs.length % 8 < 7) :
   wholeB (bs ++ [b]) = wholeB bs ∧ restB (bs ++ [b]) = restB bs ||| (b.toNat * 2 ^ (7 - bs.length % 8) % 256) ∧ restB (bs ++ [b]) < 256 := by
 have hl : (bs ++ [b]).length = bs.length + 1 := by simp
 have hd : (bs.length + 1) / 8 = bs.length / 8 := by omega
 have hm : (bs.length + 1) % 8 = bs.length % 8 + 1 := by omega
 refine ⟨?_, ?_, ?_⟩
 · unfold wholeB; rw [hl, hd]; apply List.map_congr_left; intro i hi; rw [List.mem_range] at hi; unfold byteAt; rw [List.drop_append_of_le_length (by omega), List.take_append_of_le_length (by rw [List.length_drop]; omega)]
 · unfold restB; rw [hl, hd, hm, List.drop_append_of_le_length (by omega), valB_snoc]; have hv := valB_lt (bs.drop (8 * (bs.length / 8))); rw [List.length_drop, show bs.length - 8 * (bs.length / 8) = bs.length % 8 by omega] at hv; have h7 : 2 ^ (bs.length % 8) ≤ 2 ^ 6 := Nat.pow_le_pow_right (by omega) (by omega); rw [or_bit (bs.length % 8) (by omega) _ (by omega) b hv, show 8 - (bs.length % 8 + 1) = 7 - bs.length % 8 by omega]; refine Nat.mod_eq_of_lt ?_; have hb := Bool.toNat_le b
   have h1 : 2 * valB (bs.drop (8 * (bs.length / 8))) + b.toNat < 2 ^ (bs.length % 8 + 1) := by rw [Nat.pow_succ]; omega
   calc _ < 2 ^ (bs.length % 8 + 1) * 2 ^ (7 - bs.length % 8) := Nat.mul_lt_mul_of_pos_right h1 (Nat.two_pow_pos _)
     _ = 2 ^ 8 := by rw [← Nat.pow_add]; congr 1; omega
 · unfold restB; exact Nat.mod_lt _ (by decide)
theorem put_last (bs : List Bool) (b : Bool) (h : bs.length % 8 = 7) :
   wholeB (bs ++ [b]) = wholeB bs ++ [UInt8.ofNat (restB bs ||| (b.toNat * 2 ^ (7 - bs.length % 8) % 256))] ∧ restB (bs ++ [b]) = 0 := by
 have hl : (bs ++ [b]).length = bs.length + 1 := by simp
 have hd : (bs.length + 1) / 8 = bs.length / 8 + 1 := by omega
 have hv := valB_lt (bs.drop (8 * (bs.length / 8))); rw [List.length_drop, show bs.length - 8 * (bs.length / 8) = 7 by omega] at hv; refine ⟨?_, ?_⟩
 · unfold wholeB; rw [hl, hd, List.range_succ, List.map_append]
   congr 1
   · apply List.map_congr_left; intro i hi; rw [List.mem_range] at hi; unfold byteAt; rw [List.drop_append_of_le_length (by omega), List.take_append_of_le_length (by rw [List.length_drop]; omega)]
   · rw [List.map_singleton]; unfold restB byteAt; rw [h, or_bit 7 (by omega) _ (by omega) b hv, List.drop_append_of_le_length (by omega), List.take_of_length_le (by simp; omega), valB_snoc]; simp
 · unfold restB; rw [hl, hd, List.drop_of_length_le (by simp; omega), show valB [] = 0 from rfl, Nat.zero_mul]
theorem restB_lt (bs : List Bool) : restB bs < 256 := Nat.mod_lt _ (by decide)
def bitsOf (v n : Nat) : List Bool := (List.range n).map fun i => v.testBit (n - 1 - i)
theorem bitsOf_len (v n : Nat) : (bitsOf v n).length = n := by simp [bitsOf]
theorem bitsOf_get (v n i : Nat) (h : i < n) : (bitsOf v n)[i]? = some (v.testBit (n - 1 - i)) := by simp [bitsOf, h]
theorem bit_at (v j : Nat) : (v / 2 ^ j) &&& 1 = (v.testBit j).toNat := by
 rw [Nat.and_one_is_mod, Nat.testBit_eq_decide_div_mod_eq]
 rcases Nat.mod_two_eq_zero_or_one (v / 2 ^ j) with h | h <;> simp [h]
theorem take_bit (v n i : Nat) (h : i < n) : (bitsOf v n).take (i + 1) = (bitsOf v n).take i ++ [v.testBit (n - 1 - i)] := by
 rw [List.take_add_one, bitsOf_get v n i h]; rfl
end Go.M01
namespace Go.Mb
open Go.M01
def bitsL : List UInt8 → List Bool
 | [] => []
 | c :: s => bitsOf c.toNat 8 ++ bitsL s
theorem bitsOf_get (v n i : Nat) (h : i < n) : (bitsOf v n)[i]? = some (v.testBit (n - 1 - i)) := by
 have := take_bit v n i h
 have h2 : ((bitsOf v n).take (i + 1))[i]? = (bitsOf v n)[i]? := by rw [List.getElem?_take_of_lt (by omega)]
 rw [← h2, this, List.getElem?_append_right (by rw [List.length_take, bitsOf_len]; omega)]; rw [List.length_take, bitsOf_len, show i - min i n = 0 by omega]; rfl
def rest (B : List UInt8) (at_ : Nat) : List Bool := (bitsL B).drop at_
theorem take_snoc {α : Type} {l : List α} {n : Nat} {x : α} (h : l[n]? = some x) : l.take (n + 1) = l.take n ++ [x] := by
 rw [List.take_add_one, h]; rfl
def chr (b : Bool) : UInt8 := match b with
 | true => 49
 | false => 48
def txt (l : List Bool) : List UInt8 := l.map chr
theorem txt_len (l : List Bool) : (txt l).length = l.length := List.length_map ..
theorem txt_app (a b : List Bool) : txt (a ++ b) = txt a ++ txt b := List.map_append ..
theorem txt_getD (l : List Bool) (i : Nat) (h : i < l.length) : (txt l).getD i 0 = chr (l.getD i false) := by
 simp [txt, List.getD, h]
theorem valB_nil : valB [] = 0 := rfl
theorem valB_one (b : Bool) : valB [b] = b.toNat := by simp [valB]
theorem valB_take_lt (l : List Bool) (n : Nat) : valB (l.take n) < 2 ^ n := Nat.lt_of_lt_of_le (valB_lt _) (Nat.pow_le_pow_right (by decide) (by rw [List.length_take]; omega))
end Go.Mb
namespace Go.Mp
open Go.M01 Go.Mb
inductive Res (σ : Type) where
 | short
 | bad (e : Nat)
 | ok (s : σ) (k : Nat)
def lead : List Bool → Nat
 | true :: l => lead l + 1
 | _ => 0
def front (o : List Nat) (i : Nat) : List Nat := o.getD i 0 :: (o.take i ++ o.drop (i + 1))
theorem front_len {o : List Nat} {i : Nat} (h : i < o.length) : (front o i).length = o.length := by
 simp only [front, List.length_cons, List.length_append, List.length_take, List.length_drop]; omega
structure PS where
 t : Nat
 count : Nat
 order : List Nat
 picks : List Nat
def p0 : PS := ⟨0, 0, [0, 1, 2, 3, 4, 5], []⟩
def PS.done (p : PS) : Bool := decide (0 < p.count ∧ p.picks.length = p.count)
def pstep (p : PS) (l : List Bool) : Res PS :=
 if p.count = 0 then
   if l.length < 18 then .short
   else
     if valB (l.take 18) / 32768 < 2 ∨ 6 < valB (l.take 18) / 32768 ∨ valB (l.take 18) % 32768 = 0 then .bad 25
     else .ok ⟨valB (l.take 18) / 32768, valB (l.take 18) % 32768, p.order, p.picks⟩ 18
 else
   if p.t ≤ lead l then .bad 25
   else if lead l = l.length then .short
   else .ok ⟨p.t, p.count, front p.order (lead l), p.picks ++ [p.order.getD (lead l) 0]⟩ (lead l + 1)
structure PS.Ok (p : PS) : Prop where
 ord : p.order.length = 6
 cnt : p.count ≤ 32767
 len : p.picks.length ≤ p.count
 new : p.count = 0 → p.t = 0 ∧ p.order = [0, 1, 2, 3, 4, 5]
 tbl : 0 < p.count → 2 ≤ p.t ∧ p.t ≤ 6
 low : ∀ i, i < p.t → p.order.getD i 0 < p.t
 pks : ∀ x ∈ p.picks, x < p.t
structure DS where
 size : Nat
 now : Nat
 lens : List Nat
def d0 (size : Nat) : DS := ⟨size, 0, []⟩
def DS.done (d : DS) : Bool := decide (d.lens.length = d.size)
def turn (d : DS) (n : Int) (k : Nat) : Res DS := if n < 1 ∨ 20 < n then .bad 22 else .ok ⟨d.size, n.toNat, d.lens⟩ k
def dstep (d : DS) (l : List Bool) : Res DS :=
 if d.now = 0 then if l.length < 5 then .short else turn d (valB (l.take 5)) 5
 else match l with
   | [] => .short
   | false :: _ => .ok ⟨d.size, d.now, d.lens ++ [d.now]⟩ 1
   | [true] => .short
   | true :: c :: _ => turn d ((d.now : Int) + 1 - 2 * c.toNat) 2
structure DS.Ok (d : DS) : Prop where
 now : d.now ≤ 20
 len : d.lens.length ≤ d.size
 all : ∀ x ∈ d.lens, 1 ≤ x ∧ x ≤ 20
end Go.Mp
namespace Go.M10
open Go.M01 Go.Mb
def nx (lens : List Nat) : Nat → Nat
 | 0 => 0
 | n + 1 => 2 * nx lens n + lens.count (n + 1)
def fst_ (lens : List Nat) (n : Nat) : Nat := 2 * nx lens (n - 1)
def grp (lens : List Nat) (k n : Nat) : List Nat := (List.range k).filter fun i => decide (lens.getD i 0 = n)
def upto (lens : List Nat) : Nat → List Nat
 | 0 => []
 | n + 1 => upto lens n ++ grp lens lens.length (n + 1)
def frm (lens : List Nat) (n : Nat) : Nat := (upto lens (n - 1)).length
def share (lens : List Nat) : Nat := (lens.map fun x => 2 ^ (20 - x)).sum
def Sized (lens : List Nat) : Prop := ∀ x ∈ lens, 1 ≤ x ∧ x ≤ 20
structure Whole (lens : List Nat) : Prop where
 sized : Sized lens
 share : share lens = 1048576
theorem grp_len (lens : List Nat) (n : Nat) : ∀ k, k ≤ lens.length → (grp lens k n).length = (lens.take k).count n := by
 intro k
 induction k with
 | zero => intro _; simp [grp]
 | succ k ih =>
   intro hk; have := ih (by omega); unfold grp at this ⊢; have hg : lens[k]? = some lens[k] := List.getElem?_eq_getElem (by omega); rw [List.range_succ, List.filter_append, List.length_append, this, take_snoc hg, List.count_append]
   congr 1
   have hd : lens.getD k 0 = lens[k] := by rw [List.getD_eq_getElem?_getD, hg]; rfl
   rw [List.filter_cons, hd, List.filter_nil, List.count_cons, List.count_nil]
   by_cases h : lens[k] = n
   · rw [if_pos (by simpa using h), if_pos (by simpa using h)]; rfl
   · rw [if_neg (by simpa using h), if_neg (by simpa using h)]; rfl
theorem grp_len' (lens : List Nat) (n : Nat) : (grp lens lens.length n).length = lens.count n := by
 rw [grp_len lens n _ (Nat.le_refl _), List.take_length]
theorem frm_succ (lens : List Nat) (n : Nat) (h : 1 ≤ n) : frm lens (n + 1) = frm lens n + lens.count n := by
 obtain ⟨m, rfl⟩ : ∃ m, n = m + 1 := ⟨n - 1, by omega⟩; unfold frm; rw [Nat.add_sub_cancel, Nat.add_sub_cancel, upto, List.length_append, grp_len']
theorem nx_eq (lens : List Nat) (n : Nat) (h : 1 ≤ n) : nx lens n = fst_ lens n + lens.count n := by
 obtain ⟨m, rfl⟩ : ∃ m, n = m + 1 := ⟨n - 1, by omega⟩; rw [nx, fst_, Nat.add_sub_cancel]
def shareTo (lens : List Nat) (n : Nat) : Nat := (lens.map fun x => if x ≤ n then 2 ^ (20 - x) else 0).sum
theorem shareTo_succ (lens : List Nat) (n : Nat) : shareTo lens (n + 1) = shareTo lens n + lens.count (n + 1) * 2 ^ (20 - (n + 1)) := by
 induction lens with
 | nil => simp [shareTo]
 | cons x l ih =>
   simp only [shareTo, List.map_cons, List.sum_cons] at ih ⊢; rw [ih, List.count_cons]
   by_cases h1 : x ≤ n
   · rw [if_pos (by omega), if_pos h1, if_neg (by simp; omega)]; simp; omega
   · by_cases h2 : x = n + 1
     · subst h2; rw [if_pos (by omega), if_neg h1, if_pos (by simp), Nat.add_mul]; omega
     · rw [if_neg (by omega), if_neg h1, if_neg (by simpa using h2)]; simp
theorem nx_share {lens : List Nat} (hs : Sized lens) : ∀ n, n ≤ 20 → nx lens n * 2 ^ (20 - n) = shareTo lens n := by
 intro n
 induction n with
 | zero =>
   intro _
   have : ∀ l : List Nat, (∀ x ∈ l, 1 ≤ x) → shareTo l 0 = 0 := by
     intro l
     induction l with
     | nil => intro _; rfl
     | cons x l ih =>
       intro h; simp only [shareTo, List.map_cons, List.sum_cons] at ih ⊢; rw [ih fun y hy => h y (List.mem_cons_of_mem _ hy), if_neg (by have := h x List.mem_cons_self; omega)]
   rw [this lens fun x hx => (hs x hx).1]; simp [nx]
 | succ n ih =>
   intro hn; rw [shareTo_succ, ← ih (by omega), nx, Nat.add_mul]
   congr 1
   rw [show 20 - n = (20 - (n + 1)) + 1 by omega, Nat.pow_succ]; rw [Nat.mul_comm 2, Nat.mul_assoc, Nat.mul_comm 2]
theorem shareTo_20 {lens : List Nat} (hs : Sized lens) : shareTo lens 20 = share lens := by
 induction lens with
 | nil => rfl
 | cons x l ih =>
   simp only [shareTo, share, List.map_cons, List.sum_cons] at ih ⊢; rw [ih fun y hy => hs y (List.mem_cons_of_mem _ hy), if_pos (hs x List.mem_cons_self).2]
theorem nx_20 {lens : List Nat} (h : Whole lens) : nx lens 20 = 1048576 := by
 have := nx_share h.sized 20 (by omega); rw [shareTo_20 h.sized, h.share] at this; omega
theorem nx_mono (lens : List Nat) (n : Nat) : 2 * nx lens n ≤ nx lens (n + 1) := by rw [nx]; omega
theorem nx_pow (lens : List Nat) (n : Nat) : ∀ k, nx lens n * 2 ^ k ≤ nx lens (n + k) := by
 intro k
 induction k with
 | zero => simp
 | succ k ih =>
   have := nx_mono lens (n + k); rw [Nat.pow_succ, ← Nat.mul_assoc, ← Nat.add_assoc]; omega
theorem nx_le {lens : List Nat} (h : Whole lens) (n : Nat) (hn : n ≤ 20) : nx lens n ≤ 2 ^ n := by
 have h1 := nx_pow lens n (20 - n); rw [show n + (20 - n) = 20 by omega, nx_20 h] at h1
 have h2 : 2 ^ n * 2 ^ (20 - n) = 1048576 := by rw [← Nat.pow_add, show n + (20 - n) = 20 by omega]
 rw [← h2] at h1; exact Nat.le_of_mul_le_mul_right h1 (Nat.two_pow_pos _)
theorem frm_le (lens : List Nat) (h : Sized lens) : ∀ n, n ≤ 20 → (upto lens n).length ≤ lens.length := by
 have key : ∀ n, (upto lens n).length = (lens.filter fun x => decide (1 ≤ x ∧ x ≤ n)).length := by
   intro n
   induction n with
   | zero =>
     have : ∀ l : List Nat, (l.filter fun x => decide (1 ≤ x ∧ x ≤ 0)) = [] := fun l => by
       rw [List.filter_eq_nil_iff]; intro x _; simp; omega
     rw [this]; rfl
   | succ n ih =>
     rw [upto, List.length_append, ih, grp_len']; clear ih h
     induction lens with
     | nil => rfl
     | cons x l ih =>
       rw [List.count_cons, List.filter_cons, List.filter_cons]
       by_cases h1 : 1 ≤ x ∧ x ≤ n
       · rw [if_pos (by simpa using h1), if_neg (by simp; omega), if_pos (by simp; omega)]; simp only [List.length_cons]; omega
       · by_cases h2 : x = n + 1
         · subst h2; rw [if_neg (by simp), if_pos (by simp), if_pos (by simp)]; simp only [List.length_cons]; omega
         · rw [if_neg (by simpa using h1), if_neg (by simpa using h2), if_neg (by simp; omega)]; omega
 intro n _; rw [key]; exact List.length_filter_le _ _
def hit (lens : List Nat) (l : List Bool) (i : Nat) : Bool := decide (i + 1 ≤ l.length ∧ valB (l.take (i + 1)) < nx lens (i + 1))
def getC (lens : List Nat) (l : List Bool) : Option (Nat × Nat) :=
 ((List.range 20).find? (hit lens l)).map fun i => ((upto lens 20).getD (frm lens (i + 1) + (valB (l.take (i + 1)) - fst_ lens (i + 1))) 0, i + 1)
theorem valB_take_succ {l : List Bool} {n : Nat} (h : n < l.length) : valB (l.take (n + 1)) = 2 * valB (l.take n) + (l.getD n false).toNat := by
 have hg : l[n]? = some l[n] := List.getElem?_eq_getElem h; rw [take_snoc hg, valB_snoc, List.getD_eq_getElem?_getD, hg]; rfl
def codeN (lens : List Nat) (i : Nat) : Nat := fst_ lens (lens.getD i 0) + (lens.take i).count (lens.getD i 0)
def codeB (lens : List Nat) (i : Nat) : List Bool := bitsOf (codeN lens i) (lens.getD i 0)
theorem count_lt {lens : List Nat} {i n : Nat} (hi : i < lens.length) (hn : lens.getD i 0 = n) : (lens.take i).count n < lens.count n := by
 have hg : lens[i]? = some lens[i] := List.getElem?_eq_getElem hi; have h1 : lens = lens.take i ++ lens.drop i := (List.take_append_drop i lens).symm
 have h2 : lens.count n = (lens.take i).count n + (lens.drop i).count n := by
   conv => lhs; rw [h1, List.count_append]
 have h3 : 0 < (lens.drop i).count n := by
   rw [List.count_pos_iff]
   have : (lens.drop i)[0]? = some lens[i] := by rw [List.getElem?_drop, Nat.add_zero, hg]
   have := List.mem_of_getElem? this
   have h4 : lens.getD i 0 = lens[i] := by rw [List.getD_eq_getElem?_getD, hg]; rfl
   rw [← hn, h4]; exact this
 omega
theorem codeN_lt {lens : List Nat} {i : Nat} (hi : i < lens.length) (h1 : 1 ≤ lens.getD i 0) : codeN lens i < nx lens (lens.getD i 0) := by
 rw [nx_eq _ _ h1, codeN]; have := count_lt hi rfl; omega
theorem valB_bitsOf (v n : Nat) (h : v < 2 ^ n) : valB (bitsOf v n) = v := by
 have key : ∀ i, i ≤ n → valB ((bitsOf v n).take i) = v / 2 ^ (n - i) := by
   intro i
   induction i with
   | zero => intro _; rw [List.take_zero, valB_nil, Nat.sub_zero, Nat.div_eq_of_lt h]
   | succ i ih =>
     intro hi; rw [take_bit v n i (by omega), valB_snoc, ih (by omega)]; have h2 := bit_at v (n - (i + 1)); rw [Nat.and_one_is_mod] at h2; rw [show n - 1 - i = n - (i + 1) by omega, ← h2, show n - i = (n - (i + 1)) + 1 by omega, Nat.pow_succ, ← Nat.div_div_eq_div_mul]; omega
 have := key n (Nat.le_refl _); rw [List.take_of_length_le (by rw [bitsOf_len]; omega), Nat.sub_self] at this; simpa using this
theorem valB_inj : ∀ {n : Nat} {a b : List Bool}, a.length = n → b.length = n → valB a = valB b → a = b := by
 intro n
 induction n with
 | zero => intro a b ha hb _; rw [List.length_eq_zero_iff.1 ha, List.length_eq_zero_iff.1 hb]
 | succ n ih =>
   intro a b ha hb h
   have hane : a ≠ [] := by rintro rfl; simp at ha
   have hbne : b ≠ [] := by rintro rfl; simp at hb
   rw [← List.dropLast_concat_getLast hane, ← List.dropLast_concat_getLast hbne] at h ⊢; rw [valB_snoc, valB_snoc] at h; have h1 := Bool.toNat_le (a.getLast hane); have h2 := Bool.toNat_le (b.getLast hbne); rw [ih (a := a.dropLast) (b := b.dropLast) (by simp [ha]) (by simp [hb]) (by omega)]
   have h3 : (a.getLast hane).toNat = (b.getLast hbne).toNat := by omega
   generalize a.getLast hane = x at *; generalize b.getLast hbne = y at *
   cases x <;> cases y <;> simp_all
end Go.M10
namespace Go.Mc
open Go.M01 Go.Mb Go.Mp Go.M10
structure CS where
 size : Nat
 picks : PS
 lens : DS
 codes : List (List Nat)
 count : Nat
 done : Bool
def c0 (size : Nat) : CS := ⟨size, p0, d0 size, [], 0, false⟩
def withPicks (c : CS) : Res PS → Res (CS × Option Nat)
 | .short => .short
 | .bad e => .bad e
 | .ok p k => .ok (⟨c.size, p, c.lens, c.codes, c.count, c.done⟩, none) k
def withLens (c : CS) : Res DS → Res (CS × Option Nat)
 | .short => .short
 | .bad e => .bad e
 | .ok d k => if d.done = true then
     if share d.lens = 1048576 then .ok (⟨c.size, c.picks, d0 c.size, c.codes ++ [d.lens], c.count, c.done⟩, none) k else .bad 22
   else .ok (⟨c.size, c.picks, d, c.codes, c.count, c.done⟩, none) k
def withSymbol (c : CS) : Option (Nat × Nat) → Res (CS × Option Nat)
 | none => .short
 | some (s, k) => .ok (⟨c.size, c.picks, c.lens, c.codes, c.count + 1, decide (s = c.size - 1)⟩, some s) k
def CS.table (c : CS) : List Nat := c.codes.getD (c.picks.picks.getD (c.count / 50) 0) []
def cstep (c : CS) (l : List Bool) : Res (CS × Option Nat) :=
 if c.picks.done = false then withPicks c (pstep c.picks l)
 else if c.codes.length < c.picks.t then withLens c (dstep c.lens l)
 else if c.picks.picks.length ≤ c.count / 50 then .bad 25
 else withSymbol c (getC c.table l)
structure CS.Ok (c : CS) : Prop where
 pk : c.picks.Ok
 dl : c.lens.Ok
 s1 : 3 ≤ c.size
 s2 : c.size ≤ 258
 ds : c.lens.size = c.size
 dd : c.lens.done = false
 cl : c.codes.length ≤ c.picks.t
 cw : ∀ l ∈ c.codes, Whole l ∧ l.length = c.size
 ct : c.count ≤ 2000000
 cn : c.picks.done = false → c.codes = []
end Go.Mc
namespace Go.Mz
structure ZS where
 n : Nat
 most : Nat
 told : Nat
 zeros : Nat
 weight : Nat
 done : Bool
def z0 (n most : Nat) : ZS := ⟨n, most, 0, 0, 1, false⟩
def zput (z : ZS) (c : Nat) : Option (ZS × Nat × Int) :=
 if c ≤ 1 then
   if z.most < z.told + z.zeros + z.weight * 2 ^ c then none
   else some (⟨z.n, z.most, z.told, z.zeros + z.weight * 2 ^ c, z.weight * 2, false⟩, 0, -1)
 else if c = z.n + 1 then some (⟨z.n, z.most, z.told + z.zeros, 0, 1, true⟩, z.zeros, -1)
 else if z.told + z.zeros = z.most then none
 else some (⟨z.n, z.most, z.told + 1 + z.zeros, 0, 1, false⟩, z.zeros, (c : Int) - 1)
structure ZS.Ok (z : ZS) : Prop where
 n1 : 1 ≤ z.n
 n2 : z.n ≤ 256
 most : z.most ≤ 900000
 sum : z.told + z.zeros ≤ z.most
 w1 : 1 ≤ z.weight
 w2 : z.weight ≤ z.zeros + 1
def frontB (o : List UInt8) (i : Nat) : List UInt8 := o.getD i 0 :: (o.take i ++ o.drop (i + 1))
theorem frontB_len {o : List UInt8} {i : Nat} (h : i < o.length) : (frontB o i).length = o.length := by
 simp only [frontB, List.length_cons, List.length_append, List.length_take, List.length_drop]; omega
def listed (T : Nat → Bool) : List UInt8 := ((List.range 256).filter T).map UInt8.ofNat
theorem listed_len (T : Nat → Bool) : (listed T).length ≤ 256 := by
 rw [listed, List.length_map]; exact Nat.le_trans (List.length_filter_le _ _) (by simp)
theorem listed_lt (T : Nat → Bool) : (listed T).Pairwise fun a b => a.toNat < b.toNat := by
 unfold listed; rw [List.pairwise_map]; refine List.Pairwise.imp_of_mem (R := fun a b => a < b) (fun {a b} ha hb h => ?_) (List.Pairwise.filter _ List.pairwise_lt_range); have h1 := List.mem_range.1 (List.mem_filter.1 ha).1; have h2 := List.mem_range.1 (List.mem_filter.1 hb).1; rw [UInt8.toNat_ofNat_of_lt' (by simpa using h1), UInt8.toNat_ofNat_of_lt' (by simpa using h2)]; exact h
theorem listed_step (T : Nat → Bool) (i : Nat) (h : i + 1 < (listed T).length) : ((listed T).getD i 0).toNat < ((listed T).getD (i + 1) 0).toNat := by
 have := List.pairwise_iff_getElem.1 (listed_lt T) i (i + 1) (by omega) h (by omega); rw [List.getD_eq_getElem?_getD, List.getD_eq_getElem?_getD, List.getElem?_eq_getElem (by omega), List.getElem?_eq_getElem h]; exact this
open Go.M01 Go.Mb Go.Mp
def marksL (q : List Bool) : List Nat := (List.range 16).filter fun i => q.getD i false
def usedT : List Nat → List Bool → Nat → Bool
 | [], _, _ => false
 | i :: ms, l, b => (decide (b / 16 = i) && l.getD (b % 16) false) || usedT ms (l.drop 16) b
def uread (l : List Bool) : Res (Nat → Bool) :=
 if l.length < 16 then .short
 else if l.length < 16 + 16 * (marksL (l.take 16)).length then .short
 else if listed (usedT (marksL (l.take 16)) (l.drop 16)) = [] then .bad 25
 else .ok (usedT (marksL (l.take 16)) (l.drop 16)) (16 + 16 * (marksL (l.take 16)).length)
def boolsT (T : Nat → Bool) : List Bool := (List.range 256).map T
theorem boolsT_len (T : Nat → Bool) : (boolsT T).length = 256 := by simp [boolsT]
theorem boolsT_set (T : Nat → Bool) (x : Nat) : (boolsT T).set x true = boolsT fun b => T b || decide (b = x) := by
 apply List.ext_getElem
 · simp [boolsT]
 intro i h1 h2; rw [List.getElem_set]; simp only [boolsT, List.getElem_map, List.getElem_range]
 by_cases h : x = i
 · subst h; simp
 · rw [if_neg h, decide_eq_false (fun e => h e.symm), Bool.or_false]
theorem boolsT_get (T : Nat → Bool) {i : Nat} (h : i < 256) : (boolsT T)[i]? = some (T i) := by rw [boolsT, List.getElem?_map, List.getElem?_range h]; rfl
theorem boolsT_false : boolsT (fun _ => false) = List.replicate 256 false := by rw [boolsT, List.map_const', List.length_range]
end Go.Mz
namespace Go.Mx
open Go.M01 Go.Mb Go.Mz
def bitR (T : Nat → Bool) (i : Nat) : List Bool := (List.range 16).map fun k => T (16 * i + k)
def someB (T : Nat → Bool) (i : Nat) : Bool := (List.range 16).any fun k => T (16 * i + k)
def whichB (T : Nat → Bool) (j : Nat) : List Bool := (List.range 16).map fun i => decide (i < j) && someB T i
def rowsB (T : Nat → Bool) : Nat → List Bool
 | 0 => []
 | j + 1 => rowsB T j ++ if someB T j then bitR T j else []
def usedB (T : Nat → Bool) : List Bool := whichB T 16 ++ rowsB T 16
theorem bitR_len (T : Nat → Bool) (i : Nat) : (bitR T i).length = 16 := by simp [bitR]
theorem whichB_len (T : Nat → Bool) (j : Nat) : (whichB T j).length = 16 := by simp [whichB]
theorem bitR_get (T : Nat → Bool) (i k : Nat) (h : k < 16) : (bitR T i).getD k false = T (16 * i + k) := by
 rw [List.getD_eq_getElem?_getD, bitR, List.getElem?_map, List.getElem?_range h]; rfl
theorem whichB_get (T : Nat → Bool) (j i : Nat) (h : i < 16) : (whichB T j).getD i false = (decide (i < j) && someB T i) := by
 rw [List.getD_eq_getElem?_getD, whichB, List.getElem?_map, List.getElem?_range h]; rfl
theorem valB_bitL : ∀ {q : List Bool} {i : Nat}, i < q.length → (valB q).testBit (q.length - 1 - i) = q.getD i false := by
 intro q
 induction q with
 | nil => intro i h; simp at h
 | cons x l ih =>
   intro i h
   have hc : valB (x :: l) = 2 ^ l.length * x.toNat + valB l := by
     have key : ∀ (l : List Bool) (a : Nat), l.foldl (fun a b => 2 * a + b.toNat) a = a * 2 ^ l.length + valB l := by
       intro l
       induction l with
       | nil => intro a; simp [valB]
       | cons y l ih2 =>
         intro a
         have e : valB (y :: l) = y.toNat * 2 ^ l.length + valB l := by
           have := ih2 y.toNat; rw [← this]; simp [valB]
         rw [e, List.foldl_cons, ih2, List.length_cons, Nat.pow_succ, Nat.add_mul, Nat.mul_comm 2 a, Nat.mul_assoc, Nat.mul_comm 2]; omega
     have := key l x.toNat; rw [Nat.mul_comm, ← this]; simp [valB]
   rw [hc, Nat.testBit_two_pow_mul_add _ (valB_lt l)]; simp only [List.length_cons] at h ⊢
   cases i with
   | zero =>
     rw [if_neg (by omega), show l.length + 1 - 1 - 0 - l.length = 0 by omega]
     cases x <;> rfl
   | succ i =>
     rw [if_pos (by omega), show l.length + 1 - 1 - (i + 1) = l.length - 1 - i by omega, ih (by omega)]; rfl
theorem valB_or {a b : List Bool} {n k : Nat} (ha : a.length = n) (hb : b.length = n) (hk : k < n) (h : ∀ i, i < n → b.getD i false = (a.getD i false || decide (i = k))) : valB a ||| 2 ^ (n - 1 - k) = valB b := by
 apply Nat.eq_of_testBit_eq; intro j; rw [Nat.testBit_or, Nat.testBit_two_pow]
 by_cases hj : j < n
 · have h1 := valB_bitL (q := a) (i := n - 1 - j) (by omega); have h2 := valB_bitL (q := b) (i := n - 1 - j) (by omega); rw [ha, show n - 1 - (n - 1 - j) = j by omega] at h1; rw [hb, show n - 1 - (n - 1 - j) = j by omega] at h2; rw [h1, h2, h _ (by omega)]
   congr 1
   rw [Bool.eq_iff_iff, decide_eq_true_iff, decide_eq_true_iff]; omega
 · have h1 : (valB a).testBit j = false := Nat.testBit_lt_two_pow (Nat.lt_of_lt_of_le (by have := valB_lt a; rwa [ha] at this) (Nat.pow_le_pow_right (by decide) (by omega))); have h2 : (valB b).testBit j = false := Nat.testBit_lt_two_pow (Nat.lt_of_lt_of_le (by have := valB_lt b; rwa [hb] at this) (Nat.pow_le_pow_right (by decide) (by omega))); rw [h1, h2, Bool.false_or, decide_eq_false (by omega)]
theorem bits_val (l : List Bool) : bitsOf (valB l) l.length = l := by
 apply List.ext_getElem (by rw [bitsOf_len]); intro i h1 h2; have hg := Go.M01.bitsOf_get (valB l) l.length i h2; rw [List.getElem?_eq_getElem h1] at hg; have := valB_bitL h2; rw [List.getD_eq_getElem?_getD, List.getElem?_eq_getElem h2] at this; rw [Option.some.inj hg, this]; rfl
theorem row_zero {T : Nat → Bool} {i : Nat} : valB (bitR T i) = 0 ↔ someB T i = false := by
 constructor
 · intro h; unfold someB; rw [List.any_eq_false]; intro k hk; have hk := List.mem_range.1 hk; have := valB_bitL (q := bitR T i) (i := k) (by rw [bitR_len]; exact hk); rw [h, Nat.zero_testBit, bitR_get T i k hk] at this; rw [← this]; simp
 · intro h; unfold someB at h; rw [List.any_eq_false] at h
   have e : bitR T i = List.replicate 16 false := by
     unfold bitR; rw [List.eq_replicate_iff]; refine ⟨by simp, fun b hb => ?_⟩; obtain ⟨k, hk, rfl⟩ := List.mem_map.1 hb; simpa using h k hk
   rw [e]; decide
def upT (s : List UInt8) : Nat → Bool := fun b => decide (UInt8.ofNat b ∈ s)
theorem upT_snoc {s : List UInt8} {c : UInt8} {b : Nat} (hb : b < 256) : upT (s ++ [c]) b = (upT s b || decide (b = c.toNat)) := by
 unfold upT; rw [Bool.eq_iff_iff, decide_eq_true_iff, Bool.or_eq_true, decide_eq_true_iff, decide_eq_true_iff, List.mem_append, List.mem_singleton]
 have : UInt8.ofNat b = c ↔ b = c.toNat := by
   constructor
   · intro h; rw [← h, UInt8.toNat_ofNat_of_lt' hb]
   · rintro rfl; simp
 rw [this]
theorem boolsT_congr {A B : Nat → Bool} (h : ∀ x, x < 256 → A x = B x) : boolsT A = boolsT B := by
 unfold boolsT; exact List.map_congr_left fun x hx => h x (List.mem_range.1 hx)
theorem row_or {s : List UInt8} {c : UInt8} : valB (bitR (upT s) (c.toNat / 16)) ||| 2 ^ (15 - c.toNat % 16) = valB (bitR (upT (s ++ [c])) (c.toNat / 16)) := by
 have hc := c.toNat_lt; refine valB_or (n := 16) (bitR_len _ _) (bitR_len _ _) (Nat.mod_lt _ (by decide)) fun k hk => ?_; rw [bitR_get _ _ _ hk, bitR_get _ _ _ hk, upT_snoc (by omega)]
 congr 1
 rw [Bool.eq_iff_iff, decide_eq_true_iff, decide_eq_true_iff]; omega
theorem row_same {s : List UInt8} {c : UInt8} {i : Nat} (hi : i < 16) (h : i ≠ c.toNat / 16) : bitR (upT (s ++ [c])) i = bitR (upT s) i := by
 have hc := c.toNat_lt; unfold bitR; apply List.map_congr_left; intro k hk; have hk := List.mem_range.1 hk; rw [upT_snoc (by omega), decide_eq_false (by omega), Bool.or_false]
theorem listed_up {T : Nat → Bool} {b : Nat} (hb : b < 256) : upT (listed T) b = T b := by
 unfold upT; rw [Bool.eq_iff_iff, decide_eq_true_iff]; unfold listed; rw [List.mem_map]
 constructor
 · rintro ⟨a, ha, hab⟩; obtain ⟨h1, h2⟩ := List.mem_filter.1 ha; have h1 := List.mem_range.1 h1
   have : a = b := by
     have := congrArg UInt8.toNat hab
     rwa [UInt8.toNat_ofNat_of_lt' h1, UInt8.toNat_ofNat_of_lt' hb] at this
   rw [← this]; exact h2
 · intro h; exact ⟨b, List.mem_filter.2 ⟨List.mem_range.2 hb, h⟩, rfl⟩
theorem row_up {T : Nat → Bool} {i : Nat} (hi : i < 16) : bitR (upT (listed T)) i = bitR T i := by
 unfold bitR; apply List.map_congr_left; intro k hk; have hk := List.mem_range.1 hk; exact listed_up (by omega)
theorem some_up {T : Nat → Bool} {i : Nat} (hi : i < 16) : someB (upT (listed T)) i = someB T i := by
 unfold someB; rw [Bool.eq_iff_iff, List.any_eq_true, List.any_eq_true]
 constructor
 · rintro ⟨k, hk, h⟩; have hk' := List.mem_range.1 hk; rw [listed_up (by omega)] at h; exact ⟨k, hk, h⟩
 · rintro ⟨k, hk, h⟩; have hk' := List.mem_range.1 hk; exact ⟨k, hk, by rw [listed_up (by omega)]; exact h⟩
theorem which_or {T : Nat → Bool} {j : Nat} (hj : j < 16) (hs : someB T j = true) : valB (whichB T j) ||| 2 ^ (15 - j) = valB (whichB T (j + 1)) := by
 refine valB_or (n := 16) (whichB_len _ _) (whichB_len _ _) hj fun i hi => ?_; rw [whichB_get _ _ _ hi, whichB_get _ _ _ hi]
 by_cases h1 : i = j
 · subst h1; rw [hs, decide_eq_true (show i < i + 1 by omega), decide_eq_false (Nat.lt_irrefl i)]; simp
 · by_cases h2 : i < j
   · rw [decide_eq_true (show i < j + 1 by omega), decide_eq_true h2, decide_eq_false h1, Bool.or_false]
   · rw [decide_eq_false (show ¬ i < j + 1 by omega), decide_eq_false h2, decide_eq_false h1]; rfl
theorem which_same {T : Nat → Bool} {j : Nat} (hs : someB T j = false) : whichB T (j + 1) = whichB T j := by
 unfold whichB; apply List.map_congr_left; intro i hi
 by_cases h1 : i = j
 · subst h1; rw [hs, Bool.and_false, Bool.and_false]
 · congr 1
   rw [Bool.eq_iff_iff, decide_eq_true_iff, decide_eq_true_iff]; omega
theorem rowsB_len (T : Nat → Bool) : ∀ j, (rowsB T j).length ≤ 16 * j
 | 0 => Nat.le_refl _
 | j + 1 => by
   have := rowsB_len T j; rw [rowsB, List.length_append]; split
   · rw [bitR_len]; omega
   · simp; omega
end Go.Mx
namespace Go.Mv
open Go.M01 Go.Mb Go.Mp Go.M10 Go.Mx
def moves (a b : Nat) : List Bool := (List.replicate (b - a) [true, false]).flatten ++ (List.replicate (a - b) [true, true]).flatten
def stepsB : Nat → List Nat → List Bool
 | _, [] => []
 | a, b :: l => moves a b ++ [false] ++ stepsB b l
def lensB (l : List Nat) : List Bool := bitsOf (l.getD 0 0) 5 ++ stepsB (l.getD 0 0) l
def lastB (a : Nat) (l : List Nat) : Nat := l.getLastD a
theorem stepsB_snoc : ∀ (l : List Nat) (a b : Nat), stepsB a (l ++ [b]) = stepsB a l ++ (moves (lastB a l) b ++ [false])
 | [], a, b => by simp [stepsB, lastB]
 | c :: l, a, b => by
   rw [List.cons_append, stepsB, stepsB, stepsB_snoc l c b]
   have : lastB a (c :: l) = lastB c l := by
     unfold lastB
     cases l with
     | nil => rfl
     | cons d l => simp [List.getLastD]
   rw [this]; simp only [List.append_assoc]
theorem lastB_snoc (a b : Nat) (l : List Nat) : lastB a (l ++ [b]) = b := by simp [lastB]
theorem moves_len (a b : Nat) (ha : a ≤ 20) (hb : b ≤ 20) : (moves a b).length ≤ 40 := by
 unfold moves; simp; omega
def pE (x : List Nat × List Nat) (p : Nat) : List Nat × List Nat := (front x.1 (x.1.idxOf p), x.2 ++ [x.1.idxOf p])
def pickE (o l : List Nat) : List Nat × List Nat := l.foldl pE (o, [])
theorem pickE_snoc (o l : List Nat) (p : Nat) : pickE o (l ++ [p]) = pE (pickE o l) p := by simp [pickE]
def onesB (l : List Nat) : List Bool := l.flatMap fun at_ => List.replicate at_ true ++ [false]
theorem onesB_snoc (l : List Nat) (a : Nat) : onesB (l ++ [a]) = onesB l ++ (List.replicate a true ++ [false]) := by simp [onesB]
def picksB (l : List Nat) (t : Nat) : List Bool := bitsOf t 3 ++ bitsOf l.length 15 ++ onesB (pickE [0, 1, 2, 3, 4, 5] l).2
theorem frontN_mem {o : List Nat} {i : Nat} (hi : i < o.length) (x : Nat) : x ∈ front o i ↔ x ∈ o := by
 unfold front
 have e : o = o.take i ++ o.getD i 0 :: o.drop (i + 1) := by
   conv => lhs; rw [← List.take_append_drop i o]
   rw [List.drop_eq_getElem_cons hi, List.getD_eq_getElem?_getD, List.getElem?_eq_getElem hi]; rfl
 conv => rhs; rw [e]
 simp only [List.mem_cons, List.mem_append]
 constructor
 · rintro (h | h | h)
   · exact .inr (.inl h)
   · exact .inl h
   · exact .inr (.inr h)
 · rintro (h | h | h)
   · exact .inr (.inl h)
   · exact .inl h
   · exact .inr (.inr h)
theorem idxN_lt {o : List Nat} {c : Nat} (h : c ∈ o) : o.idxOf c < o.length := List.idxOf_lt_length_of_mem h
theorem idxN_at {o : List Nat} {c : Nat} (h : c ∈ o) : o.getD (o.idxOf c) 0 = c := by
 rw [List.getD_eq_getElem?_getD, List.getElem?_eq_getElem (idxN_lt h)]; simp
theorem pickE_inv {o l : List Nat} (h : ∀ c ∈ l, c ∈ o) : (∀ x, x ∈ (pickE o l).1 ↔ x ∈ o) ∧ (pickE o l).1.length = o.length ∧ (pickE o l).2.length = l.length ∧ ∀ p ∈ (pickE o l).2, p < o.length := by
 have key : ∀ i, i ≤ l.length → (∀ x, x ∈ (pickE o (l.take i)).1 ↔ x ∈ o) ∧ (pickE o (l.take i)).1.length = o.length ∧ (pickE o (l.take i)).2.length = i ∧ ∀ p ∈ (pickE o (l.take i)).2, p < o.length := by
   intro i
   induction i with
   | zero => intro _; exact ⟨fun x => Iff.rfl, rfl, rfl, fun p hp => by simp [pickE] at hp⟩
   | succ i ih =>
     intro hi; obtain ⟨h1, h2, h3, h4⟩ := ih (by omega)
     have hg : l.take (i + 1) = l.take i ++ [l[i]] := by rw [List.take_add_one, List.getElem?_eq_getElem (by omega)]; rfl
     have hm : l[i] ∈ (pickE o (l.take i)).1 := (h1 _).2 (h _ (List.getElem_mem _)); have hlt := idxN_lt hm; rw [hg, pickE_snoc]; unfold pE; refine ⟨fun x => by rw [frontN_mem hlt]; exact h1 x, by rw [front_len hlt]; exact h2, by rw [List.length_append, h3]; rfl, fun p hp => ?_⟩; rcases List.mem_append.1 hp with hp | hp
     · exact h4 p hp
     · rw [List.mem_singleton.1 hp]; omega
 have := key l.length (Nat.le_refl _)
 rwa [List.take_length] at this
theorem onesB_len : ∀ {l : List Nat} {m : Nat}, (∀ p ∈ l, p < m) → (onesB l).length ≤ m * l.length
 | [], m, h => by simp [onesB]
 | a :: l, m, h => by
   have h1 := onesB_len (l := l) (m := m) fun p hp => h p (List.mem_cons_of_mem _ hp); have h2 := h a (List.mem_cons_self ..); unfold onesB at h1 ⊢; rw [List.flatMap_cons, List.length_append, List.length_append, List.length_replicate, List.length_singleton, List.length_cons, Nat.mul_add]; omega
theorem ones_bits (a : Nat) : bitsOf (2 ^ (a + 1) - 2) (a + 1) = List.replicate a true ++ [false] := by
 apply List.ext_getElem (by rw [bitsOf_len]; simp); intro i h1 h2; rw [bitsOf_len] at h1; have hg := Go.M01.bitsOf_get (2 ^ (a + 1) - 2) (a + 1) i h1; rw [List.getElem?_eq_getElem (by rw [bitsOf_len]; exact h1)] at hg; rw [Option.some.inj hg]
 have e : 2 ^ (a + 1) - 2 = 2 * (2 ^ a - 1) := by rw [Nat.pow_succ]; omega
 rw [e]
 by_cases hi : i < a
 · rw [List.getElem_append_left (by simpa using hi), List.getElem_replicate]; rw [show a + 1 - 1 - i = (a - 1 - i) + 1 by omega, Nat.testBit_succ, Nat.mul_div_cancel_left _ (by decide), Nat.testBit_two_pow_sub_one]; simp; omega
 · have : i = a := by omega
   subst this; rw [show i + 1 - 1 - i = 0 by omega, Nat.testBit_zero, Nat.mul_mod_right]; simp
end Go.Mv
namespace Go.Ev
open Go Go.Vc
inductive X where
 | b (v : Bool)
 | i (k : IntKind) (n : Int)
 | s (l : List Nat)
 | p (a : Option (Nat × Nat))
 | l (a : Option (Nat × Nat)) (n c : Nat)
 | ni
 | nf
 | fc (t : TypeId) (x : X)
 | g (xs : List X)
 | t (xs : List X)
 | f (fn : Fn) (a c : List X)
 | m (a : Option Nat)
 | e0 (b o q : Nat)
abbrev Sg := Nat → Option (Nat × Nat × Nat)
def str (l : List Nat) : ByteArray := ⟨(l.map UInt8.ofNat).toArray⟩
mutual
def vl (σ : Sg) : X → Option Value
 | .b v => some (.bool v)
 | .i k n => some (.int k n)
 | .s l => some (.string (str l))
 | .p none => some (.pointer none)
 | .p (some a) => match σ a.1 with
   | some r => some (.pointer (some ⟨r.1, r.2.1 + a.2, none⟩))
   | none => none
 | .l none n c => some (.slice none n c)
 | .l (some a) n c => match σ a.1 with
   | some r => some (.slice (some ⟨r.1, r.2.1 + a.2, none⟩) n (c + r.2.2))
   | none => none
 | .ni => some .nilIface
 | .nf => some .nilFunc
 | .fc t x => match vl σ x with
   | some v => some (.iface t v)
   | none => none
 | .g xs => match vls σ xs with
   | some vs => some (.agg vs.toArray)
   | none => none
 | .t xs => match vls σ xs with
   | some vs => some (.tuple vs.toArray)
   | none => none
 | .f fn a c => match vls σ a, vls σ c with
   | some us, some vs => some (.func fn us.toArray vs.toArray)
   | _, _ => none
 | .m none => some (.map none)
 | .m (some b) => match σ b with
   | some r => some (.map (some r.1))
   | none => none
 | .e0 b o q => match σ b with
   | some r => some (.slice (some ⟨r.1, r.2.1 + (if r.2.2 = 0 then o else q), none⟩) 0 r.2.2)
   | none => none
def vls (σ : Sg) : List X → Option (List Value)
 | [] => some []
 | x :: r => match vl σ x, vls σ r with
   | some v, some vs => some (v :: vs)
   | _, _ => none
end
def Ext (σ σ' : Sg) : Prop := ∀ n r, σ n = some r → σ' n = some r
theorem Ext.refl (σ : Sg) : Ext σ σ := fun _ _ h => h
theorem Ext.trans {a b c : Sg} (h : Ext a b) (k : Ext b c) : Ext a c := fun n r e => k n r (h n r e)
mutual
theorem vl_ext {σ σ' : Sg} (h : Ext σ σ') : ∀ (x : X) (v : Value), vl σ x = some v → vl σ' x = some v
 | .b _, _, e => e
 | .i _ _, _, e => e
 | .s _, _, e => e
 | .p none, _, e => e
 | .p (some a), v, e => by
   simp only [vl] at e ⊢
   cases hs : σ a.1 with
   | none => rw [hs] at e; cases e
   | some r => rw [hs] at e; rw [h _ _ hs]; exact e
 | .l none _ _, _, e => e
 | .l (some a) n c, v, e => by
   simp only [vl] at e ⊢
   cases hs : σ a.1 with
   | none => rw [hs] at e; cases e
   | some r => rw [hs] at e; rw [h _ _ hs]; exact e
 | .ni, _, e => e
 | .nf, _, e => e
 | .fc t x, v, e => by
   simp only [vl] at e ⊢
   cases hs : vl σ x with
   | none => rw [hs] at e; cases e
   | some u => rw [hs] at e; rw [vl_ext h x u hs]; exact e
 | .g xs, v, e => by
   simp only [vl] at e ⊢
   cases hs : vls σ xs with
   | none => rw [hs] at e; cases e
   | some u => rw [hs] at e; rw [vls_ext h xs u hs]; exact e
 | .t xs, v, e => by
   simp only [vl] at e ⊢
   cases hs : vls σ xs with
   | none => rw [hs] at e; cases e
   | some u => rw [hs] at e; rw [vls_ext h xs u hs]; exact e
 | .f fn a c, v, e => by
   simp only [vl] at e ⊢
   cases hs : vls σ a with
   | none => rw [hs] at e; cases e
   | some u =>
     cases hc : vls σ c with
     | none => rw [hs, hc] at e; cases e
     | some u' => rw [hs, hc] at e; rw [vls_ext h a u hs, vls_ext h c u' hc]; exact e
 | .m none, _, e => e
 | .m (some b), v, e => by
   simp only [vl] at e ⊢
   cases hs : σ b with
   | none => rw [hs] at e; cases e
   | some r => rw [hs] at e; rw [h _ _ hs]; exact e
 | .e0 b o q, v, e => by
   simp only [vl] at e ⊢
   cases hs : σ b with
   | none => rw [hs] at e; cases e
   | some r => rw [hs] at e; rw [h _ _ hs]; exact e
theorem vls_ext {σ σ' : Sg} (h : Ext σ σ') : ∀ (xs : List X) (vs : List Value), vls σ xs = some vs → vls σ' xs = some vs
 | [], _, e => e
 | x :: r, vs, e => by
   simp only [vls] at e ⊢
   cases hx : vl σ x with
   | none => rw [hx] at e; cases e
   | some u =>
     cases hr : vls σ r with
     | none => rw [hx, hr] at e; cases e
     | some us => rw [hx, hr] at e; rw [vl_ext h x u hx, vls_ext h r us hr]; exact e
end
theorem vls_cons {σ : Sg} {x : X} {r : List X} {vs : List Value} (h : vls σ (x :: r) = some vs) : ∃ v us, vl σ x = some v ∧ vls σ r = some us ∧ vs = v :: us := by
 simp only [vls] at h
 cases hx : vl σ x with
 | none => rw [hx] at h; cases h
 | some u =>
   cases hr : vls σ r with
   | none => rw [hx, hr] at h; cases h
   | some us => rw [hx, hr] at h; exact ⟨u, us, rfl, rfl, (Option.some.inj h).symm⟩
theorem vls_mk {σ : Sg} {x : X} {r : List X} {v : Value} {us : List Value} (h1 : vl σ x = some v) (h2 : vls σ r = some us) : vls σ (x :: r) = some (v :: us) := by
 simp only [vls, h1, h2]
theorem vls_len {σ : Sg} : ∀ {xs : List X} {vs : List Value}, vls σ xs = some vs → xs.length = vs.length
 | [], vs, h => by simp only [vls, Option.some.injEq] at h; subst h; rfl
 | x :: r, vs, h => by
   obtain ⟨v, us, _, h2, rfl⟩ := vls_cons h; simp [vls_len h2]
theorem vls_app {σ : Sg} : ∀ {xs ys : List X} {us vs : List Value}, vls σ xs = some us → vls σ ys = some vs → vls σ (xs ++ ys) = some (us ++ vs)
 | [], ys, us, vs, h, k => by simp only [vls, Option.some.injEq] at h; subst h; exact k
 | x :: r, ys, us, vs, h, k => by
   obtain ⟨v, us', h1, h2, rfl⟩ := vls_cons h; exact vls_mk h1 (vls_app h2 k)
theorem vls_get {σ : Sg} : ∀ {xs : List X} {vs : List Value} {i : Nat} {x : X}, vls σ xs = some vs → xs[i]? = some x → ∃ v, vs[i]? = some v ∧ vl σ x = some v
 | y :: r, vs, 0, x, h, e => by
   obtain ⟨v, us, h1, h2, rfl⟩ := vls_cons h; simp at e; subst e; exact ⟨v, rfl, h1⟩
 | y :: r, vs, i + 1, x, h, e => by
   obtain ⟨v, us, h1, h2, rfl⟩ := vls_cons h; obtain ⟨u, e1, e2⟩ := vls_get h2 (by simpa using e); exact ⟨u, by simpa using e1, e2⟩
theorem vls_set {σ : Sg} : ∀ {xs : List X} {vs : List Value} (i : Nat) {x : X} {v : Value}, vls σ xs = some vs → vl σ x = some v → vls σ (xs.set i x) = some (vs.set i v)
 | [], vs, i, x, v, h, k => by simp only [vls, Option.some.injEq] at h; subst h; rfl
 | y :: r, vs, 0, x, v, h, k => by
   obtain ⟨u, us, h1, h2, rfl⟩ := vls_cons h; exact vls_mk k h2
 | y :: r, vs, i + 1, x, v, h, k => by
   obtain ⟨u, us, h1, h2, rfl⟩ := vls_cons h; exact vls_mk h1 (vls_set i h2 k)
theorem vls_drop {σ : Sg} : ∀ {xs : List X} {vs : List Value} (n : Nat), vls σ xs = some vs → vls σ (xs.drop n) = some (vs.drop n)
 | xs, vs, 0, h => by simpa using h
 | [], vs, n + 1, h => by simp only [vls, Option.some.injEq] at h; subst h; rfl
 | y :: r, vs, n + 1, h => by
   obtain ⟨u, us, h1, h2, rfl⟩ := vls_cons h; simpa using vls_drop n h2
theorem vls_take {σ : Sg} : ∀ {xs : List X} {vs : List Value} (n : Nat), vls σ xs = some vs → vls σ (xs.take n) = some (vs.take n)
 | xs, vs, 0, h => by simp [vls]
 | [], vs, n + 1, h => by simp only [vls, Option.some.injEq] at h; subst h; rfl
 | y :: r, vs, n + 1, h => by
   obtain ⟨u, us, h1, h2, rfl⟩ := vls_cons h; simpa using vls_mk h1 (vls_take n h2)
noncomputable section
inductive T (α : Type) where
 | e
 | lf (k : Nat) (v : α)
 | nd (a b : T α)
def T.get {α : Type} (t : T α) : Nat → Nat → Option α :=
 @T.rec α (fun _ => Nat → Nat → Option α) (fun _ _ => none) (fun k v _ q => @Bool.rec (fun _ => Option α) none (some v) (Nat.beq k q))
   (fun _ _ ga gb i q => @Nat.rec (fun _ => Option α) (ga (Nat.div i 2) q) (fun _ _ => gb (Nat.div i 2) q) (Nat.mod i 2)) t
def T.set {α : Type} (d : Nat) : T α → Nat → Nat → α → T α :=
 @Nat.rec (fun _ => T α → Nat → Nat → α → T α) (fun _ _ k v => .lf k v)
   (fun _ ih t i k v => @T.rec α (fun _ => T α) (@Nat.rec (fun _ => T α) (.nd (ih .e (Nat.div i 2) k v) .e) (fun _ _ => .nd .e (ih .e (Nat.div i 2) k v)) (Nat.mod i 2))
     (fun _ _ => @Nat.rec (fun _ => T α) (.nd (ih .e (Nat.div i 2) k v) .e) (fun _ _ => .nd .e (ih .e (Nat.div i 2) k v)) (Nat.mod i 2))
     (fun a b _ _ => @Nat.rec (fun _ => T α) (.nd (ih a (Nat.div i 2) k v) b) (fun _ _ => .nd a (ih b (Nat.div i 2) k v)) (Nat.mod i 2)) t) d
theorem T.get_e {α : Type} (i q : Nat) : (T.e : T α).get i q = none := rfl
theorem T.get_lf {α : Type} (k : Nat) (v : α) (i q : Nat) : (T.lf k v).get i q = match Nat.beq k q with | true => some v | false => none := by
 show @Bool.rec (fun _ => Option α) none (some v) (Nat.beq k q) = _
 cases Nat.beq k q <;> rfl
theorem T.get_nd {α : Type} (a b : T α) (i q : Nat) : (T.nd a b).get i q = match i % 2 with | 0 => a.get (i / 2) q | _ + 1 => b.get (i / 2) q := by
 show @Nat.rec (fun _ => Option α) (a.get (i / 2) q) (fun _ _ => b.get (i / 2) q) (i % 2) = _
 cases i % 2 <;> rfl
theorem T.set_0 {α : Type} (t : T α) (i k : Nat) (v : α) : T.set 0 t i k v = .lf k v := rfl
theorem T.set_nd {α : Type} (d : Nat) (a b : T α) (i k : Nat) (v : α) : T.set (d + 1) (.nd a b) i k v = match i % 2 with | 0 => .nd (T.set d a (i / 2) k v) b | _ + 1 => .nd a (T.set d b (i / 2) k v) := by
 show @Nat.rec (fun _ => T α) (.nd (T.set d a (i / 2) k v) b) (fun _ _ => .nd a (T.set d b (i / 2) k v)) (i % 2) = _
 cases i % 2 <;> rfl
theorem T.set_e {α : Type} (d : Nat) (i k : Nat) (v : α) : T.set (d + 1) .e i k v = match i % 2 with | 0 => .nd (T.set d .e (i / 2) k v) .e | _ + 1 => .nd .e (T.set d .e (i / 2) k v) := by
 show @Nat.rec (fun _ => T α) (.nd (T.set d .e (i / 2) k v) .e) (fun _ _ => .nd .e (T.set d .e (i / 2) k v)) (i % 2) = _
 cases i % 2 <;> rfl
theorem T.set_lf {α : Type} (d : Nat) (k' : Nat) (v' : α) (i k : Nat) (v : α) : T.set (d + 1) (.lf k' v') i k v = match i % 2 with | 0 => .nd (T.set d .e (i / 2) k v) .e | _ + 1 => .nd .e (T.set d .e (i / 2) k v) := by
 show @Nat.rec (fun _ => T α) (.nd (T.set d .e (i / 2) k v) .e) (fun _ _ => .nd .e (T.set d .e (i / 2) k v)) (i % 2) = _
 cases i % 2 <;> rfl
theorem T.get_set {α : Type} : ∀ (d : Nat) (t : T α) (i k : Nat) (v : α) (j q : Nat) (x : α), (q = k → j = i) → (T.set d t i k v).get j q = some x → (q = k ∧ x = v) ∨ (q ≠ k ∧ t.get j q = some x)
 | 0, t, i, k, v, j, q, x, hj, h => by
   rw [T.set_0, T.get_lf] at h
   cases hb : Nat.beq k q with
   | true => rw [hb] at h; exact .inl ⟨(Nat.eq_of_beq_eq_true hb).symm, (Option.some.inj h).symm⟩
   | false => rw [hb] at h; cases h
 | d + 1, .nd a b, i, k, v, j, q, x, hj, h => by
   rw [T.set_nd] at h
   have hj2 : q = k → j / 2 = i / 2 := fun e => by rw [hj e]
   cases hi : i % 2 with
   | zero =>
     rw [hi] at h; simp only [T.get_nd] at h ⊢
     cases hm : j % 2 with
     | zero =>
       rw [hm] at h; exact T.get_set d a _ k v _ q x hj2 h
     | succ m =>
       rw [hm] at h; exact .inr ⟨fun e => by have := hj e; subst this; omega, h⟩
   | succ n =>
     rw [hi] at h; simp only [T.get_nd] at h ⊢
     cases hm : j % 2 with
     | zero =>
       rw [hm] at h; exact .inr ⟨fun e => by have := hj e; subst this; omega, h⟩
     | succ m =>
       rw [hm] at h; exact T.get_set d b _ k v _ q x hj2 h
 | d + 1, .e, i, k, v, j, q, x, hj, h => by
   rw [T.set_e] at h
   have hj2 : q = k → j / 2 = i / 2 := fun e => by rw [hj e]
   cases hi : i % 2 with
   | zero =>
     rw [hi] at h; simp only [T.get_nd] at h
     cases hm : j % 2 with
     | zero =>
       rw [hm] at h; rcases T.get_set d .e _ k v _ q x hj2 h with h1 | ⟨h1, h2⟩
       · exact .inl h1
       · cases h2
     | succ m => rw [hm] at h; cases h
   | succ n =>
     rw [hi] at h; simp only [T.get_nd] at h
     cases hm : j % 2 with
     | zero => rw [hm] at h; cases h
     | succ m =>
       rw [hm] at h; rcases T.get_set d .e _ k v _ q x hj2 h with h1 | ⟨h1, h2⟩
       · exact .inl h1
       · cases h2
 | d + 1, .lf k' v', i, k, v, j, q, x, hj, h => by
   rw [T.set_lf] at h
   have hj2 : q = k → j / 2 = i / 2 := fun e => by rw [hj e]
   cases hi : i % 2 with
   | zero =>
     rw [hi] at h; simp only [T.get_nd] at h
     cases hm : j % 2 with
     | zero =>
       rw [hm] at h; rcases T.get_set d .e _ k v _ q x hj2 h with h1 | ⟨h1, h2⟩
       · exact .inl h1
       · cases h2
     | succ m => rw [hm] at h; cases h
   | succ n =>
     rw [hi] at h; simp only [T.get_nd] at h
     cases hm : j % 2 with
     | zero => rw [hm] at h; cases h
     | succ m =>
       rw [hm] at h; rcases T.get_set d .e _ k v _ q x hj2 h with h1 | ⟨h1, h2⟩
       · exact .inl h1
       · cases h2
abbrev Blk := TypeId × List X
inductive M where
 | mp (es : List (X × X))
 | it (s : List Nat) (pos : Nat)
structure St where
 h : T (Option Blk)
 n : Nat
 k : Nat
 m : T (Option M)
 g : List (Nat × List X)
def jn {α : Type} : Option (Option α) → Option α
 | some (some c) => some c
 | _ => none
def St.blk (s : St) (b : Nat) : Option Blk := jn (s.h.get b b)
def St.mo (s : St) (b : Nat) : Option M := jn (s.m.get b b)
def St.put (s : St) (b : Nat) (c : Option Blk) : St := ⟨T.set 14 s.h b b c, s.n, s.k, s.m, s.g⟩
def St.mput (s : St) (b : Nat) (c : Option M) : St := ⟨s.h, s.n, s.k, T.set 14 s.m b b c, s.g⟩
theorem tree_put {α : Type} {t : T (Option α)} {b q : Nat} {c : Option α} {x : α} (h : jn ((T.set 14 t b b c).get q q) = some x) : (q = b ∧ c = some x) ∨ (q ≠ b ∧ jn (t.get q q) = some x) := by
 cases hg : T.get (T.set 14 t b b c) q q with
 | none => rw [hg] at h; cases h
 | some y =>
   rw [hg] at h
   cases y with
   | none => cases h
   | some z =>
     obtain rfl : z = x := Option.some.inj h; rcases T.get_set 14 t b b c q q _ (fun e => e) hg with ⟨h1, h2⟩ | ⟨h1, h2⟩
     · exact .inl ⟨h1, h2.symm⟩
     · refine .inr ⟨h1, ?_⟩; rw [h2]; rfl
theorem blk_put {s : St} {b q : Nat} {c : Option Blk} {x : Blk} (h : (s.put b c).blk q = some x) : (q = b ∧ c = some x) ∨ (q ≠ b ∧ s.blk q = some x) := tree_put h
theorem mo_mput {s : St} {b q : Nat} {c : Option M} {x : M} (h : (s.mput b c).mo q = some x) : (q = b ∧ c = some x) ∨ (q ≠ b ∧ s.mo q = some x) := tree_put h
def szOf (P : Program) (e : TypeId) : Nat := match P.info? e with
 | some i => i.size
 | none => 0
def isArrB (P : Program) (e : TypeId) : Bool := match P.underlying e with
 | some (.array _ _) => true
 | _ => false
structure Bs where
 pr : Nat → Prop
 res : Nat → Prop
 gp : Nat → Prop
 gpr : ∀ a, gp a → pr a
def lkG : List (Nat × List X) → Nat → Option (List X)
 | [], _ => none
 | p :: l, g => match Nat.beq p.1 g with
   | true => some p.2
   | false => lkG l g
structure Own (P : Program) (base : Bs) (σ : Sg) (w : World) (b e : Nat) (cs : List X) (rb off k : Nat) (pre vs sp post : List Value) : Prop where
 sg_ : σ b = some (rb, off, k)
 val : vls σ cs = some vs
 pre_ : pre.length = off
 sp_ : sp.length = k * szOf P e
 heap : ∃ fz : Nat × Nat, w.heap[rb]? = some (.cells (pre ++ vs ++ sp ++ post).toArray e fz) ∧ ∀ o, o < (pre ++ vs ++ sp ++ post).length → ¬ (fz.1 ≤ o ∧ o < fz.2)
 low : ¬ base.pr rb
 flat : vs.all sg = true
 mul_ : ∃ q, off = q * szOf P e
 nsp : isArrB P e = true → k = 0
def EsR (σ : Sg) : List (X × X) → List MapEntry → Prop
 | [], [] => True
 | (k, v) :: l, e :: l' => vl σ k = some e.key ∧ vl σ v = some e.val ∧ EsR σ l l'
 | _, _ => False
theorem EsR.ext {σ σ' : Sg} (hx : Ext σ σ') : ∀ {l : List (X × X)} {l' : List MapEntry}, EsR σ l l' → EsR σ' l l'
 | [], [], _ => trivial
 | (k, v) :: l, e :: l', ⟨h1, h2, h3⟩ => ⟨vl_ext hx _ _ h1, vl_ext hx _ _ h2, EsR.ext hx h3⟩
def MOk (σ : Sg) (w : World) (rb : Nat) : M → Prop
 | .mp es => ∃ (l : List MapEntry) (clock : Nat), w.heap[rb]? = some (.map l.toArray clock) ∧ EsR σ es l
 | .it s p => w.heap[rb]? = some (.stringIter (str s) p)
theorem MOk.ext {σ σ' : Sg} {w : World} {rb : Nat} (hx : Ext σ σ') : ∀ {o : M}, MOk σ w rb o → MOk σ' w rb o
 | .mp es, ⟨l, c, h1, h2⟩ => ⟨l, c, h1, h2.ext hx⟩
 | .it s p, h => h
def NoC (w : World) (rb : Nat) : Prop := ∀ c e z, w.heap[rb]? ≠ some (.cells c e z)
theorem MOk.noC {σ : Sg} {w : World} {rb : Nat} : ∀ {o : M}, MOk σ w rb o → NoC w rb ∧ (w.heap[rb]?).isSome = true
 | .mp es, ⟨l, c, h1, _⟩ => ⟨(fun _ _ _ h => by rw [h1] at h; cases h), (by rw [h1]; rfl)⟩
 | .it s p, h => ⟨(fun _ _ _ h' => by rw [show w.heap[rb]? = _ from h] at h'; cases h'), (by rw [show w.heap[rb]? = _ from h]; rfl)⟩
theorem MOk.keep {σ : Sg} {w w' : World} {rb : Nat} (hk : ∀ o, w.heap[rb]? = some o → w'.heap[rb]? = some o) : ∀ {o : M}, MOk σ w rb o → MOk σ w' rb o
 | .mp es, ⟨l, c, h1, h2⟩ => ⟨l, c, hk _ h1, h2⟩
 | .it s p, h => hk _ h
structure Mem (P : Program) (base : Bs) (σ : Sg) (s : St) (w : World) : Prop where
 own : ∀ b e cs, s.blk b = some (e, cs) → ∃ rb off k pre vs sp post, Own P base σ w b e cs rb off k pre vs sp post
 apart : ∀ b c x y r r', s.blk b = some x → s.blk c = some y → b ≠ c → σ b = some r → σ c = some r' → r.1 ≠ r'.1
 mown : ∀ b o, s.mo b = some o → ∃ rb, σ b = some (rb, 0, 0) ∧ ¬ base.pr rb ∧ MOk σ w rb o
 mapart : ∀ b c x y r r', s.mo b = some x → s.mo c = some y → b ≠ c → σ b = some r → σ c = some r' → r.1 ≠ r'.1
 glb : ∀ g xs, lkG s.g g = some xs → base.gp g ∧ ∃ e fz vs, vls (fun _ => none) xs = some vs ∧ w.heap[g]? = some (.cells vs.toArray e fz)
theorem Mem.keepG {P : Program} {base : Bs} {σ : Sg} {s : St} {w w' : World} (h : Mem P base σ s w) (ho : ∀ (c : Nat) (o : Obj), base.pr c → w.heap[c]? = some o → w'.heap[c]? = some o) :
   ∀ g xs, lkG s.g g = some xs → base.gp g ∧ ∃ e fz vs, vls (fun _ => none) xs = some vs ∧ w'.heap[g]? = some (.cells vs.toArray e fz) := fun g xs hg => by
 obtain ⟨h1, e, fz, vs, h2, h3⟩ := h.glb g xs hg; exact ⟨h1, e, fz, vs, h2, ho g _ (base.gpr g h1) h3⟩
theorem Own.ext {P : Program} {base : Bs} {σ σ' : Sg} {w : World} {b e : Nat} {cs : List X} {rb off k : Nat} {pre vs sp post : List Value} (h : Own P base σ w b e cs rb off k pre vs sp post) (hx : Ext σ σ') : Own P base σ' w b e cs rb off k pre vs sp post :=
 ⟨hx _ _ h.sg_, vls_ext hx _ _ h.val, h.pre_, h.sp_, h.heap, h.low, h.flat, h.mul_, h.nsp⟩
theorem Mem.ext {P : Program} {base : Bs} {σ σ' : Sg} {s : St} {w : World} (h : Mem P base σ s w) (hx : Ext σ σ') : Mem P base σ' s w := by
 refine ⟨fun b e cs hb => ?_, fun b c x y r r' hb hc hne h1 h2 => ?_, fun b o hb => ?_, fun b c x y r r' hb hc hne h1 h2 => ?_, h.glb⟩
 · obtain ⟨rb, off, k, pre, vs, sp, post, h1⟩ := h.own b e cs hb; exact ⟨rb, off, k, pre, vs, sp, post, h1.ext hx⟩
 · obtain ⟨e, cs⟩ := x; obtain ⟨e', cs'⟩ := y; obtain ⟨_, _, _, _, _, _, _, g1⟩ := h.own b e cs hb; obtain ⟨_, _, _, _, _, _, _, g2⟩ := h.own c e' cs' hc; have e1 := hx _ _ g1.sg_; have e2 := hx _ _ g2.sg_; rw [h1] at e1; rw [h2] at e2; have f1 := g1.sg_; have f2 := g2.sg_; rw [← e1] at f1; rw [← e2] at f2; exact h.apart b c _ _ _ _ hb hc hne f1 f2
 · obtain ⟨rb, h1, h2, h3⟩ := h.mown b o hb; exact ⟨rb, hx _ _ h1, h2, h3.ext hx⟩
 · obtain ⟨_, g1, _⟩ := h.mown b x hb; obtain ⟨_, g2, _⟩ := h.mown c y hc; have e1 := hx _ _ g1; have e2 := hx _ _ g2; rw [h1] at e1; rw [h2] at e2; rw [← e1] at g1; rw [← e2] at g2; exact h.mapart b c _ _ _ _ hb hc hne g1 g2
structure Fram (base : Bs) (w0 w : World) : Prop where
 same : Same w0 w
 low : ∀ c, base.pr c → c < w.heap.size
 old : ∀ c, base.pr c → w.heap[c]? = w0.heap[c]?
structure FreshN (base : Bs) (σ : Sg) (n k : Nat) : Prop where
 nx : σ n = none
 lt : n < k
 ge : ∀ m, k ≤ m → σ m = none
 rs : ∀ m, base.res m → σ m = none ∧ m ≠ n ∧ m < k
abbrev Fresh (base : Bs) (σ : Sg) (s : St) : Prop := FreshN base σ s.n s.k
end
end Go.Ev
namespace Go.Ev
open Go Go.Vc
noncomputable section
variable {P : Program} {base : Bs} {σ : Sg} {s : St} {w w' : World}
theorem Own.keep {b e : Nat} {cs : List X} {rb off k : Nat} {pre vs sp post : List Value} (g : Own P base σ w b e cs rb off k pre vs sp post) (ho : ∀ o, w.heap[rb]? = some o → w'.heap[rb]? = some o) : Own P base σ w' b e cs rb off k pre vs sp post := by
 obtain ⟨fz, h1, h2⟩ := g.heap; exact ⟨g.sg_, g.val, g.pre_, g.sp_, ⟨fz, ho _ h1, h2⟩, g.low, g.flat, g.mul_, g.nsp⟩
theorem Mem.sep (h : Mem P base σ s w) {q rb : Nat} {o : M} (hq : s.mo q = some o) (hc : ∃ c e z, w.heap[rb]? = some (.cells c e z)) : ∀ {r : Nat × Nat × Nat}, σ q = some r → r.1 ≠ rb := by
 intro r hr he; obtain ⟨rb', h1, _, h3⟩ := h.mown q o hq; rw [h1] at hr; obtain rfl := Option.some.inj hr; obtain ⟨c, e, z, hh⟩ := hc; replace he : rb' = rb := he; rw [he] at h3; exact h3.noC.1 c e z hh
theorem Mem.upd (h : Mem P base σ s w) {b e : Nat} {cs cs' : List X} {rb off k : Nat} {pre vs' sp post : List Value} (hb : s.blk b = some (e, cs)) (hn : Own P base σ w' b e cs' rb off k pre vs' sp post)
   (ho : ∀ c o, c ≠ rb → w.heap[c]? = some o → w'.heap[c]? = some o) : Mem P base σ (s.put b (some (e, cs'))) w' := by
 have key : ∀ q x, (s.put b (some (e, cs'))).blk q = some x → ∃ y, s.blk q = some y := by
   intro q x hq; rcases blk_put hq with ⟨rfl, _⟩ | ⟨_, h2⟩
   · exact ⟨_, hb⟩
   · exact ⟨_, h2⟩
 refine ⟨fun q e' cs'' hq => ?_, fun q c x y r r' hq hc hne h1 h2 => ?_, fun q o hq => ?_, fun q c x y r r' hq hc hne h1 h2 => h.mapart q c x y r r' hq hc hne h1 h2, h.keepG fun c o hc => ho c o fun e => hn.low (e ▸ hc)⟩
 · rcases blk_put hq with ⟨rfl, h2⟩ | ⟨hne, h2⟩
   · simp only [Option.some.injEq, Prod.mk.injEq] at h2; obtain ⟨rfl, rfl⟩ := h2; exact ⟨rb, off, k, pre, vs', sp, post, hn⟩
   · obtain ⟨rb', off', k', pre', vs, sp', post', g⟩ := h.own q e' cs'' h2; exact ⟨rb', off', k', pre', vs, sp', post', g.keep (ho _ · (h.apart q b _ _ _ _ h2 hb hne g.sg_ hn.sg_))⟩
 · obtain ⟨x', hx'⟩ := key q x hq; obtain ⟨y', hy'⟩ := key c y hc; exact h.apart q c x' y' r r' hx' hy' hne h1 h2
 · replace hq : s.mo q = some o := hq; obtain ⟨rb', h1, h2, h3⟩ := h.mown q o hq; obtain ⟨rb0, off0, k0, pre0, vs0, sp0, post0, g0⟩ := h.own b e cs hb; obtain ⟨fz, hh, _⟩ := g0.heap
   have hrb : rb0 = rb := by have := g0.sg_; rw [hn.sg_] at this; cases this; rfl
   subst hrb; exact ⟨rb', h1, h2, h3.keep fun o' => ho rb' o' (h.sep hq ⟨_, _, _, hh⟩ h1)⟩
theorem Mem.del (h : Mem P base σ s w) (b : Nat) : Mem P base σ (s.put b none) w := by
 have key : ∀ q x, (s.put b none).blk q = some x → q ≠ b ∧ s.blk q = some x := by
   intro q x hq; rcases blk_put hq with ⟨_, h2⟩ | h2
   · cases h2
   · exact h2
 exact ⟨fun q e cs hq => h.own q e cs (key q _ hq).2, fun q c x y r r' hq hc hne h1 h2 => h.apart q c x y r r' (key q x hq).2 (key c y hc).2 hne h1 h2, h.mown, h.mapart, h.glb⟩
theorem Mem.lose (h : Mem P base σ s w) {b : Nat} {x : Blk} {r : Nat × Nat × Nat} (hb : s.blk b = some x) (hr : σ b = some r) (ho : ∀ c o, c ≠ r.1 → w.heap[c]? = some o → w'.heap[c]? = some o) : Mem P base σ (s.put b none) w' := by
 have key : ∀ q x, (s.put b none).blk q = some x → q ≠ b ∧ s.blk q = some x := by
   intro q x hq; rcases blk_put hq with ⟨_, h2⟩ | h2
   · cases h2
   · exact h2
 have hlow : ¬ base.pr r.1 := by
   obtain ⟨e, cs⟩ := x; obtain ⟨rb0, off0, k0, pre0, vs0, sp0, post0, g0⟩ := h.own b e cs hb; have := g0.sg_; rw [hr] at this; obtain rfl := Option.some.inj this; exact g0.low
 refine ⟨fun q e cs hq => ?_, fun q c x y r r' hq hc hne h1 h2 => h.apart q c x y r r' (key q x hq).2 (key c y hc).2 hne h1 h2, fun q o hq => ?_, h.mapart, h.keepG fun c o hc => ho c o fun e => hlow (e ▸ hc)⟩
 · obtain ⟨hne, hq⟩ := key q _ hq; obtain ⟨rb', off', k', pre', vs, sp', post', g⟩ := h.own q e cs hq; exact ⟨rb', off', k', pre', vs, sp', post', g.keep (ho _ · (h.apart q b _ _ _ _ hq hb hne g.sg_ hr))⟩
 · replace hq : s.mo q = some o := hq; obtain ⟨rb', h1, h2, h3⟩ := h.mown q o hq; obtain ⟨e, cs⟩ := x; obtain ⟨rb0, off0, k0, pre0, vs0, sp0, post0, g0⟩ := h.own b e cs hb; obtain ⟨fz, hh, _⟩ := g0.heap; have := g0.sg_; rw [hr] at this; obtain rfl := Option.some.inj this; exact ⟨rb', h1, h2, h3.keep fun o' => ho rb' o' (h.sep hq ⟨_, _, _, hh⟩ h1)⟩
theorem Mem.mupd (h : Mem P base σ s w) {b rb : Nat} {o o' : M} (hb : s.mo b = some o) (hr : σ b = some (rb, 0, 0)) (hn : MOk σ w' rb o') (ho : ∀ c x, c ≠ rb → w.heap[c]? = some x → w'.heap[c]? = some x) : Mem P base σ (s.mput b (some o')) w' := by
 have key : ∀ q x, (s.mput b (some o')).mo q = some x → ∃ y, s.mo q = some y := by
   intro q x hq; rcases mo_mput hq with ⟨rfl, _⟩ | ⟨_, h2⟩
   · exact ⟨_, hb⟩
   · exact ⟨_, h2⟩
 obtain ⟨rb0, g1, g2, g3⟩ := h.mown b o hb; rw [hr] at g1; cases g1; refine ⟨fun q e cs hq => ?_, h.apart, fun q x hq => ?_, fun q c x y r r' hq hc hne h1 h2 => ?_, h.keepG fun c o hc => ho c o fun e => g2 (e ▸ hc)⟩
 · obtain ⟨rb', off', k', pre', vs, sp', post', g⟩ := h.own q e cs hq; refine ⟨rb', off', k', pre', vs, sp', post', g.keep fun x => ho _ x fun he => ?_⟩; obtain ⟨fz, hh, _⟩ := g.heap; exact g3.noC.1 _ _ _ (he ▸ hh)
 · rcases mo_mput hq with ⟨rfl, h2⟩ | ⟨hne, h2⟩
   · obtain rfl := Option.some.inj h2; exact ⟨rb, hr, g2, hn⟩
   · obtain ⟨rb', h1, h3, h4⟩ := h.mown q x h2; exact ⟨rb', h1, h3, h4.keep fun x => ho _ x (h.mapart q b _ _ _ _ h2 hb hne h1 hr)⟩
 · obtain ⟨x', hx'⟩ := key q x hq; obtain ⟨y', hy'⟩ := key c y hc; exact h.mapart q c x' y' r r' hx' hy' hne h1 h2
def sgPut (σ : Sg) (n : Nat) (r : Nat × Nat × Nat) : Sg := fun m => match Nat.beq m n with
 | true => some r
 | false => σ m
theorem sgPut_same (σ : Sg) (n : Nat) (r : Nat × Nat × Nat) : sgPut σ n r n = some r := by unfold sgPut; rw [Nat.beq_refl]
theorem sgPut_ne {σ : Sg} {n m : Nat} {r : Nat × Nat × Nat} (h : m ≠ n) : sgPut σ n r m = σ m := by
 unfold sgPut
 cases hb : Nat.beq m n with
 | true => exact absurd (Nat.eq_of_beq_eq_true hb) h
 | false => rfl
theorem sgPut_ext {σ : Sg} {n : Nat} {r : Nat × Nat × Nat} (h : σ n = none) : Ext σ (sgPut σ n r) := by
 intro m q hm; rw [sgPut_ne]
 · exact hm
 · rintro rfl; rw [h] at hm; cases hm
def St.new (s : St) (c : Blk) : St := ⟨(s.put s.n (some c)).h, s.k, s.k + 1, s.m, s.g⟩
def St.mnew (s : St) (c : M) : St := ⟨s.h, s.k, s.k + 1, (s.mput s.n (some c)).m, s.g⟩
theorem Fresh.next {s' : St} (hf : Fresh base σ s) (r : Nat × Nat × Nat) (h1 : s'.n = s.k) (h2 : s'.k = s.k + 1) : Fresh base (sgPut σ s.n r) s' := by
 have hl := hf.lt; refine ⟨?_, by omega, fun m hm => ?_, fun m hm => ?_⟩
 · rw [h1, sgPut_ne (by omega)]; exact hf.ge _ (Nat.le_refl _)
 · rw [sgPut_ne (by omega)]; exact hf.ge _ (by omega)
 · obtain ⟨a, b, c⟩ := hf.rs m hm; rw [sgPut_ne b]; exact ⟨a, by omega, by omega⟩
theorem mo_mnew {s : St} {c x : M} {q : Nat} (h : (s.mnew c).mo q = some x) : (q = s.n ∧ c = x) ∨ (q ≠ s.n ∧ s.mo q = some x) := by
 have : (s.mput s.n (some c)).mo q = some x := h; rcases mo_mput this with ⟨h1, h2⟩ | h2
 · exact .inl ⟨h1, Option.some.inj h2⟩
 · exact .inr h2
theorem blk_new {c x : Blk} {q : Nat} (h : (s.new c).blk q = some x) : (q = s.n ∧ c = x) ∨ (q ≠ s.n ∧ s.blk q = some x) := by
 have : (s.put s.n (some c)).blk q = some x := h; rcases blk_put this with ⟨h1, h2⟩ | h2
 · exact .inl ⟨h1, Option.some.inj h2⟩
 · exact .inr h2
theorem Mem.fresh (h : Mem P base σ s w) (hf : Fresh base σ s) {e : TypeId} {cs : List X} {pre vs sp post : List Value} {rb k : Nat} (hv : vls σ cs = some vs) (hsp : sp.length = k * szOf P e) (hbase : ¬ base.pr rb) (hg : vs.all sg = true)
   (hh : ∃ fz : Nat × Nat, w'.heap[rb]? = some (.cells (pre ++ vs ++ sp ++ post).toArray e fz) ∧ ∀ o, o < (pre ++ vs ++ sp ++ post).length → ¬ (fz.1 ≤ o ∧ o < fz.2)) (hno : ∀ b x r, s.blk b = some x → σ b = some r → r.1 ≠ rb)
   (hnm : ∀ b x r, s.mo b = some x → σ b = some r → r.1 ≠ rb) (hml : ∃ q, pre.length = q * szOf P e) (hns : isArrB P e = true → k = 0) (ho : ∀ c o, c ≠ rb → w.heap[c]? = some o → w'.heap[c]? = some o) :
   Mem P base (sgPut σ s.n (rb, pre.length, k)) (s.new (e, cs)) w' ∧ Ext σ (sgPut σ s.n (rb, pre.length, k)) ∧ Fresh base (sgPut σ s.n (rb, pre.length, k)) (s.new (e, cs)) := by
 have hx : Ext σ (sgPut σ s.n (rb, pre.length, k)) := sgPut_ext hf.nx; refine ⟨⟨fun q e' cs' hq => ?_, fun q c x y r r' hq hc hne h1 h2 => ?_, fun q o hq => ?_, fun q c x y r r' hq hc hne h1 h2 => ?_, h.keepG fun c o hc => ho c o fun e => hbase (e ▸ hc)⟩, hx, hf.next _ rfl rfl⟩
 · rcases blk_new hq with ⟨rfl, h2⟩ | ⟨hne, h2⟩
   · simp only [Prod.mk.injEq] at h2; obtain ⟨rfl, rfl⟩ := h2; exact ⟨rb, pre.length, k, pre, vs, sp, post, ⟨sgPut_same _ _ _, vls_ext hx _ _ hv, rfl, hsp, hh, hbase, hg, hml, hns⟩⟩
   · obtain ⟨rb', off', k', pre', vs', sp', post', g⟩ := h.own q e' cs' h2; exact ⟨rb', off', k', pre', vs', sp', post', (g.keep (ho _ · (hno q _ _ h2 g.sg_))).ext hx⟩
 · have old : ∀ q x r, s.blk q = some x → sgPut σ s.n (rb, pre.length, k) q = some r → q ≠ s.n → σ q = some r := fun q x r _ h1 hne => by rw [sgPut_ne hne] at h1; exact h1
   rcases blk_new hq with ⟨rfl, h3⟩ | ⟨hn1, h3⟩ <;> rcases blk_new hc with ⟨rfl, h4⟩ | ⟨hn2, h4⟩
   · exact absurd rfl hne
   · rw [sgPut_same] at h1; cases h1; exact fun e => hno c y r' h4 (old c y r' h4 h2 hn2) e.symm
   · rw [sgPut_same] at h2; cases h2; exact hno q x r h3 (old q x r h3 h1 hn1)
   · exact h.apart q c x y r r' h3 h4 hne (old q x r h3 h1 hn1) (old c y r' h4 h2 hn2)
 · replace hq : s.mo q = some o := hq; obtain ⟨rb', h1, h2, h3⟩ := h.mown q o hq; exact ⟨rb', hx _ _ h1, h2, (h3.keep (ho _ · (hnm q o _ hq h1))).ext hx⟩
 · replace hq : s.mo q = some x := hq; replace hc : s.mo c = some y := hc; obtain ⟨_, g1, _⟩ := h.mown q x hq; obtain ⟨_, g2, _⟩ := h.mown c y hc; have e1 := hx _ _ g1; have e2 := hx _ _ g2; rw [h1] at e1; rw [h2] at e2; rw [← e1] at g1; rw [← e2] at g2; exact h.mapart q c x y _ _ hq hc hne g1 g2
theorem Mem.mbelow (h : Mem P base σ s w) {b : Nat} {x : M} {r : Nat × Nat × Nat} (hb : s.mo b = some x) (hr : σ b = some r) : r.1 < w.heap.size := by
 obtain ⟨rb, h1, _, h3⟩ := h.mown b x hb; rw [h1] at hr; obtain rfl := Option.some.inj hr; show rb < w.heap.size; rcases Nat.lt_or_ge rb w.heap.size with h4 | h4
 · exact h4
 · have := h3.noC.2; rw [Array.getElem?_eq_none h4] at this; cases this
theorem Mem.below (h : Mem P base σ s w) {b : Nat} {x : Blk} {r : Nat × Nat × Nat} (hb : s.blk b = some x) (hr : σ b = some r) : r.1 < w.heap.size := by
 obtain ⟨e', cs'⟩ := x; obtain ⟨rb, off, k, pre, vs, sp, post, g⟩ := h.own b e' cs' hb; have := g.sg_; rw [hr] at this; obtain rfl := Option.some.inj this; show rb < w.heap.size; rcases Nat.lt_or_ge rb w.heap.size with h1 | h1
 · exact h1
 · obtain ⟨fz, this, _⟩ := g.heap; rw [Array.getElem?_eq_none h1] at this; cases this
theorem alloc_oth {o' : Obj} : ∀ c o, c ≠ w.heap.size → w.heap[c]? = some o → (w.alloc o').heap[c]? = some o := by
 intro c o hc hco; show (w.heap.push _)[c]? = _; rw [Array.getElem?_push, if_neg hc]; exact hco
theorem Fram.alloc {w0 : World} (hF : Fram base w0 w) (o : Obj) : Fram base w0 (w.alloc o) := by
 refine ⟨hF.same.trans (.alloc _ _), ?_, fun c hc => ?_⟩
 · intro c hc; show c < (w.heap.push _).size; have := hF.low c hc; simp only [Array.size_push]; omega
 · have := hF.low c hc; show (w.heap.push _)[c]? = _; rw [Array.getElem?_push, if_neg (by omega)]; exact hF.old c hc
theorem Fram.top {w0 : World} (hF : Fram base w0 w) : ¬ base.pr w.heap.size := fun h => Nat.lt_irrefl _ (hF.low _ h)
theorem Mem.alloc (h : Mem P base σ s w) (hf : Fresh base σ s) {w0 : World} (hF : Fram base w0 w) {e : TypeId} {cs : List X} {vs sp : List Value} {k : Nat} (hv : vls σ cs = some vs) (hsp : sp.length = k * szOf P e) (hg : vs.all sg = true) (hns : isArrB P e = true → k = 0) :
   Mem P base (sgPut σ s.n (w.heap.size, 0, k)) (s.new (e, cs)) (w.alloc (.cells (vs ++ sp).toArray e)) ∧ Ext σ (sgPut σ s.n (w.heap.size, 0, k)) ∧ Fresh base (sgPut σ s.n (w.heap.size, 0, k)) (s.new (e, cs)) :=
 h.fresh (w' := w.alloc (.cells (vs ++ sp).toArray e)) (e := e) (pre := []) (post := []) (sp := sp) (rb := w.heap.size) (k := k) hf hv hsp hF.top hg ⟨(0, 0), by show (w.heap.push _)[w.heap.size]? = _; simp, fun o _ hz => by have := hz.2; exact absurd this (Nat.not_lt_zero _)⟩
   (fun b x r hb hr he => by have := h.below hb hr; omega) (fun b x r hb hr he => by have := h.mbelow hb hr; omega) ⟨0, by simp⟩ hns alloc_oth
theorem alloc_at (o : Obj) : (w.alloc o).heap[w.heap.size]? = some o := by show (w.heap.push _)[w.heap.size]? = _; simp
theorem Mem.mnew (h : Mem P base σ s w) (hf : Fresh base σ s) {w0 : World} (hF : Fram base w0 w) {o : M} {ob : Obj} (hn : ∀ w', w'.heap[w.heap.size]? = some ob → MOk σ w' w.heap.size o) :
   Mem P base (sgPut σ s.n (w.heap.size, 0, 0)) (s.mnew o) (w.alloc ob) ∧ Ext σ (sgPut σ s.n (w.heap.size, 0, 0)) ∧ Fresh base (sgPut σ s.n (w.heap.size, 0, 0)) (s.mnew o) := by
 have hx : Ext σ (sgPut σ s.n (w.heap.size, 0, 0)) := sgPut_ext hf.nx
 have low : ∀ {b : Nat} {x : Obj}, w.heap[b]? = some x → b ≠ w.heap.size := fun {b x} hb he => by
   rw [Array.getElem?_eq_none (by omega)] at hb; cases hb
 refine ⟨⟨fun q e cs hq => ?_, fun q c x y r r' hq hc hne h1 h2 => ?_, fun q x hq => ?_, fun q c x y r r' hq hc hne h1 h2 => ?_, h.keepG fun c o _ hco => alloc_oth c o (low hco) hco⟩, hx, hf.next _ rfl rfl⟩
 · replace hq : s.blk q = some (e, cs) := hq; obtain ⟨rb', off', k', pre', vs', sp', post', g⟩ := h.own q e cs hq; exact ⟨rb', off', k', pre', vs', sp', post', (g.keep fun o ho => alloc_oth _ _ (low ho) ho).ext hx⟩
 · replace hq : s.blk q = some x := hq; replace hc : s.blk c = some y := hc; exact (h.ext hx).apart q c x y r r' hq hc hne h1 h2
 · rcases mo_mnew hq with ⟨rfl, rfl⟩ | ⟨hne, h2⟩
   · exact ⟨w.heap.size, sgPut_same _ _ _, hF.top, (hn _ (alloc_at ob)).ext hx⟩
   · obtain ⟨rb', h1, h3, h4⟩ := h.mown q x h2; exact ⟨rb', hx _ _ h1, h3, (h4.keep fun o ho => alloc_oth _ _ (low ho) ho).ext hx⟩
 · have old : ∀ q x r, s.mo q = some x → sgPut σ s.n (w.heap.size, 0, 0) q = some r → q ≠ s.n → σ q = some r := fun q x r _ h1 hne => by rw [sgPut_ne hne] at h1; exact h1
   rcases mo_mnew hq with ⟨rfl, h3⟩ | ⟨hn1, h3⟩ <;> rcases mo_mnew hc with ⟨rfl, h4⟩ | ⟨hn2, h4⟩
   · exact absurd rfl hne
   · rw [sgPut_same] at h1; cases h1
     exact fun e => by have := h.mbelow h4 (old c y r' h4 h2 hn2); omega
   · rw [sgPut_same] at h2; cases h2
     exact fun e => by have := h.mbelow h3 (old q x r h3 h1 hn1); omega
   · exact h.mapart q c x y r r' h3 h4 hne (old q x r h3 h1 hn1) (old c y r' h4 h2 hn2)
def oth (w : World) (rb : Nat) : HProp := fun h => ∀ c o, c ≠ rb → w.heap[c]? = some o → h c = some o
theorem Fram.upd {w0 : World} {rb : Nat} (hF : Fram base w0 w) (hS : Same w w') (hb : ¬ base.pr rb) (ho : ∀ c o, c ≠ rb → w.heap[c]? = some o → w'.heap[c]? = some o) : Fram base w0 w' := by
 refine ⟨hF.same.trans hS, fun c hc => Nat.lt_of_lt_of_le (hF.low c hc) hS.size, fun c hc => ?_⟩; have h1 : c < w.heap.size := hF.low c hc; rw [← hF.old c hc]; have h2 : w.heap[c]? = some w.heap[c] := Array.getElem?_eq_getElem h1; rw [h2]; exact ho c _ (fun e => hb (e ▸ hc)) h2
theorem Fram.drew {w0 : World} (hF : Fram base w0 w) : Fram base w0 w.drew := ⟨hF.same.trans (.drew _), hF.low, hF.old⟩
theorem Mem.drew (h : Mem P base σ s w) : Mem P base σ s w.drew :=
 ⟨fun b e cs hb => let ⟨rb, off, k, pre, vs, sp, post, g⟩ := h.own b e cs hb; ⟨rb, off, k, pre, vs, sp, post, g.keep fun _ ho => ho⟩, h.apart, fun b o hb => let ⟨rb, h1, h2, h3⟩ := h.mown b o hb; ⟨rb, h1, h2, h3.keep fun _ ho => ho⟩, h.mapart, h.glb⟩
def ofV : Value → Option X
 | .bool b => some (.b b)
 | .int k n => some (.i k n)
 | .string s => some (.s (s.data.toList.map UInt8.toNat))
 | .pointer none => some (.p none)
 | .slice none n c => some (.l none n c)
 | .nilIface => some .ni
 | .nilFunc => some .nf
 | .map none => some (.m none)
 | _ => none
theorem str_toNat (s : ByteArray) : str (s.data.toList.map UInt8.toNat) = s := by
 apply ba_ext; simp only [str, List.map_map]; rw [show (UInt8.ofNat ∘ UInt8.toNat) = id by funext x; simp, List.map_id]
theorem vl_ofV {v : Value} {x : X} (h : ofV v = some x) : vl σ x = some v := by
 cases v with
 | bool b => simp only [ofV, Option.some.injEq] at h; subst h; rfl
 | int k n => simp only [ofV, Option.some.injEq] at h; subst h; rfl
 | string s => simp only [ofV, Option.some.injEq] at h; subst h; simp only [vl, str_toNat]
 | pointer a =>
   cases a with
   | none => simp only [ofV, Option.some.injEq] at h; subst h; rfl
   | some a => cases h
 | slice a n c =>
   cases a with
   | none => simp only [ofV, Option.some.injEq] at h; subst h; rfl
   | some a => cases h
 | nilIface => simp only [ofV, Option.some.injEq] at h; subst h; rfl
 | nilFunc => simp only [ofV, Option.some.injEq] at h; subst h; rfl
 | map a =>
   cases a with
   | none => simp only [ofV, Option.some.injEq] at h; subst h; rfl
   | some a => cases h
 | _ => cases h
def ofVs : List Value → Option (List X)
 | [] => some []
 | v :: r => match ofV v, ofVs r with
   | some x, some xs => some (x :: xs)
   | _, _ => none
theorem vls_ofVs : ∀ {vs : List Value} {xs : List X}, ofVs vs = some xs → vls σ xs = some vs
 | [], xs, h => by simp only [ofVs, Option.some.injEq] at h; subst h; rfl
 | v :: r, xs, h => by
   simp only [ofVs] at h
   cases hx : ofV v with
   | none => rw [hx] at h; cases h
   | some x =>
     cases hr : ofVs r with
     | none => rw [hx, hr] at h; cases h
     | some ys =>
       rw [hx, hr] at h; obtain rfl := Option.some.inj h; exact vls_mk (vl_ofV hx) (vls_ofVs hr)
def eqN : List Nat → List Nat → Bool
 | [], [] => true
 | x :: a, y :: b => match Nat.beq (x % 256) (y % 256) with
   | true => eqN a b
   | false => false
 | _, _ => false
theorem eqN_spec : ∀ (a b : List Nat), eqN a b = decide (str a = str b)
 | [], [] => by simp [eqN]
 | [], y :: b => by
   have : ¬ str [] = str (y :: b) := by intro h; have := congrArg ByteArray.size h; simp [str, ByteArray.size] at this
   simp [eqN, this]
 | x :: a, [] => by
   have : ¬ str (x :: a) = str [] := by intro h; have := congrArg ByteArray.size h; simp [str, ByteArray.size] at this
   simp [eqN, this]
 | x :: a, y :: b => by
   have h1 : str (x :: a) = str (y :: b) ↔ x % 256 = y % 256 ∧ str a = str b := by
     constructor
     · intro h; have := congrArg (fun s : ByteArray => s.data.toList) h; simp only [str, List.map_cons, List.cons.injEq] at this; refine ⟨?_, ba_ext (by simpa [str] using this.2)⟩; have := congrArg UInt8.toNat this.1; simpa using this
     · rintro ⟨h1, h2⟩; have h3 := congrArg (fun s : ByteArray => s.data.toList) h2; apply ba_ext; simp only [str, List.map_cons] at h3 ⊢; rw [h3]
       congr 1
       apply UInt8.toNat_inj.1; simpa using h1
   simp only [eqN]
   cases hb : Nat.beq (x % 256) (y % 256) with
   | true =>
     have := Nat.eq_of_beq_eq_true hb; simp only; rw [eqN_spec a b, decide_eq_decide, h1]; simp [this]
   | false =>
     have := Nat.ne_of_beq_eq_false hb
     symm
     rw [decide_eq_false_iff_not, h1]; exact fun e => this e.1
theorem str_app (a b : List Nat) : str (a ++ b) = str a ++ str b := by
 apply ba_ext; simp [str]
theorem str_size (a : List Nat) : (str a).size = a.length := by simp [str, ByteArray.size]
def bpV (op : BinOp) (u v : Value) : Option X := match bp op u v with
 | some r => ofV r
 | none => none
theorem bpV_spec {op : BinOp} {u v : Value} {z : X} (h : bpV op u v = some z) : ∃ r, bp op u v = some r ∧ vl σ z = some r := by
 unfold bpV at h
 cases hr : bp op u v with
 | none => rw [hr] at h; cases h
 | some r => rw [hr] at h; exact ⟨r, rfl, vl_ofV h⟩
def bpS (op : BinOp) (a b : List Nat) : Option X := match op with
 | .add => (match Nat.ble (a.length + b.length) 9223372036854775807 with
   | true => some (.s (a ++ b))
   | false => none)
 | .eql => some (.b (eqN a b))
 | .neq => some (.b !(eqN a b))
 | op => bpV op (.string (str a)) (.string (str b))
theorem bpS_spec {op : BinOp} {a b : List Nat} {z : X} (h : bpS op a b = some z) : ∃ r, bp op (.string (str a)) (.string (str b)) = some r ∧ vl σ z = some r := by
 unfold bpS at h; split at h
 · split at h
   · rename_i hl; obtain rfl := Option.some.inj h; have hl2 := Nat.le_of_ble_eq_true hl; refine ⟨.string (str a ++ str b), ?_, by simp only [vl, str_app]⟩; simp only [bp]; rw [if_neg]; rw [str_size, str_size]; show ¬ _ > (9223372036854775807 : Int); omega
   · cases h
 · obtain rfl := Option.some.inj h; exact ⟨_, rfl, by simp only [vl, eqN_spec, seq_eq]⟩
 · obtain rfl := Option.some.inj h; exact ⟨_, rfl, by simp only [vl, eqN_spec, seq_eq]⟩
 · exact bpV_spec h
def bp64 (op : BinOp) (m n : Nat) : Option X := match op with
 | .add => @Bool.rec (fun _ => Option X) (bpV .add (.int .i64 (.ofNat m)) (.int .i64 (.ofNat n))) (some (.i .i64 (.ofNat (Nat.add m n)))) (Nat.blt (Nat.add m n) 9223372036854775808)
 | .sub => @Bool.rec (fun _ => Option X) (bpV .sub (.int .i64 (.ofNat m)) (.int .i64 (.ofNat n))) (@Bool.rec (fun _ => Option X) (bpV .sub (.int .i64 (.ofNat m)) (.int .i64 (.ofNat n))) (some (.i .i64 (.ofNat (Nat.sub m n)))) (Nat.blt m 9223372036854775808)) (Nat.ble n m)
 | .mul => @Bool.rec (fun _ => Option X) (bpV .mul (.int .i64 (.ofNat m)) (.int .i64 (.ofNat n))) (some (.i .i64 (.ofNat (Nat.mul m n)))) (Nat.blt (Nat.mul m n) 9223372036854775808)
 | .lss => some (.b (Nat.blt m n))
 | .leq => some (.b (Nat.ble m n))
 | .gtr => some (.b (Nat.blt n m))
 | .geq => some (.b (Nat.ble n m))
 | .eql => some (.b (Nat.beq m n))
 | .neq => some (.b (Bool.not (Nat.beq m n)))
 | op => bpV op (.int .i64 (.ofNat m)) (.int .i64 (.ofNat n))
theorem bool_rec {α : Type} (a b : α) (c : Bool) : @Bool.rec (fun _ => α) a b c = if c = true then b else a := by cases c <;> rfl
theorem bp64_spec {op : BinOp} {m n : Nat} {z : X} (h : bp64 op m n = some z) : ∃ r, bp op (.int .i64 (m : Int)) (.int .i64 (n : Int)) = some r ∧ vl σ z = some r := by
 have w : ∀ k : Int, 0 ≤ k → k < 9223372036854775808 → IntKind.i64.wrap k = k := fun k h1 h2 => wrap64 (by omega) (by omega); unfold bp64 at h; split at h
 · rw [bool_rec] at h; split at h
   · rename_i hb; have hb := Nat.le_of_ble_eq_true hb; obtain rfl := Option.some.inj h; refine ⟨_, rfl, ?_⟩; simp only [vl]; rw [w _ (by omega) (by have : Nat.add m n = m + n := rfl; omega)]; rfl
   · exact bpV_spec h
 · rw [bool_rec] at h; split at h
   · rename_i hb; rw [bool_rec] at h; split at h
     · rename_i hb2; have hb := Nat.le_of_ble_eq_true hb; have hb2 := Nat.le_of_ble_eq_true hb2; obtain rfl := Option.some.inj h; refine ⟨_, rfl, ?_⟩; simp only [vl]; rw [w _ (by omega) (by omega)]
       congr 2
       show ((m - n : Nat) : Int) = (m : Int) - (n : Int); omega
     · exact bpV_spec h
   · exact bpV_spec h
 · rw [bool_rec] at h; split at h
   · rename_i hb; have hb := Nat.le_of_ble_eq_true hb; obtain rfl := Option.some.inj h; refine ⟨_, rfl, ?_⟩; simp only [vl]
     have e : (m : Int) * (n : Int) = ((m * n : Nat) : Int) := by simp
     have e2 : Nat.mul m n = m * n := rfl; rw [e, w _ (by omega) (by omega)]; rfl
   · exact bpV_spec h
 · obtain rfl := Option.some.inj h; refine ⟨_, rfl, ?_⟩; simp only [vl]
   congr 2
   rw [Bool.eq_iff_iff, decide_eq_true_iff]; exact ⟨fun h => by have := Nat.le_of_ble_eq_true h; show (m : Int) < n; omega, fun h => Nat.ble_eq_true_of_le (by have : (m : Int) < n := h; omega)⟩
 · obtain rfl := Option.some.inj h; refine ⟨_, rfl, ?_⟩; simp only [vl]
   congr 2
   rw [Bool.eq_iff_iff, decide_eq_true_iff]; exact ⟨fun h => by have := Nat.le_of_ble_eq_true h; show (m : Int) ≤ n; omega, fun h => Nat.ble_eq_true_of_le (by have : (m : Int) ≤ n := h; omega)⟩
 · obtain rfl := Option.some.inj h; refine ⟨_, rfl, ?_⟩; simp only [vl]
   congr 2
   rw [Bool.eq_iff_iff, decide_eq_true_iff]; exact ⟨fun h => by have := Nat.le_of_ble_eq_true h; show (n : Int) < m; omega, fun h => Nat.ble_eq_true_of_le (by have : (n : Int) < m := h; omega)⟩
 · obtain rfl := Option.some.inj h; refine ⟨_, rfl, ?_⟩; simp only [vl]
   congr 2
   rw [Bool.eq_iff_iff, decide_eq_true_iff]; exact ⟨fun h => by have := Nat.le_of_ble_eq_true h; show (n : Int) ≤ m; omega, fun h => Nat.ble_eq_true_of_le (by have : (n : Int) ≤ m := h; omega)⟩
 · obtain rfl := Option.some.inj h; refine ⟨_, rfl, ?_⟩; simp only [vl]
   congr 2
   rw [Bool.eq_iff_iff, beq_iff_eq]
   constructor
   · intro h; rw [Nat.eq_of_beq_eq_true h]
   · intro h
     have : m = n := by omega
     subst this; exact Nat.beq_refl _
 · obtain rfl := Option.some.inj h; refine ⟨_, rfl, ?_⟩; simp only [vl]
   congr 2
   have : Nat.beq m n = ((m : Int) == (n : Int)) := by
     rw [Bool.eq_iff_iff, beq_iff_eq]
     constructor
     · intro h; rw [Nat.eq_of_beq_eq_true h]
     · intro h
       have : m = n := by omega
       subst this; exact Nat.beq_refl _
   rw [this]; rfl
 · exact bpV_spec h
def bpI (op : BinOp) (k : IntKind) (a : Int) (k' : IntKind) (b : Int) : Option X := match k, k', a, b with
 | .i64, .i64, .ofNat m, .ofNat n => bp64 op m n
 | k, k', a, b => bpV op (.int k a) (.int k' b)
theorem bpI_spec {op : BinOp} {k k' : IntKind} {a b : Int} {z : X} (h : bpI op k a k' b = some z) : ∃ r, bp op (.int k a) (.int k' b) = some r ∧ vl σ z = some r := by
 unfold bpI at h; split at h
 · exact bp64_spec h
 · exact bpV_spec h
def bpX (op : BinOp) (x y : X) : Option X := match x, y with
 | .i k a, .i k' b => bpI op k a k' b
 | .s a, .s b => bpS op a b
 | _, _ => none
theorem bpX_spec {op : BinOp} {x y z : X} {u v : Value} (h : bpX op x y = some z) (hx : vl σ x = some u) (hy : vl σ y = some v) : ∃ r, bp op u v = some r ∧ vl σ z = some r := by
 unfold bpX at h; split at h
 · simp only [vl, Option.some.injEq] at hx hy; subst hx; subst hy; exact bpI_spec h
 · simp only [vl, Option.some.injEq] at hx hy; subst hx; subst hy; exact bpS_spec h
 · cases h
def evX (ρ : T X) : Operand → Option X
 | .tmp t => ρ.get t t
 | .const v => ofV v
 | .func f => some (.f (.func f) [] [])
 | _ => none
def EnvR (σ : Sg) (ρ : T X) (r : Env) : Prop := ∀ t x, ρ.get t t = some x → vl σ x = some (r.get t)
theorem evX_spec {ρ : T X} {r : Env} (h : EnvR σ ρ r) {o : Operand} {x : X} (hx : evX ρ o = some x) : vl σ x = some (r.ev o) := by
 cases o with
 | tmp t => exact h t x hx
 | const v => exact vl_ofV hx
 | global g => cases hx
 | func f => obtain rfl := Option.some.inj hx; rfl
def isAg (P : Program) (t : TypeId) : Option Bool := match P.underlying t with
 | some (.struct _) | some (.array _ _) => some true
 | some _ => some false
 | none => none
def ldX (s : St) (b o : Nat) : Option X := match s.blk b with
 | some c => c.2[o]?
 | none => none
def ldAX (s : St) (b o n : Nat) : Option X := match s.blk b with
 | some c => match Nat.beq ((c.2.drop o).take n).length n with
   | true => some (.g ((c.2.drop o).take n))
   | false => none
 | none => none
theorem Own.cell {b e : Nat} {cs : List X} {rb off k : Nat} {pre vs sp post : List Value} (h : Own P base σ w b e cs rb off k pre vs sp post) {o : Nat} (ho : o < vs.length) : w.cell? ⟨rb, off + o, none⟩ = vs[o]? := by
 obtain ⟨fz, hh, _⟩ := h.heap
 have : w.cell? ⟨rb, off + o, none⟩ = (pre ++ vs ++ sp ++ post)[off + o]? := by simp [World.cell?, hh]
 have hp := h.pre_; rw [this, List.append_assoc, List.append_assoc, List.getElem?_append_right (by omega), List.getElem?_append_left (by omega)]
 congr 1
 omega
theorem Own.any {b e : Nat} {cs : List X} {rb off k : Nat} {pre vs sp post : List Value} (h : Own P base σ w b e cs rb off k pre vs sp post) (o : Nat) : w.cell? ⟨rb, o, none⟩ = (pre ++ vs ++ sp ++ post)[o]? := by
 obtain ⟨fz, hh, _⟩ := h.heap; simp [World.cell?, hh]
theorem Own.nofz {b e : Nat} {cs : List X} {rb off k : Nat} {pre vs sp post : List Value} (h : Own P base σ w b e cs rb off k pre vs sp post) {o : Nat} (ho : o < (pre ++ vs ++ sp ++ post).length) : w.frozen? ⟨rb, o, none⟩ = false := by
 obtain ⟨fz, hh, hz⟩ := h.heap; have := hz o ho; obtain ⟨lo, hi⟩ := fz; simp only [World.frozen?, hh]; simp only at this; rw [Bool.and_eq_false_iff, decide_eq_false_iff_not, decide_eq_false_iff_not]; omega
theorem ldX_spec (h : Mem P base σ s w) {b o : Nat} {x : X} (hx : ldX s b o = some x) : ∃ r v, σ b = some r ∧ vl σ x = some v ∧ w.cell? ⟨r.1, r.2.1 + o, none⟩ = some v := by
 unfold ldX at hx
 cases hb : s.blk b with
 | none => rw [hb] at hx; cases hx
 | some c =>
   rw [hb] at hx; obtain ⟨e, cs⟩ := c; obtain ⟨rb, off, k, pre, vs, sp, post, g⟩ := h.own b e cs hb; obtain ⟨v, g1, g2⟩ := vls_get g.val hx; exact ⟨_, v, g.sg_, g2, by rw [g.cell (List.getElem?_eq_some_iff.1 g1).1, g1]⟩
theorem add_off {b o n : Nat} : (⟨b, o, none⟩ : Addr).add n = ⟨b, o + n, none⟩ := by
 unfold Addr.add; split
 · rename_i h; rw [h]; rfl
 · rfl
theorem ldAX_spec (h : Mem P base σ s w) {b o n : Nat} {x : X} (hx : ldAX s b o n = some x) : ∃ (r : Nat × Nat × Nat) (vs : List Value), σ b = some r ∧ vl σ x = some (.agg vs.toArray) ∧ vs.length = n ∧ ∀ i v, vs[i]? = some v → w.cell? ((⟨r.1, r.2.1 + o, none⟩ : Addr).add i) = some v := by
 unfold ldAX at hx
 cases hb : s.blk b with
 | none => rw [hb] at hx; cases hx
 | some c =>
   rw [hb] at hx; obtain ⟨e, cs⟩ := c; simp only at hx
   cases hl : Nat.beq ((cs.drop o).take n).length n with
   | false => rw [hl] at hx; cases hx
   | true =>
     rw [hl] at hx; obtain rfl := Option.some.inj hx; obtain ⟨rb, off, k, pre, vs, sp, post, g⟩ := h.own b e cs hb; have h3 := vls_take n (vls_drop o g.val); have h5 := Nat.eq_of_beq_eq_true hl; rw [vls_len h3] at h5; refine ⟨_, _, g.sg_, by simp only [vl, h3], h5, fun i v hi => ?_⟩; rw [add_off]; have hi2 := hi; rw [List.getElem?_take_of_lt (by have := (List.getElem?_eq_some_iff.1 hi).1; omega), List.getElem?_drop] at hi2; rw [show off + o + i = off + (o + i) by omega, g.cell (List.getElem?_eq_some_iff.1 hi2).1, hi2]
end
end Go.Ev
namespace Go.M18
def blw (l : List UInt8) (b : Nat) : Nat := l.countP fun c => decide (c.toNat < b)
def cntB (l : List UInt8) (b : Nat) : Nat := l.countP fun c => c.toNat == b
def nx (l : List UInt8) (s : Nat) (b : Nat) : Nat := if s < l.length then cntB (l.take s) b else blw l b + cntB (l.take (s - l.length)) b
def nxL (l : List UInt8) (s : Nat) : List Nat := (List.range 256).map (nx l s)
def pos (l : List UInt8) (j : Nat) : Nat := blw l (l.getD j 0).toNat + cntB (l.take j) (l.getD j 0).toNat
def lnk (l : List UInt8) : Nat → List Nat
 | 0 => List.replicate l.length 0
 | i + 1 => (lnk l i).set (pos l i) i
def lnS (l : List UInt8) (s : Nat) : List Nat := lnk l (min (s - l.length) l.length)
def links (l : List UInt8) : List Nat := lnk l l.length
def atK (l : List UInt8) (o : Nat) : Nat → Nat
 | 0 => o
 | k + 1 => (links l).getD (atK l o k) 0
def outK (l : List UInt8) (o : Nat) : Nat → List UInt8
 | 0 => []
 | k + 1 => outK l o k ++ [l.getD (atK l o (k + 1)) 0]
def text (l : List UInt8) (o : Nat) : List UInt8 := outK l o l.length
def exB (f : Nat → Nat) : Nat → Nat
 | 0 => 0
 | b + 1 => exB f b + f b
def cnL (l : List UInt8) (i : Nat) : List Nat := (List.range 256).map (cntB (l.take i))
end Go.M18
namespace Go.Proofs.YtgaiocpkjaaphaaGreatDoor
open Go Go.Vc
attribute [local irreducible] Vc.Nc Vc.Ld Vc.LdA Vc.St Vc.StA Vc.Fo Vc.Iaa Vc.Ias Vc.Ixs Vc.Ixa Vc.Fd Vc.FdA Vc.Bp Vc.Bb Vc.Bn Vc.Up Vc.Ci Vc.Lns Vc.Lnl Vc.Ex Vc.Sst Vc.Ssl Vc.New Vc.Vif Vc.VJoin Vc.VLoop Vc.KE Vc.Dr Vc.Rk Vc.Cl Vc.Cx Vc.Inv Vc.Be Vc.Cv Vc.Cw Vc.Mf Vc.Sl Vc.Lk Vc.Bd Vc.Bs Vc.Ms Vc.Mm Vc.Mu Vc.Me Vc.Es Vc.Rg Vc.Nx Vc.Ta Vc.Ap Vc.Usd Vc.Ust Vc.Cp Vc.Ln Vc.Bc Vc.Bmin Vc.Bmax Vc.Bdel Vc.Bclr Vc.Pk
instance rowI : Row Tryz.prog 69 3 (.int .i64 0) := ⟨by kernel_rfl, ⟨Tryz.t3, by kernel_rfl, by kernel_rfl, by decide, by kernel_rfl⟩, rfl⟩
instance rowB : Row Tryz.prog 54 5 (.int .u8 0) := ⟨by kernel_rfl, ⟨Tryz.t5, by kernel_rfl, by kernel_rfl, by decide, by kernel_rfl⟩, rfl⟩
instance bytesB : Bytes Tryz.prog 54 5 9 := ⟨by kernel_rfl, by kernel_rfl, by kernel_rfl⟩
abbrev tI : Nat := 3
abbrev tB : Nat := 5
abbrev pt (b : Nat) : Value := .pointer (some ⟨b, 0, none⟩)
section
variable {w : World} {L : List HProp} {K : Value → World → Prop}
theorem sg_nv (n : Nat) : sg (nv n) = true := rfl
theorem eq_nilI (oa : Option Addr) (l c : Nat) {K : Value → Prop} (k : K (.bool oa.isNone)) : Be Tryz.prog .eql 69 (.tmp 3) (.const (.slice none 0 0)) (.slice oa l c) (.slice none 0 0) w K := by
 cases oa with
 | none => exact r_be (v := .bool true) (by kernel_rfl) k
 | some a => exact r_be (v := .bool false) (by kernel_rfl) k
theorem Clone_spec (H : Holds w L) (j : Nat) {v : Value} {xs : List Nat} (hj : L[j]? = some (SL nv tI v xs)) (hn : xs.length ≤ 1000000000) (k : ∀ v' w', Same w w' → Holds w' (SL nv tI v' xs :: L) → K v' w') : Cl Tryz.prog F.slices_Clone_int_int #[v] w K := by
 refine Tie.slices_Clone_int_int ?_; unfold Vcf.slices_Clone_int_int; have H0 := H; obtain ⟨oa, sp, rfl, H1⟩ := H0.open j hj; refine eq_nilI _ _ _ ?_
 cases oa with
 | none =>
   obtain ⟨g, ⟨h2, _⟩, _⟩ := H1.front j (set_get hj); subst h2; exact r_vt (k _ _ (.refl _) (H.nilSL nv tI))
 | some a =>
   refine r_vf ?_; refine r_bsK (e := tI) [] H (by kernel_rfl) fun b w1 S1 H1 => ?_; have H2 := SL_of_blk (f := nv) 0 [] H1 rfl; rw [List.set_cons_zero] at H2; refine r_apS (xs := []) H2 0 (j + 1) (by omega) rfl (by rw [List.getElem?_cons_succ]; exact hj) sg_nv (by simp only [List.length_nil]; omega) fun v' w2 S2 H3 => ?_; rw [List.set_cons_zero, List.nil_append] at H3; exact k _ _ (S1.trans S2) H3
end
namespace Rb
open Go.M01 Go.Mb
variable {w : World} {L : List HProp} {K : Value → World → Prop} {b : Nat} {B : List UInt8} {d at_ n : Nat}
abbrev tR : Nat := 90
abbrev S_ (s : List UInt8) : Value := .string ⟨s.toArray⟩
def RdR (b : Nat) (B : List UInt8) (d at_ : Nat) : HProp := fun h => (8 * d ≤ at_ ∧ at_ ≤ 8 * B.length ∧ B.length ≤ 1000000000) ∧ blk b tR [S_ (B.drop d), nv d, nv at_] h
end Rb
def After {σ : Type} (x : Mp.Res σ) (rep : σ → HProp) (same : HProp) (r : Nat) (B : List UInt8) (d at_ : Nat) (L : List HProp) (e : Int) (w : World) : Prop :=
 match x with
 | .short => e = 3 ∧ Holds w (same :: Rb.RdR r B d at_ :: L)
 | .bad c => e = (c : Int) ∧ ∃ p, Holds w (Rb.RdR r B d p :: L)
 | .ok s n => e = 0 ∧ Holds w (rep s :: Rb.RdR r B d (at_ + n) :: L)
def AfterS {σ : Type} (x : Mp.Res σ) (rep : σ → HProp) (same : HProp) (r : Nat) (B : List UInt8) (d at_ : Nat) (L : List HProp) (e : Int) (w : World) : Prop :=
 match x with
 | .short => e = 3 ∧ ∃ q, Holds w (same :: Rb.RdR r B d q :: L)
 | .bad c => e = (c : Int) ∧ ∃ p, Holds w (Rb.RdR r B d p :: L)
 | .ok s n => e = 0 ∧ Holds w (rep s :: Rb.RdR r B d (at_ + n) :: L)
namespace P13
open Go.M01 Go.Mb Go.Mp Rb
variable {w : World} {L : List HProp} {K : Value → World → Prop} {b r : Nat} {B : List UInt8} {d at_ n : Nat} {p : PS}
abbrev tO : Nat := 256
abbrev tP : Nat := 311
def pkC (t c : Nat) (o : List Nat) (pv : Value) : List Value := [nv t, nv c] ++ (o.map nv ++ [pv, .bool false])
section
variable {t c : Nat} {o : List Nat} {pv : Value} (ho : o.length = 6)
include ho
end
def PkR (b : Nat) (p : PS) : HProp := fun h => p.Ok ∧ ∃ pv, Sat [blk b tP (pkC p.t p.count p.order pv), SL nv tI pv p.picks] h
def PkW (b : Nat) (p : PS) : HProp := fun h => p.Ok ∧ ∃ pv, Sat [blk b tP ((pkC p.t p.count p.order pv).set 9 (.bool true)), SL nv tI pv p.picks] h
def AfterP (x : Res PS) (b : Nat) (p : PS) (r : Nat) (B : List UInt8) (d at_ : Nat) (L : List HProp) (e : Int) (w : World) : Prop :=
 match x with
 | .short => e = 3 ∧ Holds w (PkR b p :: RdR r B d at_ :: L)
 | .bad c => e = (c : Int) ∧ ∃ q, Holds w (PkW b p :: RdR r B d q :: L)
 | .ok s n => e = 0 ∧ Holds w (PkR b s :: RdR r B d (at_ + n) :: L)
def AfterPS (x : Res PS) (b : Nat) (p : PS) (r : Nat) (B : List UInt8) (d at_ : Nat) (L : List HProp) (e : Int) (w : World) : Prop :=
 match x with
 | .short => e = 3 ∧ ∃ q, Holds w (PkR b p :: RdR r B d q :: L)
 | .bad c => e = (c : Int) ∧ ∃ q, Holds w (PkW b p :: RdR r B d q :: L)
 | .ok s n => e = 0 ∧ Holds w (PkR b s :: RdR r B d (at_ + n) :: L)
theorem fresh_spec (H : Holds w L) (k : ∀ w', Same w w' → Holds w' L → K (.agg #[nv 0, nv 1, nv 2, nv 3, nv 4, nv 5]) w') : Cl Tryz.prog F.picks_fresh #[] w K := by
 refine Tie.picks_fresh ?_; unfold Vcf.picks_fresh; have S := Same.refl w
 have hz : (zeroP Tryz.prog tO).cells.toList = [nv 0, nv 0, nv 0, nv 0, nv 0, nv 0] := by kernel_rfl
 refine r_new H fun b1 w1 S1 H1 => ?_; rw [hz] at H1; refine r_new H1 fun b2 w2 S2 H2 => ?_; rw [hz] at H2; replace S := (S.trans S1).trans S2; clear H H1; refine r_loop1 (fun x w' => ∃ i : Nat, i ≤ 6 ∧ x = nv i ∧ Same w w' ∧ Holds w' (blk b2 tO ([] ++ ((filled [0, 1, 2, 3, 4, 5] 0 6 i).map nv ++ [])) :: blk b1 tO [nv 0, nv 0, nv 0, nv 0, nv 0, nv 0] :: L)) (fun x _ => 6 - (RowKit.intOf x).toNat) ⟨0, by omega, rfl, S, H2⟩ ?_; clear S H2; rintro _ _ w3 ⟨i, hi, rfl, S, H⟩
 repeat (refine r_lss ?_)
 refine r_ifD (fun h => ?_) fun h => ?_
 · have hlt : i < 6 := by omega
   have hl : (filled [0, 1, 2, 3, 4, 5] 0 6 i).length = 6 := filled_len (by omega) rfl
   repeat (refine r_iaaN (by omega) ?_)
   refine r_st 0 H rfl (by simp [hl]; omega) rfl fun w4 S4 H4 => ?_; have e := mid_set (f := nv) (xs := filled [0, 1, 2, 3, 4, 5] 0 6 i) (post := []) (j := i) [] i (by omega)
   rw [filled_set hlt rfl (show [0, 1, 2, 3, 4, 5][i]? = some i by
     have h6 : i = 0 ∨ i = 1 ∨ i = 2 ∨ i = 3 ∨ i = 4 ∨ i = 5 := by omega
     rcases h6 with rfl | rfl | rfl | rfl | rfl | rfl <;> rfl)] at e
   rw [List.length_nil] at e; rw [List.set_cons_zero, e] at H4
   repeat (first | refine r_ke ?_ | (refine r_add1N (by omega) ?_))
   refine ⟨⟨i + 1, by omega, rfl, S.trans S4, H4⟩, ?_⟩; simp [nv, RowKit.intOf]; omega
 · obtain rfl : i = 6 := by omega
   replace H : Holds w3 (blk b2 tO [nv 0, nv 1, nv 2, nv 3, nv 4, nv 5] :: blk b1 tO [nv 0, nv 0, nv 0, nv 0, nv 0, nv 0] :: L) := H; refine r_ldA 0 H [nv 0, nv 1, nv 2, nv 3, nv 4, nv 5] rfl rfl rfl ?_; refine r_stA 1 H (vs := [nv 0, nv 1, nv 2, nv 3, nv 4, nv 5]) rfl (by simp) rfl rfl fun w4 S4 H4 => ?_; replace H4 : Holds w4 (blk b2 tO [nv 0, nv 1, nv 2, nv 3, nv 4, nv 5] :: blk b1 tO [nv 0, nv 1, nv 2, nv 3, nv 4, nv 5] :: L) := H4; refine r_ldA 1 H4 [nv 0, nv 1, nv 2, nv 3, nv 4, nv 5] rfl rfl rfl ?_; exact k _ (S.trans S4) H4.drop.drop
end P13
namespace D11
open Go.M01 Go.Mb Go.Mp Rb
variable {w : World} {L : List HProp} {K : Value → World → Prop} {b r : Nat} {B : List UInt8} {d at_ n : Nat} {p : DS}
abbrev tD : Nat := 318
def DlR (b : Nat) (p : DS) : HProp := fun h => (p.Ok ∧ p.size ≤ 258) ∧ ∃ pv, Sat [blk b tD [nv p.size, nv p.now, pv, .bool false], SL nv tI pv p.lens] h
end D11
instance rowU : Row Tryz.prog 102 22 (.int .u32 0) := ⟨by kernel_rfl, ⟨Tryz.t22, by kernel_rfl, by kernel_rfl, by decide, by kernel_rfl⟩, rfl⟩
abbrev tU : Nat := 22
namespace C10
open Go.M01 Go.Mb Go.Mp Go.M10 Rb
variable {w : World} {L : List HProp} {K : Value → World → Prop} {b r : Nat} {B : List UInt8} {d at_ n : Nat} {lens : List Nat}
abbrev tC : Nat := 219
theorem getD_some {l : List Nat} {i : Nat} (h : i < l.length) : l[i]? = some (l.getD i 0) := by
 rw [List.getD_eq_getElem?_getD, List.getElem?_eq_getElem h]; rfl
theorem sized_at (hs : Sized lens) {i : Nat} (h : i < lens.length) : 1 ≤ lens.getD i 0 ∧ lens.getD i 0 ≤ 20 := hs _ (List.mem_of_getElem? (getD_some h))
theorem Index_spec {x : Nat} (j : Nat) {v : Value} (H : Holds w L) (hj : L[j]? = some (SL nv tI v lens)) (hn : lens.length ≤ 1000000000) (hx : ∀ y ∈ lens, y ≠ x) (k : K (iv (-1)) w) :
   Cl Tryz.prog F.slices_Index_int_int #[v, nv x] w K := by
 refine Tie.slices_Index_int_int ?_; unfold Vcf.slices_Index_int_int; refine r_lnS j H hj ?_; refine r_loop1 (fun y w' => ∃ i : Nat, i ≤ lens.length ∧ y = nv i ∧ w = w') (fun y _ => lens.length - (RowKit.intOf y).toNat) ⟨0, by omega, rfl, rfl⟩ ?_; rintro _ _ _ ⟨i, hi, rfl, rfl⟩
 repeat (refine r_lss ?_)
 refine r_ifD (fun h => ?_) fun h => ?_
 · have hlt : i < lens.length := by omega
   refine r_getS j H hj (getD_some hlt) ?_; have := hx _ (List.mem_of_getElem? (getD_some hlt))
   repeat (first | refine r_ke ?_ | refine r_eql ?_ | (refine r_add1N (by omega) ?_) | ((with_reducible refine r_vfE ?h ?_); (case h => omega)))
   refine ⟨⟨i + 1, by omega, rfl, rfl⟩, ?_⟩; simp [nv, RowKit.intOf]; omega
 · exact k
theorem between_spec (j : Nat) {v : Value} (H : Holds w L) (hj : L[j]? = some (SL nv tI v lens)) (hn : lens.length ≤ 1000000000) (hs : Sized lens) (k : ∀ w', Same w w' → Holds w' L → K (.bool true) w') :
   Cl Tryz.prog F.lens_between #[v, iv 0, iv 20] w K := by
 refine Tie.lens_between ?_; unfold Vcf.lens_between; refine r_new H fun b1 w1 S1 H1 => ?_; refine r_new H1 fun b2 w2 S2 H2 => ?_; replace H2 : Holds w2 (blk b2 3 [iv 20] :: blk b1 3 [iv 0] :: L) := H2; refine r_mf (.func (.func F.lens_between_1) #[] #[pt b1, pt b2]) (by kernel_rfl) ?_; refine r_cl (K := fun x w' => w2 = w' ∧ x = .bool false) ?_ ?_
 · refine Tie.slices_ContainsFunc_int_int ?_; unfold Vcf.slices_ContainsFunc_int_int; refine Tie.slices_IndexFunc_int_int ?_; unfold Vcf.slices_IndexFunc_int_int; have hj2 : (blk b2 3 [iv 20] :: blk b1 3 [iv 0] :: L)[j + 2]? = some (SL nv tI v lens) := hj; refine r_lnS (j + 2) H2 hj2 ?_; refine r_loop1 (fun y w' => ∃ i : Nat, i ≤ lens.length ∧ y = nv i ∧ w2 = w') (fun y _ => lens.length - (RowKit.intOf y).toNat) ⟨0, by omega, rfl, rfl⟩ ?_; rintro _ _ _ ⟨i, hi, rfl, rfl⟩
   repeat (refine r_lss ?_)
   refine r_ifD (fun h => ?_) fun h => ?_
   · have hlt : i < lens.length := by omega
     refine r_getS (j + 2) H2 hj2 (getD_some hlt) ?_; have hb := sized_at hs hlt; refine r_inv (f := F.lens_between_1) (args := #[nv (lens.getD i 0), pt b1, pt b2]) (by kernel_rfl) ?_; refine Tie.lens_between_1 ?_; unfold Vcf.lens_between_1
     repeat (first | refine r_ld 0 H2 rfl rfl ?_ | refine r_ld 1 H2 rfl rfl ?_ | refine r_ke ?_ | refine r_lss ?_ | refine r_gtr ?_ | (refine r_add1N (by omega) ?_) | ((with_reducible refine r_vfD ?h ?_); (case h => omega)))
     refine ⟨⟨i + 1, by omega, rfl, rfl⟩, ?_⟩; simp [nv, RowKit.intOf]; omega
   · repeat (refine r_geq ?_)
     exact ⟨rfl, by rw [decide_eq_false (by omega)]⟩
 rintro _ _ ⟨rfl, rfl⟩
 repeat (with_reducible refine r_notF ?_)
 exact k _ (S1.trans S2) H2.drop.drop
theorem share_take (lens : List Nat) (i : Nat) (h : i < lens.length) : share (lens.take (i + 1)) = share (lens.take i) + 2 ^ (20 - lens.getD i 0) := by
 rw [take_snoc (getD_some h)]; simp [share]
theorem share_le (hs : Sized lens) : ∀ i, i ≤ lens.length → share (lens.take i) ≤ i * 524288 := by
 intro i
 induction i with
 | zero => intro _; simp [share]
 | succ i ih =>
   intro hi; rw [share_take _ _ (by omega)]; have h1 := ih (by omega); have h2 : 2 ^ (20 - lens.getD i 0) ≤ 2 ^ 19 := Nat.pow_le_pow_right (by decide) (by have := sized_at hs (show i < lens.length by omega); omega); omega
theorem Share_spec (j : Nat) {v : Value} (H : Holds w L) (hj : L[j]? = some (SL nv tI v lens)) (hn : lens.length ≤ 258) (hs : Sized lens) (k : ∀ w', Same w w' → Holds w' L → K (.tuple #[nv (share lens), iv 0]) w') :
   Cl Tryz.prog F.lens_Share #[v] w K := by
 refine Tie.lens_Share ?_; unfold Vcf.lens_Share; refine r_join1 (fun x w' => x = .bool false ∧ Same w w' ∧ Holds w' L) ?_ ?_
 · clear H; rintro _ _ w1 ⟨rfl, S, H⟩
   repeat (with_reducible refine r_vf ?_)
   refine r_lnS j H hj ?_; refine r_loop2 (fun n y w' => ∃ i : Nat, i ≤ lens.length ∧ y = nv i ∧ n = nv (share (lens.take i)) ∧ w1 = w') (fun _ y _ => lens.length - (RowKit.intOf y).toNat) ⟨0, by omega, rfl, rfl, rfl⟩ ?_; rintro _ _ _ _ ⟨i, hi, rfl, rfl, rfl⟩
   repeat (refine r_lss ?_)
   refine r_ifD (fun h => ?_) fun h => ?_
   · have hlt : i < lens.length := by omega
     refine r_getS j H hj (getD_some hlt) ?_; have hb := sized_at hs hlt; have hsl := share_le hs i hi; have e := share_take lens i hlt; have h2 : 2 ^ (20 - lens.getD i 0) ≤ 2 ^ 19 := Nat.pow_le_pow_right (by decide) (by omega)
     repeat (refine r_sub (by omega) (by omega) ?_)
     rw [show (20 : Int) - (lens.getD i 0 : Nat) = ((20 - lens.getD i 0 : Nat) : Int) by omega]; refine r_shl1 (by omega) ?_; generalize 2 ^ (20 - lens.getD i 0) = q at *
     repeat (first | refine r_ke ?_ | (refine r_add1N (by omega) ?_) | (refine r_addN (by omega) ?_))
     refine ⟨⟨i + 1, by omega, rfl, by rw [e], rfl⟩, ?_⟩; simp [nv, RowKit.intOf]; omega
   · obtain rfl : i = lens.length := by omega
     rw [List.take_length]; exact k _ S H
 · refine r_lnS j H hj ?_
   repeat (first | refine r_gtr ?_ | ((with_reducible refine r_vfD ?h ?_); (case h => omega)))
   refine between_spec j H hj (by omega) hs fun w2 S2 H2 => ?_
   repeat (first | refine r_ke ?_ | (with_reducible refine r_notT ?_))
   exact ⟨rfl, S2, H2⟩
theorem whole_spec (j : Nat) {v : Value} (H : Holds w L) (hj : L[j]? = some (SL nv tI v lens)) (hn : lens.length ≤ 258) (hs : Sized lens) (k : ∀ w', Same w w' → Holds w' L → K (.bool (decide (share lens = 1048576))) w') :
   Cl Tryz.prog F.canon_whole #[v] w K := by
 refine Tie.canon_whole ?_; unfold Vcf.canon_whole; refine Share_spec j H hj hn hs fun w2 S2 H2 => ?_
 repeat (first | refine r_eql ?_ | (with_reducible refine r_ex20 ?_) | (with_reducible refine r_ex21 ?_) | ((with_reducible refine r_vtE ?h ?_); (case h => omega)))
 refine r_ifE (fun h => ?_) fun h => ?_
 · refine Tie.slices_Contains_int_int ?_; unfold Vcf.slices_Contains_int_int; refine Index_spec (x := 0) j H2 hj (by omega) (fun y hy => by have := hs y hy; omega) ?_
   repeat (first | refine r_geq ?_ | refine r_not ?_)
   have := k _ S2 H2; rw [decide_eq_true (by omega)] at this; exact this
 · have := k _ S2 H2; rw [decide_eq_false (by omega)] at this; exact this
def cdC (lv cv ov : Value) (F G : List Nat) : List Value := [lv, cv, ov] ++ (F.map nv ++ (G.map nv ++ []))
section
variable {lv cv ov : Value} {F G : List Nat}
theorem cdC_eq : cdC lv cv ov F G = ([lv, cv, ov] ++ F.map nv) ++ (G.map nv ++ []) := by rw [cdC, List.append_assoc]
theorem sF {n : Nat} (x : Nat) (h : n < F.length) : (cdC lv cv ov F G).set (3 + n) (nv x) = cdC lv cv ov (F.set n x) G := mid_set [lv, cv, ov] x h
theorem sG {n : Nat} (x : Nat) (hF : F.length = 21) (h : n < G.length) : (cdC lv cv ov F G).set (24 + n) (nv x) = cdC lv cv ov F (G.set n x) := by
 have := mid_set (f := nv) (post := []) ([lv, cv, ov] ++ F.map nv) x h; rw [show ([lv, cv, ov] ++ F.map nv).length = 24 by simp [hF]] at this; rw [cdC_eq, cdC_eq]; exact this
theorem cd1 : (cdC lv cv ov F G)[1]? = some cv := rfl
theorem cd2 : (cdC lv cv ov F G)[2]? = some ov := rfl
theorem sd2 (v : Value) : (cdC lv cv ov F G).set 2 v = cdC lv cv v F G := rfl
theorem cdlen (hF : F.length = 21) (hG : G.length = 22) : (cdC lv cv ov F G).length = 46 := by simp [cdC, hF, hG]
end
def fL (lens : List Nat) : List Nat := (List.range 21).map (fst_ lens)
def gL (lens : List Nat) : List Nat := (List.range 22).map (frm lens)
def codesAt (lens : List Nat) (n j : Nat) : List Nat := (List.range lens.length).map fun i => if lens.getD i 0 < n ∨ (lens.getD i 0 = n ∧ i < j) then codeN lens i else 0
theorem codesAt_len (lens : List Nat) (n j : Nat) : (codesAt lens n j).length = lens.length := by simp [codesAt]
theorem codesAt_set {n j : Nat} (hj : j < lens.length) (hn : lens.getD j 0 = n) : (codesAt lens n j).set j (fst_ lens n + (lens.take j).count n) = codesAt lens n (j + 1) := by
 apply List.ext_getElem
 · simp [codesAt]
 intro i h1 h2
 have hi : i < lens.length := by simpa [codesAt] using h2
 rw [List.getElem_set]; simp only [codesAt, List.getElem_map, List.getElem_range]
 by_cases h : j = i
 · subst h; rw [if_pos rfl, if_pos (.inr ⟨hn, by omega⟩), codeN, hn]
 · rw [if_neg h]
   by_cases h3 : lens.getD i 0 < n ∨ (lens.getD i 0 = n ∧ i < j)
   · rw [if_pos h3, if_pos (by omega)]
   · rw [if_neg h3, if_neg (by omega)]
theorem codesAt_skip {n j : Nat} (hn : lens.getD j 0 ≠ n) : codesAt lens n (j + 1) = codesAt lens n j := by
 apply List.map_congr_left; intro i hi
 by_cases h : j = i
 · subst h
   by_cases h3 : lens.getD j 0 < n
   · rw [if_pos (.inl h3), if_pos (.inl h3)]
   · rw [if_neg (by omega), if_neg (by omega)]
 · by_cases h3 : lens.getD i 0 < n ∨ (lens.getD i 0 = n ∧ i < j)
   · rw [if_pos h3, if_pos (by omega)]
   · rw [if_neg h3, if_neg (by omega)]
theorem codesAt_next (n : Nat) : codesAt lens n lens.length = codesAt lens (n + 1) 0 := by
 apply List.map_congr_left; intro i hi; rw [List.mem_range] at hi
 by_cases h3 : lens.getD i 0 < n + 1
 · rw [if_pos (by omega), if_pos (.inl h3)]
 · rw [if_neg (by omega), if_neg (by omega)]
theorem codesAt_0 (hs : Sized lens) : codesAt lens 1 0 = List.replicate lens.length 0 := by
 rw [codesAt, show (List.replicate lens.length 0 : List Nat) = (List.range lens.length).map fun _ => 0 by rw [List.map_const', List.length_range]]; apply List.map_congr_left; intro i hi; rw [List.mem_range] at hi; have := sized_at hs hi; rw [if_neg (by omega)]
theorem grp_succ {n j : Nat} : grp lens (j + 1) n = grp lens j n ++ if lens.getD j 0 = n then [j] else [] := by
 unfold grp; rw [List.range_succ, List.filter_append]
 congr 1
 rw [List.filter_cons, List.filter_nil]
 by_cases h : lens.getD j 0 = n
 · rw [if_pos (by simpa using h), if_pos h]
 · rw [if_neg (by simpa using h), if_neg h]
def CodeR (b : Nat) (lens : List Nat) : HProp := fun h => (Whole lens ∧ lens.length ≤ 258) ∧ ∃ lv cv ov, Sat [blk b tC (cdC lv cv ov (fL lens) (gL lens)), SL nv tI ov (upto lens 20), SL uv tU cv (codesAt lens 21 0), SL nv tI lv lens] h
theorem CodeR_open (H : Holds w (CodeR b lens :: L)) : (Whole lens ∧ lens.length ≤ 258) ∧ ∃ lv cv ov, Holds w (blk b tC (cdC lv cv ov (fL lens) (gL lens)) :: SL nv tI ov (upto lens 20) :: SL uv tU cv (codesAt lens 21 0) :: SL nv tI lv lens :: L) := by
 obtain ⟨h, H⟩ := Holds.pure H; obtain ⟨lv, H⟩ := Holds.ex H; obtain ⟨cv, H⟩ := Holds.ex H; obtain ⟨ov, H⟩ := Holds.ex H; exact ⟨h, lv, cv, ov, Holds.unpack H⟩
theorem CodeR_close {lv cv ov : Value} (h : Whole lens ∧ lens.length ≤ 258) (H : Holds w (blk b tC (cdC lv cv ov (fL lens) (gL lens)) :: SL nv tI ov (upto lens 20) :: SL uv tU cv (codesAt lens 21 0) :: SL nv tI lv lens :: L)) : Holds w (CodeR b lens :: L) :=
 Holds.imp (Holds.pack (A := [_, _, _, _]) H) fun _ hh => ⟨h, lv, cv, ov, hh⟩
theorem fL_get {n : Nat} (h : n < 21) : (fL lens)[n]? = some (fst_ lens n) := by rw [fL, List.getElem?_map, List.getElem?_range h]; rfl
theorem gL_get {n : Nat} (h : n < 22) : (gL lens)[n]? = some (frm lens n) := by rw [gL, List.getElem?_map, List.getElem?_range h]; rfl
theorem fL_len : (fL lens).length = 21 := by simp [fL]
theorem gL_len : (gL lens).length = 22 := by simp [gL]
theorem New_spec {j : Nat} {v : Value} (H : Holds w L) (hj : L[j]? = some (SL nv tI v lens)) (h3 : 3 ≤ lens.length) (hn : lens.length ≤ 258) (hs : Sized lens)
   (kb : share lens ≠ 1048576 → ∀ w', Same w w' → Holds w' L → K (.tuple #[.pointer none, iv 22]) w')
   (k : Whole lens → ∀ b w', Same w w' → Holds w' (CodeR b lens :: L) → K (.tuple #[pt b, iv 0]) w') : Cl Tryz.prog F.canon_New #[v] w K := by
 refine Tie.canon_New ?_; unfold Vcf.canon_New; refine r_join1 (fun x w' => w = w' ∧ x = .bool false) ?_ ?_
 rotate_left
 · refine r_lnS j H hj ?_
   repeat (first | refine r_lss ?_ | ((with_reducible refine r_vfD ?h ?_); (case h => omega)))
   refine r_lnS j H hj ?_
   repeat (first | refine r_ke ?_ | refine r_gtr ?_)
   exact ⟨rfl, by rw [decide_eq_false (by omega)]⟩
 rintro _ _ _ ⟨rfl, rfl⟩
 repeat (with_reducible refine r_vf ?_)
 refine whole_spec j H hj hn hs fun w1 S1 H1 => ?_; clear H; have S := S1; have H := H1; clear S1 H1
 repeat (refine r_not ?_)
 by_cases hwh : share lens = 1048576
 rotate_left
 · rw [decide_eq_false hwh]; exact r_vt (kb hwh _ S H)
 have hW : Whole lens := ⟨hs, hwh⟩; rw [decide_eq_true hwh, Bool.not_true]
 repeat (with_reducible refine r_vf ?_)
 refine r_join1 (fun x w' => ∃ b lv cv, x = pt b ∧ Same w w' ∧ Holds w' (blk b tC (cdC lv cv (.slice none 0 0) (List.replicate 21 0) (List.replicate 22 0)) :: SL uv tU cv (List.replicate lens.length 0) :: SL nv tI lv lens :: L)) ?_ ?_
 rotate_left
 · repeat (refine r_dr H ?_; clear H; intro _ S_ H; replace S := S.trans S_; clear S_)
   rename_i w2; have hto : ((lens.length : Nat) : Int).toNat = lens.length := Int.toNat_natCast _; refine ⟨?_, ?_⟩
   · refine Clone_spec H j hj (by omega) fun v1 w3 S3 H3 => ?_; refine r_lnS (j + 1) H3 (by rw [List.getElem?_cons_succ]; exact hj) ?_; refine r_rk (r_lnS j H hj rfl) ?_; refine r_ms (e := tU) (f := uv) (x := 0) H3 rfl (by omega) (by omega) fun b4 w4 S4 H4 => ?_; rw [hto] at H4 ⊢; have H5 := H4.close 0 rfl; rw [List.set_cons_zero] at H5; obtain ⟨oa, sp, rfl, H6⟩ := H5.open 1 rfl; refine r_bd (v := .agg #[.slice oa lens.length (lens.length + sp.length), .slice (some ⟨b4, 0, none⟩) lens.length lens.length, .slice none 0 0, nv 0, nv 0, nv 0, nv 0, nv 0, nv 0, nv 0, nv 0, nv 0, nv 0, nv 0, nv 0, nv 0, nv 0, nv 0, nv 0, nv 0, nv 0, nv 0, nv 0, nv 0, nv 0, nv 0, nv 0, nv 0, nv 0, nv 0, nv 0, nv 0, nv 0, nv 0, nv 0, nv 0, nv 0, nv 0, nv 0, nv 0, nv 0, nv 0, nv 0, nv 0, nv 0, nv 0]) (by kernel_rfl) ?_; refine r_new H5 fun b w5 S5 H7 => ?_
     repeat (refine r_ke ?_)
     refine ⟨b, .slice oa lens.length (lens.length + sp.length), .slice (some ⟨b4, 0, none⟩) lens.length lens.length, rfl, ((S.trans S3).trans S4).trans S5, ?_⟩; rw [List.length_replicate] at H7; exact H7
   · refine r_lnS j H hj ?_; refine r_ms (e := tU) (f := uv) (x := 0) H rfl (by omega) (by omega) fun b4 w4 S4 H4 => ?_; rw [hto] at H4 ⊢; have H5 := H4.close 0 rfl; rw [List.set_cons_zero] at H5; refine Clone_spec H5 (j + 1) (by rw [List.getElem?_cons_succ]; exact hj) (by omega) fun v1 w3 S3 H3 => ?_; refine r_rk (r_lnS (j + 2) H3 (by rw [List.getElem?_cons_succ, List.getElem?_cons_succ]; exact hj) rfl) ?_; obtain ⟨oa, sp, rfl, H6⟩ := H3.open 0 rfl; refine r_bd (v := .agg #[.slice oa lens.length (lens.length + sp.length), .slice (some ⟨b4, 0, none⟩) lens.length lens.length, .slice none 0 0, nv 0, nv 0, nv 0, nv 0, nv 0, nv 0, nv 0, nv 0, nv 0, nv 0, nv 0, nv 0, nv 0, nv 0, nv 0, nv 0, nv 0, nv 0, nv 0, nv 0, nv 0, nv 0, nv 0, nv 0, nv 0, nv 0, nv 0, nv 0, nv 0, nv 0, nv 0, nv 0, nv 0, nv 0, nv 0, nv 0, nv 0, nv 0, nv 0, nv 0, nv 0, nv 0, nv 0]) (by kernel_rfl) ?_; refine r_new H3 fun b w5 S5 H7 => ?_
     repeat (refine r_ke ?_)
     refine ⟨b, .slice oa lens.length (lens.length + sp.length), .slice (some ⟨b4, 0, none⟩) lens.length lens.length, rfl, ((S.trans S4).trans S3).trans S5, ?_⟩; rw [List.length_replicate] at H7; exact (Holds.front H7 2 rfl).swap
 rintro _ _ w2 ⟨b, lv, cv, rfl, S2, H2⟩; clear S H; have hl20 := fun n (h : n ≤ 20) => frm_le lens hs n h; have hcl := fun n => List.count_le_length (a := n) (l := lens)
 refine r_loop2 (fun x y w' => ∃ n ov, 1 ≤ n ∧ n ≤ 21 ∧ y = nv n ∧ x = nv (nx lens (n - 1)) ∧ Same w w' ∧ Holds w' (blk b tC (cdC lv cv ov (filled (fL lens) 0 21 n) (filled (gL lens) 0 22 n)) :: SL nv tI ov (upto lens (n - 1)) :: SL uv tU cv (codesAt lens n 0) :: SL nv tI lv lens :: L))
   (fun _ y _ => 21 - (RowKit.intOf y).toNat) ⟨1, .slice none 0 0, by omega, by omega, rfl, rfl, S2, ?_⟩ ?_
 · rw [codesAt_0 hs]; have e1 : filled (fL lens) 0 21 1 = List.replicate 21 0 := rfl; have e2 : filled (gL lens) 0 22 1 = List.replicate 22 0 := rfl; rw [e1, e2]; exact (H2.nilSL nv tI).swap
 clear S2 H2; rintro _ _ _ w3 ⟨n, ov, h1, h21, rfl, rfl, S, H⟩; have lF : (filled (fL lens) 0 21 n).length = 21 := filled_len (by omega) fL_len; have lG : (filled (gL lens) 0 22 n).length = 22 := filled_len (by omega) gL_len
 repeat (refine r_leq ?_)
 refine r_ifD (fun h => ?_) fun h => ?_
 · have hn20 : n ≤ 20 := by omega
   have hnl := nx_le hW (n - 1) (by omega); have hp : 2 ^ (n - 1) ≤ 2 ^ 19 := Nat.pow_le_pow_right (by decide) (by omega)
   repeat (first | refine r_mulE ((2 * nx lens (n - 1) : Nat) : Int) (by omega) (by omega) (by omega) ?_ | refine r_nc ?_ | refine r_fo0 ?_ | (refine r_iaaN (by omega) ?_))
   refine r_st 0 H rfl (by rw [cdlen lF lG]; omega) rfl fun w4 S4 H4 => ?_; rw [List.set_cons_zero, sF _ (by omega), filled_set (x := 2 * nx lens (n - 1)) (by omega) fL_len (fL_get (by omega))] at H4; replace S := S.trans S4; clear H; have H := H4; clear H4 S4; have lF1 : (filled (fL lens) 0 21 (n + 1)).length = 21 := filled_len (by omega) fL_len
   repeat (first | ((with_reducible apply r_ld 0 H); (exact rfl); (with_reducible exact (cd2))) | refine r_nc ?_ | refine r_fo0 ?_ | (refine r_dr H ?_; clear H; intro _ S_ H; replace S := S.trans S_; clear S_))
   refine r_lnS 1 H rfl ?_
   repeat (first | refine r_nc ?_ | refine r_fo0 ?_ | (refine r_iaaN (by omega) ?_))
   refine r_st 0 H rfl (by rw [cdlen lF1 lG]; omega) rfl fun w4 S4 H4 => ?_; rw [List.set_cons_zero, sG _ lF1 (by omega), filled_set (x := (upto lens (n - 1)).length) (by omega) gL_len (gL_get (by omega))] at H4; replace S := S.trans S4; clear H; have H := H4; clear H4 S4; refine r_lnS (j + 4) H (by rw [List.getElem?_cons_succ, List.getElem?_cons_succ, List.getElem?_cons_succ, List.getElem?_cons_succ]; exact hj) ?_
   refine r_loop2 (fun x y w' => ∃ i ov, i ≤ lens.length ∧ y = nv i ∧ x = nv (fst_ lens n + (lens.take i).count n) ∧ Same w w' ∧ Holds w' (blk b tC (cdC lv cv ov (filled (fL lens) 0 21 (n + 1)) (filled (gL lens) 0 22 (n + 1))) :: SL nv tI ov (upto lens (n - 1) ++ grp lens i n) :: SL uv tU cv (codesAt lens n i) :: SL nv tI lv lens :: L))
     (fun _ y _ => lens.length - (RowKit.intOf y).toNat) ⟨0, ov, by omega, rfl, rfl, S, ?_⟩ ?_
   · have e1 : grp lens 0 n = [] := rfl; rw [e1, List.append_nil]; exact H
   clear H S; rintro _ _ _ w5 ⟨i, ov, hi, rfl, rfl, S, H⟩; have lG1 : (filled (gL lens) 0 22 (n + 1)).length = 22 := filled_len (by omega) gL_len; have hci : (lens.take i).count n ≤ 258 := Nat.le_trans (List.count_le_length ..) (by rw [List.length_take]; omega)
   have hfs : fst_ lens n ≤ 2 ^ 20 := by rw [fst_]; omega
   repeat (refine r_lss ?_)
   refine r_ifD (fun h => ?_) fun h => ?_
   · have hlt : i < lens.length := by omega
     refine r_getS (j + 4) H (by rw [List.getElem?_cons_succ, List.getElem?_cons_succ, List.getElem?_cons_succ, List.getElem?_cons_succ]; exact hj) (getD_some hlt) ?_; have hb := sized_at hs hlt
     have etk : (lens.take (i + 1)).count n = (lens.take i).count n + if lens.getD i 0 = n then 1 else 0 := by
       rw [take_snoc (getD_some hlt), List.count_append, List.count_cons, List.count_nil]
       by_cases hx : lens.getD i 0 = n
       · rw [if_pos hx, if_pos (by simpa using hx)]
       · rw [if_neg hx, if_neg (by simpa using hx)]
     repeat (refine r_eql ?_)
     refine r_ifE (fun hx => ?_) fun hx => ?_
     · have hx' : lens.getD i 0 = n := by omega
       rw [if_pos hx'] at etk
       repeat (first | ((with_reducible apply r_ld 0 H); (exact rfl); (with_reducible exact (cd1))) | refine r_nc ?_ | refine r_fo0 ?_ | (refine r_ciu32 (by omega) (by omega) ?_))
       refine r_setS 2 H (f := uv) (fst_ lens n + (lens.take i).count n) rfl (by rw [codesAt_len]; exact hlt) rfl fun w6 S6 H6 => ?_; rw [List.set_cons_succ, List.set_cons_succ, List.set_cons_zero, codesAt_set hlt hx'] at H6; replace S := S.trans S6; clear H; have H := H6; clear H6 S6
       repeat (first | ((with_reducible apply r_ld 0 H); (exact rfl); (with_reducible exact (cd2))) | refine r_nc ?_ | refine r_fo0 ?_)
       have hul : (upto lens (n - 1) ++ grp lens i n).length ≤ 600 := by
         rw [List.length_append, grp_len lens n i hi]; have := hl20 (n - 1) (by omega); omega
       refine r_app1 H 1 rfl i sg_nv (by omega) fun v' w6 S6 H6 => ?_; rw [List.set_cons_succ, List.set_cons_zero] at H6; replace S := S.trans S6; clear H; have H := H6; clear H6 S6
       repeat (first | refine r_nc ?_ | refine r_fo0 ?_)
       refine r_st 0 H rfl (by rw [cdlen lF1 lG1]; omega) (SL_sg H 1 rfl) fun w6 S6 H6 => ?_; rw [List.set_cons_zero, sd2] at H6
       repeat (first | refine r_ke ?_ | (refine r_add1N (by omega) ?_))
       refine ⟨⟨i + 1, v', by omega, rfl, by rw [etk]; rfl, S.trans S6, ?_⟩, ?_⟩
       · rw [grp_succ, if_pos hx', ← List.append_assoc]; exact H6
       · simp [nv, RowKit.intOf]; omega
     · have hx' : lens.getD i 0 ≠ n := by omega
       rw [if_neg hx'] at etk
       repeat (first | refine r_ke ?_ | (refine r_add1N (by omega) ?_))
       refine ⟨⟨i + 1, ov, by omega, rfl, by rw [etk]; rfl, S, ?_⟩, ?_⟩
       · rw [grp_succ, if_neg hx', List.append_nil, codesAt_skip hx']; exact H
       · simp [nv, RowKit.intOf]; omega
   · obtain rfl : i = lens.length := by omega
     repeat (first | refine r_ke ?_ | (refine r_add1N (by omega) ?_))
     obtain ⟨m, rfl⟩ : ∃ m, n = m + 1 := ⟨n - 1, by omega⟩; refine ⟨⟨m + 1 + 1, ov, by omega, by omega, rfl, ?_, S, ?_⟩, ?_⟩
     · rw [List.take_length, Nat.add_sub_cancel, nx_eq lens (m + 1) (by omega)]
     · rw [codesAt_next] at H; exact H
     · simp [nv, RowKit.intOf]; omega
 · obtain rfl : n = 21 := by omega
   repeat (first | ((with_reducible apply r_ld 0 H); (exact rfl); (with_reducible exact (cd2))) | refine r_nc ?_ | refine r_fo0 ?_ | (refine r_dr H ?_; clear H; intro _ S_ H; replace S := S.trans S_; clear S_))
   refine r_lnS 1 H rfl ?_; have hr : (blk b tC (cdC lv cv ov (filled (fL lens) 0 21 21) (filled (gL lens) 0 22 21)) :: SL nv tI ov (upto lens (21 - 1)) :: SL uv tU cv (codesAt lens 21 0) :: SL nv tI lv lens :: L).length = L.length + 4 := rfl
   repeat (first | refine r_iaaN (m := 21) (by omega) ?_ | refine r_nc ?_ | refine r_fo0 ?_)
   refine r_st 0 H rfl (by rw [cdlen lF lG]; omega) rfl fun w4 S4 H4 => ?_; rw [List.set_cons_zero, sG (n := 21) _ lF (by omega), filled_set (x := (upto lens (21 - 1)).length) (by omega) gL_len (gL_get (by omega)), filled_all fL_len, filled_all gL_len] at H4; exact k hW b _ (S.trans S4) (CodeR_close ⟨hW, hn⟩ H4)
end C10
instance rowC : Row Tryz.prog 157 159 (.pointer none) := ⟨by kernel_rfl, ⟨Tryz.t159, by kernel_rfl, by kernel_rfl, by decide, by kernel_rfl⟩, rfl⟩
namespace C14
open Go.M01 Go.Mb Go.Mp Go.M10 Go.Mc Rb
variable {w : World} {L : List HProp} {K : Value → World → Prop} {b r : Nat} {B : List UInt8} {d at_ n : Nat} {c : CS}
abbrev tCd : Nat := 296
abbrev tCP : Nat := 159
def CodesS (bs : List Nat) (cs : List (List Nat)) : HProp := Sat ((bs.zip cs).map fun x => C10.CodeR x.1 x.2)
theorem codes_get {bs : List Nat} {cs : List (List Nat)} {i : Nat} {l : List Nat} (hb : bs[i]? = some b) (hc : cs[i]? = some l) : ∃ A, (∀ h, Sat (CodesS bs cs :: L) h → Sat (C10.CodeR b l :: A) h) ∧ ∀ h, Sat (C10.CodeR b l :: A) h → Sat (CodesS bs cs :: L) h := by
 have hz : ((bs.zip cs).map fun x => C10.CodeR x.1 x.2)[i]? = some (C10.CodeR b l) := by
   rw [List.getElem?_map, (List.getElem?_zip_eq_some (z := (b, l))).2 ⟨hb, hc⟩]; rfl
 have hlt : i < ((bs.zip cs).map fun x => C10.CodeR x.1 x.2).length := (List.getElem?_eq_some_iff.1 hz).1
 have hz2 : (((bs.zip cs).map fun x => C10.CodeR x.1 x.2) ++ L)[i]? = some (C10.CodeR b l) := by rw [List.getElem?_append_left hlt]; exact hz
 refine ⟨(((bs.zip cs).map fun x => C10.CodeR x.1 x.2) ++ L).eraseIdx i, fun h H => Sat.pull i (Sat.unpack H) hz2, fun h H => ?_⟩; have := Sat.push i hz2 H
 have e : (((bs.zip cs).map fun x => C10.CodeR x.1 x.2) ++ L).set i (C10.CodeR b l) = ((bs.zip cs).map fun x => C10.CodeR x.1 x.2) ++ L := by
   have hl : i < (((bs.zip cs).map fun x => C10.CodeR x.1 x.2) ++ L).length := (List.getElem?_eq_some_iff.1 hz2).1; have e1 : (((bs.zip cs).map fun x => C10.CodeR x.1 x.2) ++ L)[i] = _ := (List.getElem?_eq_some_iff.1 hz2).2; rw [← e1, List.set_getElem_self]
 rw [e] at this; exact Sat.pack this
theorem codes_add {bs : List Nat} {cs : List (List Nat)} {l : List Nat} (hl : bs.length = cs.length) (H : Holds w (C10.CodeR b l :: CodesS bs cs :: L)) : Holds w (CodesS (bs ++ [b]) (cs ++ [l]) :: L) := by
 have H2 := Holds.unpack (A := (bs.zip cs).map fun x => C10.CodeR x.1 x.2) H.swap; unfold CodesS; rw [List.zip_append hl, List.map_append]; refine Holds.pack ?_; rw [List.append_assoc]; exact H2
def took (c : CS) : List Nat := if c.picks.done = true then c.picks.picks else []
def cdL (b : Nat) (c : CS) (pb db : Nat) (tv cv : Value) (bs : List Nat) : List HProp :=
 [blk b tCd [nv c.size, pt pb, tv, pt db, cv, nv c.count, .bool c.done, iv 0], P13.PkR pb c.picks, SL nv tI tv (took c), D11.DlR db c.lens, SL pt tCP cv bs, CodesS bs c.codes]
def CdR (b : Nat) (c : CS) : HProp := fun h => c.Ok ∧ ∃ pb db tv cv bs, bs.length = c.codes.length ∧ Sat (cdL b c pb db tv cv bs) h
def AfterC (x : Res (CS × Option Nat)) (b : Nat) (c : CS) (r : Nat) (B : List UInt8) (d at_ : Nat) (L : List HProp) (zero : Value) (v : Value) (w : World) : Prop :=
 match x with
 | .short => v = .tuple #[zero, iv 3] ∧ Holds w (CdR b c :: RdR r B d at_ :: L)
 | .bad e => v = .tuple #[zero, iv e] ∧ ∃ q v1 v2 v3 v4 v5 v6 v7, Holds w (blk b tCd [v1, v2, v3, v4, v5, v6, v7, iv 0] :: RdR r B d q :: L)
 | .ok (s, o) n => v = .tuple #[match o with | none => iv (-1) | some s => nv s, iv 0] ∧ Holds w (CdR b s :: RdR r B d (at_ + n) :: L)
def AfterCS (x : Res (CS × Option Nat)) (b : Nat) (c : CS) (r : Nat) (B : List UInt8) (d at_ : Nat) (L : List HProp) (v : Value) (w : World) : Prop :=
 match x with
 | .short => v = .tuple #[iv 0, iv 3] ∧ Holds w (CdR b c :: RdR r B d at_ :: L)
 | .bad e => v = .tuple #[iv 0, iv e] ∧ ∃ q, Holds w (RdR r B d q :: L)
 | .ok (s, o) n => v = .tuple #[match o with | none => iv (-1) | some s => nv s, iv 0] ∧ Holds w (CdR b s :: RdR r B d (at_ + n) :: L)
end C14
namespace F08
variable {w : World} {L : List HProp} {K : Value → World → Prop}
def cnt (l : List Nat) (size : Nat) : List Nat := (List.range size).map fun x => l.count x
theorem cnt_len (l : List Nat) (size : Nat) : (cnt l size).length = size := by unfold cnt; simp
theorem cnt_get {l : List Nat} {size x : Nat} (h : x < size) : (cnt l size)[x]? = some (l.count x) := by
 unfold cnt; rw [List.getElem?_map, List.getElem?_range h]; rfl
theorem cnt_snoc {l : List Nat} {size x : Nat} (h : x < size) : (cnt l size).set x (l.count x + 1) = cnt (l ++ [x]) size := by
 apply List.ext_getElem?; intro i; rw [List.getElem?_set]
 by_cases e : x = i
 · subst e; rw [if_pos rfl, if_pos (by rw [cnt_len]; exact h), cnt_get h, List.count_append]; simp
 · rw [if_neg e]; rcases Nat.lt_or_ge i size with q | q
   · rw [cnt_get q, cnt_get q, List.count_append, List.count_singleton]
     have : (x == i) = false := by simpa using e
     rw [this]; rfl
   · rw [List.getElem?_eq_none (by rw [cnt_len]; exact q), List.getElem?_eq_none (by rw [cnt_len]; exact q)]
theorem cnt_nil (size : Nat) : cnt [] size = List.replicate size 0 := by
 unfold cnt; apply List.ext_getElem?; intro i; rw [List.getElem?_map, List.getElem?_replicate]; split
 · rename_i h; rw [List.getElem?_range h]; rfl
 · rename_i h; rw [List.getElem?_eq_none (by simp; omega)]; rfl
theorem Counts_spec {v : Value} {l : List Nat} {i n : Nat} (H : Holds w L) (hi : L[i]? = some (SL nv tI v l)) (h3 : 3 ≤ n) (hn : n ≤ 258) (hl : l.length ≤ 1000000000) (hb : ∀ x ∈ l, x < n)
   (k : ∀ v' w', Same w w' → Holds w' (SL nv tI v' (cnt l n) :: L) → K (.tuple #[v', iv 0]) w') : Cl Tryz.prog F.freq_Counts #[v, nv n] w K := by
 refine Tie.freq_Counts ?_; unfold Vcf.freq_Counts; refine r_join1 (fun t w' => w = w' ∧ t = .bool false) ?_ ?_
 rotate_left
 · refine r_lss (r_vfD (by omega) ?_); refine r_gtr (r_ke ⟨rfl, by rw [decide_eq_false (by omega)]⟩)
 rintro _ _ _ ⟨rfl, rfl⟩; refine r_vf ?_; refine r_ms (f := nv) (x := 0) H rfl (by omega) (by omega) fun ob w2 S2 H2 => ?_; rw [Int.toNat_natCast] at H2 ⊢; have H3 := H2.close 0 rfl; simp only [List.set_cons_zero, List.length_replicate, List.length_nil, Nat.add_zero] at H3; generalize hv : Value.slice (some ⟨ob, 0, none⟩) n n = ov at H3 ⊢; refine r_lnS i H hi ?_; refine r_loop1 (fun q w' => ∃ (t : Nat), q = nv t ∧ t ≤ l.length ∧ Same w w' ∧ Holds w' (SL nv tI ov (cnt (l.take t) n) :: L)) (fun q _ => l.length - (RowKit.intOf q).toNat) ⟨0, rfl, Nat.zero_le _, S2, by rw [List.take_zero, cnt_nil]; exact H3⟩ ?_; clear H H2 H3 S2; rintro _ _ w3 ⟨t, rfl, ht, S3, H3⟩; refine r_lss (r_ifD (fun h => ?_) fun h => ?_)
 · have hlt : t < l.length := by omega
   have hx := hb _ (List.getElem_mem hlt)
   have e : l.take (t + 1) = l.take t ++ [l[t]] := by rw [List.take_add_one, List.getElem?_eq_getElem hlt]; rfl
   have hc : (l.take t).count l[t] ≤ t := Nat.le_trans List.count_le_length (by rw [List.length_take]; omega); refine r_getS (i + 1) H3 (by rw [List.getElem?_cons_succ]; exact hi) (List.getElem?_eq_getElem hlt) ?_; generalize l[t] = x at *; refine r_join1 (fun z w' => w3 = w' ∧ z = .bool false) ?_ ?_
   rotate_left
   · refine r_lss (r_vfD (by omega) ?_); exact r_geq (r_ke ⟨rfl, by rw [decide_eq_false (by omega)]⟩)
   rintro _ _ _ ⟨rfl, rfl⟩; refine r_vf ?_; refine r_getS 0 H3 rfl (cnt_get hx) ?_; refine r_add1N (by omega) ?_; refine r_setS 0 H3 ((l.take t).count x + 1) rfl (by rw [cnt_len]; exact hx) rfl fun w4 S4 H4 => ?_; replace H4 : Holds w4 (SL nv tI ov ((cnt (l.take t) n).set x ((l.take t).count x + 1)) :: L) := H4; rw [cnt_snoc hx, ← e] at H4; refine r_add1N (by omega) (r_ke ⟨⟨t + 1, rfl, by omega, S3.trans S4, H4⟩, ?_⟩); simp only [nv, RowKit.intOf, Int.toNat_natCast]; omega
 · rw [List.take_of_length_le (by omega)] at H3; exact k ov w3 S3 H3
theorem count_spec {v : Value} {l : List Nat} {i x : Nat} (H : Holds w L) (hi : L[i]? = some (SL nv tI v l)) (hl : l.length ≤ 1000000000) (k : K (nv (l.count x)) w) : Cl Tryz.prog F.balerref08_count #[v, nv x] w K := by
 refine Tie.balerref08_count ?_; unfold Vcf.balerref08_count; refine r_lnS i H hi ?_; refine r_loop2 (fun p q w' => ∃ t : Nat, p = nv ((l.take t).count x) ∧ q = nv t ∧ t ≤ l.length ∧ w = w') (fun _ q _ => l.length - (RowKit.intOf q).toNat) ⟨0, rfl, rfl, Nat.zero_le _, rfl⟩ ?_; rintro _ _ _ _ ⟨t, rfl, rfl, ht, rfl⟩; refine r_lss (r_ifD (fun h => ?_) fun h => ?_)
 · have hlt : t < l.length := by omega
   have e : l.take (t + 1) = l.take t ++ [l[t]] := by rw [List.take_add_one, List.getElem?_eq_getElem hlt]; rfl
   have hc : (l.take t).count x ≤ t := Nat.le_trans List.count_le_length (by rw [List.length_take]; omega); refine r_getS i H hi (List.getElem?_eq_getElem hlt) ?_; generalize l[t] = y at *
   have e2 : (l.take (t + 1)).count x = (l.take t).count x + if y = x then 1 else 0 := by
     rw [e, List.count_append, List.count_singleton]; simp
   refine r_eql (r_ifE (fun q => ?_) fun q => ?_)
   · rw [if_pos (by omega)] at e2; refine r_add1N (by omega) (r_add1N (by omega) (r_ke ⟨⟨t + 1, by rw [e2], rfl, by omega, rfl⟩, ?_⟩)); simp only [nv, RowKit.intOf, Int.toNat_natCast]; omega
   · rw [if_neg (by omega)] at e2; refine r_add1N (by omega) (r_ke ⟨⟨t + 1, by rw [e2]; rfl, rfl, by omega, rfl⟩, ?_⟩); simp only [nv, RowKit.intOf, Int.toNat_natCast]; omega
 · rw [List.take_of_length_le (by omega)]; exact k
theorem CountsD_spec {v : Value} {l : List Nat} {i n : Nat} (H : Holds w L) (hi : L[i]? = some (SL nv tI v l)) (hn : n ≤ 1000000) (hl : l.length ≤ 1000000000)
   (k : ∀ v' w', Same w w' → Holds w' (SL nv tI v' (cnt l n) :: L) → K v' w') : Cl Tryz.prog F.balerref08_Counts #[v, nv n] w K := by
 refine Tie.balerref08_Counts ?_; unfold Vcf.balerref08_Counts; refine r_loop2 (fun p q w' => ∃ t : Nat, q = nv t ∧ t ≤ n ∧ Same w w' ∧ Holds w' (SL nv tI p (cnt l t) :: L)) (fun _ q _ => n - (RowKit.intOf q).toNat) ⟨0, rfl, Nat.zero_le _, .refl _, H.nilSL nv tI⟩ ?_; clear H; rintro _ p _ w3 ⟨t, rfl, ht, S3, H3⟩; refine r_lss (r_ifD (fun h => ?_) fun h => ?_)
 · refine count_spec H3 (i := i + 1) (by rw [List.getElem?_cons_succ]; exact hi) hl ?_; refine r_app1 (f := nv) H3 0 (xs := cnt l t) rfl (l.count t) (fun _ => rfl) (by rw [cnt_len]; omega) fun v' w4 S4 H4 => ?_
   have e : cnt l t ++ [l.count t] = cnt l (t + 1) := by unfold cnt; rw [List.range_succ, List.map_append]; rfl
   rw [e] at H4; refine r_add1N (by omega) (r_ke ⟨⟨t + 1, rfl, by omega, S3.trans S4, H4⟩, ?_⟩); simp only [nv, RowKit.intOf, Int.toNat_natCast]; omega
 · obtain rfl : t = n := by omega
   exact k p w3 S3 H3
end F08
instance : Row Tryz.prog 54 5 (.int .u8 0) := ⟨by kernel_rfl, ⟨Tryz.t5, by kernel_rfl, by kernel_rfl, by decide, by kernel_rfl⟩, rfl⟩
instance : Bytes Tryz.prog 54 5 9 := ⟨by kernel_rfl, by kernel_rfl, by kernel_rfl⟩
namespace W01
open Go.M01
variable {w : World} {L : List HProp} {K : Value → World → Prop} {b : Nat}
abbrev tB : Nat := 5
abbrev tW : Nat := 65
def WrR (b : Nat) (bs : List Bool) (k : Nat) : HProp := fun h => ∃ wv, Sat [blk b tW [wv, .int .u8 (restB bs : Nat), nv bs.length], SL bv tB wv ((wholeB bs).drop k)] h
theorem WrR_open {bs : List Bool} {k : Nat} (H : Holds w (WrR b bs k :: L)) : ∃ wv, Holds w (blk b tW [wv, .int .u8 (restB bs : Nat), nv bs.length] :: SL bv tB wv ((wholeB bs).drop k) :: L) := by
 obtain ⟨wv, H⟩ := Holds.ex H; exact ⟨wv, Holds.unpack H⟩
theorem WrR_close {bs : List Bool} {k : Nat} {wv : Value} (H : Holds w (blk b tW [wv, .int .u8 (restB bs : Nat), nv bs.length] :: SL bv tB wv ((wholeB bs).drop k) :: L)) : Holds w (WrR b bs k :: L) :=
 Holds.imp (Holds.pack (A := [_, _]) H) fun h hh => ⟨wv, hh⟩
theorem NewWriter_spec (H : Holds w L) (post : ∀ b w', Same w w' → Holds w' (WrR b [] 0 :: L) → K (.pointer (some ⟨b, 0, none⟩)) w') : Cl Tryz.prog F.bits_NewWriter #[] w K := by
 refine Tie.bits_NewWriter ?_; unfold Vcf.bits_NewWriter; refine r_bd (v := .agg #[.slice none 0 0, .int .u8 0, nv 0]) (by kernel_rfl) ?_; refine r_new H fun b w1 S1 H1 => ?_; replace H1 : Holds w1 (blk b tW [.slice none 0 0, .int .u8 0, nv 0] :: L) := H1; exact post b _ S1 (WrR_close ((H1.nilSL bv tB).swap))
theorem bit_spec {bs : List Bool} {k : Nat} {c : Bool} (H : Holds w (WrR b bs k :: L)) (hn : bs.length ≤ 1000000000000) (hk : k ≤ bs.length / 8)
   (post : ∀ w', Same w w' → Holds w' (WrR b (bs ++ [c]) k :: L) → K (.tuple #[]) w') : Cl Tryz.prog F.bits_Writer_bit #[.pointer (some ⟨b, 0, none⟩), .int .u8 (c.toNat : Int)] w K := by
 refine Tie.bits_Writer_bit ?_; unfold Vcf.bits_Writer_bit; obtain ⟨wv, H⟩ := WrR_open H; have S := Same.refl w; have hc := Bool.toNat_le c; have hr := restB_lt bs
 have hR : ((bs.length : Int)).tmod 8 = ((bs.length % 8 : Nat) : Int) := by
   rw [Int.tmod_eq_emod_of_nonneg (by omega)]; simp
 have hm : bs.length % 8 < 8 := Nat.mod_lt _ (by decide); have hsh : c.toNat * 2 ^ (7 - bs.length % 8) % 256 < 256 := Nat.mod_lt _ (by decide)
 have hls : (bs ++ [c]).length = bs.length + 1 := by simp
 repeat (first | refine r_remE hR (by omega) ?_ | refine r_nc ?_ | refine r_fo0 ?_ | (refine r_sub (by omega) (by omega) ?_) | (refine r_dr H ?_; clear H; intro _ S_ H; replace S := S.trans S_; clear S_) | refine r_ld 0 H rfl rfl ?_)
 rw [show (7 : Int) - ((bs.length % 8 : Nat) : Int) = ((7 - bs.length % 8 : Nat) : Int) by omega]; refine r_shlU8 (by omega) ?_; refine r_orU8 hr hsh ?_
 repeat (first | refine r_nc ?_ | refine r_fo0 ?_)
 refine r_st 0 H rfl (by simp) rfl fun w2 S2 H2 => ?_; replace H2 : Holds w2 (blk b tW [wv, .int .u8 ((restB bs ||| (c.toNat * 2 ^ (7 - bs.length % 8) % 256) : Nat) : Int), nv bs.length] :: SL bv tB wv ((wholeB bs).drop k) :: L) := H2; replace S := S.trans S2; clear H S2; have H := H2; clear H2
 repeat (first | refine r_nc ?_ | refine r_fo0 ?_ | (refine r_add1N (by omega) ?_) | refine r_ld 0 H rfl rfl ?_)
 refine r_st 0 H rfl (by simp) rfl fun w2 S2 H2 => ?_; replace H2 : Holds w2 (blk b tW [wv, .int .u8 ((restB bs ||| (c.toNat * 2 ^ (7 - bs.length % 8) % 256) : Nat) : Int), nv (bs.length + 1)] :: SL bv tB wv ((wholeB bs).drop k) :: L) := H2; replace S := S.trans S2; clear H S2; have H := H2; clear H2
 repeat (refine r_eql ?_)
 refine r_ifE (fun h => ?_) fun h => ?_
 · obtain ⟨p1, p2⟩ := put_last bs c (by omega); have hx : restB bs ||| (c.toNat * 2 ^ (7 - bs.length % 8) % 256) < 2 ^ 8 := Nat.or_lt_two_pow (by simpa using hr) (by simpa using hsh); generalize restB bs ||| (c.toNat * 2 ^ (7 - bs.length % 8) % 256) = x at *
   have e : (Value.int .u8 (x : Int)) = bv (UInt8.ofNat x) := by
     unfold bv; rw [UInt8.toNat_ofNat_of_lt' hx]
   rw [e] at H; obtain ⟨oa, sp, rfl, H⟩ := H.open 1 rfl; rw [List.set_cons_succ, List.set_cons_zero] at H
   repeat (first | refine r_nc ?_ | refine r_fo0 ?_ | (refine r_dr H ?_; clear H; intro _ S_ H; replace S := S.trans S_; clear S_) | refine r_ld 0 H rfl rfl ?_)
   refine r_bs1 H rfl fun b3 w3 S3 H3 => ?_; replace S := S.trans S3; refine r_rk (r_ld 1 H3 rfl rfl rfl) ?_; have hwl := wholeB_len bs; refine r_ap (f := bv) (ys := [UInt8.ofNat x]) H3 2 0 rfl rfl rfl rfl rfl rfl (fun _ => rfl) (by rw [List.length_drop, List.length_singleton]; omega) (by simp) fun oa' sp' w4 S4 H4 => ?_; replace S := S.trans S4
   have hout : (wholeB bs).drop k ++ [UInt8.ofNat x] = (wholeB (bs ++ [c])).drop k := by
     rw [p1, List.drop_append_of_le_length (by omega)]
   rw [hout, List.set_cons_succ, List.set_cons_succ, List.set_cons_zero] at H4
   have hlen : ((wholeB bs).drop k).length + [UInt8.ofNat x].length = ((wholeB (bs ++ [c])).drop k).length := by
     rw [← hout, List.length_append]
   rw [hlen]; clear H H3; have H := H4.drop; clear H4
   repeat (first | refine r_nc ?_ | refine r_fo0 ?_)
   refine r_st 0 H rfl (by simp) rfl fun w5 S5 H5 => ?_; replace S := S.trans S5; clear H; have H := H5; clear H5; rw [List.set_cons_zero, List.set_cons_zero] at H
   repeat (first | refine r_nc ?_ | refine r_fo0 ?_)
   refine r_st 0 H rfl (by simp) rfl fun w6 S6 H6 => ?_; rw [List.set_cons_zero, List.set_cons_succ, List.set_cons_zero] at H6; have H7 := H6.close 1 rfl; rw [List.set_cons_succ, List.set_cons_zero] at H7; refine post _ (S.trans S6) (WrR_close (wv := .slice oa' ((wholeB (bs ++ [c])).drop k).length (((wholeB (bs ++ [c])).drop k).length + sp'.length)) ?_); rw [p2, hls]; exact H7
 · obtain ⟨p1, p2, p3⟩ := put_bit bs c (by omega); rw [← p2] at H; refine post _ S (WrR_close (wv := wv) ?_); rw [p1, hls]; exact H
theorem Put_spec {bs : List Bool} {k v n : Nat} (H : Holds w (WrR b bs k :: L)) (hl : bs.length ≤ 100000000000) (hk : k ≤ bs.length / 8) (hn : n ≤ 32) (hv : v < 2 ^ n)
   (post : ∀ w', Same w w' → Holds w' (WrR b (bs ++ bitsOf v n) k :: L) → K (iv 0) w') : Cl Tryz.prog F.bits_Writer_Put #[.pointer (some ⟨b, 0, none⟩), uv v, nv n] w K := by
 refine Tie.bits_Writer_Put ?_; unfold Vcf.bits_Writer_Put; have hp : (2 : Nat) ^ n ≤ 2 ^ 32 := Nat.pow_le_pow_right (by omega) hn
 repeat (first | (with_reducible refine r_bnSF ?_) | (with_reducible refine r_vf ?_))
 refine r_cl (K := fun x w' => w = w' ∧ x = .bool true) ?_ ?_
 · refine Tie.bits_fits ?_; unfold Vcf.bits_fits
   repeat (first | refine r_ciu64 (by omega) (by omega) ?_ | refine r_shrU (show n ≤ IntKind.u64.bits by show n ≤ 64; omega) ?_ | refine r_eql ?_ | refine r_leq ?_ | refine r_geq ?_ | ((with_reducible refine r_vtD ?h ?_); (case h => omega)))
   exact ⟨rfl, by rw [Nat.div_eq_of_lt hv]; rfl⟩
 rintro _ _ ⟨rfl, rfl⟩
 repeat (first | (with_reducible refine r_notT ?_) | (with_reducible refine r_vf ?_))
 refine r_loop1 (fun x w' => ∃ i : Nat, i ≤ n ∧ x = nv i ∧ Same w w' ∧ Holds w' (WrR b (bs ++ (bitsOf v n).take i) k :: L)) (fun x _ => n - (RowKit.intOf x).toNat) ⟨0, by omega, rfl, .refl w, by rw [List.take_zero, List.append_nil]; exact H⟩ ?_; clear H; rintro _ _ w2 ⟨i, hi, rfl, S, H⟩
 repeat (refine r_lss ?_)
 refine r_ifD (fun h => ?_) fun h => ?_
 · have hlt : i < n := by omega
   repeat (first | (refine r_sub1N (by omega) (by omega) ?_) | (refine r_sub (by omega) (by omega) ?_))
   rw [show ((n - 1 : Nat) : Int) - (i : Int) = ((n - 1 - i : Nat) : Int) by omega]; refine r_shrU (show n - 1 - i ≤ IntKind.u32.bits by show n - 1 - i ≤ 32; omega) ?_; have hd : v / 2 ^ (n - 1 - i) ≤ v := Nat.div_le_self _ _; refine r_andU32 (t := 1) (by omega) (by omega) ?_; rw [bit_at]; have hb := Bool.toNat_le (v.testBit (n - 1 - i))
   repeat (refine r_ciu8 (by omega) (by omega) ?_)
   have hlen : (bs ++ (bitsOf v n).take i).length ≤ bs.length + 32 := by
     rw [List.length_append, List.length_take, bitsOf_len]; omega
   have hlen2 : bs.length ≤ (bs ++ (bitsOf v n).take i).length := by rw [List.length_append]; omega
   refine bit_spec H (by omega) (by omega) fun w3 S3 H3 => ?_; rw [List.append_assoc, ← take_bit v n i hlt] at H3
   repeat (first | refine r_ke ?_ | (refine r_add1N (by omega) ?_))
   refine ⟨⟨i + 1, by omega, rfl, S.trans S3, H3⟩, ?_⟩; simp [nv, RowKit.intOf]; omega
 · obtain rfl : i = n := by omega
   rw [List.take_of_length_le (by rw [bitsOf_len]; omega)] at H; exact post _ S H
theorem Take_spec {bs : List Bool} {k : Nat} (H : Holds w (WrR b bs k :: L)) (post : ∀ w', Same w w' → Holds w' (WrR b bs (bs.length / 8) :: L) → K (.string ⟨((wholeB bs).drop k).toArray⟩) w') :
   Cl Tryz.prog F.bits_Writer_Take #[.pointer (some ⟨b, 0, none⟩)] w K := by
 refine Tie.bits_Writer_Take ?_; unfold Vcf.bits_Writer_Take; obtain ⟨wv, H⟩ := WrR_open H; have S := Same.refl w; obtain ⟨oa, sp, rfl, H⟩ := H.open 1 rfl; rw [List.set_cons_succ, List.set_cons_zero] at H
 repeat (first | refine r_cbs H 1 rfl rfl ?_ | refine r_nc ?_ | refine r_fo0 ?_ | (with_reducible refine r_bnSF ?_) | (with_reducible refine r_vf ?_) | refine r_ld 0 H rfl rfl ?_)
 refine r_st 0 H rfl (by simp) rfl fun w2 S2 H2 => ?_; rw [List.set_cons_zero, List.set_cons_zero] at H2; refine post w2 S2 (WrR_close (wv := .slice none 0 0) ?_); rw [List.drop_of_length_le (Nat.le_of_eq (wholeB_len bs))]; exact ((H2.dropAt 1).nilSL bv tB).swap
end W01
namespace C10
open Go.M01 Go.M10
variable {w : World} {L : List HProp} {K : Value → World → Prop} {b wb n : Nat} {lens : List Nat} {bs : List Bool}
theorem codesAt_get (hs : Sized lens) {i : Nat} (hi : i < lens.length) : (codesAt lens 21 0)[i]? = some (codeN lens i) := by
 have h1 := sized_at hs hi; rw [codesAt, List.getElem?_map, List.getElem?_range hi]; show some (if _ then _ else _) = _; rw [if_pos (.inl (by omega))]
theorem Of_spec {i : Nat} (H : Holds w (CodeR b lens :: L)) (hi : i < lens.length) (k : ∀ w', Same w w' → Holds w' (CodeR b lens :: L) → K (.tuple #[uv (codeN lens i), nv (lens.getD i 0), iv 0]) w') : Cl Tryz.prog F.canon_Code_Of #[pt b, nv i] w K := by
 refine Tie.canon_Code_Of ?_; unfold Vcf.canon_Code_Of; obtain ⟨hw, lv, cv, ov, H1⟩ := CodeR_open H; refine r_bnSF (r_vf ?_); refine r_join1 (fun x w' => w = w' ∧ x = .bool false) ?_ ?_
 rotate_left
 · refine r_lss (r_vfD (by omega) ?_); refine r_nc (r_fo0 (r_ld 0 H1 rfl rfl ?_)); refine r_lnS 3 H1 rfl ?_; exact r_geq (r_ke ⟨rfl, by rw [decide_eq_false (by omega)]⟩)
 rintro _ _ _ ⟨rfl, rfl⟩; refine r_vf ?_; refine r_dr H1 fun w2 S2 H2 => ?_; refine r_nc (r_fo0 (r_ld 0 H2 rfl rfl ?_)); refine r_getS 2 H2 rfl (codesAt_get hw.1.sized hi) ?_; refine r_nc (r_fo0 (r_ld 0 H2 rfl rfl ?_)); refine r_getS 3 H2 rfl (x := lens.getD i 0) (by rw [List.getD_eq_getElem?_getD, List.getElem?_eq_getElem hi]; rfl) ?_; exact k _ S2 (CodeR_close hw H2)
theorem Put_spec {i : Nat} (H : Holds w (CodeR b lens :: W01.WrR wb bs n :: L)) (hi : i < lens.length) (hl : bs.length ≤ 100000000000) (hn : n ≤ bs.length / 8)
   (k : ∀ w', Same w w' → Holds w' (CodeR b lens :: W01.WrR wb (bs ++ codeB lens i) n :: L) → K (iv 0) w') : Cl Tryz.prog F.canon_Code_Put #[pt b, pt wb, nv i] w K := by
 refine Tie.canon_Code_Put ?_; unfold Vcf.canon_Code_Put; have hw := (CodeR_open H).1.1; have h1 := sized_at hw.sized hi; refine r_bnSF (r_vf ?_); refine Of_spec H hi fun w2 S2 H2 => ?_; refine r_ex30 (r_ex31 (r_ex32 ?_)); refine r_neq (r_vfN rfl ?_); have hc := codeN_lt hi h1.1; have hx := nx_le hw (lens.getD i 0) h1.2; refine W01.Put_spec H2.swap hl hn (by omega) (by omega) fun w3 S3 H3 => ?_; exact k _ (S2.trans S3) H3.swap
end C10
namespace D11
open Go.M01 Go.M10 Go.Mv
variable {w : World} {L : List HProp} {K : Value → World → Prop} {b wb n : Nat} {lens : List Nat} {bs : List Bool}
abbrev tWp : Nat := 24
def fnW (ab : Nat) : Value := .func (.func F.delta_Write_1) #[] #[pt ab]
theorem put_spec {ab v m : Nat} (H : Holds w (W01.WrR wb bs n :: blk ab tWp [pt wb] :: L)) (hl : bs.length ≤ 100000000000) (hn : n ≤ bs.length / 8) (hm : m ≤ 32) (hv : v < 2 ^ m)
   (k : ∀ w', Same w w' → Holds w' (W01.WrR wb (bs ++ bitsOf v m) n :: blk ab tWp [pt wb] :: L) → K (.tuple #[]) w') : Inv Tryz.prog (do let d ← Deferred.ofValue (fnW ab) #[nv v, nv m]; invoke d.target d.args) w K := by
 refine r_inv (f := F.delta_Write_1) (args := #[nv v, nv m, pt ab]) (by kernel_rfl) ?_; refine Tie.delta_Write_1 ?_; unfold Vcf.delta_Write_1; have hp : (2 : Nat) ^ m ≤ 2 ^ 32 := Nat.pow_le_pow_right (by omega) hm; refine r_ld 1 H rfl rfl ?_; refine r_ciu32 (by omega) (by omega) ?_; refine W01.Put_spec H hl hn hm hv fun w2 S2 H2 => ?_; exact k _ S2 H2
theorem rep_snoc (j : Nat) (x : List Bool) : (List.replicate (j + 1) x).flatten = (List.replicate j x).flatten ++ x := by
 rw [List.replicate_succ', List.flatten_append]; simp
theorem steps_spec {ab : Nat} {v : Value} (H : Holds w (W01.WrR wb bs n :: blk ab tWp [pt wb] :: SL nv tI v lens :: L)) (hne : lens ≠ []) (hll : lens.length ≤ 258) (hs : Sized lens) (hl : bs.length ≤ 10000000000) (hn : n ≤ bs.length / 8)
   (k : ∀ w', Same w w' → Holds w' (W01.WrR wb (bs ++ lensB lens) n :: blk ab tWp [pt wb] :: SL nv tI v lens :: L) → K (.tuple #[]) w') : Cl Tryz.prog F.delta_steps #[v, fnW ab] w K := by
 refine Tie.delta_steps ?_; unfold Vcf.delta_steps; have h0 : 0 < lens.length := List.length_pos_iff.2 hne; have hsz : ∀ i, i < lens.length → 1 ≤ lens.getD i 0 ∧ lens.getD i 0 ≤ 20 := fun i hi => C10.sized_at hs hi
 have hget : ∀ i, i < lens.length → lens[i]? = some (lens.getD i 0) := fun i hi => by rw [List.getD_eq_getElem?_getD, List.getElem?_eq_getElem hi]; rfl
 have hf0 := hsz 0 h0; refine r_getS 2 H (j := 0) rfl (hget 0 h0) ?_; refine put_spec (m := 5) H (by omega) hn (by omega) (by omega) fun w1 S1 H1 => ?_; refine r_lnS 2 H1 rfl ?_; generalize ha : lens.getD 0 0 = a at *
 have hlast : ∀ i, i ≤ lens.length → lastB a (lens.take i) ≤ 20 ∧ 1 ≤ lastB a (lens.take i) := by
   intro i hi
   cases i with
   | zero => exact ⟨by unfold lastB; simp; omega, by unfold lastB; simp; omega⟩
   | succ i =>
     have hg : lens.take (i + 1) = lens.take i ++ [lens.getD i 0] := by rw [List.take_add_one, hget i (by omega)]; rfl
     rw [hg, lastB_snoc]; have := hsz i (by omega); omega
 have hsl : ∀ i, i ≤ lens.length → (stepsB a (lens.take i)).length ≤ 41 * i := by
   intro i
   induction i with
   | zero => intro _; simp [stepsB]
   | succ i ih =>
     intro hi
     have hg : lens.take (i + 1) = lens.take i ++ [lens.getD i 0] := by rw [List.take_add_one, hget i (by omega)]; rfl
     have h1 := moves_len (lastB a (lens.take i)) (lens.getD i 0) (hlast i (by omega)).1 (hsz i (by omega)).2; have h2 := ih (by omega); rw [hg, stepsB_snoc]; simp only [List.length_append, List.length_singleton]; omega
 have hb5 : (bitsOf a 5).length = 5 := bitsOf_len _ _
 refine r_loop2 (fun nw x w' => ∃ i : Nat, i ≤ lens.length ∧ x = nv i ∧ nw = nv (lastB a (lens.take i)) ∧ Same w w' ∧ Holds w' (W01.WrR wb (bs ++ bitsOf a 5 ++ stepsB a (lens.take i)) n :: blk ab tWp [pt wb] :: SL nv tI v lens :: L)) (fun _ x _ => lens.length - (RowKit.intOf x).toNat)
   ⟨0, by omega, rfl, rfl, S1, by rw [List.take_zero, stepsB, List.append_nil]; exact H1⟩ ?_
 clear H H1 S1; rintro _ _ _ w2 ⟨i, hi, rfl, rfl, S, H⟩; have hsi := hsl i hi; refine r_lss (r_ifD (fun h => ?_) fun h => ?_)
 rotate_left
 · obtain rfl : i = lens.length := by omega
   rw [List.take_length] at H; refine k _ S ?_; unfold lensB; rw [ha, ← List.append_assoc]; exact H
 have hlt : i < lens.length := by omega
 have hl2 := hlast i hi; have hxi := hsz i hlt
 have hg : lens.take (i + 1) = lens.take i ++ [lens.getD i 0] := by rw [List.take_add_one, hget i hlt]; rfl
 refine r_getS 2 H rfl (hget i hlt) ?_; generalize hx : lens.getD i 0 = x at *; generalize hp : lastB a (lens.take i) = p at *; generalize hS0 : bs ++ bitsOf a 5 ++ stepsB a (lens.take i) = B0 at *
 have hB0 : B0.length ≤ 10000000000 + 5 + 41 * 258 := by rw [← hS0, List.length_append, List.length_append]; omega
 have hB1 : bs.length ≤ B0.length := by rw [← hS0, List.length_append, List.length_append]; omega
 -- up
 refine r_loop1 (fun y w' => ∃ j : Nat, y = nv (p + j) ∧ j ≤ x - p ∧ Same w w' ∧ Holds w' (W01.WrR wb (B0 ++ (List.replicate j [true, false]).flatten) n :: blk ab tWp [pt wb] :: SL nv tI v lens :: L)) (fun y _ => 100 - (RowKit.intOf y).toNat)
   ⟨0, rfl, Nat.zero_le _, S, by rw [List.replicate_zero, List.flatten_nil, List.append_nil]; exact H⟩ ?_
 clear H S; rintro _ _ w3 ⟨j, rfl, hj, S, H⟩
 have hjl : (List.replicate j [true, false]).flatten.length = 2 * j := by simp; omega
 have hjb : (B0 ++ (List.replicate j [true, false]).flatten).length = B0.length + 2 * j := by rw [List.length_append, hjl]
 refine r_lss (r_ifD (fun h2 => ?_) fun h2 => ?_)
 · refine put_spec (v := 2) (m := 2) H (by omega) (by omega) (by omega) (by decide) fun w4 S4 H4 => ?_; rw [show bitsOf 2 2 = [true, false] by decide, List.append_assoc, ← rep_snoc] at H4; refine r_add1N (by omega) ?_; refine r_ke ⟨⟨j + 1, rfl, by omega, S.trans S4, H4⟩, ?_⟩; simp only [nv, RowKit.intOf, Int.toNat_natCast]; omega
 -- down
 obtain rfl : j = x - p := by omega
 generalize hS1 : B0 ++ (List.replicate (x - p) [true, false]).flatten = B2 at *
 refine r_loop1 (fun y w' => ∃ j : Nat, y = nv (max p x - j) ∧ j ≤ p - x ∧ Same w w' ∧ Holds w' (W01.WrR wb (B2 ++ (List.replicate j [true, true]).flatten) n :: blk ab tWp [pt wb] :: SL nv tI v lens :: L)) (fun y _ => (RowKit.intOf y).toNat)
   ⟨0, by rw [show max p x - 0 = p + (x - p) by omega], Nat.zero_le _, S, by rw [List.replicate_zero, List.flatten_nil, List.append_nil]; exact H⟩ ?_
 clear H S; rintro _ _ w4 ⟨j, rfl, hj2, S, H⟩
 have hjl2 : (List.replicate j [true, true]).flatten.length = 2 * j := by simp; omega
 have hjb2 : (B2 ++ (List.replicate j [true, true]).flatten).length = B2.length + 2 * j := by rw [List.length_append, hjl2]
 refine r_gtr (r_ifD (fun h3 => ?_) fun h3 => ?_)
 · refine put_spec (v := 3) (m := 2) H (by omega) (by omega) (by omega) (by decide) fun w5 S5 H5 => ?_; rw [show bitsOf 3 2 = [true, true] by decide, List.append_assoc, ← rep_snoc] at H5; refine r_sub1N (by omega) (by omega) ?_; refine r_ke ⟨⟨j + 1, by rw [show max p x - j - 1 = max p x - (j + 1) by omega], by omega, S.trans S5, H5⟩, ?_⟩; simp only [nv, RowKit.intOf, Int.toNat_natCast]; omega
 · obtain rfl : j = p - x := by omega
   refine put_spec (v := 0) (m := 1) H (by omega) (by omega) (by omega) (by decide) fun w5 S5 H5 => ?_; refine r_add1N (by omega) ?_; refine r_ke ⟨⟨i + 1, by omega, rfl, by rw [hg, lastB_snoc, show max p x - (p - x) = x by omega], S.trans S5, ?_⟩, ?_⟩
   · rw [hg, stepsB_snoc, hp, ← List.append_assoc, ← List.append_assoc, hS0]; unfold moves; rw [← List.append_assoc, hS1]; exact H5
   · simp only [nv, RowKit.intOf, Int.toNat_natCast]; omega
theorem none_spec {v : Value} {l : List Nat} {f : Value} (H : Holds w L) (j : Nat) (hj : L[j]? = some (SL nv tI v l)) (hl : l.length ≤ 1000000)
   (hf : ∀ x ∈ l, ∀ {Q : Value → World → Prop}, Q (.bool false) w → Inv Tryz.prog (do let d ← Deferred.ofValue f #[nv x]; invoke d.target d.args) w Q) (k : K (.bool false) w) : Cl Tryz.prog F.slices_ContainsFunc_int_int #[v, f] w K := by
 refine Tie.slices_ContainsFunc_int_int ?_; unfold Vcf.slices_ContainsFunc_int_int; refine r_cl (K := fun x w' => w = w' ∧ x = iv (-1)) ?_ ?_
 · refine Tie.slices_IndexFunc_int_int ?_; unfold Vcf.slices_IndexFunc_int_int; refine r_lnS j H hj ?_; refine r_loop1 (fun x w' => ∃ i : Nat, i ≤ l.length ∧ x = nv i ∧ w = w') (fun x _ => l.length - (RowKit.intOf x).toNat) ⟨0, Nat.zero_le _, rfl, rfl⟩ ?_; rintro _ _ _ ⟨i, hi, rfl, rfl⟩; refine r_lss (r_ifD (fun h => ?_) fun h => ?_)
   · have hlt : i < l.length := by omega
     refine r_getS j H hj (List.getElem?_eq_getElem hlt) ?_; refine hf _ (List.getElem_mem hlt) ?_; refine r_vf ?_; refine r_add1N (by omega) ?_; refine r_ke ⟨⟨i + 1, by omega, rfl, rfl⟩, ?_⟩; simp only [nv, RowKit.intOf, Int.toNat_natCast]; omega
   · exact ⟨rfl, rfl⟩
 rintro _ _ ⟨rfl, rfl⟩; exact r_geq k
theorem may_spec (H : Holds w L) (j : Nat) {v : Value} (hj : L[j]? = some (SL nv tI v lens)) (h3 : 3 ≤ lens.length) (h258 : lens.length ≤ 258) (hs : Sized lens) (k : K (.bool true) w) : Cl Tryz.prog F.delta_may #[v] w K := by
 refine Tie.delta_may ?_; unfold Vcf.delta_may; refine r_lnS j H hj ?_; refine r_cl (K := fun x w' => w = w' ∧ x = .bool true) ?_ ?_
 · refine Tie.delta_sized ?_; unfold Vcf.delta_sized; refine r_geq (r_vtD (by omega) ?_); exact r_leq ⟨rfl, by rw [decide_eq_true (by omega)]⟩
 rintro _ _ ⟨rfl, rfl⟩; refine r_vt ?_; refine none_spec H j hj (by omega) (fun x hx Q hQ => ?_) ?_
 · have := hs x hx; refine r_inv (f := F.delta_may_1) (args := #[nv x]) (by kernel_rfl) ?_; refine Tie.delta_may_1 ?_; unfold Vcf.delta_may_1; refine r_cl (K := fun x w' => w = w' ∧ x = .bool true) ?_ ?_
   · refine Tie.delta_length ?_; unfold Vcf.delta_length; refine r_geq (r_vtD (by omega) ?_); exact r_leq ⟨rfl, by rw [decide_eq_true (by omega)]⟩
   rintro _ _ ⟨rfl, rfl⟩; exact r_notT hQ
 · exact r_notF k
theorem Write_spec {v : Value} (H : Holds w (W01.WrR wb bs n :: SL nv tI v lens :: L)) (h3 : 3 ≤ lens.length) (h258 : lens.length ≤ 258) (hs : Sized lens) (hl : bs.length ≤ 10000000000) (hn : n ≤ bs.length / 8)
   (k : ∀ w', Same w w' → Holds w' (W01.WrR wb (bs ++ lensB lens) n :: SL nv tI v lens :: L) → K (iv 0) w') : Cl Tryz.prog F.delta_Write #[pt wb, v] w K := by
 refine Tie.delta_Write ?_; unfold Vcf.delta_Write; refine r_new H fun ab w1 S1 H1 => ?_; replace H1 : Holds w1 (blk ab tWp [pt wb] :: W01.WrR wb bs n :: SL nv tI v lens :: L) := H1; refine r_ld 0 H1 rfl rfl ?_; refine r_bnSF (r_vf ?_); refine may_spec H1 2 rfl h3 h258 hs ?_; refine r_notT (r_vf ?_); refine r_mf (fnW ab) (by kernel_rfl) ?_; refine steps_spec H1.swap (fun e => by rw [e] at h3; simp at h3) h258 hs hl hn fun w2 S2 H2 => ?_; exact k _ (S1.trans S2) (Holds.dropAt H2 1)
end D11
namespace F08
variable {w : World} {L : List HProp} {K : Value → World → Prop}
def cost (l lens : List Nat) : Nat := (l.map fun x => lens.getD x 0).sum
def costD (l lens : List Nat) (t : Nat) : Nat := ((List.range t).map fun x => l.count x * lens.getD x 0).sum
theorem sum_snoc (l : List Nat) (x : Nat) : (l ++ [x]).sum = l.sum + x := by simp
theorem costD_succ (l lens : List Nat) (t : Nat) : costD l lens (t + 1) = costD l lens t + l.count t * lens.getD t 0 := by
 unfold costD; rw [List.range_succ, List.map_append, List.map_cons, List.map_nil, sum_snoc]
theorem costD_cons (y : Nat) (l lens : List Nat) : ∀ t, costD (y :: l) lens t = costD l lens t + if y < t then lens.getD y 0 else 0
 | 0 => by simp [costD]
 | t + 1 => by
   rw [costD_succ, costD_succ, costD_cons y l lens t, List.count_cons]
   by_cases e : y = t
   · subst e; rw [if_neg (Nat.lt_irrefl _), if_pos (by simp), if_pos (by omega), Nat.add_mul, Nat.one_mul]; omega
   · have : (y == t) = false := by simpa using e
     rw [this]; simp only [Bool.false_eq_true, if_false, Nat.add_zero]
     by_cases q : y < t
     · rw [if_pos q, if_pos (by omega)]; omega
     · rw [if_neg q, if_neg (by omega), Nat.add_zero, Nat.add_zero]
theorem costD_all (lens : List Nat) : ∀ l : List Nat, (∀ x ∈ l, x < lens.length) → costD l lens lens.length = cost l lens
 | [], _ => by
   have : ∀ t, costD [] lens t = 0 := by
     intro t
     induction t with
     | zero => rfl
     | succ t ih => rw [costD_succ, ih]; simp
   exact this _
 | y :: l, h => by
   rw [costD_cons, costD_all lens l fun x hx => h x (List.mem_cons_of_mem _ hx), if_pos (h y (List.mem_cons_self ..))]; unfold cost; rw [List.map_cons, List.sum_cons]; omega
theorem getD_le {lens : List Nat} (h : ∀ x ∈ lens, x ≤ 20) (y : Nat) : lens.getD y 0 ≤ 20 := by
 rw [List.getD_eq_getElem?_getD]; rcases Nat.lt_or_ge y lens.length with q | q
 · rw [List.getElem?_eq_getElem q]; exact h _ (List.getElem_mem q)
 · rw [List.getElem?_eq_none q]; exact Nat.zero_le _
theorem costD_le {lens : List Nat} (h : ∀ x ∈ lens, x ≤ 20) (t : Nat) : ∀ l : List Nat, costD l lens t ≤ l.length * 20
 | [] => by
   have : ∀ t, costD [] lens t = 0 := by
     intro t
     induction t with
     | zero => rfl
     | succ t ih => rw [costD_succ, ih]; simp
   rw [this]; exact Nat.zero_le _
 | y :: l => by
   have h1 := costD_le h t l; have h2 := getD_le h y; rw [costD_cons, List.length_cons, Nat.add_mul]
   split <;> omega
theorem cost_le {lens : List Nat} (h : ∀ x ∈ lens, x ≤ 20) : ∀ l : List Nat, cost l lens ≤ l.length * 20
 | [] => Nat.le_refl _
 | y :: l => by
   have h1 := cost_le h l; have h2 := getD_le h y; show ((lens.getD y 0 :: l.map fun x => lens.getD x 0) : List Nat).sum ≤ _; unfold cost at h1; rw [List.sum_cons, List.length_cons, Nat.add_mul]; omega
theorem all_spec {v : Value} {l : List Nat} {i : Nat} (H : Holds w L) (hi : L[i]? = some (SL nv tI v l)) (hl : l.length ≤ 1000000) (hb : ∀ x ∈ l, x ≤ 1099511627776) (k : K (.bool true) w) : Cl Tryz.prog F.freq_all #[v] w K := by
 refine Tie.freq_all ?_; unfold Vcf.freq_all; refine D11.none_spec H i hi hl (fun x hx Q hQ => ?_) (r_notF k); have h1 := hb x hx; refine r_inv (f := F.freq_all_1) (args := #[nv x]) (by kernel_rfl) ?_; refine Tie.freq_all_1 ?_; unfold Vcf.freq_all_1; refine r_cl (K := fun z w' => w = w' ∧ z = .bool true) ?_ ?_
 · refine Tie.freq_may ?_; unfold Vcf.freq_may; refine r_geq (r_vtD (by omega) ?_); exact r_leq ⟨rfl, by rw [decide_eq_true (by omega)]⟩
 rintro _ _ ⟨rfl, rfl⟩; exact r_notT hQ
theorem together_spec {a b : Nat} (h : a + b ≤ 1099511627776) (k : K (nv (a + b)) w) : Cl Tryz.prog F.freq_together #[nv a, nv b] w K := by
 refine Tie.freq_together ?_; unfold Vcf.freq_together; refine r_addN (by omega) (r_min ?_); rw [show min (((a + b : Nat) : Int)) 1099511627776 = ((a + b : Nat) : Int) by omega]; exact k
theorem Cost_spec {v v2 : Value} {l lens : List Nat} {i j : Nat} (H : Holds w L) (hi : L[i]? = some (SL nv tI v l)) (hj : L[j]? = some (SL nv tI v2 lens)) (hl : l.length ≤ 10000000) (hn : lens.length ≤ 1000000) (h20 : ∀ x ∈ lens, x ≤ 20) (hx : ∀ x ∈ l, x < lens.length)
   (k : K (.tuple #[nv (cost l lens), iv 0]) w) : Cl Tryz.prog F.freq_Cost #[v, v2] w K := by
 refine Tie.freq_Cost ?_; unfold Vcf.freq_Cost; refine all_spec H hj hn (fun x hx => by have := h20 x hx; omega) (r_notT (r_vf ?_)); refine r_lnS i H hi ?_; refine r_loop2 (fun p q w' => ∃ t : Nat, p = nv (cost (l.take t) lens) ∧ q = nv t ∧ t ≤ l.length ∧ w = w') (fun _ q _ => l.length - (RowKit.intOf q).toNat) ⟨0, rfl, rfl, Nat.zero_le _, rfl⟩ ?_; rintro _ _ _ _ ⟨t, rfl, rfl, ht, rfl⟩; refine r_lss (r_ifD (fun h => ?_) fun h => ?_)
 · have hlt : t < l.length := by omega
   have e : l.take (t + 1) = l.take t ++ [l[t]] := by rw [List.take_add_one, List.getElem?_eq_getElem hlt]; rfl
   have hxt := hx _ (List.getElem_mem hlt); have hc := cost_le h20 (l.take t); rw [List.length_take] at hc; refine r_getS i H hi (List.getElem?_eq_getElem hlt) ?_; generalize l[t] = x at *; have hg := getD_le h20 x
   have e2 : cost (l.take (t + 1)) lens = cost (l.take t) lens + lens.getD x 0 := by
     unfold cost; rw [e, List.map_append, List.map_cons, List.map_nil, sum_snoc]
   refine r_join1 (fun z w' => w = w' ∧ z = .bool false) ?_ ?_
   rotate_left
   · refine r_lss (r_vfD (by omega) ?_); refine r_lnS j H hj (r_geq (r_ke ⟨rfl, by rw [decide_eq_false (by omega)]⟩))
   rintro _ _ _ ⟨rfl, rfl⟩; refine r_vf ?_; refine r_getS j H hj (x := lens.getD x 0) (by rw [List.getD_eq_getElem?_getD, List.getElem?_eq_getElem hxt]; rfl) ?_; refine together_spec (by omega) ?_; rw [← e2]; refine r_add1N (by omega) (r_ke ⟨⟨t + 1, rfl, rfl, by omega, rfl⟩, ?_⟩); simp only [nv, RowKit.intOf, Int.toNat_natCast]; omega
 · rw [List.take_of_length_le (by omega)]; exact k
theorem CostD_spec {v v2 : Value} {l lens : List Nat} {i j : Nat} (H : Holds w L) (hi : L[i]? = some (SL nv tI v l)) (hj : L[j]? = some (SL nv tI v2 lens)) (hl : l.length ≤ 10000000) (hn : lens.length ≤ 1000000) (h20 : ∀ x ∈ lens, x ≤ 20) (hx : ∀ x ∈ l, x < lens.length)
   (k : K (nv (cost l lens)) w) : Cl Tryz.prog F.balerref08_Cost #[v, v2] w K := by
 refine Tie.balerref08_Cost ?_; unfold Vcf.balerref08_Cost; refine r_lnS j H hj ?_; refine r_loop2 (fun p q w' => ∃ t : Nat, p = nv (costD l lens t) ∧ q = nv t ∧ t ≤ lens.length ∧ w = w') (fun _ q _ => lens.length - (RowKit.intOf q).toNat) ⟨0, rfl, rfl, Nat.zero_le _, rfl⟩ ?_; rintro _ _ _ _ ⟨t, rfl, rfl, ht, rfl⟩; refine r_lss (r_ifD (fun h => ?_) fun h => ?_)
 · have hlt : t < lens.length := by omega
   have hs := costD_succ l lens t; have hle := costD_le h20 (t + 1) l; refine r_getS j H hj (x := lens.getD t 0) (by rw [List.getD_eq_getElem?_getD, List.getElem?_eq_getElem hlt]; rfl) ?_; refine count_spec H (i := i) (x := t) hi (by omega) ?_; have hcl : l.count t ≤ l.length := List.count_le_length; generalize lens.getD t 0 = y at *; generalize l.count t = c at *; generalize costD l lens t = b at *; refine r_loop2 (fun p q w' => ∃ m : Nat, p = nv (b + m * y) ∧ q = nv m ∧ m ≤ c ∧ w = w') (fun _ q _ => c - (RowKit.intOf q).toNat) ⟨0, by rw [Nat.zero_mul, Nat.add_zero], rfl, Nat.zero_le _, rfl⟩ ?_; rintro _ _ _ _ ⟨m, rfl, rfl, hm, rfl⟩; refine r_lss (r_ifD (fun h2 => ?_) fun h2 => ?_)
   · have h3 : (m + 1) * y ≤ c * y := Nat.mul_le_mul_right _ (by omega)
     have h4 : (m + 1) * y = m * y + y := by rw [Nat.add_mul, Nat.one_mul]
     refine r_addN (by omega) ?_; refine r_cl (K := fun z w' => w = w' ∧ z = nv (b + (m + 1) * y)) ?_ ?_
     · refine Tie.balerref08_most ?_; unfold Vcf.balerref08_most; refine r_gtr (r_vfD (by omega) ?_); exact ⟨rfl, by rw [h4, Nat.add_assoc]⟩
     rintro _ _ ⟨rfl, rfl⟩; refine r_add1N (by omega) (r_ke ⟨⟨m + 1, rfl, rfl, by omega, rfl⟩, ?_⟩); simp only [nv, RowKit.intOf, Int.toNat_natCast]; omega
   · obtain rfl : m = c := by omega
     refine r_add1N (by omega) (r_ke ⟨⟨t + 1, by rw [hs], rfl, by omega, rfl⟩, ?_⟩); simp only [nv, RowKit.intOf, Int.toNat_natCast]; omega
 · obtain rfl : t = lens.length := by omega
   rw [costD_all lens l hx]; exact k
theorem Groups_spec {n : Nat} (hn : n ≤ 1000000000) (k : K (nv ((n + 49) / 50)) w) : Cl Tryz.prog F.freq_Groups #[nv n] w K := by
 refine Tie.freq_Groups ?_; unfold Vcf.freq_Groups; refine r_leq (r_ifD (fun h => ?_) fun h => ?_)
 · obtain rfl : n = 0 := by omega
   exact k
 · refine r_sub1N (by omega) (by omega) ?_; refine r_quo (by omega) (by omega) (by omega) ?_; rw [show ((n - 1 : Nat) : Int) / 50 = (((n - 1) / 50 : Nat) : Int) by omega]; refine r_add1N (by omega) ?_; rw [show (n - 1) / 50 + 1 = (n + 49) / 50 by omega]; exact k
def addL (a b : List Nat) : List Nat := List.zipWith (· + ·) a b
theorem Add_spec {v v2 : Value} {a b : List Nat} {i j : Nat} (H : Holds w L) (hi : L[i]? = some (SL nv tI v a)) (hj : L[j]? = some (SL nv tI v2 b)) (hl : a.length ≤ 1000000) (hab : b.length = a.length) (ha : ∀ x ∈ a, x ≤ 500000000000) (hb : ∀ x ∈ b, x ≤ 500000000000)
   (k : ∀ v' w', Same w w' → Holds w' (SL nv tI v' (addL a b) :: L) → K (.tuple #[v', iv 0]) w') : Cl Tryz.prog F.freq_Add #[v, v2] w K := by
 refine Tie.freq_Add ?_; unfold Vcf.freq_Add; refine r_join1 (fun t w' => w = w' ∧ t = .bool false) ?_ ?_
 rotate_left
 · refine r_lnS i H hi (r_lnS j H hj (r_neq (r_vfN (by omega) ?_))); refine all_spec H hi hl (fun x hx => by have := ha x hx; omega) (r_notT (r_vf ?_)); exact all_spec H hj (by omega) (fun x hx => by have := hb x hx; omega) (r_notT (r_ke ⟨rfl, rfl⟩))
 rintro _ _ _ ⟨rfl, rfl⟩; refine r_vf ?_; refine r_lnS i H hi ?_; refine r_ms (f := nv) (x := 0) H rfl (by omega) (by omega) fun ob w2 S2 H2 => ?_; rw [Int.toNat_natCast] at H2 ⊢; have H3 := H2.close 0 rfl; simp only [List.set_cons_zero, List.length_replicate, List.length_nil, Nat.add_zero] at H3; generalize hv : Value.slice (some ⟨ob, 0, none⟩) a.length a.length = ov at H3 ⊢; refine r_lnS 0 H3 rfl ?_; rw [List.length_replicate]; refine r_loop1 (fun q w' => ∃ (t : Nat), q = nv t ∧ t ≤ a.length ∧ Same w w' ∧ Holds w' (SL nv tI ov (addL (a.take t) (b.take t) ++ List.replicate (a.length - t) 0) :: L)) (fun q _ => a.length - (RowKit.intOf q).toNat) ⟨0, rfl, Nat.zero_le _, S2, H3⟩ ?_; clear H H2 H3 S2; rintro _ _ w3 ⟨t, rfl, ht, S3, H3⟩; refine r_lss (r_ifD (fun h => ?_) fun h => ?_)
 · have hlt : t < a.length := by omega
   have hlt2 : t < b.length := by omega
   have h1 := ha _ (List.getElem_mem hlt); have h2 := hb _ (List.getElem_mem hlt2)
   have e1 : a.take (t + 1) = a.take t ++ [a[t]] := by rw [List.take_add_one, List.getElem?_eq_getElem hlt]; rfl
   have e2 : b.take (t + 1) = b.take t ++ [b[t]] := by rw [List.take_add_one, List.getElem?_eq_getElem hlt2]; rfl
   refine r_dr H3 fun w4 S4 H4 => ?_; refine r_getS (i + 1) H4 (by rw [List.getElem?_cons_succ]; exact hi) (List.getElem?_eq_getElem hlt) ?_; refine r_getS (j + 1) H4 (by rw [List.getElem?_cons_succ]; exact hj) (List.getElem?_eq_getElem hlt2) ?_; generalize a[t] = x at *; generalize b[t] = y at *
   have hlen : (addL (a.take t) (b.take t)).length = t := by unfold addL; rw [List.length_zipWith, List.length_take, List.length_take]; omega
   refine together_spec (by omega) ?_; refine r_setS 0 H4 (x + y) rfl (by rw [List.length_append, hlen, List.length_replicate]; omega) rfl fun w5 S5 H5 => ?_; refine r_add1N (by omega) (r_ke ⟨⟨t + 1, rfl, by omega, S3.trans (S4.trans S5), ?_⟩, ?_⟩)
   · replace H5 : Holds w5 (SL nv tI ov ((addL (a.take t) (b.take t) ++ List.replicate (a.length - t) 0).set t (x + y)) :: L) := H5; rw [List.set_append_right _ _ (by omega), hlen, Nat.sub_self, show a.length - t = (a.length - (t + 1)) + 1 by omega, List.replicate_succ, List.set_cons_zero] at H5
     have e3 : addL (a.take (t + 1)) (b.take (t + 1)) = addL (a.take t) (b.take t) ++ [x + y] := by
       unfold addL; rw [e1, e2, List.zipWith_append (by rw [List.length_take, List.length_take]; omega)]; rfl
     rw [e3, List.append_assoc]; exact H5
   · simp only [nv, RowKit.intOf, Int.toNat_natCast]; omega
 · obtain rfl : t = a.length := by omega
   rw [List.take_length, List.take_of_length_le (by omega), Nat.sub_self, List.replicate_zero, List.append_nil] at H3; exact k ov w3 S3 H3
end F08
namespace T12
variable {w : World} {L : List HProp} {K : Value → World → Prop}
def bnd : List Nat := [200, 600, 1200, 2400]
def numAt (n t : Nat) : Nat := 2 + ((bnd.take t).filter fun b => decide (b ≤ n)).length
def num (n : Nat) : Nat := numAt n 4
theorem numAt_succ (n : Nat) {t : Nat} (h : t < 4) : numAt n (t + 1) = numAt n t + if bnd.getD t 0 ≤ n then 1 else 0 := by
 unfold numAt; have hl : t < bnd.length := h; rw [List.take_add_one, List.getElem?_eq_getElem hl, List.filter_append, List.length_append, List.getD_eq_getElem?_getD, List.getElem?_eq_getElem hl]; show 2 + (_ + (List.filter _ [bnd[t]]).length) = _
 by_cases e : bnd[t] ≤ n
 · rw [List.filter_cons_of_pos (by simpa using e)]
   show _ = _ + if bnd[t] ≤ n then 1 else 0
   rw [if_pos e]; simp; omega
 · rw [List.filter_cons_of_neg (by simpa using e)]
   show _ = _ + if bnd[t] ≤ n then 1 else 0
   rw [if_neg e]; simp
def BndOk (L : List HProp) : Prop := ∀ w', Holds w' L → ∃ e z, w'.heap[1]? = some (.cells (bnd.map nv).toArray e z)
theorem BndOk.up {Q : HProp} (h : BndOk L) : BndOk (Q :: L) := fun w' H => h w' H.drop
theorem Number_spec {n : Nat} (H : Holds w L) (hb : BndOk L) (k : K (nv (num n)) w) : Cl Tryz.prog F.tables_Number #[nv n] w K := by
 refine Tie.tables_Number ?_; unfold Vcf.tables_Number; obtain ⟨e, z, hh⟩ := hb w H; refine r_ldAP (p := ⟨1, 0, none⟩) (cs := (bnd.map nv).toArray) rfl (fun j v hv => ?_) ?_
 · have e1 : (⟨1, 0, none⟩ : Addr).add j = ⟨1, j, none⟩ := by
     unfold Addr.add; split
     · rename_i q; rw [q]
     · simp
   rw [e1]; simp only [World.cell?, hh]; exact hv
 refine r_loop2 (fun p q w' => ∃ t : Nat, p = nv (numAt n t) ∧ q = nv t ∧ t ≤ 4 ∧ numAt n t ≤ 2 + t ∧ w = w') (fun _ q _ => 4 - (RowKit.intOf q).toNat) ⟨0, rfl, rfl, by omega, Nat.le_refl _, rfl⟩ ?_; rintro _ _ _ _ ⟨t, rfl, rfl, ht, hle, rfl⟩; refine r_lss (r_ifD (fun h => ?_) fun h => ?_)
 · have hlt : t < 4 := by omega
   have hs := numAt_succ n hlt; have hl : t < bnd.length := hlt
   refine r_ixa1 (nv (bnd.getD t 0)) (by omega) (by omega) (by
     rw [Int.toNat_natCast, List.getElem?_map, List.getElem?_eq_getElem hl, List.getD_eq_getElem?_getD, List.getElem?_eq_getElem hl]; rfl) ?_
   refine r_geq (r_ifD (fun q => ?_) fun q => ?_)
   · rw [if_pos (by omega)] at hs; refine r_add1N (by omega) (r_add1N (by omega) (r_ke ⟨⟨t + 1, by rw [hs], rfl, by omega, by omega, rfl⟩, ?_⟩)); simp only [nv, RowKit.intOf, Int.toNat_natCast]; omega
   · rw [if_neg (by omega)] at hs; refine r_add1N (by omega) (r_ke ⟨⟨t + 1, by rw [hs]; rfl, rfl, by omega, by omega, rfl⟩, ?_⟩); simp only [nv, RowKit.intOf, Int.toNat_natCast]; omega
 · obtain rfl : t = 4 := by omega
   exact k
theorem NumberD_spec {n : Nat} (k : K (nv (num n)) w) : Cl Tryz.prog F.balerref12_Number #[nv n] w K := by
 refine Tie.balerref12_Number ?_; unfold Vcf.balerref12_Number; have h0 : numAt n 0 = 2 := rfl; have h1 : numAt n 1 = numAt n 0 + _ := numAt_succ n (t := 0) (by omega); have h2 : numAt n 2 = numAt n 1 + _ := numAt_succ n (t := 1) (by omega); have h3 : numAt n 3 = numAt n 2 + _ := numAt_succ n (t := 2) (by omega); have h4 : numAt n 4 = numAt n 3 + _ := numAt_succ n (t := 3) (by omega); rw [show bnd.getD 0 0 = 200 from rfl] at h1; rw [show bnd.getD 1 0 = 600 from rfl] at h2; rw [show bnd.getD 2 0 = 1200 from rfl] at h3; rw [show bnd.getD 3 0 = 2400 from rfl] at h4; have hn : num n = numAt n 4 := rfl; refine r_lss (r_ifD (fun q => ?_) fun q => ?_)
 · rw [if_neg (by omega)] at h1 h2 h3 h4; rw [show num n = 2 by omega] at k; exact k
 refine r_lss (r_ifD (fun q2 => ?_) fun q2 => ?_)
 · rw [if_pos (by omega)] at h1; rw [if_neg (by omega)] at h2 h3 h4; rw [show num n = 3 by omega] at k; exact k
 refine r_lss (r_ifD (fun q3 => ?_) fun q3 => ?_)
 · rw [if_pos (by omega)] at h1 h2; rw [if_neg (by omega)] at h3 h4; rw [show num n = 4 by omega] at k; exact k
 refine r_lss (r_ifD (fun q4 => ?_) fun q4 => ?_)
 · rw [if_pos (by omega)] at h1 h2 h3; rw [if_neg (by omega)] at h4; rw [show num n = 5 by omega] at k; exact k
 · rw [if_pos (by omega)] at h1 h2 h3 h4; rw [show num n = 6 by omega] at k; exact k
end T12
end Go.Proofs.YtgaiocpkjaaphaaGreatDoor
namespace Go.M02
def crcStep (s : Nat) : Nat := (s * 2 % 4294967296) ^^^ (s / 2147483648 * 79764919)
def crcN (s : Nat) : Nat → Nat
 | 0 => s
 | k + 1 => crcStep (crcN s k)
def crcTab (b : Nat) : Nat := crcN (b * 16777216) 8
def tabL : List Nat := (List.range 256).map crcTab
theorem crcStep_lt (s : Nat) (h : s < 4294967296) : crcStep s < 4294967296 := by
 unfold crcStep
 have h1 : s / 2147483648 ≤ 1 := by omega
 have h2 : s / 2147483648 * 79764919 ≤ 1 * 79764919 := Nat.mul_le_mul_right _ h1; exact Nat.xor_lt_two_pow (n := 32) (by omega) (by omega)
theorem crcN_lt (s : Nat) (h : s < 4294967296) : ∀ k, crcN s k < 4294967296
 | 0 => h
 | k + 1 => crcStep_lt _ (crcN_lt s h k)
theorem tabL_len : tabL.length = 256 := by simp [tabL]
theorem tabL_get (i : Nat) (h : i < 256) : tabL[i]? = some (crcTab i) := by simp [tabL, h]
end Go.M02
namespace Go.Proofs.YtgaiocpkjaaphaaGreatDoor
open Go Go.Vc
attribute [local irreducible] Vc.Nc Vc.Ld Vc.LdA Vc.St Vc.StA Vc.Fo Vc.Iaa Vc.Ias Vc.Ixs Vc.Ixa Vc.Fd Vc.FdA Vc.Bp Vc.Bb Vc.Bn Vc.Up Vc.Ci Vc.Lns Vc.Lnl Vc.Ex Vc.Sst Vc.Ssl Vc.New Vc.Vif Vc.VJoin Vc.VLoop Vc.KE Vc.Dr Vc.Rk Vc.Cl Vc.Cx Vc.Inv Vc.Be Vc.Cv Vc.Cw Vc.Mf Vc.Sl Vc.Lk Vc.Bd Vc.Bs Vc.Ms Vc.Mm Vc.Mu Vc.Me Vc.Es Vc.Rg Vc.Nx Vc.Ta Vc.Ap Vc.Usd Vc.Ust Vc.Cp Vc.Ln Vc.Bc Vc.Bmin Vc.Bmax Vc.Bdel Vc.Bclr Vc.Pk
namespace W02
open Go.M02
variable {w : World} {L : List HProp} {K : Value → World → Prop}
abbrev tTab : Nat := 230
theorem Table_spec (H : Holds w L) (post : ∀ w', Same w w' → Holds w' L → K (.agg (tabL.map uv).toArray) w') : Cl Tryz.prog F.crc_Table #[] w K := by
 refine Tie.crc_Table ?_; unfold Vcf.crc_Table
 have hz : (zeroP Tryz.prog tTab).cells.toList = (List.replicate 256 0).map uv := by kernel_rfl
 refine r_new H fun b1 w1 S1 H1 => ?_; rw [hz] at H1; refine r_new H1 fun b2 w2 S2 H2 => ?_; rw [hz] at H2
 refine r_loop1 (fun x w' => ∃ i : Nat, i ≤ 256 ∧ x = nv i ∧ Same w w' ∧ Holds w' (blk b2 tTab ((filled tabL 0 256 i).map uv) :: blk b1 tTab ((List.replicate 256 0).map uv) :: L))
   (fun x _ => 256 - (RowKit.intOf x).toNat) ⟨0, by omega, rfl, S1.trans S2, by rw [filled_zero]; exact H2⟩ ?_
 clear H H1 H2 S1 S2; rintro _ _ w3 ⟨i, hi, rfl, S, H⟩
 repeat (refine r_lss ?_)
 refine r_ifD (fun h => ?_) fun h => ?_
 · have hlt : i < 256 := by omega
   refine r_ciu32 (by omega) (by omega) ?_; refine r_shlU32 (n := 24) (by omega) ?_; rw [show i * 2 ^ 24 % 4294967296 = crcN (i * 16777216) 0 by show _ = i * 16777216; omega]; refine r_loop2 (fun s x w' => w3 = w' ∧ ∃ j : Nat, j ≤ 8 ∧ x = nv j ∧ s = uv (crcN (i * 16777216) j)) (fun _ x _ => 8 - (RowKit.intOf x).toNat) ⟨rfl, 0, by omega, rfl, rfl⟩ ?_; rintro _ _ _ _ ⟨rfl, j, hj, rfl, rfl⟩; have hc := crcN_lt (i * 16777216) (by omega) j
   repeat (refine r_lss ?_)
   refine r_ifD (fun h2 => ?_) fun h2 => ?_
   · have h3 : crcN (i * 16777216) j / 2147483648 ≤ 1 := by omega
     have h4 : crcN (i * 16777216) j / 2147483648 * 79764919 ≤ 1 * 79764919 := Nat.mul_le_mul_right _ h3; refine r_shrU (n := 31) (by decide) ?_; refine r_shlU32 (n := 1) (by omega) ?_; refine r_mulU32 (t := 79764919) (by omega) ?_; refine r_xorU32 (by omega) (by omega) ?_
     repeat (first | refine r_ke ?_ | (refine r_add1N (by omega) ?_))
     refine ⟨⟨rfl, j + 1, by omega, rfl, rfl⟩, ?_⟩; simp [nv, RowKit.intOf]; omega
   · obtain rfl : j = 8 := by omega
     repeat (refine r_iaaN (by omega) ?_)
     refine r_st 0 H rfl (by rw [List.length_map, filled_len (by omega) tabL_len]; omega) rfl fun w4 S4 H4 => ?_
     have hset : ((filled tabL 0 256 i).map uv).set (0 + i) (uv (crcN (i * 16777216) 8)) = (filled tabL 0 256 (i + 1)).map uv := by
       rw [Nat.zero_add, ← List.map_set]; exact congrArg (List.map uv) (filled_set (z := 0) hlt tabL_len (tabL_get i hlt))
     rw [List.set_cons_zero, hset] at H4
     repeat (first | refine r_ke ?_ | (refine r_add1N (by omega) ?_))
     refine ⟨⟨i + 1, by omega, rfl, S.trans S4, H4⟩, ?_⟩; simp [nv, RowKit.intOf]; omega
 · obtain rfl : i = 256 := by omega
   rw [filled_all tabL_len] at H
   have hl : (tabL.map uv).length = 256 := by simp [tabL_len]
   refine r_ldA 0 H (tabL.map uv) rfl (by rw [List.drop_zero, List.take_of_length_le (by omega)]) hl ?_; refine r_stA 1 H (vs := tabL.map uv) rfl (Nat.le_of_eq (by rw [List.length_map, List.length_replicate])) hl (by kernel_rfl) fun w4 S4 H4 => ?_
   have hset : setL ((List.replicate 256 0).map uv) 0 (tabL.map uv) = tabL.map uv := by kernel_rfl
   rw [List.set_cons_succ, List.set_cons_zero, hset] at H4; refine r_ldA 1 H4 (tabL.map uv) rfl (by rw [List.drop_zero, List.take_of_length_le (by omega)]) hl ?_; exact post _ (S.trans S4) H4.drop.drop
end W02
instance : Row Tryz.prog 69 3 (.int .i64 0) := ⟨by kernel_rfl, ⟨Tryz.t3, by kernel_rfl, by kernel_rfl, by decide, by kernel_rfl⟩, rfl⟩
instance : Row Tryz.prog 54 5 (.int .u8 0) := ⟨by kernel_rfl, ⟨Tryz.t5, by kernel_rfl, by kernel_rfl, by decide, by kernel_rfl⟩, rfl⟩
instance : Bytes Tryz.prog 54 5 9 := ⟨by kernel_rfl, by kernel_rfl, by kernel_rfl⟩
namespace U18
open Go.M18
abbrev tI : Nat := 3
abbrev tB : Nat := 5
def invC (last : ByteArray) (next : List Nat) (links : Value) (at_ : Nat) (out : Value) (steps : Nat) : List Value :=
 .string last :: (next.map nv ++ [links, nv at_, out, nv steps])
section
variable {last : ByteArray} {next : List Nat} {links out : Value} {at_ steps : Nat} (hn : next.length = 256)
include hn
end
def InvR (b : Nat) (last : ByteArray) (o s k : Nat) : HProp := fun h => ∃ t lv ov, Sat [blk b t (invC last (nxL last.data.toList s) lv (atK last.data.toList o (s - 2 * last.size)) ov s),
 SL nv tI lv (lnS last.data.toList s), SL bv tB ov ((outK last.data.toList o (s - 2 * last.size)).drop k)] h
variable {w : World} {L : List HProp} {K : Value → World → Prop} {b : Nat}
end U18
end Go.Proofs.YtgaiocpkjaaphaaGreatDoor
