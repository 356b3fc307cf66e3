/- Several texts in one: Sl, Sq, Sr, St, Su, M01, Mb, Mp, M10, Mc, Sv, Mz, Mk, Cl, Rb, P13, D11, C10, C14, Z07, Rc. -/
import Derived.Test.YtlppejfnjhkbpaaGreatVc
import Derived.Deep.DeepAppendRoom
import Derived.Laws.RangeString
import Derived.Lib.OthersKept
import Derived.Deep.Upon
import Derived.Laws.CopyRow
import Derived.Laws.IdiomCopy
import Derived.Laws.IdiomStrings
import Derived.WalkKit
import Derived.Test.YtlppejfnjhkbpaaGreatFm
set_option linter.unusedVariables false
set_option linter.unusedSimpArgs false
namespace Go.Vc
abbrev Hp := Nat → Option Obj
abbrev HProp := Hp → Prop
def Hp.sub (h g : Hp) : Prop := ∀ b o, h b = some o → g b = some o
def Hp.minus (h g : Hp) : Hp := fun b => if (g b).isSome = true then none else h b
def Sat : List HProp → Hp → Prop
 | [], _ => True
 | P :: L, h => ∃ g, P g ∧ g.sub h ∧ Sat L (h.minus g)
def hp (w : World) : Hp := fun b => w.heap[b]?
def Holds (w : World) (L : List HProp) : Prop := Sat L (hp w)
def blkO (b : Nat) (o : Obj) : HProp := fun h => h b = some o
def blk (b : Nat) (t : TypeId) (cs : List Value) : HProp := blkO b (.cells cs.toArray t)
def pur (p : Prop) : HProp := fun _ => p
structure Same (w w' : World) : Prop where
 os : w'.os = w.os
 tape : w'.tape = w.tape
 output : w'.output = w.output
 size : w.heap.size ≤ w'.heap.size
theorem Same.refl (w : World) : Same w w := ⟨rfl, rfl, rfl, Nat.le_refl _⟩
theorem Same.trans {a b c : World} (h : Same a b) (k : Same b c) : Same a c := ⟨k.os.trans h.os, k.tape.trans h.tape, k.output.trans h.output, Nat.le_trans h.size k.size⟩
theorem Sat.mono : ∀ {L : List HProp} {h g : Hp}, Sat L h → h.sub g → Sat L g
 | [], _, _, _, _ => trivial
 | P :: L, h, g, ⟨k, hp, hs, hL⟩, hg => ⟨k, hp, fun b o hb => hg b o (hs b o hb), hL.mono fun b o hb => by
   unfold Hp.minus at hb ⊢; split
   · rename_i h1; rw [if_pos h1] at hb; cases hb
   · rename_i h1; rw [if_neg h1] at hb; exact hg b o hb⟩
theorem Sat.swap {P Q : HProp} {L : List HProp} {h : Hp} (H : Sat (P :: Q :: L) h) : Sat (Q :: P :: L) h := by
 obtain ⟨g, hg, hgs, k, hk, hks, hL⟩ := H
 have kn : ∀ b o, k b = some o → g b = none ∧ h b = some o := fun b o hb => by
   have := hks b o hb; unfold Hp.minus at this; split at this
   · cases this
   · rename_i h1; simp at h1; exact ⟨h1, this⟩
 refine ⟨k, hk, fun b o hb => (kn b o hb).2, g, hg, fun b o hb => ?_, hL.mono fun b o hb => ?_⟩
 · unfold Hp.minus; rw [if_neg ?_]
   · exact hgs b o hb
   · intro h1; obtain ⟨x, hx⟩ := Option.isSome_iff_exists.1 h1; rw [(kn b x hx).1] at hb; cases hb
 · unfold Hp.minus at hb ⊢; split at hb
   · cases hb
   · rename_i h1; split at hb
     · cases hb
     · rename_i h2; rw [if_neg h2, if_neg h1]; exact hb
theorem Sat.pull : ∀ {L : List HProp} {h : Hp} (i : Nat) {P : HProp}, Sat L h → L[i]? = some P → Sat (P :: L.eraseIdx i) h
 | Q :: L, h, 0, P, H, hi => by simp at hi; subst hi; exact H
 | Q :: L, h, i + 1, P, ⟨g, hg, hs, hL⟩, hi => Sat.swap ⟨g, hg, hs, hL.pull i (by simpa using hi)⟩
theorem Sat.push : ∀ {L : List HProp} {h : Hp} (i : Nat) {P Q : HProp}, L[i]? = some Q → Sat (P :: L.eraseIdx i) h → Sat (L.set i P) h
 | R :: L, h, 0, P, Q, _, H => H
 | R :: L, h, i + 1, P, Q, hi, H => by
   obtain ⟨g, hg, hs, hL⟩ := Sat.swap H; exact ⟨g, hg, hs, Sat.push i (by simpa using hi) hL⟩
theorem Holds.front {w : World} {L : List HProp} (H : Holds w L) (i : Nat) {P : HProp} (hi : L[i]? = some P) : Holds w (P :: L.eraseIdx i) := Sat.pull i H hi
theorem Holds.swap {w : World} {P Q : HProp} {L : List HProp} (H : Holds w (P :: Q :: L)) : Holds w (Q :: P :: L) := Sat.swap H
theorem Holds.drop {w : World} {P : HProp} {L : List HProp} (H : Holds w (P :: L)) : Holds w L := by
 obtain ⟨g, _, _, hL⟩ := H
 exact hL.mono fun b o hb => by
   unfold Hp.minus at hb; split at hb
   · cases hb
   · exact hb
theorem Holds.dropAt {w : World} {L : List HProp} (H : Holds w L) (i : Nat) : Holds w (L.eraseIdx i) := by
 cases h : L[i]? with
 | none => rw [List.eraseIdx_of_length_le (by simpa using h)]; exact H
 | some P => exact (H.front i h).drop
theorem Sat.imp {P Q : HProp} {L : List HProp} {h : Hp} (H : Sat (P :: L) h) (hpq : ∀ h, P h → Q h) : Sat (Q :: L) h := by
 obtain ⟨g, hg, hs, hL⟩ := H; exact ⟨g, hpq _ hg, hs, hL⟩
theorem Holds.imp {P Q : HProp} {L : List HProp} {w : World} (H : Holds w (P :: L)) (hpq : ∀ h, P h → Q h) : Holds w (Q :: L) := Sat.imp H hpq
theorem Holds.ex {α : Type} {P : α → HProp} {L : List HProp} {w : World} (H : Holds w ((fun h => ∃ x, P x h) :: L)) : ∃ x, Holds w (P x :: L) := by
 obtain ⟨g, ⟨x, hx⟩, hs, hL⟩ := H; exact ⟨x, g, hx, hs, hL⟩
theorem Holds.pure {p : Prop} {P : HProp} {L : List HProp} {w : World} (H : Holds w ((fun h => p ∧ P h) :: L)) : p ∧ Holds w (P :: L) := by
 obtain ⟨g, ⟨hp, hg⟩, hs, hL⟩ := H; exact ⟨hp, g, hg, hs, hL⟩
theorem Sat.unpack : ∀ {A L : List HProp} {h : Hp}, Sat (Sat A :: L) h → Sat (A ++ L) h
 | [], L, h, ⟨g, _, _, hL⟩ => hL.mono fun b o hb => by
   unfold Hp.minus at hb; split at hb
   · cases hb
   · exact hb
 | P :: A, L, h, ⟨g, ⟨k, hk, hks, hA⟩, hgs, hL⟩ => by
   refine ⟨k, hk, fun b o hb => hgs b o (hks b o hb), Sat.unpack ⟨g.minus k, hA, fun b o hb => ?_, hL.mono fun b o hb => ?_⟩⟩
   · unfold Hp.minus at hb ⊢; split at hb
     · cases hb
     · rename_i h1; rw [if_neg h1]; exact hgs b o hb
   · unfold Hp.minus at hb ⊢; split at hb
     · cases hb
     · rename_i h1
       have h1' : g b = none := by simpa using h1
       have h2 : k b = none := by
         cases hk : k b with
         | none => rfl
         | some x => rw [hks b x hk] at h1'; cases h1'
       simp [h1', h2, hb]
theorem Sat.pack : ∀ {A L : List HProp} {h : Hp}, Sat (A ++ L) h → Sat (Sat A :: L) h
 | [], L, h, H => by
   refine ⟨fun _ => none, trivial, ?_, ?_⟩
   · intro b o hb; cases hb
   · have e : h.minus (fun _ => none) = h := by funext b; simp [Hp.minus]
     rw [e]; exact H
 | P :: A, L, h, ⟨k, hk, hks, H⟩ => by
   obtain ⟨g, hg, hgs, hL⟩ := Sat.pack H
   have gk : ∀ b o, g b = some o → k b = none ∧ h b = some o := fun b o hb => by
     have := hgs b o hb; unfold Hp.minus at this; split at this
     · cases this
     · rename_i h1; simp at h1; exact ⟨h1, this⟩
   refine ⟨fun b => (k b).or (g b), ⟨k, hk, fun b o hb => by simp [hb], hg.mono fun b o hb => ?_⟩, fun b o hb => ?_, hL.mono fun b o hb => ?_⟩
   · unfold Hp.minus; simp [(gk b o hb).1, hb]
   · cases hkb : k b with
     | none => simp [hkb] at hb; exact (gk b o hb).2
     | some x => simp [hkb] at hb; subst hb; exact hks b x hkb
   · unfold Hp.minus at hb ⊢; split at hb
     · cases hb
     · rename_i h1; split at hb
       · cases hb
       · rename_i h2; simp at h1 h2; simp [h1, h2, hb]
theorem Holds.pack {A L : List HProp} {w : World} (H : Holds w (A ++ L)) : Holds w (Sat A :: L) := Sat.pack H
theorem Holds.unpack {A L : List HProp} {w : World} (H : Holds w (Sat A :: L)) : Holds w (A ++ L) := Sat.unpack H
theorem Holds.obj {w : World} {L : List HProp} (H : Holds w L) (i : Nat) {b : Nat} {o : Obj} (hi : L[i]? = some (blkO b o)) : w.heap[b]? = some o := by
 obtain ⟨g, hg, hs, _⟩ := H.front i hi; exact hs b o hg
theorem Holds.upd {w w' : World} {L : List HProp} (H : Holds w L) (i : Nat) {b : Nat} {o o' : Obj} (hi : L[i]? = some (blkO b o)) (hb : w'.heap[b]? = some o') (ho : ∀ c, c ≠ b → w'.heap[c]? = w.heap[c]?) :
   Holds w' (L.set i (blkO b o')) := by
 obtain ⟨g, hg, hs, hL⟩ := H.front i hi; refine Sat.push i hi ⟨fun c => if c = b then some o' else none, by simp [blkO], fun c o hc => ?_, hL.mono fun c o hc => ?_⟩
 · by_cases e : c = b
   · subst e; simp at hc; subst hc; exact hb
   · simp [e] at hc
 · unfold Hp.minus at hc ⊢
   by_cases e : c = b
   · subst e; rw [if_pos (by rw [show g c = some _ from hg]; rfl)] at hc; cases hc
   · simp only [e, if_false, Option.isSome_none, Bool.false_eq_true]; split at hc
     · cases hc
     · show w'.heap[c]? = _; rw [ho c e]; exact hc
theorem Holds.new {w w' : World} {L : List HProp} (H : Holds w L) {b : Nat} {o : Obj} (hn : w.heap[b]? = none) (hb : w'.heap[b]? = some o) (ho : ∀ c, c ≠ b → w'.heap[c]? = w.heap[c]?) :
   Holds w' (blkO b o :: L) := by
 refine ⟨fun c => if c = b then some o else none, by simp [blkO], fun c x hc => ?_, Sat.mono H fun c x hc => ?_⟩
 · by_cases e : c = b
   · subst e; simp at hc; subst hc; exact hb
   · simp [e] at hc
 · unfold Hp.minus
   by_cases e : c = b
   · subst e; rw [show hp w c = none from hn] at hc; cases hc
   · simp only [e, if_false, Option.isSome_none, Bool.false_eq_true]; show w'.heap[c]? = _; rw [ho c e]; exact hc
theorem Holds.same {w w' : World} {L : List HProp} (H : Holds w L) (h : w'.heap = w.heap) : Holds w' L := by
 unfold Holds hp at *; rw [h]; exact H
theorem Holds.cell {w : World} {L : List HProp} (H : Holds w L) (i : Nat) {b : Nat} {t : TypeId} {cs : List Value} (hi : L[i]? = some (blk b t cs)) (o : Nat) : w.cell? ⟨b, o, none⟩ = cs[o]? := by
 have := H.obj i hi; simp [World.cell?, this]
theorem Holds.frozen {w : World} {L : List HProp} (H : Holds w L) (i : Nat) {b : Nat} {t : TypeId} {cs : List Value} (hi : L[i]? = some (blk b t cs)) (o : Nat) : w.frozen? ⟨b, o, none⟩ = false := by
 have := H.obj i hi; simp [World.frozen?, this]
theorem Holds.set {w : World} {L : List HProp} (H : Holds w L) (i : Nat) {b : Nat} {t : TypeId} {cs : List Value} (hi : L[i]? = some (blk b t cs)) (o : Nat) (v : Value) :
   Holds (w.setCell ⟨b, o, none⟩ v) (L.set i (blk b t (cs.set o v))) := by
 have h := H.obj i hi; refine H.upd i hi ?_ fun c hc => ?_
 · simp [World.setCell, Array.getElem?_modify, h]
 · simp only [World.setCell, Array.getElem?_modify]; rw [if_neg (by simpa using fun h => hc h.symm)]
theorem Same.setCell (w : World) (a : Addr) (v : Value) : Same w (w.setCell a v) := ⟨rfl, rfl, rfl, by simp [World.setCell]⟩
theorem Same.drew (w : World) : Same w w.drew := ⟨rfl, rfl, rfl, Nat.le_refl _⟩
theorem Same.alloc (w : World) (o : Obj) : Same w (w.alloc o) := ⟨rfl, rfl, rfl, by simp⟩
theorem Holds.alloc {w : World} {L : List HProp} (H : Holds w L) (o : Obj) : Holds (w.alloc o) (blkO w.heap.size o :: L) := by
 refine H.new (by simp) ?_ fun c hc => ?_
 · show (w.heap.push o)[w.heap.size]? = _; simp
 · show (w.heap.push o)[c]? = _; rw [Array.getElem?_push, if_neg (by omega)]
def whole (w : World) : HProp := fun h => ∀ b o, w.heap[b]? = some o → h b = some o
theorem holds_whole (w : World) : Holds w [whole w] := ⟨hp w, fun b o h => h, fun b o h => h, trivial⟩
theorem below_whole {w w' : World} (S : Same w w') {L : List HProp} (H : Holds w' (whole w :: L)) : RowKit.Below w.heap.size w w' := by
 refine ⟨S.os, S.tape, S.output, S.size, fun k hk => ?_⟩; obtain ⟨g, hg, hs, _⟩ := H; have h1 : w.heap[k]? = some w.heap[k] := Array.getElem?_eq_getElem hk; rw [h1]; exact hs k _ (hg k _ h1)
theorem calls_of_law {P : Program} {f : FuncId} {args : Array Value} {w : World} (h : ∀ K : Value → World → Prop, (∀ w', Same w w' → Holds w' [whole w] → K (.bool true) w') → Cl P f args w K) :
   Calls P f args w fun e w' => e = .returned (.bool true) ∧ RowKit.Below w.heap.size w w' :=
 (h (fun v w' => v = .bool true ∧ RowKit.Below w.heap.size w w') fun w' S H => ⟨rfl, below_whole S H⟩).2.mono fun e w' ⟨v, he, hv, hb⟩ => ⟨by rw [he, hv], hb⟩
section
variable {P : Program} {w : World} {L : List HProp}
theorem r_nc {a : Addr} {A : Prop} (h : A) : Nc (.pointer (some a)) A := ⟨⟨a, rfl⟩, h⟩
theorem r_fo {off b o : Nat} {K : Value → Prop} (h : K (.pointer (some ⟨b, o + off, none⟩))) : Fo off (.pointer (some ⟨b, o, none⟩)) K := by
 refine ⟨_, rfl, ?_⟩; unfold Addr.add; split
 · rename_i h0; subst h0; exact h
 · exact h
theorem r_fo0 {off b : Nat} {K : Value → Prop} (h : K (.pointer (some ⟨b, off, none⟩))) : Fo off (.pointer (some ⟨b, 0, none⟩)) K := r_fo (by rw [Nat.zero_add]; exact h)
theorem r_ld (i : Nat) (H : Holds w L) {b o : Nat} {t : TypeId} {cs : List Value} {v : Value} {K : Value → Prop} (hi : L[i]? = some (blk b t cs)) (hc : cs[o]? = some v) (h : K v) :
   Ld (.pointer (some ⟨b, o, none⟩)) w K := ⟨_, v, rfl, (H.cell i hi o).trans hc, h⟩
theorem r_st (i : Nat) (H : Holds w L) {b o : Nat} {t : TypeId} {cs : List Value} {v : Value} {K : World → Prop} (hi : L[i]? = some (blk b t cs)) (ho : o < cs.length) (hs : sg v = true)
   (h : ∀ w', Same w w' → Holds w' (L.set i (blk b t (cs.set o v))) → K w') : St (.pointer (some ⟨b, o, none⟩)) v w K :=
 ⟨_, cs[o], rfl, (H.cell i hi o).trans (by simp [ho]), H.frozen i hi o, hs, h _ (.setCell _ _ _) (H.set i hi o v)⟩
theorem r_new {z : Value} {t : TypeId} (H : Holds w L) {K : Value → World → Prop} (h : ∀ b w', Same w w' → Holds w' (blk b t z.cells.toList :: L) → K (.pointer (some ⟨b, 0, none⟩)) w') : New z t w K :=
 h _ _ (.alloc _ _) (H.alloc _)
theorem r_dr (H : Holds w L) {K : World → Prop} (h : ∀ w', Same w w' → Holds w' L → K w') : Dr w K := h _ (.drew _) (H.same rfl)
theorem r_vif {b : Bool} {A B : Prop} (h1 : b = true → A) (h2 : b = false → B) : Vif (.bool b) A B := by
 cases b
 · exact h2 rfl
 · exact h1 rfl
theorem r_join0 {rest : (Nat → Value) → Cur 0} {br : Cur 0 → Prop} (J : World → Prop) (hJ : ∀ jb w, J w → rest jb w) (h : br J) : VJoin 0 rest br := ⟨J, fun jb w hw => hJ jb w hw, h⟩
theorem r_join1 {rest : (Nat → Value) → Cur 1} {br : Cur 1 → Prop} (J : Value → World → Prop) (hJ : ∀ jb x w, J x w → rest jb x w) (h : br J) : VJoin 1 rest br := ⟨J, fun jb x w hw => hJ jb x w hw, h⟩
theorem r_ke {a : List Value} {X : Prop} (h : X) : KE a a X := ⟨rfl, h⟩
theorem r_loop0 {w : World} {body : (Nat → Value) → Cur 0 → Cur 0} (I : World → Prop) (μ : World → Nat) (h0 : I w)
   (h : ∀ jb w, I w → body jb (fun w' => I w' ∧ μ w' < μ w) w) : VLoop 0 [] w body :=
 ⟨fun _ w => I w, fun _ w => μ w, h0, fun jb us u hl hI => match us, hl with | [], _ => h jb u hI⟩
theorem r_loop1 {w : World} {a : Value} {body : (Nat → Value) → Cur 1 → Cur 1} (I : Value → World → Prop) (μ : Value → World → Nat) (h0 : I a w)
   (h : ∀ jb x w, I x w → body jb (fun x' w' => I x' w' ∧ μ x' w' < μ x w) x w) : VLoop 1 [a] w body :=
 ⟨fun l w => match l with | [x] => I x w | _ => False, fun l w => match l with | [x] => μ x w | _ => 0, h0, fun jb us u hl hI => match us, hl with | [x], _ => h jb x u hI⟩
theorem r_loop2 {w : World} {a b : Value} {body : (Nat → Value) → Cur 2 → Cur 2} (I : Value → Value → World → Prop) (μ : Value → Value → World → Nat) (h0 : I a b w)
   (h : ∀ jb x y w, I x y w → body jb (fun x' y' w' => I x' y' w' ∧ μ x' y' w' < μ x y w) x y w) : VLoop 2 [a, b] w body :=
 ⟨fun l w => match l with | [x, y] => I x y w | _ => False, fun l w => match l with | [x, y] => μ x y w | _ => 0, h0, fun jb us u hl hI => match us, hl with | [x, y], _ => h jb x y u hI⟩
theorem r_loop3 {w : World} {a b c : Value} {body : (Nat → Value) → Cur 3 → Cur 3} (I : Value → Value → Value → World → Prop) (μ : Value → Value → Value → World → Nat) (h0 : I a b c w)
   (h : ∀ jb x y z w, I x y z w → body jb (fun x' y' z' w' => I x' y' z' w' ∧ μ x' y' z' w' < μ x y z w) x y z w) : VLoop 3 [a, b, c] w body :=
 ⟨fun l w => match l with | [x, y, z] => I x y z w | _ => False, fun l w => match l with | [x, y, z] => μ x y z w | _ => 0, h0, fun jb us u hl hI => match us, hl with | [x, y, z], _ => h jb x y z u hI⟩
theorem wrap64 {n : Int} (h1 : -9223372036854775808 ≤ n) (h2 : n ≤ 9223372036854775807) : IntKind.i64.wrap n = n := IntWalk.i64_in n ⟨h1, h2⟩
theorem r_add {a b : Int} {K : Value → Prop} (h1 : -9223372036854775808 ≤ a + b) (h2 : a + b ≤ 9223372036854775807) (h : K (.int .i64 (a + b))) : Bp .add (.int .i64 a) (.int .i64 b) K :=
 ⟨.int .i64 (a + b), by simp only [bp, if_true]; rw [wrap64 h1 h2], h⟩
theorem r_sub {a b : Int} {K : Value → Prop} (h1 : -9223372036854775808 ≤ a - b) (h2 : a - b ≤ 9223372036854775807) (h : K (.int .i64 (a - b))) : Bp .sub (.int .i64 a) (.int .i64 b) K :=
 ⟨.int .i64 (a - b), by simp only [bp, if_true]; rw [wrap64 h1 h2], h⟩
theorem r_mul {a b : Int} {K : Value → Prop} (h1 : -9223372036854775808 ≤ a * b) (h2 : a * b ≤ 9223372036854775807) (h : K (.int .i64 (a * b))) : Bp .mul (.int .i64 a) (.int .i64 b) K :=
 ⟨.int .i64 (a * b), by simp only [bp, if_true]; rw [wrap64 h1 h2], h⟩
theorem r_quoE {a b q : Int} {K : Value → Prop} (hq : a.tdiv b = q) (hb : b ≠ 0) (h1 : -9223372036854775808 ≤ q) (h2 : q ≤ 9223372036854775807) (h : K (.int .i64 q)) : Bp .quo (.int .i64 a) (.int .i64 b) K := by
 refine ⟨.int .i64 q, ?_, h⟩; show (if IntKind.i64 = IntKind.i64 ∧ b ≠ 0 then some (Value.int .i64 (IntKind.i64.wrap (a.tdiv b))) else none) = _; rw [if_pos ⟨rfl, hb⟩, hq, wrap64 h1 h2]
theorem r_remE {a b r : Int} {K : Value → Prop} (hr : a.tmod b = r) (hb : b ≠ 0) (h : K (.int .i64 r)) : Bp .rem (.int .i64 a) (.int .i64 b) K := by
 refine ⟨.int .i64 r, ?_, h⟩; show (if IntKind.i64 = IntKind.i64 ∧ b ≠ 0 then some (Value.int .i64 (a.tmod b)) else none) = _; rw [if_pos ⟨rfl, hb⟩, hr]
theorem r_bp {op : BinOp} {x y v : Value} {K : Value → Prop} (hb : bp op x y = some v) (h : K v) : Bp op x y K := ⟨v, hb, h⟩
theorem r_eql {k : IntKind} {a b : Int} {K : Value → Prop} (h : K (.bool (a == b))) : Bp .eql (.int k a) (.int k b) K := ⟨.bool (a == b), by simp only [bp, if_true], h⟩
theorem r_neq {k : IntKind} {a b : Int} {K : Value → Prop} (h : K (.bool (a != b))) : Bp .neq (.int k a) (.int k b) K := ⟨.bool (a != b), by simp only [bp, if_true], h⟩
theorem r_lss {k : IntKind} {a b : Int} {K : Value → Prop} (h : K (.bool (decide (a < b)))) : Bp .lss (.int k a) (.int k b) K := ⟨.bool (decide (a < b)), by simp only [bp, if_true], h⟩
theorem r_leq {k : IntKind} {a b : Int} {K : Value → Prop} (h : K (.bool (decide (a ≤ b)))) : Bp .leq (.int k a) (.int k b) K := ⟨.bool (decide (a ≤ b)), by simp only [bp, if_true], h⟩
theorem r_gtr {k : IntKind} {a b : Int} {K : Value → Prop} (h : K (.bool (decide (b < a)))) : Bp .gtr (.int k a) (.int k b) K := ⟨.bool (decide (b < a)), by simp only [bp, if_true, gt_iff_lt, ge_iff_le], h⟩
theorem r_geq {k : IntKind} {a b : Int} {K : Value → Prop} (h : K (.bool (decide (b ≤ a)))) : Bp .geq (.int k a) (.int k b) K := ⟨.bool (decide (b ≤ a)), by simp only [bp, if_true, gt_iff_lt, ge_iff_le], h⟩
theorem ba_ext {a b : ByteArray} (h : a.data.toList = b.data.toList) : a = b := by
 obtain ⟨⟨a⟩⟩ := a; obtain ⟨⟨b⟩⟩ := b; simp at h; rw [h]
theorem seq_eq (a b : ByteArray) : (a.toList == b.toList) = decide (a = b) := by
 rw [Bool.eq_iff_iff, beq_iff_eq, decide_eq_true_iff, ByteArray.toList_eq, ByteArray.toList_eq]; exact ⟨ba_ext, fun h => by rw [h]⟩
theorem ba_nil (a : ByteArray) : a = ⟨#[]⟩ ↔ a.size = 0 := by
 constructor
 · rintro rfl; rfl
 · intro h; apply ba_ext
   have : a.data.toList.length = 0 := by simpa using h
   rw [List.eq_nil_of_length_eq_zero this]
theorem r_seq0 {a : ByteArray} {K : Value → Prop} (h : K (.bool (decide (a.size = 0)))) : Bp .eql (.string a) (.string ⟨#[]⟩) K :=
 ⟨_, rfl, by rw [seq_eq, show decide (a = ⟨#[]⟩) = decide (a.size = 0) from by rw [Bool.eq_iff_iff, decide_eq_true_iff, decide_eq_true_iff, ba_nil]]; exact h⟩
theorem r_sne0 {a : ByteArray} {K : Value → Prop} (h : K (.bool (decide (¬ a.size = 0)))) : Bp .neq (.string a) (.string ⟨#[]⟩) K :=
 ⟨_, rfl, by rw [seq_eq, show (!decide (a = ⟨#[]⟩)) = decide (¬ a.size = 0) from by rw [Bool.eq_iff_iff, Bool.not_eq_true', decide_eq_false_iff_not, decide_eq_true_iff, ba_nil]]; exact h⟩
theorem r_seq {a b : ByteArray} {K : Value → Prop} (h : K (.bool (decide (a = b)))) : Bp .eql (.string a) (.string b) K := ⟨_, rfl, by rw [seq_eq]; exact h⟩
theorem r_sne {a b : ByteArray} {K : Value → Prop} (h : K (.bool (!decide (a = b)))) : Bp .neq (.string a) (.string b) K := ⟨_, rfl, by rw [seq_eq]; exact h⟩
theorem r_cat {a b : ByteArray} {K : Value → Prop} (hs : a.size + b.size ≤ 9223372036854775807) (h : K (.string (a ++ b))) : Bp .add (.string a) (.string b) K := by
 refine ⟨.string (a ++ b), ?_, h⟩; simp only [bp]; rw [if_neg (by show ¬ _ > (9223372036854775807 : Int); omega)]
theorem r_not {b : Bool} {K : Value → Prop} (h : K (.bool !b)) : Up .not (.bool b) K := ⟨_, rfl, h⟩
theorem r_bnS {e : TypeId} {neg : Bool} {a : Addr} {K : Value → Prop} (h : K (.bool neg)) : Bn P e neg (.pointer (some a)) (.pointer none) K :=
 .inl ⟨false, rfl, by cases neg <;> exact h⟩
theorem r_bnN {e : TypeId} {neg : Bool} {K : Value → Prop} (h : K (.bool !neg)) : Bn P e neg (.pointer none) (.pointer none) K :=
 .inl ⟨true, rfl, by cases neg <;> exact h⟩
theorem r_vt {A B : Prop} (h : A) : Vif (.bool true) A B := h
theorem r_vf {A B : Prop} (h : B) : Vif (.bool false) A B := h
theorem r_vtd {c : Bool} {A B : Prop} (hc : c = true) (h : A) : Vif (.bool c) A B := by subst hc; exact h
theorem r_vfd {c : Bool} {A B : Prop} (hc : c = false) (h : B) : Vif (.bool c) A B := by subst hc; exact h
theorem r_vtD {p : Prop} [Decidable p] {A B : Prop} (hc : p) (h : A) : Vif (.bool (decide p)) A B := r_vtd (decide_eq_true hc) h
theorem r_vfD {p : Prop} [Decidable p] {A B : Prop} (hc : ¬ p) (h : B) : Vif (.bool (decide p)) A B := r_vfd (decide_eq_false hc) h
theorem r_vtE {a b : Int} {A B : Prop} (hc : a = b) (h : A) : Vif (.bool (a == b)) A B := r_vtd (beq_iff_eq.2 hc) h
theorem r_vfE {a b : Int} {A B : Prop} (hc : ¬ a = b) (h : B) : Vif (.bool (a == b)) A B := r_vfd (beq_eq_false_iff_ne.2 hc) h
theorem r_vtN {a b : Int} {A B : Prop} (hc : ¬ a = b) (h : A) : Vif (.bool (a != b)) A B := r_vtd (bne_iff_ne.2 hc) h
theorem r_vfN {a b : Int} {A B : Prop} (hc : a = b) (h : B) : Vif (.bool (a != b)) A B := r_vfd (by subst hc; simp) h
theorem r_ifD {p : Prop} [Decidable p] {A B : Prop} (h1 : p → A) (h2 : ¬ p → B) : Vif (.bool (decide p)) A B := r_vif (fun h => h1 (of_decide_eq_true h)) fun h => h2 (of_decide_eq_false h)
theorem r_ifE {a b : Int} {A B : Prop} (h1 : a = b → A) (h2 : ¬ a = b → B) : Vif (.bool (a == b)) A B := r_vif (fun h => h1 (beq_iff_eq.1 h)) fun h => h2 (beq_eq_false_iff_ne.1 h)
theorem r_ifN {a b : Int} {A B : Prop} (h1 : ¬ a = b → A) (h2 : a = b → B) : Vif (.bool (a != b)) A B := r_vif (fun h => h1 (bne_iff_ne.1 h)) fun h => h2 (by simpa using h)
theorem r_ifNE {a b : Int} {A B : Prop} (h1 : ¬ a = b → A) (h2 : a = b → B) : Vif (.bool (!(a == b))) A B := r_vif (fun h => h1 (by simpa using h)) fun h => h2 (by simpa using h)
theorem r_bb {neg a b : Bool} {K : Value → Prop} (h : K (.bool (if neg then !(a == b) else a == b))) : Bb neg (.bool a) (.bool b) K := ⟨a, b, rfl, rfl, h⟩
theorem r_lns {s : ByteArray} {K : Value → Prop} (h : K (.int .i64 (s.size : Int))) : Lns (.string s) K := ⟨s, rfl, h⟩
theorem r_lnl {a : Option Addr} {l c : Nat} {K : Value → Prop} (h : K (.int .i64 (l : Int))) : Lnl (.slice a l c) K := ⟨a, l, c, rfl, h⟩
theorem r_ixs {s : ByteArray} {k : IntKind} {n : Int} {K : Value → Prop} (h0 : 0 ≤ n) (h1 : n < (s.size : Int)) (h : K (.int .u8 ((s.data.toList.getD n.toNat 0).toNat : Int))) : Ixs (.string s) (.int k n) K :=
 ⟨s, k, n, rfl, rfl, h0, h1, h⟩
theorem r_iaa {len size b o : Nat} {k : IntKind} {n : Int} {K : Value → Prop} (h0 : 0 ≤ n) (h1 : n < (len : Int)) (h : K (.pointer (some ⟨b, o + n.toNat * size, none⟩))) :
   Iaa len size (.pointer (some ⟨b, o, none⟩)) (.int k n) K := by
 refine ⟨_, k, n, rfl, rfl, h0, h1, ?_⟩; unfold Addr.add; split
 · rename_i e; rw [e] at h; exact h
 · exact h
theorem r_ias {size b o l c : Nat} {k : IntKind} {n : Int} {K : Value → Prop} (h0 : 0 ≤ n) (h1 : n < (l : Int)) (h : K (.pointer (some ⟨b, o + n.toNat * size, none⟩))) :
   Ias size (.slice (some ⟨b, o, none⟩) l c) (.int k n) K := by
 refine ⟨_, l, c, k, n, rfl, rfl, h0, h1, ?_⟩; unfold Addr.add; split
 · rename_i e; rw [e] at h; exact h
 · exact h
theorem r_ex {vs : Array Value} {i : Nat} {v : Value} {K : Value → Prop} (hv : vs[i]? = some v) (h : K v) : Ex (.tuple vs) i K := ⟨vs, v, rfl, hv, h⟩
theorem r_bnST {a : Addr} {e : TypeId} {K : Value → Prop} (h : K (.bool true)) : Bn P e true (.pointer (some a)) (.pointer none) K := r_bnS h
theorem r_bnSF {a : Addr} {e : TypeId} {K : Value → Prop} (h : K (.bool false)) : Bn P e false (.pointer (some a)) (.pointer none) K := r_bnS h
theorem r_bnNT {e : TypeId} {K : Value → Prop} (h : K (.bool true)) : Bn P e false (.pointer none) (.pointer none) K := r_bnN h
theorem r_notT {K : Value → Prop} (h : K (.bool false)) : Up .not (.bool true) K := r_not h
theorem r_notF {K : Value → Prop} (h : K (.bool true)) : Up .not (.bool false) K := r_not h
theorem r_ex20 {a b : Value} {K : Value → Prop} (h : K a) : Ex (.tuple #[a, b]) 0 K := r_ex rfl h
theorem r_ex21 {a b : Value} {K : Value → Prop} (h : K b) : Ex (.tuple #[a, b]) 1 K := r_ex rfl h
theorem r_ex30 {a b c : Value} {K : Value → Prop} (h : K a) : Ex (.tuple #[a, b, c]) 0 K := r_ex rfl h
theorem r_ex31 {a b c : Value} {K : Value → Prop} (h : K b) : Ex (.tuple #[a, b, c]) 1 K := r_ex rfl h
theorem r_ex32 {a b c : Value} {K : Value → Prop} (h : K c) : Ex (.tuple #[a, b, c]) 2 K := r_ex rfl h
theorem r_ci {k k' : IntKind} {n : Int} {K : Value → Prop} (h : K (.int k (k.wrap n))) : Ci k (.int k' n) K := ⟨k', n, rfl, h⟩
theorem r_ci64 {k' : IntKind} {n : Int} {K : Value → Prop} (h1 : -9223372036854775808 ≤ n) (h2 : n ≤ 9223372036854775807) (h : K (.int .i64 n)) : Ci .i64 (.int k' n) K :=
 ⟨k', n, rfl, by rw [wrap64 h1 h2]; exact h⟩
theorem r_ciu8 {k' : IntKind} {n : Int} {K : Value → Prop} (h1 : 0 ≤ n) (h2 : n ≤ 255) (h : K (.int .u8 n)) : Ci .u8 (.int k' n) K :=
 ⟨k', n, rfl, by rw [show IntKind.u8.wrap n = n from by show n % 256 = n; omega]; exact h⟩
theorem r_ciu32 {k' : IntKind} {n : Int} {K : Value → Prop} (h1 : 0 ≤ n) (h2 : n ≤ 4294967295) (h : K (.int .u32 n)) : Ci .u32 (.int k' n) K :=
 ⟨k', n, rfl, by rw [show IntKind.u32.wrap n = n from by show n % 4294967296 = n; omega]; exact h⟩
theorem r_sst {s : ByteArray} {lo hi : Option Value} {l h : Nat} {K : Value → Prop} (hl : bnd lo 0 l) (hh : bnd hi s.size h) (h1 : l ≤ h) (h2 : h ≤ s.size) (hk : K (.string (s.extract l h))) : Sst (.string s) lo hi K :=
 ⟨s, l, h, rfl, hl, hh, h1, h2, hk⟩
theorem r_ldA (i : Nat) (H : Holds w L) {n b o : Nat} {t : TypeId} {cs : List Value} {K : Value → Prop} (sub : List Value) (hi : L[i]? = some (blk b t cs)) (hs : (cs.drop o).take n = sub) (hn : sub.length = n)
   (h : K (.agg sub.toArray)) : LdA n (.pointer (some ⟨b, o, none⟩)) w K := by
 refine ⟨_, sub.toArray, rfl, by simpa using hn, fun j v hv => ?_, h⟩
 have e1 : (⟨b, o, none⟩ : Addr).add j = ⟨b, o + j, none⟩ := by
   unfold Addr.add; split
   · rename_i h; rw [h]; rfl
   · rfl
 rw [e1, H.cell i hi]
 have hv' : sub[j]? = some v := by simpa using hv
 have hj : j < n := by rw [← hn]; exact (List.getElem?_eq_some_iff.1 hv').1
 rw [← hv', ← hs, List.getElem?_take_of_lt hj, List.getElem?_drop]
theorem r_ixa1 {len : Nat} {sub : List Value} {k : IntKind} {n : Int} {K : Value → Prop} (v : Value) (h0 : 0 ≤ n) (h1 : n < (len : Int)) (hv : sub[n.toNat]? = some v) (h : K v) : Ixa len 1 false (.agg sub.toArray) (.int k n) K :=
 ⟨_, k, n, rfl, rfl, h0, h1, v, by simpa using hv, h⟩
theorem r_ixsN {s : ByteArray} {k : IntKind} {m : Nat} {K : Value → Prop} (h1 : m < s.size) (h : K (.int .u8 ((s.data.toList.getD m 0).toNat : Int))) : Ixs (.string s) (.int k (m : Int)) K :=
 r_ixs (by omega) (by omega) (by rw [Int.toNat_natCast]; exact h)
theorem r_iaaN {len b o m : Nat} {k : IntKind} {K : Value → Prop} (h1 : m < len) (h : K (.pointer (some ⟨b, o + m, none⟩))) : Iaa len 1 (.pointer (some ⟨b, o, none⟩)) (.int k (m : Int)) K :=
 r_iaa (by omega) (by omega) (by rw [Int.toNat_natCast, Nat.mul_one]; exact h)
theorem r_add1N {a : Nat} {K : Value → Prop} (h2 : a < 9223372036854775807) (h : K (.int .i64 ((a + 1 : Nat) : Int))) : Bp .add (.int .i64 (a : Int)) (.int .i64 1) K := r_add (by omega) (by omega) h
theorem r_sub1N {a : Nat} {K : Value → Prop} (h2 : 1 ≤ a) (h3 : a < 9223372036854775807) (h : K (.int .i64 ((a - 1 : Nat) : Int))) : Bp .sub (.int .i64 (a : Int)) (.int .i64 1) K :=
 r_sub (by omega) (by omega) (by rw [show (a : Int) - 1 = ((a - 1 : Nat) : Int) by omega]; exact h)
theorem r_addN {a b : Nat} {K : Value → Prop} (h2 : a + b < 9223372036854775807) (h : K (.int .i64 ((a + b : Nat) : Int))) : Bp .add (.int .i64 (a : Int)) (.int .i64 (b : Int)) K := r_add (by omega) (by omega) h
theorem r_bd {t : TypeId} {ps : Array (Nat × Value)} {v : Value} {K : Value → Prop} (h : (Instr.build t ps).run P w = .ok v w) (k : K v) : Bd P t ps w K := ⟨v, h, k⟩
theorem r_be {op : BinOp} {t : TypeId} {X Y : Operand} {x y v : Value} {K : Value → Prop} (h : (do eqGuard op t X Y x y; binOp op t x y).run P w = .ok v w) (k : K v) : Be P op t X Y x y w K := ⟨v, h, k⟩
theorem r_max {ats : Array TypeId} {t : TypeId} {k : IntKind} {a b : Int} {K : Value → Prop} (h : K (.int k (max a b))) : Bmax P ats t #[.int k a, .int k b] w K := by
 refine ⟨.int k (if b > a then b else a), by simp [Builtin.max_, Builtin.max2, Sem.run_pure, List.foldlM], ?_⟩
 have : (if b > a then b else a) = max a b := by split <;> omega
 rw [this]; exact h
theorem r_rk {N : Node} {v : Value} {A : Prop} (h : N w fun u => u = v) (hA : A) : Rk N v w A := ⟨h, hA⟩
theorem r_cl {f : FuncId} {args : Array Value} {K K' : Value → World → Prop} (h : Cl P f args w K) (hk : ∀ v w', K v w' → K' v w') : Cl P f args w K' :=
 ⟨h.1, h.2.mono fun e w' ⟨v, he, hv⟩ => ⟨v, he, hk v w' hv⟩⟩
end
end Go.Vc
namespace Go.Vc
abbrev iv (n : Int) : Value := .int .i64 n
abbrev nv (n : Nat) : Value := .int .i64 (n : Int)
abbrev bv (c : UInt8) : Value := .int .u8 (c.toNat : Int)
abbrev uv (n : Nat) : Value := .int .u32 (n : Int)
abbrev stv (s : ByteArray) : Value := .string s
theorem Sat.at : ∀ {L : List HProp} {h : Hp} (i : Nat) {P Q : HProp}, Sat L h → L[i]? = some P → (∀ g, P g → Q g) → Sat (L.set i Q) h := by
 intro L h i P Q H hi hpq; exact Sat.push i hi ((H.pull i hi).imp hpq)
theorem Holds.at {w : World} {L : List HProp} (H : Holds w L) (i : Nat) {P Q : HProp} (hi : L[i]? = some P) (hpq : ∀ g, P g → Q g) : Holds w (L.set i Q) := Sat.at i H hi hpq
section
variable {α : Type}
def slb (f : α → Value) (e : TypeId) (oa : Option Addr) (xs : List α) (sp : List Value) : HProp :=
 match oa with
 | none => pur (xs = [] ∧ sp = [])
 | some a => fun h => a.off = 0 ∧ a.spot = none ∧ blk a.block e (xs.map f ++ sp) h
def SL (f : α → Value) (e : TypeId) (v : Value) (xs : List α) : HProp := fun h => ∃ oa sp, v = .slice oa xs.length (xs.length + sp.length) ∧ slb f e oa xs sp h
theorem Holds.open {w : World} {L : List HProp} (H : Holds w L) (i : Nat) {f : α → Value} {e : TypeId} {v : Value} {xs : List α} (hi : L[i]? = some (SL f e v xs)) :
   ∃ oa sp, v = .slice oa xs.length (xs.length + sp.length) ∧ Holds w (L.set i (slb f e oa xs sp)) := by
 obtain ⟨g, ⟨oa, sp, hv, hg⟩, hs, hL⟩ := H.front i hi; exact ⟨oa, sp, hv, Sat.push i hi ⟨g, hg, hs, hL⟩⟩
theorem Holds.close {w : World} {L : List HProp} (H : Holds w L) (i : Nat) {f : α → Value} {e : TypeId} {oa : Option Addr} {xs : List α} {sp : List Value} (hi : L[i]? = some (slb f e oa xs sp)) :
   Holds w (L.set i (SL f e (.slice oa xs.length (xs.length + sp.length)) xs)) := H.at i hi fun g hg => ⟨oa, sp, rfl, hg⟩
theorem SL_nil (f : α → Value) (e : TypeId) (h : Hp) : SL f e (.slice none 0 0) [] h := ⟨none, [], rfl, rfl, rfl⟩
theorem Holds.nilSL {w : World} {L : List HProp} (H : Holds w L) (f : α → Value) (e : TypeId) : Holds w (SL f e (.slice none 0 0) [] :: L) :=
 ⟨fun _ => none, SL_nil f e _, (fun b o h => by cases h), by
   have h0 : (hp w).minus (fun _ => none) = hp w := by funext b; simp [Hp.minus]
   rw [h0]; exact H⟩
theorem Holds.slb {w : World} {L : List HProp} (H : Holds w L) (i : Nat) {f : α → Value} {e : TypeId} {b : Nat} {xs : List α} {sp : List Value} (hi : L[i]? = some (slb f e (some ⟨b, 0, none⟩) xs sp)) :
   Holds w (L.set i (blk b e (xs.map f ++ sp))) := H.at i hi fun g hg => hg.2.2
theorem Holds.slb' {w : World} {L : List HProp} (H : Holds w L) (i : Nat) {f : α → Value} {e : TypeId} {b : Nat} {xs : List α} {sp : List Value} (hi : L[i]? = some (blk b e (xs.map f ++ sp))) :
   Holds w (L.set i (Vc.slb f e (some ⟨b, 0, none⟩) xs sp)) := H.at i hi fun g hg => ⟨rfl, rfl, hg⟩
theorem set_get {L : List HProp} {i : Nat} {P Q : HProp} (hi : L[i]? = some P) : (L.set i Q)[i]? = some Q := by
 have : i < L.length := (List.getElem?_eq_some_iff.1 hi).1; simp [this]
theorem r_ias1 (i : Nat) {w : World} {L : List HProp} (H : Holds w L) {f : α → Value} {e : TypeId} {oa : Option Addr} {xs : List α} {sp : List Value} {l c : Nat} {k : IntKind} {n : Int} {K : Value → Prop}
   (hi : L[i]? = some (Vc.slb f e oa xs sp)) (h0 : 0 ≤ n) (h1 : n < (l : Int)) (hl : l ≤ xs.length) (h : ∀ b, oa = some ⟨b, 0, none⟩ → K (.pointer (some ⟨b, n.toNat, none⟩))) : Ias 1 (.slice oa l c) (.int k n) K := by
 cases oa with
 | none =>
   obtain ⟨g, ⟨h2, _⟩, _⟩ := H.front i hi; subst h2; simp at hl; omega
 | some a =>
   obtain ⟨g, ⟨h2, h3, _⟩, _⟩ := H.front i hi; obtain ⟨b, o, s⟩ := a; simp only at h2 h3; subst h2; subst h3; refine r_ias h0 h1 ?_; simpa using h b rfl
theorem r_iasN (i : Nat) {w : World} {L : List HProp} (H : Holds w L) {f : α → Value} {e : TypeId} {oa : Option Addr} {xs : List α} {sp : List Value} {l c : Nat} {k : IntKind} {m : Nat} {K : Value → Prop}
   (hi : L[i]? = some (Vc.slb f e oa xs sp)) (h1 : m < l) (hl : l ≤ xs.length) (h : ∀ b, oa = some ⟨b, 0, none⟩ → K (.pointer (some ⟨b, m, none⟩))) : Ias 1 (.slice oa l c) (.int k (m : Int)) K :=
 r_ias1 i H hi (by omega) (by omega) hl (by rw [Int.toNat_natCast]; exact h)
theorem r_ldsl (i : Nat) {w : World} {L : List HProp} (H : Holds w L) {f : α → Value} {e : TypeId} {b o : Nat} {xs : List α} {sp : List Value} {x : α} {K : Value → Prop}
   (hi : L[i]? = some (Vc.slb f e (some ⟨b, 0, none⟩) xs sp)) (hx : xs[o]? = some x) (h : K (f x)) : Ld (.pointer (some ⟨b, o, none⟩)) w K := by
 have hlt : o < xs.length := (List.getElem?_eq_some_iff.1 hx).1; refine r_ld i (H.slb i hi) (set_get hi) (v := f x) ?_ h; rw [List.getElem?_append_left (by simpa using hlt), List.getElem?_map, hx]; rfl
theorem r_stsl (i : Nat) {w : World} {L : List HProp} (H : Holds w L) {f : α → Value} {e : TypeId} {b o : Nat} {xs : List α} {sp : List Value} {v : Value} {K : World → Prop} (x : α)
   (hi : L[i]? = some (Vc.slb f e (some ⟨b, 0, none⟩) xs sp)) (ho : o < xs.length) (hv : v = f x) (hs : sg v = true) (h : ∀ w', Same w w' → Holds w' (L.set i (Vc.slb f e (some ⟨b, 0, none⟩) (xs.set o x) sp)) → K w') :
   St (.pointer (some ⟨b, o, none⟩)) v w K := by
 subst hv; refine r_st i (H.slb i hi) (set_get hi) (by simp; omega) hs fun w' S H' => h w' S ?_
 have h1 := H'.slb' (f := f) (xs := xs.set o x) (sp := sp) i (b := b) (e := e) (by
   rw [List.set_set, List.set_append_left _ _ (by simpa using ho)]
   rw [set_get hi, ← List.map_set])
 simpa [List.set_set] using h1
end
theorem r_ssl0 {size : Nat} {a : Option Addr} {n c i : Nat} {k : IntKind} {K : Value → Prop} (h1 : i ≤ c) (h : K (.slice a i c)) : Ssl size (.slice a n c) none (some (.int k (i : Int))) K := by
 refine ⟨a, n, c, 0, i, rfl, rfl, ⟨k, rfl⟩, Nat.zero_le _, h1, ?_⟩
 have e : (if c = 0 then a else a.map (·.add (0 * size))) = a := by
   split
   · rfl
   · cases a with
     | none => rfl
     | some x => simp [Addr.add]
 rw [e, Nat.sub_zero, Nat.sub_zero]; exact h
theorem ext1 {s : ByteArray} {m : Nat} (h : m < s.size) : s.extract m (m + 1) = ⟨[s.data.toList.getD m 0].toArray⟩ := by
 apply ByteArray.ext; apply Array.ext'; rw [ByteArray.data_extract, Array.toList_extract]
 have hd : m < s.data.toList.length := by simpa using h
 rw [List.extract_eq_take_drop, List.drop_eq_getElem_cons hd, Nat.add_sub_cancel_left, List.take_succ_cons, List.take_zero, List.getD_eq_getElem?_getD, List.getElem?_eq_getElem hd]; rfl
theorem r_sst1 {s : ByteArray} {k k' : IntKind} {m : Nat} {K : Value → Prop} (h1 : m < s.size) (h : K (.string ⟨[s.data.toList.getD m 0].toArray⟩)) : Sst (.string s) (some (.int k (m : Int))) (some (.int k' ((m + 1 : Nat) : Int))) K :=
 r_sst ⟨k, rfl⟩ ⟨k', rfl⟩ (by omega) (by omega) (by rw [ext1 h1]; exact h)
theorem r_catL {xs ys : List UInt8} {K : Value → Prop} (hs : xs.length + ys.length ≤ 9223372036854775807) (h : K (.string ⟨(xs ++ ys).toArray⟩)) : Bp .add (.string ⟨xs.toArray⟩) (.string ⟨ys.toArray⟩) K :=
 r_cat (by simpa [ByteArray.size] using by omega) (by
   have e : (⟨xs.toArray⟩ : ByteArray) ++ ⟨ys.toArray⟩ = ⟨(xs ++ ys).toArray⟩ := by
     apply ByteArray.ext; rw [ByteArray.data_append]; simp
   rw [e]; exact h)
def setL (cs : List Value) (o : Nat) : List Value → List Value
 | [] => cs
 | v :: r => setL (cs.set o v) (o + 1) r
theorem setL_len : ∀ (vs cs : List Value) (o : Nat), (setL cs o vs).length = cs.length
 | [], _, _ => rfl
 | v :: r, cs, o => by rw [setL, setL_len r, List.length_set]
theorem Same.setCells : ∀ (vs : List Value) (w : World) (a : Addr) (i : Nat), Same w (setCells w a vs i)
 | [], w, _, _ => .refl w
 | v :: r, w, a, i => (Same.setCell w _ v).trans (Same.setCells r _ a (i + 1))
theorem Holds.setCells (i : Nat) {b o : Nat} {t : TypeId} : ∀ (vs : List Value) {w : World} {L : List HProp} {cs : List Value} (k : Nat) (_ : Holds w L) (_ : L[i]? = some (blk b t cs)),
   Holds (Vc.setCells w ⟨b, o, none⟩ vs k) (L.set i (blk b t (setL cs (o + k) vs)))
 | [], w, L, cs, k, H, hi => by
   rw [setL]
   have : L.set i (blk b t cs) = L := by
     apply List.ext_getElem?; intro j; rw [List.getElem?_set]; split
     · rename_i e; subst e; rw [hi]; split
       · rfl
       · rename_i h; rw [List.getElem?_eq_none (by omega)] at hi; cases hi
     · rfl
   rw [this]; exact H
 | v :: r, w, L, cs, k, H, hi => by
   rw [Vc.setCells, setL]
   have e1 : (⟨b, o, none⟩ : Addr).add k = ⟨b, o + k, none⟩ := by
     unfold Addr.add; split
     · rename_i h; rw [h]; rfl
     · rfl
   rw [e1]; have H2 := H.set i hi (o + k) v; have := Holds.setCells (o := o) i r (k + 1) H2 (set_get hi); rw [List.set_set] at this; exact this
theorem r_stA (i : Nat) {w : World} {L : List HProp} (H : Holds w L) {n b o : Nat} {t : TypeId} {cs vs : List Value} {K : World → Prop} (hi : L[i]? = some (blk b t cs)) (ho : o + n ≤ cs.length) (hn : vs.length = n) (hs : vs.all sg = true)
   (h : ∀ w', Same w w' → Holds w' (L.set i (blk b t (setL cs o vs))) → K w') : StA n (.pointer (some ⟨b, o, none⟩)) (.agg vs.toArray) w K := by
 refine ⟨_, vs.toArray, rfl, rfl, by simpa using hn, fun j hj => ?_, by simpa using hs, ?_⟩
 · have e1 : (⟨b, o, none⟩ : Addr).add j = ⟨b, o + j, none⟩ := by
     unfold Addr.add; split
     · rename_i h; rw [h]; rfl
     · rfl
   rw [e1]; refine ⟨?_, H.frozen i hi (o + j)⟩; rw [H.cell i hi (o + j), List.getElem?_eq_getElem (by omega)]; rfl
 · exact h _ (.setCells _ _ _ _) (Holds.setCells i vs 0 H hi)
theorem drop_ext {s : ByteArray} {m : Nat} : s.extract m s.size = ⟨(s.data.toList.drop m).toArray⟩ := by
 apply ByteArray.ext; apply Array.ext'; rw [ByteArray.data_extract, Array.toList_extract, List.extract_eq_take_drop]; rw [List.take_of_length_le (by simp)]
theorem take_ext {s : ByteArray} {m : Nat} : s.extract 0 m = ⟨(s.data.toList.take m).toArray⟩ := by
 apply ByteArray.ext; apply Array.ext'; rw [ByteArray.data_extract, Array.toList_extract, List.extract_eq_take_drop, Nat.sub_zero, List.drop_zero]
theorem r_sstD {s : ByteArray} {k : IntKind} {m : Nat} {K : Value → Prop} (h1 : m ≤ s.size) (h : K (.string ⟨(s.data.toList.drop m).toArray⟩)) : Sst (.string s) (some (.int k (m : Int))) none K :=
 r_sst ⟨k, rfl⟩ rfl h1 (Nat.le_refl _) (by rw [drop_ext]; exact h)
theorem r_sstT {s : ByteArray} {k : IntKind} {m : Nat} {K : Value → Prop} (h1 : m ≤ s.size) (h : K (.string ⟨(s.data.toList.take m).toArray⟩)) : Sst (.string s) none (some (.int k (m : Int))) K :=
 r_sst rfl ⟨k, rfl⟩ (Nat.zero_le _) h1 (by rw [take_ext]; exact h)
theorem ba_inj {xs ys : List UInt8} : (⟨xs.toArray⟩ : ByteArray) = ⟨ys.toArray⟩ ↔ xs = ys := by
 constructor
 · intro h; have := congrArg (fun b : ByteArray => b.data.toList) h; simpa using this
 · rintro rfl; rfl
theorem r_seqL {xs ys : List UInt8} {K : Value → Prop} (h : K (.bool (decide (xs = ys)))) : Bp .eql (.string ⟨xs.toArray⟩) (.string ⟨ys.toArray⟩) K :=
 r_seq (by rw [show decide ((⟨xs.toArray⟩ : ByteArray) = ⟨ys.toArray⟩) = decide (xs = ys) from by rw [Bool.eq_iff_iff, decide_eq_true_iff, decide_eq_true_iff, ba_inj]]; exact h)
theorem r_ldP {p : Addr} {w : World} {v : Value} {K : Value → Prop} (hc : w.cell? p = some v) (hk : K v) : Ld (.pointer (some p)) w K := ⟨p, v, rfl, hc, hk⟩
class Row (P : Program) (t : TypeId) (e : outParam TypeId) (z : outParam Value) : Prop where
 und : P.underlying t = some (.slice e)
 inf : ∃ i, P.info? e = some i ∧ i.size = 1 ∧ i.bytes ≤ 32 ∧ i.zero = some z
 one : z.cells = #[z]
section
variable {α : Type} {P : Program} {w : World} {L : List HProp}
theorem r_ms {t e : TypeId} {z : Value} [hr : Row P t e z] (H : Holds w L) {f : α → Value} {x : α} (hz : z = f x) {k k' : IntKind} {n : Int} {K : Value → World → Prop} (h0 : 0 ≤ n) (h1 : n ≤ 1099511627776)
   (h : ∀ b w', Same w w' → Holds w' (slb f e (some ⟨b, 0, none⟩) (List.replicate n.toNat x) [] :: L) → K (.slice (some ⟨b, 0, none⟩) n.toNat n.toNat) w') : Ms P t (.int k n) (.int k' n) w K := by
 obtain ⟨i, hi, hsz, hby, hzz⟩ := hr.inf
 have hrun := run_make (P := P) w t e i z hr.und hi hzz k k' n n h0 (Int.le_refl _) (by
   have : (i.bytes : Int) * n ≤ 32 * n := Int.mul_le_mul_of_nonneg_right (by omega) h0
   omega) (by omega)
 refine ⟨_, _, hrun, h _ _ (.alloc _ _) ?_⟩
 have hc : madeCells z.cells (n.toNat * i.size) = ((List.replicate n.toNat x).map f).toArray := by
   rw [hsz, Nat.mul_one, hr.one]; apply Array.ext
   · simp [madeCells]
   · intro j h1 h2; simp [madeCells, hz, Nat.mod_one]
 have := H.alloc (.cells (madeCells z.cells (n.toNat * i.size)) e); rw [hc] at this ⊢; refine Holds.imp this fun g hg => ⟨rfl, rfl, ?_⟩; rw [List.append_nil]; exact hg
theorem r_bs1 {t e : TypeId} {z : Value} [hr : Row P t e z] (H : Holds w L) {v : Value} {K : Value → World → Prop} (hs : sg v = true)
   (h : ∀ b w', Same w w' → Holds w' (blk b e [v] :: L) → K (.slice (some ⟨b, 0, none⟩) 1 1) w') : Bs P t 1 #[(0, v)] w K := by
 obtain ⟨i, hi, hsz, hby, hzz⟩ := hr.inf
 have hcells : v.cells = #[v] := by cases v <;> first | rfl | simp [sg] at hs
 refine ⟨.slice (some ⟨w.heap.size, 0, none⟩) 1 1, w.alloc (.cells #[v] e), ?_, h _ _ (.alloc _ _) (H.alloc _)⟩
 have hc : (Array.map (fun x => [z][x % 1]?.getD default) (Array.range 1)).setIfInBounds 0 v = #[v] := by
   apply Array.ext
   · simp
   · intro j h1 h2
     have : j = 0 := by simpa using h2
     subst this; simp
 simp [Instr.buildSlice, run_underlying hr.und, sizeOf, typeInfo, hi, hsz, zeroValue, hzz, Instr.fill, hcells, newRow, newObj, hr.one]; rw [hc]; rfl
theorem sg_one {v : Value} (h : sg v = true) : v.oneCell' = true := by
 cases v <;> first | rfl | simp [sg] at h
theorem r_ap {t e : TypeId} {z : Value} [hr : Row P t e z] (H : Holds w L) (i j : Nat) {f : α → Value} {oa : Option Addr} {xs ys : List α} {sp : List Value} {l c m c' b2 : Nat} {cs : List Value} {ty : TypeId} {K : Value → World → Prop}
   (hi : L[i]? = some (slb f e oa xs sp)) (hj : L[j]? = some (blk b2 e cs)) (hcs : cs.take m = ys.map f) (hm : m = ys.length) (hl : l = xs.length) (hc : c = xs.length + sp.length) (hs : ∀ y, sg (f y) = true)
   (hn : xs.length + ys.length ≤ 1099511627776) (hne : 0 < ys.length)
   (h : ∀ oa' sp' w', Same w w' → Holds w' (L.set i (slb f e oa' (xs ++ ys) sp')) → K (.slice oa' (xs.length + ys.length) (xs.length + ys.length + sp'.length)) w') :
   Ap P #[t, t] ty #[.slice oa l c, .slice (some ⟨b2, 0, none⟩) m c'] w K := by
 subst hl hc hm; obtain ⟨inf, hinf, hsz, hby, hzz⟩ := hr.inf
 have hnews : ∀ k u, (ys.map f)[k]? = some u → w.cell? ((⟨b2, 0, none⟩ : Addr).add k) = some u := by
   intro k u hu
   have e1 : (⟨b2, 0, none⟩ : Addr).add k = ⟨b2, k, none⟩ := by
     unfold Addr.add; split
     · rename_i h; rw [h]
     · simp
   rw [e1, H.cell j hj k]
   have hk : k < ys.length := by have := (List.getElem?_eq_some_iff.1 hu).1; simpa using this
   rw [← hu, ← hcs, List.getElem?_take_of_lt hk]
 have hmul : (xs.length + ys.length) * inf.bytes ≤ 140737488355328 :=
   Nat.le_trans (Nat.mul_le_mul_left _ hby) (by omega)
 have grow : ∀ (b : Addr) (olds : List Value), olds = xs.map f → (∀ k v, olds[k]? = some v → w.cell? (b.add k) = some v) → sp.length < ys.length →
     (∃ o, L[i]? = some o) → Ap P #[t, t] ty #[.slice (some b) xs.length (xs.length + sp.length), .slice (some ⟨b2, 0, none⟩) ys.length c'] w K := by
   intro b olds ho hold hg _; subst ho
   have hrun := run_append_grow (P := P) w t ty e inf z hr.und hinf hzz b xs.length (xs.length + sp.length) (xs.map f) (by simp [hsz]) hold
     ⟨b2, 0, none⟩ ys.length c' (ys.map f) (by simp [hsz]) hnews (by omega) (by omega) (growslice_fits (by omega) hmul)
   refine ⟨_, _, hrun, ?_⟩; have hcap := grownCap_ge w (xs.length + ys.length) (xs.length + sp.length) e; generalize grownCap w (xs.length + ys.length) (xs.length + sp.length) e = cap at hcap ⊢
   have hz2 : Builtin.zeroCells z.cells (cap - (xs.length + ys.length)) = (List.replicate (cap - (xs.length + ys.length)) z).toArray := by
     rw [hr.one]; apply Array.ext
     · simp [Builtin.zeroCells]
     · intro j h1 h2; simp [Builtin.zeroCells, Nat.mod_one]
   have hcells : ((xs.map f).toArray ++ (ys.map f).toArray ++ Builtin.zeroCells z.cells (cap - (xs.length + ys.length))) = ((xs ++ ys).map f ++ List.replicate (cap - (xs.length + ys.length)) z).toArray := by
     rw [hz2]; simp
   rw [hcells]; have H1 : Holds w.drew L := H.same rfl; have H2 := H1.alloc (.cells ((xs ++ ys).map f ++ List.replicate (cap - (xs.length + ys.length)) z).toArray e)
   have H3 : Holds (w.drew.alloc (.cells ((xs ++ ys).map f ++ List.replicate (cap - (xs.length + ys.length)) z).toArray e)) (L.set i (slb f e (some ⟨w.heap.size, 0, none⟩) (xs ++ ys) (List.replicate (cap - (xs.length + ys.length)) z))) := by
     -- the new block in the place of the old row
     have H4 := (Holds.imp H2 (Q := slb f e (some ⟨w.heap.size, 0, none⟩) (xs ++ ys) (List.replicate (cap - (xs.length + ys.length)) z)) fun g hg => ⟨rfl, rfl, hg⟩); have H5 := H4.dropAt (i + 1); rw [List.eraseIdx_cons_succ] at H5; exact Sat.push i hi H5
   have := h (some ⟨w.heap.size, 0, none⟩) (List.replicate (cap - (xs.length + ys.length)) z) _ ((Same.drew w).trans (.alloc _ _)) H3
   have hc2 : xs.length + ys.length + (List.replicate (cap - (xs.length + ys.length)) z).length = cap := by simp; omega
   rw [hc2] at this; exact this
 cases oa with
 | none =>
   obtain ⟨g, ⟨h2, h3⟩, _⟩ := H.front i hi; subst h2; subst h3; simp only [List.length_nil, Nat.zero_add, List.nil_append] at hn hmul h ⊢; have hrun := run_append_nil (P := P) w t ty e inf z hr.und hinf hzz ⟨b2, 0, none⟩ ys.length c' (ys.map f) (by simp [hsz]) hnews (by omega) (by omega) (by omega); refine ⟨_, _, hrun, ?_⟩; have hcap := grownCap_ge w ys.length 0 e; generalize grownCap w ys.length 0 e = cap at hcap ⊢
   have hz2 : Builtin.zeroCells z.cells (cap - ys.length) = (List.replicate (cap - ys.length) z).toArray := by
     rw [hr.one]; apply Array.ext
     · simp [Builtin.zeroCells]
     · intro j h1 h2; simp [Builtin.zeroCells, Nat.mod_one]
   have hcells : ((ys.map f).toArray ++ Builtin.zeroCells z.cells (cap - ys.length)) = (ys.map f ++ List.replicate (cap - ys.length) z).toArray := by
     rw [hz2]; simp
   rw [hcells]; have H2 := (H.same (w' := w.drew) rfl).alloc (.cells (ys.map f ++ List.replicate (cap - ys.length) z).toArray e); have H4 := (Holds.imp H2 (Q := slb f e (some ⟨w.heap.size, 0, none⟩) ys (List.replicate (cap - ys.length) z)) fun g hg => ⟨rfl, rfl, hg⟩); have H5 := H4.dropAt (i + 1); rw [List.eraseIdx_cons_succ] at H5; have := h (some ⟨w.heap.size, 0, none⟩) (List.replicate (cap - ys.length) z) _ ((Same.drew w).trans (.alloc _ _)) (Sat.push i hi H5)
   have hc2 : ys.length + (List.replicate (cap - ys.length) z).length = cap := by simp; omega
   rw [hc2] at this; exact this
 | some a =>
   obtain ⟨g, ⟨h2, h3, _⟩, _⟩ := H.front i hi; obtain ⟨b, o, s⟩ := a; simp only at h2 h3; subst h2; subst h3; have Hb := H.slb i hi; have hgi : (L.set i (blk b e (xs.map f ++ sp)))[i]? = some (blk b e (xs.map f ++ sp)) := set_get hi
   have hold : ∀ k v, (xs.map f)[k]? = some v → w.cell? ((⟨b, 0, none⟩ : Addr).add k) = some v := by
     intro k v hv
     have e1 : (⟨b, 0, none⟩ : Addr).add k = ⟨b, k, none⟩ := by
       unfold Addr.add; split
       · rename_i h; rw [h]
       · simp
     rw [e1, Hb.cell i hgi k, List.getElem?_append_left (by simpa using (List.getElem?_eq_some_iff.1 hv).1)]; exact hv
   rcases Nat.lt_or_ge sp.length ys.length with hg | hg
   · exact grow ⟨b, 0, none⟩ _ rfl hold hg ⟨_, hi⟩
   · have hobj := Hb.obj i hgi
     have hrun := run_append_room (P := P) w t ty e inf hr.und hinf b xs.length (xs.length + sp.length) (xs.map f ++ sp).toArray hobj
       ⟨b2, 0, none⟩ ys.length c' (ys.map f) (by simp [hsz]) hnews (by simpa using fun y _ => sg_one (hs y)) (by omega) (by simp [hsz]; omega)
     refine ⟨_, _, hrun, ?_⟩
     have hcells : (((xs.map f ++ sp).toArray.toList.take (xs.length * inf.size) ++ ys.map f ++ (xs.map f ++ sp).toArray.toList.drop (xs.length * inf.size + (ys.map f).length)).toArray) = ((xs ++ ys).map f ++ sp.drop ys.length).toArray := by
       rw [hsz]; simp [List.take_append, List.drop_append]
     rw [hcells]
     have H3 : Holds (w.setRow b ((xs ++ ys).map f ++ sp.drop ys.length).toArray) (L.set i (slb f e (some ⟨b, 0, none⟩) (xs ++ ys) (sp.drop ys.length))) := by
       have := Hb.upd (w' := w.setRow b ((xs ++ ys).map f ++ sp.drop ys.length).toArray) i hgi (o' := .cells ((xs ++ ys).map f ++ sp.drop ys.length).toArray e) (setRow_heap w b _ _ e _ hobj) fun c hc => setRow_other w b c _ hc; have h4 := Holds.slb' (f := f) (e := e) (b := b) (xs := xs ++ ys) (sp := sp.drop ys.length) this i (by rw [List.set_set]; exact set_get hi); simpa [List.set_set] using h4
     have hlen : xs.length + sp.length = xs.length + ys.length + (sp.drop ys.length).length := by simp; omega
     rw [hlen]; exact h _ _ _ ⟨rfl, rfl, rfl, by simp⟩ H3
theorem r_app1 {t e : TypeId} {z : Value} [hr : Row P t e z] (H : Holds w L) (i : Nat) {f : α → Value} {v : Value} {xs : List α} {ty : TypeId} {K : Value → World → Prop}
   (hi : L[i]? = some (SL f e v xs)) (x : α) (hs : ∀ y, sg (f y) = true) (hn : xs.length + 1 ≤ 1099511627776)
   (h : ∀ v' w', Same w w' → Holds w' (L.set i (SL f e v' (xs ++ [x]))) → K v' w') : Bs P t 1 #[(0, f x)] w fun y w2 => Ap P #[t, t] ty #[v, y] w2 K := by
 obtain ⟨oa, sp, rfl, H1⟩ := H.open i hi; refine r_bs1 H1 (hs x) fun b3 w3 S3 H3 => ?_; refine r_ap (f := f) (ys := [x]) H3 (i + 1) 0 (xs := xs) (sp := sp) (by rw [List.getElem?_cons_succ]; exact set_get hi) rfl rfl rfl rfl rfl hs (by rw [List.length_singleton]; omega) (by simp) fun oa' sp' w4 S4 H4 => ?_; rw [List.set_cons_succ, List.set_set] at H4; have H5 := H4.drop.close i (set_get hi); rw [List.set_set] at H5
 have e : xs.length + [x].length = (xs ++ [x]).length := by simp
 rw [e]; exact h _ _ (S3.trans S4) H5
theorem foldl_push (l : List UInt8) : ∀ (s : ByteArray), (l.map fun c => (c.toNat : Int)).foldl (fun r n => r.push (UInt8.ofNat n.toNat)) s = ⟨(s.data.toList ++ l).toArray⟩ := by
 induction l with
 | nil => intro s; simp
 | cons c l ih =>
   intro s; rw [List.map_cons, List.foldl_cons, ih]; simp [ByteArray.push]
class Bytes (P : Program) (t e d : TypeId) : Prop where
 und : P.underlying t = some (.slice e)
 el : P.underlying e = some (.int .u8)
 str : P.underlying d = some .string
theorem r_cbs {t e d : TypeId} [hr : Bytes P t e d] (H : Holds w L) (i : Nat) {oa : Option Addr} {xs : List UInt8} {sp : List Value} {l c : Nat} {K : Value → World → Prop}
   (hi : L[i]? = some (slb bv e oa xs sp)) (hl : l = xs.length) (h : K (.string ⟨xs.toArray⟩) w) : Cw P t d (.slice oa l c) w K := by
 subst hl
 cases oa with
 | none =>
   obtain ⟨g, ⟨h2, h3⟩, _⟩ := H.front i hi; subst h2; refine ⟨.string ⟨[].toArray⟩, w, ?_, h⟩; rw [run_convert_bytes_string (P := P) w t d e none _ c hr.und hr.el hr.str]; rfl
 | some a =>
   obtain ⟨g, ⟨h2, h3, _⟩, _⟩ := H.front i hi; obtain ⟨b, o, s⟩ := a; simp only at h2 h3; subst h2; subst h3; have Hb := H.slb i hi; refine ⟨_, w, ?_, h⟩; rw [run_convert_bytes_string (P := P) w t d e _ _ c hr.und hr.el hr.str]
   have hload : (loadCells (⟨b, 0, none⟩ : Addr) xs.length).run P w = .ok ((xs.map fun c => (c.toNat : Int)).map (Value.int .u8)).toArray w := by
     have hcells : ((xs.map fun c => (c.toNat : Int)).map (Value.int .u8)) = xs.map bv := by rw [List.map_map]; rfl
     rw [hcells]
     have := run_loadCells (P := P) (w := w) (a := ⟨b, 0, none⟩) (cs := (xs.map bv).toArray) (fun j v hv => by
       have e1 : (⟨b, 0, none⟩ : Addr).add j = ⟨b, j, none⟩ := by
         unfold Addr.add; split
         · rename_i h; rw [h]
         · simp
       rw [e1, Hb.cell i (set_get hi) j]
       have hv' : (xs.map bv)[j]? = some v := by simpa using hv
       rw [List.getElem?_append_left (List.getElem?_eq_some_iff.1 hv').1]
       exact hv')
     simpa using this
   rw [run_bytesToString (P := P) w _ xs.length c _ hload, foldl_push]; simp
end
end Go.Vc
namespace Go.Vc
variable {P : Program} {w : World} {L : List HProp}
def itPos (w : World) (b : Nat) : Nat := match w.heap[b]? with
 | some (.stringIter _ p) => p
 | _ => 0
theorem r_bsK {t e : TypeId} {n : Nat} {ps : Array (Nat × Value)} {K : Value → World → Prop} (cells : List Value) (H : Holds w L)
   (h : (Instr.buildSlice t n ps).run P w = .ok (.slice (some ⟨w.heap.size, 0, none⟩) n n) (w.alloc (.cells cells.toArray e)))
   (k : ∀ b w', Same w w' → Holds w' (blk b e cells :: L) → K (.slice (some ⟨b, 0, none⟩) n n) w') : Bs P t n ps w K :=
 ⟨_, _, h, k _ _ (.alloc _ _) (H.alloc _)⟩
theorem SL_of_blk (i : Nat) {α : Type} {f : α → Value} {e : TypeId} {b : Nat} (xs : List α) (H : Holds w L) (hi : L[i]? = some (blk b e (xs.map f))) : Holds w (L.set i (SL f e (.slice (some ⟨b, 0, none⟩) xs.length xs.length) xs)) :=
 H.at i hi fun g hg => ⟨some ⟨b, 0, none⟩, [], by simp, rfl, rfl, by simpa using hg⟩
theorem r_inv {m : Sem Next} {f : FuncId} {args : Array Value} {K : Value → World → Prop} (h : m.run P w = .ok (.enter f args) w) (k : Cl P f args w K) : Inv P m w K := ⟨f, args, h, k.2⟩
theorem r_shl1 {b : Nat} {k : IntKind} {K : Value → Prop} (hb : b ≤ 62) (h : K (.int .i64 ((2 ^ b : Nat) : Int))) : Bp .shl (.int .i64 1) (.int k (b : Int)) K := by
 refine ⟨.int .i64 ((2 ^ b : Nat) : Int), ?_, h⟩; have h1 : (2 ^ b : Nat) ≤ 2 ^ 62 := Nat.pow_le_pow_right (by omega) hb; have h2 : IntKind.i64.bits = 64 := rfl; simp only [bp]; rw [if_neg (by omega), Int.toNat_natCast, h2, Nat.min_eq_left (by omega), Int.one_mul]
 congr 2
 have h3 : ((2 : Int) ^ b) = ((2 ^ b : Nat) : Int) := by simp
 rw [h3]; clear h; generalize (2 ^ b : Nat) = x at h1 ⊢; exact wrap64 (by omega) (by omega)
theorem r_ciu64 {k' : IntKind} {n : Int} {K : Value → Prop} (h1 : 0 ≤ n) (h2 : n < 18446744073709551616) (h : K (.int .u64 n)) : Ci .u64 (.int k' n) K := by
 have : Ci .u64 (.int k' n) K := r_ci (by rw [show IntKind.u64.wrap n = n from by show n % 18446744073709551616 = n; omega]; exact h); exact this
theorem wrapU32 {z : Int} (h1 : 0 ≤ z) (h2 : z < 4294967296) : IntKind.u32.wrap z = z := by show z % 4294967296 = z; omega
theorem wrapU8 {z : Int} (h1 : 0 ≤ z) (h2 : z < 256) : IntKind.u8.wrap z = z := by show z % 256 = z; omega
theorem r_shrU {s n : Nat} {k k' : IntKind} {K : Value → Prop} (hn : n ≤ k.bits) (h : K (.int k ((s / 2 ^ n : Nat) : Int))) : Bp .shr (.int k (s : Int)) (.int k' (n : Int)) K := by
 refine ⟨_, ?_, h⟩; simp only [bp]
 rw [if_neg (by omega), Int.toNat_natCast, Nat.min_eq_left hn, Int.fdiv_eq_ediv_of_nonneg _ (by
   have : (0 : Int) ≤ ((2 ^ n : Nat) : Int) := Int.natCast_nonneg _
   simpa using this)]
 simp
theorem r_shlU32 {s n : Nat} {k' : IntKind} {K : Value → Prop} (hn : n ≤ 32) (h : K (.int .u32 ((s * 2 ^ n % 4294967296 : Nat) : Int))) : Bp .shl (.int .u32 (s : Int)) (.int k' (n : Int)) K := by
 refine ⟨_, ?_, h⟩; have hb : IntKind.u32.bits = 32 := rfl; simp only [bp]; rw [if_neg (by omega), Int.toNat_natCast, hb, Nat.min_eq_left hn]; show some (Value.int .u32 ((s : Int) * 2 ^ n % 4294967296)) = _; simp
theorem r_xorU32 {s t : Nat} {K : Value → Prop} (hs : s < 4294967296) (ht : t < 4294967296) (h : K (.int .u32 ((s ^^^ t : Nat) : Int))) : Bp .xor (.int .u32 (s : Int)) (.int .u32 (t : Int)) K := by
 refine ⟨_, ?_, h⟩; have hb : IntKind.u32.bits = 32 := rfl; have hx : s ^^^ t < 2 ^ 32 := Nat.xor_lt_two_pow (by simpa using hs) (by simpa using ht); simp only [bp, if_true]; rw [hb, BitVec.toNat_xor, BitVec.toNat_ofInt, BitVec.toNat_ofInt]
 have e1 : ((s : Int) % ((2 ^ 32 : Nat) : Int)).toNat = s := by omega
 have e2 : ((t : Int) % ((2 ^ 32 : Nat) : Int)).toNat = t := by omega
 rw [e1, e2, wrapU32 (by omega) (by omega)]
theorem r_mulU32 {s t : Nat} {K : Value → Prop} (h1 : s * t < 4294967296) (h : K (.int .u32 ((s * t : Nat) : Int))) : Bp .mul (.int .u32 (s : Int)) (.int .u32 (t : Int)) K := by
 refine ⟨_, ?_, h⟩; simp only [bp, if_true]; rw [← Int.natCast_mul, wrapU32 (by omega) (by omega)]
def filled {α : Type} (xs : List α) (z : α) (n i : Nat) : List α := xs.take i ++ List.replicate (n - i) z
theorem filled_len {α : Type} {xs : List α} {z : α} {n i : Nat} (hi : i ≤ n) (hn : xs.length = n) : (filled xs z n i).length = n := by simp [filled, hn]; omega
theorem filled_zero {α : Type} (xs : List α) (z : α) (n : Nat) : filled xs z n 0 = List.replicate n z := by simp [filled]
theorem filled_all {α : Type} {xs : List α} {z : α} {n : Nat} (hn : xs.length = n) : filled xs z n n = xs := by simp [filled, ← hn]
theorem filled_set {α : Type} {xs : List α} {z x : α} {n i : Nat} (hi : i < n) (hn : xs.length = n) (hx : xs[i]? = some x) : (filled xs z n i).set i x = filled xs z n (i + 1) := by
 unfold filled
 have hl : (xs.take i).length = i := by simp; omega
 rw [List.set_append_right _ _ (by omega), hl, Nat.sub_self, List.take_add_one, hx, show n - i = (n - (i + 1)) + 1 by omega, List.replicate_succ, List.set_cons_zero, List.append_assoc]; rfl
theorem r_andU32 {s t : Nat} {K : Value → Prop} (hs : s < 4294967296) (ht : t < 4294967296) (h : K (.int .u32 ((s &&& t : Nat) : Int))) : Bp .and (.int .u32 (s : Int)) (.int .u32 (t : Int)) K := by
 refine ⟨_, ?_, h⟩; have hb : IntKind.u32.bits = 32 := rfl; have hx : s &&& t ≤ s := Nat.and_le_left; simp only [bp, if_true]; rw [hb, BitVec.toNat_and, BitVec.toNat_ofInt, BitVec.toNat_ofInt]
 have e1 : ((s : Int) % ((2 ^ 32 : Nat) : Int)).toNat = s := by omega
 have e2 : ((t : Int) % ((2 ^ 32 : Nat) : Int)).toNat = t := by omega
 rw [e1, e2, wrapU32 (by omega) (by omega)]
theorem r_mulE {a b : Int} (c : Int) {K : Value → Prop} (hc : a * b = c) (h1 : -9223372036854775808 ≤ c) (h2 : c ≤ 9223372036854775807) (h : K (.int .i64 c)) : Bp .mul (.int .i64 a) (.int .i64 b) K := by
 subst hc; exact r_mul h1 h2 h
theorem r_addE {a b : Int} (c : Int) {K : Value → Prop} (hc : a + b = c) (h1 : -9223372036854775808 ≤ c) (h2 : c ≤ 9223372036854775807) (h : K (.int .i64 c)) : Bp .add (.int .i64 a) (.int .i64 b) K := by
 subst hc; exact r_add h1 h2 h
end Go.Vc
namespace Go.Vc
class RowN (P : Program) (t : TypeId) (e : outParam TypeId) (k : outParam Nat) : Prop where
 und : P.underlying t = some (.slice e)
 inf : ∃ i z, P.info? e = some i ∧ i.size = k ∧ i.bytes ≤ 256 ∧ i.zero = some z ∧ z.cells.size = k
variable {α : Type} {P : Program} {w : World} {L : List HProp}
def flatL (F : α → List Value) : List α → List Value
 | [] => []
 | x :: r => F x ++ flatL F r
def rwb (F : α → List Value) (k : Nat) (e : TypeId) (oa : Option Addr) (xs : List α) (m : Nat) (sp : List Value) : HProp :=
 match oa with
 | none => pur (xs = [] ∧ m = 0)
 | some a => fun h => a.off = 0 ∧ a.spot = none ∧ sp.length = m * k ∧ blk a.block e (flatL F xs ++ sp) h
def RW (F : α → List Value) (k : Nat) (e : TypeId) (v : Value) (xs : List α) : HProp := fun h => ∃ oa m sp, v = .slice oa xs.length (xs.length + m) ∧ rwb F k e oa xs m sp h
theorem Holds.rwb (H : Holds w L) (i : Nat) {F : α → List Value} {k : Nat} {e : TypeId} {oa : Option Addr} {xs : List α} {m : Nat} {sp : List Value} (hi : L[i]? = some (rwb F k e oa xs m sp)) (hx : 0 < xs.length ∨ 0 < m) :
   ∃ b, oa = some ⟨b, 0, none⟩ ∧ sp.length = m * k ∧ Holds w (L.set i (blk b e (flatL F xs ++ sp))) := by
 cases oa with
 | none =>
   obtain ⟨g, ⟨h1, h2⟩, _⟩ := H.front i hi; subst h1; subst h2; simp at hx
 | some a =>
   obtain ⟨g, ⟨h1, h2, h3, h4⟩, hs, hL⟩ := H.front i hi; obtain ⟨b, o, s⟩ := a; simp only at h1 h2; subst h1; subst h2; exact ⟨b, rfl, h3, Sat.push i hi ⟨g, h4, hs, hL⟩⟩
theorem r_bpK {op : BinOp} {x y : Value} {K : Value → Prop} (v : Value) (h : bp op x y = some v) (k : K v) : Bp op x y K := ⟨v, h, k⟩
theorem least_some {l : List String} (h : l ≠ []) : ∃ m, Instr.least l = some m := by
 cases l with
 | nil => exact absurd rfl h
 | cons s r => exact ⟨_, rfl⟩
theorem missing_some {want : Array (String × TypeId)} {got : Array Method} (h : (want.toList.filter fun x => !got.any fun m => m.name == x.1 && m.sig == x.2) ≠ []) : ∃ m, Instr.missingMethod want got = some m := by
 have h2 : ((want.toList.filter fun x => !got.any fun m => m.name == x.1 && m.sig == x.2).map (·.1)) ≠ [] := by simpa using h
 unfold Instr.missingMethod; simp only; generalize ((want.toList.filter fun x => !got.any fun m => m.name == x.1 && m.sig == x.2).map (·.1)) = l at *; rw [List.partition_eq_filter_filter]; simp only
 by_cases h3 : l.filter (fun a => decide (¬ (a.contains (Char.ofNat 46)) = true)) = []
 · have h5 : l.filter (fun a => a.contains (Char.ofNat 46)) ≠ [] := by
     intro h4; apply h2; refine List.eq_nil_iff_forall_not_mem.2 fun x hx => ?_
     by_cases hc : (x.contains (Char.ofNat 46)) = true
     · have : x ∈ l.filter (fun a => a.contains (Char.ofNat 46)) := List.mem_filter.2 ⟨hx, hc⟩; rw [h4] at this; cases this
     · have : x ∈ l.filter (fun a => decide (¬ (a.contains (Char.ofNat 46)) = true)) := List.mem_filter.2 ⟨hx, by simpa using hc⟩; rw [h3] at this; cases this
   obtain ⟨m, hm⟩ := least_some (l := (l.filter (fun a => a.contains (Char.ofNat 46))).map fun id => (id.splitOn ".").getLastD id) (by simpa using h5)
   cases hx : Instr.least (l.filter (not ∘ fun a => a.contains (Char.ofNat 46))) with
   | some y => exact ⟨y, by simp⟩
   | none => exact ⟨m, by simpa using hm⟩
 · have h6 : l.filter (not ∘ fun a => a.contains (Char.ofNat 46)) ≠ [] := by
     intro h4; apply h3; rw [← h4]
     congr 1
     funext a
     simp
   obtain ⟨m, hm⟩ := least_some h6; exact ⟨m, by rw [hm]; rfl⟩
theorem r_taNo {P : Program} {t at_ xt : TypeId} {v z : Value} {want : Array (String × TypeId)} {i : TypeInfo} {K : Value → Prop} (hu : P.underlying at_ = some (.interface want)) (hi : P.info? t = some i)
   (hm : (want.toList.filter fun x => !i.methods.any fun m => m.name == x.1 && m.sig == x.2) ≠ []) (hz : ∀ w, (zeroValue at_).run P w = .ok z w) (k : K (.tuple #[z, .bool false])) : Ta P (.iface t v) xt at_ true w K := by
 obtain ⟨m, hm⟩ := missing_some hm; refine ⟨_, ?_, k⟩; simp [Instr.typeAssert, run_underlying hu, typeInfo, hi, hm, hz]
end Go.Vc
namespace Go.Vc
variable {P : Program} {w : World} {L : List HProp}
theorem r_orU32 {s t : Nat} {K : Value → Prop} (hs : s < 4294967296) (ht : t < 4294967296) (h : K (.int .u32 ((s ||| t : Nat) : Int))) : Bp .or (.int .u32 (s : Int)) (.int .u32 (t : Int)) K := by
 refine ⟨_, ?_, h⟩; have hb : IntKind.u32.bits = 32 := rfl; have hx : s ||| t < 2 ^ 32 := Nat.or_lt_two_pow (by simpa using hs) (by simpa using ht); simp only [bp, if_true]; rw [hb, BitVec.toNat_or, BitVec.toNat_ofInt, BitVec.toNat_ofInt]
 have e1 : ((s : Int) % ((2 ^ 32 : Nat) : Int)).toNat = s := by omega
 have e2 : ((t : Int) % ((2 ^ 32 : Nat) : Int)).toNat = t := by omega
 rw [e1, e2, wrapU32 (by omega) (by omega)]
theorem r_andU8 {s t : Nat} {K : Value → Prop} (hs : s < 256) (ht : t < 256) (h : K (.int .u8 ((s &&& t : Nat) : Int))) : Bp .and (.int .u8 (s : Int)) (.int .u8 (t : Int)) K := by
 refine ⟨_, ?_, h⟩; have hb : IntKind.u8.bits = 8 := rfl; have hx : s &&& t ≤ s := Nat.and_le_left; simp only [bp, if_true]; rw [hb, BitVec.toNat_and, BitVec.toNat_ofInt, BitVec.toNat_ofInt]
 have e1 : ((s : Int) % ((2 ^ 8 : Nat) : Int)).toNat = s := by omega
 have e2 : ((t : Int) % ((2 ^ 8 : Nat) : Int)).toNat = t := by omega
 rw [e1, e2, wrapU8 (by omega) (by omega)]
theorem r_addU32 {s t : Nat} {K : Value → Prop} (h1 : s + t < 4294967296) (h : K (.int .u32 ((s + t : Nat) : Int))) : Bp .add (.int .u32 (s : Int)) (.int .u32 (t : Int)) K := by
 refine ⟨_, ?_, h⟩; simp only [bp, if_true]; rw [← Int.natCast_add, wrapU32 (by omega) (by omega)]
theorem r_subU32 {s t : Nat} {K : Value → Prop} (h0 : t ≤ s) (h1 : s < 4294967296) (h : K (.int .u32 ((s - t : Nat) : Int))) : Bp .sub (.int .u32 (s : Int)) (.int .u32 (t : Int)) K := by
 refine ⟨_, ?_, h⟩; simp only [bp, if_true]; rw [show (s : Int) - (t : Int) = ((s - t : Nat) : Int) by omega, wrapU32 (by omega) (by omega)]
theorem r_subU8 {s t : Nat} {K : Value → Prop} (h0 : t ≤ s) (h1 : s < 256) (h : K (.int .u8 ((s - t : Nat) : Int))) : Bp .sub (.int .u8 (s : Int)) (.int .u8 (t : Int)) K := by
 refine ⟨_, ?_, h⟩; simp only [bp, if_true]; rw [show (s : Int) - (t : Int) = ((s - t : Nat) : Int) by omega, wrapU8 (by omega) (by omega)]
theorem Sat_tail {P : HProp} {L L' : List HProp} {h : Hp} (hL : ∀ h, Sat L h → Sat L' h) (H : Sat (P :: L) h) : Sat (P :: L') h := by
 obtain ⟨g, hg, hs, hr⟩ := H; exact ⟨g, hg, hs, hL _ hr⟩
def live : List (Option HProp) → List HProp
 | [] => []
 | none :: M => live M
 | some P :: M => P :: live M
def dead : List (Option HProp) → Nat → List (Option HProp)
 | [], _ => []
 | _ :: M, 0 => none :: M
 | x :: M, i + 1 => x :: dead M i
def sel : List Nat → List (Option HProp) → Option (List HProp)
 | [], _ => some []
 | i :: is, M => match M[i]? with
   | some (some P) => (match sel is (dead M i) with
     | some R => some (P :: R)
     | none => none)
   | _ => none
theorem live_pull : ∀ (M : List (Option HProp)) (i : Nat) {P : HProp} {L : List HProp} {h : Hp}, M[i]? = some (some P) → Sat (live M ++ L) h → Sat (P :: (live (dead M i) ++ L)) h
 | [], i, P, L, h, hi, H => by simp at hi
 | none :: M, 0, P, L, h, hi, H => by simp at hi
 | some Q :: M, 0, P, L, h, hi, H => by
   simp at hi; subst hi; exact H
 | none :: M, i + 1, P, L, h, hi, H => live_pull M i (by simpa using hi) H
 | some Q :: M, i + 1, P, L, h, hi, H => Sat.swap (Sat_tail (fun h' H' => live_pull M i (by simpa using hi) H') H)
theorem live_drop : ∀ (M : List (Option HProp)) {L : List HProp} {h : Hp}, Sat (live M ++ L) h → Sat L h
 | [], _, _, H => H
 | none :: M, _, _, H => live_drop M H
 | some Q :: M, L, h, H => live_drop M (by
   obtain ⟨g, _, _, hL⟩ := H
   exact hL.mono fun b o hb => by
     unfold Hp.minus at hb; split at hb
     · cases hb
     · exact hb)
theorem sel_sat : ∀ (is : List Nat) {M : List (Option HProp)} {R L : List HProp} {h : Hp}, sel is M = some R → Sat (live M ++ L) h → Sat (R ++ L) h
 | [], M, R, L, h, hR, H => by
   cases hR; exact live_drop M H
 | i :: is, M, R, L, h, hR, H => by
   unfold sel at hR; split at hR
   · rename_i P hP; split at hR
     · rename_i R' hR'; cases hR; exact Sat_tail (fun h' H' => sel_sat is hR' H') (live_pull M i hP H)
     · cases hR
   · cases hR
theorem live_some : ∀ (F : List HProp), live (F.map some) = F
 | [] => rfl
 | P :: F => by rw [List.map_cons, live, live_some F]
theorem Holds.ord (n : Nat) (is : List Nat) (H : Holds w L) {R : List HProp} (hR : sel is ((L.take n).map some) = some R) : Holds w (R ++ L.drop n) := by
 refine sel_sat is hR ?_; rw [live_some, List.take_append_drop]; exact H
theorem set_back {i j : Nat} {X Y Q : HProp} (hij : i ≠ j) (hj : L[j]? = some Q) : ((L.set j X).set i Y).set j Q = L.set i Y := by
 have e : L.set j Q = L := by
   have hl : j < L.length := (List.getElem?_eq_some_iff.1 hj).1; have h2 : L[j] = Q := (List.getElem?_eq_some_iff.1 hj).2; rw [← h2, List.set_getElem_self]
 have e1 : (L.set j X).set i Y = (L.set i Y).set j X := List.set_comm _ _ (Ne.symm hij); have e2 : (L.set i Y).set j Q = (L.set j Q).set i Y := List.set_comm _ _ hij; rw [e1, List.set_set, e2, e]
theorem r_apS {α : Type} {t e : TypeId} {z : Value} [hr : Row P t e z] (H : Holds w L) (i j : Nat) (hij : i ≠ j) {f : α → Value} {v v2 : Value} {xs ys : List α} {ty : TypeId} {K : Value → World → Prop}
   (hi : L[i]? = some (SL f e v xs)) (hj : L[j]? = some (SL f e v2 ys)) (hs : ∀ y, sg (f y) = true) (hn : xs.length + ys.length ≤ 1099511627776)
   (h : ∀ v' w', Same w w' → Holds w' (L.set i (SL f e v' (xs ++ ys))) → K v' w') : Ap P #[t, t] ty #[v, v2] w K := by
 obtain ⟨inf, hinf, hsz, hby, hzz⟩ := hr.inf
 have nothing : ys = [] → (∃ oa c, v2 = .slice oa 0 c) → Ap P #[t, t] ty #[v, v2] w K := by
   rintro rfl ⟨oa2, c2, rfl⟩; obtain ⟨oa, sp, rfl, _⟩ := H.open i hi
   have hsrc : Src P inf.size t (.slice oa2 0 c2) 0 [] w := by
     cases oa2 with
     | none => exact Src.ofNil w hr.und c2
     | some a => exact Src.ofSlice w hr.und a 0 c2 [] (by simp) (fun j u hu => by simp at hu) (fun _ h => by cases h)
   refine ⟨_, _, run_append_nothing w t t ty e inf hr.und hinf oa xs.length (xs.length + sp.length) (by omega) _ hsrc, h _ _ (.refl _) ?_⟩
   rw [List.append_nil, show L.set i (SL f e (.slice oa xs.length (xs.length + sp.length)) xs) = L from by
     have hl : i < L.length := (List.getElem?_eq_some_iff.1 hi).1; have e1 : L[i] = _ := (List.getElem?_eq_some_iff.1 hi).2
     rw [← e1, List.set_getElem_self]]
   exact H
 obtain ⟨oa2, sp2, rfl, H1⟩ := H.open j hj
 cases oa2 with
 | none =>
   obtain ⟨g, ⟨h2, _⟩, _⟩ := H1.front j (set_get hj); exact nothing h2 ⟨_, _, by rw [h2]; rfl⟩
 | some a =>
   obtain ⟨g, ⟨h2, h3, _⟩, _⟩ := H1.front j (set_get hj); obtain ⟨b2, o, s⟩ := a; simp only at h2 h3; subst h2; subst h3
   by_cases hy : ys = []
   · exact nothing hy ⟨_, _, by rw [hy]; rfl⟩
   · have hy0 : 0 < ys.length := List.length_pos_iff.2 hy; have H2 := H1.slb j (set_get hj); rw [List.set_set] at H2
     have hi2 : (L.set j (blk b2 e (ys.map f ++ sp2)))[i]? = some (SL f e v xs) := by rw [List.getElem?_set_ne (Ne.symm hij)]; exact hi
     obtain ⟨oa, sp, rfl, H3⟩ := H2.open i hi2; refine r_ap (f := f) (ys := ys) H3 i j (xs := xs) (sp := sp) (set_get hi2) (by rw [List.getElem?_set_ne hij]; exact set_get hj) (by simp) rfl rfl rfl hs hn hy0 fun oa' sp' w4 S4 H4 => ?_; rw [List.set_set] at H4; have hi3 : (L.set j (blk b2 e (ys.map f ++ sp2)))[i]? = some (SL f e (.slice oa xs.length (xs.length + sp.length)) xs) := hi2; have H5 := H4.close i (set_get hi3); rw [List.set_set] at H5; have H6 := H5.at j (Q := SL f e (.slice (some ⟨b2, 0, none⟩) ys.length (ys.length + sp2.length)) ys) (by rw [List.getElem?_set_ne hij]; exact set_get hj) fun g hg => ⟨some ⟨b2, 0, none⟩, sp2, rfl, rfl, rfl, hg⟩; rw [set_back hij hj] at H6
     have e1 : xs.length + ys.length = (xs ++ ys).length := by simp
     rw [e1]; exact h _ _ S4 H6
theorem r_mf {fn : Fn} {f c : Array Value} {K : Value → Prop} (v : Value) (h : (Instr.makeFunc fn f c).run P w = .ok v w) (k : K v) : Mf P fn f c w K := ⟨v, h, k⟩
theorem r_app1K {α : Type} {t e : TypeId} {z : Value} [hr : Row P t e z] (H : Holds w L) (i : Nat) {f : α → Value} {v : Value} {xs : List α} {ty : TypeId} {N : Node} {K : Value → World → Prop}
   (hi : L[i]? = some (SL f e v xs)) (x : α) (hs : ∀ y, sg (f y) = true) (hn : xs.length + 1 ≤ 1099511627776) (hN : ∀ w', Holds w' L → N w' fun u => u = v)
   (h : ∀ v' w', Same w w' → Holds w' (L.set i (SL f e v' (xs ++ [x]))) → K v' w') : Bs P t 1 #[(0, f x)] w fun y w2 => Rk N v w2 (Ap P #[t, t] ty #[v, y] w2 K) := by
 refine r_bs1 H (hs x) fun b3 w3 S3 H3 => r_rk (hN _ H3.drop) ?_; obtain ⟨oa, sp, rfl, H4⟩ := H3.open (i + 1) (by rw [List.getElem?_cons_succ]; exact hi); rw [List.set_cons_succ] at H4; refine r_ap (f := f) (ys := [x]) H4 (i + 1) 0 (xs := xs) (sp := sp) (by rw [List.getElem?_cons_succ]; exact set_get hi) rfl rfl rfl rfl rfl hs (by rw [List.length_singleton]; omega) (by simp) fun oa' sp' w4 S4 H4 => ?_; rw [List.set_cons_succ, List.set_set] at H4; have H5 := H4.drop.close i (set_get hi); rw [List.set_set] at H5
 have e : xs.length + [x].length = (xs ++ [x]).length := by simp
 rw [e]; exact h _ _ (S3.trans S4) H5
theorem r_xorU8 {s t : Nat} {K : Value → Prop} (hs : s < 256) (ht : t < 256) (h : K (.int .u8 ((s ^^^ t : Nat) : Int))) : Bp .xor (.int .u8 (s : Int)) (.int .u8 (t : Int)) K := by
 refine ⟨_, ?_, h⟩; have hb : IntKind.u8.bits = 8 := rfl; have hx : s ^^^ t < 2 ^ 8 := Nat.xor_lt_two_pow (by simpa using hs) (by simpa using ht); simp only [bp, if_true]; rw [hb, BitVec.toNat_xor, BitVec.toNat_ofInt, BitVec.toNat_ofInt]
 have e1 : ((s : Int) % ((2 ^ 8 : Nat) : Int)).toNat = s := by omega
 have e2 : ((t : Int) % ((2 ^ 8 : Nat) : Int)).toNat = t := by omega
 rw [e1, e2, wrapU8 (by omega) (by omega)]
theorem r_upxU32 {s : Nat} {K : Value → Prop} (hs : s < 4294967296) (h : K (.int .u32 ((4294967295 - s : Nat) : Int))) : Up .xor (.int .u32 (s : Int)) K := by
 refine ⟨_, ?_, h⟩; simp only [up]; have e1 : (if IntKind.u32.signed = true then (-1 : Int) else IntKind.u32.max) = 4294967295 := rfl; have e2 : BitVec.ofInt IntKind.u32.bits 4294967295 = BitVec.allOnes 32 := rfl; have hb : IntKind.u32.bits = 32 := rfl; rw [e1, e2]; show some (Value.int .u32 (IntKind.u32.wrap (BitVec.allOnes 32 ^^^ BitVec.ofInt 32 (s : Int)).toNat)) = _; rw [BitVec.allOnes_xor, BitVec.toNat_not, BitVec.toNat_ofInt]
 have e3 : ((s : Int) % ((2 ^ 32 : Nat) : Int)).toNat = s := by omega
 rw [e3, wrapU32 (by omega) (by omega)]
theorem r_shlI {a n : Nat} {k' : IntKind} {K : Value → Prop} (hn : n ≤ 64) (h1 : a * 2 ^ n < 9223372036854775808) (h : K (.int .i64 ((a * 2 ^ n : Nat) : Int))) : Bp .shl (.int .i64 (a : Int)) (.int k' (n : Int)) K := by
 refine ⟨_, ?_, h⟩; have hb : IntKind.i64.bits = 64 := rfl; simp only [bp]; rw [if_neg (by omega), Int.toNat_natCast, hb, Nat.min_eq_left hn]
 have e : (a : Int) * 2 ^ n = ((a * 2 ^ n : Nat) : Int) := by simp
 rw [e, wrap64 (by omega) (by omega)]
theorem r_sslLH {size : Nat} {a : Option Addr} {n c l h : Nat} {k k' : IntKind} {K : Value → Prop} (h1 : l ≤ h) (h2 : h ≤ c) (hK : K (.slice (if c = l then a else a.map (·.add (l * size))) (h - l) (c - l))) :
   Ssl size (.slice a n c) (some (.int k (l : Int))) (some (.int k' (h : Int))) K := ⟨a, n, c, l, h, rfl, ⟨k, rfl⟩, ⟨k', rfl⟩, h1, h2, hK⟩
theorem r_cp {ats : Array TypeId} {t : TypeId} {args : Array Value} {K : Value → World → Prop} {v : Value} {w' : World} (h : (Builtin.copy_ ats t args).run P w = .ok v w') (k : K v w') : Cp P ats t args w K := ⟨v, w', h, k⟩
theorem r_lnS {α : Type} (i : Nat) (H : Holds w L) {f : α → Value} {e : TypeId} {v : Value} {xs : List α} {K : Value → Prop} (hi : L[i]? = some (SL f e v xs)) (h : K (nv xs.length)) : Lnl v K := by
 obtain ⟨oa, sp, rfl, _⟩ := H.open i hi; exact r_lnl h
theorem r_getS {α : Type} (i : Nat) (H : Holds w L) {f : α → Value} {e : TypeId} {v : Value} {xs : List α} {k : IntKind} {j : Nat} {x : α} {K : Value → Prop} (hi : L[i]? = some (SL f e v xs)) (hx : xs[j]? = some x) (h : K (f x)) :
   Ias 1 v (.int k (j : Int)) fun p => Ld p w K := by
 obtain ⟨oa, sp, rfl, H1⟩ := H.open i hi; have hj : j < xs.length := (List.getElem?_eq_some_iff.1 hx).1; refine r_iasN i H1 (set_get hi) hj (Nat.le_refl _) fun b hb => ?_; subst hb; exact r_ldsl i H1 (set_get hi) hx h
theorem r_setS {α : Type} (i : Nat) (H : Holds w L) {f : α → Value} {e : TypeId} {v : Value} {xs : List α} {k : IntKind} {j : Nat} (x : α) {K : World → Prop} (hi : L[i]? = some (SL f e v xs)) (hj : j < xs.length) (hs : sg (f x) = true)
   (h : ∀ w', Same w w' → Holds w' (L.set i (SL f e v (xs.set j x))) → K w') : Ias 1 v (.int k (j : Int)) fun p => St p (f x) w K := by
 obtain ⟨oa, sp, rfl, H1⟩ := H.open i hi; refine r_iasN i H1 (set_get hi) hj (Nat.le_refl _) fun b hb => ?_; subst hb; refine r_stsl i H1 x (set_get hi) hj rfl hs fun w2 S2 H2 => ?_; rw [List.set_set] at H2; have H3 := H2.close i (set_get hi); rw [List.set_set, List.length_set] at H3; exact h _ S2 H3
theorem SL_sg {α : Type} {f : α → Value} {e : TypeId} {v : Value} {xs : List α} (H : Holds w L) (i : Nat) (hi : L[i]? = some (SL f e v xs)) : sg v = true := by
 obtain ⟨oa, sp, rfl, _⟩ := H.open i hi; rfl
theorem mid_get {α : Type} {f : α → Value} (pre : List Value) {post : List Value} {xs : List α} {j : Nat} {x : α} (h : xs[j]? = some x) : (pre ++ (xs.map f ++ post))[pre.length + j]? = some (f x) := by
 have hj : j < xs.length := (List.getElem?_eq_some_iff.1 h).1; rw [List.getElem?_append_right (by omega), Nat.add_sub_cancel_left, List.getElem?_append_left (by simpa using hj), List.getElem?_map, h]; rfl
theorem mid_set {α : Type} {f : α → Value} (pre : List Value) {post : List Value} {xs : List α} {j : Nat} (x : α) (h : j < xs.length) : (pre ++ (xs.map f ++ post)).set (pre.length + j) (f x) = pre ++ ((xs.set j x).map f ++ post) := by
 rw [List.set_append_right _ _ (by omega), Nat.add_sub_cancel_left, List.set_append_left _ _ (by simpa using h), List.map_set]
theorem mid_post {α : Type} {f : α → Value} (pre : List Value) {post : List Value} {xs : List α} {n j : Nat} (hn : xs.length = n) : (pre ++ (xs.map f ++ post))[pre.length + n + j]? = post[j]? := by
 rw [List.getElem?_append_right (by omega), List.getElem?_append_right (by simp; omega)]
 congr 1
 simp; omega
theorem mid_pset {α : Type} {f : α → Value} (pre : List Value) {post : List Value} {xs : List α} {n j : Nat} (v : Value) (hn : xs.length = n) : (pre ++ (xs.map f ++ post)).set (pre.length + n + j) v = pre ++ (xs.map f ++ post.set j v) := by
 rw [List.set_append_right _ _ (by omega), List.set_append_right _ _ (by simp; omega)]
 congr 3
 simp; omega
end Go.Vc
namespace Go.M01
def valB (l : List Bool) : Nat := l.foldl (fun a b => 2 * a + b.toNat) 0
theorem valB_snoc (l : List Bool) (b : Bool) : valB (l ++ [b]) = 2 * valB l + b.toNat := by simp [valB]
theorem valB_lt (l : List Bool) : valB l < 2 ^ l.length := by
 have h : ∀ n (l : List Bool), l.length = n → valB l < 2 ^ n := by
   intro n
   induction n with
   | zero => intro l hl; rw [List.length_eq_zero_iff.1 hl]; decide
   | succ n ih =>
     intro l hl
     have hne : l ≠ [] := by rintro rfl; simp at hl
     rw [← List.dropLast_concat_getLast hne, valB_snoc, Nat.pow_succ]; have h1 := ih l.dropLast (by simp [hl]); have h2 := Bool.toNat_le (l.getLast hne); omega
 exact h _ l rfl
def byteAt (bs : List Bool) (i : Nat) : UInt8 := UInt8.ofNat (valB ((bs.drop (8 * i)).take 8))
def wholeB (bs : List Bool) : List UInt8 := (List.range (bs.length / 8)).map (byteAt bs)
def restB (bs : List Bool) : Nat := valB (bs.drop (8 * (bs.length / 8))) * 2 ^ (8 - bs.length % 8) % 256
def bitsOf (v n : Nat) : List Bool := (List.range n).map fun i => v.testBit (n - 1 - i)
theorem bitsOf_len (v n : Nat) : (bitsOf v n).length = n := by simp [bitsOf]
theorem bitsOf_get (v n i : Nat) (h : i < n) : (bitsOf v n)[i]? = some (v.testBit (n - 1 - i)) := by simp [bitsOf, h]
theorem bit_at (v j : Nat) : (v / 2 ^ j) &&& 1 = (v.testBit j).toNat := by
 rw [Nat.and_one_is_mod, Nat.testBit_eq_decide_div_mod_eq]
 rcases Nat.mod_two_eq_zero_or_one (v / 2 ^ j) with h | h <;> simp [h]
theorem take_bit (v n i : Nat) (h : i < n) : (bitsOf v n).take (i + 1) = (bitsOf v n).take i ++ [v.testBit (n - 1 - i)] := by
 rw [List.take_add_one, bitsOf_get v n i h]; rfl
end Go.M01
namespace Go.Mb
open Go.M01
def bitsL : List UInt8 → List Bool
 | [] => []
 | c :: s => bitsOf c.toNat 8 ++ bitsL s
theorem bitsL_len (s : List UInt8) : (bitsL s).length = 8 * s.length := by
 induction s with
 | nil => rfl
 | cons c s ih => simp only [bitsL, List.length_append, bitsOf_len, ih, List.length_cons]; omega
theorem bitsL_app (s t : List UInt8) : bitsL (s ++ t) = bitsL s ++ bitsL t := by
 induction s with
 | nil => rfl
 | cons c s ih => simp only [List.cons_append, bitsL, ih, List.append_assoc]
theorem bitsOf_get (v n i : Nat) (h : i < n) : (bitsOf v n)[i]? = some (v.testBit (n - 1 - i)) := by
 have := take_bit v n i h
 have h2 : ((bitsOf v n).take (i + 1))[i]? = (bitsOf v n)[i]? := by rw [List.getElem?_take_of_lt (by omega)]
 rw [← h2, this, List.getElem?_append_right (by rw [List.length_take, bitsOf_len]; omega)]; rw [List.length_take, bitsOf_len, show i - min i n = 0 by omega]; rfl
theorem bitsL_get (s : List UInt8) : ∀ (i : Nat), i < 8 * s.length → (bitsL s)[i]? = some ((s.getD (i / 8) 0).toNat.testBit (7 - i % 8)) := by
 induction s with
 | nil => intro i h; simp at h
 | cons c s ih =>
   intro i h; rw [bitsL]
   by_cases h8 : i < 8
   · rw [List.getElem?_append_left (by rw [bitsOf_len]; exact h8), bitsOf_get _ _ _ h8, show i / 8 = 0 by omega, show i % 8 = i by omega]; rfl
   · rw [List.getElem?_append_right (by rw [bitsOf_len]; omega), bitsOf_len, ih (i - 8) (by simp at h; omega), show i / 8 = (i - 8) / 8 + 1 by omega, show (i - 8) % 8 = i % 8 by omega]; rfl
def rest (B : List UInt8) (at_ : Nat) : List Bool := (bitsL B).drop at_
theorem rest_len (B : List UInt8) (at_ : Nat) : (rest B at_).length = 8 * B.length - at_ := by rw [rest, List.length_drop, bitsL_len]
theorem rest_drop (B : List UInt8) (at_ n : Nat) : (rest B at_).drop n = rest B (at_ + n) := by rw [rest, rest, List.drop_drop]
theorem rest_get (B : List UInt8) (at_ n : Nat) (h : at_ + n < 8 * B.length) : (rest B at_)[n]? = some ((B.getD ((at_ + n) / 8) 0).toNat.testBit (7 - (at_ + n) % 8)) := by
 rw [rest, List.getElem?_drop, bitsL_get _ _ h]
theorem take_snoc {α : Type} {l : List α} {n : Nat} {x : α} (h : l[n]? = some x) : l.take (n + 1) = l.take n ++ [x] := by
 rw [List.take_add_one, h]; rfl
theorem bit_val (c : UInt8) (i : Nat) : c.toNat / 2 ^ i &&& 1 = (c.toNat.testBit i).toNat := bit_at c.toNat i
def chr (b : Bool) : UInt8 := match b with
 | true => 49
 | false => 48
def txt (l : List Bool) : List UInt8 := l.map chr
theorem txt_len (l : List Bool) : (txt l).length = l.length := List.length_map ..
theorem txt_app (a b : List Bool) : txt (a ++ b) = txt a ++ txt b := List.map_append ..
theorem txt_take (l : List Bool) (n : Nat) : (txt l).take n = txt (l.take n) := by simp [txt]
theorem txt_drop (l : List Bool) (n : Nat) : (txt l).drop n = txt (l.drop n) := by simp [txt]
theorem txt_inj {a b : List Bool} (h : txt a = txt b) : a = b := by
 induction a generalizing b with
 | nil => cases b with
   | nil => rfl
   | cons y b => simp [txt] at h
 | cons x a ih => cases b with
   | nil => simp [txt] at h
   | cons y b =>
     simp only [txt, List.map_cons, List.cons.injEq] at h; rw [ih h.2]
     cases x <;> cases y <;> simp_all [chr]
theorem txt_getD (l : List Bool) (i : Nat) (h : i < l.length) : (txt l).getD i 0 = chr (l.getD i false) := by
 simp [txt, List.getD, h]
theorem valB_nil : valB [] = 0 := rfl
theorem valB_one (b : Bool) : valB [b] = b.toNat := by simp [valB]
theorem valB_take_lt (l : List Bool) (n : Nat) : valB (l.take n) < 2 ^ n := Nat.lt_of_lt_of_le (valB_lt _) (Nat.pow_le_pow_right (by decide) (by rw [List.length_take]; omega))
end Go.Mb
namespace Go.Mp
open Go.M01 Go.Mb
inductive Res (σ : Type) where
 | short
 | bad (e : Nat)
 | ok (s : σ) (k : Nat)
def lead : List Bool → Nat
 | true :: l => lead l + 1
 | _ => 0
theorem lead_le : ∀ (l : List Bool), lead l ≤ l.length
 | [] => Nat.le_refl 0
 | true :: l => by simp only [lead, List.length_cons]; have := lead_le l; omega
 | false :: l => Nat.zero_le _
theorem lead_lt : ∀ (l : List Bool) (i : Nat), i < lead l → l[i]? = some true
 | true :: l, 0, _ => rfl
 | true :: l, i + 1, h => by rw [List.getElem?_cons_succ]; exact lead_lt l i (by simpa [lead] using h)
 | false :: l, i, h => by simp [lead] at h
 | [], i, h => by simp [lead] at h
theorem lead_at : ∀ (l : List Bool), lead l < l.length → l[lead l]? = some false
 | true :: l, h => by simp only [lead, List.getElem?_cons_succ]; exact lead_at l (by simpa [lead] using h)
 | false :: l, h => rfl
 | [], h => by simp at h
theorem lead_of {l : List Bool} {i : Nat} (h1 : ∀ j, j < i → l[j]? = some true) (h2 : l[i]? = some false) : lead l = i := by
 induction l generalizing i with
 | nil => simp at h2
 | cons c l ih =>
   cases i with
   | zero =>
     simp at h2; subst h2; rfl
   | succ i =>
     have := h1 0 (by omega); simp at this; subst this; simp only [lead]; rw [ih (i := i) (fun j hj => by have := h1 (j + 1) (by omega); simpa using this) (by simpa using h2)]
theorem lead_ge {l : List Bool} {i : Nat} (h1 : ∀ j, j < i → l[j]? = some true) : i ≤ lead l := by
 induction l generalizing i with
 | nil => cases i with
   | zero => exact Nat.zero_le _
   | succ i => have := h1 0 (by omega); simp at this
 | cons c l ih =>
   cases i with
   | zero => exact Nat.zero_le _
   | succ i =>
     have := h1 0 (by omega); simp at this; subst this; simp only [lead]; have := ih (i := i) (fun j hj => by have := h1 (j + 1) (by omega); simpa using this); omega
def front (o : List Nat) (i : Nat) : List Nat := o.getD i 0 :: (o.take i ++ o.drop (i + 1))
theorem front_len {o : List Nat} {i : Nat} (h : i < o.length) : (front o i).length = o.length := by
 simp only [front, List.length_cons, List.length_append, List.length_take, List.length_drop]; omega
structure PS where
 t : Nat
 count : Nat
 order : List Nat
 picks : List Nat
def p0 : PS := ⟨0, 0, [0, 1, 2, 3, 4, 5], []⟩
def PS.done (p : PS) : Bool := decide (0 < p.count ∧ p.picks.length = p.count)
def pstep (p : PS) (l : List Bool) : Res PS :=
 if p.count = 0 then
   if l.length < 18 then .short
   else
     if valB (l.take 18) / 32768 < 2 ∨ 6 < valB (l.take 18) / 32768 ∨ valB (l.take 18) % 32768 = 0 then .bad 25
     else .ok ⟨valB (l.take 18) / 32768, valB (l.take 18) % 32768, p.order, p.picks⟩ 18
 else
   if p.t ≤ lead l then .bad 25
   else if lead l = l.length then .short
   else .ok ⟨p.t, p.count, front p.order (lead l), p.picks ++ [p.order.getD (lead l) 0]⟩ (lead l + 1)
structure PS.Ok (p : PS) : Prop where
 ord : p.order.length = 6
 cnt : p.count ≤ 32767
 len : p.picks.length ≤ p.count
 new : p.count = 0 → p.t = 0 ∧ p.order = [0, 1, 2, 3, 4, 5]
 tbl : 0 < p.count → 2 ≤ p.t ∧ p.t ≤ 6
 low : ∀ i, i < p.t → p.order.getD i 0 < p.t
 pks : ∀ x ∈ p.picks, x < p.t
theorem p0_ok : p0.Ok := ⟨rfl, by decide, by decide, fun _ => ⟨rfl, rfl⟩, fun h => absurd h (by decide), fun i h => absurd h (Nat.not_lt_zero i), fun x h => by cases h⟩
theorem front_getD {o : List Nat} {i j : Nat} (hi : i < o.length) : (front o i).getD j 0 = if j = 0 then o.getD i 0 else if j ≤ i then o.getD (j - 1) 0 else o.getD j 0 := by
 unfold front
 cases j with
 | zero => rfl
 | succ j =>
   rw [List.getD_cons_succ, if_neg (by omega)]; rw [List.getD_eq_getElem?_getD, List.getD_eq_getElem?_getD, List.getD_eq_getElem?_getD]
   have hl : (o.take i).length = i := by simp; omega
   split
   · rw [List.getElem?_append_left (by omega), List.getElem?_take_of_lt (by omega)]; rfl
   · rw [List.getElem?_append_right (by omega), hl, List.getElem?_drop]
     congr 2
     omega
theorem pstep_ok {p p' : PS} {l : List Bool} {k : Nat} (h : pstep p l = .ok p' k) (hp : p.Ok) (hd : p.done = false) : p'.Ok := by
 unfold pstep at h; split at h
 · rename_i h0; split at h
   · cases h
   · split at h
     · cases h
     · rename_i h1; cases h; have hq : p.picks = [] := List.eq_nil_of_length_eq_zero (by have := hp.len; omega); have ho := (hp.new h0).2; refine ⟨hp.ord, by simp only; omega, ?_, fun h => by simp only at h; omega, fun _ => by simp only; omega, ?_, ?_⟩
       · simp only [hq]; exact Nat.zero_le _
       · intro i hi; simp only at hi ⊢; rw [ho]; generalize valB (l.take 18) / 32768 = t at hi h1
         have : t = 2 ∨ t = 3 ∨ t = 4 ∨ t = 5 ∨ t = 6 := by omega
         have h6 : i = 0 ∨ i = 1 ∨ i = 2 ∨ i = 3 ∨ i = 4 ∨ i = 5 := by omega
         rcases h6 with rfl | rfl | rfl | rfl | rfl | rfl <;> simp <;> omega
       · simp only [hq]; intro x hx; cases hx
 · rename_i h0; split at h
   · cases h
   · split at h
     · cases h
     · cases h; have ht := hp.tbl (by omega); have hlen := hp.len
       have hnd : p.picks.length < p.count := by
         rcases Nat.lt_or_ge p.picks.length p.count with h | h
         · exact h
         · simp [PS.done] at hd; omega
       have hlt : lead l < p.t := by omega
       have hord := hp.ord; refine ⟨by simp only; rw [front_len (by omega)]; exact hp.ord, hp.cnt, by simp; omega, fun h => absurd h h0, fun _ => ht, ?_, ?_⟩
       · intro i hi; simp only at hi ⊢; rw [front_getD (by omega)]; split
         · exact hp.low _ hlt
         · split
           · exact hp.low _ (by omega)
           · exact hp.low _ hi
       · intro x hx; simp only at hx ⊢; rcases List.mem_append.1 hx with h | h
         · exact hp.pks x h
         · rw [List.mem_singleton] at h; subst h; exact hp.low _ hlt
theorem pstep_bad {p : PS} {l : List Bool} {c : Nat} (h : pstep p l = .bad c) : c = 25 := by
 unfold pstep at h; split at h
 · split at h
   · cases h
   · split at h
     · cases h; rfl
     · cases h
 · split at h
   · cases h; rfl
   · split at h
     · cases h
     · cases h
structure DS where
 size : Nat
 now : Nat
 lens : List Nat
def d0 (size : Nat) : DS := ⟨size, 0, []⟩
def DS.done (d : DS) : Bool := decide (d.lens.length = d.size)
def turn (d : DS) (n : Int) (k : Nat) : Res DS := if n < 1 ∨ 20 < n then .bad 22 else .ok ⟨d.size, n.toNat, d.lens⟩ k
def dstep (d : DS) (l : List Bool) : Res DS :=
 if d.now = 0 then if l.length < 5 then .short else turn d (valB (l.take 5)) 5
 else match l with
   | [] => .short
   | false :: _ => .ok ⟨d.size, d.now, d.lens ++ [d.now]⟩ 1
   | [true] => .short
   | true :: c :: _ => turn d ((d.now : Int) + 1 - 2 * c.toNat) 2
structure DS.Ok (d : DS) : Prop where
 now : d.now ≤ 20
 len : d.lens.length ≤ d.size
 all : ∀ x ∈ d.lens, 1 ≤ x ∧ x ≤ 20
theorem d0_ok (n : Nat) : (d0 n).Ok := ⟨by simp [d0], by simp [d0], fun x h => by cases h⟩
theorem dstep_ok {d d' : DS} {l : List Bool} {k : Nat} (h : dstep d l = .ok d' k) (hd : d.Ok) (hn : d.done = false) : d'.Ok := by
 unfold dstep at h; have hlen := hd.len
 have hnd : d.lens.length < d.size := by
   rcases Nat.lt_or_ge d.lens.length d.size with h | h
   · exact h
   · simp [DS.done] at hn; omega
 split at h
 · split at h
   · cases h
   · unfold turn at h; split at h
     · cases h
     · cases h; exact ⟨by simp only; omega, hd.len, hd.all⟩
 · split at h
   · cases h
   · cases h; refine ⟨hd.now, by simp; omega, fun x hx => ?_⟩; rcases List.mem_append.1 hx with h | h
     · exact hd.all x h
     · rw [List.mem_singleton] at h; subst h; have := hd.now; omega
   · cases h
   · unfold turn at h; split at h
     · cases h
     · cases h; exact ⟨by simp only; omega, hd.len, hd.all⟩
theorem dstep_bad {d : DS} {l : List Bool} {c : Nat} (h : dstep d l = .bad c) : c = 22 := by
 unfold dstep turn at h; split at h
 · split at h
   · cases h
   · split at h
     · cases h; rfl
     · cases h
 · split at h
   · cases h
   · cases h
   · cases h
   · split at h
     · cases h; rfl
     · cases h
end Go.Mp
namespace Go.M10
open Go.M01 Go.Mb
def nx (lens : List Nat) : Nat → Nat
 | 0 => 0
 | n + 1 => 2 * nx lens n + lens.count (n + 1)
def fst_ (lens : List Nat) (n : Nat) : Nat := 2 * nx lens (n - 1)
def grp (lens : List Nat) (k n : Nat) : List Nat := (List.range k).filter fun i => decide (lens.getD i 0 = n)
def upto (lens : List Nat) : Nat → List Nat
 | 0 => []
 | n + 1 => upto lens n ++ grp lens lens.length (n + 1)
def frm (lens : List Nat) (n : Nat) : Nat := (upto lens (n - 1)).length
def share (lens : List Nat) : Nat := (lens.map fun x => 2 ^ (20 - x)).sum
def Sized (lens : List Nat) : Prop := ∀ x ∈ lens, 1 ≤ x ∧ x ≤ 20
structure Whole (lens : List Nat) : Prop where
 sized : Sized lens
 share : share lens = 1048576
theorem grp_len (lens : List Nat) (n : Nat) : ∀ k, k ≤ lens.length → (grp lens k n).length = (lens.take k).count n := by
 intro k
 induction k with
 | zero => intro _; simp [grp]
 | succ k ih =>
   intro hk; have := ih (by omega); unfold grp at this ⊢; have hg : lens[k]? = some lens[k] := List.getElem?_eq_getElem (by omega); rw [List.range_succ, List.filter_append, List.length_append, this, take_snoc hg, List.count_append]
   congr 1
   have hd : lens.getD k 0 = lens[k] := by rw [List.getD_eq_getElem?_getD, hg]; rfl
   rw [List.filter_cons, hd, List.filter_nil, List.count_cons, List.count_nil]
   by_cases h : lens[k] = n
   · rw [if_pos (by simpa using h), if_pos (by simpa using h)]; rfl
   · rw [if_neg (by simpa using h), if_neg (by simpa using h)]; rfl
theorem grp_len' (lens : List Nat) (n : Nat) : (grp lens lens.length n).length = lens.count n := by
 rw [grp_len lens n _ (Nat.le_refl _), List.take_length]
theorem frm_succ (lens : List Nat) (n : Nat) (h : 1 ≤ n) : frm lens (n + 1) = frm lens n + lens.count n := by
 obtain ⟨m, rfl⟩ : ∃ m, n = m + 1 := ⟨n - 1, by omega⟩; unfold frm; rw [Nat.add_sub_cancel, Nat.add_sub_cancel, upto, List.length_append, grp_len']
theorem nx_eq (lens : List Nat) (n : Nat) (h : 1 ≤ n) : nx lens n = fst_ lens n + lens.count n := by
 obtain ⟨m, rfl⟩ : ∃ m, n = m + 1 := ⟨n - 1, by omega⟩; rw [nx, fst_, Nat.add_sub_cancel]
def shareTo (lens : List Nat) (n : Nat) : Nat := (lens.map fun x => if x ≤ n then 2 ^ (20 - x) else 0).sum
theorem shareTo_succ (lens : List Nat) (n : Nat) : shareTo lens (n + 1) = shareTo lens n + lens.count (n + 1) * 2 ^ (20 - (n + 1)) := by
 induction lens with
 | nil => simp [shareTo]
 | cons x l ih =>
   simp only [shareTo, List.map_cons, List.sum_cons] at ih ⊢; rw [ih, List.count_cons]
   by_cases h1 : x ≤ n
   · rw [if_pos (by omega), if_pos h1, if_neg (by simp; omega)]; simp; omega
   · by_cases h2 : x = n + 1
     · subst h2; rw [if_pos (by omega), if_neg h1, if_pos (by simp), Nat.add_mul]; omega
     · rw [if_neg (by omega), if_neg h1, if_neg (by simpa using h2)]; simp
theorem nx_share {lens : List Nat} (hs : Sized lens) : ∀ n, n ≤ 20 → nx lens n * 2 ^ (20 - n) = shareTo lens n := by
 intro n
 induction n with
 | zero =>
   intro _
   have : ∀ l : List Nat, (∀ x ∈ l, 1 ≤ x) → shareTo l 0 = 0 := by
     intro l
     induction l with
     | nil => intro _; rfl
     | cons x l ih =>
       intro h; simp only [shareTo, List.map_cons, List.sum_cons] at ih ⊢; rw [ih fun y hy => h y (List.mem_cons_of_mem _ hy), if_neg (by have := h x List.mem_cons_self; omega)]
   rw [this lens fun x hx => (hs x hx).1]; simp [nx]
 | succ n ih =>
   intro hn; rw [shareTo_succ, ← ih (by omega), nx, Nat.add_mul]
   congr 1
   rw [show 20 - n = (20 - (n + 1)) + 1 by omega, Nat.pow_succ]; rw [Nat.mul_comm 2, Nat.mul_assoc, Nat.mul_comm 2]
theorem shareTo_20 {lens : List Nat} (hs : Sized lens) : shareTo lens 20 = share lens := by
 induction lens with
 | nil => rfl
 | cons x l ih =>
   simp only [shareTo, share, List.map_cons, List.sum_cons] at ih ⊢; rw [ih fun y hy => hs y (List.mem_cons_of_mem _ hy), if_pos (hs x List.mem_cons_self).2]
theorem nx_20 {lens : List Nat} (h : Whole lens) : nx lens 20 = 1048576 := by
 have := nx_share h.sized 20 (by omega); rw [shareTo_20 h.sized, h.share] at this; omega
theorem nx_mono (lens : List Nat) (n : Nat) : 2 * nx lens n ≤ nx lens (n + 1) := by rw [nx]; omega
theorem nx_pow (lens : List Nat) (n : Nat) : ∀ k, nx lens n * 2 ^ k ≤ nx lens (n + k) := by
 intro k
 induction k with
 | zero => simp
 | succ k ih =>
   have := nx_mono lens (n + k); rw [Nat.pow_succ, ← Nat.mul_assoc, ← Nat.add_assoc]; omega
theorem nx_le {lens : List Nat} (h : Whole lens) (n : Nat) (hn : n ≤ 20) : nx lens n ≤ 2 ^ n := by
 have h1 := nx_pow lens n (20 - n); rw [show n + (20 - n) = 20 by omega, nx_20 h] at h1
 have h2 : 2 ^ n * 2 ^ (20 - n) = 1048576 := by rw [← Nat.pow_add, show n + (20 - n) = 20 by omega]
 rw [← h2] at h1; exact Nat.le_of_mul_le_mul_right h1 (Nat.two_pow_pos _)
theorem frm_le (lens : List Nat) (h : Sized lens) : ∀ n, n ≤ 20 → (upto lens n).length ≤ lens.length := by
 have key : ∀ n, (upto lens n).length = (lens.filter fun x => decide (1 ≤ x ∧ x ≤ n)).length := by
   intro n
   induction n with
   | zero =>
     have : ∀ l : List Nat, (l.filter fun x => decide (1 ≤ x ∧ x ≤ 0)) = [] := fun l => by
       rw [List.filter_eq_nil_iff]; intro x _; simp; omega
     rw [this]; rfl
   | succ n ih =>
     rw [upto, List.length_append, ih, grp_len']; clear ih h
     induction lens with
     | nil => rfl
     | cons x l ih =>
       rw [List.count_cons, List.filter_cons, List.filter_cons]
       by_cases h1 : 1 ≤ x ∧ x ≤ n
       · rw [if_pos (by simpa using h1), if_neg (by simp; omega), if_pos (by simp; omega)]; simp only [List.length_cons]; omega
       · by_cases h2 : x = n + 1
         · subst h2; rw [if_neg (by simp), if_pos (by simp), if_pos (by simp)]; simp only [List.length_cons]; omega
         · rw [if_neg (by simpa using h1), if_neg (by simpa using h2), if_neg (by simp; omega)]; omega
 intro n _; rw [key]; exact List.length_filter_le _ _
def hit (lens : List Nat) (l : List Bool) (i : Nat) : Bool := decide (i + 1 ≤ l.length ∧ valB (l.take (i + 1)) < nx lens (i + 1))
def getC (lens : List Nat) (l : List Bool) : Option (Nat × Nat) :=
 ((List.range 20).find? (hit lens l)).map fun i => ((upto lens 20).getD (frm lens (i + 1) + (valB (l.take (i + 1)) - fst_ lens (i + 1))) 0, i + 1)
theorem getC_some {lens : List Nat} {l : List Bool} {i : Nat} (hi : i < 20) (h : hit lens l i = true) (hn : ∀ j, j < i → hit lens l j = false) :
   getC lens l = some ((upto lens 20).getD (frm lens (i + 1) + (valB (l.take (i + 1)) - fst_ lens (i + 1))) 0, i + 1) := by
 unfold getC
 have : (List.range 20).find? (hit lens l) = some i := by
   rw [List.find?_range_eq_some]; exact ⟨h, List.mem_range.2 hi, fun j hj => by rw [hn j hj]; rfl⟩
 rw [this]; rfl
theorem getC_none {lens : List Nat} {l : List Bool} (h : ∀ j, j < 20 → hit lens l j = false) : getC lens l = none := by
 unfold getC
 have : (List.range 20).find? (hit lens l) = none := by
   rw [List.find?_eq_none]; intro x hx; rw [h x (List.mem_range.1 hx)]; simp
 rw [this]; rfl
theorem valB_take_succ {l : List Bool} {n : Nat} (h : n < l.length) : valB (l.take (n + 1)) = 2 * valB (l.take n) + (l.getD n false).toNat := by
 have hg : l[n]? = some l[n] := List.getElem?_eq_getElem h; rw [take_snoc hg, valB_snoc, List.getD_eq_getElem?_getD, hg]; rfl
theorem miss_ge {lens : List Nat} {l : List Bool} {n : Nat} (h : ∀ j, j < n → hit lens l j = false) (hl : n < l.length) : fst_ lens (n + 1) ≤ valB (l.take (n + 1)) := by
 rw [fst_, Nat.add_sub_cancel, valB_take_succ hl]
 cases n with
 | zero => rw [nx]; omega
 | succ n =>
   have := h n (by omega); simp [hit] at this; have := this (by omega); omega
theorem hit_20 {lens : List Nat} {l : List Bool} (h : Whole lens) (hl : 20 ≤ l.length) : hit lens l 19 = true := by
 unfold hit; rw [decide_eq_true_iff]; refine ⟨hl, ?_⟩; rw [show 19 + 1 = 20 from rfl, nx_20 h]; exact valB_take_lt l 20
theorem upto_app (lens : List Nat) (n : Nat) : ∀ k, ∃ t, upto lens (n + k) = upto lens n ++ t := by
 intro k
 induction k with
 | zero => exact ⟨[], by simp⟩
 | succ k ih =>
   obtain ⟨t, ht⟩ := ih; exact ⟨t ++ grp lens lens.length (n + k + 1), by rw [← Nat.add_assoc, upto, ht, List.append_assoc]⟩
theorem upto_get {lens : List Nat} {n k : Nat} (h1 : 1 ≤ n) (h2 : n ≤ 20) (hk : k < lens.count n) : (upto lens 20)[frm lens n + k]? = (grp lens lens.length n)[k]? := by
 obtain ⟨m, rfl⟩ : ∃ m, n = m + 1 := ⟨n - 1, by omega⟩; obtain ⟨t, ht⟩ := upto_app lens (m + 1) (20 - (m + 1)); rw [show m + 1 + (20 - (m + 1)) = 20 by omega] at ht; rw [ht, upto, frm, Nat.add_sub_cancel, List.append_assoc, List.getElem?_append_right (by omega), Nat.add_sub_cancel_left, List.getElem?_append_left (by rw [grp_len']; exact hk)]
theorem grp_mem {lens : List Nat} {k n i : Nat} (h : i ∈ grp lens k n) : i < k ∧ lens.getD i 0 = n := by
 unfold grp at h; rw [List.mem_filter, List.mem_range] at h; exact ⟨h.1, by simpa using h.2⟩
theorem grp_at {lens : List Nat} {n : Nat} : ∀ (k i : Nat), k ≤ lens.length → i < k → lens.getD i 0 = n → (grp lens k n)[(lens.take i).count n]? = some i := by
 intro k
 induction k with
 | zero => intro i _ hi; omega
 | succ k ih =>
   intro i hk hi hn; have hl := grp_len lens n k (by omega); unfold grp at ih hl ⊢; rw [List.range_succ, List.filter_append]; rcases Nat.lt_or_ge i k with h | h
   · have := ih i (by omega) h hn; rw [List.getElem?_append_left (List.getElem?_eq_some_iff.1 this).1]; exact this
   · have : i = k := by omega
     subst this; rw [List.getElem?_append_right (by omega), hl, Nat.sub_self]; rw [List.filter_cons, if_pos (by simpa using hn)]; rfl
def codeN (lens : List Nat) (i : Nat) : Nat := fst_ lens (lens.getD i 0) + (lens.take i).count (lens.getD i 0)
def codeB (lens : List Nat) (i : Nat) : List Bool := bitsOf (codeN lens i) (lens.getD i 0)
theorem count_lt {lens : List Nat} {i n : Nat} (hi : i < lens.length) (hn : lens.getD i 0 = n) : (lens.take i).count n < lens.count n := by
 have hg : lens[i]? = some lens[i] := List.getElem?_eq_getElem hi; have h1 : lens = lens.take i ++ lens.drop i := (List.take_append_drop i lens).symm
 have h2 : lens.count n = (lens.take i).count n + (lens.drop i).count n := by
   conv => lhs; rw [h1, List.count_append]
 have h3 : 0 < (lens.drop i).count n := by
   rw [List.count_pos_iff]
   have : (lens.drop i)[0]? = some lens[i] := by rw [List.getElem?_drop, Nat.add_zero, hg]
   have := List.mem_of_getElem? this
   have h4 : lens.getD i 0 = lens[i] := by rw [List.getD_eq_getElem?_getD, hg]; rfl
   rw [← hn, h4]; exact this
 omega
theorem codeN_lt {lens : List Nat} {i : Nat} (hi : i < lens.length) (h1 : 1 ≤ lens.getD i 0) : codeN lens i < nx lens (lens.getD i 0) := by
 rw [nx_eq _ _ h1, codeN]; have := count_lt hi rfl; omega
theorem valB_bitsOf (v n : Nat) (h : v < 2 ^ n) : valB (bitsOf v n) = v := by
 have key : ∀ i, i ≤ n → valB ((bitsOf v n).take i) = v / 2 ^ (n - i) := by
   intro i
   induction i with
   | zero => intro _; rw [List.take_zero, valB_nil, Nat.sub_zero, Nat.div_eq_of_lt h]
   | succ i ih =>
     intro hi; rw [take_bit v n i (by omega), valB_snoc, ih (by omega)]; have h2 := bit_at v (n - (i + 1)); rw [Nat.and_one_is_mod] at h2; rw [show n - 1 - i = n - (i + 1) by omega, ← h2, show n - i = (n - (i + 1)) + 1 by omega, Nat.pow_succ, ← Nat.div_div_eq_div_mul]; omega
 have := key n (Nat.le_refl _); rw [List.take_of_length_le (by rw [bitsOf_len]; omega), Nat.sub_self] at this; simpa using this
theorem valB_inj : ∀ {n : Nat} {a b : List Bool}, a.length = n → b.length = n → valB a = valB b → a = b := by
 intro n
 induction n with
 | zero => intro a b ha hb _; rw [List.length_eq_zero_iff.1 ha, List.length_eq_zero_iff.1 hb]
 | succ n ih =>
   intro a b ha hb h
   have hane : a ≠ [] := by rintro rfl; simp at ha
   have hbne : b ≠ [] := by rintro rfl; simp at hb
   rw [← List.dropLast_concat_getLast hane, ← List.dropLast_concat_getLast hbne] at h ⊢; rw [valB_snoc, valB_snoc] at h; have h1 := Bool.toNat_le (a.getLast hane); have h2 := Bool.toNat_le (b.getLast hbne); rw [ih (a := a.dropLast) (b := b.dropLast) (by simp [ha]) (by simp [hb]) (by omega)]
   have h3 : (a.getLast hane).toNat = (b.getLast hbne).toNat := by omega
   generalize a.getLast hane = x at *; generalize b.getLast hbne = y at *
   cases x <;> cases y <;> simp_all
theorem valB_take_div {l : List Bool} {n : Nat} (h : n ≤ l.length) : ∀ k, k ≤ n → valB (l.take (n - k)) = valB (l.take n) / 2 ^ k := by
 intro k
 induction k with
 | zero => intro _; simp
 | succ k ih =>
   intro hk; have h1 := ih (by omega); have h2 := valB_take_succ (l := l) (n := n - (k + 1)) (by omega); rw [show n - (k + 1) + 1 = n - k by omega] at h2; have hb := Bool.toNat_le (l.getD (n - (k + 1)) false); rw [Nat.pow_succ, ← Nat.div_div_eq_div_mul, ← h1, h2]; omega
theorem get_code {lens : List Nat} {l : List Bool} {i : Nat} (hw : Whole lens) (hi : i < lens.length) (hl : lens.getD i 0 ≤ l.length) (h : l.take (lens.getD i 0) = codeB lens i) : getC lens l = some (i, lens.getD i 0) := by
 have hx : 1 ≤ lens.getD i 0 ∧ lens.getD i 0 ≤ 20 := by
   rw [List.getD_eq_getElem?_getD, List.getElem?_eq_getElem hi]; exact hw.sized _ (List.getElem_mem hi)
 have hc := codeN_lt hi hx.1; have hle := nx_le hw _ hx.2
 have hv : valB (l.take (lens.getD i 0)) = codeN lens i := by rw [h, codeB, valB_bitsOf _ _ (by omega)]
 obtain ⟨n, hn⟩ : ∃ n, lens.getD i 0 = n + 1 := ⟨lens.getD i 0 - 1, by omega⟩
 have hcn : codeN lens i = fst_ lens (n + 1) + (lens.take i).count (n + 1) := by rw [codeN, hn]
 rw [hn] at hx hc hle hv hl ⊢
 have hfst : fst_ lens (n + 1) = 2 * nx lens n := by rw [fst_, Nat.add_sub_cancel]
 have := getC_some (lens := lens) (l := l) (i := n) (by omega) (by unfold hit; rw [decide_eq_true_iff]; exact ⟨hl, by omega⟩) (fun j hj => by
   unfold hit; rw [decide_eq_false_iff_not]; rintro ⟨h1, h2⟩; have h3 := valB_take_div hl (n - j) (by omega); rw [show n + 1 - (n - j) = j + 1 by omega, hv] at h3; have h4 := nx_pow lens (j + 1) (n - 1 - j); rw [show j + 1 + (n - 1 - j) = n by omega] at h4
   have h5 : nx lens (j + 1) * 2 ^ (n - j) ≤ codeN lens i := by
     rw [show n - j = (n - 1 - j) + 1 by omega, Nat.pow_succ, ← Nat.mul_assoc]; omega
   have h6 : nx lens (j + 1) ≤ codeN lens i / 2 ^ (n - j) := (Nat.le_div_iff_mul_le (Nat.two_pow_pos _)).2 h5
   omega)
 rw [this, hv, hcn, Nat.add_sub_cancel_left]; have hcount := count_lt hi hn; rw [List.getD_eq_getElem?_getD, upto_get (by omega) hx.2 hcount, grp_at _ i (Nat.le_refl _) hi hn]; rfl
theorem code_get {lens : List Nat} {l : List Bool} {i n : Nat} (hw : Whole lens) (h : getC lens l = some (i, n)) : i < lens.length ∧ lens.getD i 0 = n ∧ 1 ≤ n ∧ n ≤ 20 ∧ n ≤ l.length ∧ l.take n = codeB lens i := by
 unfold getC at h; rw [Option.map_eq_some_iff] at h; obtain ⟨m, hm, he⟩ := h; rw [List.find?_range_eq_some] at hm; obtain ⟨h1, h2, h3⟩ := hm; rw [List.mem_range] at h2
 have hmiss : ∀ j, j < m → hit lens l j = false := fun j hj => by have := h3 j hj; simpa using this
 unfold hit at h1; rw [decide_eq_true_iff] at h1; have hge := miss_ge hmiss (by omega); have hnx := nx_eq lens (m + 1) (by omega)
 have hk : valB (l.take (m + 1)) - fst_ lens (m + 1) < lens.count (m + 1) := by omega
 have hg := upto_get (lens := lens) (by omega) (by omega) hk
 have hkl : valB (l.take (m + 1)) - fst_ lens (m + 1) < (grp lens lens.length (m + 1)).length := by rw [grp_len']; exact hk
 simp only [Prod.mk.injEq] at he; obtain ⟨he1, he2⟩ := he; rw [List.getD_eq_getElem?_getD, hg, List.getElem?_eq_getElem hkl, Option.getD_some] at he1; have hmem := grp_mem (he1 ▸ List.getElem_mem hkl); have hat := grp_at _ i (Nat.le_refl _) hmem.1 hmem.2
 -- the place in the group is the count
 have hnd : (grp lens lens.length (m + 1)).Nodup := List.Pairwise.filter _ List.nodup_range
 have hplace : (lens.take i).count (m + 1) = valB (l.take (m + 1)) - fst_ lens (m + 1) := by
   have h4 := (List.getElem?_eq_some_iff.1 hat); obtain ⟨h5, h6⟩ := h4; exact (List.getElem_inj hnd).1 (h6.trans he1.symm)
 subst he2; refine ⟨hmem.1, hmem.2, by omega, by omega, h1.1, ?_⟩; refine valB_inj (n := m + 1) (by rw [List.length_take]; omega) (by rw [codeB, bitsOf_len, hmem.2]) ?_; rw [codeB, hmem.2, valB_bitsOf]
 · rw [codeN, hmem.2]; omega
 · have := codeN_lt hmem.1 (by rw [hmem.2]; omega); rw [hmem.2] at this; exact Nat.lt_of_lt_of_le this (nx_le hw _ (by omega))
end Go.M10
namespace Go.Mc
open Go.M01 Go.Mb Go.Mp Go.M10
structure CS where
 size : Nat
 picks : PS
 lens : DS
 codes : List (List Nat)
 count : Nat
 done : Bool
def c0 (size : Nat) : CS := ⟨size, p0, d0 size, [], 0, false⟩
def withPicks (c : CS) : Res PS → Res (CS × Option Nat)
 | .short => .short
 | .bad e => .bad e
 | .ok p k => .ok (⟨c.size, p, c.lens, c.codes, c.count, c.done⟩, none) k
def withLens (c : CS) : Res DS → Res (CS × Option Nat)
 | .short => .short
 | .bad e => .bad e
 | .ok d k => if d.done = true then
     if share d.lens = 1048576 then .ok (⟨c.size, c.picks, d0 c.size, c.codes ++ [d.lens], c.count, c.done⟩, none) k else .bad 22
   else .ok (⟨c.size, c.picks, d, c.codes, c.count, c.done⟩, none) k
def withSymbol (c : CS) : Option (Nat × Nat) → Res (CS × Option Nat)
 | none => .short
 | some (s, k) => .ok (⟨c.size, c.picks, c.lens, c.codes, c.count + 1, decide (s = c.size - 1)⟩, some s) k
def CS.table (c : CS) : List Nat := c.codes.getD (c.picks.picks.getD (c.count / 50) 0) []
def cstep (c : CS) (l : List Bool) : Res (CS × Option Nat) :=
 if c.picks.done = false then withPicks c (pstep c.picks l)
 else if c.codes.length < c.picks.t then withLens c (dstep c.lens l)
 else if c.picks.picks.length ≤ c.count / 50 then .bad 25
 else withSymbol c (getC c.table l)
structure CS.Ok (c : CS) : Prop where
 pk : c.picks.Ok
 dl : c.lens.Ok
 s1 : 3 ≤ c.size
 s2 : c.size ≤ 258
 ds : c.lens.size = c.size
 dd : c.lens.done = false
 cl : c.codes.length ≤ c.picks.t
 cw : ∀ l ∈ c.codes, Whole l ∧ l.length = c.size
 ct : c.count ≤ 2000000
 cn : c.picks.done = false → c.codes = []
theorem d0_nd {n : Nat} (h : 3 ≤ n) : (d0 n).done = false := by unfold DS.done; exact decide_eq_false (by show ¬ 0 = n; omega)
theorem c0_ok {n : Nat} (h1 : 3 ≤ n) (h2 : n ≤ 258) : (c0 n).Ok := ⟨p0_ok, d0_ok n, h1, h2, rfl, d0_nd h1, Nat.zero_le _, fun l h => (List.not_mem_nil h).elim, by simp [c0], fun _ => rfl⟩
theorem pick_lt {c : CS} (h : c.Ok) (hd : c.picks.done = true) (hc : ¬ c.codes.length < c.picks.t) (hg : ¬ c.picks.picks.length ≤ c.count / 50) :
   ∃ x, c.picks.picks[c.count / 50]? = some x ∧ x < c.codes.length ∧ c.codes[x]? = some c.table ∧ Whole c.table ∧ c.table.length = c.size := by
 have hlt : c.count / 50 < c.picks.picks.length := by omega
 have hg : c.picks.picks[c.count / 50]? = some c.picks.picks[c.count / 50] := List.getElem?_eq_getElem hlt; have hx := h.pk.pks _ (List.getElem_mem hlt); have hcl := h.cl
 have hxl : c.picks.picks[c.count / 50] < c.codes.length := by omega
 have ht : c.table = c.codes[c.picks.picks[c.count / 50]] := by
   unfold CS.table; rw [List.getD_eq_getElem?_getD (l := c.picks.picks), hg, Option.getD_some, List.getD_eq_getElem?_getD, List.getElem?_eq_getElem hxl]; rfl
 have hw := h.cw _ (List.getElem_mem hxl); refine ⟨_, hg, hxl, ?_, ?_⟩
 · rw [ht]; exact List.getElem?_eq_getElem hxl
 · rw [ht]; exact hw
theorem cstep_ok {c c' : CS} {l : List Bool} {k : Nat} {o : Option Nat} (h : cstep c l = .ok (c', o) k) (hc : c.Ok) : c'.Ok ∧ c'.size = c.size ∧ (∀ s, o = some s → s < c.size) := by
 unfold cstep at h; split at h
 · rename_i hd; unfold withPicks at h; split at h
   · cases h
   · cases h
   · rename_i p k' hp; cases h; refine ⟨⟨pstep_ok hp hc.pk hd, hc.dl, hc.s1, hc.s2, hc.ds, hc.dd, ?_, hc.cw, hc.ct, fun _ => hc.cn hd⟩, rfl, fun s h => by cases h⟩; have := hc.cn hd; simp only [this]; exact Nat.zero_le _
 · rename_i hd; split at h
   · rename_i hlt; unfold withLens at h; split at h
     · cases h
     · cases h
     · rename_i d' k' hdl; have hdo := dstep_ok hdl hc.dl hc.dd
       have hsz : d'.size = c.size := by
         rw [← hc.ds]; unfold dstep turn at hdl
         repeat' split at hdl
         all_goals first
           | (cases hdl; rfl)
           | cases hdl
       split at h
       · rename_i hdn; split at h
         · rename_i hsh; cases h; refine ⟨⟨hc.pk, d0_ok _, hc.s1, hc.s2, rfl, d0_nd hc.s1, by simp; omega, ?_, hc.ct, fun h => absurd h hd⟩, rfl, fun s h => by cases h⟩; intro x hx; rcases List.mem_append.1 hx with h | h
           · exact hc.cw x h
           · rw [List.mem_singleton] at h; subst h; refine ⟨⟨hdo.all, hsh⟩, ?_⟩; unfold DS.done at hdn; rw [decide_eq_true_iff] at hdn; rw [hdn, hsz]
         · cases h
       · rename_i hdn; cases h; exact ⟨⟨hc.pk, hdo, hc.s1, hc.s2, hsz, by simpa using hdn, hc.cl, hc.cw, hc.ct, hc.cn⟩, rfl, fun s h => by cases h⟩
   · rename_i hlt; split at h
     · cases h
     · rename_i hg; unfold withSymbol at h; split at h
       · cases h
       · rename_i s k' hs; cases h; obtain ⟨x, h1, h2, h3, h4, h5⟩ := pick_lt hc (by simpa using hd) hlt hg; have h6 := code_get h4 hs; have h7 := hc.pk.cnt; have h8 := hc.pk.len; have h9 := hc.ct; refine ⟨⟨hc.pk, hc.dl, hc.s1, hc.s2, hc.ds, hc.dd, hc.cl, hc.cw, by simp only; omega, hc.cn⟩, rfl, fun s' h => by cases h; rw [← h5]; exact h6.1⟩
theorem cstep_bad {c : CS} {l : List Bool} {e : Nat} (h : cstep c l = .bad e) : e = 22 ∨ e = 25 := by
 unfold cstep at h; split at h
 · unfold withPicks at h; split at h
   · cases h
   · rename_i hp; cases h; exact .inr (pstep_bad hp)
   · cases h
 · split at h
   · unfold withLens at h; split at h
     · cases h
     · rename_i hp; cases h; exact .inl (dstep_bad hp)
     · split at h
       · split at h
         · cases h
         · cases h; exact .inl rfl
       · cases h
   · split at h
     · cases h; exact .inr rfl
     · unfold withSymbol at h; split at h
       · cases h
       · cases h
end Go.Mc
namespace Go.Vc
variable {P : Program} {w : World} {L : List HProp}
def mk (b : Nat) (t : TypeId) (cs : List Value) : HProp := blkO b (.cells cs.toArray t (cs.length, cs.length + 1))
theorem mk_cell (H : Holds w L) (i : Nat) {b : Nat} {t : TypeId} {cs : List Value} (hi : L[i]? = some (mk b t cs)) (o : Nat) : w.cell? ⟨b, o, none⟩ = cs[o]? := by
 have := H.obj i hi; simp [World.cell?, this]
theorem mk_frozen (H : Holds w L) (i : Nat) {b : Nat} {t : TypeId} {cs : List Value} (hi : L[i]? = some (mk b t cs)) {o : Nat} (ho : o < cs.length) : w.frozen? ⟨b, o, none⟩ = false := by
 have := H.obj i hi; simp [World.frozen?, this]; omega
theorem mk_set (H : Holds w L) (i : Nat) {b : Nat} {t : TypeId} {cs : List Value} (hi : L[i]? = some (mk b t cs)) (o : Nat) (v : Value) :
   Holds (w.setCell ⟨b, o, none⟩ v) (L.set i (mk b t (cs.set o v))) := by
 have h := H.obj i hi; refine H.upd i hi ?_ fun c hc => ?_
 · simp [World.setCell, Array.getElem?_modify, h]
 · simp only [World.setCell, Array.getElem?_modify]; rw [if_neg (by simpa using fun h => hc h.symm)]
theorem mk_setCells (i : Nat) {b : Nat} {t : TypeId} : ∀ (vs : List Value) (o : Nat) {w : World} {L : List HProp} {cs : List Value}, Holds w L → L[i]? = some (mk b t cs) → o + vs.length ≤ cs.length →
   Same w (w.setCells b o vs) ∧ Holds (w.setCells b o vs) (L.set i (mk b t (cs.take o ++ (vs ++ cs.drop (o + vs.length)))))
 | [], o, w, L, cs, H, hi, hl => by
   refine ⟨Same.refl w, ?_⟩; rw [List.nil_append, List.length_nil, Nat.add_zero, List.take_append_drop]; have hl : i < L.length := (List.getElem?_eq_some_iff.1 hi).1; have e1 : L[i] = _ := (List.getElem?_eq_some_iff.1 hi).2; rw [← e1, List.set_getElem_self]; exact H
 | v :: vs, o, w, L, cs, H, hi, hl => by
   rw [List.length_cons] at hl; have h1 := mk_set H i hi o v; obtain ⟨S2, h2⟩ := mk_setCells i vs (o + 1) h1 (set_get hi) (by rw [List.length_set]; omega); refine ⟨(Same.setCell w _ v).trans S2, ?_⟩; rw [List.set_set] at h2
   have e : (cs.set o v).take (o + 1) ++ (vs ++ (cs.set o v).drop (o + 1 + vs.length)) = cs.take o ++ (v :: vs ++ cs.drop (o + (v :: vs).length)) := by
     have h3 : (cs.set o v)[o]? = some v := by rw [List.getElem?_set_self (by omega)]
     rw [List.take_add_one, h3, List.take_set_of_le (Nat.le_refl o), List.drop_set_of_lt (by omega), List.length_cons, show o + 1 + vs.length = o + (vs.length + 1) by omega]; simp
   rw [e] at h2; exact h2
def SM (e : TypeId) (v : Value) (xs : List UInt8) : HProp := fun h => ∃ b sp, v = .slice (some ⟨b, 0, none⟩) xs.length (xs.length + sp.length) ∧ mk b e (xs.map bv ++ sp) h
theorem SM_open (H : Holds w L) (i : Nat) {e : TypeId} {v : Value} {xs : List UInt8} (hi : L[i]? = some (SM e v xs)) : ∃ b sp, v = .slice (some ⟨b, 0, none⟩) xs.length (xs.length + sp.length) ∧ Holds w (L.set i (mk b e (xs.map bv ++ sp))) := by
 obtain ⟨g, ⟨b, sp, hv, hg⟩, hs, hL⟩ := H.front i hi; exact ⟨b, sp, hv, Sat.push i hi ⟨g, hg, hs, hL⟩⟩
theorem SM_close (H : Holds w L) (i : Nat) {e : TypeId} {b : Nat} {xs : List UInt8} {sp : List Value} (hi : L[i]? = some (mk b e (xs.map bv ++ sp))) : Holds w (L.set i (SM e (.slice (some ⟨b, 0, none⟩) xs.length (xs.length + sp.length)) xs)) :=
 H.at i hi fun g hg => ⟨b, sp, rfl, hg⟩
theorem r_lnM (i : Nat) (H : Holds w L) {e : TypeId} {v : Value} {xs : List UInt8} {K : Value → Prop} (hi : L[i]? = some (SM e v xs)) (h : K (nv xs.length)) : Lnl v K := by
 obtain ⟨b, sp, rfl, _⟩ := SM_open H i hi; exact r_lnl h
theorem r_getM (i : Nat) (H : Holds w L) {e : TypeId} {v : Value} {xs : List UInt8} {k : IntKind} {j : Nat} {x : UInt8} {K : Value → Prop} (hi : L[i]? = some (SM e v xs)) (hx : xs[j]? = some x) (h : K (bv x)) :
   Ias 1 v (.int k (j : Int)) fun p => Ld p w K := by
 obtain ⟨b, sp, rfl, H1⟩ := SM_open H i hi; have hj : j < xs.length := (List.getElem?_eq_some_iff.1 hx).1; refine r_ias (by omega) (by omega) ?_; rw [Int.toNat_natCast, Nat.zero_add, Nat.mul_one]; refine r_ldP ?_ h; rw [mk_cell H1 i (set_get hi), List.getElem?_append_left (by simpa using hj), List.getElem?_map, hx]; rfl
theorem r_setM (i : Nat) (H : Holds w L) {e : TypeId} {v : Value} {xs : List UInt8} {k : IntKind} {j : Nat} (x : UInt8) {K : World → Prop} (hi : L[i]? = some (SM e v xs)) (hj : j < xs.length)
   (h : ∀ w', Same w w' → Holds w' (L.set i (SM e v (xs.set j x))) → K w') : Ias 1 v (.int k (j : Int)) fun p => St p (bv x) w K := by
 obtain ⟨b, sp, rfl, H1⟩ := SM_open H i hi; refine r_ias (by omega) (by omega) ?_; rw [Int.toNat_natCast, Nat.zero_add, Nat.mul_one]
 have hc : (xs.map bv ++ sp)[j]? = some (bv xs[j]) := by rw [List.getElem?_append_left (by simpa using hj), List.getElem?_map, List.getElem?_eq_getElem hj]; rfl
 refine ⟨_, bv xs[j], rfl, by rw [mk_cell H1 i (set_get hi), hc], mk_frozen H1 i (set_get hi) (by simp; omega), rfl, h _ (Same.setCell _ _ _) ?_⟩; have H2 := mk_set H1 i (set_get hi) j (bv x); rw [List.set_set, List.set_append_left _ _ (by simpa using hj), ← List.map_set] at H2; have H3 := SM_close H2 i (set_get hi); rw [List.set_set, List.length_set] at H3; exact H3
theorem r_cpM {t e : TypeId} {z : Value} [hr : Row P t e z] (H : Holds w L) (q : Nat) {b : Nat} {xs : List UInt8} {sp : List Value} {i : Nat} {ty : TypeId} {K : Value → World → Prop}
   (hq : L[q]? = some (mk b e (xs.map bv ++ sp))) (hi : i < xs.length) (h : ∀ v w', Same w w' → Holds w' (L.set q (mk b e ((xs.take 1 ++ (xs.take i ++ xs.drop (i + 1))).map bv ++ sp))) → K v w') :
   Cp P #[t, t] ty #[.slice (if xs.length + sp.length = 1 then some ⟨b, 0, none⟩ else (some (⟨b, 0, none⟩ : Addr)).map (·.add (1 * 1))) (i + 1 - 1) (xs.length + sp.length - 1), .slice (some ⟨b, 0, none⟩) i (xs.length + sp.length)] w K := by
 obtain ⟨inf, hinf, hsz, hby, hzz⟩ := hr.inf
 have hinf1 : (P.info? e).map (·.size) = some 1 := by rw [hinf]; simp [hsz]
 rcases Nat.eq_zero_or_pos i with h0 | h0
 · subst h0; refine r_cp (run_copy_none w t t ty e _ _ _ _ 0 _ hr.und hinf1 rfl) (h _ _ (.refl _) ?_)
   rw [List.take_zero, List.nil_append, Nat.zero_add, List.take_append_drop, show L.set q (mk b e (xs.map bv ++ sp)) = L from by
     have hl : q < L.length := (List.getElem?_eq_some_iff.1 hq).1; have e1 : L[q] = _ := (List.getElem?_eq_some_iff.1 hq).2
     rw [← e1, List.set_getElem_self]]
   exact H
 · have hne : ¬ xs.length + sp.length = 1 := by omega
   rw [if_neg hne]; have ea : (some (⟨b, 0, none⟩ : Addr)).map (·.add (1 * 1)) = some ⟨b, 1, none⟩ := rfl; rw [ea]
   have hcl : ((xs.take i).map bv).length = i := by simp; omega
   have hcs : (xs.map bv ++ sp).length = xs.length + sp.length := by simp
   have hrun := run_copy_cells (P := P) w t t ty e b 1 (i + 1 - 1) (xs.length + sp.length - 1) ⟨b, 0, none⟩ i (xs.length + sp.length) ((xs.take i).map bv) hr.und hinf1
     (by rw [hcl, Nat.add_sub_cancel]; exact (Nat.min_self i).symm) (fun j v hv => by
       have e1 : (⟨b, 0, none⟩ : Addr).add j = ⟨b, j, none⟩ := by
         unfold Addr.add; split
         · rename_i h; rw [h]
         · simp
       rw [e1, mk_cell H q hq j]
       have hj : j < i := by have := (List.getElem?_eq_some_iff.1 hv).1; rw [hcl] at this; exact this
       rw [List.getElem?_append_left (by simp; omega), ← hv, List.getElem?_map, List.getElem?_map, List.getElem?_take_of_lt hj])
     (fun j hj => by rw [mk_cell H q hq, List.getElem?_eq_getElem (by rw [hcs]; omega)]; rfl)
     (fun j hj => mk_frozen H q hq (by rw [hcs]; omega)) (fun v hv => by
       obtain ⟨y, _, rfl⟩ := List.mem_map.1 hv
       rfl)
   obtain ⟨S2, H2⟩ := mk_setCells q ((xs.take i).map bv) 1 H hq (by rw [hcl, hcs]; omega); refine r_cp hrun (h _ _ S2 ?_)
   have e : (xs.map bv ++ sp).take 1 ++ ((xs.take i).map bv ++ (xs.map bv ++ sp).drop (1 + ((xs.take i).map bv).length)) = (xs.take 1 ++ (xs.take i ++ xs.drop (i + 1))).map bv ++ sp := by
     rw [hcl, List.take_append_of_le_length (by simp; omega), List.drop_append_of_le_length (by simp; omega)]; simp [Nat.add_comm]
   rw [e] at H2; exact H2
theorem r_csb {t e d : TypeId} [hr : Bytes P t e d] (H : Holds w L) {s : List UInt8} {K : Value → World → Prop} (h : ∀ v w', Same w w' → Holds w' (SM e v s :: L) → K v w') : Cw P d t (.string ⟨s.toArray⟩) w K := by
 have hrun := run_bytes_of_string (P := P) w d t e ⟨s.toArray⟩ hr.str hr.und hr.el; refine ⟨_, _, hrun, h _ _ ((Same.drew w).trans (.alloc _ _)) ?_⟩; have hcap := grownCap_ge w (⟨s.toArray⟩ : ByteArray).size 0 e
 have hsz : (⟨s.toArray⟩ : ByteArray).size = s.length := by show s.toArray.size = _; simp
 rw [hsz] at hcap ⊢; generalize grownCap w s.length 0 e = cap at hcap ⊢
 have hb : bytesRow ⟨s.toArray⟩ cap = (s.map bv ++ List.replicate (cap - s.length) (Value.int .u8 0)).toArray := by
   unfold bytesRow; rw [hsz]; apply Array.ext'; simp
 have H2 := (H.same (w' := w.drew) rfl).alloc (.cells (bytesRow ⟨s.toArray⟩ cap) e ((bytesRow ⟨s.toArray⟩ cap).size, (bytesRow ⟨s.toArray⟩ cap).size + 1)); refine Holds.imp H2 fun g hg => ⟨w.heap.size, List.replicate (cap - s.length) (Value.int .u8 0), ?_, ?_⟩
 · rw [List.length_replicate, show s.length + (cap - s.length) = cap by omega]
 · unfold mk; rw [hb] at hg
   have e1 : (s.map bv ++ List.replicate (cap - s.length) (Value.int .u8 0)).toArray.size = (s.map bv ++ List.replicate (cap - s.length) (Value.int .u8 0)).length := by simp
   rw [e1] at hg; exact hg
end Go.Vc
namespace Go.Mz
structure ZS where
 n : Nat
 most : Nat
 told : Nat
 zeros : Nat
 weight : Nat
 done : Bool
def z0 (n most : Nat) : ZS := ⟨n, most, 0, 0, 1, false⟩
def zput (z : ZS) (c : Nat) : Option (ZS × Nat × Int) :=
 if c ≤ 1 then
   if z.most < z.told + z.zeros + z.weight * 2 ^ c then none
   else some (⟨z.n, z.most, z.told, z.zeros + z.weight * 2 ^ c, z.weight * 2, false⟩, 0, -1)
 else if c = z.n + 1 then some (⟨z.n, z.most, z.told + z.zeros, 0, 1, true⟩, z.zeros, -1)
 else if z.told + z.zeros = z.most then none
 else some (⟨z.n, z.most, z.told + 1 + z.zeros, 0, 1, false⟩, z.zeros, (c : Int) - 1)
structure ZS.Ok (z : ZS) : Prop where
 n1 : 1 ≤ z.n
 n2 : z.n ≤ 256
 most : z.most ≤ 900000
 sum : z.told + z.zeros ≤ z.most
 w1 : 1 ≤ z.weight
 w2 : z.weight ≤ z.zeros + 1
theorem z0_ok {n m : Nat} (h1 : 1 ≤ n) (h2 : n ≤ 256) (h3 : m ≤ 900000) : (z0 n m).Ok := ⟨h1, h2, h3, Nat.zero_le _, Nat.le_refl _, by simp [z0]⟩
theorem zput_ok {z z' : ZS} {c d : Nat} {p : Int} (hz : z.Ok) (h : zput z c = some (z', d, p)) : z'.Ok := by
 obtain ⟨h1, h2, h3, h4, h5, h6⟩ := hz; unfold zput at h; split at h
 · split at h
   · cases h
   · cases h; rename_i hc _
     have : c = 0 ∨ c = 1 := by omega
     rcases this with rfl | rfl
     · exact ⟨h1, h2, h3, by simp only at *; omega, by simp only at *; omega, by simp only at *; omega⟩
     · exact ⟨h1, h2, h3, by simp only at *; omega, by simp only at *; omega, by simp only at *; omega⟩
 · split at h
   · cases h; exact ⟨h1, h2, h3, by simp only at *; omega, by simp only at *; omega, by simp only at *; omega⟩
   · split at h
     · cases h
     · cases h; exact ⟨h1, h2, h3, by simp only at *; omega, by simp only at *; omega, by simp only at *; omega⟩
def frontB (o : List UInt8) (i : Nat) : List UInt8 := o.getD i 0 :: (o.take i ++ o.drop (i + 1))
theorem frontB_len {o : List UInt8} {i : Nat} (h : i < o.length) : (frontB o i).length = o.length := by
 simp only [frontB, List.length_cons, List.length_append, List.length_take, List.length_drop]; omega
def listed (T : Nat → Bool) : List UInt8 := ((List.range 256).filter T).map UInt8.ofNat
theorem listed_len (T : Nat → Bool) : (listed T).length ≤ 256 := by
 rw [listed, List.length_map]; exact Nat.le_trans (List.length_filter_le _ _) (by simp)
theorem listed_lt (T : Nat → Bool) : (listed T).Pairwise fun a b => a.toNat < b.toNat := by
 unfold listed; rw [List.pairwise_map]; refine List.Pairwise.imp_of_mem (R := fun a b => a < b) (fun {a b} ha hb h => ?_) (List.Pairwise.filter _ List.pairwise_lt_range); have h1 := List.mem_range.1 (List.mem_filter.1 ha).1; have h2 := List.mem_range.1 (List.mem_filter.1 hb).1; rw [UInt8.toNat_ofNat_of_lt' (by simpa using h1), UInt8.toNat_ofNat_of_lt' (by simpa using h2)]; exact h
theorem listed_step (T : Nat → Bool) (i : Nat) (h : i + 1 < (listed T).length) : ((listed T).getD i 0).toNat < ((listed T).getD (i + 1) 0).toNat := by
 have := List.pairwise_iff_getElem.1 (listed_lt T) i (i + 1) (by omega) h (by omega); rw [List.getD_eq_getElem?_getD, List.getD_eq_getElem?_getD, List.getElem?_eq_getElem (by omega), List.getElem?_eq_getElem h]; exact this
open Go.M01 Go.Mb Go.Mp
def marksL (q : List Bool) : List Nat := (List.range 16).filter fun i => q.getD i false
def usedT : List Nat → List Bool → Nat → Bool
 | [], _, _ => false
 | i :: ms, l, b => (decide (b / 16 = i) && l.getD (b % 16) false) || usedT ms (l.drop 16) b
def uread (l : List Bool) : Res (Nat → Bool) :=
 if l.length < 16 then .short
 else if l.length < 16 + 16 * (marksL (l.take 16)).length then .short
 else if listed (usedT (marksL (l.take 16)) (l.drop 16)) = [] then .bad 25
 else .ok (usedT (marksL (l.take 16)) (l.drop 16)) (16 + 16 * (marksL (l.take 16)).length)
theorem marksL_lt {q : List Bool} {i : Nat} (h : i ∈ marksL q) : i < 16 := List.mem_range.1 (List.mem_filter.1 h).1
theorem marksL_len (q : List Bool) : (marksL q).length ≤ 16 := Nat.le_trans (List.length_filter_le _ _) (by simp)
theorem marksL_mem {q : List Bool} {i : Nat} : i ∈ marksL q ↔ i < 16 ∧ q.getD i false = true := by
 unfold marksL; rw [List.mem_filter, List.mem_range]
theorem usedT_snoc (i b : Nat) : ∀ (ms : List Nat) (l : List Bool), usedT (ms ++ [i]) l b = (usedT ms l b || (decide (b / 16 = i) && (l.drop (16 * ms.length)).getD (b % 16) false))
 | [], l => by simp [usedT]
 | j :: ms, l => by
   rw [List.cons_append, usedT, usedT_snoc i b ms, usedT, List.drop_drop, List.length_cons, show 16 + 16 * ms.length = 16 * (ms.length + 1) by omega, Bool.or_assoc]
theorem uread_bad {l : List Bool} {c : Nat} (h : uread l = .bad c) : c = 25 := by
 unfold uread at h; split at h
 · cases h
 · split at h
   · cases h
   · split at h
     · cases h; rfl
     · cases h
def boolsT (T : Nat → Bool) : List Bool := (List.range 256).map T
theorem boolsT_len (T : Nat → Bool) : (boolsT T).length = 256 := by simp [boolsT]
theorem boolsT_set (T : Nat → Bool) (x : Nat) : (boolsT T).set x true = boolsT fun b => T b || decide (b = x) := by
 apply List.ext_getElem
 · simp [boolsT]
 intro i h1 h2; rw [List.getElem_set]; simp only [boolsT, List.getElem_map, List.getElem_range]
 by_cases h : x = i
 · subst h; simp
 · rw [if_neg h, decide_eq_false (fun e => h e.symm), Bool.or_false]
theorem boolsT_get (T : Nat → Bool) {i : Nat} (h : i < 256) : (boolsT T)[i]? = some (T i) := by rw [boolsT, List.getElem?_map, List.getElem?_range h]; rfl
theorem boolsT_false : boolsT (fun _ => false) = List.replicate 256 false := by rw [boolsT, List.map_const', List.length_range]
end Go.Mz
namespace Go.Mk
open Go.M01 Go.Mb Go.Mp Go.M10 Go.Mc Go.Mz
structure RS where
 code : CS
 zeros : ZS
 list : List UInt8
 due : Nat
 place : Nat
structure BS where
 room : Nat
 head : Bool
 sum : Nat
 frm : Nat
 row : Option RS
 last : List UInt8
 done : Bool
def b0 (room : Nat) : BS := ⟨room, false, 0, 0, none, [], false⟩
def rowOf (T : Nat → Bool) (room : Nat) : RS := ⟨c0 ((listed T).length + 2), z0 (listed T).length room, listed T, 0, 0⟩
def RS.waits (r : RS) : Bool := decide (0 < r.due) || decide (0 < r.place)
def RS.at_ (r : RS) : Nat := if 0 < r.due then 0 else r.place
def RS.next (r : RS) : RS := ⟨r.code, r.zeros, frontB r.list r.at_, r.due - 1, if 0 < r.due then r.place else 0⟩
def RS.byte (r : RS) : UInt8 := r.list.getD r.at_ 0
def bend (b : BS) (k : Nat) : Res BS :=
 match b.row with
 | none => .ok b k
 | some r => if r.code.done = false ∨ r.waits = true then .ok b k
   else if b.last.length ≤ b.frm then .bad 23
   else .ok ⟨b.room, b.head, b.sum, b.frm, b.row, b.last, true⟩ k
def btold (b : BS) (r : RS) (c : CS) (s k : Nat) : Res BS :=
 match zput r.zeros s with
 | none => .bad 25
 | some (z, d, p) => bend ⟨b.room, b.head, b.sum, b.frm, some ⟨c, z, r.list, d, p.toNat⟩, b.last, b.done⟩ k
def bsym (b : BS) (r : RS) : Res (CS × Option Nat) → Res BS
 | .short => .short
 | .bad e => .bad e
 | .ok (c, none) k => bend ⟨b.room, b.head, b.sum, b.frm, some ⟨c, r.zeros, r.list, r.due, r.place⟩, b.last, b.done⟩ k
 | .ok (c, some s) k => btold b r c s k
def buse (b : BS) : Res (Nat → Bool) → Res BS
 | .short => .short
 | .bad e => .bad e
 | .ok T k => bend ⟨b.room, b.head, b.sum, b.frm, some (rowOf T b.room), b.last, b.done⟩ k
def bhead (b : BS) (l : List Bool) : Res BS :=
 if l.length < 57 then .short
 else if valB ((l.drop 32).take 1) = 1 then .bad 25
 else bend ⟨b.room, true, valB (l.take 32), valB ((l.drop 33).take 24), b.row, b.last, b.done⟩ 57
def bnext (b : BS) (r : RS) : Res BS := bend ⟨b.room, b.head, b.sum, b.frm, some r.next, b.last ++ [r.byte], b.done⟩ 0
def bstep (b : BS) (l : List Bool) : Res BS :=
 if b.head = false then bhead b l
 else match b.row with
   | none => buse b (uread l)
   | some r => if r.waits = true then bnext b r else bsym b r (cstep r.code l)
structure RS.Ok (r : RS) : Prop where
 code : r.code.Ok
 zeros : r.zeros.Ok
 zd : r.zeros.done = r.code.done
 size : r.code.size = r.zeros.n + 2
 list : r.list.length = r.zeros.n
 place : r.place < r.zeros.n
structure BS.Ok (b : BS) : Prop where
 room : b.room ≤ 900000
 sum : b.sum < 4294967296
 frm : b.frm < 16777216
 none_ : b.row = none → b.last = [] ∧ b.done = false
 some_ : ∀ r, b.row = some r → b.head = true ∧ r.Ok ∧ r.zeros.most = b.room ∧ b.last.length + r.due + (if 0 < r.place then 1 else 0) = r.zeros.told ∧ (b.done = false → r.code.done = true → r.waits = true)
theorem b0_ok {n : Nat} (h : n ≤ 900000) : (b0 n).Ok := ⟨h, by simp [b0], by simp [b0], fun _ => ⟨rfl, rfl⟩, fun r h => by simp [b0] at h⟩
theorem rowOf_ok {T : Nat → Bool} {room : Nat} (hT : listed T ≠ []) (hr : room ≤ 900000) : (rowOf T room).Ok := by
 have h1 := listed_len T; have h2 : 0 < (listed T).length := List.length_pos_iff.2 hT; exact ⟨c0_ok (by omega) (by omega), z0_ok (by omega) h1 hr, rfl, rfl, rfl, h2⟩
structure Pre (b : BS) : Prop where
 room : b.room ≤ 900000
 sum : b.sum < 4294967296
 frm : b.frm < 16777216
 none_ : b.row = none → b.last = []
 some_ : ∀ r, b.row = some r → b.head = true ∧ r.Ok ∧ r.zeros.most = b.room ∧ b.last.length + r.due + (if 0 < r.place then 1 else 0) = r.zeros.told
 done : b.done = false
theorem bend_ok {b b' : BS} {k k' : Nat} (hp : Pre b) (h : bend b k = .ok b' k') : b'.Ok ∧ k' = k := by
 unfold bend at h; split at h
 · rename_i hr; cases h; exact ⟨⟨hp.room, hp.sum, hp.frm, fun h => ⟨hp.none_ h, hp.done⟩, fun r h => (by rw [hr] at h; cases h)⟩, rfl⟩
 · rename_i r hr; have hs := hp.some_ r hr; split at h
   · rename_i hc; cases h; refine ⟨⟨hp.room, hp.sum, hp.frm, fun h => (by rw [hr] at h; cases h), fun r' h => ?_⟩, rfl⟩; rw [hr] at h; cases h; refine ⟨hs.1, hs.2.1, hs.2.2.1, hs.2.2.2, fun _ h2 => ?_⟩; rcases hc with h3 | h3
     · rw [h2] at h3; cases h3
     · exact h3
   · split at h
     · cases h
     · cases h; refine ⟨⟨hp.room, hp.sum, hp.frm, fun h => (by simp only [hr] at h; cases h), fun r' h => ?_⟩, rfl⟩; simp only [hr] at h; cases h; exact ⟨hs.1, hs.2.1, hs.2.2.1, hs.2.2.2, fun h => by cases h⟩
theorem next_pre {b : BS} {r : RS} (hb : b.Ok) (hd : b.done = false) (hr : b.row = some r) (hw : r.waits = true) : Pre ⟨b.room, b.head, b.sum, b.frm, some r.next, b.last ++ [r.byte], b.done⟩ := by
 obtain ⟨h1, h2, h3, h4, h5⟩ := hb.some_ r hr; refine ⟨hb.room, hb.sum, hb.frm, fun h => (by cases h), fun r' h => ?_, hd⟩; cases h; have hp := h2.place
 have hat : r.at_ < r.list.length := by
   have := h2.list; unfold RS.at_
   split <;> omega
 refine ⟨h1, ⟨h2.code, h2.zeros, h2.zd, h2.size, by rw [RS.next, frontB_len hat]; exact h2.list, ?_⟩, h3, ?_⟩
 · simp only [RS.next]; split <;> omega
 · unfold RS.waits at hw; simp only [Bool.or_eq_true, decide_eq_true_iff] at hw; show (b.last ++ [r.byte]).length + (r.due - 1) + (if 0 < r.next.place then 1 else 0) = r.zeros.told; rw [List.length_append, List.length_singleton]
   by_cases h0 : 0 < r.due
   · have e : r.next.place = r.place := by simp [RS.next, h0]
     simp only [e]; omega
   · have hpl : 0 < r.place := by omega
     have e : r.next.place = 0 := by simp [RS.next, h0]
     rw [if_pos hpl] at h4; simp only [e, Nat.lt_irrefl, if_false]; omega
theorem told_pre {b : BS} {r : RS} {c : CS} {z : ZS} {s d k : Nat} {p : Int} {l : List Bool} (hb : b.Ok) (hd : b.done = false) (hr : b.row = some r) (hw : r.waits = false)
   (hc : cstep r.code l = .ok (c, some s) k) (hz : zput r.zeros s = some (z, d, p)) : Pre ⟨b.room, b.head, b.sum, b.frm, some ⟨c, z, r.list, d, p.toNat⟩, b.last, b.done⟩ := by
 obtain ⟨h1, h2, h3, h4, h5⟩ := hb.some_ r hr; have hco := cstep_ok hc h2.code; have hzo := zput_ok h2.zeros hz; have hsz := h2.size; have hs := hco.2.2 s rfl
 have hcd : c.done = decide (s = r.code.size - 1) := by
   unfold cstep at hc; split at hc
   · unfold withPicks at hc
     split at hc <;> cases hc
   · split at hc
     · unfold withLens at hc
       repeat' split at hc
       all_goals cases hc
     · split at hc
       · cases hc
       · unfold withSymbol at hc; split at hc
         · cases hc
         · cases hc; rfl
 unfold RS.waits at hw; simp only [Bool.or_eq_false_iff, decide_eq_false_iff_not] at hw; rw [if_neg hw.2] at h4; refine ⟨hb.room, hb.sum, hb.frm, fun h => (by cases h), fun r' h => ?_, hd⟩; cases h; unfold zput at hz; have hn1 := h2.zeros.n1; split at hz
 · rename_i hc1; split at hz
   · cases hz
   · cases hz; refine ⟨h1, ⟨hco.1, hzo, ?_, by rw [hco.2.1]; exact hsz, h2.list, by simp only; omega⟩, h3, ?_⟩
     · rw [hcd]; simp only; exact (decide_eq_false (by omega)).symm
     · simp only [show ((-1 : Int)).toNat = 0 from rfl, Nat.lt_irrefl, if_false]; omega
 · rename_i hc1; split at hz
   · rename_i hc2; cases hz; refine ⟨h1, ⟨hco.1, hzo, ?_, by rw [hco.2.1]; exact hsz, h2.list, by simp only; omega⟩, h3, ?_⟩
     · rw [hcd]; simp only; exact (decide_eq_true (by omega)).symm
     · simp only [show ((-1 : Int)).toNat = 0 from rfl, Nat.lt_irrefl, if_false]; omega
   · rename_i hc2; split at hz
     · cases hz
     · cases hz; refine ⟨h1, ⟨hco.1, hzo, ?_, by rw [hco.2.1]; exact hsz, h2.list, by simp only; omega⟩, h3, ?_⟩
       · rw [hcd]; simp only; exact (decide_eq_false (by omega)).symm
       · simp only; rw [if_pos (by omega)]; omega
theorem code_none {c c' : CS} {l : List Bool} {k : Nat} (h : cstep c l = .ok (c', none) k) : c'.done = c.done := by
 unfold cstep at h; split at h
 · unfold withPicks at h
   split at h <;> cases h
   rfl
 · split at h
   · unfold withLens at h
     repeat' split at h
     all_goals cases h
     all_goals rfl
   · split at h
     · cases h
     · unfold withSymbol at h
       split at h <;> cases h
theorem sym_pre {b : BS} {r : RS} {c : CS} {k : Nat} {l : List Bool} (hb : b.Ok) (hd : b.done = false) (hr : b.row = some r) (hc : cstep r.code l = .ok (c, none) k) :
   Pre ⟨b.room, b.head, b.sum, b.frm, some ⟨c, r.zeros, r.list, r.due, r.place⟩, b.last, b.done⟩ := by
 obtain ⟨h1, h2, h3, h4, h5⟩ := hb.some_ r hr; have hco := cstep_ok hc h2.code; refine ⟨hb.room, hb.sum, hb.frm, fun h => (by cases h), fun r' h => ?_, hd⟩; cases h; exact ⟨h1, ⟨hco.1, h2.zeros, by rw [code_none hc]; exact h2.zd, by rw [hco.2.1]; exact h2.size, h2.list, h2.place⟩, h3, h4⟩
theorem use_pre {b : BS} {T : Nat → Bool} (hb : b.Ok) (hh : b.head = true) (hr : b.row = none) (hT : listed T ≠ []) : Pre ⟨b.room, b.head, b.sum, b.frm, some (rowOf T b.room), b.last, b.done⟩ := by
 have hn := hb.none_ hr; refine ⟨hb.room, hb.sum, hb.frm, fun h => (by cases h), fun r' h => ?_, hn.2⟩; cases h; exact ⟨hh, rowOf_ok hT hb.room, rfl, by rw [hn.1]; rfl⟩
theorem head_pre {b : BS} {s f : Nat} (hb : b.Ok) (hh : b.head = false) (hs : s < 4294967296) (hf : f < 16777216) : b.row = none ∧ Pre ⟨b.room, true, s, f, b.row, b.last, b.done⟩ := by
 have hr : b.row = none := by
   cases hr : b.row with
   | none => rfl
   | some r => have := (hb.some_ r hr).1; rw [hh] at this; cases this
 have hn := hb.none_ hr; exact ⟨hr, hb.room, hs, hf, fun _ => hn.1, fun r h => (by simp only at h; rw [hr] at h; cases h), hn.2⟩
theorem waits_or {b : BS} {r : RS} (hb : b.Ok) (hd : b.done = false) (hr : b.row = some r) (hw : r.waits = false) : r.code.done = false := by
 cases hc : r.code.done with
 | false => rfl
 | true =>
   have := (hb.some_ r hr).2.2.2.2 hd hc; rw [hw] at this; cases this
theorem bend_bad {b : BS} {k e : Nat} (h : bend b k = .bad e) : e = 23 := by
 unfold bend at h; split at h
 · cases h
 · split at h
   · cases h
   · split at h
     · cases h; rfl
     · cases h
theorem bstep_bad {b : BS} {l : List Bool} {e : Nat} (h : bstep b l = .bad e) : e = 22 ∨ e = 23 ∨ e = 25 := by
 unfold bstep at h; split at h
 · unfold bhead at h; split at h
   · cases h
   · split at h
     · cases h; exact .inr (.inr rfl)
     · exact .inr (.inl (bend_bad h))
 · split at h
   · unfold buse at h; split at h
     · cases h
     · rename_i hu; cases h; exact .inr (.inr (uread_bad hu))
     · exact .inr (.inl (bend_bad h))
   · split at h
     · exact .inr (.inl (bend_bad h))
     · unfold bsym at h; split at h
       · cases h
       · rename_i hu; cases h; rcases cstep_bad hu with h | h
         · exact .inl h
         · exact .inr (.inr h)
       · exact .inr (.inl (bend_bad h))
       · unfold btold at h; split at h
         · cases h; exact .inr (.inr rfl)
         · exact .inr (.inl (bend_bad h))
end Go.Mk
namespace Go.Proofs.YtlppejfnjhkbpaaGreat
open Go Go.Vc
attribute [local irreducible] Vc.Nc Vc.Ld Vc.LdA Vc.St Vc.StA Vc.Fo Vc.Iaa Vc.Ias Vc.Ixs Vc.Ixa Vc.Fd Vc.FdA Vc.Bp Vc.Bb Vc.Bn Vc.Up Vc.Ci Vc.Lns Vc.Lnl Vc.Ex Vc.Sst Vc.Ssl Vc.New Vc.Vif Vc.VJoin Vc.VLoop Vc.KE Vc.Dr Vc.Rk Vc.Cl Vc.Cx Vc.Inv Vc.Be Vc.Cv Vc.Cw Vc.Mf Vc.Sl Vc.Lk Vc.Bd Vc.Bs Vc.Ms Vc.Mm Vc.Mu Vc.Me Vc.Es Vc.Rg Vc.Nx Vc.Ta Vc.Ap Vc.Usd Vc.Ust Vc.Cp Vc.Ln Vc.Bc Vc.Bmin Vc.Bmax Vc.Bdel Vc.Bclr Vc.Pk
instance rowI : Row Tryz.prog 103 3 (.int .i64 0) := ⟨by kernel_rfl, ⟨Tryz.t3, by kernel_rfl, by kernel_rfl, by decide, by kernel_rfl⟩, rfl⟩
instance rowB : Row Tryz.prog 53 5 (.int .u8 0) := ⟨by kernel_rfl, ⟨Tryz.t5, by kernel_rfl, by kernel_rfl, by decide, by kernel_rfl⟩, rfl⟩
instance bytesB : Bytes Tryz.prog 53 5 9 := ⟨by kernel_rfl, by kernel_rfl, by kernel_rfl⟩
abbrev tI : Nat := 3
abbrev tB : Nat := 5
abbrev pt (b : Nat) : Value := .pointer (some ⟨b, 0, none⟩)
section
variable {w : World} {L : List HProp} {K : Value → World → Prop}
theorem sg_nv (n : Nat) : sg (nv n) = true := rfl
theorem eq_nilI (oa : Option Addr) (l c : Nat) {K : Value → Prop} (k : K (.bool oa.isNone)) : Be Tryz.prog .eql 103 (.tmp 3) (.const (.slice none 0 0)) (.slice oa l c) (.slice none 0 0) w K := by
 cases oa with
 | none => exact r_be (v := .bool true) (by kernel_rfl) k
 | some a => exact r_be (v := .bool false) (by kernel_rfl) k
theorem Clone_spec (H : Holds w L) (j : Nat) {v : Value} {xs : List Nat} (hj : L[j]? = some (SL nv tI v xs)) (hn : xs.length ≤ 1000000000) (k : ∀ v' w', Same w w' → Holds w' (SL nv tI v' xs :: L) → K v' w') : Cl Tryz.prog F.slices_Clone_int_int #[v] w K := by
 refine Tie.slices_Clone_int_int ?_; unfold Vcf.slices_Clone_int_int; have H0 := H; obtain ⟨oa, sp, rfl, H1⟩ := H0.open j hj; refine eq_nilI _ _ _ ?_
 cases oa with
 | none =>
   obtain ⟨g, ⟨h2, _⟩, _⟩ := H1.front j (set_get hj); subst h2; exact r_vt (k _ _ (.refl _) (H.nilSL nv tI))
 | some a =>
   refine r_vf ?_; refine r_bsK (e := tI) [] H (by kernel_rfl) fun b w1 S1 H1 => ?_; have H2 := SL_of_blk (f := nv) 0 [] H1 rfl; rw [List.set_cons_zero] at H2; refine r_apS (xs := []) H2 0 (j + 1) (by omega) rfl (by rw [List.getElem?_cons_succ]; exact hj) sg_nv (by simp only [List.length_nil]; omega) fun v' w2 S2 H3 => ?_; rw [List.set_cons_zero, List.nil_append] at H3; exact k _ _ (S1.trans S2) H3
end
namespace Rb
open Go.M01 Go.Mb
variable {w : World} {L : List HProp} {K : Value → World → Prop} {b : Nat} {B : List UInt8} {d at_ n : Nat}
abbrev tR : Nat := 75
abbrev S_ (s : List UInt8) : Value := .string ⟨s.toArray⟩
def RdR (b : Nat) (B : List UInt8) (d at_ : Nat) : HProp := fun h => (8 * d ≤ at_ ∧ at_ ≤ 8 * B.length ∧ B.length ≤ 1000000000) ∧ blk b tR [S_ (B.drop d), nv d, nv at_] h
theorem RdR_open (H : Holds w (RdR b B d at_ :: L)) : (8 * d ≤ at_ ∧ at_ ≤ 8 * B.length ∧ B.length ≤ 1000000000) ∧ Holds w (blk b tR [S_ (B.drop d), nv d, nv at_] :: L) := Holds.pure H
theorem RdR_close (h : 8 * d ≤ at_ ∧ at_ ≤ 8 * B.length ∧ B.length ≤ 1000000000) (H : Holds w (blk b tR [S_ (B.drop d), nv d, nv at_] :: L)) : Holds w (RdR b B d at_ :: L) := Holds.imp H fun _ hh => ⟨h, hh⟩
theorem NewReader_spec (H : Holds w L) (hB : B.length ≤ 1000000000) (k : ∀ b w', Same w w' → Holds w' (RdR b B 0 0 :: L) → K (.pointer (some ⟨b, 0, none⟩)) w') : Cl Tryz.prog F.bits_NewReader #[S_ B] w K := by
 refine Tie.bits_NewReader ?_; unfold Vcf.bits_NewReader; refine r_bd (v := .agg #[S_ B, nv 0, nv 0]) (by kernel_rfl) ?_; refine r_new H fun b w1 S1 H1 => ?_; exact k b _ S1 (RdR_close ⟨by omega, by omega, hB⟩ (by rw [List.drop_zero]; exact H1))
theorem At_spec (H : Holds w (RdR b B d at_ :: L)) (k : K (nv at_) w) : Cl Tryz.prog F.bits_Reader_At #[.pointer (some ⟨b, 0, none⟩)] w K := by
 refine Tie.bits_Reader_At ?_; unfold Vcf.bits_Reader_At; obtain ⟨hf, H⟩ := RdR_open H
 repeat (first | refine r_nc ?_ | refine r_fo0 ?_ | (with_reducible refine r_bnSF ?_) | (with_reducible refine r_vf ?_) | refine r_ld 0 H rfl rfl ?_)
 exact k
theorem end_spec (H : Holds w (RdR b B d at_ :: L)) (k : ∀ w', Same w w' → Holds w' (RdR b B d at_ :: L) → K (nv (8 * B.length)) w') : Cl Tryz.prog F.bits_Reader_end #[.pointer (some ⟨b, 0, none⟩)] w K := by
 refine Tie.bits_Reader_end ?_; unfold Vcf.bits_Reader_end; obtain ⟨hf, H⟩ := RdR_open H; have S := Same.refl w
 have hs : (⟨(B.drop d).toArray⟩ : ByteArray).size = B.length - d := by show (B.drop d).toArray.size = _; simp
 repeat (first | refine r_mulE (8 * B.length) (by omega) (by omega) (by omega) ?_ | refine r_nc ?_ | refine r_fo0 ?_ | refine r_lns ?_ | (refine r_addN (by omega) ?_) | (refine r_dr H ?_; clear H; intro _ S_ H; replace S := S.trans S_; clear S_) | refine r_ld 0 H rfl rfl ?_)
 exact k _ S (RdR_close hf H)
theorem Left_spec (H : Holds w (RdR b B d at_ :: L)) (k : ∀ w', Same w w' → Holds w' (RdR b B d at_ :: L) → K (nv (rest B at_).length) w') : Cl Tryz.prog F.bits_Reader_Left #[.pointer (some ⟨b, 0, none⟩)] w K := by
 refine Tie.bits_Reader_Left ?_; unfold Vcf.bits_Reader_Left; have S := Same.refl w
 repeat (first | (with_reducible refine r_bnSF ?_) | (with_reducible refine r_vf ?_) | (refine r_dr H ?_; clear H; intro _ S_ H; replace S := S.trans S_; clear S_))
 rename_i w1; have H0 := H; refine end_spec H fun w2 S2 H2 => ?_; replace S := S.trans S2; clear H; have H := H2; clear H2; obtain ⟨hf, H⟩ := RdR_open H; obtain ⟨_, H0⟩ := RdR_open H0
 repeat (first | refine r_rk (r_ld 0 H0 rfl rfl rfl) ?_ | refine r_nc ?_ | refine r_fo0 ?_ | (refine r_sub (by omega) (by omega) ?_) | refine r_ld 0 H rfl rfl ?_)
 rw [show ((8 * B.length : Nat) : Int) - (at_ : Int) = ((rest B at_).length : Int) by rw [rest_len]; omega]; exact k _ S (RdR_close hf H)
theorem bit_spec (H : Holds w (RdR b B d at_ :: L)) (h : at_ < 8 * B.length) (k : ∀ w', Same w w' → Holds w' (RdR b B d at_ :: L) → K (uv ((rest B at_).getD 0 false).toNat) w') : Cl Tryz.prog F.bits_Reader_bit #[.pointer (some ⟨b, 0, none⟩), nv at_] w K := by
 refine Tie.bits_Reader_bit ?_; unfold Vcf.bits_Reader_bit; obtain ⟨hf, H⟩ := RdR_open H; have S := Same.refl w
 have hs : (⟨(B.drop d).toArray⟩ : ByteArray).size = B.length - d := by show (B.drop d).toArray.size = _; simp
 have hq : ((at_ : Nat) : Int).tdiv 8 = ((at_ / 8 : Nat) : Int) := by rw [Int.tdiv_eq_ediv_of_nonneg (by omega)]; simp
 have hr : ((at_ : Nat) : Int).tmod 8 = ((at_ % 8 : Nat) : Int) := by rw [Int.tmod_eq_emod_of_nonneg (by omega)]; simp
 repeat (first | refine r_quoE hq (by omega) (by omega) (by omega) ?_ | refine r_nc ?_ | refine r_fo0 ?_ | (refine r_sub (by omega) (by omega) ?_) | (refine r_dr H ?_; clear H; intro _ S_ H; replace S := S.trans S_; clear S_) | refine r_ld 0 H rfl rfl ?_)
 rw [show ((at_ / 8 : Nat) : Int) - (d : Int) = ((at_ / 8 - d : Nat) : Int) by omega]
 repeat (first | refine r_remE hr (by omega) ?_ | (refine r_ixsN (by omega) ?_) | (refine r_sub (by omega) (by omega) ?_))
 rw [show (7 : Int) - ((at_ % 8 : Nat) : Int) = ((7 - at_ % 8 : Nat) : Int) by omega]; refine r_shrU (show 7 - at_ % 8 ≤ 8 by omega) ?_; refine r_andU8 (t := 1) (Nat.lt_of_le_of_lt (Nat.div_le_self _ _) (UInt8.toNat_lt _)) (by omega) ?_; rw [bit_val]
 have e : ((⟨(B.drop d).toArray⟩ : ByteArray).data.toList.getD (at_ / 8 - d) 0).toNat.testBit (7 - at_ % 8) = (rest B at_).getD 0 false := by
   have := rest_get B at_ 0 (by omega); rw [List.getD_eq_getElem?_getD (l := rest B at_), this]; simp only [Nat.add_zero, Option.getD_some, List.toList_toArray]
   congr 2
   rw [List.getD_eq_getElem?_getD, List.getD_eq_getElem?_getD, List.getElem?_drop, show d + (at_ / 8 - d) = at_ / 8 by omega]
 rw [e]; have hb := Bool.toNat_le ((rest B at_).getD 0 false)
 repeat (refine r_ciu32 (by omega) (by omega) ?_)
 exact k _ S (RdR_close hf H)
theorem Get_spec (H : Holds w (RdR b B d at_ :: L)) (hn : n ≤ 32)
   (ks : (rest B at_).length < n → ∀ w', Same w w' → Holds w' (RdR b B d at_ :: L) → K (.tuple #[uv 0, iv 3]) w')
   (k : n ≤ (rest B at_).length → ∀ w', Same w w' → Holds w' (RdR b B d (at_ + n) :: L) → K (.tuple #[uv (valB ((rest B at_).take n)), iv 0]) w') : Cl Tryz.prog F.bits_Reader_Get #[.pointer (some ⟨b, 0, none⟩), nv n] w K := by
 refine Tie.bits_Reader_Get ?_; unfold Vcf.bits_Reader_Get; have S := Same.refl w; have hf := (RdR_open H).1
 repeat (first | (with_reducible refine r_bnSF ?_) | (with_reducible refine r_vf ?_))
 refine r_join1 (fun x w' => w = w' ∧ x = .bool false) ?_ ?_
 · rintro _ _ _ ⟨rfl, rfl⟩
   repeat (with_reducible refine r_vf ?_)
   refine Left_spec H fun w2 S2 H2 => ?_; replace S := S.trans S2; clear H; have H := H2; clear H2
   repeat (refine r_lss ?_)
   refine r_ifD (fun h => ?_) fun h => ?_
   · exact ks (by omega) _ S H
   have hlen := rest_len B at_; refine r_loop2 (fun v x w' => ∃ i : Nat, i ≤ n ∧ x = nv i ∧ v = uv (valB ((rest B at_).take i)) ∧ Same w w' ∧ Holds w' (RdR b B d (at_ + i) :: L)) (fun _ x _ => n - (RowKit.intOf x).toNat) ⟨0, by omega, rfl, rfl, S, H⟩ ?_; clear H S; rintro _ _ _ w3 ⟨i, hi, rfl, rfl, S, H⟩
   repeat (refine r_lss ?_)
   refine r_ifD (fun hi2 => ?_) fun hi2 => ?_
   · have hlt : i < n := by omega
     have hv := valB_take_lt (rest B at_) i; have hp : (2 : Nat) ^ i ≤ 2 ^ 31 := Nat.pow_le_pow_right (by omega) (by omega)
     have hget : (rest B at_)[i]? = some ((rest B (at_ + i)).getD 0 false) := by
       rw [← rest_drop, List.getD_eq_getElem?_getD, List.getElem?_drop, Nat.add_zero]; rw [List.getElem?_eq_getElem (show i < (rest B at_).length by omega)]; rfl
     have hv2 := take_snoc hget; refine r_shlU32 (n := 1) (by omega) ?_; have H0 := H; obtain ⟨_, H0⟩ := RdR_open H0; refine r_nc (r_fo0 (r_ld 0 H0 rfl rfl ?_)); clear H0
     (refine bit_spec H (by omega) fun w2 S2 H2 => ?_; replace S := S.trans S2; clear H S2; have H := H2; clear H2)
     generalize (rest B (at_ + i)).getD 0 false = c at *; have hc := Bool.toNat_le c; refine r_orU32 (by omega) (by omega) ?_
     have ev : valB ((rest B at_).take i) * 2 ^ 1 % 4294967296 ||| c.toNat = valB ((rest B at_).take (i + 1)) := by
       rw [hv2, valB_snoc, Nat.mod_eq_of_lt (by omega), Nat.mul_comm]; rw [← Nat.two_pow_add_eq_or_of_lt (i := 1) (by omega)]
     rw [ev]; obtain ⟨hf2, H⟩ := RdR_open H
     repeat (first | refine r_nc ?_ | refine r_fo0 ?_ | (refine r_add1N (by omega) ?_) | refine r_ld 0 H rfl rfl ?_)
     refine r_st 0 H rfl (by simp) rfl fun w4 S4 H4 => ?_; replace H4 : Holds w4 (blk b tR [S_ (B.drop d), nv d, nv (at_ + i + 1)] :: L) := H4; replace S := S.trans S4; clear H
     repeat (first | refine r_ke ?_ | (refine r_add1N (by omega) ?_))
     refine ⟨⟨i + 1, by omega, rfl, rfl, S, RdR_close ⟨by omega, by omega, hf.2.2⟩ H4⟩, ?_⟩; simp [nv, RowKit.intOf]; omega
   · obtain rfl : i = n := by omega
     exact k (by omega) _ S H
 · repeat (first | refine r_ke ?_ | refine r_lss ?_ | refine r_gtr ?_ | ((with_reducible refine r_vfD ?h ?_); (case h => omega)))
   rw [decide_eq_false (by omega)]
   repeat (fail)
   exact ⟨rfl, rfl⟩
theorem Seek_spec {p : Nat} (H : Holds w (RdR b B d at_ :: L)) (h1 : 8 * d ≤ p) (h2 : p ≤ 8 * B.length) (k : ∀ w', Same w w' → Holds w' (RdR b B d p :: L) → K (iv 0) w') : Cl Tryz.prog F.bits_Reader_Seek #[.pointer (some ⟨b, 0, none⟩), nv p] w K := by
 refine Tie.bits_Reader_Seek ?_; unfold Vcf.bits_Reader_Seek; have S := Same.refl w; have hf := (RdR_open H).1
 repeat (first | (with_reducible refine r_bnSF ?_) | (with_reducible refine r_vf ?_))
 refine r_join1 (fun x w' => x = .bool false ∧ Same w w' ∧ Holds w' (RdR b B d at_ :: L)) ?_ ?_
 · rintro _ _ w1 ⟨rfl, S, H⟩; obtain ⟨_, H⟩ := RdR_open H
   repeat (first | refine r_nc ?_ | refine r_fo0 ?_ | (with_reducible refine r_vf ?_))
   refine r_st 0 H rfl (by simp) rfl fun w4 S4 H4 => ?_; replace H4 : Holds w4 (blk b tR [S_ (B.drop d), nv d, nv p] :: L) := H4; exact k _ (S.trans S4) (RdR_close ⟨h1, h2, hf.2.2⟩ H4)
 · have H0 := H; obtain ⟨_, H0⟩ := RdR_open H0
   repeat (first | refine r_ld 0 H0 rfl rfl ?_ | refine r_mulE (8 * d) (by omega) (by omega) (by omega) ?_ | refine r_nc ?_ | refine r_fo0 ?_ | refine r_lss ?_ | ((with_reducible refine r_vfD ?h ?_); (case h => omega)))
   refine end_spec H fun w2 S2 H2 => ?_
   repeat (first | refine r_ke ?_ | refine r_gtr ?_)
   refine ⟨by rw [decide_eq_false (by omega)], S.trans S2, H2⟩
theorem rest_idx (B : List UInt8) (a i : Nat) : (rest B (a + i))[0]? = (rest B a)[i]? := by rw [← rest_drop, List.getElem?_drop, Nat.add_zero]
theorem Get1_spec (H : Holds w (RdR b B d at_ :: L))
   (ks : (rest B at_)[0]? = none → ∀ w', Same w w' → Holds w' (RdR b B d at_ :: L) → K (.tuple #[uv 0, iv 3]) w')
   (k : ∀ c, (rest B at_)[0]? = some c → ∀ w', Same w w' → Holds w' (RdR b B d (at_ + 1) :: L) → K (.tuple #[uv c.toNat, iv 0]) w') : Cl Tryz.prog F.bits_Reader_Get #[.pointer (some ⟨b, 0, none⟩), iv 1] w K := by
 refine Get_spec (n := 1) H (by omega) (fun h w' S' H' => ks (List.getElem?_eq_none (by omega)) w' S' H') fun h w' S' H' => ?_; have hg : (rest B at_)[0]? = some (rest B at_)[0] := List.getElem?_eq_getElem (by omega); have := k _ hg w' S' H'; rw [take_snoc hg, List.take_zero, List.nil_append, valB_one]; exact this
end Rb
def After {σ : Type} (x : Mp.Res σ) (rep : σ → HProp) (same : HProp) (r : Nat) (B : List UInt8) (d at_ : Nat) (L : List HProp) (e : Int) (w : World) : Prop :=
 match x with
 | .short => e = 3 ∧ Holds w (same :: Rb.RdR r B d at_ :: L)
 | .bad c => e = (c : Int) ∧ ∃ p, Holds w (Rb.RdR r B d p :: L)
 | .ok s n => e = 0 ∧ Holds w (rep s :: Rb.RdR r B d (at_ + n) :: L)
def AfterS {σ : Type} (x : Mp.Res σ) (rep : σ → HProp) (same : HProp) (r : Nat) (B : List UInt8) (d at_ : Nat) (L : List HProp) (e : Int) (w : World) : Prop :=
 match x with
 | .short => e = 3 ∧ ∃ q, Holds w (same :: Rb.RdR r B d q :: L)
 | .bad c => e = (c : Int) ∧ ∃ p, Holds w (Rb.RdR r B d p :: L)
 | .ok s n => e = 0 ∧ Holds w (rep s :: Rb.RdR r B d (at_ + n) :: L)
namespace P13
open Go.M01 Go.Mb Go.Mp Rb
variable {w : World} {L : List HProp} {K : Value → World → Prop} {b r : Nat} {B : List UInt8} {d at_ n : Nat} {p : PS}
abbrev tO : Nat := 179
abbrev tP : Nat := 181
def pkC (t c : Nat) (o : List Nat) (pv : Value) : List Value := [nv t, nv c] ++ (o.map nv ++ [pv, .bool false])
section
variable {t c : Nat} {o : List Nat} {pv : Value} (ho : o.length = 6)
include ho
theorem c8 : (pkC t c o pv)[8]? = some pv := by simp [pkC, ho]
theorem c9 : (pkC t c o pv)[9]? = some (.bool false) := by simp [pkC, ho]
theorem clen : (pkC t c o pv).length = 10 := by simp [pkC, ho]
theorem s8 (v : Value) : (pkC t c o pv).set 8 v = pkC t c o v := by simp [pkC, ho, List.set_append]
end
theorem c0 {t c : Nat} {o : List Nat} {pv : Value} : (pkC t c o pv)[0]? = some (nv t) := rfl
theorem c1 {t c : Nat} {o : List Nat} {pv : Value} : (pkC t c o pv)[1]? = some (nv c) := rfl
def PkR (b : Nat) (p : PS) : HProp := fun h => p.Ok ∧ ∃ pv, Sat [blk b tP (pkC p.t p.count p.order pv), SL nv tI pv p.picks] h
theorem PkR_open (H : Holds w (PkR b p :: L)) : p.Ok ∧ ∃ pv, Holds w (blk b tP (pkC p.t p.count p.order pv) :: SL nv tI pv p.picks :: L) := by
 obtain ⟨h, H⟩ := Holds.pure H; obtain ⟨pv, H⟩ := Holds.ex H; exact ⟨h, pv, Holds.unpack H⟩
theorem PkR_close {pv : Value} (h : p.Ok) (H : Holds w (blk b tP (pkC p.t p.count p.order pv) :: SL nv tI pv p.picks :: L)) : Holds w (PkR b p :: L) :=
 Holds.imp (Holds.pack (A := [_, _]) H) fun _ hh => ⟨h, pv, hh⟩
def PkW (b : Nat) (p : PS) : HProp := fun h => p.Ok ∧ ∃ pv, Sat [blk b tP ((pkC p.t p.count p.order pv).set 9 (.bool true)), SL nv tI pv p.picks] h
theorem PkW_close {pv : Value} (h : p.Ok) (H : Holds w (blk b tP ((pkC p.t p.count p.order pv).set 9 (.bool true)) :: SL nv tI pv p.picks :: L)) : Holds w (PkW b p :: L) :=
 Holds.imp (Holds.pack (A := [_, _]) H) fun _ hh => ⟨h, pv, hh⟩
theorem PkW_open (H : Holds w (PkW b p :: L)) : p.Ok ∧ ∃ pv, Holds w (blk b tP ((pkC p.t p.count p.order pv).set 9 (.bool true)) :: SL nv tI pv p.picks :: L) := by
 obtain ⟨h, H⟩ := Holds.pure H; obtain ⟨pv, H⟩ := Holds.ex H; exact ⟨h, pv, Holds.unpack H⟩
def AfterP (x : Res PS) (b : Nat) (p : PS) (r : Nat) (B : List UInt8) (d at_ : Nat) (L : List HProp) (e : Int) (w : World) : Prop :=
 match x with
 | .short => e = 3 ∧ Holds w (PkR b p :: RdR r B d at_ :: L)
 | .bad c => e = (c : Int) ∧ ∃ q, Holds w (PkW b p :: RdR r B d q :: L)
 | .ok s n => e = 0 ∧ Holds w (PkR b s :: RdR r B d (at_ + n) :: L)
def AfterPS (x : Res PS) (b : Nat) (p : PS) (r : Nat) (B : List UInt8) (d at_ : Nat) (L : List HProp) (e : Int) (w : World) : Prop :=
 match x with
 | .short => e = 3 ∧ ∃ q, Holds w (PkR b p :: RdR r B d q :: L)
 | .bad c => e = (c : Int) ∧ ∃ q, Holds w (PkW b p :: RdR r B d q :: L)
 | .ok s n => e = 0 ∧ Holds w (PkR b s :: RdR r B d (at_ + n) :: L)
theorem fresh_spec (H : Holds w L) (k : ∀ w', Same w w' → Holds w' L → K (.agg #[nv 0, nv 1, nv 2, nv 3, nv 4, nv 5]) w') : Cl Tryz.prog F.picks_fresh #[] w K := by
 refine Tie.picks_fresh ?_; unfold Vcf.picks_fresh; have S := Same.refl w
 have hz : (zeroP Tryz.prog tO).cells.toList = [nv 0, nv 0, nv 0, nv 0, nv 0, nv 0] := by kernel_rfl
 refine r_new H fun b1 w1 S1 H1 => ?_; rw [hz] at H1; refine r_new H1 fun b2 w2 S2 H2 => ?_; rw [hz] at H2; replace S := (S.trans S1).trans S2; clear H H1; refine r_loop1 (fun x w' => ∃ i : Nat, i ≤ 6 ∧ x = nv i ∧ Same w w' ∧ Holds w' (blk b2 tO ([] ++ ((filled [0, 1, 2, 3, 4, 5] 0 6 i).map nv ++ [])) :: blk b1 tO [nv 0, nv 0, nv 0, nv 0, nv 0, nv 0] :: L)) (fun x _ => 6 - (RowKit.intOf x).toNat) ⟨0, by omega, rfl, S, H2⟩ ?_; clear S H2; rintro _ _ w3 ⟨i, hi, rfl, S, H⟩
 repeat (refine r_lss ?_)
 refine r_ifD (fun h => ?_) fun h => ?_
 · have hlt : i < 6 := by omega
   have hl : (filled [0, 1, 2, 3, 4, 5] 0 6 i).length = 6 := filled_len (by omega) rfl
   repeat (refine r_iaaN (by omega) ?_)
   refine r_st 0 H rfl (by simp [hl]; omega) rfl fun w4 S4 H4 => ?_; have e := mid_set (f := nv) (xs := filled [0, 1, 2, 3, 4, 5] 0 6 i) (post := []) (j := i) [] i (by omega)
   rw [filled_set hlt rfl (show [0, 1, 2, 3, 4, 5][i]? = some i by
     have h6 : i = 0 ∨ i = 1 ∨ i = 2 ∨ i = 3 ∨ i = 4 ∨ i = 5 := by omega
     rcases h6 with rfl | rfl | rfl | rfl | rfl | rfl <;> rfl)] at e
   rw [List.length_nil] at e; rw [List.set_cons_zero, e] at H4
   repeat (first | refine r_ke ?_ | (refine r_add1N (by omega) ?_))
   refine ⟨⟨i + 1, by omega, rfl, S.trans S4, H4⟩, ?_⟩; simp [nv, RowKit.intOf]; omega
 · obtain rfl : i = 6 := by omega
   replace H : Holds w3 (blk b2 tO [nv 0, nv 1, nv 2, nv 3, nv 4, nv 5] :: blk b1 tO [nv 0, nv 0, nv 0, nv 0, nv 0, nv 0] :: L) := H; refine r_ldA 0 H [nv 0, nv 1, nv 2, nv 3, nv 4, nv 5] rfl rfl rfl ?_; refine r_stA 1 H (vs := [nv 0, nv 1, nv 2, nv 3, nv 4, nv 5]) rfl (by simp) rfl rfl fun w4 S4 H4 => ?_; replace H4 : Holds w4 (blk b2 tO [nv 0, nv 1, nv 2, nv 3, nv 4, nv 5] :: blk b1 tO [nv 0, nv 1, nv 2, nv 3, nv 4, nv 5] :: L) := H4; refine r_ldA 1 H4 [nv 0, nv 1, nv 2, nv 3, nv 4, nv 5] rfl rfl rfl ?_; exact k _ (S.trans S4) H4.drop.drop
theorem NewReader_spec (H : Holds w L) (k : ∀ b w', Same w w' → Holds w' (PkR b p0 :: L) → K (pt b) w') : Cl Tryz.prog F.picks_NewReader #[] w K := by
 refine Tie.picks_NewReader ?_; unfold Vcf.picks_NewReader; refine fresh_spec H fun w1 S1 H1 => ?_; refine r_bd (v := .agg #[nv 0, nv 0, nv 0, nv 1, nv 2, nv 3, nv 4, nv 5, .slice none 0 0, .bool false]) (by kernel_rfl) ?_; refine r_new H1 fun b w2 S2 H2 => ?_; refine k b _ (S1.trans S2) (PkR_close (pv := .slice none 0 0) p0_ok ?_); exact ((H2.nilSL nv tI).swap)
theorem Done_spec (H : Holds w (PkR b p :: L)) (k : ∀ w', Same w w' → Holds w' (PkR b p :: L) → K (.bool p.done) w') : Cl Tryz.prog F.picks_Reader_Done #[pt b] w K := by
 refine Tie.picks_Reader_Done ?_; unfold Vcf.picks_Reader_Done; obtain ⟨hp, pv, H⟩ := PkR_open H; obtain ⟨oa, sp, rfl, H⟩ := H.open 1 rfl; have S := Same.refl w; have ho := hp.ord; rw [List.set_cons_succ, List.set_cons_zero] at H
 repeat (first | ((with_reducible apply r_ld 0 H); (exact rfl); (with_reducible exact (c1))) | refine r_nc ?_ | refine r_fo0 ?_ | refine r_gtr ?_ | (with_reducible refine r_bnST ?_) | (with_reducible refine r_vt ?_) | (refine r_dr H ?_; clear H; intro _ S_ H; replace S := S.trans S_; clear S_))
 have fin : ∀ w', Holds w' (blk b tP (pkC p.t p.count p.order (.slice oa p.picks.length (p.picks.length + sp.length))) :: slb nv tI oa p.picks sp :: L) → Holds w' (PkR b p :: L) := fun w' H => by
   have H2 := H.close 1 rfl; exact PkR_close hp H2
 refine r_ifD (fun h => ?_) fun h => ?_
 · repeat (first | ((with_reducible apply r_ld 0 H); (exact rfl); (with_reducible exact (c1))) | ((with_reducible apply r_ld 0 H); (exact rfl); (with_reducible exact ((c8 ho)))) | refine r_nc ?_ | refine r_fo0 ?_ | refine r_lnl ?_ | refine r_eql ?_)
   have := k _ S (fin _ H)
   have e : p.done = ((p.picks.length : Int) == (p.count : Int)) := by
     unfold PS.done; rw [Bool.eq_iff_iff, decide_eq_true_iff, beq_iff_eq]; omega
   rw [e] at this; exact this
 · have := k _ S (fin _ H)
   have e : p.done = false := by
     unfold PS.done; rw [decide_eq_false_iff_not]; omega
   rw [e] at this; exact this
theorem DoneW_spec (H : Holds w (PkW b p :: L)) (hd : p.done = false) (k : ∀ w', Same w w' → Holds w' (PkW b p :: L) → K (.bool false) w') : Cl Tryz.prog F.picks_Reader_Done #[pt b] w K := by
 refine Tie.picks_Reader_Done ?_; unfold Vcf.picks_Reader_Done; obtain ⟨hp, pv, H⟩ := PkW_open H; obtain ⟨oa, sp, rfl, H⟩ := H.open 1 rfl; have S := Same.refl w; have ho := hp.ord; rw [List.set_cons_succ, List.set_cons_zero] at H; have c1' : ∀ pv, ((pkC p.t p.count p.order pv).set 9 (.bool true))[1]? = some (nv p.count) := fun pv => rfl
 have c8' : ∀ pv, ((pkC p.t p.count p.order pv).set 9 (.bool true))[8]? = some pv := fun pv => by rw [List.getElem?_set_ne (by omega)]; exact c8 ho
 repeat (first | refine r_ld 0 H rfl (c1' _) ?_ | refine r_nc ?_ | refine r_fo0 ?_ | refine r_gtr ?_ | (with_reducible refine r_bnST ?_) | (with_reducible refine r_vt ?_) | (refine r_dr H ?_; clear H; intro _ S_ H; replace S := S.trans S_; clear S_))
 unfold PS.done at hd; rw [decide_eq_false_iff_not] at hd; refine r_ifD (fun h => ?_) fun h => ?_
 · repeat (first | refine r_ld 0 H rfl (c1' _) ?_ | refine r_ld 0 H rfl (c8' _) ?_ | refine r_nc ?_ | refine r_fo0 ?_ | refine r_lnl ?_ | refine r_eql ?_)
   have := k _ S (PkW_close hp (H.close 1 rfl)); rw [show ((p.picks.length : Int) == (p.count : Int)) = false from beq_eq_false_iff_ne.2 (by omega)]; exact this
 · exact k _ S (PkW_close hp (H.close 1 rfl))
theorem Tables_spec (H : Holds w (PkR b p :: L)) (k : K (nv p.t) w) : Cl Tryz.prog F.picks_Reader_Tables #[pt b] w K := by
 refine Tie.picks_Reader_Tables ?_; unfold Vcf.picks_Reader_Tables; obtain ⟨hp, pv, H⟩ := PkR_open H
 repeat (first | ((with_reducible apply r_ld 0 H); (exact rfl); (with_reducible exact (c0))) | refine r_nc ?_ | refine r_fo0 ?_ | (with_reducible refine r_bnSF ?_) | (with_reducible refine r_vf ?_))
 exact k
theorem Picks_spec (H : Holds w (PkR b p :: L)) (k : ∀ v w', Same w w' → Holds w' (SL nv tI v p.picks :: PkR b p :: L) → K v w') : Cl Tryz.prog F.picks_Reader_Picks #[pt b] w K := by
 refine Tie.picks_Reader_Picks ?_; unfold Vcf.picks_Reader_Picks; obtain ⟨hp, pv, H⟩ := PkR_open H; have ho := hp.ord; have hl := hp.len; have hc := hp.cnt
 repeat (first | ((with_reducible apply r_ld 0 H); (exact rfl); (with_reducible exact ((c8 ho)))) | refine r_nc ?_ | refine r_fo0 ?_ | (with_reducible refine r_bnSF ?_) | (with_reducible refine r_vf ?_))
 refine Clone_spec H 1 rfl (by omega) fun v w1 S1 H1 => ?_; refine k v w1 S1 ?_; have H2 := H1.swap; have := Holds.front H1 2 rfl; have H3 : Holds w1 (blk b tP (pkC p.t p.count p.order pv) :: SL nv tI pv p.picks :: SL nv tI v p.picks :: L) := (Holds.front H1 2 rfl).front 2 rfl; exact (PkR_close hp H3).swap
theorem touch_spec {t c i : Nat} {o : List Nat} {pv : Value} (ho : o.length = 6) (H : Holds w (blk b tP (pkC t c o pv) :: L)) (hi : i < 6)
   (k : ∀ w', Same w w' → Holds w' (blk b tP (pkC t c (front o i) pv) :: L) → K (nv (o.getD i 0)) w') : Cl Tryz.prog F.picks_order_touch #[.pointer (some ⟨b, 2, none⟩), nv i] w K := by
 refine Tie.picks_order_touch ?_; unfold Vcf.picks_order_touch; have S := Same.refl w
 have hget : ∀ {o' : List Nat} {j : Nat}, o'.length = 6 → j < 6 → (pkC t c o' pv)[2 + j]? = some (nv (o'.getD j 0)) := fun {o' j} h6 hj => by
   refine mid_get (f := nv) (xs := o') [nv t, nv c] ?_; rw [List.getD_eq_getElem?_getD, List.getElem?_eq_getElem (by omega)]; rfl
 have hset : ∀ {o' : List Nat} {j : Nat} (x : Nat), o'.length = 6 → j < 6 → (pkC t c o' pv).set (2 + j) (nv x) = pkC t c (o'.set j x) pv := fun {o' j} x h6 hj => by
   exact mid_set (f := nv) (xs := o') [nv t, nv c] x (by omega)
 repeat (first | ((with_reducible apply r_ld 0 H); (exact rfl); (with_reducible exact ((hget ho hi)))) | refine r_nc ?_ | (refine r_iaaN (by omega) ?_))
 -- the list, as far as it was moved
 have hlen : ∀ j, j ≤ i → (o.take (j + 1) ++ ((o.drop j).take (i - j) ++ o.drop (i + 1))).length = 6 := fun j hj => by
   simp; omega
 refine r_loop1 (fun x w' => ∃ j : Nat, j ≤ i ∧ x = nv j ∧ Same w w' ∧ Holds w' (blk b tP (pkC t c (o.take (j + 1) ++ ((o.drop j).take (i - j) ++ o.drop (i + 1))) pv) :: L)) (fun x _ => (RowKit.intOf x).toNat) ⟨i, by omega, rfl, S, ?_⟩ ?_
 · rw [Nat.sub_self, List.take_zero, List.nil_append, List.take_append_drop]; exact H
 clear H S; rintro _ _ w1 ⟨j, hj, rfl, S, H⟩; have h6 := hlen j hj
 repeat (refine r_gtr ?_)
 refine r_ifD (fun h => ?_) fun h => ?_
 · have hj1 : j - 1 < 6 := by omega
   repeat (first | ((with_reducible apply r_ld 0 H); (exact rfl); (with_reducible exact ((hget h6 hj1)))) | refine r_nc ?_ | (refine r_sub1N (by omega) (by omega) ?_) | (refine r_iaaN (by omega) ?_) | (refine r_dr H ?_; clear H; intro _ S_ H; replace S := S.trans S_; clear S_))
   refine r_st 0 H rfl (by rw [clen h6]; omega) rfl fun w2 S2 H2 => ?_; rw [List.set_cons_zero, hset _ h6 (by omega)] at H2
   have e : (o.take (j + 1) ++ ((o.drop j).take (i - j) ++ o.drop (i + 1))).set j ((o.take (j + 1) ++ ((o.drop j).take (i - j) ++ o.drop (i + 1))).getD (j - 1) 0) = o.take (j - 1 + 1) ++ ((o.drop (j - 1)).take (i - (j - 1)) ++ o.drop (i + 1)) := by
     have hx : (o.take (j + 1) ++ ((o.drop j).take (i - j) ++ o.drop (i + 1))).getD (j - 1) 0 = o.getD (j - 1) 0 := by
       rw [List.getD_eq_getElem?_getD, List.getD_eq_getElem?_getD, List.getElem?_append_left (by simp; omega), List.getElem?_take_of_lt (by omega)]
     rw [hx]; obtain ⟨m, rfl⟩ : ∃ m, j = m + 1 := ⟨j - 1, by omega⟩; rw [Nat.add_sub_cancel]
     have h1 : o.drop m = o.getD m 0 :: o.drop (m + 1) := by
       rw [List.getD_eq_getElem?_getD, List.getElem?_eq_getElem (by omega)]; exact (List.getElem_cons_drop (by omega)).symm
     have h2 : o.take (m + 1 + 1) = o.take (m + 1) ++ [o.getD (m + 1) 0] := by
       refine take_snoc ?_; rw [List.getD_eq_getElem?_getD, List.getElem?_eq_getElem (by omega)]; rfl
     rw [h1, show i - m = (i - (m + 1)) + 1 by omega, List.take_succ_cons, h2, List.append_assoc, List.set_append_right _ _ (by simp; omega)]
     have h3 : (o.take (m + 1)).length = m + 1 := by simp; omega
     rw [h3, Nat.sub_self]; rfl
   rw [e] at H2
   repeat (first | refine r_ke ?_ | (refine r_sub1N (by omega) (by omega) ?_))
   refine ⟨⟨j - 1, by omega, rfl, S.trans S2, H2⟩, ?_⟩; simp [nv, RowKit.intOf]; omega
 · obtain rfl : j = 0 := by omega
   repeat (first | refine r_iaaN (m := 0) (by omega) ?_ | refine r_nc ?_)
   refine r_st 0 H rfl (by rw [clen h6]; omega) rfl fun w2 S2 H2 => ?_; rw [List.set_cons_zero, hset (j := 0) _ h6 (by omega)] at H2
   have e : (o.take (0 + 1) ++ ((o.drop 0).take (i - 0) ++ o.drop (i + 1))).set 0 (o.getD i 0) = front o i := by
     unfold front
     cases o with
     | nil => simp at ho
     | cons x o => rfl
   rw [e] at H2; exact k _ (S.trans S2) H2
theorem head_spec (H : Holds w (PkR b p :: RdR r B d at_ :: L)) (h0 : p.count = 0) (post : ∀ e w', Same w w' → AfterPS (pstep p (rest B at_)) b p r B d at_ L e w' → K (iv e) w') :
   Cl Tryz.prog F.picks_Reader_head #[pt b, pt r] w K := by
 refine Tie.picks_Reader_head ?_; unfold Vcf.picks_Reader_head; refine Get_spec (n := 18) H.swap (by omega) (fun hs w2 S H => ?_) fun hs w2 S H => ?_
 · repeat (first | refine r_neq ?_ | (with_reducible refine r_ex20 ?_) | (with_reducible refine r_ex21 ?_) | ((with_reducible refine r_vtN ?h ?_); (case h => omega)))
   refine post 3 _ S ?_; unfold pstep; rw [if_pos h0, if_pos hs]; exact ⟨rfl, _, H.swap⟩
 · have hv := valB_take_lt (rest B at_) 18
   have e0 : pstep p (rest B at_) = if valB ((rest B at_).take 18) / 32768 < 2 ∨ 6 < valB ((rest B at_).take 18) / 32768 ∨ valB ((rest B at_).take 18) % 32768 = 0 then .bad 25
     else .ok ⟨valB ((rest B at_).take 18) / 32768, valB ((rest B at_).take 18) % 32768, p.order, p.picks⟩ 18 := by
     unfold pstep; rw [if_pos h0, if_neg (by omega)]
   have hok := fun p' k (h : pstep p (rest B at_) = .ok p' k) (hp : p.Ok) => pstep_ok h hp (by simp [PS.done, h0]); rw [e0] at post hok; generalize valB ((rest B at_).take 18) = v at *
   repeat (first | refine r_shrU (n := 15) (by decide) ?_ | refine r_neq ?_ | (with_reducible refine r_ex20 ?_) | (with_reducible refine r_ex21 ?_) | (refine r_ci64 (by omega) (by omega) ?_) | ((with_reducible refine r_vfN ?h ?_); (case h => omega)))
   have h15 : v / 2 ^ 15 = v / 32768 := rfl; rw [h15]
   repeat (fail)
   refine r_andU32 (t := 32767) (by omega) (by omega) ?_; rw [show v &&& 32767 = v % 32768 from Nat.and_two_pow_sub_one_eq_mod v 15]
   repeat (refine r_ci64 (by omega) (by omega) ?_)
   refine r_join1 (fun x w' => w2 = w' ∧ x = .bool (decide (v / 32768 < 2 ∨ 6 < v / 32768 ∨ v % 32768 = 0))) ?_ ?_
   · rintro _ _ _ ⟨rfl, rfl⟩; replace H := H.swap; obtain ⟨hp, pv, H⟩ := PkR_open H; have ho := hp.ord; refine r_ifD (fun h => ?_) fun h => ?_
     · rw [if_pos h] at post; refine Tie.picks_Reader_fail ?_; unfold Vcf.picks_Reader_fail
       repeat (first | refine r_nc ?_ | refine r_fo0 ?_)
       refine r_st 0 H rfl (by rw [clen ho]; omega) rfl fun w3 S3 H3 => ?_; refine post 25 _ (S.trans S3) ⟨rfl, at_ + 18, ?_⟩; rw [List.set_cons_zero] at H3; exact PkW_close hp H3
     · rw [if_neg h] at post hok
       repeat (first | refine r_nc ?_ | refine r_fo0 ?_)
       refine r_st 0 H rfl (by rw [clen ho]; omega) rfl fun w3 S3 H3 => ?_; replace H3 : Holds w3 (blk b tP (pkC (v / 32768) p.count p.order pv) :: SL nv tI pv p.picks :: RdR r B d (at_ + 18) :: L) := H3
       repeat (first | refine r_nc ?_ | refine r_fo0 ?_)
       refine r_st 0 H3 rfl (by rw [clen ho]; omega) rfl fun w4 S4 H4 => ?_; replace H4 : Holds w4 (blk b tP (pkC (v / 32768) (v % 32768) p.order pv) :: SL nv tI pv p.picks :: RdR r B d (at_ + 18) :: L) := H4; exact post 0 _ ((S.trans S3).trans S4) ⟨rfl, PkR_close (p := ⟨v / 32768, v % 32768, p.order, p.picks⟩) (hok _ _ rfl hp) H4⟩
   · refine Tie.picks_tabled ?_; unfold Vcf.picks_tabled
     repeat (refine r_geq ?_)
     refine r_ifD (fun h => ?_) fun h => ?_
     · repeat (first | refine r_leq ?_ | refine r_not ?_)
       rcases Nat.lt_or_ge 6 (v / 32768) with h6 | h6
       · rw [decide_eq_false (by omega), Bool.not_false]
         repeat (first | refine r_ke ?_ | (with_reducible refine r_vt ?_))
         exact ⟨rfl, by rw [decide_eq_true (by omega)]⟩
       · rw [decide_eq_true (by omega), Bool.not_true]
         repeat (first | refine r_ke ?_ | refine r_eql ?_ | (with_reducible refine r_vf ?_))
         refine ⟨rfl, ?_⟩
         congr 1
         rw [Bool.eq_iff_iff, decide_eq_true_iff, beq_iff_eq]; omega
     · repeat (first | refine r_ke ?_ | (with_reducible refine r_notF ?_) | (with_reducible refine r_vt ?_))
       exact ⟨rfl, by rw [decide_eq_true (by omega)]⟩
theorem pick_spec (H : Holds w (PkR b p :: RdR r B d at_ :: L)) (h0 : p.count ≠ 0) (hd : p.done = false) (post : ∀ e w', Same w w' → AfterPS (pstep p (rest B at_)) b p r B d at_ L e w' → K (iv e) w') :
   Cl Tryz.prog F.picks_Reader_pick #[pt b, pt r] w K := by
 refine Tie.picks_Reader_pick ?_; unfold Vcf.picks_Reader_pick; have S := Same.refl w; have hp := (PkR_open H).1; have ht := hp.tbl (by omega); have ho := hp.ord; have hpl := hp.len; have hpc := hp.cnt; have H0 := (PkR_open H).2.choose_spec
 repeat (first | refine r_ld 0 H0 rfl c0 ?_ | refine r_nc ?_ | refine r_fo0 ?_)
 clear H0; refine r_loop1 (fun x w' => ∃ i : Nat, i ≤ p.t ∧ x = nv i ∧ (∀ j, j < i → (rest B at_)[j]? = some true) ∧ Same w w' ∧ Holds w' (PkR b p :: RdR r B d (at_ + i) :: L)) (fun x _ => p.t - (RowKit.intOf x).toNat) ⟨0, by omega, rfl, fun j hj => absurd hj (Nat.not_lt_zero j), S, H⟩ ?_; clear H S; rintro _ _ w1 ⟨i, hi, rfl, hl, S, H⟩
 repeat (refine r_lss ?_)
 refine r_ifD (fun h => ?_) fun h => ?_
 · have hlt : i < p.t := by omega
   refine Get1_spec H.swap (fun hs w2 S2 H2 => ?_) fun c hc w2 S2 H2 => ?_
   · rw [rest_idx] at hs
     repeat (first | refine r_neq ?_ | (with_reducible refine r_ex20 ?_) | (with_reducible refine r_ex21 ?_) | ((with_reducible refine r_vtN ?h ?_); (case h => omega)))
     have e : lead (rest B at_) = i := by
       have h1 := lead_ge hl; have h2 := lead_le (rest B at_)
       have h3 : (rest B at_).length ≤ i := by simpa using hs
       omega
     have e2 : (rest B at_).length = i := by
       have h2 := lead_le (rest B at_)
       have h3 : (rest B at_).length ≤ i := by simpa using hs
       omega
     refine post 3 _ (S.trans S2) ?_; unfold pstep; rw [if_neg h0, e, if_neg (by omega), if_pos e2.symm]; exact ⟨rfl, _, H2.swap⟩
   · rw [rest_idx] at hc
     repeat (first | refine r_eql ?_ | refine r_neq ?_ | (with_reducible refine r_ex20 ?_) | (with_reducible refine r_ex21 ?_) | ((with_reducible refine r_vfN ?h ?_); (case h => omega)))
     cases c with
     | true =>
       refine r_vfE (by decide) ?_
       repeat (first | refine r_ke ?_ | (refine r_add1N (by omega) ?_))
       refine ⟨⟨i + 1, by omega, rfl, fun j hj => ?_, S.trans S2, H2.swap⟩, ?_⟩
       · rcases Nat.lt_or_ge j i with h1 | h1
         · exact hl j h1
         · obtain rfl : j = i := by omega
           exact hc
       · simp [nv, RowKit.intOf]; omega
     | false =>
       have e : lead (rest B at_) = i := lead_of hl hc; have hlen : i < (rest B at_).length := (List.getElem?_eq_some_iff.1 hc).1
       have e0 : pstep p (rest B at_) = .ok ⟨p.t, p.count, front p.order i, p.picks ++ [p.order.getD i 0]⟩ (i + 1) := by
         unfold pstep; rw [if_neg h0, e, if_neg (by omega), if_neg (by omega)]
       rw [e0] at post; have hok := pstep_ok e0 hp hd; replace S := S.trans S2; replace H := H2.swap; clear H2; obtain ⟨_, pv, H⟩ := PkR_open H; refine r_vtE rfl ?_
       repeat (first | ((with_reducible apply r_ld 0 H); (exact rfl); (with_reducible exact ((c8 ho)))) | refine r_nc ?_ | refine r_fo0 ?_ | (refine r_dr H ?_; clear H; intro _ S_ H; replace S := S.trans S_; clear S_))
       have H0 := H; refine touch_spec (i := i) ho H (by omega) fun w3 S3 H3 => ?_; replace S := S.trans S3
       have hfl : (front p.order i).length = 6 := by rw [front_len (by omega)]; exact ho
       refine r_rk (r_ld 0 H3 rfl (c8 hfl) rfl) ?_; obtain ⟨oa, sp, rfl, H4⟩ := H3.open 1 rfl; rw [List.set_cons_succ, List.set_cons_zero] at H4; refine r_bs1 H4 rfl fun b3 w4 S4 H5 => ?_; replace S := S.trans S4; refine r_rk (r_ld 1 H5 rfl (c8 hfl) rfl) ?_; refine r_ap (f := nv) (ys := [p.order.getD i 0]) H5 2 0 (xs := p.picks) (sp := sp) rfl rfl rfl rfl rfl rfl sg_nv (by rw [List.length_singleton]; omega) (by simp) fun oa' sp' w5 S5 H6 => ?_; replace S := S.trans S5; rw [List.set_cons_succ, List.set_cons_succ, List.set_cons_zero] at H6; replace H6 := H6.drop; clear H H0 H3 H4 H5; have H := H6; clear H6
       repeat (first | refine r_nc ?_ | refine r_fo0 ?_)
       refine r_st 0 H rfl (by rw [clen hfl]; omega) rfl fun w6 S6 H7 => ?_; rw [List.set_cons_zero, s8 hfl] at H7; have H8 := H7.close 1 rfl; rw [List.set_cons_succ, List.set_cons_zero] at H8
       have hln : p.picks.length + [p.order.getD i 0].length = (p.picks ++ [p.order.getD i 0]).length := by simp
       refine post 0 _ (S.trans S6) ⟨rfl, PkR_close (p := ⟨p.t, p.count, front p.order i, p.picks ++ [p.order.getD i 0]⟩) (pv := .slice oa' (p.picks ++ [p.order.getD i 0]).length ((p.picks ++ [p.order.getD i 0]).length + sp'.length)) hok ?_⟩; rw [hln] at H8; rw [Nat.add_assoc] at H8; exact H8
 · obtain rfl : i = p.t := by omega
   obtain ⟨_, pv, H⟩ := PkR_open H; refine Tie.picks_Reader_fail ?_; unfold Vcf.picks_Reader_fail
   repeat (first | refine r_nc ?_ | refine r_fo0 ?_)
   refine r_st 0 H rfl (by rw [clen ho]; omega) rfl fun w3 S3 H3 => ?_; refine post 25 _ (S.trans S3) ?_; unfold pstep; rw [if_neg h0, if_pos (lead_ge hl)]; rw [List.set_cons_zero] at H3; exact ⟨rfl, _, PkW_close hp H3⟩
theorem seek_back {same : HProp} {q : Nat} (H : Holds w (same :: RdR r B d q :: L)) (h : 8 * d ≤ at_ ∧ at_ ≤ 8 * B.length) (k : ∀ w', Same w w' → Holds w' (same :: RdR r B d at_ :: L) → K (iv 0) w') : Cl Tryz.prog F.bits_Reader_Seek #[pt r, nv at_] w K :=
 Seek_spec H.swap h.1 h.2 fun w' S' H' => k w' S' H'.swap
theorem Step_spec (H : Holds w (PkR b p :: RdR r B d at_ :: L)) (hd : p.done = false) (post : ∀ e w', Same w w' → AfterP (pstep p (rest B at_)) b p r B d at_ L e w' → K (iv e) w') :
   Cl Tryz.prog F.picks_Reader_Step #[pt b, pt r] w K := by
 refine Tie.picks_Reader_Step ?_; unfold Vcf.picks_Reader_Step; have S := Same.refl w; have hf := (RdR_open H.swap).1
 -- what a step of either kind leads to
 have fin : ∀ e w', Same w w' → AfterPS (pstep p (rest B at_)) b p r B d at_ L e w' → Bp .eql (iv e) (.int .i64 3) fun x_8 => Vif x_8 (Cl Tryz.prog F.bits_Reader_Seek #[pt r, nv at_] w' fun x_9 w5 => K (iv e) w5) (K (iv e) w') := by
   intro e w' S' hA; refine r_eql ?_
   cases hx : pstep p (rest B at_) with
   | short =>
     rw [hx] at hA post; obtain ⟨rfl, q, H'⟩ := hA; refine r_vtE rfl ?_; exact seek_back H' ⟨hf.1, hf.2.1⟩ fun w2 S2 H2 => post 3 _ (S'.trans S2) ⟨rfl, H2⟩
   | bad c =>
     rw [hx] at hA post; refine r_vfE ?_ (post e w' S' hA); rw [hA.1, pstep_bad hx]; decide
   | ok s n =>
     rw [hx] at hA post; refine r_vfE ?_ (post e w' S' hA); rw [hA.1]; decide
 repeat (fail)
 refine r_join1 (fun x w' => x = .bool false ∧ Same w w' ∧ Holds w' (PkR b p :: RdR r B d at_ :: L)) ?_ ?_
 · clear H S; rintro _ _ w1 ⟨rfl, S, H⟩; have H0 := H; obtain ⟨hp, pv, H0⟩ := PkR_open H0; have ho := hp.ord
   repeat (first | refine r_ld 0 H0 rfl (c9 ho) ?_ | refine r_nc ?_ | refine r_fo0 ?_ | (with_reducible refine r_vf ?_))
   refine At_spec H.swap ?_; refine r_mf (.func (.func F.picks_Reader_pick) #[pt b] #[]) (by kernel_rfl) ?_; refine r_join1 (fun x w' => w1 = w' ∧ ((p.count = 0 ∧ x = .func (.func F.picks_Reader_head) #[pt b] #[]) ∨ (p.count ≠ 0 ∧ x = .func (.func F.picks_Reader_pick) #[pt b] #[]))) ?_ ?_
   · rintro _ _ _ ⟨rfl, ⟨h0, rfl⟩ | ⟨h0, rfl⟩⟩
     · refine r_inv (f := F.picks_Reader_head) (args := #[pt b, pt r]) (by kernel_rfl) ?_; exact head_spec H h0 fun e w' S' hA => fin e w' (S.trans S') hA
     · refine r_inv (f := F.picks_Reader_pick) (args := #[pt b, pt r]) (by kernel_rfl) ?_; exact pick_spec H h0 hd fun e w' S' hA => fin e w' (S.trans S') hA
   · repeat (first | refine r_ld 0 H0 rfl c1 ?_ | refine r_nc ?_ | refine r_fo0 ?_ | refine r_eql ?_)
     refine r_ifE (fun h => ?_) fun h => ?_
     · refine r_mf (.func (.func F.picks_Reader_head) #[pt b] #[]) (by kernel_rfl) ?_
       repeat (refine r_ke ?_)
       exact ⟨rfl, .inl ⟨by omega, rfl⟩⟩
     · repeat (refine r_ke ?_)
       exact ⟨rfl, .inr ⟨by omega, rfl⟩⟩
 · repeat (first | (with_reducible refine r_bnSF ?_) | (with_reducible refine r_vf ?_))
   refine Done_spec H fun w2 S2 H2 => ?_; rw [hd]
   repeat (refine r_ke ?_)
   exact ⟨rfl, S2, H2⟩
end P13
namespace D11
open Go.M01 Go.Mb Go.Mp Rb
variable {w : World} {L : List HProp} {K : Value → World → Prop} {b r : Nat} {B : List UInt8} {d at_ n : Nat} {p : DS}
abbrev tD : Nat := 244
def DlR (b : Nat) (p : DS) : HProp := fun h => (p.Ok ∧ p.size ≤ 258) ∧ ∃ pv, Sat [blk b tD [nv p.size, nv p.now, pv, .bool false], SL nv tI pv p.lens] h
theorem DlR_open (H : Holds w (DlR b p :: L)) : (p.Ok ∧ p.size ≤ 258) ∧ ∃ pv, Holds w (blk b tD [nv p.size, nv p.now, pv, .bool false] :: SL nv tI pv p.lens :: L) := by
 obtain ⟨h, H⟩ := Holds.pure H; obtain ⟨pv, H⟩ := Holds.ex H; exact ⟨h, pv, Holds.unpack H⟩
theorem DlR_close {pv : Value} (h : p.Ok ∧ p.size ≤ 258) (H : Holds w (blk b tD [nv p.size, nv p.now, pv, .bool false] :: SL nv tI pv p.lens :: L)) : Holds w (DlR b p :: L) :=
 Holds.imp (Holds.pack (A := [_, _]) H) fun _ hh => ⟨h, pv, hh⟩
theorem NewReader_spec {n : Nat} (H : Holds w L) (h1 : 3 ≤ n) (h2 : n ≤ 258) (k : ∀ b w', Same w w' → Holds w' (DlR b (d0 n) :: L) → K (.tuple #[pt b, iv 0]) w') : Cl Tryz.prog F.delta_NewReader #[nv n] w K := by
 refine Tie.delta_NewReader ?_; unfold Vcf.delta_NewReader; refine Tie.delta_sized ?_; unfold Vcf.delta_sized
 repeat (first | refine r_leq ?_ | refine r_geq ?_ | refine r_not ?_ | ((with_reducible refine r_vtD ?h ?_); (case h => omega)))
 rw [decide_eq_true (show (n : Int) ≤ 258 by omega), Bool.not_true]
 repeat (with_reducible refine r_vf ?_)
 refine r_bd (v := .agg #[nv n, nv 0, .slice none 0 0, .bool false]) (by kernel_rfl) ?_; refine r_new H fun b w2 S2 H2 => ?_; exact k b _ S2 (DlR_close (pv := .slice none 0 0) ⟨d0_ok n, h2⟩ (H2.nilSL nv tI).swap)
theorem Done_spec (H : Holds w (DlR b p :: L)) (k : ∀ w', Same w w' → Holds w' (DlR b p :: L) → K (.bool p.done) w') : Cl Tryz.prog F.delta_Reader_Done #[pt b] w K := by
 refine Tie.delta_Reader_Done ?_; unfold Vcf.delta_Reader_Done; obtain ⟨hp, pv, H⟩ := DlR_open H; obtain ⟨oa, sp, rfl, H⟩ := H.open 1 rfl; have S := Same.refl w; rw [List.set_cons_succ, List.set_cons_zero] at H
 repeat (first | refine r_nc ?_ | refine r_fo0 ?_ | refine r_lnl ?_ | refine r_eql ?_ | (with_reducible refine r_bnST ?_) | (with_reducible refine r_vt ?_) | (refine r_dr H ?_; clear H; intro _ S_ H; replace S := S.trans S_; clear S_) | refine r_ld 0 H rfl rfl ?_)
 have := k _ S (DlR_close hp (H.close 1 rfl))
 have e : p.done = ((p.lens.length : Int) == (p.size : Int)) := by
   unfold DS.done; rw [Bool.eq_iff_iff, decide_eq_true_iff, beq_iff_eq]; omega
 rw [e] at this; exact this
theorem Lens_spec (H : Holds w (DlR b p :: L)) (k : ∀ v w', Same w w' → Holds w' (SL nv tI v p.lens :: DlR b p :: L) → K v w') : Cl Tryz.prog F.delta_Reader_Lens #[pt b] w K := by
 refine Tie.delta_Reader_Lens ?_; unfold Vcf.delta_Reader_Lens; obtain ⟨hp, pv, H⟩ := DlR_open H; have hl := hp.1.len
 repeat (first | refine r_nc ?_ | refine r_fo0 ?_ | (with_reducible refine r_bnSF ?_) | (with_reducible refine r_vf ?_) | refine r_ld 0 H rfl rfl ?_)
 refine Clone_spec H 1 rfl (by omega) fun v w1 S1 H1 => ?_; refine k v w1 S1 ?_; have H3 : Holds w1 (blk b tD [nv p.size, nv p.now, pv, .bool false] :: SL nv tI pv p.lens :: SL nv tI v p.lens :: L) := (Holds.front H1 2 rfl).front 2 rfl; exact (DlR_close hp H3).swap
theorem turned_spec {n : Int} {k0 : Nat} (H : Holds w (DlR b p :: RdR r B d (at_ + k0) :: L)) (ht : dstep p (rest B at_) = turn p n k0) (hd : p.done = false) (hn : -1000 ≤ n) (hn2 : n ≤ 1000) (post : ∀ e w', Same w w' → AfterS (dstep p (rest B at_)) (DlR b) (DlR b p) r B d at_ L e w' → K (iv e) w') :
   Cl Tryz.prog F.delta_Reader_turned #[pt b, iv n] w K := by
 refine Tie.delta_Reader_turned ?_; unfold Vcf.delta_Reader_turned; have S := Same.refl w; refine r_cl (K := fun x w' => w = w' ∧ x = .bool (decide (¬ (n < 1 ∨ 20 < n)))) ?_ ?_
 · refine Tie.delta_length ?_; unfold Vcf.delta_length
   repeat (refine r_geq ?_)
   refine r_ifD (fun h => ?_) fun h => ?_
   · repeat (refine r_leq ?_)
     refine ⟨rfl, ?_⟩
     congr 1
     rw [Bool.eq_iff_iff, decide_eq_true_iff, decide_eq_true_iff]; omega
   · exact ⟨rfl, by rw [decide_eq_false (by omega)]⟩
 rintro _ _ ⟨rfl, rfl⟩; obtain ⟨hp, pv, H⟩ := DlR_open H; have hok := fun p' k (h : dstep p (rest B at_) = .ok p' k) => dstep_ok h hp.1 hd; rw [ht] at post hok; unfold turn at post hok
 by_cases hc : n < 1 ∨ 20 < n
 · rw [if_pos hc] at post; rw [decide_eq_false (by omega)]
   repeat (first | refine r_nc ?_ | refine r_fo0 ?_ | (with_reducible refine r_notF ?_) | (with_reducible refine r_vt ?_))
   refine r_st 0 H rfl (by simp) rfl fun w3 S3 H3 => ?_; refine post 22 _ S3 ⟨rfl, at_ + k0, ?_⟩; rw [List.set_cons_zero] at H3; exact H3.drop.drop
 · rw [if_neg hc] at post hok; rw [decide_eq_true (by omega)]
   repeat (first | refine r_nc ?_ | refine r_fo0 ?_ | (with_reducible refine r_notT ?_) | (with_reducible refine r_vf ?_))
   refine r_st 0 H rfl (by simp) rfl fun w3 S3 H3 => ?_; rw [show n = ((n.toNat : Nat) : Int) by omega] at H3; replace H3 : Holds w3 (blk b tD [nv p.size, nv n.toNat, pv, .bool false] :: SL nv tI pv p.lens :: RdR r B d (at_ + k0) :: L) := H3; exact post 0 _ S3 ⟨rfl, DlR_close (p := ⟨p.size, n.toNat, p.lens⟩) ⟨hok _ _ rfl, hp.2⟩ H3⟩
theorem step_spec (H : Holds w (DlR b p :: RdR r B d at_ :: L)) (hd : p.done = false) (post : ∀ e w', Same w w' → AfterS (dstep p (rest B at_)) (DlR b) (DlR b p) r B d at_ L e w' → K (iv e) w') :
   Cl Tryz.prog F.delta_Reader_step #[pt b, pt r] w K := by
 refine Tie.delta_Reader_step ?_; unfold Vcf.delta_Reader_step; have S := Same.refl w; have H0 := H; obtain ⟨hp, pv0, H0⟩ := DlR_open H0; have hnow := hp.1.now; have hlen := hp.1.len
 repeat (first | refine r_ld 0 H0 rfl rfl ?_ | refine r_nc ?_ | refine r_fo0 ?_ | refine r_eql ?_)
 clear H0; refine r_ifE (fun h => ?_) fun h => ?_
 · have h0 : p.now = 0 := by omega
   refine Get_spec (n := 5) H.swap (by omega) (fun hs w2 S2 H2 => ?_) fun hs w2 S2 H2 => ?_
   · repeat (first | refine r_neq ?_ | (with_reducible refine r_ex20 ?_) | (with_reducible refine r_ex21 ?_) | ((with_reducible refine r_vtN ?h ?_); (case h => omega)))
     refine post 3 _ S2 ?_; unfold dstep; rw [if_pos h0, if_pos hs]; exact ⟨rfl, _, H2.swap⟩
   · have hv := valB_take_lt (rest B at_) 5
     have e0 : dstep p (rest B at_) = turn p (valB ((rest B at_).take 5)) 5 := by
       unfold dstep; rw [if_pos h0, if_neg (by omega)]
     generalize valB ((rest B at_).take 5) = v at *
     repeat (first | refine r_neq ?_ | (with_reducible refine r_ex20 ?_) | (with_reducible refine r_ex21 ?_) | (refine r_ci64 (by omega) (by omega) ?_) | ((with_reducible refine r_vfN ?h ?_); (case h => omega)))
     exact turned_spec (n := (v : Int)) H2.swap e0 hd (by omega) (by omega) fun e w' S' hA => post e w' (S2.trans S') hA
 · have h0 : p.now ≠ 0 := by omega
   refine Get1_spec H.swap (fun hs w2 S2 H2 => ?_) fun c hc w2 S2 H2 => ?_
   · repeat (first | refine r_neq ?_ | (with_reducible refine r_ex20 ?_) | (with_reducible refine r_ex21 ?_) | ((with_reducible refine r_vtN ?h ?_); (case h => omega)))
     refine post 3 _ S2 ?_; unfold dstep; rw [if_neg h0]
     have : rest B at_ = [] := by cases hr : rest B at_ with
       | nil => rfl
       | cons x l => rw [hr] at hs; cases hs
     rw [this]; exact ⟨rfl, _, H2.swap⟩
   · repeat (first | refine r_eql ?_ | refine r_neq ?_ | (with_reducible refine r_ex20 ?_) | (with_reducible refine r_ex21 ?_) | ((with_reducible refine r_vfN ?h ?_); (case h => omega)))
     cases c with
     | false =>
       refine r_vtE rfl ?_
       have e0 : dstep p (rest B at_) = .ok ⟨p.size, p.now, p.lens ++ [p.now]⟩ 1 := by
         unfold dstep; rw [if_neg h0]
         cases hr : rest B at_ with
         | nil => rw [hr] at hc; cases hc
         | cons x l => rw [hr] at hc; cases hc; rfl
       have hok := dstep_ok e0 hp.1 hd; rw [e0] at post; obtain ⟨_, pv, H⟩ := DlR_open H2.swap; replace S := S.trans S2; clear S2 H2
       repeat (first | refine r_nc ?_ | refine r_fo0 ?_ | (refine r_dr H ?_; clear H; intro _ S_ H; replace S := S.trans S_; clear S_) | refine r_ld 0 H rfl rfl ?_)
       refine r_app1K H 1 (f := nv) (xs := p.lens) rfl p.now sg_nv (by omega) (fun w' H' => r_ld 0 H' rfl rfl rfl) fun v' w3 S3 H3 => ?_; rw [List.set_cons_succ, List.set_cons_zero] at H3; replace S := S.trans S3; clear H; have H := H3; clear H3
       repeat (first | refine r_nc ?_ | refine r_fo0 ?_)
       refine r_st 0 H rfl (by simp) (SL_sg H 1 rfl) fun w4 S4 H4 => ?_; replace H4 : Holds w4 (blk b tD [nv p.size, nv p.now, v', .bool false] :: SL nv tI v' (p.lens ++ [p.now]) :: RdR r B d (at_ + 1) :: L) := H4; exact post 0 _ (S.trans S4) ⟨rfl, DlR_close (p := ⟨p.size, p.now, p.lens ++ [p.now]⟩) ⟨hok, hp.2⟩ H4⟩
     | true =>
       refine r_vfE (by decide) ?_; refine Get1_spec H2 (fun hs w3 S3 H3 => ?_) fun c hc2 w3 S3 H3 => ?_
       · repeat (first | refine r_neq ?_ | (with_reducible refine r_ex20 ?_) | (with_reducible refine r_ex21 ?_) | ((with_reducible refine r_vtN ?h ?_); (case h => omega)))
         refine post 3 _ (S2.trans S3) ?_; unfold dstep; rw [if_neg h0]; rw [rest_idx] at hs
         cases hr : rest B at_ with
         | nil => rw [hr] at hc; cases hc
         | cons x l =>
           rw [hr] at hc hs; cases hc
           cases l with
           | nil => exact ⟨rfl, _, H3.swap⟩
           | cons y l => cases hs
       · have e0 : dstep p (rest B at_) = turn p ((p.now : Int) + 1 - 2 * c.toNat) 2 := by
           unfold dstep; rw [if_neg h0]; rw [rest_idx] at hc2
           cases hr : rest B at_ with
           | nil => rw [hr] at hc; cases hc
           | cons x l =>
             rw [hr] at hc hc2; cases hc
             cases l with
             | nil => cases hc2
             | cons y l => cases hc2; rfl
         have hcl := Bool.toNat_le c; obtain ⟨_, pv, H4⟩ := DlR_open H3.swap
         repeat (first | refine r_ld 0 H4 rfl rfl ?_ | refine r_mulE (2 * (c.toNat : Int)) rfl (by omega) (by omega) ?_ | refine r_nc ?_ | refine r_fo0 ?_ | refine r_neq ?_ | (with_reducible refine r_ex20 ?_) | (with_reducible refine r_ex21 ?_) | (refine r_ci64 (by omega) (by omega) ?_) | (refine r_add1N (by omega) ?_) | (refine r_sub (by omega) (by omega) ?_) | ((with_reducible refine r_vfN ?h ?_); (case h => omega)))
         clear H4; refine turned_spec (k0 := 2) (n := (p.now : Int) + 1 - 2 * c.toNat) H3.swap e0 hd (by omega) (by omega) fun e w' S' hA => post e w' ((S2.trans S3).trans S') hA
theorem Step_spec (H : Holds w (DlR b p :: RdR r B d at_ :: L)) (hd : p.done = false) (post : ∀ e w', Same w w' → After (dstep p (rest B at_)) (DlR b) (DlR b p) r B d at_ L e w' → K (iv e) w') :
   Cl Tryz.prog F.delta_Reader_Step #[pt b, pt r] w K := by
 refine Tie.delta_Reader_Step ?_; unfold Vcf.delta_Reader_Step; have S := Same.refl w; have hf := (RdR_open H.swap).1
 repeat (fail)
 refine r_join1 (fun x w' => x = .bool false ∧ Same w w' ∧ Holds w' (DlR b p :: RdR r B d at_ :: L)) ?_ ?_
 · clear H S; rintro _ _ w1 ⟨rfl, S, H⟩; have H0 := H; obtain ⟨hp, pv, H0⟩ := DlR_open H0
   repeat (first | refine r_ld 0 H0 rfl rfl ?_ | refine r_nc ?_ | refine r_fo0 ?_ | (with_reducible refine r_vf ?_))
   clear H0; refine At_spec H.swap ?_; refine step_spec H hd fun e w' S' hA => ?_; replace S' := S.trans S'; refine r_eql ?_
   cases hx : dstep p (rest B at_) with
   | short =>
     rw [hx] at hA post; obtain ⟨rfl, q, H'⟩ := hA; refine r_vtE rfl ?_; exact P13.seek_back H' ⟨hf.1, hf.2.1⟩ fun w2 S2 H2 => post 3 _ (S'.trans S2) ⟨rfl, H2⟩
   | bad c =>
     rw [hx] at hA post; refine r_vfE ?_ (post e w' S' hA); rw [hA.1, dstep_bad hx]; decide
   | ok s n =>
     rw [hx] at hA post; refine r_vfE ?_ (post e w' S' hA); rw [hA.1]; decide
 · repeat (first | (with_reducible refine r_bnSF ?_) | (with_reducible refine r_vf ?_))
   refine Done_spec H fun w2 S2 H2 => ?_; rw [hd]
   repeat (refine r_ke ?_)
   exact ⟨rfl, S2, H2⟩
end D11
instance rowU : Row Tryz.prog 79 38 (.int .u32 0) := ⟨by kernel_rfl, ⟨Tryz.t38, by kernel_rfl, by kernel_rfl, by decide, by kernel_rfl⟩, rfl⟩
abbrev tU : Nat := 38
namespace C10
open Go.M01 Go.Mb Go.Mp Go.M10 Rb
variable {w : World} {L : List HProp} {K : Value → World → Prop} {b r : Nat} {B : List UInt8} {d at_ n : Nat} {lens : List Nat}
abbrev tC : Nat := 249
theorem getD_some {l : List Nat} {i : Nat} (h : i < l.length) : l[i]? = some (l.getD i 0) := by
 rw [List.getD_eq_getElem?_getD, List.getElem?_eq_getElem h]; rfl
theorem sized_at (hs : Sized lens) {i : Nat} (h : i < lens.length) : 1 ≤ lens.getD i 0 ∧ lens.getD i 0 ≤ 20 := hs _ (List.mem_of_getElem? (getD_some h))
theorem Index_spec {x : Nat} (j : Nat) {v : Value} (H : Holds w L) (hj : L[j]? = some (SL nv tI v lens)) (hn : lens.length ≤ 1000000000) (hx : ∀ y ∈ lens, y ≠ x) (k : K (iv (-1)) w) :
   Cl Tryz.prog F.slices_Index_int_int #[v, nv x] w K := by
 refine Tie.slices_Index_int_int ?_; unfold Vcf.slices_Index_int_int; refine r_lnS j H hj ?_; refine r_loop1 (fun y w' => ∃ i : Nat, i ≤ lens.length ∧ y = nv i ∧ w = w') (fun y _ => lens.length - (RowKit.intOf y).toNat) ⟨0, by omega, rfl, rfl⟩ ?_; rintro _ _ _ ⟨i, hi, rfl, rfl⟩
 repeat (refine r_lss ?_)
 refine r_ifD (fun h => ?_) fun h => ?_
 · have hlt : i < lens.length := by omega
   refine r_getS j H hj (getD_some hlt) ?_; have := hx _ (List.mem_of_getElem? (getD_some hlt))
   repeat (first | refine r_ke ?_ | refine r_eql ?_ | (refine r_add1N (by omega) ?_) | ((with_reducible refine r_vfE ?h ?_); (case h => omega)))
   refine ⟨⟨i + 1, by omega, rfl, rfl⟩, ?_⟩; simp [nv, RowKit.intOf]; omega
 · exact k
theorem between_spec (j : Nat) {v : Value} (H : Holds w L) (hj : L[j]? = some (SL nv tI v lens)) (hn : lens.length ≤ 1000000000) (hs : Sized lens) (k : ∀ w', Same w w' → Holds w' L → K (.bool true) w') :
   Cl Tryz.prog F.lens_between #[v, iv 0, iv 20] w K := by
 refine Tie.lens_between ?_; unfold Vcf.lens_between; refine r_new H fun b1 w1 S1 H1 => ?_; refine r_new H1 fun b2 w2 S2 H2 => ?_; replace H2 : Holds w2 (blk b2 3 [iv 20] :: blk b1 3 [iv 0] :: L) := H2; refine r_mf (.func (.func F.lens_between_1) #[] #[pt b1, pt b2]) (by kernel_rfl) ?_; refine r_cl (K := fun x w' => w2 = w' ∧ x = .bool false) ?_ ?_
 · refine Tie.slices_ContainsFunc_int_int ?_; unfold Vcf.slices_ContainsFunc_int_int; refine Tie.slices_IndexFunc_int_int ?_; unfold Vcf.slices_IndexFunc_int_int; have hj2 : (blk b2 3 [iv 20] :: blk b1 3 [iv 0] :: L)[j + 2]? = some (SL nv tI v lens) := hj; refine r_lnS (j + 2) H2 hj2 ?_; refine r_loop1 (fun y w' => ∃ i : Nat, i ≤ lens.length ∧ y = nv i ∧ w2 = w') (fun y _ => lens.length - (RowKit.intOf y).toNat) ⟨0, by omega, rfl, rfl⟩ ?_; rintro _ _ _ ⟨i, hi, rfl, rfl⟩
   repeat (refine r_lss ?_)
   refine r_ifD (fun h => ?_) fun h => ?_
   · have hlt : i < lens.length := by omega
     refine r_getS (j + 2) H2 hj2 (getD_some hlt) ?_; have hb := sized_at hs hlt; refine r_inv (f := F.lens_between_1) (args := #[nv (lens.getD i 0), pt b1, pt b2]) (by kernel_rfl) ?_; refine Tie.lens_between_1 ?_; unfold Vcf.lens_between_1
     repeat (first | refine r_ld 0 H2 rfl rfl ?_ | refine r_ld 1 H2 rfl rfl ?_ | refine r_ke ?_ | refine r_lss ?_ | refine r_gtr ?_ | (refine r_add1N (by omega) ?_) | ((with_reducible refine r_vfD ?h ?_); (case h => omega)))
     refine ⟨⟨i + 1, by omega, rfl, rfl⟩, ?_⟩; simp [nv, RowKit.intOf]; omega
   · repeat (refine r_geq ?_)
     exact ⟨rfl, by rw [decide_eq_false (by omega)]⟩
 rintro _ _ ⟨rfl, rfl⟩
 repeat (with_reducible refine r_notF ?_)
 exact k _ (S1.trans S2) H2.drop.drop
theorem share_take (lens : List Nat) (i : Nat) (h : i < lens.length) : share (lens.take (i + 1)) = share (lens.take i) + 2 ^ (20 - lens.getD i 0) := by
 rw [take_snoc (getD_some h)]; simp [share]
theorem share_le (hs : Sized lens) : ∀ i, i ≤ lens.length → share (lens.take i) ≤ i * 524288 := by
 intro i
 induction i with
 | zero => intro _; simp [share]
 | succ i ih =>
   intro hi; rw [share_take _ _ (by omega)]; have h1 := ih (by omega); have h2 : 2 ^ (20 - lens.getD i 0) ≤ 2 ^ 19 := Nat.pow_le_pow_right (by decide) (by have := sized_at hs (show i < lens.length by omega); omega); omega
theorem Share_spec (j : Nat) {v : Value} (H : Holds w L) (hj : L[j]? = some (SL nv tI v lens)) (hn : lens.length ≤ 258) (hs : Sized lens) (k : ∀ w', Same w w' → Holds w' L → K (.tuple #[nv (share lens), iv 0]) w') :
   Cl Tryz.prog F.lens_Share #[v] w K := by
 refine Tie.lens_Share ?_; unfold Vcf.lens_Share; refine r_join1 (fun x w' => x = .bool false ∧ Same w w' ∧ Holds w' L) ?_ ?_
 · clear H; rintro _ _ w1 ⟨rfl, S, H⟩
   repeat (with_reducible refine r_vf ?_)
   refine r_lnS j H hj ?_; refine r_loop2 (fun n y w' => ∃ i : Nat, i ≤ lens.length ∧ y = nv i ∧ n = nv (share (lens.take i)) ∧ w1 = w') (fun _ y _ => lens.length - (RowKit.intOf y).toNat) ⟨0, by omega, rfl, rfl, rfl⟩ ?_; rintro _ _ _ _ ⟨i, hi, rfl, rfl, rfl⟩
   repeat (refine r_lss ?_)
   refine r_ifD (fun h => ?_) fun h => ?_
   · have hlt : i < lens.length := by omega
     refine r_getS j H hj (getD_some hlt) ?_; have hb := sized_at hs hlt; have hsl := share_le hs i hi; have e := share_take lens i hlt; have h2 : 2 ^ (20 - lens.getD i 0) ≤ 2 ^ 19 := Nat.pow_le_pow_right (by decide) (by omega)
     repeat (refine r_sub (by omega) (by omega) ?_)
     rw [show (20 : Int) - (lens.getD i 0 : Nat) = ((20 - lens.getD i 0 : Nat) : Int) by omega]; refine r_shl1 (by omega) ?_; generalize 2 ^ (20 - lens.getD i 0) = q at *
     repeat (first | refine r_ke ?_ | (refine r_add1N (by omega) ?_) | (refine r_addN (by omega) ?_))
     refine ⟨⟨i + 1, by omega, rfl, by rw [e], rfl⟩, ?_⟩; simp [nv, RowKit.intOf]; omega
   · obtain rfl : i = lens.length := by omega
     rw [List.take_length]; exact k _ S H
 · refine r_lnS j H hj ?_
   repeat (first | refine r_gtr ?_ | ((with_reducible refine r_vfD ?h ?_); (case h => omega)))
   refine between_spec j H hj (by omega) hs fun w2 S2 H2 => ?_
   repeat (first | refine r_ke ?_ | (with_reducible refine r_notT ?_))
   exact ⟨rfl, S2, H2⟩
theorem whole_spec (j : Nat) {v : Value} (H : Holds w L) (hj : L[j]? = some (SL nv tI v lens)) (hn : lens.length ≤ 258) (hs : Sized lens) (k : ∀ w', Same w w' → Holds w' L → K (.bool (decide (share lens = 1048576))) w') :
   Cl Tryz.prog F.canon_whole #[v] w K := by
 refine Tie.canon_whole ?_; unfold Vcf.canon_whole; refine Share_spec j H hj hn hs fun w2 S2 H2 => ?_
 repeat (first | refine r_eql ?_ | (with_reducible refine r_ex20 ?_) | (with_reducible refine r_ex21 ?_) | ((with_reducible refine r_vtE ?h ?_); (case h => omega)))
 refine r_ifE (fun h => ?_) fun h => ?_
 · refine Tie.slices_Contains_int_int ?_; unfold Vcf.slices_Contains_int_int; refine Index_spec (x := 0) j H2 hj (by omega) (fun y hy => by have := hs y hy; omega) ?_
   repeat (first | refine r_geq ?_ | refine r_not ?_)
   have := k _ S2 H2; rw [decide_eq_true (by omega)] at this; exact this
 · have := k _ S2 H2; rw [decide_eq_false (by omega)] at this; exact this
def cdC (lv cv ov : Value) (F G : List Nat) : List Value := [lv, cv, ov] ++ (F.map nv ++ (G.map nv ++ []))
section
variable {lv cv ov : Value} {F G : List Nat}
theorem cF {n x : Nat} (h : F[n]? = some x) : (cdC lv cv ov F G)[3 + n]? = some (nv x) := mid_get [lv, cv, ov] h
theorem cdC_eq : cdC lv cv ov F G = ([lv, cv, ov] ++ F.map nv) ++ (G.map nv ++ []) := by rw [cdC, List.append_assoc]
theorem cG {n x : Nat} (hF : F.length = 21) (h : G[n]? = some x) : (cdC lv cv ov F G)[24 + n]? = some (nv x) := by
 have := mid_get (f := nv) (post := []) ([lv, cv, ov] ++ F.map nv) h; rw [show ([lv, cv, ov] ++ F.map nv).length = 24 by simp [hF]] at this; rw [cdC_eq]; exact this
theorem sF {n : Nat} (x : Nat) (h : n < F.length) : (cdC lv cv ov F G).set (3 + n) (nv x) = cdC lv cv ov (F.set n x) G := mid_set [lv, cv, ov] x h
theorem sG {n : Nat} (x : Nat) (hF : F.length = 21) (h : n < G.length) : (cdC lv cv ov F G).set (24 + n) (nv x) = cdC lv cv ov F (G.set n x) := by
 have := mid_set (f := nv) (post := []) ([lv, cv, ov] ++ F.map nv) x h; rw [show ([lv, cv, ov] ++ F.map nv).length = 24 by simp [hF]] at this; rw [cdC_eq, cdC_eq]; exact this
theorem cd1 : (cdC lv cv ov F G)[1]? = some cv := rfl
theorem cd2 : (cdC lv cv ov F G)[2]? = some ov := rfl
theorem sd2 (v : Value) : (cdC lv cv ov F G).set 2 v = cdC lv cv v F G := rfl
theorem cdlen (hF : F.length = 21) (hG : G.length = 22) : (cdC lv cv ov F G).length = 46 := by simp [cdC, hF, hG]
end
def fL (lens : List Nat) : List Nat := (List.range 21).map (fst_ lens)
def gL (lens : List Nat) : List Nat := (List.range 22).map (frm lens)
def codesAt (lens : List Nat) (n j : Nat) : List Nat := (List.range lens.length).map fun i => if lens.getD i 0 < n ∨ (lens.getD i 0 = n ∧ i < j) then codeN lens i else 0
theorem codesAt_len (lens : List Nat) (n j : Nat) : (codesAt lens n j).length = lens.length := by simp [codesAt]
theorem codesAt_set {n j : Nat} (hj : j < lens.length) (hn : lens.getD j 0 = n) : (codesAt lens n j).set j (fst_ lens n + (lens.take j).count n) = codesAt lens n (j + 1) := by
 apply List.ext_getElem
 · simp [codesAt]
 intro i h1 h2
 have hi : i < lens.length := by simpa [codesAt] using h2
 rw [List.getElem_set]; simp only [codesAt, List.getElem_map, List.getElem_range]
 by_cases h : j = i
 · subst h; rw [if_pos rfl, if_pos (.inr ⟨hn, by omega⟩), codeN, hn]
 · rw [if_neg h]
   by_cases h3 : lens.getD i 0 < n ∨ (lens.getD i 0 = n ∧ i < j)
   · rw [if_pos h3, if_pos (by omega)]
   · rw [if_neg h3, if_neg (by omega)]
theorem codesAt_skip {n j : Nat} (hn : lens.getD j 0 ≠ n) : codesAt lens n (j + 1) = codesAt lens n j := by
 apply List.map_congr_left; intro i hi
 by_cases h : j = i
 · subst h
   by_cases h3 : lens.getD j 0 < n
   · rw [if_pos (.inl h3), if_pos (.inl h3)]
   · rw [if_neg (by omega), if_neg (by omega)]
 · by_cases h3 : lens.getD i 0 < n ∨ (lens.getD i 0 = n ∧ i < j)
   · rw [if_pos h3, if_pos (by omega)]
   · rw [if_neg h3, if_neg (by omega)]
theorem codesAt_next (n : Nat) : codesAt lens n lens.length = codesAt lens (n + 1) 0 := by
 apply List.map_congr_left; intro i hi; rw [List.mem_range] at hi
 by_cases h3 : lens.getD i 0 < n + 1
 · rw [if_pos (by omega), if_pos (.inl h3)]
 · rw [if_neg (by omega), if_neg (by omega)]
theorem codesAt_0 (hs : Sized lens) : codesAt lens 1 0 = List.replicate lens.length 0 := by
 rw [codesAt, show (List.replicate lens.length 0 : List Nat) = (List.range lens.length).map fun _ => 0 by rw [List.map_const', List.length_range]]; apply List.map_congr_left; intro i hi; rw [List.mem_range] at hi; have := sized_at hs hi; rw [if_neg (by omega)]
theorem grp_succ {n j : Nat} : grp lens (j + 1) n = grp lens j n ++ if lens.getD j 0 = n then [j] else [] := by
 unfold grp; rw [List.range_succ, List.filter_append]
 congr 1
 rw [List.filter_cons, List.filter_nil]
 by_cases h : lens.getD j 0 = n
 · rw [if_pos (by simpa using h), if_pos h]
 · rw [if_neg (by simpa using h), if_neg h]
def CodeR (b : Nat) (lens : List Nat) : HProp := fun h => (Whole lens ∧ lens.length ≤ 258) ∧ ∃ lv cv ov, Sat [blk b tC (cdC lv cv ov (fL lens) (gL lens)), SL nv tI ov (upto lens 20), SL uv tU cv (codesAt lens 21 0), SL nv tI lv lens] h
theorem CodeR_open (H : Holds w (CodeR b lens :: L)) : (Whole lens ∧ lens.length ≤ 258) ∧ ∃ lv cv ov, Holds w (blk b tC (cdC lv cv ov (fL lens) (gL lens)) :: SL nv tI ov (upto lens 20) :: SL uv tU cv (codesAt lens 21 0) :: SL nv tI lv lens :: L) := by
 obtain ⟨h, H⟩ := Holds.pure H; obtain ⟨lv, H⟩ := Holds.ex H; obtain ⟨cv, H⟩ := Holds.ex H; obtain ⟨ov, H⟩ := Holds.ex H; exact ⟨h, lv, cv, ov, Holds.unpack H⟩
theorem CodeR_close {lv cv ov : Value} (h : Whole lens ∧ lens.length ≤ 258) (H : Holds w (blk b tC (cdC lv cv ov (fL lens) (gL lens)) :: SL nv tI ov (upto lens 20) :: SL uv tU cv (codesAt lens 21 0) :: SL nv tI lv lens :: L)) : Holds w (CodeR b lens :: L) :=
 Holds.imp (Holds.pack (A := [_, _, _, _]) H) fun _ hh => ⟨h, lv, cv, ov, hh⟩
theorem fL_get {n : Nat} (h : n < 21) : (fL lens)[n]? = some (fst_ lens n) := by rw [fL, List.getElem?_map, List.getElem?_range h]; rfl
theorem gL_get {n : Nat} (h : n < 22) : (gL lens)[n]? = some (frm lens n) := by rw [gL, List.getElem?_map, List.getElem?_range h]; rfl
theorem fL_len : (fL lens).length = 21 := by simp [fL]
theorem gL_len : (gL lens).length = 22 := by simp [gL]
theorem New_spec {j : Nat} {v : Value} (H : Holds w L) (hj : L[j]? = some (SL nv tI v lens)) (h3 : 3 ≤ lens.length) (hn : lens.length ≤ 258) (hs : Sized lens)
   (kb : share lens ≠ 1048576 → ∀ w', Same w w' → Holds w' L → K (.tuple #[.pointer none, iv 22]) w')
   (k : Whole lens → ∀ b w', Same w w' → Holds w' (CodeR b lens :: L) → K (.tuple #[pt b, iv 0]) w') : Cl Tryz.prog F.canon_New #[v] w K := by
 refine Tie.canon_New ?_; unfold Vcf.canon_New; refine r_join1 (fun x w' => w = w' ∧ x = .bool false) ?_ ?_
 rotate_left
 · refine r_lnS j H hj ?_
   repeat (first | refine r_lss ?_ | ((with_reducible refine r_vfD ?h ?_); (case h => omega)))
   refine r_lnS j H hj ?_
   repeat (first | refine r_ke ?_ | refine r_gtr ?_)
   exact ⟨rfl, by rw [decide_eq_false (by omega)]⟩
 rintro _ _ _ ⟨rfl, rfl⟩
 repeat (with_reducible refine r_vf ?_)
 refine whole_spec j H hj hn hs fun w1 S1 H1 => ?_; clear H; have S := S1; have H := H1; clear S1 H1
 repeat (refine r_not ?_)
 by_cases hwh : share lens = 1048576
 rotate_left
 · rw [decide_eq_false hwh]; exact r_vt (kb hwh _ S H)
 have hW : Whole lens := ⟨hs, hwh⟩; rw [decide_eq_true hwh, Bool.not_true]
 repeat (with_reducible refine r_vf ?_)
 refine r_join1 (fun x w' => ∃ b lv cv, x = pt b ∧ Same w w' ∧ Holds w' (blk b tC (cdC lv cv (.slice none 0 0) (List.replicate 21 0) (List.replicate 22 0)) :: SL uv tU cv (List.replicate lens.length 0) :: SL nv tI lv lens :: L)) ?_ ?_
 rotate_left
 · repeat (refine r_dr H ?_; clear H; intro _ S_ H; replace S := S.trans S_; clear S_)
   rename_i w2; have hto : ((lens.length : Nat) : Int).toNat = lens.length := Int.toNat_natCast _; refine ⟨?_, ?_⟩
   · refine Clone_spec H j hj (by omega) fun v1 w3 S3 H3 => ?_; refine r_lnS (j + 1) H3 (by rw [List.getElem?_cons_succ]; exact hj) ?_; refine r_rk (r_lnS j H hj rfl) ?_; refine r_ms (e := tU) (f := uv) (x := 0) H3 rfl (by omega) (by omega) fun b4 w4 S4 H4 => ?_; rw [hto] at H4 ⊢; have H5 := H4.close 0 rfl; rw [List.set_cons_zero] at H5; obtain ⟨oa, sp, rfl, H6⟩ := H5.open 1 rfl; refine r_bd (v := .agg #[.slice oa lens.length (lens.length + sp.length), .slice (some ⟨b4, 0, none⟩) lens.length lens.length, .slice none 0 0, nv 0, nv 0, nv 0, nv 0, nv 0, nv 0, nv 0, nv 0, nv 0, nv 0, nv 0, nv 0, nv 0, nv 0, nv 0, nv 0, nv 0, nv 0, nv 0, nv 0, nv 0, nv 0, nv 0, nv 0, nv 0, nv 0, nv 0, nv 0, nv 0, nv 0, nv 0, nv 0, nv 0, nv 0, nv 0, nv 0, nv 0, nv 0, nv 0, nv 0, nv 0, nv 0, nv 0]) (by kernel_rfl) ?_; refine r_new H5 fun b w5 S5 H7 => ?_
     repeat (refine r_ke ?_)
     refine ⟨b, .slice oa lens.length (lens.length + sp.length), .slice (some ⟨b4, 0, none⟩) lens.length lens.length, rfl, ((S.trans S3).trans S4).trans S5, ?_⟩; rw [List.length_replicate] at H7; exact H7
   · refine r_lnS j H hj ?_; refine r_ms (e := tU) (f := uv) (x := 0) H rfl (by omega) (by omega) fun b4 w4 S4 H4 => ?_; rw [hto] at H4 ⊢; have H5 := H4.close 0 rfl; rw [List.set_cons_zero] at H5; refine Clone_spec H5 (j + 1) (by rw [List.getElem?_cons_succ]; exact hj) (by omega) fun v1 w3 S3 H3 => ?_; refine r_rk (r_lnS (j + 2) H3 (by rw [List.getElem?_cons_succ, List.getElem?_cons_succ]; exact hj) rfl) ?_; obtain ⟨oa, sp, rfl, H6⟩ := H3.open 0 rfl; refine r_bd (v := .agg #[.slice oa lens.length (lens.length + sp.length), .slice (some ⟨b4, 0, none⟩) lens.length lens.length, .slice none 0 0, nv 0, nv 0, nv 0, nv 0, nv 0, nv 0, nv 0, nv 0, nv 0, nv 0, nv 0, nv 0, nv 0, nv 0, nv 0, nv 0, nv 0, nv 0, nv 0, nv 0, nv 0, nv 0, nv 0, nv 0, nv 0, nv 0, nv 0, nv 0, nv 0, nv 0, nv 0, nv 0, nv 0, nv 0, nv 0, nv 0, nv 0, nv 0, nv 0, nv 0, nv 0, nv 0, nv 0]) (by kernel_rfl) ?_; refine r_new H3 fun b w5 S5 H7 => ?_
     repeat (refine r_ke ?_)
     refine ⟨b, .slice oa lens.length (lens.length + sp.length), .slice (some ⟨b4, 0, none⟩) lens.length lens.length, rfl, ((S.trans S4).trans S3).trans S5, ?_⟩; rw [List.length_replicate] at H7; exact (Holds.front H7 2 rfl).swap
 rintro _ _ w2 ⟨b, lv, cv, rfl, S2, H2⟩; clear S H; have hl20 := fun n (h : n ≤ 20) => frm_le lens hs n h; have hcl := fun n => List.count_le_length (a := n) (l := lens)
 refine r_loop2 (fun x y w' => ∃ n ov, 1 ≤ n ∧ n ≤ 21 ∧ y = nv n ∧ x = nv (nx lens (n - 1)) ∧ Same w w' ∧ Holds w' (blk b tC (cdC lv cv ov (filled (fL lens) 0 21 n) (filled (gL lens) 0 22 n)) :: SL nv tI ov (upto lens (n - 1)) :: SL uv tU cv (codesAt lens n 0) :: SL nv tI lv lens :: L))
   (fun _ y _ => 21 - (RowKit.intOf y).toNat) ⟨1, .slice none 0 0, by omega, by omega, rfl, rfl, S2, ?_⟩ ?_
 · rw [codesAt_0 hs]; have e1 : filled (fL lens) 0 21 1 = List.replicate 21 0 := rfl; have e2 : filled (gL lens) 0 22 1 = List.replicate 22 0 := rfl; rw [e1, e2]; exact (H2.nilSL nv tI).swap
 clear S2 H2; rintro _ _ _ w3 ⟨n, ov, h1, h21, rfl, rfl, S, H⟩; have lF : (filled (fL lens) 0 21 n).length = 21 := filled_len (by omega) fL_len; have lG : (filled (gL lens) 0 22 n).length = 22 := filled_len (by omega) gL_len
 repeat (refine r_leq ?_)
 refine r_ifD (fun h => ?_) fun h => ?_
 · have hn20 : n ≤ 20 := by omega
   have hnl := nx_le hW (n - 1) (by omega); have hp : 2 ^ (n - 1) ≤ 2 ^ 19 := Nat.pow_le_pow_right (by decide) (by omega)
   repeat (first | refine r_mulE ((2 * nx lens (n - 1) : Nat) : Int) (by omega) (by omega) (by omega) ?_ | refine r_nc ?_ | refine r_fo0 ?_ | (refine r_iaaN (by omega) ?_))
   refine r_st 0 H rfl (by rw [cdlen lF lG]; omega) rfl fun w4 S4 H4 => ?_; rw [List.set_cons_zero, sF _ (by omega), filled_set (x := 2 * nx lens (n - 1)) (by omega) fL_len (fL_get (by omega))] at H4; replace S := S.trans S4; clear H; have H := H4; clear H4 S4; have lF1 : (filled (fL lens) 0 21 (n + 1)).length = 21 := filled_len (by omega) fL_len
   repeat (first | ((with_reducible apply r_ld 0 H); (exact rfl); (with_reducible exact (cd2))) | refine r_nc ?_ | refine r_fo0 ?_ | (refine r_dr H ?_; clear H; intro _ S_ H; replace S := S.trans S_; clear S_))
   refine r_lnS 1 H rfl ?_
   repeat (first | refine r_nc ?_ | refine r_fo0 ?_ | (refine r_iaaN (by omega) ?_))
   refine r_st 0 H rfl (by rw [cdlen lF1 lG]; omega) rfl fun w4 S4 H4 => ?_; rw [List.set_cons_zero, sG _ lF1 (by omega), filled_set (x := (upto lens (n - 1)).length) (by omega) gL_len (gL_get (by omega))] at H4; replace S := S.trans S4; clear H; have H := H4; clear H4 S4; refine r_lnS (j + 4) H (by rw [List.getElem?_cons_succ, List.getElem?_cons_succ, List.getElem?_cons_succ, List.getElem?_cons_succ]; exact hj) ?_
   refine r_loop2 (fun x y w' => ∃ i ov, i ≤ lens.length ∧ y = nv i ∧ x = nv (fst_ lens n + (lens.take i).count n) ∧ Same w w' ∧ Holds w' (blk b tC (cdC lv cv ov (filled (fL lens) 0 21 (n + 1)) (filled (gL lens) 0 22 (n + 1))) :: SL nv tI ov (upto lens (n - 1) ++ grp lens i n) :: SL uv tU cv (codesAt lens n i) :: SL nv tI lv lens :: L))
     (fun _ y _ => lens.length - (RowKit.intOf y).toNat) ⟨0, ov, by omega, rfl, rfl, S, ?_⟩ ?_
   · have e1 : grp lens 0 n = [] := rfl; rw [e1, List.append_nil]; exact H
   clear H S; rintro _ _ _ w5 ⟨i, ov, hi, rfl, rfl, S, H⟩; have lG1 : (filled (gL lens) 0 22 (n + 1)).length = 22 := filled_len (by omega) gL_len; have hci : (lens.take i).count n ≤ 258 := Nat.le_trans (List.count_le_length ..) (by rw [List.length_take]; omega)
   have hfs : fst_ lens n ≤ 2 ^ 20 := by rw [fst_]; omega
   repeat (refine r_lss ?_)
   refine r_ifD (fun h => ?_) fun h => ?_
   · have hlt : i < lens.length := by omega
     refine r_getS (j + 4) H (by rw [List.getElem?_cons_succ, List.getElem?_cons_succ, List.getElem?_cons_succ, List.getElem?_cons_succ]; exact hj) (getD_some hlt) ?_; have hb := sized_at hs hlt
     have etk : (lens.take (i + 1)).count n = (lens.take i).count n + if lens.getD i 0 = n then 1 else 0 := by
       rw [take_snoc (getD_some hlt), List.count_append, List.count_cons, List.count_nil]
       by_cases hx : lens.getD i 0 = n
       · rw [if_pos hx, if_pos (by simpa using hx)]
       · rw [if_neg hx, if_neg (by simpa using hx)]
     repeat (refine r_eql ?_)
     refine r_ifE (fun hx => ?_) fun hx => ?_
     · have hx' : lens.getD i 0 = n := by omega
       rw [if_pos hx'] at etk
       repeat (first | ((with_reducible apply r_ld 0 H); (exact rfl); (with_reducible exact (cd1))) | refine r_nc ?_ | refine r_fo0 ?_ | (refine r_ciu32 (by omega) (by omega) ?_))
       refine r_setS 2 H (f := uv) (fst_ lens n + (lens.take i).count n) rfl (by rw [codesAt_len]; exact hlt) rfl fun w6 S6 H6 => ?_; rw [List.set_cons_succ, List.set_cons_succ, List.set_cons_zero, codesAt_set hlt hx'] at H6; replace S := S.trans S6; clear H; have H := H6; clear H6 S6
       repeat (first | ((with_reducible apply r_ld 0 H); (exact rfl); (with_reducible exact (cd2))) | refine r_nc ?_ | refine r_fo0 ?_)
       have hul : (upto lens (n - 1) ++ grp lens i n).length ≤ 600 := by
         rw [List.length_append, grp_len lens n i hi]; have := hl20 (n - 1) (by omega); omega
       refine r_app1 H 1 rfl i sg_nv (by omega) fun v' w6 S6 H6 => ?_; rw [List.set_cons_succ, List.set_cons_zero] at H6; replace S := S.trans S6; clear H; have H := H6; clear H6 S6
       repeat (first | refine r_nc ?_ | refine r_fo0 ?_)
       refine r_st 0 H rfl (by rw [cdlen lF1 lG1]; omega) (SL_sg H 1 rfl) fun w6 S6 H6 => ?_; rw [List.set_cons_zero, sd2] at H6
       repeat (first | refine r_ke ?_ | (refine r_add1N (by omega) ?_))
       refine ⟨⟨i + 1, v', by omega, rfl, by rw [etk]; rfl, S.trans S6, ?_⟩, ?_⟩
       · rw [grp_succ, if_pos hx', ← List.append_assoc]; exact H6
       · simp [nv, RowKit.intOf]; omega
     · have hx' : lens.getD i 0 ≠ n := by omega
       rw [if_neg hx'] at etk
       repeat (first | refine r_ke ?_ | (refine r_add1N (by omega) ?_))
       refine ⟨⟨i + 1, ov, by omega, rfl, by rw [etk]; rfl, S, ?_⟩, ?_⟩
       · rw [grp_succ, if_neg hx', List.append_nil, codesAt_skip hx']; exact H
       · simp [nv, RowKit.intOf]; omega
   · obtain rfl : i = lens.length := by omega
     repeat (first | refine r_ke ?_ | (refine r_add1N (by omega) ?_))
     obtain ⟨m, rfl⟩ : ∃ m, n = m + 1 := ⟨n - 1, by omega⟩; refine ⟨⟨m + 1 + 1, ov, by omega, by omega, rfl, ?_, S, ?_⟩, ?_⟩
     · rw [List.take_length, Nat.add_sub_cancel, nx_eq lens (m + 1) (by omega)]
     · rw [codesAt_next] at H; exact H
     · simp [nv, RowKit.intOf]; omega
 · obtain rfl : n = 21 := by omega
   repeat (first | ((with_reducible apply r_ld 0 H); (exact rfl); (with_reducible exact (cd2))) | refine r_nc ?_ | refine r_fo0 ?_ | (refine r_dr H ?_; clear H; intro _ S_ H; replace S := S.trans S_; clear S_))
   refine r_lnS 1 H rfl ?_; have hr : (blk b tC (cdC lv cv ov (filled (fL lens) 0 21 21) (filled (gL lens) 0 22 21)) :: SL nv tI ov (upto lens (21 - 1)) :: SL uv tU cv (codesAt lens 21 0) :: SL nv tI lv lens :: L).length = L.length + 4 := rfl
   repeat (first | refine r_iaaN (m := 21) (by omega) ?_ | refine r_nc ?_ | refine r_fo0 ?_)
   refine r_st 0 H rfl (by rw [cdlen lF lG]; omega) rfl fun w4 S4 H4 => ?_; rw [List.set_cons_zero, sG (n := 21) _ lF (by omega), filled_set (x := (upto lens (21 - 1)).length) (by omega) gL_len (gL_get (by omega)), filled_all fL_len, filled_all gL_len] at H4; exact k hW b _ (S.trans S4) (CodeR_close ⟨hW, hn⟩ H4)
theorem get_spec (H : Holds w (CodeR b lens :: RdR r B d at_ :: L))
   (ks : getC lens (rest B at_) = none → ∀ q w', Same w w' → Holds w' (CodeR b lens :: RdR r B d q :: L) → K (.tuple #[iv 0, iv 3]) w')
   (k : ∀ s n, getC lens (rest B at_) = some (s, n) → ∀ w', Same w w' → Holds w' (CodeR b lens :: RdR r B d (at_ + n) :: L) → K (.tuple #[nv s, iv 0]) w') : Cl Tryz.prog F.canon_Code_get #[pt b, pt r] w K := by
 refine Tie.canon_Code_get ?_; unfold Vcf.canon_Code_get; obtain ⟨⟨hW, hn⟩, _⟩ := CodeR_open H
 refine r_loop2 (fun x y w' => ∃ n : Nat, n ≤ 20 ∧ n ≤ (rest B at_).length ∧ y = nv (n + 1) ∧ x = nv (valB ((rest B at_).take n)) ∧ (∀ j, j < n → hit lens (rest B at_) j = false) ∧ Same w w' ∧ Holds w' (CodeR b lens :: RdR r B d (at_ + n) :: L))
   (fun _ y _ => 21 - (RowKit.intOf y).toNat) ⟨0, by omega, by omega, rfl, rfl, fun j hj => absurd hj (Nat.not_lt_zero j), .refl w, H⟩ ?_
 clear H; rintro _ _ _ w1 ⟨n, h20, hlen, rfl, rfl, hmiss, S, H⟩
 repeat (refine r_leq ?_)
 refine r_ifD (fun h => ?_) fun h => ?_
 · refine Get1_spec H.swap (fun hs w2 S2 H2 => ?_) fun c hc w2 S2 H2 => ?_
   · rw [rest_idx] at hs
     have hl : (rest B at_).length ≤ n := by simpa using hs
     repeat (first | refine r_neq ?_ | (with_reducible refine r_ex20 ?_) | (with_reducible refine r_ex21 ?_) | ((with_reducible refine r_vtN ?h ?_); (case h => omega)))
     refine ks (getC_none fun j hj => ?_) _ _ (S.trans S2) H2.swap; rcases Nat.lt_or_ge j n with h1 | h1
     · exact hmiss j h1
     · unfold hit; rw [decide_eq_false_iff_not]; rintro ⟨h2, _⟩; omega
   · rw [rest_idx] at hc; have hl : n < (rest B at_).length := (List.getElem?_eq_some_iff.1 hc).1; have hv := valB_take_lt (rest B at_) n; have hp : 2 ^ n ≤ 2 ^ 20 := Nat.pow_le_pow_right (by decide) h20; have hge := miss_ge hmiss hl
     have ev : valB ((rest B at_).take (n + 1)) = 2 * valB ((rest B at_).take n) + c.toNat := by
       rw [take_snoc hc, valB_snoc]
     have hcb := Bool.toNat_le c
     have h19 : n < 20 := by omega
     have hnx := nx_eq lens (n + 1) (by omega); have hfr := frm_succ lens (n + 1) (by omega); have hul := frm_le lens hW.sized (n + 1) (by omega)
     have hfr2 : frm lens (n + 1 + 1) = (upto lens (n + 1)).length := by rw [frm, Nat.add_sub_cancel]
     replace S := S.trans S2; replace H := H2.swap; clear H2 S2; obtain ⟨hWn, lv, cv, ov, H⟩ := CodeR_open H
     repeat (first | refine r_mulE ((2 * valB ((rest B at_).take n) : Nat) : Int) (by omega) (by omega) (by omega) ?_ | refine r_nc ?_ | refine r_fo0 ?_ | refine r_neq ?_ | (with_reducible refine r_ex20 ?_) | (with_reducible refine r_ex21 ?_) | (refine r_ci64 (by omega) (by omega) ?_) | (refine r_addN (by omega) ?_) | (refine r_iaaN (by omega) ?_) | (refine r_dr H ?_; clear H; intro _ S_ H; replace S := S.trans S_; clear S_) | ((with_reducible refine r_vfN ?h ?_); (case h => omega)))
     rw [← ev]
     repeat (first | ((with_reducible apply r_ld 0 H); (exact rfl); (with_reducible exact ((cG fL_len (gL_get (by omega)))))) | ((with_reducible apply r_ld 0 H); (exact rfl); (with_reducible exact ((cF (fL_get (by omega)))))) | refine r_nc ?_ | refine r_fo0 ?_ | refine r_lss ?_ | (refine r_add1N (by omega) ?_) | (refine r_addN (by omega) ?_) | (refine r_iaaN (by omega) ?_) | (refine r_sub (by omega) (by omega) ?_))
     rw [show ((frm lens (n + 1) + valB ((rest B at_).take (n + 1)) : Nat) : Int) - (fst_ lens (n + 1) : Nat) = ((frm lens (n + 1) + (valB ((rest B at_).take (n + 1)) - fst_ lens (n + 1)) : Nat) : Int) by omega]
     repeat (fail)
     refine r_ifD (fun hh => ?_) fun hh => ?_
     · have hhit : hit lens (rest B at_) n = true := by
         unfold hit; rw [decide_eq_true_iff]; omega
       have hC := getC_some h19 hhit hmiss
       have hlt : valB ((rest B at_).take (n + 1)) - fst_ lens (n + 1) < lens.count (n + 1) := by omega
       have hu := upto_get (lens := lens) (n := n + 1) (by omega) (by omega) hlt; obtain ⟨x, hx⟩ : ∃ x, (grp lens lens.length (n + 1))[valB ((rest B at_).take (n + 1)) - fst_ lens (n + 1)]? = some x := ⟨_, List.getElem?_eq_getElem (by rw [grp_len']; exact hlt)⟩; rw [hx] at hu
       repeat (first | ((with_reducible apply r_ld 0 H); (exact rfl); (with_reducible exact (cd2))) | refine r_nc ?_ | refine r_fo0 ?_)
       refine r_getS 1 H rfl hu ?_; rw [List.getD_eq_getElem?_getD, hu] at hC; exact k _ _ hC _ S (by rw [← Nat.add_assoc]; exact CodeR_close hWn H)
     · repeat (first | refine r_ke ?_ | (refine r_add1N (by omega) ?_))
       refine ⟨⟨n + 1, by omega, by omega, rfl, rfl, fun j hj => ?_, S, by rw [← Nat.add_assoc]; exact CodeR_close hWn H⟩, ?_⟩
       · rcases Nat.lt_or_ge j n with h1 | h1
         · exact hmiss j h1
         · obtain rfl : j = n := by omega
           unfold hit; rw [decide_eq_false_iff_not]; rintro ⟨_, h2⟩; omega
       · simp [nv, RowKit.intOf]; omega
 · obtain rfl : n = 20 := by omega
   have := hmiss 19 (by omega); rw [hit_20 hW hlen] at this; cases this
theorem Get_spec (H : Holds w (CodeR b lens :: RdR r B d at_ :: L))
   (ks : getC lens (rest B at_) = none → ∀ w', Same w w' → Holds w' (CodeR b lens :: RdR r B d at_ :: L) → K (.tuple #[iv 0, iv 3]) w')
   (k : ∀ s n, getC lens (rest B at_) = some (s, n) → ∀ w', Same w w' → Holds w' (CodeR b lens :: RdR r B d (at_ + n) :: L) → K (.tuple #[nv s, iv 0]) w') : Cl Tryz.prog F.canon_Code_Get #[pt b, pt r] w K := by
 refine Tie.canon_Code_Get ?_; unfold Vcf.canon_Code_Get; have hf := (RdR_open H.swap).1; refine r_join1 (fun x w' => w = w' ∧ x = .bool false) ?_ ?_
 · rintro _ _ _ ⟨rfl, rfl⟩
   repeat (with_reducible refine r_vf ?_)
   refine At_spec H.swap ?_; refine get_spec H (fun hs q w2 S2 H2 => ?_) fun s n hg w2 S2 H2 => ?_
   · repeat (first | refine r_neq ?_ | (with_reducible refine r_ex20 ?_) | (with_reducible refine r_ex21 ?_) | ((with_reducible refine r_vtN ?h ?_); (case h => omega)))
     refine P13.seek_back H2 ⟨hf.1, hf.2.1⟩ fun w3 S3 H3 => ?_; exact ks hs _ (S2.trans S3) H3
   · repeat (first | refine r_neq ?_ | (with_reducible refine r_ex20 ?_) | (with_reducible refine r_ex21 ?_) | ((with_reducible refine r_vfN ?h ?_); (case h => omega)))
     exact k s n hg _ S2 H2
 · repeat (first | refine r_ke ?_ | (with_reducible refine r_bnSF ?_) | (with_reducible refine r_vf ?_))
   exact ⟨rfl, rfl⟩
end C10
instance rowC : Row Tryz.prog 140 239 (.pointer none) := ⟨by kernel_rfl, ⟨Tryz.t239, by kernel_rfl, by kernel_rfl, by decide, by kernel_rfl⟩, rfl⟩
namespace C14
open Go.M01 Go.Mb Go.Mp Go.M10 Go.Mc Rb
variable {w : World} {L : List HProp} {K : Value → World → Prop} {b r : Nat} {B : List UInt8} {d at_ n : Nat} {c : CS}
abbrev tCd : Nat := 142
abbrev tCP : Nat := 239
def CodesS (bs : List Nat) (cs : List (List Nat)) : HProp := Sat ((bs.zip cs).map fun x => C10.CodeR x.1 x.2)
theorem codes_get {bs : List Nat} {cs : List (List Nat)} {i : Nat} {l : List Nat} (hb : bs[i]? = some b) (hc : cs[i]? = some l) : ∃ A, (∀ h, Sat (CodesS bs cs :: L) h → Sat (C10.CodeR b l :: A) h) ∧ ∀ h, Sat (C10.CodeR b l :: A) h → Sat (CodesS bs cs :: L) h := by
 have hz : ((bs.zip cs).map fun x => C10.CodeR x.1 x.2)[i]? = some (C10.CodeR b l) := by
   rw [List.getElem?_map, (List.getElem?_zip_eq_some (z := (b, l))).2 ⟨hb, hc⟩]; rfl
 have hlt : i < ((bs.zip cs).map fun x => C10.CodeR x.1 x.2).length := (List.getElem?_eq_some_iff.1 hz).1
 have hz2 : (((bs.zip cs).map fun x => C10.CodeR x.1 x.2) ++ L)[i]? = some (C10.CodeR b l) := by rw [List.getElem?_append_left hlt]; exact hz
 refine ⟨(((bs.zip cs).map fun x => C10.CodeR x.1 x.2) ++ L).eraseIdx i, fun h H => Sat.pull i (Sat.unpack H) hz2, fun h H => ?_⟩; have := Sat.push i hz2 H
 have e : (((bs.zip cs).map fun x => C10.CodeR x.1 x.2) ++ L).set i (C10.CodeR b l) = ((bs.zip cs).map fun x => C10.CodeR x.1 x.2) ++ L := by
   have hl : i < (((bs.zip cs).map fun x => C10.CodeR x.1 x.2) ++ L).length := (List.getElem?_eq_some_iff.1 hz2).1; have e1 : (((bs.zip cs).map fun x => C10.CodeR x.1 x.2) ++ L)[i] = _ := (List.getElem?_eq_some_iff.1 hz2).2; rw [← e1, List.set_getElem_self]
 rw [e] at this; exact Sat.pack this
theorem codes_add {bs : List Nat} {cs : List (List Nat)} {l : List Nat} (hl : bs.length = cs.length) (H : Holds w (C10.CodeR b l :: CodesS bs cs :: L)) : Holds w (CodesS (bs ++ [b]) (cs ++ [l]) :: L) := by
 have H2 := Holds.unpack (A := (bs.zip cs).map fun x => C10.CodeR x.1 x.2) H.swap; unfold CodesS; rw [List.zip_append hl, List.map_append]; refine Holds.pack ?_; rw [List.append_assoc]; exact H2
def took (c : CS) : List Nat := if c.picks.done = true then c.picks.picks else []
def cdL (b : Nat) (c : CS) (pb db : Nat) (tv cv : Value) (bs : List Nat) : List HProp :=
 [blk b tCd [nv c.size, pt pb, tv, pt db, cv, nv c.count, .bool c.done, iv 0], P13.PkR pb c.picks, SL nv tI tv (took c), D11.DlR db c.lens, SL pt tCP cv bs, CodesS bs c.codes]
def CdR (b : Nat) (c : CS) : HProp := fun h => c.Ok ∧ ∃ pb db tv cv bs, bs.length = c.codes.length ∧ Sat (cdL b c pb db tv cv bs) h
theorem CdR_open (H : Holds w (CdR b c :: L)) : c.Ok ∧ ∃ pb db tv cv bs, bs.length = c.codes.length ∧ Holds w (cdL b c pb db tv cv bs ++ L) := by
 obtain ⟨h, H⟩ := Holds.pure H; obtain ⟨pb, H⟩ := Holds.ex H; obtain ⟨db, H⟩ := Holds.ex H; obtain ⟨tv, H⟩ := Holds.ex H; obtain ⟨cv, H⟩ := Holds.ex H; obtain ⟨bs, H⟩ := Holds.ex H; obtain ⟨hb, H⟩ := Holds.pure H; exact ⟨h, pb, db, tv, cv, bs, hb, Holds.unpack H⟩
theorem CdR_close {pb db : Nat} {tv cv : Value} {bs : List Nat} (h : c.Ok) (hb : bs.length = c.codes.length) (H : Holds w (cdL b c pb db tv cv bs ++ L)) : Holds w (CdR b c :: L) :=
 Holds.imp (Holds.pack H) fun _ hh => ⟨h, pb, db, tv, cv, bs, hb, hh⟩
def AfterC (x : Res (CS × Option Nat)) (b : Nat) (c : CS) (r : Nat) (B : List UInt8) (d at_ : Nat) (L : List HProp) (zero : Value) (v : Value) (w : World) : Prop :=
 match x with
 | .short => v = .tuple #[zero, iv 3] ∧ Holds w (CdR b c :: RdR r B d at_ :: L)
 | .bad e => v = .tuple #[zero, iv e] ∧ ∃ q v1 v2 v3 v4 v5 v6 v7, Holds w (blk b tCd [v1, v2, v3, v4, v5, v6, v7, iv 0] :: RdR r B d q :: L)
 | .ok (s, o) n => v = .tuple #[match o with | none => iv (-1) | some s => nv s, iv 0] ∧ Holds w (CdR b s :: RdR r B d (at_ + n) :: L)
theorem NewReader_spec (H : Holds w L) (h1 : 3 ≤ n) (h2 : n ≤ 258) (k : ∀ b w', Same w w' → Holds w' (CdR b (c0 n) :: L) → K (.tuple #[pt b, iv 0]) w') : Cl Tryz.prog F.code_NewReader #[nv n] w K := by
 refine Tie.code_NewReader ?_; unfold Vcf.code_NewReader; refine D11.NewReader_spec H h1 h2 fun db w1 S1 H1 => ?_
 repeat (first | refine r_neq ?_ | (with_reducible refine r_ex20 ?_) | (with_reducible refine r_ex21 ?_) | ((with_reducible refine r_vfN ?h ?_); (case h => omega)))
 refine P13.NewReader_spec H1 fun pb w2 S2 H2 => ?_; refine r_bd (v := .agg #[nv n, pt pb, .slice none 0 0, pt db, .slice none 0 0, nv 0, .bool false, iv 0]) (by kernel_rfl) ?_; refine r_new H2 fun b w3 S3 H3 => ?_; refine k b _ ((S1.trans S2).trans S3) (CdR_close (pb := pb) (db := db) (tv := .slice none 0 0) (cv := .slice none 0 0) (bs := []) (c0_ok h1 h2) rfl ?_); replace H3 : Holds w3 (blk b tCd [nv n, pt pb, .slice none 0 0, pt db, .slice none 0 0, nv 0, .bool false, iv 0] :: P13.PkR pb p0 :: D11.DlR db (d0 n) :: L) := H3; have H4 := (H3.nilSL nv tI); have H5 := H4.nilSL pt tCP; have H6 : Holds w3 (Sat [] :: SL pt tCP (.slice none 0 0) [] :: SL nv tI (.slice none 0 0) [] :: blk b tCd [nv n, pt pb, .slice none 0 0, pt db, .slice none 0 0, nv 0, .bool false, iv 0] :: P13.PkR pb p0 :: D11.DlR db (d0 n) :: L) := Holds.pack (A := []) H5; exact (by have h_ := Holds.ord 6 [3, 4, 2, 5, 1, 0] H6 rfl; exact h_)
theorem Done_spec (H : Holds w (CdR b c :: L)) (k : K (.bool c.done) w) : Cl Tryz.prog F.code_Reader_Done #[pt b] w K := by
 refine Tie.code_Reader_Done ?_; unfold Vcf.code_Reader_Done; obtain ⟨hc, pb, db, tv, cv, bs, hb, H⟩ := CdR_open H
 repeat (first | refine r_nc ?_ | refine r_fo0 ?_ | (with_reducible refine r_bnST ?_) | (with_reducible refine r_vt ?_) | refine r_ld 0 H rfl rfl ?_)
 exact k
theorem pick_spec (H : Holds w (CdR b c :: RdR r B d at_ :: L)) (hp : c.picks.done = false) (post : ∀ v w', Same w w' → AfterC (cstep c (rest B at_)) b c r B d at_ L (iv (-1)) v w' → K v w') :
   Cl Tryz.prog F.code_Reader_pick #[pt b, pt r] w K := by
 refine Tie.code_Reader_pick ?_; unfold Vcf.code_Reader_pick; obtain ⟨hc, pb, db, tv, cv, bs, hb, H⟩ := CdR_open H; have hok := fun c' o k (h : cstep c (rest B at_) = .ok (c', o) k) => (cstep_ok h hc).1
 have e0 : cstep c (rest B at_) = withPicks c (pstep c.picks (rest B at_)) := by unfold cstep; rw [if_pos hp]
 rw [e0] at post hok; unfold cdL at H
 repeat (first | refine r_nc ?_ | refine r_fo0 ?_ | refine r_ld 0 H rfl rfl ?_)
 have H1 : Holds w (P13.PkR pb c.picks :: RdR r B d at_ :: blk b tCd [nv c.size, pt pb, tv, pt db, cv, nv c.count, .bool c.done, iv 0] :: SL nv tI tv (took c) :: D11.DlR db c.lens :: SL pt tCP cv bs :: CodesS bs c.codes :: L) := (Holds.front H 6 rfl).front 2 rfl; clear H; refine P13.Step_spec H1 hp fun e w2 S2 hA => ?_
 cases hx : pstep c.picks (rest B at_) with
 | short =>
   rw [hx] at hA post; obtain ⟨rfl, H⟩ := hA
   repeat (first | refine r_ld 2 H rfl rfl ?_ | refine r_nc ?_ | refine r_fo0 ?_)
   refine P13.Done_spec H fun w3 S3 H3 => ?_; rw [hp]; refine r_vf ?_; exact post _ _ (S2.trans S3) ⟨rfl, CdR_close (pb := pb) (db := db) (tv := tv) (cv := cv) hc hb (by have h_ := Holds.ord 7 [2, 0, 3, 4, 5, 6, 1] H3 rfl; exact h_)⟩
 | bad c0 =>
   rw [hx] at hA post; obtain ⟨rfl, q, H⟩ := hA
   repeat (first | refine r_ld 2 H rfl rfl ?_ | refine r_nc ?_ | refine r_fo0 ?_)
   refine P13.DoneW_spec H hp fun w3 S3 H3 => ?_; refine r_vf ?_; exact post _ _ (S2.trans S3) ⟨rfl, q, _, _, _, _, _, _, _, (by have h_ := Holds.ord 7 [2, 1] H3 rfl; exact h_)⟩
 | ok p k =>
   rw [hx] at hA post hok; obtain ⟨rfl, H⟩ := hA; have hc' := hok _ _ _ rfl
   repeat (first | refine r_ld 2 H rfl rfl ?_ | refine r_nc ?_ | refine r_fo0 ?_)
   refine P13.Done_spec H fun w3 S3 H3 => ?_; have S := S2.trans S3; clear H S2 S3; have H := H3; clear H3
   cases hd : p.done with
   | false =>
     refine r_vf ?_; refine post _ _ S ⟨rfl, CdR_close (pb := pb) (db := db) (tv := tv) (cv := cv) (bs := bs) hc' hb ?_⟩
     have et : took ⟨c.size, p, c.lens, c.codes, c.count, c.done⟩ = took c := by unfold took; rw [hp, hd]; rfl
     unfold cdL; rw [et]; exact (by have h_ := Holds.ord 7 [2, 0, 3, 4, 5, 6, 1] H rfl; exact h_)
   | true =>
     refine r_vt ?_
     repeat (first | refine r_ld 2 H rfl rfl ?_ | refine r_nc ?_ | refine r_fo0 ?_)
     refine P13.Picks_spec H fun v w3 S3 H3 => ?_
     repeat (first | refine r_nc ?_ | refine r_fo0 ?_)
     refine r_st 3 H3 rfl (by simp) (SL_sg H3 0 rfl) fun w4 S4 H4 => ?_; replace H4 : Holds w4 (SL nv tI v p.picks :: P13.PkR pb p :: RdR r B d (at_ + k) :: blk b tCd [nv c.size, pt pb, v, pt db, cv, nv c.count, .bool c.done, iv 0] :: SL nv tI tv (took c) :: D11.DlR db c.lens :: SL pt tCP cv bs :: CodesS bs c.codes :: L) := H4; refine post _ _ ((S.trans S3).trans S4) ⟨rfl, CdR_close (pb := pb) (db := db) (tv := v) (cv := cv) (bs := bs) hc' hb ?_⟩
     have et : took ⟨c.size, p, c.lens, c.codes, c.count, c.done⟩ = p.picks := by unfold took; rw [hd]; rfl
     unfold cdL; rw [et]; exact (by have h_ := Holds.ord 8 [3, 1, 0, 5, 6, 7, 2] H4 rfl; exact h_)
theorem table_spec (H : Holds w (CdR b c :: RdR r B d at_ :: L)) (hp : c.picks.done = true) (hl : c.codes.length < c.picks.t) (post : ∀ v w', Same w w' → AfterC (cstep c (rest B at_)) b c r B d at_ L (iv (-1)) v w' → K v w') :
   Cl Tryz.prog F.code_Reader_table #[pt b, pt r] w K := by
 refine Tie.code_Reader_table ?_; unfold Vcf.code_Reader_table; obtain ⟨hc, pb, db, tv, cv, bs, hb, H⟩ := CdR_open H; have hok := fun c' o k (h : cstep c (rest B at_) = .ok (c', o) k) => (cstep_ok h hc).1
 have e0 : cstep c (rest B at_) = withLens c (dstep c.lens (rest B at_)) := by unfold cstep; rw [if_neg (by rw [hp]; decide), if_pos hl]
 rw [e0] at post hok; unfold cdL at H
 repeat (first | refine r_nc ?_ | refine r_fo0 ?_ | refine r_ld 0 H rfl rfl ?_)
 have H1 : Holds w (D11.DlR db c.lens :: RdR r B d at_ :: blk b tCd [nv c.size, pt pb, tv, pt db, cv, nv c.count, .bool c.done, iv 0] :: P13.PkR pb c.picks :: SL nv tI tv (took c) :: SL pt tCP cv bs :: CodesS bs c.codes :: L) := (by have h_ := Holds.ord 7 [3, 6, 0, 1, 2, 4, 5] H rfl; exact h_); clear H; refine D11.Step_spec H1 hc.dd fun e w2 S2 hA => ?_; clear H1
 cases hx : dstep c.lens (rest B at_) with
 | short =>
   rw [hx] at hA post; obtain ⟨rfl, H⟩ := hA; refine r_join1 (fun x w' => w2 = w' ∧ x = .bool true) ?_ ?_
   · rintro _ _ _ ⟨rfl, rfl⟩; refine r_vt ?_; exact post _ _ S2 ⟨rfl, CdR_close (pb := pb) (db := db) (tv := tv) (cv := cv) hc hb (by have h_ := Holds.ord 7 [2, 3, 4, 0, 5, 6, 1] H rfl; exact h_)⟩
   · repeat (first | refine r_ke ?_ | refine r_neq ?_ | ((with_reducible refine r_vtN ?h ?_); (case h => omega)))
     exact ⟨rfl, rfl⟩
 | bad c0 =>
   have h22 := dstep_bad hx; subst h22; rw [hx] at hA post; obtain ⟨rfl, q, H⟩ := hA; refine r_join1 (fun x w' => w2 = w' ∧ x = .bool true) ?_ ?_
   · rintro _ _ _ ⟨rfl, rfl⟩; refine r_vt ?_; exact post _ _ S2 ⟨rfl, q, _, _, _, _, _, _, _, (by have h_ := Holds.ord 6 [1, 0] H rfl; exact h_)⟩
   · repeat (first | refine r_ke ?_ | refine r_neq ?_ | ((with_reducible refine r_vtN ?h ?_); (case h => omega)))
     exact ⟨rfl, rfl⟩
 | ok d' k =>
   have hdo := dstep_ok hx hc.dl hc.dd; rw [hx] at hA post hok; obtain ⟨rfl, H⟩ := hA; simp only [withLens] at post hok; refine r_join1 (fun x w' => x = .bool (!d'.done) ∧ Same w w' ∧ Holds w' (D11.DlR db d' :: RdR r B d (at_ + k) :: blk b tCd [nv c.size, pt pb, tv, pt db, cv, nv c.count, .bool c.done, iv 0] :: P13.PkR pb c.picks :: SL nv tI tv (took c) :: SL pt tCP cv bs :: CodesS bs c.codes :: L)) ?_ ?_
   · clear H S2; rintro _ _ w3 ⟨rfl, S, H⟩
     cases hd : d'.done with
     | false =>
       rw [hd] at post hok; simp only [Bool.false_eq_true, if_false] at post hok; refine r_vt ?_; exact post _ _ S ⟨rfl, CdR_close (pb := pb) (db := db) (tv := tv) (cv := cv) (hok _ _ _ rfl) hb (by have h_ := Holds.ord 7 [2, 3, 4, 0, 5, 6, 1] H rfl; exact h_)⟩
     | true =>
       rw [hd] at post hok; simp only [if_true] at post hok; refine r_vf ?_
       repeat (first | refine r_nc ?_ | refine r_fo0 ?_ | refine r_ld 2 H rfl rfl ?_)
       refine D11.Lens_spec H fun v w4 S4 H4 => ?_; replace S := S.trans S4; clear H; have H := H4; clear H4 S4; have hdn := hd; unfold DS.done at hdn; rw [decide_eq_true_iff] at hdn; have hds := (D11.DlR_open (H.swap)).1.2
       have hsz : d'.size = c.size := by
         rw [← hc.ds]; unfold dstep turn at hx
         repeat' split at hx
         all_goals first
           | (cases hx; rfl)
           | cases hx
       have h3 := hc.s1; have h258 := hc.s2; refine C10.New_spec (j := 0) H rfl (by omega) (by omega) (fun x hx => hdo.all x hx) (fun hne w5 S5 H5 => ?_) fun hW b2 w5 S5 H5 => ?_
       · rw [if_neg hne] at post
         repeat (first | refine r_neq ?_ | (with_reducible refine r_ex20 ?_) | (with_reducible refine r_ex21 ?_) | ((with_reducible refine r_vtN ?h ?_); (case h => omega)))
         exact post _ _ (S.trans S5) ⟨rfl, _, _, _, _, _, _, _, _, (by have h_ := Holds.ord 8 [3, 2] H5 rfl; exact h_)⟩
       · rw [if_pos hW.share] at post hok; replace S := S.trans S5; clear H; have H := H5; clear H5 S5
         repeat (first | refine r_ld 4 H rfl rfl ?_ | refine r_nc ?_ | refine r_fo0 ?_ | refine r_neq ?_ | (with_reducible refine r_ex20 ?_) | (with_reducible refine r_ex21 ?_) | ((with_reducible refine r_vfN ?h ?_); (case h => omega)))
         have hcl := hc.cl; have htb := hc.pk.tbl
         have hbl : bs.length ≤ 6 := by
           rcases Nat.eq_zero_or_pos c.picks.count with h0 | h0
           · have := (hc.pk.new h0).1; omega
           · have := htb h0; omega
         refine r_app1 H 7 rfl b2 (fun _ => rfl) (by omega) fun v' w6 S6 H6 => ?_; replace H6 : Holds w6 (C10.CodeR b2 d'.lens :: SL nv tI v d'.lens :: D11.DlR db d' :: RdR r B d (at_ + k) :: blk b tCd [nv c.size, pt pb, tv, pt db, cv, nv c.count, .bool c.done, iv 0] :: P13.PkR pb c.picks :: SL nv tI tv (took c) :: SL pt tCP v' (bs ++ [b2]) :: CodesS bs c.codes :: L) := H6; replace S := S.trans S6; clear H; have H := H6; clear H6 S6
         repeat (first | refine r_nc ?_ | refine r_fo0 ?_)
         refine r_st 4 H rfl (by simp) (SL_sg H 7 rfl) fun w6 S6 H6 => ?_; replace H6 : Holds w6 (C10.CodeR b2 d'.lens :: SL nv tI v d'.lens :: D11.DlR db d' :: RdR r B d (at_ + k) :: blk b tCd [nv c.size, pt pb, tv, pt db, v', nv c.count, .bool c.done, iv 0] :: P13.PkR pb c.picks :: SL nv tI tv (took c) :: SL pt tCP v' (bs ++ [b2]) :: CodesS bs c.codes :: L) := H6; replace S := S.trans S6; clear H; have H := H6; clear H6 S6
         repeat (first | refine r_ld 4 H rfl rfl ?_ | refine r_nc ?_ | refine r_fo0 ?_)
         refine D11.NewReader_spec H (by omega) (by omega) fun db2 w6 S6 H6 => ?_; replace S := S.trans S6; clear H; have H := H6; clear H6 S6
         repeat (first | refine r_nc ?_ | refine r_fo0 ?_ | (with_reducible refine r_ex20 ?_) | (with_reducible refine r_ex21 ?_))
         refine r_st 5 H rfl (by simp) rfl fun w6 S6 H6 => ?_; replace H6 : Holds w6 (D11.DlR db2 (d0 c.size) :: C10.CodeR b2 d'.lens :: SL nv tI v d'.lens :: D11.DlR db d' :: RdR r B d (at_ + k) :: blk b tCd [nv c.size, pt pb, tv, pt db2, v', nv c.count, .bool c.done, iv 0] :: P13.PkR pb c.picks :: SL nv tI tv (took c) :: SL pt tCP v' (bs ++ [b2]) :: CodesS bs c.codes :: L) := H6; replace S := S.trans S6; clear H; have H := H6; clear H6 S6; have H7 : Holds w6 (C10.CodeR b2 d'.lens :: CodesS bs c.codes :: D11.DlR db2 (d0 c.size) :: RdR r B d (at_ + k) :: blk b tCd [nv c.size, pt pb, tv, pt db2, v', nv c.count, .bool c.done, iv 0] :: P13.PkR pb c.picks :: SL nv tI tv (took c) :: SL pt tCP v' (bs ++ [b2]) :: L) := (by have h_ := Holds.ord 10 [1, 9, 0, 4, 5, 6, 7, 8] H rfl; exact h_); have H8 := codes_add hb H7; exact post _ _ S ⟨rfl, CdR_close (pb := pb) (db := db2) (tv := tv) (cv := v') (bs := bs ++ [b2]) (hok _ _ _ rfl) (by simp [hb]) (by have h_ := Holds.ord 7 [3, 4, 5, 1, 6, 0, 2] H8 rfl; exact h_)⟩
   · repeat (first | refine r_ld 2 H rfl rfl ?_ | refine r_nc ?_ | refine r_fo0 ?_ | refine r_neq ?_ | ((with_reducible refine r_vfN ?h ?_); (case h => omega)))
     refine D11.Done_spec H fun w3 S3 H3 => ?_
     repeat (first | refine r_ke ?_ | refine r_not ?_)
     exact ⟨rfl, S2.trans S3, H3⟩
theorem symbol_spec (H : Holds w (CdR b c :: RdR r B d at_ :: L)) (hp : c.picks.done = true) (hl : ¬ c.codes.length < c.picks.t) (post : ∀ v w', Same w w' → AfterC (cstep c (rest B at_)) b c r B d at_ L (iv (-1)) v w' → K v w') :
   Cl Tryz.prog F.code_Reader_symbol #[pt b, pt r] w K := by
 refine Tie.code_Reader_symbol ?_; unfold Vcf.code_Reader_symbol; obtain ⟨hc, pb, db, tv, cv, bs, hb, H⟩ := CdR_open H; have hok := fun c' o k (h : cstep c (rest B at_) = .ok (c', o) k) => (cstep_ok h hc).1
 have e0 : cstep c (rest B at_) = if c.picks.picks.length ≤ c.count / 50 then .bad 25 else withSymbol c (getC c.table (rest B at_)) := by unfold cstep; rw [if_neg (by rw [hp]; decide), if_neg hl]
 rw [e0] at post hok; unfold cdL at H; have S := Same.refl w; have hct := hc.ct
 have et : took c = c.picks.picks := by unfold took; rw [hp]; rfl
 rw [et] at H
 have hq : ((c.count : Nat) : Int).tdiv 50 = ((c.count / 50 : Nat) : Int) := by rw [Int.tdiv_eq_ediv_of_nonneg (by omega)]; simp
 repeat (first | refine r_quoE hq (by omega) (by omega) (by omega) ?_ | refine r_nc ?_ | refine r_fo0 ?_ | refine r_ld 0 H rfl rfl ?_)
 refine r_lnS 2 H rfl ?_
 repeat (refine r_geq ?_)
 refine r_ifD (fun h => ?_) fun h => ?_
 · rw [if_pos (by omega)] at post; exact post _ _ S ⟨rfl, at_, _, _, _, _, _, _, _, (by have h_ := Holds.ord 7 [0, 6] H rfl; exact h_)⟩
 · have hg : ¬ c.picks.picks.length ≤ c.count / 50 := by omega
   rw [if_neg hg] at post hok; obtain ⟨x, h1, h2, h3, h4, h5⟩ := pick_lt hc hp hl hg
   repeat (first | refine r_nc ?_ | refine r_fo0 ?_ | (refine r_dr H ?_; clear H; intro _ S_ H; replace S := S.trans S_; clear S_) | refine r_ld 0 H rfl rfl ?_)
   refine r_getS 2 H rfl h1 ?_; obtain ⟨bx, hbx⟩ : ∃ bx, bs[x]? = some bx := ⟨_, List.getElem?_eq_getElem (by omega)⟩; refine r_getS 4 H rfl hbx ?_; obtain ⟨A, hA1, hA2⟩ := codes_get (L := blk b tCd [nv c.size, pt pb, tv, pt db, cv, nv c.count, .bool c.done, iv 0] :: P13.PkR pb c.picks :: SL nv tI tv c.picks.picks :: D11.DlR db c.lens :: SL pt tCP cv bs :: L) hbx h3; have H2 : Holds _ (RdR r B d at_ :: CodesS bs c.codes :: blk b tCd [nv c.size, pt pb, tv, pt db, cv, nv c.count, .bool c.done, iv 0] :: P13.PkR pb c.picks :: SL nv tI tv c.picks.picks :: D11.DlR db c.lens :: SL pt tCP cv bs :: L) := (by have h_ := Holds.ord 7 [6, 5, 0, 1, 2, 3, 4] H rfl; exact h_); have H3 := Holds.swap (Sat_tail hA1 H2); refine C10.Get_spec H3 (fun hn w3 S3 H4 => ?_) fun s n hs w3 S3 H4 => ?_
   · rw [hn] at post; have H5 := Sat_tail hA2 (Holds.swap H4); replace H5 : Holds w3 (RdR r B d at_ :: CodesS bs c.codes :: blk b tCd [nv c.size, pt pb, tv, pt db, cv, nv c.count, .bool c.done, iv 0] :: P13.PkR pb c.picks :: SL nv tI tv c.picks.picks :: D11.DlR db c.lens :: SL pt tCP cv bs :: L) := H5; rw [← et] at H5
     repeat (first | refine r_neq ?_ | (with_reducible refine r_ex20 ?_) | (with_reducible refine r_ex21 ?_) | ((with_reducible refine r_vtN ?h ?_); (case h => omega)))
     exact post _ _ (S.trans S3) ⟨rfl, CdR_close (pb := pb) (db := db) (tv := tv) (cv := cv) hc hb (by have h_ := Holds.ord 7 [2, 3, 4, 5, 6, 1, 0] H5 rfl; exact h_)⟩
   · rw [hs] at post hok; have H5 := Sat_tail hA2 (Holds.swap H4); replace H5 : Holds w3 (RdR r B d (at_ + n) :: CodesS bs c.codes :: blk b tCd [nv c.size, pt pb, tv, pt db, cv, nv c.count, .bool c.done, iv 0] :: P13.PkR pb c.picks :: SL nv tI tv c.picks.picks :: D11.DlR db c.lens :: SL pt tCP cv bs :: L) := H5; rw [← et] at H5; have hsz := hc.s1; have h258 := hc.s2; replace S := S.trans S3; clear H H2 H3 H4; have H := H5; clear H5
     repeat (first | refine r_ld 2 H rfl rfl ?_ | refine r_nc ?_ | refine r_fo0 ?_ | refine r_neq ?_ | (with_reducible refine r_ex20 ?_) | (with_reducible refine r_ex21 ?_) | (refine r_add1N (by omega) ?_) | ((with_reducible refine r_vfN ?h ?_); (case h => omega)))
     refine r_st 2 H rfl (by simp) rfl fun w6 S6 H6 => ?_; replace H6 : Holds w6 (RdR r B d (at_ + n) :: CodesS bs c.codes :: blk b tCd [nv c.size, pt pb, tv, pt db, cv, nv (c.count + 1), .bool c.done, iv 0] :: P13.PkR pb c.picks :: SL nv tI tv (took c) :: D11.DlR db c.lens :: SL pt tCP cv bs :: L) := H6; replace S := S.trans S6; clear H; have H := H6; clear H6 S6
     repeat (first | refine r_ld 2 H rfl rfl ?_ | refine r_nc ?_ | refine r_fo0 ?_ | refine r_eql ?_ | (refine r_sub1N (by omega) (by omega) ?_))
     refine r_st 2 H rfl (by simp) rfl fun w6 S6 H6 => ?_
     have ed : ((s : Int) == ((c.size - 1 : Nat) : Int)) = decide (s = c.size - 1) := by rw [Bool.eq_iff_iff, beq_iff_eq, decide_eq_true_iff]; omega
     rw [ed] at H6; replace H6 : Holds w6 (RdR r B d (at_ + n) :: CodesS bs c.codes :: blk b tCd [nv c.size, pt pb, tv, pt db, cv, nv (c.count + 1), .bool (decide (s = c.size - 1)), iv 0] :: P13.PkR pb c.picks :: SL nv tI tv (took c) :: D11.DlR db c.lens :: SL pt tCP cv bs :: L) := H6; exact post _ _ (S.trans S6) ⟨rfl, CdR_close (c := ⟨c.size, c.picks, c.lens, c.codes, c.count + 1, decide (s = c.size - 1)⟩) (pb := pb) (db := db) (tv := tv) (cv := cv) (hok _ _ _ rfl) hb (by have h_ := Holds.ord 7 [2, 3, 4, 5, 6, 1, 0] H6 rfl; exact h_)⟩
def AfterCS (x : Res (CS × Option Nat)) (b : Nat) (c : CS) (r : Nat) (B : List UInt8) (d at_ : Nat) (L : List HProp) (v : Value) (w : World) : Prop :=
 match x with
 | .short => v = .tuple #[iv 0, iv 3] ∧ Holds w (CdR b c :: RdR r B d at_ :: L)
 | .bad e => v = .tuple #[iv 0, iv e] ∧ ∃ q, Holds w (RdR r B d q :: L)
 | .ok (s, o) n => v = .tuple #[match o with | none => iv (-1) | some s => nv s, iv 0] ∧ Holds w (CdR b s :: RdR r B d (at_ + n) :: L)
theorem Step_spec (H : Holds w (CdR b c :: RdR r B d at_ :: L)) (hd : c.done = false) (post : ∀ v w', Same w w' → AfterCS (cstep c (rest B at_)) b c r B d at_ L v w' → K v w') :
   Cl Tryz.prog F.code_Reader_Step #[pt b, pt r] w K := by
 refine Tie.code_Reader_Step ?_; unfold Vcf.code_Reader_Step
 have fin : ∀ v w', Same w w' → AfterC (cstep c (rest B at_)) b c r B d at_ L (iv (-1)) v w' → Ex v 0 fun x_11 => Ex v 1 fun x_12 => Bp .eql x_12 (.int .i64 0) fun x_13 => Vif x_13 (K (.tuple #[x_11, x_12]) w')
     (Bp .neq x_12 (.int .i64 3) fun x_14 => Vif x_14 (Nc (pt b) <| Fo 7 (pt b) fun x_15 => St x_15 x_12 w' fun w5 => K (.tuple #[(.int .i64 0), x_12]) w5) (K (.tuple #[(.int .i64 0), x_12]) w')) := by
   intro v w' S hA
   cases hx : cstep c (rest B at_) with
   | short =>
     rw [hx] at hA post; obtain ⟨rfl, H'⟩ := hA
     repeat (first | refine r_eql ?_ | refine r_neq ?_ | (with_reducible refine r_ex20 ?_) | (with_reducible refine r_ex21 ?_) | ((with_reducible refine r_vfE ?h ?_); (case h => omega)) | ((with_reducible refine r_vfN ?h ?_); (case h => omega)))
     exact post _ _ S ⟨rfl, H'⟩
   | bad e =>
     have h2 := cstep_bad hx; rw [hx] at hA post; obtain ⟨rfl, q, v1, v2, v3, v4, v5, v6, v7, H'⟩ := hA
     repeat (first | refine r_nc ?_ | refine r_fo0 ?_ | refine r_eql ?_ | refine r_neq ?_ | (with_reducible refine r_ex20 ?_) | (with_reducible refine r_ex21 ?_) | ((with_reducible refine r_vfE ?h ?_); (case h => omega)) | ((with_reducible refine r_vtN ?h ?_); (case h => omega)))
     refine r_st 0 H' rfl (by simp) rfl fun w5 S5 H5 => ?_; rw [List.set_cons_zero] at H5; exact post _ _ (S.trans S5) ⟨rfl, q, H5.drop⟩
   | ok s k =>
     rw [hx] at hA post; obtain ⟨s, o⟩ := s; obtain ⟨rfl, H'⟩ := hA
     repeat (first | refine r_eql ?_ | (with_reducible refine r_ex20 ?_) | (with_reducible refine r_ex21 ?_) | ((with_reducible refine r_vtE ?h ?_); (case h => omega)))
     exact post _ _ S ⟨rfl, H'⟩
 refine r_join1 (fun x w' => w = w' ∧ x = .bool false) ?_ ?_
 rotate_left
 · have H0 := H; obtain ⟨hc, pb, db, tv, cv, bs, hb, H0⟩ := CdR_open H0
   repeat (first | refine r_ld 0 H0 rfl rfl ?_ | refine r_nc ?_ | refine r_fo0 ?_ | refine r_ke ?_ | (with_reducible refine r_bnSF ?_) | (with_reducible refine r_vf ?_))
   exact ⟨rfl, by rw [hd]⟩
 rintro _ _ _ ⟨rfl, rfl⟩; have H0 := H; obtain ⟨hc, pb, db, tv, cv, bs, hb, H0⟩ := CdR_open H0
 repeat (first | refine r_ld 0 H0 rfl rfl ?_ | refine r_nc ?_ | refine r_fo0 ?_ | refine r_neq ?_ | (with_reducible refine r_vf ?_) | ((with_reducible refine r_vfN ?h ?_); (case h => omega)))
 refine r_mf (.func (.func F.code_Reader_symbol) #[pt b] #[]) (by kernel_rfl) ?_; refine r_join1 (fun x w' => Same w w' ∧ Holds w' (CdR b c :: RdR r B d at_ :: L) ∧ ((c.picks.done = false ∧ x = .func (.func F.code_Reader_pick) #[pt b] #[]) ∨ (c.picks.done = true ∧ c.codes.length < c.picks.t ∧ x = .func (.func F.code_Reader_table) #[pt b] #[]) ∨ (c.picks.done = true ∧ ¬ c.codes.length < c.picks.t ∧ x = .func (.func F.code_Reader_symbol) #[pt b] #[]))) ?_ ?_
 · clear H H0; rintro _ _ w2 ⟨S, H, ⟨h1, rfl⟩ | ⟨h1, h2, rfl⟩ | ⟨h1, h2, rfl⟩⟩
   · refine r_inv (f := F.code_Reader_pick) (args := #[pt b, pt r]) (by kernel_rfl) ?_; exact pick_spec H h1 fun v w' S' hA => fin v w' (S.trans S') hA
   · refine r_inv (f := F.code_Reader_table) (args := #[pt b, pt r]) (by kernel_rfl) ?_; exact table_spec H h1 h2 fun v w' S' hA => fin v w' (S.trans S') hA
   · refine r_inv (f := F.code_Reader_symbol) (args := #[pt b, pt r]) (by kernel_rfl) ?_; exact symbol_spec H h1 h2 fun v w' S' hA => fin v w' (S.trans S') hA
 · clear fin post; unfold cdL at H0
   repeat (first | refine r_ld 0 H0 rfl rfl ?_ | refine r_nc ?_ | refine r_fo0 ?_)
   have H1 : Holds w (P13.PkR pb c.picks :: blk b tCd [nv c.size, pt pb, tv, pt db, cv, nv c.count, .bool c.done, iv 0] :: SL nv tI tv (took c) :: D11.DlR db c.lens :: SL pt tCP cv bs :: CodesS bs c.codes :: RdR r B d at_ :: L) := (by have h_ := Holds.ord 7 [1, 0, 2, 3, 4, 5, 6] H0 rfl; exact h_); refine P13.Done_spec H1 fun w2 S2 H2 => ?_
   have fin2 : ∀ w', Holds w' (P13.PkR pb c.picks :: blk b tCd [nv c.size, pt pb, tv, pt db, cv, nv c.count, .bool c.done, iv 0] :: SL nv tI tv (took c) :: D11.DlR db c.lens :: SL pt tCP cv bs :: CodesS bs c.codes :: RdR r B d at_ :: L) → Holds w' (CdR b c :: RdR r B d at_ :: L) := fun w' H' =>
     CdR_close (pb := pb) (db := db) (tv := tv) (cv := cv) hc hb (by have h_ := Holds.ord 7 [1, 0, 2, 3, 4, 5, 6] H' rfl; exact h_)
   cases hp : c.picks.done with
   | false =>
     refine r_notF (r_vt ?_); refine r_mf (.func (.func F.code_Reader_pick) #[pt b] #[]) (by kernel_rfl) ?_
     repeat (refine r_ke ?_)
     exact ⟨S2, fin2 _ H2, .inl ⟨rfl, rfl⟩⟩
   | true =>
     refine r_notT (r_vf ?_); have S := S2; have H := H2; clear H2 S2
     repeat (first | refine r_ld 1 H rfl rfl ?_ | refine r_nc ?_ | refine r_fo0 ?_ | (refine r_dr H ?_; clear H; intro _ S_ H; replace S := S.trans S_; clear S_))
     rename_i w3; refine r_lnS 4 H rfl ?_
     repeat (first | refine r_ld 1 H rfl rfl ?_ | refine r_nc ?_ | refine r_fo0 ?_)
     refine P13.Tables_spec H ?_; refine r_rk (r_lnS 4 H rfl rfl) ?_; refine r_rk (r_ld 1 H rfl rfl rfl) ?_
     repeat (refine r_lss ?_)
     rw [hb]; refine r_ifD (fun h => ?_) fun h => ?_
     · refine r_mf (.func (.func F.code_Reader_table) #[pt b] #[]) (by kernel_rfl) ?_
       repeat (refine r_ke ?_)
       exact ⟨S, fin2 _ H, .inr (.inl ⟨rfl, by omega, rfl⟩)⟩
     · repeat (refine r_ke ?_)
       exact ⟨S, fin2 _ H, .inr (.inr ⟨rfl, by omega, rfl⟩)⟩
end C14
namespace Z07
open Go.Mz
variable {w : World} {L : List HProp} {K : Value → World → Prop} {b : Nat} {z : ZS}
abbrev tZ : Nat := 238
def zrC (z : ZS) : List Value := [nv z.n, nv z.most, nv z.told, nv z.zeros, nv z.weight, .bool z.done]
def ZrR (b : Nat) (z : ZS) : HProp := fun h => z.Ok ∧ blk b tZ (zrC z) h
theorem ZrR_open (H : Holds w (ZrR b z :: L)) : z.Ok ∧ Holds w (blk b tZ (zrC z) :: L) := Holds.pure H
theorem ZrR_close (h : z.Ok) (H : Holds w (blk b tZ (zrC z) :: L)) : Holds w (ZrR b z :: L) := Holds.imp H fun _ hh => ⟨h, hh⟩
theorem NewReader_spec {n m : Nat} (H : Holds w L) (h1 : 1 ≤ n) (h2 : n ≤ 256) (h3 : m ≤ 900000) (k : ∀ b w', Same w w' → Holds w' (ZrR b (z0 n m) :: L) → K (.tuple #[pt b, iv 0]) w') : Cl Tryz.prog F.zeros_NewReader #[nv n, nv m] w K := by
 refine Tie.zeros_NewReader ?_; unfold Vcf.zeros_NewReader; refine r_join1 (fun x w' => w = w' ∧ x = .bool false) ?_ ?_
 · rintro _ _ _ ⟨rfl, rfl⟩; refine r_vf ?_; refine r_bd (v := .agg #[nv n, nv m, nv 0, nv 0, nv 1, .bool false]) (by kernel_rfl) ?_; refine r_new H fun b w2 S2 H2 => ?_; exact k b _ S2 (ZrR_close (z0_ok h1 h2 h3) H2)
 · refine Tie.zeros_may ?_; unfold Vcf.zeros_may
   repeat (first | refine r_leq ?_ | refine r_geq ?_ | refine r_not ?_ | ((with_reducible refine r_vtD ?h ?_); (case h => omega)))
   rw [decide_eq_true (by omega), Bool.not_true]
   repeat (first | refine r_ke ?_ | refine r_lss ?_ | refine r_gtr ?_ | (with_reducible refine r_vf ?_) | ((with_reducible refine r_vfD ?h ?_); (case h => omega)))
   exact ⟨rfl, by rw [decide_eq_false (by omega)]⟩
theorem Count_spec (H : Holds w (blk b tZ (zrC z) :: L)) (hz : z.Ok) (k : ∀ w', Same w w' → Holds w' (blk b tZ (zrC z) :: L) → K (nv (z.told + z.zeros)) w') : Cl Tryz.prog F.zeros_Reader_Count #[pt b] w K := by
 refine Tie.zeros_Reader_Count ?_; unfold Vcf.zeros_Reader_Count; have S := Same.refl w; obtain ⟨h1, h2, h3, h4, h5, h6⟩ := hz
 repeat (first | refine r_nc ?_ | refine r_fo0 ?_ | (with_reducible refine r_bnSF ?_) | (with_reducible refine r_vf ?_) | (refine r_addN (by omega) ?_) | (refine r_dr H ?_; clear H; intro _ S_ H; replace S := S.trans S_; clear S_) | refine r_ld 0 H rfl rfl ?_)
 exact k _ S H
theorem more_spec {c : Nat} (H : Holds w (blk b tZ (zrC z) :: L)) (hz : z.Ok) (hc : c ≤ 1) (hd : z.done = false)
   (kb : zput z c = none → ∀ w', Same w w' → Holds w' L → K (iv 2) w')
   (k : ∀ z' d p, zput z c = some (z', d, p) → ∀ w', Same w w' → Holds w' (blk b tZ (zrC z') :: L) → d = 0 → p = -1 → K (iv 0) w') : Cl Tryz.prog F.zeros_Reader_more #[pt b, nv c] w K := by
 refine Tie.zeros_Reader_more ?_; unfold Vcf.zeros_Reader_more; have S := Same.refl w; have hzz := hz; obtain ⟨h1, h2, h3, h4, h5, h6⟩ := hz
 have hc2 : 2 ^ c ≤ 2 := by
   have : c = 0 ∨ c = 1 := by omega
   rcases this with rfl | rfl <;> decide
 have hp : z.weight * 2 ^ c ≤ z.weight * 2 := Nat.mul_le_mul_left _ hc2
 repeat (first | refine r_shlI (by omega) (by omega) ?_ | refine r_nc ?_ | refine r_fo0 ?_ | (refine r_dr H ?_; clear H; intro _ S_ H; replace S := S.trans S_; clear S_) | refine r_ld 0 H rfl rfl ?_)
 have ez : zput z c = if z.most < z.told + z.zeros + z.weight * 2 ^ c then none else some (⟨z.n, z.most, z.told, z.zeros + z.weight * 2 ^ c, z.weight * 2, false⟩, 0, -1) := by
   unfold zput; rw [if_pos hc]
 rw [ez] at kb k; generalize z.weight * 2 ^ c = a at *; rename_i w1; have H0 := H; refine Count_spec H hzz fun w2 S2 H2 => ?_; replace S := S.trans S2; clear H; have H := H2; clear H2; refine r_rk (r_ld 0 H rfl rfl rfl) ?_
 repeat (first | refine r_gtr ?_ | (refine r_sub (by omega) (by omega) ?_))
 refine r_ifD (fun h => ?_) fun h => ?_
 · rw [if_pos (by omega)] at kb; exact kb rfl _ S H.drop
 · rw [if_neg (by omega)] at k
   repeat (first | refine r_nc ?_ | refine r_fo0 ?_ | (refine r_addN (by omega) ?_) | refine r_ld 0 H rfl rfl ?_)
   refine r_st 0 H rfl (by simp [zrC]) rfl fun w3 S3 H3 => ?_; replace H3 : Holds w3 (blk b tZ [nv z.n, nv z.most, nv z.told, nv (z.zeros + a), nv z.weight, .bool z.done] :: L) := H3; replace S := S.trans S3; clear H; have H := H3; clear H3
   repeat (first | refine r_mulE ((z.weight * 2 : Nat) : Int) (by omega) (by omega) (by omega) ?_ | refine r_nc ?_ | refine r_fo0 ?_ | refine r_ld 0 H rfl rfl ?_)
   refine r_st 0 H rfl (by simp) rfl fun w3 S3 H3 => ?_; rw [hd] at H3; replace H3 : Holds w3 (blk b tZ [nv z.n, nv z.most, nv z.told, nv (z.zeros + a), nv (z.weight * 2), .bool false] :: L) := H3; exact k _ _ _ rfl _ (S.trans S3) H3 rfl rfl
theorem Put_spec {c : Nat} (H : Holds w (ZrR b z :: L)) (hc : c ≤ z.n + 1) (hd : z.done = false)
   (kb : zput z c = none → ∀ e w', e ≠ 0 → Same w w' → Holds w' L → K (.tuple #[iv 0, iv 0, iv e]) w')
   (k : ∀ z' d p, zput z c = some (z', d, p) → ∀ w', Same w w' → Holds w' (ZrR b z' :: L) → K (.tuple #[nv d, iv p, iv 0]) w') : Cl Tryz.prog F.zeros_Reader_Put #[pt b, nv c] w K := by
 refine Tie.zeros_Reader_Put ?_; unfold Vcf.zeros_Reader_Put; obtain ⟨hz, H⟩ := ZrR_open H; have hzz := hz; obtain ⟨h1, h2, h3, h4, h5, h6⟩ := hz; have S := Same.refl w; have hok := fun z' d p (h : zput z c = some (z', d, p)) => zput_ok hzz h; refine r_join1 (fun x w' => w = w' ∧ x = .bool false) ?_ ?_
 rotate_left
 · repeat (first | refine r_nc ?_ | refine r_fo0 ?_ | refine r_ke ?_ | (with_reducible refine r_bnSF ?_) | (with_reducible refine r_vf ?_) | refine r_ld 0 H rfl rfl ?_)
   exact ⟨rfl, by rw [hd]⟩
 rintro _ _ _ ⟨rfl, rfl⟩
 repeat (with_reducible refine r_vf ?_)
 refine r_join1 (fun x w' => w = w' ∧ x = .bool false) ?_ ?_
 rotate_left
 · repeat (first | refine r_nc ?_ | refine r_fo0 ?_ | refine r_ke ?_ | refine r_lss ?_ | refine r_gtr ?_ | (refine r_add1N (by omega) ?_) | refine r_ld 0 H rfl rfl ?_ | ((with_reducible refine r_vfD ?h ?_); (case h => omega)))
   exact ⟨rfl, by rw [decide_eq_false (by omega)]⟩
 rintro _ _ _ ⟨rfl, rfl⟩
 repeat (first | refine r_leq ?_ | (with_reducible refine r_vf ?_))
 refine r_ifD (fun h => ?_) fun h => ?_
 · refine more_spec H hzz (by omega) hd (fun hn w2 S2 H2 => ?_) fun z' d p hs w2 S2 H2 hd0 hp => ?_
   · repeat (first | refine r_neq ?_ | ((with_reducible refine r_vtN ?h ?_); (case h => omega)))
     exact kb hn 2 _ (by decide) S2 H2
   · repeat (first | refine r_neq ?_ | ((with_reducible refine r_vfN ?h ?_); (case h => omega)))
     have := k z' d p hs _ S2 (ZrR_close (hok _ _ _ hs) H2); rw [hd0, hp] at this; exact this
 · have hc1 : ¬ c ≤ 1 := by omega
   have ez : zput z c = if c = z.n + 1 then some (⟨z.n, z.most, z.told + z.zeros, 0, 1, true⟩, z.zeros, -1) else if z.told + z.zeros = z.most then none
       else some (⟨z.n, z.most, z.told + 1 + z.zeros, 0, 1, false⟩, z.zeros, (c : Int) - 1) := by
     unfold zput; rw [if_neg hc1]
   rw [ez] at kb k hok
   repeat (refine r_sub1N (by omega) (by omega) ?_)
   refine r_join1 (fun x w' => ∃ t dn, t ≤ z.told + 1 ∧ Same w w' ∧ Holds w' (blk b tZ [nv z.n, nv z.most, nv t, nv z.zeros, nv z.weight, .bool dn] :: L) ∧
     ((c = z.n + 1 ∧ t = z.told ∧ dn = true ∧ x = iv (-1)) ∨ (c ≠ z.n + 1 ∧ z.told + z.zeros ≠ z.most ∧ t = z.told + 1 ∧ dn = false ∧ x = iv ((c : Int) - 1)))) ?_ ?_
   · rintro _ x w2 ⟨t, dn, ht, S, H, hx⟩
     repeat (first | refine r_nc ?_ | refine r_fo0 ?_ | (refine r_addN (by omega) ?_) | refine r_ld 0 H rfl rfl ?_)
     refine r_st 0 H rfl (by simp) rfl fun w3 S3 H3 => ?_; replace H3 : Holds w3 (blk b tZ [nv z.n, nv z.most, nv (t + z.zeros), nv z.zeros, nv z.weight, .bool dn] :: L) := H3; replace S := S.trans S3; clear H; have H := H3; clear H3
     repeat (first | refine r_nc ?_ | refine r_fo0 ?_)
     refine r_st 0 H rfl (by simp) rfl fun w3 S3 H3 => ?_; replace H3 : Holds w3 (blk b tZ [nv z.n, nv z.most, nv (t + z.zeros), nv 0, nv z.weight, .bool dn] :: L) := H3; replace S := S.trans S3; clear H; have H := H3; clear H3
     repeat (first | refine r_nc ?_ | refine r_fo0 ?_)
     refine r_st 0 H rfl (by simp) rfl fun w3 S3 H3 => ?_; replace H3 : Holds w3 (blk b tZ [nv z.n, nv z.most, nv (t + z.zeros), nv 0, nv 1, .bool dn] :: L) := H3; replace S := S.trans S3; clear H; have H := H3; clear H3; rcases hx with ⟨hc, rfl, rfl, rfl⟩ | ⟨hc, hm, rfl, rfl, rfl⟩
     · rw [if_pos hc] at k hok; exact k _ _ _ rfl _ S (ZrR_close (hok _ _ _ rfl) H)
     · rw [if_neg hc, if_neg hm] at k hok; exact k _ _ _ rfl _ S (ZrR_close (hok _ _ _ rfl) H)
   · repeat (first | refine r_nc ?_ | refine r_fo0 ?_ | refine r_eql ?_ | (refine r_add1N (by omega) ?_) | refine r_ld 0 H rfl rfl ?_)
     refine r_ifE (fun h => ?_) fun h => ?_
     · repeat (first | refine r_nc ?_ | refine r_fo0 ?_)
       refine r_st 0 H rfl (by simp [zrC]) rfl fun w3 S3 H3 => ?_; replace H3 : Holds w3 (blk b tZ [nv z.n, nv z.most, nv z.told, nv z.zeros, nv z.weight, .bool true] :: L) := H3
       repeat (refine r_ke ?_)
       exact ⟨z.told, true, by omega, S.trans S3, H3, .inl ⟨by omega, rfl, rfl, rfl⟩⟩
     · have hcn : c ≠ z.n + 1 := by omega
       rw [if_neg hcn] at kb
       repeat (refine r_dr H ?_; clear H; intro _ S_ H; replace S := S.trans S_; clear S_)
       have H0 := H; refine Count_spec H hzz fun w2 S2 H2 => ?_; replace S := S.trans S2; clear H; have H := H2; clear H2
       repeat (first | refine r_rk (r_ld 0 H0 rfl rfl rfl) ?_ | refine r_nc ?_ | refine r_fo0 ?_ | refine r_eql ?_ | refine r_ld 0 H rfl rfl ?_)
       refine r_ifE (fun hm => ?_) fun hm => ?_
       · rw [if_pos (by omega)] at kb; exact kb rfl 2 _ (by decide) S H.drop
       · repeat (first | refine r_nc ?_ | refine r_fo0 ?_ | (refine r_add1N (by omega) ?_) | refine r_ld 0 H rfl rfl ?_)
         refine r_st 0 H rfl (by simp [zrC]) rfl fun w3 S3 H3 => ?_; rw [zrC, hd] at H3; replace H3 : Holds w3 (blk b tZ [nv z.n, nv z.most, nv (z.told + 1), nv z.zeros, nv z.weight, .bool false] :: L) := H3
         repeat (refine r_ke ?_)
         exact ⟨z.told + 1, false, by omega, S.trans S3, H3, .inr ⟨hcn, by omega, rfl, rfl, by rw [show ((c - 1 : Nat) : Int) = (c : Int) - 1 by omega]⟩⟩
end Z07
namespace F06
open Go.Mz
variable {w : World} {L : List HProp} {K : Value → World → Prop} {b : Nat} {o : List UInt8}
abbrev tL : Nat := 222
def MtR (b : Nat) (o : List UInt8) : HProp := fun h => o.length ≤ 256 ∧ ∃ ov, Sat [blk b tL [ov], SM tB ov o] h
theorem MtR_open (H : Holds w (MtR b o :: L)) : o.length ≤ 256 ∧ ∃ ov, Holds w (blk b tL [ov] :: SM tB ov o :: L) := by
 obtain ⟨h, H⟩ := Holds.pure H; obtain ⟨ov, H⟩ := Holds.ex H; exact ⟨h, ov, Holds.unpack H⟩
theorem MtR_close {ov : Value} (h : o.length ≤ 256) (H : Holds w (blk b tL [ov] :: SM tB ov o :: L)) : Holds w (MtR b o :: L) := Holds.imp (Holds.pack (A := [_, _]) H) fun _ hh => ⟨h, ov, hh⟩
theorem Is_spec {T : Nat → Bool} (H : Holds w L) (hne : listed T ≠ []) (k : ∀ w', Same w w' → Holds w' L → K (.bool true) w') : Cl Tryz.prog F.used_Is #[.string ⟨(listed T).toArray⟩] w K := by
 refine Tie.used_Is ?_; unfold Vcf.used_Is
 have hs : (⟨(listed T).toArray⟩ : ByteArray).size = (listed T).length := by show (listed T).toArray.size = _; simp
 have hl := listed_len T
 repeat (refine r_lns ?_)
 rw [hs]; refine r_loop1 (fun x w' => ∃ i : Nat, i ≤ (listed T).length ∧ x = nv i ∧ Same w w' ∧ Holds w' L) (fun x _ => (listed T).length - (RowKit.intOf x).toNat) ⟨0, by omega, rfl, .refl w, H⟩ ?_; clear H; rintro _ _ w1 ⟨i, hi, rfl, S, H⟩
 repeat (refine r_lss ?_)
 refine r_ifD (fun h => ?_) fun h => ?_
 · refine r_join1 (fun x w' => x = .bool false ∧ Same w w' ∧ Holds w' L) ?_ ?_
   · clear H S; rintro _ _ w2 ⟨rfl, S, H⟩
     repeat (first | refine r_ke ?_ | (with_reducible refine r_vf ?_) | (refine r_add1N (by omega) ?_))
     refine ⟨⟨i + 1, by omega, rfl, S, H⟩, ?_⟩; simp [nv, RowKit.intOf]; omega
   · repeat (first | refine r_gtr ?_ | (refine r_dr H ?_; clear H; intro _ S_ H; replace S := S.trans S_; clear S_))
     refine r_ifD (fun h0 => ?_) fun h0 => ?_
     · repeat (first | refine r_ke ?_ | refine r_leq ?_ | (refine r_sub1N (by omega) (by omega) ?_) | (refine r_ixsN (by omega) ?_))
       have := listed_step T (i - 1) (by omega); rw [show i - 1 + 1 = i by omega] at this; refine ⟨?_, S, H⟩
       congr 1
       rw [decide_eq_false_iff_not]; simp only [List.toList_toArray]; omega
     · repeat (refine r_ke ?_)
       exact ⟨rfl, S, H⟩
 · repeat (refine r_sne0 ?_)
   have := k _ S H; rw [decide_eq_true (by rw [hs]; exact fun h => hne (List.eq_nil_of_length_eq_zero h))]; exact this
theorem New_spec {T : Nat → Bool} (H : Holds w L) (hne : listed T ≠ []) (k : ∀ b w', Same w w' → Holds w' (MtR b (listed T) :: L) → K (.tuple #[pt b, iv 0]) w') : Cl Tryz.prog F.mtf_New #[.string ⟨(listed T).toArray⟩] w K := by
 refine Tie.mtf_New ?_; unfold Vcf.mtf_New; refine Is_spec H hne fun w1 S1 H1 => ?_
 repeat (first | (with_reducible refine r_notT ?_) | (with_reducible refine r_vf ?_))
 refine r_csb (e := tB) H1 fun v w2 S2 H2 => ?_; obtain ⟨b2, sp, rfl, H3⟩ := SM_open H2 0 rfl; refine r_bd (v := .agg #[.slice (some ⟨b2, 0, none⟩) (listed T).length ((listed T).length + sp.length)]) (by kernel_rfl) ?_; refine r_new H2 fun b w3 S3 H4 => ?_; exact k b _ ((S1.trans S2).trans S3) (MtR_close (listed_len T) H4)
theorem touch_spec {i : Nat} (H : Holds w (MtR b o :: L)) (hi : i < o.length) (k : ∀ w', Same w w' → Holds w' (MtR b (frontB o i) :: L) → K (bv (o.getD i 0)) w') : Cl Tryz.prog F.mtf_List_touch #[pt b, nv i] w K := by
 refine Tie.mtf_List_touch ?_; unfold Vcf.mtf_List_touch; obtain ⟨hl, ov, H⟩ := MtR_open H; have S := Same.refl w
 repeat (first | refine r_nc ?_ | refine r_fo0 ?_ | refine r_ld 0 H rfl rfl ?_)
 refine r_getM 1 H rfl (x := o.getD i 0) (by rw [List.getD_eq_getElem?_getD, List.getElem?_eq_getElem hi]; rfl) ?_; obtain ⟨b2, sp, rfl, H⟩ := SM_open H 1 rfl; rw [List.set_cons_succ, List.set_cons_zero] at H
 repeat (first | refine r_nc ?_ | refine r_fo0 ?_ | (refine r_add1N (by omega) ?_) | (refine r_dr H ?_; clear H; intro _ S_ H; replace S := S.trans S_; clear S_) | refine r_ld 0 H rfl rfl ?_)
 refine r_sslLH (l := 1) (h := i + 1) (by omega) (by omega) ?_
 repeat (first | refine r_nc ?_ | refine r_fo0 ?_ | refine r_ld 0 H rfl rfl ?_)
 refine r_ssl0 (by omega) ?_; refine r_cpM (z := .int .u8 0) H 1 (xs := o) (sp := sp) rfl hi fun v w2 S2 H2 => ?_; replace S := S.trans S2; clear H; have H := H2; clear H2; rw [List.set_cons_succ, List.set_cons_zero] at H; have H2 := SM_close H 1 rfl; rw [List.set_cons_succ, List.set_cons_zero] at H2
 have hl2 : (o.take 1 ++ (o.take i ++ o.drop (i + 1))).length = o.length := by simp; omega
 rw [hl2] at H2; clear H; have H := H2; clear H2
 repeat (first | refine r_nc ?_ | refine r_fo0 ?_ | refine r_ld 0 H rfl rfl ?_)
 refine r_setM 1 H (j := 0) (o.getD i 0) rfl (by omega) fun w3 S3 H3 => ?_
 have e : (o.take 1 ++ (o.take i ++ o.drop (i + 1))).set 0 (o.getD i 0) = frontB o i := by
   unfold frontB
   cases o with
   | nil => simp at hi
   | cons x o => rfl
 rw [List.set_cons_succ, List.set_cons_zero, e] at H3; exact k _ (S.trans S3) (MtR_close (by rw [frontB_len hi]; exact hl) H3)
theorem At_spec {i : Nat} (H : Holds w (MtR b o :: L)) (hi : i < o.length) (k : ∀ w', Same w w' → Holds w' (MtR b (frontB o i) :: L) → K (.tuple #[bv (o.getD i 0), iv 0]) w') : Cl Tryz.prog F.mtf_List_At #[pt b, nv i] w K := by
 refine Tie.mtf_List_At ?_; unfold Vcf.mtf_List_At; have H0 := H; obtain ⟨hl, ov, H0⟩ := MtR_open H0
 repeat (first | (with_reducible refine r_bnSF ?_) | (with_reducible refine r_vf ?_))
 refine r_join1 (fun x w' => w = w' ∧ x = .bool false) ?_ ?_
 · rintro _ _ _ ⟨rfl, rfl⟩; refine r_vf ?_; refine touch_spec H hi fun w2 S2 H2 => ?_; exact k _ S2 H2
 · repeat (first | refine r_ld 0 H0 rfl rfl ?_ | refine r_nc ?_ | refine r_fo0 ?_ | refine r_lss ?_ | ((with_reducible refine r_vfD ?h ?_); (case h => omega)))
   refine r_lnM 1 H0 rfl ?_
   repeat (first | refine r_ke ?_ | refine r_geq ?_)
   exact ⟨rfl, by rw [decide_eq_false (by omega)]⟩
end F06
namespace Rb
open Go.M01 Go.Mb
variable {w : World} {L : List HProp} {K : Value → World → Prop} {b : Nat} {B : List UInt8} {d at_ n : Nat}
end Rb
end Go.Proofs.YtlppejfnjhkbpaaGreat
