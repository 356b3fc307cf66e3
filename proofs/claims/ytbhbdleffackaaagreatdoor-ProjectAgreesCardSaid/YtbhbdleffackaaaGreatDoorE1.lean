/- A verified evaluator for closed calls, first part: its values, its memory, and what they stand for. No program in sight. -/
import Derived.Test.YtbhbdleffackaaaGreatDoorEx
import Derived.Test.YtbhbdleffackaaaGreatDoorSt
set_option linter.unusedVariables false
set_option linter.unusedSimpArgs false
namespace Go.Ev
open Go Go.Vc
/-- The evaluator's values: addresses are numbers of its own. -/
inductive X where
  | b (v : Bool)
  | i (k : IntKind) (n : Int)
  | s (l : List Nat)
  | p (a : Option (Nat × Nat))
  | l (a : Option (Nat × Nat)) (n c : Nat)
  | ni
  | nf
  | fc (t : TypeId) (x : X)
  | g (xs : List X)
  | t (xs : List X)
  | f (fn : Fn) (a c : List X)
  | m (a : Option Nat)
  | e0 (b o q : Nat)
abbrev Sg := Nat → Option (Nat × Nat × Nat)
def str (l : List Nat) : ByteArray := ⟨(l.map UInt8.ofNat).toArray⟩
mutual
/-- What a value stands for: σ tells the real block of each number, where it begins there, and how many elements are spare behind it. -/
def vl (σ : Sg) : X → Option Value
  | .b v => some (.bool v)
  | .i k n => some (.int k n)
  | .s l => some (.string (str l))
  | .p none => some (.pointer none)
  | .p (some a) => match σ a.1 with
    | some r => some (.pointer (some ⟨r.1, r.2.1 + a.2, none⟩))
    | none => none
  | .l none n c => some (.slice none n c)
  | .l (some a) n c => match σ a.1 with
    | some r => some (.slice (some ⟨r.1, r.2.1 + a.2, none⟩) n (c + r.2.2))
    | none => none
  | .ni => some .nilIface
  | .nf => some .nilFunc
  | .fc t x => match vl σ x with
    | some v => some (.iface t v)
    | none => none
  | .g xs => match vls σ xs with
    | some vs => some (.agg vs.toArray)
    | none => none
  | .t xs => match vls σ xs with
    | some vs => some (.tuple vs.toArray)
    | none => none
  | .f fn a c => match vls σ a, vls σ c with
    | some us, some vs => some (.func fn us.toArray vs.toArray)
    | _, _ => none
  | .m none => some (.map none)
  | .m (some b) => match σ b with
    | some r => some (.map (some r.1))
    | none => none
  | .e0 b o q => match σ b with
    | some r => some (.slice (some ⟨r.1, r.2.1 + (if r.2.2 = 0 then o else q), none⟩) 0 r.2.2)
    | none => none
def vls (σ : Sg) : List X → Option (List Value)
  | [] => some []
  | x :: r => match vl σ x, vls σ r with
    | some v, some vs => some (v :: vs)
    | _, _ => none
end
def Ext (σ σ' : Sg) : Prop := ∀ n r, σ n = some r → σ' n = some r
theorem Ext.refl (σ : Sg) : Ext σ σ := fun _ _ h => h
theorem Ext.trans {a b c : Sg} (h : Ext a b) (k : Ext b c) : Ext a c := fun n r e => k n r (h n r e)
mutual
theorem vl_ext {σ σ' : Sg} (h : Ext σ σ') : ∀ (x : X) (v : Value), vl σ x = some v → vl σ' x = some v
  | .b _, _, e => e
  | .i _ _, _, e => e
  | .s _, _, e => e
  | .p none, _, e => e
  | .p (some a), v, e => by
    simp only [vl] at e ⊢
    cases hs : σ a.1 with
    | none => rw [hs] at e; cases e
    | some r => rw [hs] at e; rw [h _ _ hs]; exact e
  | .l none _ _, _, e => e
  | .l (some a) n c, v, e => by
    simp only [vl] at e ⊢
    cases hs : σ a.1 with
    | none => rw [hs] at e; cases e
    | some r => rw [hs] at e; rw [h _ _ hs]; exact e
  | .ni, _, e => e
  | .nf, _, e => e
  | .fc t x, v, e => by
    simp only [vl] at e ⊢
    cases hs : vl σ x with
    | none => rw [hs] at e; cases e
    | some u => rw [hs] at e; rw [vl_ext h x u hs]; exact e
  | .g xs, v, e => by
    simp only [vl] at e ⊢
    cases hs : vls σ xs with
    | none => rw [hs] at e; cases e
    | some u => rw [hs] at e; rw [vls_ext h xs u hs]; exact e
  | .t xs, v, e => by
    simp only [vl] at e ⊢
    cases hs : vls σ xs with
    | none => rw [hs] at e; cases e
    | some u => rw [hs] at e; rw [vls_ext h xs u hs]; exact e
  | .f fn a c, v, e => by
    simp only [vl] at e ⊢
    cases hs : vls σ a with
    | none => rw [hs] at e; cases e
    | some u =>
      cases hc : vls σ c with
      | none => rw [hs, hc] at e; cases e
      | some u' => rw [hs, hc] at e; rw [vls_ext h a u hs, vls_ext h c u' hc]; exact e
  | .m none, _, e => e
  | .m (some b), v, e => by
    simp only [vl] at e ⊢
    cases hs : σ b with
    | none => rw [hs] at e; cases e
    | some r => rw [hs] at e; rw [h _ _ hs]; exact e
  | .e0 b o q, v, e => by
    simp only [vl] at e ⊢
    cases hs : σ b with
    | none => rw [hs] at e; cases e
    | some r => rw [hs] at e; rw [h _ _ hs]; exact e
theorem vls_ext {σ σ' : Sg} (h : Ext σ σ') : ∀ (xs : List X) (vs : List Value), vls σ xs = some vs → vls σ' xs = some vs
  | [], _, e => e
  | x :: r, vs, e => by
    simp only [vls] at e ⊢
    cases hx : vl σ x with
    | none => rw [hx] at e; cases e
    | some u =>
      cases hr : vls σ r with
      | none => rw [hx, hr] at e; cases e
      | some us => rw [hx, hr] at e; rw [vl_ext h x u hx, vls_ext h r us hr]; exact e
end
theorem vls_cons {σ : Sg} {x : X} {r : List X} {vs : List Value} (h : vls σ (x :: r) = some vs) : ∃ v us, vl σ x = some v ∧ vls σ r = some us ∧ vs = v :: us := by
  simp only [vls] at h
  cases hx : vl σ x with
  | none => rw [hx] at h; cases h
  | some u =>
    cases hr : vls σ r with
    | none => rw [hx, hr] at h; cases h
    | some us => rw [hx, hr] at h; exact ⟨u, us, rfl, rfl, (Option.some.inj h).symm⟩
theorem vls_mk {σ : Sg} {x : X} {r : List X} {v : Value} {us : List Value} (h1 : vl σ x = some v) (h2 : vls σ r = some us) : vls σ (x :: r) = some (v :: us) := by
  simp only [vls, h1, h2]
theorem vls_len {σ : Sg} : ∀ {xs : List X} {vs : List Value}, vls σ xs = some vs → xs.length = vs.length
  | [], vs, h => by simp only [vls, Option.some.injEq] at h; subst h; rfl
  | x :: r, vs, h => by
    obtain ⟨v, us, _, h2, rfl⟩ := vls_cons h
    simp [vls_len h2]
theorem vls_app {σ : Sg} : ∀ {xs ys : List X} {us vs : List Value}, vls σ xs = some us → vls σ ys = some vs → vls σ (xs ++ ys) = some (us ++ vs)
  | [], ys, us, vs, h, k => by simp only [vls, Option.some.injEq] at h; subst h; exact k
  | x :: r, ys, us, vs, h, k => by
    obtain ⟨v, us', h1, h2, rfl⟩ := vls_cons h
    exact vls_mk h1 (vls_app h2 k)
theorem vls_get {σ : Sg} : ∀ {xs : List X} {vs : List Value} {i : Nat} {x : X}, vls σ xs = some vs → xs[i]? = some x → ∃ v, vs[i]? = some v ∧ vl σ x = some v
  | y :: r, vs, 0, x, h, e => by
    obtain ⟨v, us, h1, h2, rfl⟩ := vls_cons h
    simp at e; subst e
    exact ⟨v, rfl, h1⟩
  | y :: r, vs, i + 1, x, h, e => by
    obtain ⟨v, us, h1, h2, rfl⟩ := vls_cons h
    obtain ⟨u, e1, e2⟩ := vls_get h2 (by simpa using e)
    exact ⟨u, by simpa using e1, e2⟩
theorem vls_set {σ : Sg} : ∀ {xs : List X} {vs : List Value} (i : Nat) {x : X} {v : Value}, vls σ xs = some vs → vl σ x = some v → vls σ (xs.set i x) = some (vs.set i v)
  | [], vs, i, x, v, h, k => by simp only [vls, Option.some.injEq] at h; subst h; rfl
  | y :: r, vs, 0, x, v, h, k => by
    obtain ⟨u, us, h1, h2, rfl⟩ := vls_cons h
    exact vls_mk k h2
  | y :: r, vs, i + 1, x, v, h, k => by
    obtain ⟨u, us, h1, h2, rfl⟩ := vls_cons h
    exact vls_mk h1 (vls_set i h2 k)
theorem vls_drop {σ : Sg} : ∀ {xs : List X} {vs : List Value} (n : Nat), vls σ xs = some vs → vls σ (xs.drop n) = some (vs.drop n)
  | xs, vs, 0, h => by simpa using h
  | [], vs, n + 1, h => by simp only [vls, Option.some.injEq] at h; subst h; rfl
  | y :: r, vs, n + 1, h => by
    obtain ⟨u, us, h1, h2, rfl⟩ := vls_cons h
    simpa using vls_drop n h2
theorem vls_take {σ : Sg} : ∀ {xs : List X} {vs : List Value} (n : Nat), vls σ xs = some vs → vls σ (xs.take n) = some (vs.take n)
  | xs, vs, 0, h => by simp [vls]
  | [], vs, n + 1, h => by simp only [vls, Option.some.injEq] at h; subst h; rfl
  | y :: r, vs, n + 1, h => by
    obtain ⟨u, us, h1, h2, rfl⟩ := vls_cons h
    simpa using vls_mk h1 (vls_take n h2)
/-! A map from numbers, as a tree by their bits. -/
noncomputable section
inductive T (α : Type) where
  | e
  | lf (k : Nat) (v : α)
  | nd (a b : T α)
/-- By recursors: the kernel reduces these in few steps. -/
def T.get {α : Type} (t : T α) : Nat → Nat → Option α :=
  @T.rec α (fun _ => Nat → Nat → Option α) (fun _ _ => none) (fun k v _ q => @Bool.rec (fun _ => Option α) none (some v) (Nat.beq k q))
    (fun _ _ ga gb i q => @Nat.rec (fun _ => Option α) (ga (Nat.div i 2) q) (fun _ _ => gb (Nat.div i 2) q) (Nat.mod i 2)) t
def T.set {α : Type} (d : Nat) : T α → Nat → Nat → α → T α :=
  @Nat.rec (fun _ => T α → Nat → Nat → α → T α) (fun _ _ k v => .lf k v)
    (fun _ ih t i k v => @T.rec α (fun _ => T α) (@Nat.rec (fun _ => T α) (.nd (ih .e (Nat.div i 2) k v) .e) (fun _ _ => .nd .e (ih .e (Nat.div i 2) k v)) (Nat.mod i 2))
      (fun _ _ => @Nat.rec (fun _ => T α) (.nd (ih .e (Nat.div i 2) k v) .e) (fun _ _ => .nd .e (ih .e (Nat.div i 2) k v)) (Nat.mod i 2))
      (fun a b _ _ => @Nat.rec (fun _ => T α) (.nd (ih a (Nat.div i 2) k v) b) (fun _ _ => .nd a (ih b (Nat.div i 2) k v)) (Nat.mod i 2)) t) d
theorem T.get_e {α : Type} (i q : Nat) : (T.e : T α).get i q = none := rfl
theorem T.get_lf {α : Type} (k : Nat) (v : α) (i q : Nat) : (T.lf k v).get i q = match Nat.beq k q with | true => some v | false => none := by
  show @Bool.rec (fun _ => Option α) none (some v) (Nat.beq k q) = _
  cases Nat.beq k q <;> rfl
theorem T.get_nd {α : Type} (a b : T α) (i q : Nat) : (T.nd a b).get i q = match i % 2 with | 0 => a.get (i / 2) q | _ + 1 => b.get (i / 2) q := by
  show @Nat.rec (fun _ => Option α) (a.get (i / 2) q) (fun _ _ => b.get (i / 2) q) (i % 2) = _
  cases i % 2 <;> rfl
theorem T.set_0 {α : Type} (t : T α) (i k : Nat) (v : α) : T.set 0 t i k v = .lf k v := rfl
theorem T.set_nd {α : Type} (d : Nat) (a b : T α) (i k : Nat) (v : α) : T.set (d + 1) (.nd a b) i k v = match i % 2 with | 0 => .nd (T.set d a (i / 2) k v) b | _ + 1 => .nd a (T.set d b (i / 2) k v) := by
  show @Nat.rec (fun _ => T α) (.nd (T.set d a (i / 2) k v) b) (fun _ _ => .nd a (T.set d b (i / 2) k v)) (i % 2) = _
  cases i % 2 <;> rfl
theorem T.set_e {α : Type} (d : Nat) (i k : Nat) (v : α) : T.set (d + 1) .e i k v = match i % 2 with | 0 => .nd (T.set d .e (i / 2) k v) .e | _ + 1 => .nd .e (T.set d .e (i / 2) k v) := by
  show @Nat.rec (fun _ => T α) (.nd (T.set d .e (i / 2) k v) .e) (fun _ _ => .nd .e (T.set d .e (i / 2) k v)) (i % 2) = _
  cases i % 2 <;> rfl
theorem T.set_lf {α : Type} (d : Nat) (k' : Nat) (v' : α) (i k : Nat) (v : α) : T.set (d + 1) (.lf k' v') i k v = match i % 2 with | 0 => .nd (T.set d .e (i / 2) k v) .e | _ + 1 => .nd .e (T.set d .e (i / 2) k v) := by
  show @Nat.rec (fun _ => T α) (.nd (T.set d .e (i / 2) k v) .e) (fun _ _ => .nd .e (T.set d .e (i / 2) k v)) (i % 2) = _
  cases i % 2 <;> rfl
theorem T.get_set {α : Type} : ∀ (d : Nat) (t : T α) (i k : Nat) (v : α) (j q : Nat) (x : α), (q = k → j = i) → (T.set d t i k v).get j q = some x → (q = k ∧ x = v) ∨ (q ≠ k ∧ t.get j q = some x)
  | 0, t, i, k, v, j, q, x, hj, h => by
    rw [T.set_0, T.get_lf] at h
    cases hb : Nat.beq k q with
    | true => rw [hb] at h; exact .inl ⟨(Nat.eq_of_beq_eq_true hb).symm, (Option.some.inj h).symm⟩
    | false => rw [hb] at h; cases h
  | d + 1, .nd a b, i, k, v, j, q, x, hj, h => by
    rw [T.set_nd] at h
    have hj2 : q = k → j / 2 = i / 2 := fun e => by rw [hj e]
    cases hi : i % 2 with
    | zero =>
      rw [hi] at h
      simp only [T.get_nd] at h ⊢
      cases hm : j % 2 with
      | zero =>
        rw [hm] at h
        exact T.get_set d a _ k v _ q x hj2 h
      | succ m =>
        rw [hm] at h
        exact .inr ⟨fun e => by have := hj e; subst this; omega, h⟩
    | succ n =>
      rw [hi] at h
      simp only [T.get_nd] at h ⊢
      cases hm : j % 2 with
      | zero =>
        rw [hm] at h
        exact .inr ⟨fun e => by have := hj e; subst this; omega, h⟩
      | succ m =>
        rw [hm] at h
        exact T.get_set d b _ k v _ q x hj2 h
  | d + 1, .e, i, k, v, j, q, x, hj, h => by
    rw [T.set_e] at h
    have hj2 : q = k → j / 2 = i / 2 := fun e => by rw [hj e]
    cases hi : i % 2 with
    | zero =>
      rw [hi] at h
      simp only [T.get_nd] at h
      cases hm : j % 2 with
      | zero =>
        rw [hm] at h
        rcases T.get_set d .e _ k v _ q x hj2 h with h1 | ⟨h1, h2⟩
        · exact .inl h1
        · cases h2
      | succ m => rw [hm] at h; cases h
    | succ n =>
      rw [hi] at h
      simp only [T.get_nd] at h
      cases hm : j % 2 with
      | zero => rw [hm] at h; cases h
      | succ m =>
        rw [hm] at h
        rcases T.get_set d .e _ k v _ q x hj2 h with h1 | ⟨h1, h2⟩
        · exact .inl h1
        · cases h2
  | d + 1, .lf k' v', i, k, v, j, q, x, hj, h => by
    rw [T.set_lf] at h
    have hj2 : q = k → j / 2 = i / 2 := fun e => by rw [hj e]
    cases hi : i % 2 with
    | zero =>
      rw [hi] at h
      simp only [T.get_nd] at h
      cases hm : j % 2 with
      | zero =>
        rw [hm] at h
        rcases T.get_set d .e _ k v _ q x hj2 h with h1 | ⟨h1, h2⟩
        · exact .inl h1
        · cases h2
      | succ m => rw [hm] at h; cases h
    | succ n =>
      rw [hi] at h
      simp only [T.get_nd] at h
      cases hm : j % 2 with
      | zero => rw [hm] at h; cases h
      | succ m =>
        rw [hm] at h
        rcases T.get_set d .e _ k v _ q x hj2 h with h1 | ⟨h1, h2⟩
        · exact .inl h1
        · cases h2
/-! Memory: blocks by number; none: given up. -/
abbrev Blk := TypeId × List X
/-- What is no block of cells: a map's entries; where an iterator of a string stands. -/
inductive M where
  | mp (es : List (X × X))
  | it (s : List Nat) (pos : Nat)
structure St where
  h : T (Option Blk)
  n : Nat
  k : Nat
  m : T (Option M)
  g : List (Nat × List X)
def jn {α : Type} : Option (Option α) → Option α
  | some (some c) => some c
  | _ => none
def St.blk (s : St) (b : Nat) : Option Blk := jn (s.h.get b b)
def St.mo (s : St) (b : Nat) : Option M := jn (s.m.get b b)
def St.put (s : St) (b : Nat) (c : Option Blk) : St := ⟨T.set 14 s.h b b c, s.n, s.k, s.m, s.g⟩
def St.mput (s : St) (b : Nat) (c : Option M) : St := ⟨s.h, s.n, s.k, T.set 14 s.m b b c, s.g⟩
theorem tree_put {α : Type} {t : T (Option α)} {b q : Nat} {c : Option α} {x : α} (h : jn ((T.set 14 t b b c).get q q) = some x) : (q = b ∧ c = some x) ∨ (q ≠ b ∧ jn (t.get q q) = some x) := by
  cases hg : T.get (T.set 14 t b b c) q q with
  | none => rw [hg] at h; cases h
  | some y =>
    rw [hg] at h
    cases y with
    | none => cases h
    | some z =>
      obtain rfl : z = x := Option.some.inj h
      rcases T.get_set 14 t b b c q q _ (fun e => e) hg with ⟨h1, h2⟩ | ⟨h1, h2⟩
      · exact .inl ⟨h1, h2.symm⟩
      · refine .inr ⟨h1, ?_⟩
        rw [h2]
        rfl
theorem blk_put {s : St} {b q : Nat} {c : Option Blk} {x : Blk} (h : (s.put b c).blk q = some x) : (q = b ∧ c = some x) ∨ (q ≠ b ∧ s.blk q = some x) := tree_put h
theorem mo_mput {s : St} {b q : Nat} {c : Option M} {x : M} (h : (s.mput b c).mo q = some x) : (q = b ∧ c = some x) ∨ (q ≠ b ∧ s.mo q = some x) := tree_put h
def szOf (P : Program) (e : TypeId) : Nat := match P.info? e with
  | some i => i.size
  | none => 0
/-- An array's type: blocks of it have nothing spare. -/
def isArrB (P : Program) (e : TypeId) : Bool := match P.underlying e with
  | some (.array _ _) => true
  | _ => false
/-- Real addresses that are kept, and numbers that are kept back. -/
structure Bs where
  pr : Nat → Prop
  res : Nat → Prop
  gp : Nat → Prop
  gpr : ∀ a, gp a → pr a
/-- What package-level variables hold, which are only read. -/
def lkG : List (Nat × List X) → Nat → Option (List X)
  | [], _ => none
  | p :: l, g => match Nat.beq p.1 g with
    | true => some p.2
    | false => lkG l g
/-- What the real memory holds of it: each block's cells, and what is spare behind them; all of them at `base` or above, apart from each other. -/
structure Own (P : Program) (base : Bs) (σ : Sg) (w : World) (b e : Nat) (cs : List X) (rb off k : Nat) (pre vs sp post : List Value) : Prop where
  sg_ : σ b = some (rb, off, k)
  val : vls σ cs = some vs
  pre_ : pre.length = off
  sp_ : sp.length = k * szOf P e
  heap : ∃ fz : Nat × Nat, w.heap[rb]? = some (.cells (pre ++ vs ++ sp ++ post).toArray e fz) ∧ ∀ o, o < (pre ++ vs ++ sp ++ post).length → ¬ (fz.1 ≤ o ∧ o < fz.2)
  low : ¬ base.pr rb
  flat : vs.all sg = true
  mul_ : ∃ q, off = q * szOf P e
  nsp : isArrB P e = true → k = 0
def EsR (σ : Sg) : List (X × X) → List MapEntry → Prop
  | [], [] => True
  | (k, v) :: l, e :: l' => vl σ k = some e.key ∧ vl σ v = some e.val ∧ EsR σ l l'
  | _, _ => False
theorem EsR.ext {σ σ' : Sg} (hx : Ext σ σ') : ∀ {l : List (X × X)} {l' : List MapEntry}, EsR σ l l' → EsR σ' l l'
  | [], [], _ => trivial
  | (k, v) :: l, e :: l', ⟨h1, h2, h3⟩ => ⟨vl_ext hx _ _ h1, vl_ext hx _ _ h2, EsR.ext hx h3⟩
def MOk (σ : Sg) (w : World) (rb : Nat) : M → Prop
  | .mp es => ∃ (l : List MapEntry) (clock : Nat), w.heap[rb]? = some (.map l.toArray clock) ∧ EsR σ es l
  | .it s p => w.heap[rb]? = some (.stringIter (str s) p)
theorem MOk.ext {σ σ' : Sg} {w : World} {rb : Nat} (hx : Ext σ σ') : ∀ {o : M}, MOk σ w rb o → MOk σ' w rb o
  | .mp es, ⟨l, c, h1, h2⟩ => ⟨l, c, h1, h2.ext hx⟩
  | .it s p, h => h
/-- An object that is no block of cells. -/
def NoC (w : World) (rb : Nat) : Prop := ∀ c e z, w.heap[rb]? ≠ some (.cells c e z)
theorem MOk.noC {σ : Sg} {w : World} {rb : Nat} : ∀ {o : M}, MOk σ w rb o → NoC w rb ∧ (w.heap[rb]?).isSome = true
  | .mp es, ⟨l, c, h1, _⟩ => ⟨(fun _ _ _ h => by rw [h1] at h; cases h), (by rw [h1]; rfl)⟩
  | .it s p, h => ⟨(fun _ _ _ h' => by rw [show w.heap[rb]? = _ from h] at h'; cases h'), (by rw [show w.heap[rb]? = _ from h]; rfl)⟩
theorem MOk.keep {σ : Sg} {w w' : World} {rb : Nat} (hk : ∀ o, w.heap[rb]? = some o → w'.heap[rb]? = some o) : ∀ {o : M}, MOk σ w rb o → MOk σ w' rb o
  | .mp es, ⟨l, c, h1, h2⟩ => ⟨l, c, hk _ h1, h2⟩
  | .it s p, h => hk _ h
structure Mem (P : Program) (base : Bs) (σ : Sg) (s : St) (w : World) : Prop where
  own : ∀ b e cs, s.blk b = some (e, cs) → ∃ rb off k pre vs sp post, Own P base σ w b e cs rb off k pre vs sp post
  apart : ∀ b c x y r r', s.blk b = some x → s.blk c = some y → b ≠ c → σ b = some r → σ c = some r' → r.1 ≠ r'.1
  mown : ∀ b o, s.mo b = some o → ∃ rb, σ b = some (rb, 0, 0) ∧ ¬ base.pr rb ∧ MOk σ w rb o
  mapart : ∀ b c x y r r', s.mo b = some x → s.mo c = some y → b ≠ c → σ b = some r → σ c = some r' → r.1 ≠ r'.1
  glb : ∀ g xs, lkG s.g g = some xs → base.gp g ∧ ∃ e fz vs, vls (fun _ => none) xs = some vs ∧ w.heap[g]? = some (.cells vs.toArray e fz)
theorem Mem.keepG {P : Program} {base : Bs} {σ : Sg} {s : St} {w w' : World} (h : Mem P base σ s w) (ho : ∀ (c : Nat) (o : Obj), base.pr c → w.heap[c]? = some o → w'.heap[c]? = some o) :
    ∀ g xs, lkG s.g g = some xs → base.gp g ∧ ∃ e fz vs, vls (fun _ => none) xs = some vs ∧ w'.heap[g]? = some (.cells vs.toArray e fz) := fun g xs hg => by
  obtain ⟨h1, e, fz, vs, h2, h3⟩ := h.glb g xs hg
  exact ⟨h1, e, fz, vs, h2, ho g _ (base.gpr g h1) h3⟩
theorem Own.ext {P : Program} {base : Bs} {σ σ' : Sg} {w : World} {b e : Nat} {cs : List X} {rb off k : Nat} {pre vs sp post : List Value} (h : Own P base σ w b e cs rb off k pre vs sp post) (hx : Ext σ σ') : Own P base σ' w b e cs rb off k pre vs sp post :=
  ⟨hx _ _ h.sg_, vls_ext hx _ _ h.val, h.pre_, h.sp_, h.heap, h.low, h.flat, h.mul_, h.nsp⟩
theorem Mem.ext {P : Program} {base : Bs} {σ σ' : Sg} {s : St} {w : World} (h : Mem P base σ s w) (hx : Ext σ σ') : Mem P base σ' s w := by
  refine ⟨fun b e cs hb => ?_, fun b c x y r r' hb hc hne h1 h2 => ?_, fun b o hb => ?_, fun b c x y r r' hb hc hne h1 h2 => ?_, h.glb⟩
  · obtain ⟨rb, off, k, pre, vs, sp, post, h1⟩ := h.own b e cs hb
    exact ⟨rb, off, k, pre, vs, sp, post, h1.ext hx⟩
  · obtain ⟨e, cs⟩ := x
    obtain ⟨e', cs'⟩ := y
    obtain ⟨_, _, _, _, _, _, _, g1⟩ := h.own b e cs hb
    obtain ⟨_, _, _, _, _, _, _, g2⟩ := h.own c e' cs' hc
    have e1 := hx _ _ g1.sg_
    have e2 := hx _ _ g2.sg_
    rw [h1] at e1; rw [h2] at e2
    have f1 := g1.sg_
    have f2 := g2.sg_
    rw [← e1] at f1; rw [← e2] at f2
    exact h.apart b c _ _ _ _ hb hc hne f1 f2
  · obtain ⟨rb, h1, h2, h3⟩ := h.mown b o hb
    exact ⟨rb, hx _ _ h1, h2, h3.ext hx⟩
  · obtain ⟨_, g1, _⟩ := h.mown b x hb
    obtain ⟨_, g2, _⟩ := h.mown c y hc
    have e1 := hx _ _ g1
    have e2 := hx _ _ g2
    rw [h1] at e1; rw [h2] at e2
    rw [← e1] at g1; rw [← e2] at g2
    exact h.mapart b c _ _ _ _ hb hc hne g1 g2
/-- The frame: what was there below `base` stands. -/
structure Fram (base : Bs) (w0 w : World) : Prop where
  same : Same w0 w
  low : ∀ c, base.pr c → c < w.heap.size
  old : ∀ c, base.pr c → w.heap[c]? = w0.heap[c]?
/-- Numbers that stand for nothing yet: the next one, all from the counter on, those kept back. -/
structure FreshN (base : Bs) (σ : Sg) (n k : Nat) : Prop where
  nx : σ n = none
  lt : n < k
  ge : ∀ m, k ≤ m → σ m = none
  rs : ∀ m, base.res m → σ m = none ∧ m ≠ n ∧ m < k
abbrev Fresh (base : Bs) (σ : Sg) (s : St) : Prop := FreshN base σ s.n s.k
end
end Go.Ev
