/- Chapter 46: ends and answers, compared; views in memory. -/
import Derived.Test.YtbhbdleffackaaaGreatDoorEB
import Derived.Test.YtbhbdleffackaaaGreatDoorFm
import Derived.Test.YtbhbdleffackaaaGreatDoorS4r
set_option linter.unusedVariables false
set_option linter.unusedSimpArgs false
namespace Go.Proofs.YtbhbdleffackaaaGreatDoor
open Go Go.Vc
namespace P46
open S4r
variable {w : World} {L : List HProp} {K : Value → World → Prop}
/-- How a job ended. -/
structure En where
  id : Int
  dn : Bool
  tx : ByteArray
  er : Int
/-- An answer. -/
structure An where
  ty : Int
  jb : Int
  tx : ByteArray
  er : Int
def cellsEn (e : En) : List Value := [iv e.id, .bool e.dn, .string e.tx, iv e.er]
def cellsAn (a : An) : List Value := [iv a.ty, iv a.jb, .string a.tx, iv a.er]
def eqEn (a b : En) : Prop := a.id = b.id ∧ a.dn = b.dn ∧ a.tx = b.tx ∧ a.er = b.er
def eqAn (a b : An) : Prop := a.ty = b.ty ∧ a.jb = b.jb ∧ a.tx = b.tx ∧ a.er = b.er
instance (a b : En) : Decidable (eqEn a b) := by unfold eqEn; infer_instance
instance (a b : An) : Decidable (eqAn a b) := by unfold eqAn; infer_instance
theorem eqEn_iff (a b : En) : eqEn a b ↔ a = b := by
  cases a; cases b; simp [eqEn]
theorem eqAn_iff (a b : An) : eqAn a b ↔ a = b := by
  cases a; cases b; simp [eqAn]
instance : DecidableEq En := fun a b => decidable_of_iff _ (eqEn_iff a b)
instance : DecidableEq An := fun a b => decidable_of_iff _ (eqAn_iff a b)
def xs_ (s : ByteArray) : Ev.X := .s (s.data.toList.map (·.toNat))
theorem xs_vl (s : ByteArray) : Ev.str (s.data.toList.map (·.toNat)) = s := by
  unfold Ev.str
  rw [List.map_map]
  have : (s.data.toList.map (UInt8.ofNat ∘ fun x => x.toNat)) = s.data.toList := by
    rw [show (UInt8.ofNat ∘ fun x : UInt8 => x.toNat) = id by funext x; simp]
    simp
  rw [this]
theorem xs_eq (s t : ByteArray) : Ev.eqN (s.data.toList.map (·.toNat)) (t.data.toList.map (·.toNat)) = decide (s = t) := by
  rw [Ev.eqN_spec, xs_vl, xs_vl]
def xEn (e : En) : Ev.X := .g [.i .i64 e.id, .b e.dn, xs_ e.tx, .i .i64 e.er]
def xAn (a : An) : Ev.X := .g [.i .i64 a.ty, .i .i64 a.jb, xs_ a.tx, .i .i64 a.er]
theorem xEn_vl (e : En) : Ev.vl (fun _ => none) (xEn e) = some (.agg (cellsEn e).toArray) := by
  simp [xEn, cellsEn, xs_, Ev.vl, Ev.vls, xs_vl, iv]
theorem xAn_vl (a : An) : Ev.vl (fun _ => none) (xAn a) = some (.agg (cellsAn a).toArray) := by
  simp [xAn, cellsAn, xs_, Ev.vl, Ev.vls, xs_vl, iv]
/-- A struct of four one-cell fields is compared field by field. -/
theorem eq4 {P : Program} {eq : TypeId → Ev.X → Ev.X → Option Bool} {x0 x1 x2 x3 y0 y1 y2 y3 : Ev.X} {f0 f1 f2 f3 : Field} {b0 b1 b2 b3 : Bool}
    (o : f0.offset = 0 ∧ f1.offset = 1 ∧ f2.offset = 2 ∧ f3.offset = 3) (nm : (f0.name == "_") = false ∧ (f1.name == "_") = false ∧ (f2.name == "_") = false ∧ (f3.name == "_") = false)
    (p : ∀ l : List Ev.X, Ev.partX P f0.type l 0 = l[0]? ∧ Ev.partX P f1.type l 1 = l[1]? ∧ Ev.partX P f2.type l 2 = l[2]? ∧ Ev.partX P f3.type l 3 = l[3]?)
    (e0 : eq f0.type x0 y0 = some b0) (e1 : eq f1.type x1 y1 = some b1) (e2 : eq f2.type x2 y2 = some b2) (e3 : eq f3.type x3 y3 = some b3) :
    Ev.eqFs P eq [x0, x1, x2, x3] [y0, y1, y2, y3] [f0, f1, f2, f3] = some (b0 && (b1 && (b2 && b3))) := by
  obtain ⟨o0, o1, o2, o3⟩ := o
  obtain ⟨n0, n1, n2, n3⟩ := nm
  obtain ⟨p0, p1, p2, p3⟩ := p [x0, x1, x2, x3]
  obtain ⟨q0, q1, q2, q3⟩ := p [y0, y1, y2, y3]
  simp only [Ev.eqFs, n0, n1, n2, n3, o0, o1, o2, o3, p0, p1, p2, p3, q0, q1, q2, q3, List.getElem?_cons_zero, List.getElem?_cons_succ, e0, e1, e2, e3]
  cases b0 <;> cases b1 <;> cases b2 <;> cases b3 <;> rfl
/-! The plain law. -/
def findE (xs : List En) (id : Int) : Option En := xs.find? fun e => decide (e.id = id)
theorem findE_at {id : Int} : ∀ {xs : List En} {i : Nat} {x : En}, xs[i]? = some x → x.id = id → (∀ (q : Nat) y, q < i → xs[q]? = some y → y.id ≠ id) → findE xs id = some x
  | [], i, x, h, _, _ => by simp at h
  | y :: r, 0, x, h, hx, _ => by
    simp at h; subst h
    simp [findE, hx]
  | y :: r, i + 1, x, h, hx, hn => by
    have h0 : ¬ y.id = id := hn 0 y (by omega) rfl
    have := findE_at (xs := r) (i := i) (x := x) (by simpa using h) hx fun q z hq hz => hn (q + 1) z (by omega) (by simpa using hz)
    unfold findE at this ⊢
    rw [List.find?_cons, decide_eq_false h0]
    exact this
theorem findE_none {id : Int} {xs : List En} (h : ∀ (q : Nat) y, xs[q]? = some y → y.id ≠ id) : findE xs id = none := by
  unfold findE
  rw [List.find?_eq_none]
  intro x hx
  obtain ⟨q, hq⟩ := List.getElem?_of_mem hx
  simpa using h q x hq
theorem findE_id {id : Int} {xs : List En} {x : En} (h : findE xs id = some x) : x.id = id := by
  have := List.find?_some h
  simpa using this
def agrE (us bs : List En) : Prop := ∀ (i : Nat) x, us[i]? = some x → ∀ q, findE bs x.id = some q → findE us x.id = some q
def agrA (us bs : List An) : Prop := ∀ (i : Nat) x y, us[i]? = some x → bs[i]? = some y → x = y
theorem agrE_self (us : List En) : agrE us us := fun _ _ _ _ h => h
theorem agrA_self (us : List An) : agrA us us := fun _ _ _ h1 h2 => by rw [h1] at h2; exact Option.some.inj h2
theorem agrA_more (us : List An) (m : An) : agrA us (us ++ [m]) := fun i x y h1 h2 => by
  rw [List.getElem?_append_left (List.getElem?_eq_some_iff.1 h1).1, h1] at h2
  exact Option.some.inj h2
theorem agrA_less (us : List An) (m : An) : agrA (us ++ [m]) us := fun i x y h1 h2 => by
  rw [List.getElem?_append_left (List.getElem?_eq_some_iff.1 h2).1, h2] at h1
  exact (Option.some.inj h1).symm
end P46
end Go.Proofs.YtbhbdleffackaaaGreatDoor
