/- A verified evaluator for closed calls: pointers that are seen as others. No program in sight. -/
import Derived.Test.YtbhbdleffackaaaGreatDoorF1
import Derived.Lib.UnsafeStr
set_option linter.unusedVariables false
set_option linter.unusedSimpArgs false
namespace Go.Ev
open Go Go.Vc
noncomputable section
variable {P : Program} {base : Bs} {w0 : World} {σ : Sg} {s : St} {w w' : World}
theorem rowAt_up {p : Program} {fits : TypeId → Bool} {d : Nat} {e : TypeId} {c c' o q n : Nat} (h : rowAt p fits d e c o n = true) (hc : c + q ≤ c') : rowAt p fits d e c' (q * p.cellsOf e + o) n = true := by
  cases d with
  | zero => simp [rowAt] at h
  | succ d =>
    unfold rowAt at h ⊢
    by_cases hs : p.cellsOf e = 0
    · simp [hs] at h
    · simp only [hs, if_false] at h ⊢
      have h1 : (q * p.cellsOf e + o) / p.cellsOf e = q + o / p.cellsOf e := by
        rw [Nat.add_comm, Nat.add_mul_div_right _ _ (Nat.pos_of_ne_zero hs), Nat.add_comm]
      have h2 : (q * p.cellsOf e + o) % p.cellsOf e = o % p.cellsOf e := by rw [Nat.add_comm, Nat.add_mul_mod_self_right]
      rw [h1, h2]
      rw [Bool.or_eq_true] at h ⊢
      rcases h with h | h
      · left
        simp only [Bool.and_eq_true, decide_eq_true_eq] at h ⊢
        exact ⟨⟨h.1.1, by have := h.1.2; omega⟩, h.2⟩
      · right
        simp only [Bool.and_eq_true, decide_eq_true_eq] at h ⊢
        exact ⟨by have := h.1; omega, h.2⟩
theorem liesAt_up {p : Program} {e : TypeId} {c c' o q : Nat} (hc : c + q ≤ c') : ∀ {d : Nat} {u : TypeId} {n : Nat}, liesAt p d e c o u n = true → liesAt p d e c' (q * p.cellsOf e + o) u n = true
  | 0, u, n, h => by simp [liesAt] at h
  | d + 1, u, n, h => by
    unfold liesAt at h ⊢
    rw [Bool.or_eq_true] at h ⊢
    rcases h with h | h
    · exact .inl (rowAt_up h hc)
    · right
      split at h
      · rename_i m u' hu
        exact liesAt_up hc h
      · cases h
theorem Own.shape {b e : Nat} {cs : List X} {rb off k : Nat} {pre vs sp post : List Value} (g : Own P base σ w b e cs rb off k pre vs sp post) : w.shape? rb = some (e, (pre ++ vs ++ sp ++ post).length) := by
  obtain ⟨fz, hh, _⟩ := g.heap
  simp [World.shape?, hh]
/-- A pointer that is seen as another. -/
def cpX (P : Program) (s : St) (q d : TypeId) (x : Option X) : Option X := match P.underlying q, P.underlying d, x with
  | some (.pointer _), some .unsafePointer, some (.p none) => some (.p none)
  | some (.pointer t), some .unsafePointer, some (.p (some a)) => (match s.blk a.1, P.info? t with
    | some cb, some i => (match Nat.blt a.2 cb.2.length, Nat.beq i.size 0 with
      | true, false => some (.p (some a))
      | _, _ => none)
    | _, _ => none)
  | some .unsafePointer, some (.pointer _), some (.p none) => some (.p none)
  | some .unsafePointer, some (.pointer u), some (.p (some a)) => (match s.blk a.1, P.info? u with
    | some cb, some i => (match Nat.blt 0 (szOf P cb.1), liesAt P P.depth cb.1 (cb.2.length / szOf P cb.1) a.2 u 1 with
      | true, true => some (.p (some a))
      | _, _ => none)
    | _, _ => none)
  | _, _, _ => none
theorem cellsOf_szOf {e : TypeId} (h : 0 < szOf P e) : P.cellsOf e = szOf P e := by
  unfold szOf at h ⊢
  unfold Program.cellsOf
  cases hi : P.info? e with
  | none => rw [hi] at h; exact absurd h (Nat.lt_irrefl _)
  | some i => rfl
theorem cpX_ok (hM : Mem P base σ s w) {q d : TypeId} {x : Option X} {z : X} {u : Value} (h : cpX P s q d x = some z) (hx : ∀ a, x = some a → vl σ a = some u) : vl σ z = some u ∧ (convert q d u).run P w = .ok u w := by
  unfold cpX at h
  split at h
  · rename_i t hq hd
    obtain rfl := Option.some.inj h
    have hx := hx _ rfl
    simp only [vl, Option.some.injEq] at hx
    subst hx
    exact ⟨rfl, by simp [convert, run_underlying hq, run_underlying hd, Conv.unsafePointer]⟩
  · rename_i t a hq hd
    have hx := hx _ rfl
    split at h
    · rename_i cb i hb hi
      split at h
      · rename_i h1 h2
        obtain rfl := Option.some.inj h
        refine ⟨hx, ?_⟩
        obtain ⟨e, cs⟩ := cb
        obtain ⟨rb, off, k, pre, vs, sp, post, g⟩ := hM.own a.1 e cs hb
        have hx2 := hx
        simp only [vl, g.sg_, Option.some.injEq] at hx2
        subst hx2
        have hsh := g.shape
        have hl := vls_len g.val
        have hp := g.pre_
        have h1 := Nat.le_of_ble_eq_true h1
        have h2 : i.size ≠ 0 := fun e => by rw [e] at h2; cases h2
        simp only at h1
        have hlt : ¬ ((pre ++ vs ++ sp ++ post).length ≤ off + a.2) := by simp only [List.length_append]; omega
        simp only [List.length_append] at hlt hsh
        simp [convert, run_underlying hq, run_underlying hd, Conv.unsafePointer, Conv.seenAt, viewAt, cellsIn, hsh, run_sz hi, h2, hlt]
      · cases h
    · cases h
  · rename_i t hq hd
    obtain rfl := Option.some.inj h
    have hx := hx _ rfl
    simp only [vl, Option.some.injEq] at hx
    subst hx
    exact ⟨rfl, by simp [convert, run_underlying hq, run_underlying hd, Conv.unsafePointer]⟩
  · rename_i t a hq hd
    have hx := hx _ rfl
    split at h
    · rename_i cb i hb hi
      split at h
      · rename_i h1 h2
        obtain rfl := Option.some.inj h
        refine ⟨hx, ?_⟩
        obtain ⟨e, cs⟩ := cb
        obtain ⟨rb, off, k, pre, vs, sp, post, g⟩ := hM.own a.1 e cs hb
        have hx2 := hx
        simp only [vl, g.sg_, Option.some.injEq] at hx2
        subst hx2
        have hsh := g.shape
        have hl := vls_len g.val
        have hp := g.pre_
        have h1 := Nat.le_of_ble_eq_true h1
        simp only at h1 h2
        obtain ⟨qq, hqq⟩ := g.mul_
        have hc := cellsOf_szOf h1
        have hlies : liesAt P P.depth e ((pre ++ vs ++ sp ++ post).length / P.cellsOf e) (off + a.2) t 1 = true := by
          rw [hqq, ← hc]
          refine liesAt_up ?_ h2
          rw [hc, Nat.le_div_iff_mul_le h1, Nat.add_mul]
          have := Nat.div_mul_le_self cs.length (szOf P e)
          simp only [List.length_append]
          omega
        simp only [List.length_append] at hlies hsh
        simp [convert, run_underlying hq, run_underlying hd, Conv.unsafePointer, Conv.seenAt, viewAt, hsh, run_sz hi, variablesAt, hlies]
      · cases h
    · cases h
  · cases h
/-- The room of a slice that is nil. -/
def capX (P : Program) : List TypeId → Option (List X) → Option X
  | t :: _, some (.l none _ c :: _) => (match P.underlying t with
    | some (.slice _) => some (.i .i64 (c : Int))
    | _ => none)
  | _, _ => none
theorem capX_ok {ats : Array TypeId} {ty : TypeId} {xs : Option (List X)} {vs : List Value} {z : X} (h : capX P ats.toList xs = some z) (hv : ∀ l, xs = some l → vls σ l = some vs) {K : Value → Prop} (hK : ∀ v, vl σ z = some v → K v) : Bc P ats ty vs.toArray w K := by
  unfold capX at h
  split at h
  · rename_i t ts n c r hats
    obtain ⟨v1, vs1, e1, e2, rfl⟩ := vls_cons (hv _ rfl)
    simp only [vl, Option.some.injEq] at e1
    subst e1
    have hat : ats = (t :: ts).toArray := by rw [← hats]
    subst hat
    split at h
    · rename_i e ht
      obtain rfl := Option.some.inj h
      exact ⟨.int .i64 (c : Int), by simp [Builtin.cap_, run_underlying ht, goInt], hK _ rfl⟩
    · cases h
  · cases h
end
end Go.Ev
