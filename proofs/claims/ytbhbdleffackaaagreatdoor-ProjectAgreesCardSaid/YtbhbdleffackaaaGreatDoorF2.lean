/- A verified evaluator for closed calls: maps that turn, iterators of strings. No program in sight. -/
import Derived.Test.YtbhbdleffackaaaGreatDoorE6
import Derived.Test.YtbhbdleffackaaaGreatDoorSr
import Derived.Carry
set_option linter.unusedVariables false
set_option linter.unusedSimpArgs false
namespace Go.Ev
open Go Go.Vc
noncomputable section
variable {P : Program} {base : Bs} {w0 : World} {σ : Sg} {s : St} {w w' : World}
def undX : X := .t []
def Fin (P : Program) (base : Bs) (w0 : World) (σ : Sg) (x : X) (s' : St) (K : Value → World → Prop) : Prop := ∀ σ' w' v, Ext σ σ' → Wo P base w0 σ' s' w' → vl σ' x = some v → K v w'
/-- An object put in that is no block of cells. -/
theorem Wo.mnew (h : Wo P base w0 σ s w) {o : M} {ob : Obj} (hn : ∀ w', w'.heap[w.heap.size]? = some ob → MOk σ w' w.heap.size o) : ∃ σ', Ext σ σ' ∧ Wo P base w0 σ' (s.mnew o) (w.alloc ob) ∧ σ' s.n = some (w.heap.size, 0, 0) := by
  obtain ⟨g1, g2, g3⟩ := h.mem.mnew h.fresh h.fram hn
  exact ⟨_, g2, ⟨g1, g3, h.fram.alloc _⟩, sgPut_same _ _ _⟩
/-- Such an object turns. -/
theorem Wo.mset (h : Wo P base w0 σ s w) {b rb : Nat} {o o' : M} {ob : Obj} (hb : s.mo b = some o) (hr : σ b = some (rb, 0, 0)) (hn : ∀ w', w'.heap[rb]? = some ob → MOk σ w' rb o') :
    Wo P base w0 σ (s.mput b (some o')) { w with heap := w.heap.setIfInBounds rb ob } := by
  obtain ⟨rb', h1, h2, h3⟩ := h.mem.mown b o hb
  rw [hr] at h1
  cases h1
  obtain ⟨ox, hox⟩ := Option.isSome_iff_exists.1 h3.noC.2
  obtain ⟨g1, g2⟩ := MapKept.heap_set (o' := ob) hox
  have ho : ∀ c x, c ≠ rb → w.heap[c]? = some x → (w.heap.setIfInBounds rb ob)[c]? = some x := fun c x hc hx => (g2 c hc).trans hx
  exact ⟨h.mem.mupd hb hr (hn _ g1) ho, h.fresh, h.fram.upd ⟨rfl, rfl, rfl, by simp⟩ h2 ho⟩
def mmX0 (P : Program) (t : TypeId) (r : Option (Option X)) (s : St) : Option (X × St) := match r with
  | none => some (.m (some s.n), s.mnew (.mp []))
  | some (some (.i _ _)) => (match P.underlying t with
    | some (.map _ _) => some (.m (some s.n), s.mnew (.mp []))
    | _ => none)
  | _ => none
def RqX (σ : Sg) : Option (Option X) → Option Value → Prop
  | none, none => True
  | some (some a), some v => vl σ a = some v
  | some none, some _ => True
  | _, _ => False
theorem mmX0_ok (h : Wo P base w0 σ s w) {t : TypeId} {r : Option (Option X)} {q : Option Value} {x : X} {s' : St} (hx : mmX0 P t r s = some (x, s')) (hq : RqX σ r q) {K : Value → World → Prop} (hK : Fin P base w0 σ x s' K) : Mm P t q w K := by
  obtain ⟨σ', k1, k2, k3⟩ := h.mnew (o := .mp []) (ob := .map #[] 0) fun w' hw => ⟨[], 0, hw, trivial⟩
  unfold mmX0 at hx
  split at hx
  · simp only [Option.some.injEq, Prod.mk.injEq] at hx
    obtain ⟨rfl, rfl⟩ := hx
    cases q with
    | some v => exact hq.elim
    | none =>
      refine ⟨.map (some w.heap.size), w.alloc (.map #[] 0), rfl, hK σ' _ _ k1 k2 ?_⟩
      simp only [vl, k3]
  · rename_i k n
    cases hu : P.underlying t with
    | none => rw [hu] at hx; cases hx
    | some d =>
      rw [hu] at hx
      cases d with
      | map kt et =>
        simp only [Option.some.injEq, Prod.mk.injEq] at hx
        obtain ⟨rfl, rfl⟩ := hx
        cases q with
        | none => exact hq.elim
        | some v =>
          replace hq : some (Value.int k n) = some v := hq
          obtain rfl := Option.some.inj hq
          refine ⟨.map (some w.heap.size), w.alloc (.map #[] 0), ?_, hK σ' _ _ k1 k2 ?_⟩
          · simp [Instr.makeMap, run_underlying hu, asInt, asIntOf]
          · simp only [vl, k3]
      | _ => cases hx
  · cases hx
def setE (es : List (X × X)) (j : Nat) (k v : X) : List (X × X) := es.set j (k, v)
def muX (P : Program) (t : TypeId) (m k x : Option X) (s : St) : Option (X × St) := match P.underlying t, m, k, x with
  | some (.map kt _), some (.m (some b)), some k, some x => (match P.underlying kt, s.mo b with
    | some d, some (.mp es) => (match keyOk d k, findX k es 0 with
      | true, some none => some (undX, s.mput b (some (.mp (es ++ [(k, x)]))))
      | true, some (some q) => some (undX, s.mput b (some (.mp (es.set q.1 (k, x)))))
      | _, _ => none)
    | _, _ => none)
  | _, _, _, _ => none
theorem EsR.app : ∀ {es es' : List (X × X)} {l l' : List MapEntry}, EsR σ es l → EsR σ es' l' → EsR σ (es ++ es') (l ++ l')
  | [], _, [], _, _, h => h
  | (k, v) :: es, _, e :: l, _, ⟨h1, h2, h3⟩, h => ⟨h1, h2, h3.app h⟩
  | [], _, _ :: _, _, h, _ => h.elim
  | _ :: _, _, [], _, h, _ => h.elim
theorem EsR.set {k x : X} {kv xv : Value} (hk : vl σ k = some kv) (hx : vl σ x = some xv) : ∀ {es : List (X × X)} {l : List MapEntry} (j : Nat), EsR σ es l → EsR σ (es.set j (k, x)) (l.modify j fun e => { e with key := kv, val := xv })
  | [], [], 0, _ => trivial
  | [], [], _ + 1, _ => trivial
  | (a, b) :: es, e :: l, 0, ⟨h1, h2, h3⟩ => ⟨hk, hx, h3⟩
  | (a, b) :: es, e :: l, j + 1, ⟨h1, h2, h3⟩ => ⟨h1, h2, h3.set hk hx j⟩
  | [], _ :: _, _, h => h.elim
  | _ :: _, [], _, h => h.elim
theorem EsR.get : ∀ {es : List (X × X)} {l : List MapEntry} {j : Nat} {e : X × X}, EsR σ es l → es[j]? = some e → ∃ e', l[j]? = some e' ∧ vl σ e.1 = some e'.key
  | [], [], _, _, _, h => by simp at h
  | (a, b) :: es, e' :: l, 0, e, ⟨h1, h2, h3⟩, h => by
    simp at h; subst h
    exact ⟨e', rfl, h1⟩
  | (a, b) :: es, e' :: l, j + 1, e, ⟨h1, h2, h3⟩, h => by
    obtain ⟨q, g1, g2⟩ := h3.get (j := j) (by simpa using h)
    exact ⟨q, by simpa using g1, g2⟩
  | [], _ :: _, _, _, h, _ => h.elim
  | _ :: _, [], _, _, h, _ => h.elim
theorem keyEq_bits {x y : X} {u v : Value} (h : keyEq x y = some true) (hx : vl σ x = some u) (hy : vl σ y = some v) (n : Nat) : Instr.sameBits n v u = true := by
  unfold keyEq at h
  split at h
  · split at h
    · rename_i hk
      have hk := of_decide_eq_true hk
      subst hk
      simp only [vl, Option.some.injEq] at hx hy h; subst hx; subst hy
      have := beq_iff_eq.1 h
      subst this
      cases n <;> simp [Instr.sameBits]
    · cases h
  · simp only [vl, Option.some.injEq] at hx hy h; subst hx; subst hy
    rw [eqN_spec, decide_eq_true_iff] at h
    rw [h]
    cases n <;> simp only [Instr.sameBits] <;> exact (MapKept.bytes_beq _ _).2 rfl
  · cases h
theorem muX_ok (h : Wo P base w0 σ s w) {t : TypeId} {m k x : Option X} {mv kv xv : Value} {z : X} {s' : St} (hx : muX P t m k x s = some (z, s')) (hm : ∀ a, m = some a → vl σ a = some mv) (hk : ∀ a, k = some a → vl σ a = some kv) (hv : ∀ a, x = some a → vl σ a = some xv)
    {K : Value → World → Prop} (hK : Fin P base w0 σ z s' K) : Mu P t mv kv xv w fun w' => K undef w' := by
  unfold muX at hx
  split at hx
  · rename_i kt et b k x ht
    have hm := hm _ rfl
    have hk := hk _ rfl
    have hv := hv _ rfl
    split at hx
    · rename_i d es hd hb
      obtain ⟨rb, g1, g2, l, clock, g3, g4⟩ := h.mem.mown b _ hb
      simp only [vl, g1, Option.some.injEq] at hm
      subst hm
      split at hx
      · rename_i hko hf
        simp only [Option.some.injEq, Prod.mk.injEq] at hx
        obtain ⟨rfl, rfl⟩ := hx
        obtain ⟨q, e1, e2⟩ := findX_ok hko hk g4 hf
        cases q with
        | some q => exact e2.elim
        | none =>
          have hfk := mfindKey (P := P) (w := w) hd e1
          refine ⟨(), { w with heap := w.heap.setIfInBounds rb (.map (l ++ [MapEntry.mk kv xv clock]).toArray (clock + 1)) }, ?_, hK σ _ undef (Ext.refl _) (h.mset hb g1 fun w' hw => ⟨_, _, hw, g4.app (es' := [(k, x)]) (l' := [MapEntry.mk kv xv clock]) ⟨hk, hv, trivial⟩⟩) rfl⟩
          unfold Instr.mapUpdate
          rw [Sem.run_bind, run_underlying ht]
          simp only [Result.andThen_ok]
          rw [Sem.run_bind, mgetObj g3]
          simp only [Result.andThen_ok]
          rw [Sem.run_bind, checkKey_ok hd hko hk]
          simp only [Result.andThen_ok]
          rw [Sem.run_bind, hfk]
          simp only [Result.andThen_ok]
          rw [msetObj _ g3]
          simp
      · rename_i q hko hf
        obtain ⟨j, y⟩ := q
        simp only [Option.some.injEq, Prod.mk.injEq] at hx
        obtain ⟨rfl, rfl⟩ := hx
        obtain ⟨q, e1, e2⟩ := findX_ok hko hk g4 hf
        cases q with
        | none => exact e2.elim
        | some q =>
          obtain ⟨j', v'⟩ := q
          obtain ⟨rfl, _, _, e, e3, e4⟩ := e2
          rw [Nat.sub_zero] at e3
          obtain ⟨e', e5, e6⟩ := g4.get e3
          have hfk := mfindKey (P := P) (w := w) hd e1
          refine ⟨(), { w with heap := w.heap.setIfInBounds rb (.map (l.modify j fun e => { e with key := kv, val := xv }).toArray clock) }, ?_, hK σ _ undef (Ext.refl _) (h.mset hb g1 fun w' hw => ⟨_, _, hw, g4.set hk hv j⟩) rfl⟩
          unfold Instr.mapUpdate
          rw [Sem.run_bind, run_underlying ht]
          simp only [Result.andThen_ok]
          rw [Sem.run_bind, mgetObj g3]
          simp only [Result.andThen_ok]
          rw [Sem.run_bind, checkKey_ok hd hko hk]
          simp only [Result.andThen_ok]
          rw [Sem.run_bind, hfk]
          simp only [Result.andThen_ok]
          have hg : (((l.toArray)[j]?).map (·.key)).getD kv = e'.key := by
            have : l.toArray[j]? = some e' := by simpa using e5
            rw [this]; rfl
          rw [Sem.run_bind, hg]
          have hks : (Instr.keyThatStays e'.key kv).run P w = .ok kv w := by
            unfold Instr.keyThatStays
            rw [if_pos (keyEq_bits e4 hk e6 10000)]
            rfl
          rw [hks]
          simp only [Result.andThen_ok]
          rw [msetObj _ g3]
          simp
      · cases hx
    · cases hx
  · cases hx
def delE (es : List (X × X)) (j : Nat) : List (X × X) := es.eraseIdx j
def dlX (P : Program) (ats : List TypeId) (xs : Option (List X)) (s : St) : Option (X × St) := match ats, xs with
  | t :: _, some (.m (some b) :: k :: _) => (match P.underlying t with
    | some (.map kt _) => (match P.underlying kt, s.mo b with
      | some d, some (.mp es) => (match keyOk d k, findX k es 0 with
        | true, some none => some (undX, s.mput b (some (.mp es)))
        | true, some (some q) => some (undX, s.mput b (some (.mp (es.eraseIdx q.1))))
        | _, _ => none)
      | _, _ => none)
    | _ => none)
  | _, _ => none
theorem EsR.erase : ∀ {es : List (X × X)} {l : List MapEntry} (j : Nat), EsR σ es l → EsR σ (es.eraseIdx j) (l.eraseIdx j)
  | [], [], _, _ => trivial
  | (a, b) :: es, e :: l, 0, ⟨h1, h2, h3⟩ => h3
  | (a, b) :: es, e :: l, j + 1, ⟨h1, h2, h3⟩ => ⟨h1, h2, h3.erase j⟩
  | [], _ :: _, _, h => h.elim
  | _ :: _, [], _, h => h.elim
theorem dlX_ok (h : Wo P base w0 σ s w) {ats : Array TypeId} {ty : TypeId} {xs : Option (List X)} {vs : List Value} {z : X} {s' : St} (hx : dlX P ats.toList xs s = some (z, s')) (hv : ∀ l, xs = some l → vls σ l = some vs)
    {K : Value → World → Prop} (hK : Fin P base w0 σ z s' K) : Bdel P ats ty vs.toArray w K := by
  unfold dlX at hx
  split at hx
  · rename_i t ts b k ks hats
    have hv := hv _ rfl
    obtain ⟨v1, vs1, e1, e2, rfl⟩ := vls_cons hv
    obtain ⟨v2, vs2, e3, e4, rfl⟩ := vls_cons e2
    have hat : ats = (t :: ts).toArray := by rw [← hats]
    subst hat
    split at hx
    · rename_i kt et ht
      split at hx
      · rename_i d es hd hb
        obtain ⟨rb, g1, g2, l, clock, g3, g4⟩ := h.mem.mown b _ hb
        simp only [vl, g1, Option.some.injEq] at e1
        subst e1
        have pre : keyOk d k = true → ∀ q ob, Instr.findNow d v2 l 0 = some q → ob = (match q with
            | some (i, _) => Obj.map (l.toArray.eraseIdxIfInBounds i) clock
            | none => Obj.map l.toArray clock) → (Builtin.delete_ (t :: ts).toArray ty (.map (some rb) :: v2 :: vs2).toArray).run P w = .ok (.tuple #[]) { w with heap := w.heap.setIfInBounds rb ob } := by
          intro hko q ob hq hob
          have hfk := mfindKey (P := P) (w := w) hd hq
          unfold Builtin.delete_
          simp only [List.getElem?_toArray, List.getElem?_cons_zero, List.getElem?_cons_succ]
          rw [Sem.run_bind, run_underlying ht]
          simp only [Result.andThen_ok]
          rw [Sem.run_bind, mgetObj g3]
          simp only [Result.andThen_ok]
          rw [Sem.run_bind, checkKey_ok hd hko e3]
          simp only [Result.andThen_ok]
          rw [Sem.run_bind, hfk]
          simp only [Result.andThen_ok]
          subst hob
          cases q with
          | none =>
            simp only
            rw [Sem.run_bind, msetObj _ g3]
            rfl
          | some q =>
            obtain ⟨i, v⟩ := q
            simp only
            rw [Sem.run_bind, msetObj _ g3]
            rfl
        split at hx
        · rename_i hko hf
          simp only [Option.some.injEq, Prod.mk.injEq] at hx
          obtain ⟨rfl, rfl⟩ := hx
          obtain ⟨q, f1, f2⟩ := findX_ok hko e3 g4 hf
          cases q with
          | some q => exact f2.elim
          | none => exact ⟨_, _, pre hko none _ f1 rfl, hK σ _ undef (Ext.refl _) (h.mset hb g1 fun w' hw => ⟨_, _, hw, g4⟩) rfl⟩
        · rename_i q hko hf
          obtain ⟨j, y⟩ := q
          simp only [Option.some.injEq, Prod.mk.injEq] at hx
          obtain ⟨rfl, rfl⟩ := hx
          obtain ⟨q, f1, f2⟩ := findX_ok hko e3 g4 hf
          cases q with
          | none => exact f2.elim
          | some q =>
            obtain ⟨j', v'⟩ := q
            obtain ⟨rfl, _⟩ := f2
            refine ⟨_, _, pre hko (some (j, v')) _ f1 rfl, hK σ _ undef (Ext.refl _) (h.mset hb g1 fun w' hw => ⟨l.eraseIdx j, clock, ?_, g4.erase j⟩) rfl⟩
            rw [hw]
            show some (Obj.map (l.toArray.eraseIdxIfInBounds j) clock) = _
            congr 2
            unfold Array.eraseIdxIfInBounds
            split
            · simp
            · rename_i hn
              rw [List.eraseIdx_of_length_le (by simpa using hn)]
        · cases hx
      · cases hx
    · cases hx
  · cases hx
/-! ### Iterators of strings -/
def rgX (P : Program) (t : TypeId) (x : Option X) (s : St) : Option (X × St) := match P.underlying t, x with
  | some .string, some (.s l) => some (.p (some (s.n, 0)), s.mnew (.it l 0))
  | _, _ => none
theorem rgX_ok (h : Wo P base w0 σ s w) {t : TypeId} {x : Option X} {v : Value} {z : X} {s' : St} (hx : rgX P t x s = some (z, s')) (hv : ∀ a, x = some a → vl σ a = some v) {K : Value → World → Prop} (hK : Fin P base w0 σ z s' K) : Rg P t v w K := by
  unfold rgX at hx
  split at hx
  · rename_i l ht
    have hv := hv _ rfl
    simp only [vl, Option.some.injEq] at hv
    subst hv
    simp only [Option.some.injEq, Prod.mk.injEq] at hx
    obtain ⟨rfl, rfl⟩ := hx
    obtain ⟨σ', k1, k2, k3⟩ := h.mnew (o := .it l 0) (ob := .stringIter (str l) 0) fun w' hw => hw
    refine ⟨_, _, run_range_string w t _ ht, hK σ' _ _ k1 k2 ?_⟩
    simp only [vl, k3]
  · cases hx
/-- A rune, where one begins. -/
def dcX (l : List Nat) (p : Nat) : Nat × Nat := match l[p]? with
  | some c => (match Nat.blt (c % 256) 128 with
    | true => (c % 256, 1)
    | false => Utf8.decode (str l) p)
  | none => Utf8.decode (str l) p
theorem dcX_eq (l : List Nat) (p : Nat) : dcX l p = Utf8.decode (str l) p := by
  unfold dcX
  split
  · rename_i c hc
    split
    · rename_i hb
      have hb := Nat.le_of_ble_eq_true hb
      have hp : p < l.length := (List.getElem?_eq_some_iff.1 hc).1
      have h0 : ((str l).get! (p + 0)).toNat = c % 256 := by
        have h1 : (str l).data.toList = l.map UInt8.ofNat := by simp [str]
        have h2 : (str l).get! (p + 0) = (str l).data[p]! := rfl
        have h3 : (str l).data[p]! = UInt8.ofNat c := by
          have h4 : (str l).data[p]? = some (UInt8.ofNat c) := by
            rw [← Array.getElem?_toList, h1, List.getElem?_map, hc]; rfl
          rw [getElem!_def, h4]
        rw [h2, h3]
        simp
      unfold Utf8.decode
      simp only [h0]
      rw [if_pos (by omega)]
    · rfl
  · rfl
def nxX (isS : Bool) (x : Option X) (s : St) : Option (X × St) := match isS, x with
  | true, some (.p (some (b, 0))) => (match s.mo b with
    | some (.it l p) => (match Nat.blt p l.length with
      | true => (match dcX l p with
        | (c, k) => some (.t [.b true, .i .i64 (p : Int), .i .i32 (c : Int)], s.mput b (some (.it l (p + k)))))
      | false => some (.t [.b false], s))
    | _ => none)
  | _, _ => none
theorem nxX_ok (h : Wo P base w0 σ s w) {t : TypeId} {isS : Bool} {x : Option X} {v : Value} {z : X} {s' : St} (hx : nxX isS x s = some (z, s')) (hv : ∀ a, x = some a → vl σ a = some v) {K : Value → World → Prop} (hK : Fin P base w0 σ z s' K) : Nx P v isS t w K := by
  unfold nxX at hx
  split at hx
  · rename_i b
    have hv := hv _ rfl
    split at hx
    · rename_i l p hb
      obtain ⟨rb, g1, g2, g3⟩ := h.mem.mown b _ hb
      replace g3 : w.heap[rb]? = some (.stringIter (str l) p) := g3
      simp only [vl, g1, Option.some.injEq] at hv
      subst hv
      split at hx
      · rename_i hlt
        have hlt := Nat.le_of_ble_eq_true hlt
        have hd := dcX_eq l p
        generalize dcX l p = q at hx hd
        obtain ⟨c, k⟩ := q
        simp only [Option.some.injEq, Prod.mk.injEq] at hx
        obtain ⟨rfl, rfl⟩ := hx
        have hrun := Lib.run_next_any_at (P := P) w rb (str l) p t g3 (by rw [str_size]; omega)
        rw [← hd] at hrun
        have hw := h.mset (o' := .it l (p + k)) (ob := .stringIter (str l) (p + k)) hb g1 fun w' hw => hw
        refine ⟨_, _, hrun, hK σ _ _ (Ext.refl _) hw ?_⟩
        simp only [vl, vls]
      · rename_i hlt
        simp only [Option.some.injEq, Prod.mk.injEq] at hx
        obtain ⟨rfl, rfl⟩ := hx
        have hlt : ¬ p < (str l).size := by
          rw [str_size]
          intro e
          have : Nat.blt p l.length = true := Nat.ble_eq_true_of_le e
          rw [this] at hlt; cases hlt
        refine ⟨_, _, Lib.run_next_end_at (P := P) w rb (str l) p t g3 hlt, hK σ w _ (Ext.refl _) h ?_⟩
        simp only [vl, vls]
    · cases hx
  · cases hx
end
end Go.Ev
