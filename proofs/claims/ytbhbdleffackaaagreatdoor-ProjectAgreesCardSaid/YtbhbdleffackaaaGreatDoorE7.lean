/- A verified evaluator for closed calls, seventh part: operations with effects. No program in sight. -/
import Derived.Test.YtbhbdleffackaaaGreatDoorF3
import Derived.Great.BuildSlice
set_option linter.unusedVariables false
set_option linter.unusedSimpArgs false
namespace Go.Ev
open Go Go.Vc
noncomputable section
variable {P : Program} {base : Bs} {w0 : World} {σ : Sg} {s : St} {w w' : World} {ρ : T X} {r : Env}
/-- What a way to call is good for. -/
def CallOk (P : Program) (base : Bs) (w0 : World) (call : FuncId → List X → St → Option (X × St)) : Prop :=
  ∀ f xs s x s', call f xs s = some (x, s') → ∀ σ w vs, Wo P base w0 σ s w → vls σ xs = some vs → ∀ K, Fin P base w0 σ x s' K → isExt P f = false ∧ Cl P f vs.toArray w K
def repL {α : Type} : Nat → List α → List α
  | 0, _ => []
  | n + 1, l => l ++ repL n l
theorem repL_len {α : Type} (l : List α) : ∀ n, (repL n l).length = n * l.length
  | 0 => by simp [repL]
  | n + 1 => by rw [repL, List.length_append, repL_len l n, Nat.add_mul, Nat.one_mul]; omega
theorem repL_get {α : Type} (l : List α) : ∀ (n j : Nat), j < n * l.length → (repL n l)[j]? = l[j % l.length]?
  | 0, j, h => by omega
  | n + 1, j, h => by
    rw [repL]
    rcases Nat.lt_or_ge j l.length with h1 | h1
    · rw [List.getElem?_append_left h1, Nat.mod_eq_of_lt h1]
    · rw [List.getElem?_append_right h1, repL_get l n _ (by rw [Nat.add_mul] at h; omega), Nat.mod_eq_sub_mod h1]
theorem repL_made (z : Array Value) (n : Nat) (hz : 0 < z.size) : (Array.range (n * z.size)).map (fun i => z[i % z.size]!) = (repL n z.toList).toArray := by
  apply Array.ext'
  apply List.ext_getElem?
  intro j
  rw [Array.toList_map, Array.toList_range, List.getElem?_map]
  rcases Nat.lt_or_ge j (n * z.size) with h | h
  · rw [List.getElem?_range h]
    have h1 : j < n * z.toList.length := by simpa using h
    show _ = (repL n z.toList)[j]?
    rw [repL_get _ _ _ h1]
    have h2 : j % z.size < z.size := Nat.mod_lt _ hz
    simp [h2]
  · rw [List.getElem?_eq_none (by simpa using h)]
    have : (repL n z.toList).length ≤ j := by rw [repL_len]; simpa using h
    show _ = (repL n z.toList)[j]?
    rw [List.getElem?_eq_none this]
    rfl
theorem vls_rep {xs : List X} {vs : List Value} (h : vls σ xs = some vs) : ∀ n, vls σ (repL n xs) = some (repL n vs)
  | 0 => rfl
  | n + 1 => vls_app h (vls_rep h n)
/-- A block, put in. -/
theorem Wo.new (h : Wo P base w0 σ s w) {e : TypeId} {cs : List X} {vs : List Value} (hv : vls σ cs = some vs) (hf : flatXs cs = true) : ∃ σ', Ext σ σ' ∧ Wo P base w0 σ' (s.new (e, cs)) (w.alloc (.cells vs.toArray e)) ∧ σ' s.n = some (w.heap.size, 0, 0) := by
  obtain ⟨g1, g2, g3⟩ := h.mem.alloc h.fresh h.fram (e := e) (sp := []) (k := 0) hv (by simp) (flatXs_sg hf hv) (fun _ => rfl)
  rw [List.append_nil] at g1
  exact ⟨_, g2, ⟨g1, g3, h.fram.alloc _⟩, sgPut_same _ _ _⟩
def stoA (s : St) (a : Nat × Nat) (cb : Blk) (n : Nat) (x : X) : Option (X × St) := match x with
  | .g xs => (match Nat.beq xs.length n, Nat.ble (a.2 + xs.length) cb.2.length, flatXs xs with
    | true, true, true => some (undX, s.put a.1 (some (cb.1, setLX cb.2 a.2 xs)))
    | _, _, _ => none)
  | _ => none
def stoO (s : St) (a : Nat × Nat) (cb : Blk) (n : Nat) (x : X) : Option (X × St) := match Nat.beq n 1, Nat.ble (a.2 + 1) cb.2.length, flatX x with
  | true, true, true => some (undX, s.put a.1 (some (cb.1, setLX cb.2 a.2 [x])))
  | _, _, _ => none
def stoX (P : Program) (s : St) (t : TypeId) (a : Option (Nat × Nat)) (x : Option X) : Option (X × St) := match a, x with
  | some a, some x => (match s.blk a.1 with
    | some cb => (match P.underlying t, P.info? t with
      | some (.struct _), some i | some (.array _ _), some i => stoA s a cb i.size x
      | some _, some i => stoO s a cb i.size x
      | _, _ => none)
    | none => none)
  | _, _ => none
def bs0 (P : Program) (t : TypeId) (s : St) : Option (X × St) := match elemX P t with
  | some q => some (.l (some (s.n, 0)) 0 0, s.new (q.1, []))
  | none => none
def bsX (P : Program) (t : TypeId) (n : Nat) (ps : List (Nat × X)) (s : St) : Option (X × St) := match elemX P t with
  | some q => (match zeroX P q.1, Nat.ble (n * q.2.1) 16777216, Nat.blt 0 n with
    | some z, true, true => (match xfill (fun i => some (i * q.2.1, q.2.1)) (repL n z) ps with
      | some cs => (match flatXs cs with
        | true => some (.l (some (s.n, 0)) n n, s.new (q.1, cs))
        | false => none)
      | none => none)
    | _, _, _ => none)
  | none => none
def msX (P : Program) (t : TypeId) (l c : Option X) (s : St) : Option (X × St) := match elemX P t, l, c with
  | some q, some (.i _ (.ofNat l)), some (.i _ (.ofNat c)) => (match zeroX P q.1, Nat.ble l c, Nat.ble (q.2.2 * c) 281474976710656, Nat.ble c 9223372036854775807 with
    | some z, true, true, true => (match flatXs (repL c z) with
      | true => some (.l (some (s.n, 0)) l c, s.new (q.1, repL c z))
      | false => none)
    | _, _, _, _ => none)
  | _, _, _ => none
def newX (t : TypeId) (cs : Option (List X)) (s : St) : Option (X × St) := match cs with
  | some cs => (match flatXs cs with
    | true => some (.p (some (s.n, 0)), s.new (t, cs))
    | false => none)
  | none => none
def eBs (P : Program) (t : TypeId) (s : St) : Nat → Option (List (Nat × X)) → Option (X × St)
  | 0, some [] => bs0 P t s
  | n, some xs => bsX P t n xs s
  | _, none => none
/-- clear(s), of a slice. -/
def clrX (P : Program) (ats : List TypeId) (xs : Option (List X)) (s : St) : Option (X × St) := match ats, xs with
  | [t], some [.l none _ _] => (match P.underlying t with
    | some (.slice _) => some (.t [], s)
    | _ => none)
  | [t], some [.e0 _ _ _] => (match P.underlying t with
    | some (.slice _) => some (.t [], s)
    | _ => none)
  | [t], some [.l (some a) n _] => (match elemX P t, s.blk a.1 with
    | some q, some cb => (match zeroX P q.1, Nat.ble (a.2 + n * q.2.1) cb.2.length, Nat.blt 0 n with
      | some z, true, true => (match flatXs (repL n z) with
        | true => some (.t [], s.put a.1 (some (cb.1, setLX cb.2 a.2 (repL n z))))
        | false => none)
      | _, true, false => some (.t [], s)
      | _, _, _ => none)
    | _, _ => none)
  | _, _ => none
theorem clrX_ok (h : Wo P base w0 σ s w) {ats : Array TypeId} {ty : TypeId} {xs : Option (List X)} {vs : List Value} {z : X} {s' : St} (hx : clrX P ats.toList xs s = some (z, s')) (hv : ∀ l, xs = some l → vls σ l = some vs)
    {K : Value → World → Prop} (hK : Fin P base w0 σ z s' K) : Bclr P ats ty vs.toArray w K := by
  have hat : ∀ {t : TypeId}, ats.toList = [t] → ats = #[t] := fun {t} e => by
    obtain ⟨l⟩ := ats
    simp only at e
    rw [e]
  have hone : ∀ {x : X}, xs = some [x] → ∃ v, vl σ x = some v ∧ vs = [v] := fun {x} e => by
    obtain ⟨v1, vs1, e1, e2, rfl⟩ := vls_cons (hv _ e)
    simp only [vls, Option.some.injEq] at e2
    subst e2
    exact ⟨v1, e1, rfl⟩
  unfold clrX at hx
  split at hx
  · rename_i t n c hats
    obtain rfl := hat hats
    obtain ⟨v, e1, rfl⟩ := hone rfl
    simp only [vl, Option.some.injEq] at e1
    subst e1
    split at hx
    · rename_i e ht
      simp only [Option.some.injEq, Prod.mk.injEq] at hx
      obtain ⟨rfl, rfl⟩ := hx
      exact ⟨_, w, by simp [Builtin.clear_, run_underlying ht], hK σ w _ (Ext.refl _) h rfl⟩
    · cases hx
  · rename_i t b o q hats
    obtain rfl := hat hats
    obtain ⟨v, e1, rfl⟩ := hone rfl
    obtain ⟨p, m, rfl⟩ := vl_es e1
    split at hx
    · rename_i e ht
      simp only [Option.some.injEq, Prod.mk.injEq] at hx
      obtain ⟨rfl, rfl⟩ := hx
      exact ⟨_, w, by simp [Builtin.clear_, run_underlying ht], hK σ w _ (Ext.refl _) h rfl⟩
    · cases hx
  · rename_i t a n c hats
    obtain rfl := hat hats
    obtain ⟨v, e1, rfl⟩ := hone rfl
    split at hx
    · rename_i q cb hq hb
      obtain ⟨e, k, b⟩ := q
      obtain ⟨be, cs⟩ := cb
      obtain ⟨i, zv, hu, hi, hz, hzk, hik, hib, hk0, hsz⟩ := elemX_ok hq
      obtain ⟨rb, off, kk, pre, us, sp, post, g⟩ := h.mem.own a.1 be cs hb
      simp only [vl, g.sg_, Option.some.injEq] at e1
      subst e1
      split at hx
      · rename_i zc hzc h1 h2
        split at hx
        · rename_i hf
          simp only [Option.some.injEq, Prod.mk.injEq] at hx
          obtain ⟨rfl, rfl⟩ := hx
          obtain ⟨i', z', f1, f2, f3⟩ := zeroX_spec (σ := σ) hzc
          simp only at f1
          rw [hi] at f1
          cases f1
          rw [hz] at f2
          cases f2
          have h1 := Nat.le_of_ble_eq_true h1
          have h2 := Nat.le_of_ble_eq_true h2
          have hl3 := vls_len f3
          have hzl : zv.cells.toList.length = k := by simpa using hzk
          have hlen : (repL n zc).length = n * k := by rw [repL_len, hl3, hzl]
          obtain ⟨hw, hc⟩ := h.write hb (vls_rep f3 n) (flatXs_sg hf (vls_rep f3 n)) (by rw [hlen]; exact h1) g.sg_
          have hm : (Builtin.zeroCells zv.cells n).toList = repL n zv.cells.toList := by
            unfold Builtin.zeroCells
            rw [repL_made zv.cells n (by omega)]
          have hset : ∀ (vs : List Value) (w : World) (j : Nat), setCells w ⟨rb, off + a.2, none⟩ vs j = w.setCells rb (off + a.2 + j) vs := by
            intro vs
            induction vs with
            | nil => intro w j; rfl
            | cons v r ih =>
              intro w j
              show setCells (w.setCell ((⟨rb, off + a.2, none⟩ : Addr).add j) v) _ r (j + 1) = _
              rw [add_off, ih]
              rfl
          have hst := Vc.run_storeCells (P := P) (a := ⟨rb, off + a.2, none⟩) (repL n zv.cells.toList) 0 w (fun j hj => by rw [add_off, Nat.zero_add]; exact hc j hj) (flatXs_sg hf (vls_rep f3 n))
          rw [hset] at hst
          obtain ⟨n, rfl⟩ : ∃ m, n = m + 1 := ⟨n - 1, by omega⟩
          refine ⟨.tuple #[], _, ?_, hK σ _ _ (Ext.refl _) hw rfl⟩
          simp [Builtin.clear_, run_underlying hu, zeroValue, typeInfo, hi, hz, hm, hst]
        · cases hx
      · rename_i h1 h2
        simp only [Option.some.injEq, Prod.mk.injEq] at hx
        obtain ⟨rfl, rfl⟩ := hx
        have h3 : n = 0 := by
          cases n with
          | zero => rfl
          | succ n => rw [Nat.ble_eq_true_of_le (show 0 + 1 ≤ n + 1 by omega) |> fun e => (show Nat.blt 0 (n + 1) = true from e)] at h2; cases h2
        subst h3
        exact ⟨_, w, by simp [Builtin.clear_, run_underlying hu], hK σ w _ (Ext.refl _) h rfl⟩
      · cases hx
    · cases hx
  · cases hx
/-- A call of a function, with a body or without. -/
def eFn (P : Program) (call : FuncId → List X → St → Option (X × St)) (f : FuncId) (s : St) (xs : Option (List X)) : Option (X × St) := match extK P f with
  | some k => extX P s (some k) xs
  | none => (match xs with
    | some xs => call f xs s
    | none => none)
def eUsd (s : St) : Option X → Option (X × St)
  | some x => some (x, s)
  | none => none
def eCv (P : Program) (st : Bool) (q d : TypeId) (x : Option X) (s : St) : Option (X × St) := match st with
  | false => sbX P q d x s
  | true => none
/-- A call of a function value. -/
def eVl (call : FuncId → List X → St → Option (X × St)) (s : St) : Option X → Option (List X) → Option (X × St)
  | some (.f (.func g) a c), some xs => call g (a ++ xs ++ c) s
  | _, _ => none
/-- A call of a method by its name. -/
def eIv (P : Program) (call : FuncId → List X → St → Option (X × St)) (s : St) (name : String) : Option X → Option (List X) → Option (X × St)
  | some (.fc t x), some xs => (match methX P t name with
    | some g => call g (x :: xs) s
    | none => none)
  | _, _ => none
/-- An operation with an effect. -/
def xeff (P : Program) (st : Bool) (call : FuncId → List X → St → Option (X × St)) (ρ : T X) (s : St) (o : Oper) : Option (X × St) := match o.op with
  | .store t a x => stoX P s t (pX (evX ρ a)) (evX ρ x)
  | .alloc t => newX t (zeroX P t) s
  | .box t x => (match evX ρ x with
    | some x => newX t (some (cellsX x)) s
    | none => none)
  | .buildSlice t n ps => eBs P t s n (xparts ρ ps.toList)
  | .makeMap t r => mmX0 P t (r.map (evX ρ)) s
  | .convert q d x => eCv P st q d (evX ρ x) s
  | .mapUpdate t m k x => muX P t (evX ρ m) (evX ρ k) (evX ρ x) s
  | .insert t m k x => muX P t (evX ρ m) (evX ρ k) (evX ρ x) s
  | .range t x => rgX P t (evX ρ x) s
  | .next x isS => nxX isS (evX ρ x) s
  | .makeSlice t l c => msX P t (evX ρ l) (evX ρ c) s
  | .call c => (match c.callee, xargs ρ c.args.toList with
    | .value (.func f), xs => eFn P call f s xs
    | .value f, xs => eVl call s (evX ρ f) xs
    | .invoke q name, xs => eIv P call s name (evX ρ q) xs
    | .builtin .clear, xs => clrX P c.argTypes.toList xs s
    | .builtin .delete, xs => dlX P c.argTypes.toList xs s
    | .builtin .copy, xs => cpyZ P c.argTypes.toList xs s
    | .builtin .unsafeSliceData, xs => eUsd s (usdX xs)
    | .builtin .unsafeString, xs => ustX P c.argTypes.toList xs s
    | .builtin .append, some [x, y] => (match c.argTypes with
      | ⟨[t, tx]⟩ => appX P t tx x y s
      | _ => none)
    | _, _ => none)
  | _ => none
theorem xeff_ok {call : FuncId → List X → St → Option (X × St)} (hcall : CallOk P base w0 call) (h : Wo P base w0 σ s w) (hE : EnvR σ ρ r) {o : Oper} {x : X} {s' : St} (st : Bool) (hx : xeff P st call ρ s o = some (x, s')) {K : Value → World → Prop}
    (hK : Fin P base w0 σ x s' K) : vcOp P st r.ev o w K := by
  unfold xeff at hx
  unfold vcOp
  cases ho : o.op with
  | store t a y =>
    simp only [ho] at hx ⊢
    unfold stoX at hx
    split at hx
    · rename_i p z ha hz
      obtain ⟨q, h1, h2⟩ := pX_ok hE ha
      have hzv := evX_spec hE hz
      split at hx
      · rename_i cb hb
        obtain ⟨be, cs⟩ := cb
        have aggr : ∀ {i : TypeInfo}, stoA s p (be, cs) i.size z = some (x, s') → StA i.size (r.ev a) (r.ev y) w fun w' => K undef w' := by
          clear hx
          intro i hx
          unfold stoA at hx
          split at hx
          · rename_i xs
            split at hx
            · rename_i e1 e2 e3
              simp only [Option.some.injEq, Prod.mk.injEq] at hx
              obtain ⟨rfl, rfl⟩ := hx
              simp only [vl] at hzv
              cases hv : vls σ xs with
              | none => rw [hv] at hzv; cases hzv
              | some vs =>
                rw [hv] at hzv
                have hl := vls_len hv
                have e1 := Nat.eq_of_beq_eq_true e1
                have e2 := Nat.le_of_ble_eq_true e2
                obtain ⟨hw, hc⟩ := h.write hb hv (flatXs_sg e3 hv) e2 h1
                rw [h2, ← Option.some.inj hzv]
                refine ⟨_, vs.toArray, rfl, rfl, by simpa using (hl.symm.trans e1), fun j hj => ?_, ?_, ?_⟩
                · rw [add_off]
                  exact hc j (by omega)
                · simpa using flatXs_sg e3 hv
                · have hs : setCells w ⟨q.1, q.2.1 + p.2, none⟩ vs.toArray.toList 0 = w.setCells q.1 (q.2.1 + p.2) vs := by
                    have : ∀ (vs : List Value) (w : World) (k : Nat), setCells w ⟨q.1, q.2.1 + p.2, none⟩ vs k = w.setCells q.1 (q.2.1 + p.2 + k) vs := by
                      intro vs
                      induction vs with
                      | nil => intro w k; rfl
                      | cons v r ih =>
                        intro w k
                        show setCells (w.setCell ((⟨q.1, q.2.1 + p.2, none⟩ : Addr).add k) v) _ r (k + 1) = _
                        rw [add_off, ih]
                        rfl
                    exact this vs w 0
                  rw [hs]
                  exact hK σ _ undef (Ext.refl _) hw rfl
            · cases hx
          · cases hx
        have one : ∀ {i : TypeInfo}, stoO s p (be, cs) i.size z = some (x, s') → Nat.beq i.size 1 = true ∧ Vc.St (r.ev a) (r.ev y) w fun w' => K undef w' := by
          clear hx
          intro i hx
          unfold stoO at hx
          split at hx
          · rename_i e1 e2 e3
            simp only [Option.some.injEq, Prod.mk.injEq] at hx
            obtain ⟨rfl, rfl⟩ := hx
            have e2 := Nat.le_of_ble_eq_true e2
            have hsg := flatX_sg e3 hzv
            obtain ⟨hw, hc⟩ := h.write (xs := [z]) hb (vls_mk hzv rfl) (by rw [List.all_cons, hsg]; rfl) (by simpa using e2) h1
            obtain ⟨c1, c2⟩ := hc 0 (by simp)
            rw [Nat.add_zero] at c1 c2
            obtain ⟨u, hu⟩ := Option.isSome_iff_exists.1 c1
            refine ⟨e1, _, u, h2, hu, c2, hsg, ?_⟩
            exact hK σ _ undef (Ext.refl _) hw rfl
          · cases hx
        cases hu : P.underlying t with
        | none => rw [hu] at hx; cases hx
        | some d =>
          cases hi : P.info? t with
          | none => rw [hu, hi] at hx; cases d <;> cases hx
          | some i =>
            rw [hu, hi] at hx
            cases d with
            | struct fs => exact aggr hx
            | array n e => exact aggr hx
            | _ =>
              obtain ⟨g1, g2⟩ := one (i := i) hx
              simp only [g1]
              exact g2
      · cases hx
    · cases hx
  | alloc t =>
    simp only [ho] at hx ⊢
    unfold newX at hx
    split at hx
    · rename_i cs hz
      split at hx
      · rename_i hf
        simp only [Option.some.injEq, Prod.mk.injEq] at hx
        obtain ⟨rfl, rfl⟩ := hx
        obtain ⟨i, z, h1, h2, h3⟩ := zeroX_spec (σ := σ) hz
        have hh : hasZ P t = true := by unfold hasZ; rw [h1]; simp [h2]
        have hp : zeroP P t = z := by unfold zeroP; rw [h1]; simp [h2]
        rw [hh, hp]
        obtain ⟨σ', g1, g2, g3⟩ := h.new (e := t) h3 hf
        refine hK σ' _ _ g1 ?_ ?_
        · exact g2
        · simp only [vl, g3]
      · cases hx
    · cases hx
  | box t y =>
    simp only [ho] at hx ⊢
    split at hx
    · rename_i z hz
      unfold newX at hx
      simp only at hx
      split at hx
      · rename_i hf
        simp only [Option.some.injEq, Prod.mk.injEq] at hx
        obtain ⟨rfl, rfl⟩ := hx
        obtain ⟨σ', g1, g2, g3⟩ := h.new (e := t) (cellsX_spec (evX_spec hE hz)) hf
        refine hK σ' _ _ g1 ?_ ?_
        · exact g2
        · simp only [vl, g3]
      · cases hx
    · cases hx
  | makeMap t q =>
    simp only [ho] at hx ⊢
    refine mmX0_ok h hx ?_ hK
    cases q with
    | none => trivial
    | some q =>
      show RqX σ (some (evX ρ q)) (some (r.ev q))
      cases hq : evX ρ q with
      | none => trivial
      | some a => exact evX_spec hE hq
  | convert q d y =>
    simp only [ho] at hx ⊢
    unfold eCv at hx
    cases st with
    | true => cases hx
    | false =>
      have key := sbX_ok h hx (fun a ha => evX_spec hE ha) hK
      obtain ⟨e, hq, hd⟩ := sbX_ty hx
      simp only [hq, hd]
      exact key
  | mapUpdate t m k y => simp only [ho] at hx ⊢; exact muX_ok h hx (fun a ha => evX_spec hE ha) (fun a ha => evX_spec hE ha) (fun a ha => evX_spec hE ha) hK
  | insert t m k y => simp only [ho] at hx ⊢; exact muX_ok h hx (fun a ha => evX_spec hE ha) (fun a ha => evX_spec hE ha) (fun a ha => evX_spec hE ha) hK
  | range t y => simp only [ho] at hx ⊢; exact rgX_ok h hx (fun a ha => evX_spec hE ha) hK
  | next y q => simp only [ho] at hx ⊢; exact nxX_ok h hx (fun a ha => evX_spec hE ha) hK
  | buildSlice t n ps =>
    simp only [ho] at hx ⊢
    unfold eBs at hx
    split at hx
    · rename_i hxs
      unfold bs0 at hx
      split at hx
      · rename_i q hq
        obtain ⟨e, k, b⟩ := q
        obtain ⟨i, z, hu, hi, hz, hzk, hik, hib, hk0, hsz⟩ := elemX_ok hq
        simp only [Option.some.injEq, Prod.mk.injEq] at hx
        obtain ⟨rfl, rfl⟩ := hx
        have hb : bmap r.ev ps = #[] := by
          have := xparts_spec hE hxs
          simp only [pvl, Option.some.injEq] at this
          unfold bmap
          rw [← this]
        obtain ⟨σ', k1, k2, k3⟩ := h.new (e := e) (cs := []) (vs := []) rfl rfl
        refine ⟨.slice (some ⟨w.heap.size, 0, none⟩) 0 0, w.alloc (.cells #[] e), ?_, hK σ' _ _ k1 k2 ?_⟩
        · rw [hb]
          have e0 : (Array.range 0).map (fun _ => (default : Value)) = #[] := by apply Array.ext'; simp
          simp [Instr.buildSlice, run_underlying hu, run_sz hi, Instr.fill, newRow]
          rw [e0]
        · simp only [vl, k3]
      · cases hx
    · rename_i n _ _ xs hneg hxs
      unfold bsX at hx
      split at hx
      · rename_i q hq
        obtain ⟨e, k, b⟩ := q
        obtain ⟨i, z, hu, hi, hz, hzk, hik, hib, hk0, hsz⟩ := elemX_ok hq
        split at hx
        · rename_i zc hzc h16 hn
          split at hx
          · rename_i cs hfill
            split at hx
            · rename_i hf
              simp only [Option.some.injEq, Prod.mk.injEq] at hx
              obtain ⟨rfl, rfl⟩ := hx
              obtain ⟨i', z', f1, f2, f3⟩ := zeroX_spec (σ := σ) hzc
              simp only at f1
              rw [hi] at f1
              cases f1
              rw [hz] at f2
              cases f2
              have h16 := Nat.le_of_ble_eq_true h16
              have hn := Nat.le_of_ble_eq_true hn
              subst hik
              obtain ⟨vs', g1, g2⟩ := xfill_spec hfill (vls_rep f3 n) (xparts_spec hE hxs)
              have hrun := run_buildSlice (P := P) w t e n (bmap r.ev ps) vs'.toArray i z hu hi hz (by simp only at h16; omega) (by
                have : 1 * 1 ≤ n * i.size := Nat.mul_le_mul hn hk0
                omega) (by
                have hm := repL_made z.cells n (by omega)
                rw [hzk] at hm
                rw [hzk, hm]
                exact g1)
              obtain ⟨σ', k1, k2, k3⟩ := h.new (e := e) g2 hf
              refine ⟨_, _, hrun, hK σ' _ _ k1 k2 ?_⟩
              simp only [vl, k3]
              rfl
            · cases hx
          · cases hx
        · cases hx
      · cases hx
    · cases hx
  | makeSlice t l c =>
    simp only [ho] at hx ⊢
    unfold msX at hx
    split at hx
    · rename_i q kl l' kc c' hq hl hc
      obtain ⟨e, k, b⟩ := q
      obtain ⟨i, z, hu, hi, hz, hzk, hik, hib, hk0, hsz⟩ := elemX_ok hq
      split at hx
      · rename_i zc hzc h1 h2 h3
        split at hx
        · rename_i hf
          simp only [Option.some.injEq, Prod.mk.injEq] at hx
          obtain ⟨rfl, rfl⟩ := hx
          obtain ⟨i', z', f1, f2, f3⟩ := zeroX_spec (σ := σ) hzc
          simp only at f1
          rw [hi] at f1
          cases f1
          rw [hz] at f2
          cases f2
          have e1 := evX_spec hE hl
          have e2 := evX_spec hE hc
          simp only [vl, Option.some.injEq] at e1 e2
          have h1 := Nat.le_of_ble_eq_true h1
          have h2 := Nat.le_of_ble_eq_true h2
          have h3 := Nat.le_of_ble_eq_true h3
          rw [← e1, ← e2]
          have hrun := run_make (P := P) w t e i z hu hi hz kl kc (l' : Int) (c' : Int) (by omega) (by omega) (by
            simp only at h2
            have : ((i.bytes * c' : Nat) : Int) ≤ 281474976710656 := by rw [hib]; omega
            simpa using this) (by omega)
          have hm : madeCells z.cells ((c' : Int).toNat * i.size) = (repL c' z.cells.toList).toArray := by
            have := repL_made z.cells c' (by omega)
            unfold madeCells
            rw [Int.toNat_natCast, hik, ← hzk]
            exact this
          rw [hm] at hrun
          obtain ⟨σ', k1, k2, k3⟩ := h.new (e := e) (vls_rep f3 c') hf
          refine ⟨_, _, hrun, hK σ' _ _ k1 k2 ?_⟩
          simp only [vl, k3]
          rfl
        · cases hx
      · cases hx
    · cases hx
  | call c =>
    simp only [ho] at hx ⊢
    split at hx
    · rename_i f hc
      simp only [hc]
      unfold eFn at hx
      split at hx
      · rename_i k hk
        rw [← hk] at hx
        obtain ⟨g1, g2⟩ := extX_ok h hx (fun l hl => xargs_spec hE hl) hK
        rw [g1]
        exact g2
      · split at hx
        · rename_i xs hxs
          obtain ⟨g1, g2⟩ := hcall f xs s x s' hx σ w _ h (xargs_spec hE hxs) K hK
          rw [g1]
          exact g2
        · cases hx
    · rename_i f hnf hc
      unfold eVl at hx
      split at hx
      · rename_i g a q xs hf hxs
        obtain ⟨us, vs, e1, e2, e3⟩ := vl_fs (evX_spec hE hf)
        obtain ⟨_, g2⟩ := hcall g _ s x s' hx σ w _ h (vls_app (vls_app e2 (xargs_spec hE hxs)) e3) K hK
        have key : Inv P (do let d ← Deferred.ofValue (r.ev f) (amap r.ev c.args); invoke d.target d.args) w K := by
          refine ⟨g, _, ?_, g2.2⟩
          rw [e1]
          have := g2.1
          simp only [Deferred.ofValue, Sem.run_bind, Sem.run_pure, Result.andThen_ok, invoke]
          unfold amap
          simpa using this
        cases f with
        | func f => exact (hnf f rfl).elim
        | _ => simp only [hc]; exact key
      · cases hx
    · rename_i q name hc
      unfold eIv at hx
      split at hx
      · rename_i t y xs hq hxs
        split at hx
        · rename_i g hg
          obtain ⟨v, e1, e2⟩ := vl_fcs (evX_spec hE hq)
          obtain ⟨_, g2⟩ := hcall g _ s x s' hx σ w _ h (vls_mk e2 (xargs_spec hE hxs)) K hK
          simp only [hc]
          refine ⟨g, _, ?_, g2.2⟩
          rw [e1]
          have := g2.1
          simp only [invoke]
          have hz : (#[Value.iface t v] ++ amap r.ev c.args)[0]? = some (.iface t v) := by unfold amap; simp
          rw [hz]
          simp only [callMethod, Sem.run_bind, run_program, Result.andThen_ok]
          rw [show P.types.size + Made.depth = (P.types.size + (Made.depth - 1)) + 1 from rfl, methX_ok hg]
          simp only [Result.andThen_ok]
          unfold amap
          simpa using this
        · cases hx
      · cases hx
    · rename_i hc
      simp only [hc]
      exact clrX_ok h hx (fun l hl => xargs_spec hE hl) hK
    · rename_i hc
      simp only [hc]
      refine dlX_ok h hx (fun l hl => ?_) hK
      exact xargs_spec hE hl
    · rename_i hc
      simp only [hc]
      exact cpyZ_ok h hx (fun l hl => xargs_spec hE hl) hK
    · rename_i hc
      simp only [hc]
      unfold eUsd at hx
      split at hx
      · rename_i z hz
        simp only [Option.some.injEq, Prod.mk.injEq] at hx
        obtain ⟨rfl, rfl⟩ := hx
        exact usdX_ok hz (fun l hl => xargs_spec hE hl) fun v hv => hK σ w v (Ext.refl _) h hv
      · cases hx
    · rename_i hc
      simp only [hc]
      exact ustX_ok h hx (fun l hl => xargs_spec hE hl) hK
    · rename_i y z hc hxs
      simp only [hc]
      obtain ⟨v1, vs1, e1, e2, e3⟩ := vls_cons (xargs_spec hE hxs)
      obtain ⟨v2, vs2, e4, e5, rfl⟩ := vls_cons e2
      simp only [vls, Option.some.injEq] at e5
      subst e5
      have ha : amap r.ev c.args = #[v1, v2] := by unfold amap; rw [e3]
      rw [ha]
      split at hx
      · rename_i t tx hat
        rw [hat]
        exact appX_ok h hx e1 e4 hK
      · cases hx
    · cases hx
  | _ => simp only [ho] at hx; cases hx
end
end Go.Ev
