/- A verified evaluator for closed calls, third part: operations that leave the world as it is. No program in sight. -/
import Derived.Test.YtbhbdleffackaaaGreatDoorE2
set_option linter.unusedVariables false
set_option linter.unusedSimpArgs false
namespace Go.Ev
open Go Go.Vc
noncomputable section
variable {P : Program} {base : Bs} {σ : Sg} {s : St} {w w' : World}
def cellsX : X → List X
  | .g xs => xs
  | x => [x]
theorem cellsX_spec {x : X} {v : Value} (h : vl σ x = some v) : vls σ (cellsX x) = some v.cells.toList := by
  have one : ∀ (x : X), cellsX x = [x] → v.cells = #[v] → vl σ x = some v → vls σ (cellsX x) = some v.cells.toList := by
    intro x h1 h2 h3
    rw [h1, h2]
    exact vls_mk h3 rfl
  cases x with
  | g xs =>
    simp only [vl] at h
    cases hs : vls σ xs with
    | none => rw [hs] at h; cases h
    | some us =>
      rw [hs] at h
      obtain rfl := Option.some.inj h
      simpa [cellsX, Value.cells] using hs
  | b c => exact one _ rfl (by simp only [vl, Option.some.injEq] at h; subst h; rfl) h
  | i k n => exact one _ rfl (by simp only [vl, Option.some.injEq] at h; subst h; rfl) h
  | s l => exact one _ rfl (by simp only [vl, Option.some.injEq] at h; subst h; rfl) h
  | ni => exact one _ rfl (by simp only [vl, Option.some.injEq] at h; subst h; rfl) h
  | nf => exact one _ rfl (by simp only [vl, Option.some.injEq] at h; subst h; rfl) h
  | p a =>
    refine one _ rfl ?_ h
    cases a with
    | none => simp only [vl, Option.some.injEq] at h; subst h; rfl
    | some a =>
      simp only [vl] at h
      cases hs : σ a.1 with
      | none => rw [hs] at h; cases h
      | some r => rw [hs] at h; obtain rfl := Option.some.inj h; rfl
  | l a n c =>
    refine one _ rfl ?_ h
    cases a with
    | none => simp only [vl, Option.some.injEq] at h; subst h; rfl
    | some a =>
      simp only [vl] at h
      cases hs : σ a.1 with
      | none => rw [hs] at h; cases h
      | some r => rw [hs] at h; obtain rfl := Option.some.inj h; rfl
  | fc t x =>
    refine one _ rfl ?_ h
    simp only [vl] at h
    cases hs : vl σ x with
    | none => rw [hs] at h; cases h
    | some r => rw [hs] at h; obtain rfl := Option.some.inj h; rfl
  | t xs =>
    refine one _ rfl ?_ h
    simp only [vl] at h
    cases hs : vls σ xs with
    | none => rw [hs] at h; cases h
    | some r => rw [hs] at h; obtain rfl := Option.some.inj h; rfl
  | f fn a c =>
    refine one _ rfl ?_ h
    simp only [vl] at h
    cases hs : vls σ a with
    | none => rw [hs] at h; cases h
    | some r =>
      cases hc : vls σ c with
      | none => rw [hs, hc] at h; cases h
      | some r' => rw [hs, hc] at h; obtain rfl := Option.some.inj h; rfl
  | m a =>
    refine one _ rfl ?_ h
    cases a with
    | none => simp only [vl, Option.some.injEq] at h; subst h; rfl
    | some a =>
      simp only [vl] at h
      cases hs : σ a with
      | none => rw [hs] at h; cases h
      | some r => rw [hs] at h; obtain rfl := Option.some.inj h; rfl
  | e0 b o q =>
    refine one _ rfl ?_ h
    simp only [vl] at h
    cases hs : σ b with
    | none => rw [hs] at h; cases h
    | some r => rw [hs] at h; obtain rfl := Option.some.inj h; rfl
def setLX : List X → Nat → List X → List X
  | cs, _, [] => cs
  | cs, o, x :: r => setLX (cs.set o x) (o + 1) r
theorem setLX_len : ∀ (r cs : List X) (o : Nat), (setLX cs o r).length = cs.length
  | [], _, _ => rfl
  | x :: r, cs, o => by rw [setLX, setLX_len r, List.length_set]
theorem setLX_spec : ∀ {xs cs : List X} {us vs : List Value} (o : Nat), vls σ cs = some vs → vls σ xs = some us → vls σ (setLX cs o xs) = some (setL vs o us)
  | [], cs, us, vs, o, h, k => by simp only [vls, Option.some.injEq] at k; subst k; exact h
  | x :: r, cs, us, vs, o, h, k => by
    obtain ⟨v, us', h1, h2, rfl⟩ := vls_cons k
    exact setLX_spec (o + 1) (vls_set o h h1) h2
theorem fold_setL : ∀ (us vs : List Value) (off j : Nat), (us.zipIdx j).foldl (fun (cs : Array Value) x => cs.setIfInBounds (off + x.2) x.1) vs.toArray = (setL vs (off + j) us).toArray
  | [], vs, off, j => rfl
  | u :: us, vs, off, j => by
    rw [List.zipIdx_cons, List.foldl_cons, List.setIfInBounds_toArray, fold_setL us _ off (j + 1), setL]
    rfl
def xfill (place : Nat → Option (Nat × Nat)) : List X → List (Nat × X) → Option (List X)
  | cells, [] => some cells
  | cells, (i, x) :: rest => match place i with
    | none => none
    | some q => match Nat.beq (cellsX x).length q.2, Nat.ble (q.1 + (cellsX x).length) cells.length with
      | true, true => xfill place (setLX cells q.1 (cellsX x)) rest
      | _, _ => none
def pvl (σ : Sg) : List (Nat × X) → Option (List (Nat × Value))
  | [] => some []
  | (i, x) :: r => match vl σ x, pvl σ r with
    | some v, some vs => some ((i, v) :: vs)
    | _, _ => none
theorem xfill_spec {place : Nat → Option (Nat × Nat)} : ∀ {ps : List (Nat × X)} {cs cs' : List X} {vs : List Value} {qs : List (Nat × Value)}, xfill place cs ps = some cs' → vls σ cs = some vs → pvl σ ps = some qs →
    ∃ vs', Instr.fill place vs.toArray qs = some vs'.toArray ∧ vls σ cs' = some vs'
  | [], cs, cs', vs, qs, h, h1, h2 => by
    simp only [pvl, Option.some.injEq] at h2
    subst h2
    obtain rfl := Option.some.inj h
    exact ⟨vs, rfl, h1⟩
  | (i, x) :: r, cs, cs', vs, qs, h, h1, h2 => by
    simp only [pvl] at h2
    cases hx : vl σ x with
    | none => rw [hx] at h2; cases h2
    | some v =>
      cases hr : pvl σ r with
      | none => rw [hx, hr] at h2; cases h2
      | some vs2 =>
        rw [hx, hr] at h2
        obtain rfl := Option.some.inj h2
        simp only [xfill] at h
        cases hp : place i with
        | none => rw [hp] at h; cases h
        | some q =>
          obtain ⟨off, size⟩ := q
          rw [hp] at h
          simp only at h
          have hcx := cellsX_spec hx
          have hl1 := vls_len hcx
          have hl2 := vls_len h1
          cases hb : Nat.beq (cellsX x).length size with
          | false => rw [hb] at h; cases h
          | true =>
            cases hb2 : Nat.ble (off + (cellsX x).length) cs.length with
            | false => rw [hb, hb2] at h; cases h
            | true =>
              rw [hb, hb2] at h
              have e1 := Nat.eq_of_beq_eq_true hb
              have e2 := Nat.le_of_ble_eq_true hb2
              obtain ⟨vs', g1, g2⟩ := xfill_spec h (setLX_spec off h1 hcx) hr
              refine ⟨vs', ?_, g2⟩
              rw [Instr.fill]
              simp only [hp]
              rw [if_neg]
              · rw [← g1]
                congr 1
                have hz : v.cells.zipIdx = (v.cells.toList.zipIdx 0).toArray := by apply Array.ext'; simp
                have := fold_setL v.cells.toList vs off 0
                rw [hz, List.foldl_toArray]
                simpa using this
              · have hsz : v.cells.toList.length = v.cells.size := Array.length_toList
                simp
                omega
def xparts (ρ : T X) : List (Nat × Operand) → Option (List (Nat × X))
  | [] => some []
  | (i, o) :: r => match evX ρ o, xparts ρ r with
    | some x, some xs => some ((i, x) :: xs)
    | _, _ => none
theorem xparts_spec {ρ : T X} {r : Env} (hE : EnvR σ ρ r) : ∀ {ps : List (Nat × Operand)} {xs : List (Nat × X)}, xparts ρ ps = some xs → pvl σ xs = some (pmap r.ev ps)
  | [], xs, h => by simp only [xparts, Option.some.injEq] at h; subst h; rfl
  | (i, o) :: q, xs, h => by
    simp only [xparts] at h
    cases hx : evX ρ o with
    | none => rw [hx] at h; cases h
    | some x =>
      cases hr : xparts ρ q with
      | none => rw [hx, hr] at h; cases h
      | some ys =>
        rw [hx, hr] at h
        obtain rfl := Option.some.inj h
        simp only [pvl, evX_spec hE hx, xparts_spec hE hr, pmap]
def xargs (ρ : T X) : List Operand → Option (List X)
  | [] => some []
  | o :: r => match evX ρ o, xargs ρ r with
    | some x, some xs => some (x :: xs)
    | _, _ => none
theorem xargs_spec {ρ : T X} {r : Env} (hE : EnvR σ ρ r) : ∀ {ps : List Operand} {xs : List X}, xargs ρ ps = some xs → vls σ xs = some (lmap r.ev ps)
  | [], xs, h => by simp only [xargs, Option.some.injEq] at h; subst h; rfl
  | o :: q, xs, h => by
    simp only [xargs] at h
    cases hx : evX ρ o with
    | none => rw [hx] at h; cases h
    | some x =>
      cases hr : xargs ρ q with
      | none => rw [hx, hr] at h; cases h
      | some ys =>
        rw [hx, hr] at h
        obtain rfl := Option.some.inj h
        exact vls_mk (evX_spec hE hx) (xargs_spec hE hr)
def zeroX (P : Program) (t : TypeId) : Option (List X) := match P.info? t with
  | some i => match i.zero with
    | some z => ofVs z.cells.toList
    | none => none
  | none => none
def bdX (P : Program) (t : TypeId) (ps : List (Nat × X)) : Option X := match P.underlying t with
  | some (.struct fields) => match zeroX P t, fields.toList.mapM (fun f => (P.info? f.type).map fun i => (f.offset, i.size)) with
    | some z, some places => match xfill (places.toArray[·]?) z ps with
      | some cs => some (.g cs)
      | none => none
    | _, _ => none
  | some (.array _ e) => match zeroX P t, P.info? e with
    | some z, some ie => match xfill (fun i => some (i * ie.size, ie.size)) z ps with
      | some cs => some (.g cs)
      | none => none
    | _, _ => none
  | _ => none
theorem zeroX_spec {t : TypeId} {xs : List X} (h : zeroX P t = some xs) : ∃ i z, P.info? t = some i ∧ i.zero = some z ∧ vls σ xs = some z.cells.toList := by
  unfold zeroX at h
  cases hi : P.info? t with
  | none => rw [hi] at h; cases h
  | some i =>
    rw [hi] at h
    simp only at h
    cases hz : i.zero with
    | none => rw [hz] at h; cases h
    | some z => rw [hz] at h; exact ⟨i, z, rfl, hz, vls_ofVs h⟩
theorem bdX_spec {t : TypeId} {ps : List (Nat × X)} {x : X} {qs : Array (Nat × Value)} (h : bdX P t ps = some x) (hp : pvl σ ps = some qs.toList) : ∃ v, vl σ x = some v ∧ (Instr.build t qs).run P w = .ok v w := by
  unfold bdX at h
  split at h
  · rename_i fields hu
    split at h
    · rename_i z places hz hpl
      split at h
      · rename_i cs hf
        obtain rfl := Option.some.inj h
        obtain ⟨i, zv, h1, h2, h3⟩ := zeroX_spec (σ := σ) hz
        obtain ⟨vs', g1, g2⟩ := xfill_spec hf h3 hp
        refine ⟨.agg vs'.toArray, by simp only [vl, g2], run_build w t qs _ ?_⟩
        unfold Program.built
        rw [h1, hu]
        simp only [h2, hpl]
        simpa using g1
      · cases h
    · cases h
  · rename_i n e hu
    split at h
    · rename_i z ie hz hie
      split at h
      · rename_i cs hf
        obtain rfl := Option.some.inj h
        obtain ⟨i, zv, h1, h2, h3⟩ := zeroX_spec (σ := σ) hz
        obtain ⟨vs', g1, g2⟩ := xfill_spec hf h3 hp
        refine ⟨.agg vs'.toArray, by simp only [vl, g2], run_build w t qs _ ?_⟩
        unfold Program.built
        rw [h1, hu]
        simp only [h2, hie]
        simpa using g1
      · cases h
    · cases h
  · cases h
/-- A number within bounds. -/
def inX (n : Int) (l : Nat) : Option Nat := match n with
  | .ofNat m => match Nat.blt m l with
    | true => some m
    | false => none
  | _ => none
theorem inX_spec {n : Int} {l m : Nat} (h : inX n l = some m) : n = (m : Int) ∧ m < l := by
  unfold inX at h
  split at h
  · rename_i k
    split at h
    · rename_i hb
      obtain rfl := Option.some.inj h
      exact ⟨rfl, Nat.le_of_ble_eq_true hb⟩
    · cases h
  · cases h
def natX : X → Option Nat
  | .i _ (.ofNat m) => some m
  | _ => none
theorem natX_spec {x : X} {m : Nat} {v : Value} (h : natX x = some m) (hv : vl σ x = some v) : ∃ k, v = .int k (m : Int) := by
  unfold natX at h
  split at h
  · rename_i k m'
    obtain rfl := Option.some.inj h
    simp only [vl, Option.some.injEq] at hv
    exact ⟨k, hv.symm⟩
  · cases h
/-- A bound of a slicing. -/
def bndX (ρ : T X) (d : Nat) : Option Operand → Option Nat
  | none => some d
  | some o => match evX ρ o with
    | some x => natX x
    | none => none
theorem bndX_spec {ρ : T X} {r : Env} (hE : EnvR σ ρ r) {d l : Nat} {o : Option Operand} (h : bndX ρ d o = some l) : bnd (o.map r.ev) d l := by
  cases o with
  | none => simp only [bndX, Option.some.injEq] at h; exact h.symm
  | some o =>
    simp only [bndX] at h
    cases hx : evX ρ o with
    | none => rw [hx] at h; cases h
    | some x =>
      rw [hx] at h
      obtain ⟨k, hk⟩ := natX_spec h (evX_spec hE hx)
      exact ⟨k, hk⟩
theorem str_get {l : List Nat} {m : Nat} (h : m < l.length) : ((str l).data.toList.getD m 0).toNat = l.getD m 0 % 256 := by
  simp only [str]
  rw [List.getD_eq_getElem?_getD, List.getD_eq_getElem?_getD, List.getElem?_map, List.getElem?_eq_getElem h]
  simp
theorem str_cut {l : List Nat} {a b : Nat} : (str l).extract a b = str ((l.take b).drop a) := by
  apply ByteArray.ext
  apply Array.ext'
  rw [ByteArray.data_extract, Array.toList_extract, List.extract_eq_take_drop]
  simp [str, List.drop_take]
def bytesX : List X → Option (List Nat)
  | [] => some []
  | .i .u8 (.ofNat m) :: r => match bytesX r with
    | some l => some (m :: l)
    | none => none
  | _ => none
theorem bytesX_spec : ∀ {xs : List X} {l : List Nat}, bytesX xs = some l → vls σ xs = some ((l.map fun (m : Nat) => (m : Int)).map (Value.int .u8))
  | [], l, h => by simp only [bytesX, Option.some.injEq] at h; subst h; rfl
  | x :: r, l, h => by
    unfold bytesX at h
    split at h
    · rename_i heq; cases heq
    · rename_i m r' heq
      cases heq
      cases hr : bytesX r with
      | none => rw [hr] at h; cases h
      | some l' =>
        rw [hr] at h
        obtain rfl := Option.some.inj h
        exact vls_mk rfl (bytesX_spec hr)
    · cases h
theorem fold_str (l : List Nat) : ∀ (a : List Nat), (l.map fun (m : Nat) => (m : Int)).foldl (fun r n => r.push (UInt8.ofNat n.toNat)) (str a) = str (a ++ l) := by
  induction l with
  | nil => intro a; simp
  | cons c l ih =>
    intro a
    rw [List.map_cons, List.foldl_cons]
    have : (str a).push (UInt8.ofNat (c : Int).toNat) = str (a ++ [c]) := by
      apply ba_ext
      simp [str, ByteArray.push]
    rw [this, ih, List.append_assoc]
    rfl
/-- string(bytes) -/
def strX (s : St) : X → Option X
  | .l none _ _ => some (.s [])
  | .l (some a) n _ => match s.blk a.1 with
    | some c => match Nat.beq ((c.2.drop a.2).take n).length n, bytesX ((c.2.drop a.2).take n) with
      | true, some l => some (.s l)
      | _, _ => none
    | none => none
  | _ => none
theorem strX_spec (h : Mem P base σ s w) {t d e : TypeId} (h1 : P.underlying t = some (.slice e)) (h2 : P.underlying e = some (.int .u8)) (h3 : P.underlying d = some .string) {x y : X} {v : Value} (hx : vl σ x = some v) (hy : strX s x = some y) :
    ∃ u, vl σ y = some u ∧ (convert t d v).run P w = .ok u w := by
  unfold strX at hy
  split at hy
  · rename_i n c
    obtain rfl := Option.some.inj hy
    simp only [vl, Option.some.injEq] at hx
    subst hx
    refine ⟨.string (str []), rfl, ?_⟩
    rw [run_convert_bytes_string (P := P) w t d e none _ c h1 h2 h3]
    rfl
  · rename_i a n c
    simp only [vl] at hx
    split at hy
    · rename_i cb hb
      obtain ⟨be, cs⟩ := cb
      split at hy
      · rename_i l hl hby
        obtain rfl := Option.some.inj hy
        obtain ⟨rb, off, k, pre, vs, sp, post, g⟩ := h.own a.1 be cs hb
        rw [g.sg_] at hx
        obtain rfl := Option.some.inj hx
        simp only at hl hby ⊢
        refine ⟨.string (str l), rfl, ?_⟩
        have hv := vls_take n (vls_drop a.2 g.val)
        have hlen := Nat.eq_of_beq_eq_true hl
        rw [vls_len hv] at hlen
        have hvb := bytesX_spec (σ := σ) hby
        rw [hv] at hvb
        have hvs := Option.some.inj hvb
        rw [run_convert_bytes_string (P := P) w t d e _ _ _ h1 h2 h3]
        have hload : (loadCells (⟨rb, off + a.2, none⟩ : Addr) n).run P w = .ok ((l.map fun (m : Nat) => (m : Int)).map (Value.int .u8)).toArray w := by
          have := Vc.run_loadCells (P := P) (w := w) (a := ⟨rb, off + a.2, none⟩) (cs := ((vs.drop a.2).take n).toArray) (fun j v hj => by
            have hj2 : ((vs.drop a.2).take n)[j]? = some v := by simpa using hj
            rw [add_off]
            have hjn := (List.getElem?_eq_some_iff.1 hj2).1
            rw [List.getElem?_take_of_lt (by omega), List.getElem?_drop] at hj2
            rw [show off + a.2 + j = off + (a.2 + j) by omega, g.cell (List.getElem?_eq_some_iff.1 hj2).1, hj2])
          rw [← hvs]
          have hsz : ((vs.drop a.2).take n).toArray.size = n := by simpa using hlen
          rw [hsz] at this
          exact this
        rw [run_bytesToString (P := P) w _ n _ _ hload]
        have := fold_str l []
        rw [show str [] = ByteArray.empty from rfl] at this
        rw [this]
        rfl
      · cases hy
    · cases hy
  · cases hy
end
end Go.Ev
