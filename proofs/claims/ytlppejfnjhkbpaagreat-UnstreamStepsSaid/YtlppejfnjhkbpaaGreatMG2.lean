/- Several texts in one: E3, F1, F0, E4, E5, E6, F2, F3, Bd, U18, R3b, K18, O2a, W22, P20, P24. -/
import Derived.Test.YtlppejfnjhkbpaaGreatMG1
import Derived.ChangeKeysEq
import Derived.MapKept
import Derived.Lib.UnsafeStr
import Derived.Deep.AppendSrc
import Derived.Test.YtlppejfnjhkbpaaGreatMG0
import Derived.Carry
import Derived.Lib.Bytealg
import Derived.Lib.MakeNoZero
import Derived.Test.YtlppejfnjhkbpaaGreatFm
set_option linter.unusedVariables false
set_option linter.unusedSimpArgs false
namespace Go.Ev
open Go Go.Vc
noncomputable section
variable {P : Program} {base : Bs} {σ : Sg} {s : St} {w w' : World}
def cellsX : X → List X
 | .g xs => xs
 | x => [x]
theorem cellsX_spec {x : X} {v : Value} (h : vl σ x = some v) : vls σ (cellsX x) = some v.cells.toList := by
 have one : ∀ (x : X), cellsX x = [x] → v.cells = #[v] → vl σ x = some v → vls σ (cellsX x) = some v.cells.toList := by
   intro x h1 h2 h3; rw [h1, h2]; exact vls_mk h3 rfl
 cases x with
 | g xs =>
   simp only [vl] at h
   cases hs : vls σ xs with
   | none => rw [hs] at h; cases h
   | some us =>
     rw [hs] at h; obtain rfl := Option.some.inj h; simpa [cellsX, Value.cells] using hs
 | b c => exact one _ rfl (by simp only [vl, Option.some.injEq] at h; subst h; rfl) h
 | i k n => exact one _ rfl (by simp only [vl, Option.some.injEq] at h; subst h; rfl) h
 | s l => exact one _ rfl (by simp only [vl, Option.some.injEq] at h; subst h; rfl) h
 | ni => exact one _ rfl (by simp only [vl, Option.some.injEq] at h; subst h; rfl) h
 | nf => exact one _ rfl (by simp only [vl, Option.some.injEq] at h; subst h; rfl) h
 | p a =>
   refine one _ rfl ?_ h
   cases a with
   | none => simp only [vl, Option.some.injEq] at h; subst h; rfl
   | some a =>
     simp only [vl] at h
     cases hs : σ a.1 with
     | none => rw [hs] at h; cases h
     | some r => rw [hs] at h; obtain rfl := Option.some.inj h; rfl
 | l a n c =>
   refine one _ rfl ?_ h
   cases a with
   | none => simp only [vl, Option.some.injEq] at h; subst h; rfl
   | some a =>
     simp only [vl] at h
     cases hs : σ a.1 with
     | none => rw [hs] at h; cases h
     | some r => rw [hs] at h; obtain rfl := Option.some.inj h; rfl
 | fc t x =>
   refine one _ rfl ?_ h; simp only [vl] at h
   cases hs : vl σ x with
   | none => rw [hs] at h; cases h
   | some r => rw [hs] at h; obtain rfl := Option.some.inj h; rfl
 | t xs =>
   refine one _ rfl ?_ h; simp only [vl] at h
   cases hs : vls σ xs with
   | none => rw [hs] at h; cases h
   | some r => rw [hs] at h; obtain rfl := Option.some.inj h; rfl
 | f fn a c =>
   refine one _ rfl ?_ h; simp only [vl] at h
   cases hs : vls σ a with
   | none => rw [hs] at h; cases h
   | some r =>
     cases hc : vls σ c with
     | none => rw [hs, hc] at h; cases h
     | some r' => rw [hs, hc] at h; obtain rfl := Option.some.inj h; rfl
 | m a =>
   refine one _ rfl ?_ h
   cases a with
   | none => simp only [vl, Option.some.injEq] at h; subst h; rfl
   | some a =>
     simp only [vl] at h
     cases hs : σ a with
     | none => rw [hs] at h; cases h
     | some r => rw [hs] at h; obtain rfl := Option.some.inj h; rfl
 | e0 b o q =>
   refine one _ rfl ?_ h; simp only [vl] at h
   cases hs : σ b with
   | none => rw [hs] at h; cases h
   | some r => rw [hs] at h; obtain rfl := Option.some.inj h; rfl
def setLX : List X → Nat → List X → List X
 | cs, _, [] => cs
 | cs, o, x :: r => setLX (cs.set o x) (o + 1) r
theorem setLX_spec : ∀ {xs cs : List X} {us vs : List Value} (o : Nat), vls σ cs = some vs → vls σ xs = some us → vls σ (setLX cs o xs) = some (setL vs o us)
 | [], cs, us, vs, o, h, k => by simp only [vls, Option.some.injEq] at k; subst k; exact h
 | x :: r, cs, us, vs, o, h, k => by
   obtain ⟨v, us', h1, h2, rfl⟩ := vls_cons k; exact setLX_spec (o + 1) (vls_set o h h1) h2
theorem fold_setL : ∀ (us vs : List Value) (off j : Nat), (us.zipIdx j).foldl (fun (cs : Array Value) x => cs.setIfInBounds (off + x.2) x.1) vs.toArray = (setL vs (off + j) us).toArray
 | [], vs, off, j => rfl
 | u :: us, vs, off, j => by
   rw [List.zipIdx_cons, List.foldl_cons, List.setIfInBounds_toArray, fold_setL us _ off (j + 1), setL]; rfl
def xfill (place : Nat → Option (Nat × Nat)) : List X → List (Nat × X) → Option (List X)
 | cells, [] => some cells
 | cells, (i, x) :: rest => match place i with
   | none => none
   | some q => match Nat.beq (cellsX x).length q.2, Nat.ble (q.1 + (cellsX x).length) cells.length with
     | true, true => xfill place (setLX cells q.1 (cellsX x)) rest
     | _, _ => none
def pvl (σ : Sg) : List (Nat × X) → Option (List (Nat × Value))
 | [] => some []
 | (i, x) :: r => match vl σ x, pvl σ r with
   | some v, some vs => some ((i, v) :: vs)
   | _, _ => none
theorem xfill_spec {place : Nat → Option (Nat × Nat)} : ∀ {ps : List (Nat × X)} {cs cs' : List X} {vs : List Value} {qs : List (Nat × Value)}, xfill place cs ps = some cs' → vls σ cs = some vs → pvl σ ps = some qs →
   ∃ vs', Instr.fill place vs.toArray qs = some vs'.toArray ∧ vls σ cs' = some vs'
 | [], cs, cs', vs, qs, h, h1, h2 => by
   simp only [pvl, Option.some.injEq] at h2; subst h2; obtain rfl := Option.some.inj h; exact ⟨vs, rfl, h1⟩
 | (i, x) :: r, cs, cs', vs, qs, h, h1, h2 => by
   simp only [pvl] at h2
   cases hx : vl σ x with
   | none => rw [hx] at h2; cases h2
   | some v =>
     cases hr : pvl σ r with
     | none => rw [hx, hr] at h2; cases h2
     | some vs2 =>
       rw [hx, hr] at h2; obtain rfl := Option.some.inj h2; simp only [xfill] at h
       cases hp : place i with
       | none => rw [hp] at h; cases h
       | some q =>
         obtain ⟨off, size⟩ := q; rw [hp] at h; simp only at h; have hcx := cellsX_spec hx; have hl1 := vls_len hcx; have hl2 := vls_len h1
         cases hb : Nat.beq (cellsX x).length size with
         | false => rw [hb] at h; cases h
         | true =>
           cases hb2 : Nat.ble (off + (cellsX x).length) cs.length with
           | false => rw [hb, hb2] at h; cases h
           | true =>
             rw [hb, hb2] at h; have e1 := Nat.eq_of_beq_eq_true hb; have e2 := Nat.le_of_ble_eq_true hb2; obtain ⟨vs', g1, g2⟩ := xfill_spec h (setLX_spec off h1 hcx) hr; refine ⟨vs', ?_, g2⟩; rw [Instr.fill]; simp only [hp]; rw [if_neg]
             · rw [← g1]
               congr 1
               have hz : v.cells.zipIdx = (v.cells.toList.zipIdx 0).toArray := by apply Array.ext'; simp
               have := fold_setL v.cells.toList vs off 0; rw [hz, List.foldl_toArray]; simpa using this
             · have hsz : v.cells.toList.length = v.cells.size := Array.length_toList; simp; omega
def xparts (ρ : T X) : List (Nat × Operand) → Option (List (Nat × X))
 | [] => some []
 | (i, o) :: r => match evX ρ o, xparts ρ r with
   | some x, some xs => some ((i, x) :: xs)
   | _, _ => none
theorem xparts_spec {ρ : T X} {r : Env} (hE : EnvR σ ρ r) : ∀ {ps : List (Nat × Operand)} {xs : List (Nat × X)}, xparts ρ ps = some xs → pvl σ xs = some (pmap r.ev ps)
 | [], xs, h => by simp only [xparts, Option.some.injEq] at h; subst h; rfl
 | (i, o) :: q, xs, h => by
   simp only [xparts] at h
   cases hx : evX ρ o with
   | none => rw [hx] at h; cases h
   | some x =>
     cases hr : xparts ρ q with
     | none => rw [hx, hr] at h; cases h
     | some ys =>
       rw [hx, hr] at h; obtain rfl := Option.some.inj h; simp only [pvl, evX_spec hE hx, xparts_spec hE hr, pmap]
def xargs (ρ : T X) : List Operand → Option (List X)
 | [] => some []
 | o :: r => match evX ρ o, xargs ρ r with
   | some x, some xs => some (x :: xs)
   | _, _ => none
theorem xargs_spec {ρ : T X} {r : Env} (hE : EnvR σ ρ r) : ∀ {ps : List Operand} {xs : List X}, xargs ρ ps = some xs → vls σ xs = some (lmap r.ev ps)
 | [], xs, h => by simp only [xargs, Option.some.injEq] at h; subst h; rfl
 | o :: q, xs, h => by
   simp only [xargs] at h
   cases hx : evX ρ o with
   | none => rw [hx] at h; cases h
   | some x =>
     cases hr : xargs ρ q with
     | none => rw [hx, hr] at h; cases h
     | some ys =>
       rw [hx, hr] at h; obtain rfl := Option.some.inj h; exact vls_mk (evX_spec hE hx) (xargs_spec hE hr)
def zeroX (P : Program) (t : TypeId) : Option (List X) := match P.info? t with
 | some i => match i.zero with
   | some z => ofVs z.cells.toList
   | none => none
 | none => none
def bdX (P : Program) (t : TypeId) (ps : List (Nat × X)) : Option X := match P.underlying t with
 | some (.struct fields) => match zeroX P t, fields.toList.mapM (fun f => (P.info? f.type).map fun i => (f.offset, i.size)) with
   | some z, some places => match xfill (places.toArray[·]?) z ps with
     | some cs => some (.g cs)
     | none => none
   | _, _ => none
 | some (.array _ e) => match zeroX P t, P.info? e with
   | some z, some ie => match xfill (fun i => some (i * ie.size, ie.size)) z ps with
     | some cs => some (.g cs)
     | none => none
   | _, _ => none
 | _ => none
theorem zeroX_spec {t : TypeId} {xs : List X} (h : zeroX P t = some xs) : ∃ i z, P.info? t = some i ∧ i.zero = some z ∧ vls σ xs = some z.cells.toList := by
 unfold zeroX at h
 cases hi : P.info? t with
 | none => rw [hi] at h; cases h
 | some i =>
   rw [hi] at h; simp only at h
   cases hz : i.zero with
   | none => rw [hz] at h; cases h
   | some z => rw [hz] at h; exact ⟨i, z, rfl, hz, vls_ofVs h⟩
theorem bdX_spec {t : TypeId} {ps : List (Nat × X)} {x : X} {qs : Array (Nat × Value)} (h : bdX P t ps = some x) (hp : pvl σ ps = some qs.toList) : ∃ v, vl σ x = some v ∧ (Instr.build t qs).run P w = .ok v w := by
 unfold bdX at h; split at h
 · rename_i fields hu; split at h
   · rename_i z places hz hpl; split at h
     · rename_i cs hf; obtain rfl := Option.some.inj h; obtain ⟨i, zv, h1, h2, h3⟩ := zeroX_spec (σ := σ) hz; obtain ⟨vs', g1, g2⟩ := xfill_spec hf h3 hp; refine ⟨.agg vs'.toArray, by simp only [vl, g2], run_build w t qs _ ?_⟩; unfold Program.built; rw [h1, hu]; simp only [h2, hpl]; simpa using g1
     · cases h
   · cases h
 · rename_i n e hu; split at h
   · rename_i z ie hz hie; split at h
     · rename_i cs hf; obtain rfl := Option.some.inj h; obtain ⟨i, zv, h1, h2, h3⟩ := zeroX_spec (σ := σ) hz; obtain ⟨vs', g1, g2⟩ := xfill_spec hf h3 hp; refine ⟨.agg vs'.toArray, by simp only [vl, g2], run_build w t qs _ ?_⟩; unfold Program.built; rw [h1, hu]; simp only [h2, hie]; simpa using g1
     · cases h
   · cases h
 · cases h
def inX (n : Int) (l : Nat) : Option Nat := match n with
 | .ofNat m => match Nat.blt m l with
   | true => some m
   | false => none
 | _ => none
theorem inX_spec {n : Int} {l m : Nat} (h : inX n l = some m) : n = (m : Int) ∧ m < l := by
 unfold inX at h; split at h
 · rename_i k; split at h
   · rename_i hb; obtain rfl := Option.some.inj h; exact ⟨rfl, Nat.le_of_ble_eq_true hb⟩
   · cases h
 · cases h
def natX : X → Option Nat
 | .i _ (.ofNat m) => some m
 | _ => none
theorem natX_spec {x : X} {m : Nat} {v : Value} (h : natX x = some m) (hv : vl σ x = some v) : ∃ k, v = .int k (m : Int) := by
 unfold natX at h; split at h
 · rename_i k m'; obtain rfl := Option.some.inj h; simp only [vl, Option.some.injEq] at hv; exact ⟨k, hv.symm⟩
 · cases h
def bndX (ρ : T X) (d : Nat) : Option Operand → Option Nat
 | none => some d
 | some o => match evX ρ o with
   | some x => natX x
   | none => none
theorem bndX_spec {ρ : T X} {r : Env} (hE : EnvR σ ρ r) {d l : Nat} {o : Option Operand} (h : bndX ρ d o = some l) : bnd (o.map r.ev) d l := by
 cases o with
 | none => simp only [bndX, Option.some.injEq] at h; exact h.symm
 | some o =>
   simp only [bndX] at h
   cases hx : evX ρ o with
   | none => rw [hx] at h; cases h
   | some x =>
     rw [hx] at h; obtain ⟨k, hk⟩ := natX_spec h (evX_spec hE hx); exact ⟨k, hk⟩
theorem str_get {l : List Nat} {m : Nat} (h : m < l.length) : ((str l).data.toList.getD m 0).toNat = l.getD m 0 % 256 := by
 simp only [str]; rw [List.getD_eq_getElem?_getD, List.getD_eq_getElem?_getD, List.getElem?_map, List.getElem?_eq_getElem h]; simp
theorem str_cut {l : List Nat} {a b : Nat} : (str l).extract a b = str ((l.take b).drop a) := by
 apply ByteArray.ext; apply Array.ext'; rw [ByteArray.data_extract, Array.toList_extract, List.extract_eq_take_drop]; simp [str, List.drop_take]
def bytesX : List X → Option (List Nat)
 | [] => some []
 | .i .u8 (.ofNat m) :: r => match bytesX r with
   | some l => some (m :: l)
   | none => none
 | _ => none
theorem bytesX_spec : ∀ {xs : List X} {l : List Nat}, bytesX xs = some l → vls σ xs = some ((l.map fun (m : Nat) => (m : Int)).map (Value.int .u8))
 | [], l, h => by simp only [bytesX, Option.some.injEq] at h; subst h; rfl
 | x :: r, l, h => by
   unfold bytesX at h; split at h
   · rename_i heq; cases heq
   · rename_i m r' heq; cases heq
     cases hr : bytesX r with
     | none => rw [hr] at h; cases h
     | some l' =>
       rw [hr] at h; obtain rfl := Option.some.inj h; exact vls_mk rfl (bytesX_spec hr)
   · cases h
theorem fold_str (l : List Nat) : ∀ (a : List Nat), (l.map fun (m : Nat) => (m : Int)).foldl (fun r n => r.push (UInt8.ofNat n.toNat)) (str a) = str (a ++ l) := by
 induction l with
 | nil => intro a; simp
 | cons c l ih =>
   intro a; rw [List.map_cons, List.foldl_cons]
   have : (str a).push (UInt8.ofNat (c : Int).toNat) = str (a ++ [c]) := by
     apply ba_ext; simp [str, ByteArray.push]
   rw [this, ih, List.append_assoc]; rfl
def strX (s : St) : X → Option X
 | .l none _ _ => some (.s [])
 | .l (some a) n _ => match s.blk a.1 with
   | some c => match Nat.beq ((c.2.drop a.2).take n).length n, bytesX ((c.2.drop a.2).take n) with
     | true, some l => some (.s l)
     | _, _ => none
   | none => none
 | _ => none
theorem strX_spec (h : Mem P base σ s w) {t d e : TypeId} (h1 : P.underlying t = some (.slice e)) (h2 : P.underlying e = some (.int .u8)) (h3 : P.underlying d = some .string) {x y : X} {v : Value} (hx : vl σ x = some v) (hy : strX s x = some y) :
   ∃ u, vl σ y = some u ∧ (convert t d v).run P w = .ok u w := by
 unfold strX at hy; split at hy
 · rename_i n c; obtain rfl := Option.some.inj hy; simp only [vl, Option.some.injEq] at hx; subst hx; refine ⟨.string (str []), rfl, ?_⟩; rw [run_convert_bytes_string (P := P) w t d e none _ c h1 h2 h3]; rfl
 · rename_i a n c; simp only [vl] at hx; split at hy
   · rename_i cb hb; obtain ⟨be, cs⟩ := cb; split at hy
     · rename_i l hl hby
       obtain rfl := Option.some.inj hy; obtain ⟨rb, off, k, pre, vs, sp, post, g⟩ := h.own a.1 be cs hb; rw [g.sg_] at hx; obtain rfl := Option.some.inj hx; simp only at hl hby ⊢; refine ⟨.string (str l), rfl, ?_⟩; have hv := vls_take n (vls_drop a.2 g.val); have hlen := Nat.eq_of_beq_eq_true hl; rw [vls_len hv] at hlen
       have hvb := bytesX_spec (σ := σ) hby
       rw [hv] at hvb; have hvs := Option.some.inj hvb; rw [run_convert_bytes_string (P := P) w t d e _ _ _ h1 h2 h3]
       have hload : (loadCells (⟨rb, off + a.2, none⟩ : Addr) n).run P w = .ok ((l.map fun (m : Nat) => (m : Int)).map (Value.int .u8)).toArray w := by
         have := Vc.run_loadCells (P := P) (w := w) (a := ⟨rb, off + a.2, none⟩) (cs := ((vs.drop a.2).take n).toArray) (fun j v hj => by
           have hj2 : ((vs.drop a.2).take n)[j]? = some v := by simpa using hj
           rw [add_off]; have hjn := (List.getElem?_eq_some_iff.1 hj2).1; rw [List.getElem?_take_of_lt (by omega), List.getElem?_drop] at hj2
           rw [show off + a.2 + j = off + (a.2 + j) by omega, g.cell (List.getElem?_eq_some_iff.1 hj2).1, hj2])
         rw [← hvs]
         have hsz : ((vs.drop a.2).take n).toArray.size = n := by simpa using hlen
         rw [hsz] at this; exact this
       rw [run_bytesToString (P := P) w _ n _ _ hload]; have := fold_str l []; rw [show str [] = ByteArray.empty from rfl] at this; rw [this]; rfl
     · cases hy
   · cases hy
 · cases hy
end
end Go.Ev
namespace Go.Ev
open Go Go.Vc
noncomputable section
variable {P : Program} {base : Bs} {σ : Sg} {s : St} {w w' : World}
def partX (P : Program) (e : TypeId) (xs : List X) (off : Nat) : Option X := match P.underlying e with
 | some (.struct _) | some (.array _ _) => (match P.info? e with
   | some i => some (.g ((xs.drop off).take i.size))
   | none => none)
 | some _ => xs[off]?
 | none => none
theorem cut_arr (vs : List Value) (a n : Nat) : vs.toArray.extract a (a + n) = ((vs.drop a).take n).toArray := by
 apply Array.ext'; rw [Array.toList_extract, List.extract_eq_take_drop]; simp
theorem partX_ok {e : TypeId} {xs : List X} {off : Nat} {x : X} {vs : List Value} (h : partX P e xs off = some x) (hv : vls σ xs = some vs) : ∃ v, vl σ x = some v ∧ ∀ w, (part e vs.toArray off).run P w = .ok v w := by
 unfold partX at h
 have big : ∀ d, P.underlying e = some d → ((∃ fs, d = .struct fs) ∨ ∃ n e, d = .array n e) → (match P.info? e with
   | some i => some (X.g ((xs.drop off).take i.size))
   | none => none) = some x → ∃ v, vl σ x = some v ∧ ∀ w, (part e vs.toArray off).run P w = .ok v w := by
   intro d hu hd h
   cases hi : P.info? e with
   | none => rw [hi] at h; cases h
   | some i =>
     rw [hi] at h; obtain rfl := Option.some.inj h; refine ⟨.agg ((vs.drop off).take i.size).toArray, ?_, fun w => ?_⟩
     · simp only [vl, vls_take i.size (vls_drop off hv)]
     · simp only [part, Sem.run_bind, run_agg_yes hu hd, Result.andThen_ok, if_true, run_sz hi, Sem.run_pure, cut_arr]
 cases hu : P.underlying e with
 | none => rw [hu] at h; cases h
 | some d =>
   rw [hu] at h
   cases d with
   | struct fs => exact big _ hu (.inl ⟨_, rfl⟩) h
   | array n a => exact big _ hu (.inr ⟨_, _, rfl⟩) h
   | _ =>
     obtain ⟨v, g1, g2⟩ := vls_get hv h; refine ⟨v, g2, fun w => ?_⟩
     have g1' : vs.toArray[off]? = some v := by simpa using g1
     simp only [part, Sem.run_bind, run_agg_no hu (fun fs h => by cases h) (fun n e h => by cases h), Result.andThen_ok, Bool.false_eq_true, if_false, g1', Sem.run_pure]
def eq1 : TypeDesc → X → X → Option Bool
 | .bool, .b a, .b b => some (a == b)
 | .int _, .i k a, .i k' b => (match decide (k = k') with
   | true => some (a == b)
   | false => none)
 | .string, .s a, .s b => some (eqN a b)
 | .pointer _, .p none, .p b => some b.isNone
 | .pointer _, .p (some _), .p none => some false
 | .interface _, .ni, .ni => some true
 | .interface _, .ni, .fc _ _ => some false
 | .interface _, .fc _ _, .ni => some false
 | .slice _, .l none _ _, .l b _ _ => some b.isNone
 | .slice _, .l (some _) _ _, .l none _ _ => some false
 | .slice _, .e0 _ _ _, .l none _ _ => some false
 | .slice _, .l none _ _, .e0 _ _ _ => some false
 | .map _ _, .m none, .m b => some b.isNone
 | .map _ _, .m (some _), .m none => some false
 | .func _ _ _, .nf, .nf => some true
 | .func _ _ _, .nf, .f _ _ _ => some false
 | .func _ _ _, .f _ _ _, .nf => some false
 | _, _, _ => none
theorem vl_ps {a : Nat × Nat} {v : Value} (h : vl σ (.p (some a)) = some v) : ∃ q, v = .pointer (some q) := by
 simp only [vl] at h
 cases hs : σ a.1 with
 | none => rw [hs] at h; cases h
 | some r => rw [hs] at h; exact ⟨_, (Option.some.inj h).symm⟩
theorem vl_ls {a : Nat × Nat} {n c : Nat} {v : Value} (h : vl σ (.l (some a) n c) = some v) : ∃ q m d, v = .slice (some q) m d := by
 simp only [vl] at h
 cases hs : σ a.1 with
 | none => rw [hs] at h; cases h
 | some r => rw [hs] at h; exact ⟨_, _, _, (Option.some.inj h).symm⟩
theorem vl_es {b o q : Nat} {v : Value} (h : vl σ (.e0 b o q) = some v) : ∃ p m, v = .slice (some p) 0 m := by
 simp only [vl] at h
 cases hs : σ b with
 | none => rw [hs] at h; cases h
 | some r => rw [hs] at h; exact ⟨_, _, (Option.some.inj h).symm⟩
theorem vl_ms {a : Nat} {v : Value} (h : vl σ (.m (some a)) = some v) : ∃ q, v = .map (some q) := by
 simp only [vl] at h
 cases hs : σ a with
 | none => rw [hs] at h; cases h
 | some r => rw [hs] at h; exact ⟨_, (Option.some.inj h).symm⟩
theorem vl_fs {fn : Fn} {a c : List X} {v : Value} (h : vl σ (.f fn a c) = some v) : ∃ us vs, v = .func fn us.toArray vs.toArray ∧ vls σ a = some us ∧ vls σ c = some vs := by
 simp only [vl] at h
 cases hs : vls σ a with
 | none => rw [hs] at h; cases h
 | some r =>
   cases hc : vls σ c with
   | none => rw [hs, hc] at h; cases h
   | some r' => rw [hs, hc] at h; exact ⟨_, _, (Option.some.inj h).symm, rfl, rfl⟩
theorem vl_fcs {t : TypeId} {x : X} {v : Value} (h : vl σ (.fc t x) = some v) : ∃ u, v = .iface t u ∧ vl σ x = some u := by
 simp only [vl] at h
 cases hs : vl σ x with
 | none => rw [hs] at h; cases h
 | some r => rw [hs] at h; exact ⟨_, (Option.some.inj h).symm, rfl⟩
theorem eq1_ok {t : TypeId} {d : TypeDesc} {x y : X} {u v : Value} {b : Bool} (hu : P.underlying t = some d) (h : eq1 d x y = some b) (hx : vl σ x = some u) (hy : vl σ y = some v) (D : Nat) (w : World) : (Op.equalIn (D + 1) t u v).run P w = .ok b w := by
 unfold eq1 at h; split at h
 · simp only [vl, Option.some.injEq] at hx hy h; subst hx; subst hy; subst h; exact run_equalIn_bool' w D t _ _ hu
 · split at h
   · rename_i hk; have hk := of_decide_eq_true hk; subst hk; simp only [vl, Option.some.injEq] at hx hy h; subst hx; subst hy; subst h; exact run_equalIn_int w D t _ _ _ _ hu
   · cases h
 · simp only [vl, Option.some.injEq] at hx hy h; subst hx; subst hy; subst h; rw [run_equalIn_string w D t _ _ hu, eqN_spec, seq_eq]
 · rename_i q; simp only [vl, Option.some.injEq] at hx h; subst hx; subst h
   cases q with
   | none => simp only [vl, Option.some.injEq] at hy; subst hy; simp [Op.equalIn, run_underlying hu]
   | some q => obtain ⟨q', rfl⟩ := vl_ps hy; simp [Op.equalIn, run_underlying hu]
 · simp only [vl, Option.some.injEq] at hy h; subst hy; subst h; obtain ⟨q', rfl⟩ := vl_ps hx; simp [Op.equalIn, run_underlying hu]
 · simp only [vl, Option.some.injEq] at hx hy h; subst hx; subst hy; subst h; simp [Op.equalIn, run_underlying hu]
 · simp only [vl, Option.some.injEq] at hx h; subst hx; subst h; obtain ⟨q', rfl, _⟩ := vl_fcs hy; simp [Op.equalIn, run_underlying hu]
 · simp only [vl, Option.some.injEq] at hy h; subst hy; subst h; obtain ⟨q', rfl, _⟩ := vl_fcs hx; simp [Op.equalIn, run_underlying hu]
 · rename_i q _ _; simp only [vl, Option.some.injEq] at hx h; subst hx; subst h
   cases q with
   | none => simp only [vl, Option.some.injEq] at hy; subst hy; simp [Op.equalIn, run_underlying hu]
   | some q => obtain ⟨q', _, _, rfl⟩ := vl_ls hy; simp [Op.equalIn, run_underlying hu]
 · simp only [vl, Option.some.injEq] at hy h; subst hy; subst h; obtain ⟨q', _, _, rfl⟩ := vl_ls hx; simp [Op.equalIn, run_underlying hu]
 · simp only [vl, Option.some.injEq] at hy h; subst hy; subst h; obtain ⟨q', _, rfl⟩ := vl_es hx; simp [Op.equalIn, run_underlying hu]
 · simp only [vl, Option.some.injEq] at hx h; subst hx; subst h; obtain ⟨q', _, rfl⟩ := vl_es hy; simp [Op.equalIn, run_underlying hu]
 · rename_i q; simp only [vl, Option.some.injEq] at hx h; subst hx; subst h
   cases q with
   | none => simp only [vl, Option.some.injEq] at hy; subst hy; simp [Op.equalIn, run_underlying hu]
   | some q => obtain ⟨q', rfl⟩ := vl_ms hy; simp [Op.equalIn, run_underlying hu]
 · simp only [vl, Option.some.injEq] at hy h; subst hy; subst h; obtain ⟨q', rfl⟩ := vl_ms hx; simp [Op.equalIn, run_underlying hu]
 · simp only [vl, Option.some.injEq] at hx hy h; subst hx; subst hy; subst h; simp [Op.equalIn, run_underlying hu]
 · simp only [vl, Option.some.injEq] at hx h; subst hx; subst h; obtain ⟨_, _, rfl, _⟩ := vl_fs hy; simp [Op.equalIn, run_underlying hu]
 · simp only [vl, Option.some.injEq] at hy h; subst hy; subst h; obtain ⟨_, _, rfl, _⟩ := vl_fs hx; simp [Op.equalIn, run_underlying hu]
 · cases h
def eqFs (P : Program) (eq : TypeId → X → X → Option Bool) (xs ys : List X) : List Field → Option Bool
 | [] => some true
 | f :: fs => match f.name == "_" with
   | true => eqFs P eq xs ys fs
   | false => (match partX P f.type xs f.offset, partX P f.type ys f.offset with
     | some a, some b => (match eq f.type a b with
       | some true => eqFs P eq xs ys fs
       | some false => some false
       | none => none)
     | _, _ => none)
def eqIs (P : Program) (eq : TypeId → X → X → Option Bool) (e : TypeId) (c : Nat) (xs ys : List X) : List Nat → Option Bool
 | [] => some true
 | i :: is => (match partX P e xs (i * c), partX P e ys (i * c) with
   | some a, some b => (match eq e a b with
     | some true => eqIs P eq e c xs ys is
     | some false => some false
     | none => none)
   | _, _ => none)
def eqT (P : Program) : Nat → TypeId → X → X → Option Bool
 | 0, _, _, _ => none
 | d + 1, t, x, y => match P.underlying t with
   | some (.struct fs) => (match P.stoodInHeld t, x, y with
     | false, .g xs, .g ys => eqFs P (eqT P d) xs ys fs.toList
     | _, _, _ => none)
   | some (.array n e) => (match P.info? e, x, y with
     | some i, .g xs, .g ys => eqIs P (eqT P d) e i.size xs ys (List.range n)
     | _, _, _ => none)
   | some k => eq1 k x y
   | none => none
def EqOk (P : Program) (σ : Sg) (D : Nat) (eq : TypeId → X → X → Option Bool) : Prop := ∀ t x y u v b, eq t x y = some b → vl σ x = some u → vl σ y = some v → ∀ w, (Op.equalIn D t u v).run P w = .ok b w
theorem eqFs_ok {D : Nat} {eq : TypeId → X → X → Option Bool} (he : EqOk P σ D eq) {xs ys : List X} {us vs : List Value} (hx : vls σ xs = some us) (hy : vls σ ys = some vs) : ∀ {fs : List Field} {b : Bool}, eqFs P eq xs ys fs = some b → ∀ w, (Op.eqFields D us.toArray vs.toArray fs).run P w = .ok b w
 | [], b, h, w => by obtain rfl := Option.some.inj h; rfl
 | f :: fs, b, h, w => by
   simp only [eqFs] at h; unfold Op.eqFields
   cases hn : f.name == "_" with
   | true =>
     rw [hn] at h
     have hn' : f.name = "_" := by simpa using hn
     rw [if_neg (by simp [hn'])]; exact eqFs_ok he hx hy h w
   | false =>
     rw [hn] at h
     have hn' : f.name ≠ "_" := by simpa using hn
     rw [if_pos hn']; simp only at h; split at h
     · rename_i a c ha hc; obtain ⟨v1, g1, g2⟩ := partX_ok ha hx; obtain ⟨v2, g3, g4⟩ := partX_ok hc hy; split at h
       · rename_i hb; simp only [Sem.run_bind, g2, g4, Result.andThen_ok, he _ _ _ _ _ _ hb g1 g3, Bool.not_true, Bool.false_eq_true, if_false]; exact eqFs_ok he hx hy h w
       · rename_i hb; obtain rfl := Option.some.inj h; simp only [Sem.run_bind, g2, g4, Result.andThen_ok, he _ _ _ _ _ _ hb g1 g3, Bool.not_false, if_true, Sem.run_pure]
       · cases h
     · cases h
theorem eqIs_ok {D : Nat} {eq : TypeId → X → X → Option Bool} (he : EqOk P σ D eq) {e : TypeId} {xs ys : List X} {us vs : List Value} {c : Nat} (hx : vls σ xs = some us) (hy : vls σ ys = some vs) : ∀ {is : List Nat} {b : Bool}, eqIs P eq e c xs ys is = some b → ∀ w, (Op.eqItems D e c us.toArray vs.toArray is).run P w = .ok b w
 | [], b, h, w => by obtain rfl := Option.some.inj h; rfl
 | i :: is, b, h, w => by
   simp only [eqIs] at h; unfold Op.eqItems; split at h
   · rename_i a q ha hc; obtain ⟨v1, g1, g2⟩ := partX_ok ha hx; obtain ⟨v2, g3, g4⟩ := partX_ok hc hy; split at h
     · rename_i hb; simp only [Sem.run_bind, g2, g4, Result.andThen_ok, he _ _ _ _ _ _ hb g1 g3, Bool.not_true, Bool.false_eq_true, if_false]; exact eqIs_ok he hx hy h w
     · rename_i hb; obtain rfl := Option.some.inj h; simp only [Sem.run_bind, g2, g4, Result.andThen_ok, he _ _ _ _ _ _ hb g1 g3, Bool.not_false, if_true, Sem.run_pure]
     · cases h
   · cases h
theorem eqT_ok (k : Nat) : ∀ d, EqOk P σ (d + k) (eqT P d)
 | 0 => fun t x y u v b h => by simp only [eqT] at h; cases h
 | d + 1 => fun t x y u v b h hx hy w => by
   simp only [eqT] at h
   have hd : d + 1 + k = d + k + 1 := by omega
   rw [hd]
   cases hu : P.underlying t with
   | none => rw [hu] at h; cases h
   | some q =>
     rw [hu] at h
     cases q with
     | struct fs =>
       simp only at h; split at h
       · rename_i xs ys hp; simp only [vl] at hx hy
         cases h1 : vls σ xs with
         | none => rw [h1] at hx; cases hx
         | some us =>
           cases h2 : vls σ ys with
           | none => rw [h2] at hy; cases hy
           | some vs =>
             rw [h1] at hx; rw [h2] at hy; obtain rfl := Option.some.inj hx; obtain rfl := Option.some.inj hy
             have hf : P.fieldsOf t = fs := by unfold Program.fieldsOf; rw [hu]
             rw [run_equalIn_struct w (d + k) t _ _ (by rw [hf]; exact hu) hp, hf]; exact eqFs_ok (eqT_ok k d) h1 h2 h w
       · cases h
     | array n e =>
       simp only at h; split at h
       · rename_i i xs ys hi; simp only [vl] at hx hy
         cases h1 : vls σ xs with
         | none => rw [h1] at hx; cases hx
         | some us =>
           cases h2 : vls σ ys with
           | none => rw [h2] at hy; cases hy
           | some vs =>
             rw [h1] at hx; rw [h2] at hy; obtain rfl := Option.some.inj hx; obtain rfl := Option.some.inj hy; rw [run_equalIn_array w (d + k) _ _ hu hi, show P.cellsOf e = i.size by unfold Program.cellsOf; rw [hi]; rfl]; exact eqIs_ok (eqT_ok k d) h1 h2 h w
       · cases h
     | _ => exact eq1_ok hu h hx hy (d + k) w
def isC : Operand → Bool
 | .const _ => true
 | _ => false
def gdE (P : Program) (t : TypeId) (A B : Operand) : X → X → Bool
 | .ni, .ni => (match isC A with
   | true => true
   | false => isC B)
 | .g _, .g _ => (match P.eqGuardType P.depth t with
   | true => false
   | false => true)
 | _, _ => true
theorem isC_ok {A : Operand} (h : isC A = true) : ∃ v, A = .const v := by
 cases A with
 | const v => exact ⟨v, rfl⟩
 | _ => cases h
theorem vl_nil {x : X} (h : vl σ x = some .nilIface) : x = .ni := by
 cases x with
 | ni => rfl
 | p a => cases a with
   | none => simp [vl] at h
   | some a => obtain ⟨_, h⟩ := vl_ps h; cases h
 | l a n c => cases a with
   | none => simp [vl] at h
   | some a => obtain ⟨_, _, _, h⟩ := vl_ls h; cases h
 | m a => cases a with
   | none => simp [vl] at h
   | some a => obtain ⟨_, h⟩ := vl_ms h; cases h
 | f fn a c => obtain ⟨_, _, h, _⟩ := vl_fs h; cases h
 | e0 b o q => obtain ⟨_, _, h⟩ := vl_es h; cases h
 | fc t x => obtain ⟨_, h, _⟩ := vl_fcs h; cases h
 | g xs => simp only [vl] at h; cases hs : vls σ xs <;> rw [hs] at h <;> cases h
 | t xs => simp only [vl] at h; cases hs : vls σ xs <;> rw [hs] at h <;> cases h
 | _ => simp [vl] at h
theorem vl_agg {x : X} {cs : Array Value} (h : vl σ x = some (.agg cs)) : ∃ xs vs, x = .g xs ∧ vls σ xs = some vs ∧ cs = vs.toArray := by
 cases x with
 | g xs =>
   simp only [vl] at h
   cases hs : vls σ xs with
   | none => rw [hs] at h; cases h
   | some vs => rw [hs] at h; exact ⟨xs, vs, rfl, hs, by have := Option.some.inj h; cases this; rfl⟩
 | p a => cases a with
   | none => simp [vl] at h
   | some a => obtain ⟨_, h⟩ := vl_ps h; cases h
 | l a n c => cases a with
   | none => simp [vl] at h
   | some a => obtain ⟨_, _, _, h⟩ := vl_ls h; cases h
 | m a => cases a with
   | none => simp [vl] at h
   | some a => obtain ⟨_, h⟩ := vl_ms h; cases h
 | f fn a c => obtain ⟨_, _, h, _⟩ := vl_fs h; cases h
 | e0 b o q => obtain ⟨_, _, h⟩ := vl_es h; cases h
 | fc t x => obtain ⟨_, h, _⟩ := vl_fcs h; cases h
 | t xs => simp only [vl] at h; cases hs : vls σ xs <;> rw [hs] at h <;> cases h
 | _ => simp [vl] at h
theorem gd_main {t : TypeId} {A B : Operand} {u v : Value} {op : BinOp} (w : World) (hn : u = .nilIface → v = .nilIface → isC A = true ∨ isC B = true) (ha : ∀ cs ds, u = .agg cs → v = .agg ds → P.eqGuardType P.depth t = false) : (eqGuard op t A B u v).run P w = .ok () w := by
 have key : ∀ q : BinOp, (q = .eql ∨ q = .neq) → (eqGuard q t A B u v).run P w = .ok () w := by
   intro q hq; unfold eqGuard; rw [if_neg (by rcases hq with rfl | rfl <;> decide)]; split
   · rcases hn rfl rfl with h | h
     · obtain ⟨v, rfl⟩ := isC_ok h; rfl
     · obtain ⟨v, rfl⟩ := isC_ok h; simp
   · simp [run_program, ha _ _ rfl rfl]
   · rfl
 cases op with
 | eql => exact key _ (.inl rfl)
 | neq => exact key _ (.inr rfl)
 | _ => rfl
theorem gdE_ok {t : TypeId} {A B : Operand} {x y : X} {u v : Value} {op : BinOp} (h : gdE P t A B x y = true) (hx : vl σ x = some u) (hy : vl σ y = some v) (w : World) : (eqGuard op t A B u v).run P w = .ok () w := by
 refine gd_main w (fun h1 h2 => ?_) fun cs ds h1 h2 => ?_
 · subst h1; subst h2; have h1 := vl_nil hx; have h2 := vl_nil hy; subst h1; subst h2; simp only [gdE] at h
   cases hA : isC A with
   | true => exact .inl rfl
   | false => rw [hA] at h; exact .inr h
 · subst h1; subst h2; obtain ⟨xs, us, rfl, _⟩ := vl_agg hx; obtain ⟨ys, vs, rfl, _⟩ := vl_agg hy; simp only [gdE] at h
   cases hg : P.eqGuardType P.depth t with
   | true => rw [hg] at h; cases h
   | false => rfl
def beX (P : Program) (op : BinOp) (t : TypeId) (A B : Operand) (x y : Option X) : Option X := match x, y with
 | some x, some y => (match gdE P t A B x y with
   | true => (match op with
     | .eql => (match eqT P 20 t x y with
       | some b => some (.b b)
       | none => none)
     | .neq => (match eqT P 20 t x y with
       | some b => some (.b (!b))
       | none => none)
     | _ => none)
   | false => none)
 | _, _ => none
def oddV : Value → Bool
 | .agg _ | .slice _ _ _ | .map _ | .func _ _ _ | .nilFunc | .iface _ _ | .nilIface => true
 | _ => false
theorem eq1_odd {d : TypeDesc} {x y : X} {u v : Value} {b : Bool} (h1 : ∀ k, d ≠ .int k) (h2 : d ≠ .string) (h3 : d ≠ .bool) (h4 : ∀ e, d ≠ .pointer e) (h : eq1 d x y = some b) (hx : vl σ x = some u) (hy : vl σ y = some v) : oddV u = true := by
 unfold eq1 at h; split at h
 · exact absurd rfl h3
 · exact absurd rfl (h1 _)
 · exact absurd rfl h2
 · exact absurd rfl (h4 _)
 · exact absurd rfl (h4 _)
 · simp only [vl, Option.some.injEq] at hx; subst hx; rfl
 · simp only [vl, Option.some.injEq] at hx; subst hx; rfl
 · obtain ⟨_, rfl, _⟩ := vl_fcs hx; rfl
 · simp only [vl, Option.some.injEq] at hx; subst hx; rfl
 · obtain ⟨_, _, _, rfl⟩ := vl_ls hx; rfl
 · obtain ⟨_, _, rfl⟩ := vl_es hx; rfl
 · simp only [vl, Option.some.injEq] at hx; subst hx; rfl
 · simp only [vl, Option.some.injEq] at hx; subst hx; rfl
 · obtain ⟨_, rfl⟩ := vl_ms hx; rfl
 · simp only [vl, Option.some.injEq] at hx; subst hx; rfl
 · simp only [vl, Option.some.injEq] at hx; subst hx; rfl
 · obtain ⟨_, _, rfl, _⟩ := vl_fs hx; rfl
 · cases h
theorem eqT_odd {t : TypeId} {d : TypeDesc} {n : Nat} {x y : X} {u v : Value} {b : Bool} (hd : P.underlying t = some d) (h1 : ∀ k, d ≠ .int k) (h2 : d ≠ .string) (h3 : d ≠ .bool) (h4 : ∀ e, d ≠ .pointer e) (h : eqT P n t x y = some b) (hx : vl σ x = some u) (hy : vl σ y = some v) : oddV u = true := by
 cases n with
 | zero => simp only [eqT] at h; cases h
 | succ n =>
   simp only [eqT, hd] at h
   cases d with
   | struct fs =>
     simp only at h; split at h
     · simp only [vl] at hx; rename_i xs ys hp
       cases hs : vls σ xs <;> rw [hs] at hx
       · cases hx
       · obtain rfl := Option.some.inj hx; rfl
     · cases h
   | array n e =>
     simp only at h; split at h
     · simp only [vl] at hx; rename_i i xs ys hp
       cases hs : vls σ xs <;> rw [hs] at hx
       · cases hx
       · obtain rfl := Option.some.inj hx; rfl
     · cases h
   | _ => exact eq1_odd h1 h2 h3 h4 h hx hy
theorem beX_ok {t : TypeId} {d : TypeDesc} {op : BinOp} {A B : Operand} {x y : Option X} {z : X} {f : Operand → Value} (hd : P.underlying t = some d) (h1 : ∀ k, d ≠ .int k) (h2 : d ≠ .string) (h3 : d ≠ .bool) (h4 : ∀ e, d ≠ .pointer e)
   (h : beX P op t A B x y = some z) (hx : ∀ a, x = some a → vl σ a = some (f A)) (hy : ∀ a, y = some a → vl σ a = some (f B)) {w : World} {K : Value → Prop} (hK : ∀ v, vl σ z = some v → K v) : Be P op t A B (f A) (f B) w K := by
 unfold beX at h; split at h
 · rename_i x y; have hx := hx _ rfl; have hy := hy _ rfl; split at h
   · rename_i hg; have gd := fun w => gdE_ok (op := op) hg hx hy w; have fin : ∀ b : Bool, eqT P 20 t x y = some b → (Op.equal t (f A) (f B)).run P w = .ok b w ∧ oddV (f A) = true := fun b hb => ⟨eqT_ok 9980 20 t x y _ _ b hb hx hy w, eqT_odd hd h1 h2 h3 h4 hb hx hy⟩; split at h
     · split at h
       · rename_i b hb; obtain rfl := Option.some.inj h; obtain ⟨g1, g2⟩ := fin b hb; refine ⟨.bool b, ?_, hK _ rfl⟩; rw [Sem.run_bind, gd w]; simp only [Result.andThen_ok]; clear fin gd hK hx hy; generalize f A = p at g1 g2 ⊢; generalize f B = q at g1 ⊢
         cases p <;> first | exact Bool.noConfusion g2 | (cases q <;> simp only [binOp, Sem.run_bind, g1, Result.andThen_ok, Sem.run_pure])
       · cases h
     · split at h
       · rename_i b hb; obtain rfl := Option.some.inj h; obtain ⟨g1, g2⟩ := fin b hb; refine ⟨.bool (!b), ?_, hK _ rfl⟩; rw [Sem.run_bind, gd w]; simp only [Result.andThen_ok]; clear fin gd hK hx hy; generalize f A = p at g1 g2 ⊢; generalize f B = q at g1 ⊢
         cases p <;> first | exact Bool.noConfusion g2 | (cases q <;> simp only [binOp, Sem.run_bind, g1, Result.andThen_ok, Sem.run_pure])
       · cases h
     · cases h
   · cases h
 · cases h
theorem mgetObj {r : Nat} {es : Array MapEntry} {clock : Nat} (hb : w.heap[r]? = some (.map es clock)) : (getObj r).run P w = .ok (.map es clock) w := by
 simp [getObj, Sem.run, hb]
theorem msetObj {r : Nat} {es : Array MapEntry} {clock : Nat} (o : Obj) (hb : w.heap[r]? = some (.map es clock)) : (setObj r o).run P w = .ok () { w with heap := w.heap.setIfInBounds r o } := by
 simp [setObj, Sem.run, hb]
theorem mfindKey {kt : TypeId} {d : TypeDesc} {k : Value} {l : List MapEntry} {a : Option (Nat × Value)} (hd : P.underlying kt = some d) (h : Instr.findNow d k l 0 = some a) : (Instr.findKey kt k l).run P w = .ok a w := by
 simp [Instr.findKey, run_underlying hd, Result.andThen, h]
def keyOk : TypeDesc → X → Bool
 | .int _, .i _ _ => true
 | .string, .s _ => true
 | _, _ => false
def keyEq : X → X → Option Bool
 | .i k a, .i k' b => (match decide (k = k') with
   | true => some (a == b)
   | false => none)
 | .s a, .s b => some (eqN a b)
 | _, _ => none
def findX (k : X) : List (X × X) → Nat → Option (Option (Nat × X))
 | [], _ => some none
 | e :: es, i => match keyEq k e.1 with
   | some true => some (some (i, e.2))
   | some false => findX k es (i + 1)
   | none => none
theorem keyEq_ok {d : TypeDesc} {x y : X} {u v : Value} {b : Bool} (hk : keyOk d x = true) (h : keyEq x y = some b) (hx : vl σ x = some u) (hy : vl σ y = some v) : Instr.sameNow d u v = some b := by
 unfold keyEq at h; split at h
 · split at h
   · rename_i hk'; have hk' := of_decide_eq_true hk'; subst hk'; simp only [vl, Option.some.injEq] at hx hy h; subst hx; subst hy; subst h
     cases d <;> simp [keyOk] at hk
     simp [Instr.sameNow]
   · cases h
 · simp only [vl, Option.some.injEq] at hx hy h; subst hx; subst hy; subst h
   cases d <;> simp [keyOk] at hk
   simp only [Instr.sameNow]; rw [beq_toListBytes, seq_eq, eqN_spec]
 · cases h
def FX (σ : Sg) (k : X) (es : List (X × X)) (i : Nat) : Option (Nat × X) → Option (Nat × Value) → Prop
 | none, none => True
 | some r, some q => r.1 = q.1 ∧ vl σ r.2 = some q.2 ∧ i ≤ r.1 ∧ (∃ e, es[r.1 - i]? = some e ∧ keyEq k e.1 = some true)
 | _, _ => False
theorem findX_ok {d : TypeDesc} {k : X} {kv : Value} (hk : keyOk d k = true) (hv : vl σ k = some kv) : ∀ {es : List (X × X)} {l : List MapEntry} {i : Nat} {r : Option (Nat × X)}, EsR σ es l → findX k es i = some r →
   ∃ q, Instr.findNow d kv l i = some q ∧ FX σ k es i r q
 | [], [], i, r, _, h => by
   obtain rfl := Option.some.inj h; exact ⟨none, rfl, trivial⟩
 | (a, b) :: es, e :: l, i, r, ⟨h1, h2, h3⟩, h => by
   simp only [findX] at h
   cases hq : keyEq k a with
   | none => rw [hq] at h; cases h
   | some c =>
     have hs := keyEq_ok hk hq hv h1; rw [hq] at h
     cases c with
     | true =>
       obtain rfl := Option.some.inj h; exact ⟨some (i, e.val), by simp [Instr.findNow, hs], rfl, h2, Nat.le_refl _, (a, b), by simp, hq⟩
     | false =>
       obtain ⟨q, g1, g2⟩ := findX_ok hk hv (i := i + 1) h3 h; refine ⟨q, by simp [Instr.findNow, hs, g1], ?_⟩
       cases r with
       | none =>
         cases q with
         | none => trivial
         | some q => exact g2.elim
       | some r =>
         obtain ⟨j, x⟩ := r
         cases q with
         | none => exact g2.elim
         | some q =>
           obtain ⟨j', v⟩ := q; obtain ⟨e1, e2, e3, e', e4, e5⟩ := g2; refine ⟨e1, e2, Nat.le_of_succ_le e3, e', ?_, e5⟩; show ((a, b) :: es)[j - i]? = _; have e3' : i + 1 ≤ j := e3; rw [show j - i = (j - (i + 1)) + 1 by omega, List.getElem?_cons_succ]; exact e4
 | [], _ :: _, _, _, h, _ => h.elim
 | _ :: _, [], _, _, h, _ => h.elim
theorem checkKey_ok {d : TypeDesc} {kt : TypeId} {k : X} {kv : Value} (hd : P.underlying kt = some d) (hk : keyOk d k = true) (hv : vl σ k = some kv) (e : Bool) (n : Nat) (w : World) : (Instr.checkKey e (n + 1) kt kv).run P w = .ok () w := by
 unfold Instr.checkKey; simp only [Sem.run_bind, run_underlying hd, Result.andThen]
 cases d <;> cases k <;> simp [keyOk] at hk
 all_goals (simp only [vl, Option.some.injEq] at hv; subst hv; rfl)
def zeroVX (P : Program) (t : TypeId) : Option X := match P.info? t with
 | some i => (match i.zero with
   | some (.agg cs) => (match ofVs cs.toList with
     | some xs => some (.g xs)
     | none => none)
   | some z => ofV z
   | none => none)
 | none => none
theorem zeroVX_ok {t : TypeId} {x : X} (h : zeroVX P t = some x) : ∃ z, vl σ x = some z ∧ ∀ w, (zeroValue t).run P w = .ok z w := by
 unfold zeroVX at h; split at h
 · rename_i i hi
   have run : ∀ z, i.zero = some z → ∀ w, (zeroValue t).run P w = .ok z w := fun z hz w => by simp [zeroValue, typeInfo, hi, hz]
   split at h
   · rename_i cs hz; split at h
     · rename_i xs hxs; obtain rfl := Option.some.inj h; refine ⟨_, ?_, run _ hz⟩; simp only [vl, vls_ofVs hxs]
     · cases h
   · rename_i z _ hz; exact ⟨_, vl_ofV h, run _ hz⟩
   · cases h
 · cases h
def esX (s : St) : Option Nat → Option (List (X × X))
 | none => some []
 | some b => (match s.mo b with
   | some (.mp es) => some es
   | _ => none)
def lkR (ok : Bool) (v : X) (b : Bool) : X := match ok with
 | true => .t [v, .b b]
 | false => v
def lkX (P : Program) (s : St) (t : TypeId) (x i : Option X) (ok : Bool) : Option X := match P.underlying t, x, i with
 | some (.map k e), some (.m b), some i => (match P.underlying k, esX s b with
   | some d, some es => (match keyOk d i, findX i es 0 with
     | true, some (some q) => some (lkR ok q.2 true)
     | true, some none => (match zeroVX P e with
       | some z => some (lkR ok z false)
       | none => none)
     | _, _ => none)
   | _, _ => none)
 | _, _, _ => none
theorem lkR_ok {ok b : Bool} {x : X} {v : Value} (h : vl σ x = some v) : vl σ (lkR ok x b) = some (if ok then .tuple #[v, .bool b] else v) := by
 cases ok with
 | true => simp only [lkR, vl, vls, h]; rfl
 | false => exact h
theorem lkX_ok (hM : Mem P base σ s w) {t : TypeId} {x i : Option X} {ok : Bool} {z : X} {u v : Value} (h : lkX P s t x i ok = some z) (hx : ∀ a, x = some a → vl σ a = some u) (hi : ∀ a, i = some a → vl σ a = some v) {K : Value → Prop} (hK : ∀ v, vl σ z = some v → K v) : Lk P t u v ok w K := by
 unfold lkX at h; split at h
 · rename_i k e b i ht; have hx := hx _ rfl; have hi := hi _ rfl; split at h
   · rename_i d es hd hes
     -- the entries
     have hent : ∃ l : List MapEntry, EsR σ es l ∧ ((u = .map none ∧ l = []) ∨ ∃ rb clock, u = .map (some rb) ∧ w.heap[rb]? = some (.map l.toArray clock)) := by
       cases b with
       | none =>
         simp only [vl, Option.some.injEq] at hx; obtain rfl := Option.some.inj hes; exact ⟨[], trivial, .inl ⟨hx.symm, rfl⟩⟩
       | some b =>
         simp only [esX] at hes; split at hes
         · rename_i es' hb; obtain rfl := Option.some.inj hes; obtain ⟨rb, g1, g2, l, clock, g3, g4⟩ := hM.mown b _ hb; simp only [vl, g1, Option.some.injEq] at hx; exact ⟨l, g4, .inr ⟨rb, clock, hx.symm, g3⟩⟩
         · cases hes
     obtain ⟨l, hE, hu⟩ := hent
     have fin : ∀ r, keyOk d i = true → findX i es 0 = some r → ∀ (z' : X) (zv : Value), (match r with
         | some q => z' = q.2 ∧ vl σ z' = some zv
         | none => zeroVX P e = some z' ∧ vl σ z' = some zv) → z = lkR ok z' r.isSome → Lk P t u v ok w K := by
       intro r hk hf z' zv hz hzz; obtain ⟨q, g1, g2⟩ := findX_ok hk hi hE hf; have hfk := mfindKey (P := P) (w := w) hd g1; have hck : ∀ b, (Instr.checkKey b 10000 k v).run P w = .ok () w := fun b => checkKey_ok hd hk hi b 9999 w
       refine ⟨if ok then .tuple #[zv, .bool r.isSome] else zv, ?_, hK _ (by rw [hzz]; exact lkR_ok (by
         cases r with
         | none => exact hz.2
         | some r => exact hz.2))⟩
       unfold Instr.lookup; rw [Sem.run_bind, run_underlying ht]
       cases r with
       | none =>
         cases q with
         | some q => exact g2.elim
         | none =>
           obtain ⟨zv', e1, e2⟩ := zeroVX_ok (σ := σ) hz.1; rw [hz.2] at e1; obtain rfl := Option.some.inj e1; rcases hu with ⟨rfl, rfl⟩ | ⟨rb, clock, rfl, g3⟩
           · simp only [Result.andThen_ok, Sem.run_bind, Sem.run_pure, hck, List.toList_toArray, hfk, e2, Option.isSome_none]
           · simp only [Result.andThen_ok, Sem.run_bind, Sem.run_pure, mgetObj g3, hck, List.toList_toArray, hfk, e2, Option.isSome_none]
       | some r =>
         obtain ⟨j, x'⟩ := r
         cases q with
         | none => exact g2.elim
         | some q =>
           obtain ⟨j', v'⟩ := q; obtain ⟨_, e2, _⟩ := g2; obtain ⟨rfl, e3⟩ := hz; simp only at e2 e3; rw [e2] at e3; obtain rfl := Option.some.inj e3; rcases hu with ⟨rfl, rfl⟩ | ⟨rb, clock, rfl, g3⟩
           · simp only [Result.andThen_ok, Sem.run_bind, Sem.run_pure, hck, List.toList_toArray, hfk, Option.isSome_some]
           · simp only [Result.andThen_ok, Sem.run_bind, Sem.run_pure, mgetObj g3, hck, List.toList_toArray, hfk, Option.isSome_some]
     split at h
     · rename_i q hk hf; obtain rfl := Option.some.inj h; obtain ⟨q', g1, g2⟩ := findX_ok hk hi hE hf
       cases q' with
       | none => exact g2.elim
       | some q' => exact fin (some q) hk hf q.2 q'.2 ⟨rfl, g2.2.1⟩ rfl
     · rename_i hk hf; split at h
       · rename_i z' hz; obtain rfl := Option.some.inj h; obtain ⟨zv, e1, _⟩ := zeroVX_ok (σ := σ) hz; exact fin none hk hf z' zv ⟨hz, e1⟩ rfl
       · cases h
     · cases h
   · cases h
 · cases h
def methX (P : Program) (t : TypeId) (name : String) : Option FuncId := match P.info? t, P.underlying t with
 | some i, some (.pointer _) => (match i.methods.toList.find? (·.name == name) with
   | some m => (match m.path.isEmpty, m.func with
     | true, some (f, true) => some f
     | _, _ => none)
   | none => none)
 | _, _ => none
theorem methX_ok {t : TypeId} {name : String} {f : FuncId} {v : Value} (h : methX P t name = some f) (n : Nat) (w : World) : (method (n + 1) t v name).run P w = .ok (f, v) w := by
 unfold methX at h; split at h
 · rename_i i e hi hu; split at h
   · rename_i m hm; split at h
     · rename_i f' hp hf; obtain rfl := Option.some.inj h
       have hm' : i.methods.find? (·.name == name) = some m := by rw [← hm, Array.find?_toList]
       have hpath : m.path.toList = [] := by
         have := Array.isEmpty_iff.1 hp; rw [this]
       unfold method; rw [Sem.run_bind, show (typeInfo t).run P w = .ok i w by simp [typeInfo, hi]]; simp only [Result.andThen_ok, hm', hpath, follow, Sem.run_bind, Sem.run_pure, hf]; simp only [receiverAt, Sem.run_bind, run_underlying hu, Result.andThen_ok, Place.get, Sem.run_pure]
     · cases h
   · cases h
 · cases h
def taR (ok : Bool) (x : X) : Option X := some (match ok with
 | true => .t [x, .b true]
 | false => x)
def taF (P : Program) (a : TypeId) (ok : Bool) : Option X := match ok, zeroVX P a with
 | true, some z => some (.t [z, .b false])
 | _, _ => none
def missB (want : Array (String × TypeId)) (got : Array Method) : Bool := (want.toList.filter fun x => !got.any fun m => m.name == x.1 && m.sig == x.2).isEmpty
def taI (P : Program) (a : TypeId) (ok : Bool) (want : Array (String × TypeId)) : X → Option X
 | .ni => taF P a ok
 | .fc t x => (match P.info? t with
   | some i => (match missB want i.methods with
     | true => taR ok (.fc t x)
     | false => taF P a ok)
   | none => none)
 | _ => none
def taC (P : Program) (a : TypeId) (ok : Bool) : X → Option X
 | .ni => taF P a ok
 | .fc t x => (match Nat.beq t a with
   | true => taR ok x
   | false => taF P a ok)
 | _ => none
def taX (P : Program) (a : TypeId) (ok : Bool) (x : Option X) : Option X := match P.underlying a, x with
 | some (.interface want), some x => taI P a ok want x
 | some _, some x => taC P a ok x
 | _, _ => none
theorem taR_ok {ok : Bool} {x z : X} {v : Value} (h : taR ok x = some z) (hx : vl σ x = some v) : vl σ z = some (if ok then .tuple #[v, .bool true] else v) := by
 obtain rfl := Option.some.inj h
 cases ok with
 | true => simp only [vl, vls, hx]; rfl
 | false => exact hx
theorem taF_ok {a : TypeId} {ok : Bool} {z : X} (h : taF P a ok = some z) : ∃ v, ok = true ∧ vl σ z = some (.tuple #[v, .bool false]) ∧ ∀ w, (zeroValue a).run P w = .ok v w := by
 unfold taF at h; split at h
 · rename_i y hy; obtain rfl := Option.some.inj h; obtain ⟨v, h1, h2⟩ := zeroVX_ok (σ := σ) hy; refine ⟨v, rfl, ?_, h2⟩; simp only [vl, vls, h1]
 · cases h
theorem taX_ok {a xt : TypeId} {ok : Bool} {x : Option X} {z : X} {u : Value} (h : taX P a ok x = some z) (hx : ∀ b, x = some b → vl σ b = some u) {K : Value → Prop} (hK : ∀ v, vl σ z = some v → K v) : Ta P u xt a ok w K := by
 unfold taX at h; split at h
 · rename_i want x hu; have hx := hx _ rfl; unfold taI at h; split at h
   · simp only [vl, Option.some.injEq] at hx; subst hx; obtain ⟨v, rfl, h1, h2⟩ := taF_ok (σ := σ) h; refine ⟨_, ?_, hK _ h1⟩; simp [Instr.typeAssert, run_underlying hu, h2]
   · rename_i t y; obtain ⟨v, rfl, hv⟩ := vl_fcs hx; split at h
     · rename_i i hi; split at h
       · rename_i hm; refine ⟨_, ?_, hK _ (taR_ok h hx)⟩; have hm' : (want.toList.filter fun x => !i.methods.any fun m => m.name == x.1 && m.sig == x.2) = [] := List.isEmpty_iff.1 hm
         have hmm : Instr.missingMethod want i.methods = none := by
           unfold Instr.missingMethod; rw [hm']; rfl
         simp [Instr.typeAssert, run_underlying hu, typeInfo, hi, hmm]
       · rename_i hm; obtain ⟨v', rfl, h1, h2⟩ := taF_ok (σ := σ) h; exact r_taNo hu hi (fun e => by unfold missB at hm; rw [e] at hm; exact Bool.noConfusion hm) h2 (hK _ h1)
     · cases h
   · cases h
 · rename_i d x hni hu; have hx := hx _ rfl; unfold taC at h; split at h
   · simp only [vl, Option.some.injEq] at hx; subst hx; obtain ⟨v, rfl, h1, h2⟩ := taF_ok (σ := σ) h; refine ⟨_, ?_, hK _ h1⟩; simp only [Instr.typeAssert, run_underlying hu, Sem.run_bind, Result.andThen_ok]
     cases d <;> first | exact absurd rfl (hni _) | simp [h2]
   · rename_i t y; obtain ⟨v, rfl, hv⟩ := vl_fcs hx; split at h
     · rename_i ht; obtain rfl := Nat.eq_of_beq_eq_true ht; refine ⟨_, ?_, hK _ (taR_ok h hv)⟩; simp only [Instr.typeAssert, run_underlying hu, Sem.run_bind, Result.andThen_ok]
       cases d <;> first | exact absurd rfl (hni _) | simp
     · rename_i ht; have ht := Nat.ne_of_beq_eq_false ht; obtain ⟨v', rfl, h1, h2⟩ := taF_ok (σ := σ) h; refine ⟨_, ?_, hK _ h1⟩; simp only [Instr.typeAssert, run_underlying hu, Sem.run_bind, Result.andThen_ok]
       cases d <;> first | exact absurd rfl (hni _) | simp [h2, ht]
   · cases h
 · cases h
end
end Go.Ev
namespace Go.Ev
open Go Go.Vc
noncomputable section
variable {P : Program} {base : Bs} {w0 : World} {σ : Sg} {s : St} {w w' : World}
theorem rowAt_up {p : Program} {fits : TypeId → Bool} {d : Nat} {e : TypeId} {c c' o q n : Nat} (h : rowAt p fits d e c o n = true) (hc : c + q ≤ c') : rowAt p fits d e c' (q * p.cellsOf e + o) n = true := by
 cases d with
 | zero => simp [rowAt] at h
 | succ d =>
   unfold rowAt at h ⊢
   by_cases hs : p.cellsOf e = 0
   · simp [hs] at h
   · simp only [hs, if_false] at h ⊢
     have h1 : (q * p.cellsOf e + o) / p.cellsOf e = q + o / p.cellsOf e := by
       rw [Nat.add_comm, Nat.add_mul_div_right _ _ (Nat.pos_of_ne_zero hs), Nat.add_comm]
     have h2 : (q * p.cellsOf e + o) % p.cellsOf e = o % p.cellsOf e := by rw [Nat.add_comm, Nat.add_mul_mod_self_right]
     rw [h1, h2]; rw [Bool.or_eq_true] at h ⊢; rcases h with h | h
     · left; simp only [Bool.and_eq_true, decide_eq_true_eq] at h ⊢; exact ⟨⟨h.1.1, by have := h.1.2; omega⟩, h.2⟩
     · right; simp only [Bool.and_eq_true, decide_eq_true_eq] at h ⊢; exact ⟨by have := h.1; omega, h.2⟩
theorem liesAt_up {p : Program} {e : TypeId} {c c' o q : Nat} (hc : c + q ≤ c') : ∀ {d : Nat} {u : TypeId} {n : Nat}, liesAt p d e c o u n = true → liesAt p d e c' (q * p.cellsOf e + o) u n = true
 | 0, u, n, h => by simp [liesAt] at h
 | d + 1, u, n, h => by
   unfold liesAt at h ⊢; rw [Bool.or_eq_true] at h ⊢; rcases h with h | h
   · exact .inl (rowAt_up h hc)
   · right; split at h
     · rename_i m u' hu; exact liesAt_up hc h
     · cases h
theorem Own.shape {b e : Nat} {cs : List X} {rb off k : Nat} {pre vs sp post : List Value} (g : Own P base σ w b e cs rb off k pre vs sp post) : w.shape? rb = some (e, (pre ++ vs ++ sp ++ post).length) := by
 obtain ⟨fz, hh, _⟩ := g.heap; simp [World.shape?, hh]
def cpX (P : Program) (s : St) (q d : TypeId) (x : Option X) : Option X := match P.underlying q, P.underlying d, x with
 | some (.pointer _), some .unsafePointer, some (.p none) => some (.p none)
 | some (.pointer t), some .unsafePointer, some (.p (some a)) => (match s.blk a.1, P.info? t with
   | some cb, some i => (match Nat.blt a.2 cb.2.length, Nat.beq i.size 0 with
     | true, false => some (.p (some a))
     | _, _ => none)
   | _, _ => none)
 | some .unsafePointer, some (.pointer _), some (.p none) => some (.p none)
 | some .unsafePointer, some (.pointer u), some (.p (some a)) => (match s.blk a.1, P.info? u with
   | some cb, some i => (match Nat.blt 0 (szOf P cb.1), liesAt P P.depth cb.1 (cb.2.length / szOf P cb.1) a.2 u 1 with
     | true, true => some (.p (some a))
     | _, _ => none)
   | _, _ => none)
 | _, _, _ => none
theorem cellsOf_szOf {e : TypeId} (h : 0 < szOf P e) : P.cellsOf e = szOf P e := by
 unfold szOf at h ⊢; unfold Program.cellsOf
 cases hi : P.info? e with
 | none => rw [hi] at h; exact absurd h (Nat.lt_irrefl _)
 | some i => rfl
theorem cpX_ok (hM : Mem P base σ s w) {q d : TypeId} {x : Option X} {z : X} {u : Value} (h : cpX P s q d x = some z) (hx : ∀ a, x = some a → vl σ a = some u) : vl σ z = some u ∧ (convert q d u).run P w = .ok u w := by
 unfold cpX at h; split at h
 · rename_i t hq hd; obtain rfl := Option.some.inj h; have hx := hx _ rfl; simp only [vl, Option.some.injEq] at hx; subst hx; exact ⟨rfl, by simp [convert, run_underlying hq, run_underlying hd, Conv.unsafePointer]⟩
 · rename_i t a hq hd; have hx := hx _ rfl; split at h
   · rename_i cb i hb hi; split at h
     · rename_i h1 h2; obtain rfl := Option.some.inj h; refine ⟨hx, ?_⟩; obtain ⟨e, cs⟩ := cb; obtain ⟨rb, off, k, pre, vs, sp, post, g⟩ := hM.own a.1 e cs hb; have hx2 := hx; simp only [vl, g.sg_, Option.some.injEq] at hx2; subst hx2; have hsh := g.shape; have hl := vls_len g.val; have hp := g.pre_; have h1 := Nat.le_of_ble_eq_true h1
       have h2 : i.size ≠ 0 := fun e => by rw [e] at h2; cases h2
       simp only at h1
       have hlt : ¬ ((pre ++ vs ++ sp ++ post).length ≤ off + a.2) := by simp only [List.length_append]; omega
       simp only [List.length_append] at hlt hsh; simp [convert, run_underlying hq, run_underlying hd, Conv.unsafePointer, Conv.seenAt, viewAt, cellsIn, hsh, run_sz hi, h2, hlt]
     · cases h
   · cases h
 · rename_i t hq hd; obtain rfl := Option.some.inj h; have hx := hx _ rfl; simp only [vl, Option.some.injEq] at hx; subst hx; exact ⟨rfl, by simp [convert, run_underlying hq, run_underlying hd, Conv.unsafePointer]⟩
 · rename_i t a hq hd; have hx := hx _ rfl; split at h
   · rename_i cb i hb hi; split at h
     · rename_i h1 h2; obtain rfl := Option.some.inj h; refine ⟨hx, ?_⟩; obtain ⟨e, cs⟩ := cb; obtain ⟨rb, off, k, pre, vs, sp, post, g⟩ := hM.own a.1 e cs hb; have hx2 := hx; simp only [vl, g.sg_, Option.some.injEq] at hx2; subst hx2; have hsh := g.shape; have hl := vls_len g.val; have hp := g.pre_; have h1 := Nat.le_of_ble_eq_true h1; simp only at h1 h2; obtain ⟨qq, hqq⟩ := g.mul_; have hc := cellsOf_szOf h1
       have hlies : liesAt P P.depth e ((pre ++ vs ++ sp ++ post).length / P.cellsOf e) (off + a.2) t 1 = true := by
         rw [hqq, ← hc]; refine liesAt_up ?_ h2; rw [hc, Nat.le_div_iff_mul_le h1, Nat.add_mul]; have := Nat.div_mul_le_self cs.length (szOf P e); simp only [List.length_append]; omega
       simp only [List.length_append] at hlies hsh; simp [convert, run_underlying hq, run_underlying hd, Conv.unsafePointer, Conv.seenAt, viewAt, hsh, run_sz hi, variablesAt, hlies]
     · cases h
   · cases h
 · cases h
def capX (P : Program) : List TypeId → Option (List X) → Option X
 | t :: _, some (.l none _ c :: _) => (match P.underlying t with
   | some (.slice _) => some (.i .i64 (c : Int))
   | _ => none)
 | _, _ => none
theorem capX_ok {ats : Array TypeId} {ty : TypeId} {xs : Option (List X)} {vs : List Value} {z : X} (h : capX P ats.toList xs = some z) (hv : ∀ l, xs = some l → vls σ l = some vs) {K : Value → Prop} (hK : ∀ v, vl σ z = some v → K v) : Bc P ats ty vs.toArray w K := by
 unfold capX at h; split at h
 · rename_i t ts n c r hats; obtain ⟨v1, vs1, e1, e2, rfl⟩ := vls_cons (hv _ rfl); simp only [vl, Option.some.injEq] at e1; subst e1
   have hat : ats = (t :: ts).toArray := by rw [← hats]
   subst hat; split at h
   · rename_i e ht; obtain rfl := Option.some.inj h; exact ⟨.int .i64 (c : Int), by simp [Builtin.cap_, run_underlying ht, goInt], hK _ rfl⟩
   · cases h
 · cases h
end
end Go.Ev
namespace Go.Ev
open Go Go.Vc
noncomputable section
variable {P : Program} {base : Bs} {σ : Sg} {s : St} {w w' : World} {ρ : T X} {r : Env}
def pX : Option X → Option (Nat × Nat)
 | some (.p (some a)) => some a
 | _ => none
theorem pX_spec {o : Operand} {a : Nat × Nat} (hE : EnvR σ ρ r) (h : pX (evX ρ o) = some a) : ∃ q, σ a.1 = some q ∧ r.ev o = .pointer (some ⟨q.1, q.2.1 + a.2, none⟩) ∨ False := by
 unfold pX at h; split at h
 · rename_i b hb; obtain rfl := Option.some.inj h; have := evX_spec hE hb; simp only [vl] at this
   cases hs : σ b.1 with
   | none => rw [hs] at this; cases this
   | some q => rw [hs] at this; exact ⟨q, .inl ⟨rfl, (Option.some.inj this).symm⟩⟩
 · cases h
theorem pX_ok {o : Operand} {a : Nat × Nat} (hE : EnvR σ ρ r) (h : pX (evX ρ o) = some a) : ∃ q, σ a.1 = some q ∧ r.ev o = .pointer (some ⟨q.1, q.2.1 + a.2, none⟩) := by
 obtain ⟨q, h1 | h1⟩ := pX_spec hE h
 · exact ⟨q, h1⟩
 · exact h1.elim
theorem vl_p {b o : Nat} {q : Nat × Nat × Nat} (h : σ b = some q) : vl σ (.p (some (b, o))) = some (.pointer (some ⟨q.1, q.2.1 + o, none⟩)) := by
 simp only [vl, h]
def foX (a : Option (Nat × Nat)) (off : Nat) : Option X := match a with
 | some a => some (.p (some (a.1, a.2 + off)))
 | none => none
theorem foX_ok {o : Operand} {off : Nat} {x : X} {K : Value → Prop} (hE : EnvR σ ρ r) (h : foX (pX (evX ρ o)) off = some x) (hK : ∀ v, vl σ x = some v → K v) : Fo off (r.ev o) K := by
 unfold foX at h; split at h
 · rename_i a ha; obtain rfl := Option.some.inj h; obtain ⟨q, h1, h2⟩ := pX_ok hE ha; rw [h2]; refine ⟨_, rfl, ?_⟩; rw [add_off]; refine hK _ ?_; rw [vl_p h1, Nat.add_assoc]
 · cases h
def ldV (P : Program) (s : St) (t : TypeId) (a : Option (Nat × Nat)) : Option X := match P.underlying t, a with
 | some (.struct _), some a | some (.array _ _), some a => (match P.info? t with
   | some i => ldAX s a.1 a.2 i.size
   | none => none)
 | some _, some a => ldX s a.1 a.2
 | _, _ => none
def ldG1 : List X → Option X
 | [x] => some x
 | _ => none
def ldGA (xs : List X) (n : Nat) : Option X := match Nat.beq xs.length n with
 | true => some (.g xs)
 | false => none
def ldG (P : Program) (t : TypeId) (xs : List X) : Option X := match P.underlying t with
 | some (.struct _) | some (.array _ _) => (match P.info? t with
   | some i => ldGA xs i.size
   | none => none)
 | some _ => ldG1 xs
 | none => none
def ldW (P : Program) (ρ : T X) (s : St) (t : TypeId) : Operand → Option X
 | .global g => (match lkG s.g g with
   | some xs => ldG P t xs
   | none => none)
 | a => ldV P s t (pX (evX ρ a))
def iaX (P : Program) (e : TypeId) (len : Nat) (a : Option (Nat × Nat)) (n : Option X) : Option X := match P.info? e, a, n with
 | some inf, some a, some (.i k n) => (match inX n len with
   | some m => some (.p (some (a.1, a.2 + m * inf.size)))
   | none => none)
 | _, _, _ => none
def isX (P : Program) (e : TypeId) (x n : Option X) : Option X := match x with
 | some (.l (some a) len _) => iaX P e len (some a) n
 | _ => none
def ixsX (x n : Option X) : Option X := match x, n with
 | some (.s l), some (.i k n) => (match inX n l.length with
   | some m => some (.i .u8 ((l.getD m 0 % 256 : Nat) : Int))
   | none => none)
 | _, _ => none
theorem ixsX_ok {a b : Operand} {x : X} {K : Value → Prop} (hE : EnvR σ ρ r) (h : ixsX (evX ρ a) (evX ρ b) = some x) (hK : ∀ v, vl σ x = some v → K v) : Ixs (r.ev a) (r.ev b) K := by
 unfold ixsX at h; split at h
 · rename_i l k n ha hb; split at h
   · rename_i m hm; obtain rfl := Option.some.inj h; obtain ⟨rfl, h2⟩ := inX_spec hm; have e1 := evX_spec hE ha; have e2 := evX_spec hE hb; simp only [vl, Option.some.injEq] at e1 e2; rw [← e1, ← e2]; refine ⟨str l, k, (m : Int), rfl, rfl, by omega, by rw [str_size]; omega, hK _ ?_⟩; rw [Int.toNat_natCast, str_get h2]; rfl
   · cases h
 · cases h
def ixaX (size : Nat) (agg : Bool) (len : Nat) (x n : Option X) : Option X := match x, n with
 | some (.g xs), some (.i k n) => (match inX n len with
   | some m => (match agg with
     | true => some (.g ((xs.drop (m * size)).take size))
     | false => xs[m * size]?)
   | none => none)
 | _, _ => none
theorem ext_toList (vs : List Value) (a n : Nat) : vs.toArray.extract a (a + n) = ((vs.drop a).take n).toArray := by
 apply Array.ext'; rw [Array.toList_extract, List.extract_eq_take_drop]; simp
theorem ixaX_ok {size len : Nat} {agg : Bool} {a b : Operand} {x : X} {K : Value → Prop} (hE : EnvR σ ρ r) (h : ixaX size agg len (evX ρ a) (evX ρ b) = some x) (hK : ∀ v, vl σ x = some v → K v) : Ixa len size agg (r.ev a) (r.ev b) K := by
 unfold ixaX at h; split at h
 · rename_i xs k n ha hb; split at h
   · rename_i m hm; obtain ⟨rfl, h2⟩ := inX_spec hm; have e1 := evX_spec hE ha; have e2 := evX_spec hE hb; simp only [vl] at e1; simp only [vl, Option.some.injEq] at e2
     cases hv : vls σ xs with
     | none => rw [hv] at e1; cases e1
     | some vs =>
       rw [hv] at e1; rw [← Option.some.inj e1, ← e2]; refine ⟨vs.toArray, k, (m : Int), rfl, rfl, by omega, by omega, ?_⟩; rw [Int.toNat_natCast]
       cases agg with
       | true =>
         obtain rfl := Option.some.inj h; refine hK _ ?_; rw [ext_toList]; simp only [vl, vls_take size (vls_drop (m * size) hv)]
       | false =>
         obtain ⟨v, g1, g2⟩ := vls_get hv h; exact ⟨v, by simpa using g1, hK _ g2⟩
   · cases h
 · cases h
def fdX (off : Nat) (x : Option X) : Option X := match x with
 | some (.g xs) => xs[off]?
 | _ => none
theorem fdX_ok {off : Nat} {a : Operand} {x : X} {K : Value → Prop} (hE : EnvR σ ρ r) (h : fdX off (evX ρ a) = some x) (hK : ∀ v, vl σ x = some v → K v) : Vc.Fd off (r.ev a) K := by
 unfold fdX at h; split at h
 · rename_i xs ha; have e1 := evX_spec hE ha; simp only [vl] at e1
   cases hv : vls σ xs with
   | none => rw [hv] at e1; cases e1
   | some vs =>
     rw [hv] at e1; rw [← Option.some.inj e1]; obtain ⟨v, g1, g2⟩ := vls_get hv h; exact ⟨vs.toArray, v, rfl, by simpa using g1, hK _ g2⟩
 · cases h
def fdaX (off n : Nat) (x : Option X) : Option X := match x with
 | some (.g xs) => some (.g ((xs.drop off).take n))
 | _ => none
theorem fdaX_ok {off n : Nat} {a : Operand} {x : X} {K : Value → Prop} (hE : EnvR σ ρ r) (h : fdaX off n (evX ρ a) = some x) (hK : ∀ v, vl σ x = some v → K v) : FdA off n (r.ev a) K := by
 unfold fdaX at h; split at h
 · rename_i xs ha; have e1 := evX_spec hE ha; simp only [vl] at e1
   cases hv : vls σ xs with
   | none => rw [hv] at e1; cases e1
   | some vs =>
     rw [hv] at e1; rw [← Option.some.inj e1]; obtain rfl := Option.some.inj h; refine ⟨vs.toArray, rfl, hK _ ?_⟩; rw [ext_toList]; simp only [vl, vls_take n (vls_drop off hv)]
 · cases h
def bp2 (op : BinOp) (x y : Option X) : Option X := match x, y with
 | some x, some y => bpX op x y
 | _, _ => none
def bbX (neg : Bool) (x y : Option X) : Option X := match x, y with
 | some (.b a), some (.b b) => some (.b (if neg then !(a == b) else a == b))
 | _, _ => none
def bnX (P : Program) (e : TypeId) (neg : Bool) (x y : Option X) : Option X := match x, y with
 | some (.p none), some (.p b) => some (.b (if neg then !b.isNone else b.isNone))
 | some (.p (some _)), some (.p none) => some (.b neg)
 | some (.p (some a)), some (.p (some b)) => (match P.info? e, Nat.beq a.1 b.1, Nat.beq a.2 b.2 with
   | some _, true, true => some (.b (!neg))
   | _, _, _ => none)
 | _, _ => none
theorem bnX_ok {e : TypeId} {neg : Bool} {a b : Operand} {x : X} {K : Value → Prop} (hE : EnvR σ ρ r) (h : bnX P e neg (evX ρ a) (evX ρ b) = some x) (hK : ∀ v, vl σ x = some v → K v) : Bn P e neg (r.ev a) (r.ev b) K := by
 unfold bnX at h; split at h
 · rename_i q ha hb; obtain rfl := Option.some.inj h; have e1 := evX_spec hE ha; have e2 := evX_spec hE hb; simp only [vl, Option.some.injEq] at e1; rw [← e1]
   cases q with
   | none =>
     simp only [vl, Option.some.injEq] at e2; rw [← e2]; exact .inl ⟨true, rfl, hK _ rfl⟩
   | some q =>
     simp only [vl] at e2
     cases hs : σ q.1 with
     | none => rw [hs] at e2; cases e2
     | some z =>
       rw [hs] at e2; rw [← Option.some.inj e2]; exact .inl ⟨false, rfl, hK _ rfl⟩
 · rename_i q ha hb; obtain rfl := Option.some.inj h; have e1 := evX_spec hE ha; have e2 := evX_spec hE hb; simp only [vl, Option.some.injEq] at e2; rw [← e2]; simp only [vl] at e1
   cases hs : σ q.1 with
   | none => rw [hs] at e1; cases e1
   | some z =>
     rw [hs] at e1; rw [← Option.some.inj e1]; exact .inl ⟨false, rfl, hK _ (by cases neg <;> rfl)⟩
 · rename_i p q ha hb; split at h
   · rename_i i hi h1 h2; obtain rfl := Option.some.inj h; have e1 := evX_spec hE ha; have e2 := evX_spec hE hb; obtain ⟨p1, p2⟩ := p; obtain ⟨q1, q2⟩ := q; obtain rfl := Nat.eq_of_beq_eq_true h1; obtain rfl := Nat.eq_of_beq_eq_true h2; rw [e1] at e2; have e2 := Option.some.inj e2; obtain ⟨z, hz⟩ := vl_ps e1; rw [← e2, hz]; exact .inr ⟨i, z, hi, rfl, rfl, hK _ rfl⟩
   · cases h
 · cases h
def mfX (ρ : T X) (fn : Fn) (a c : Array Operand) : Option X := match xargs ρ a.toList, xargs ρ c.toList with
 | some xs, some ys => some (.f fn xs ys)
 | _, _ => none
theorem mfX_ok {fn : Fn} {a c : Array Operand} {x : X} {K : Value → Prop} (hE : EnvR σ ρ r) (h : mfX ρ fn a c = some x) (hK : ∀ v, vl σ x = some v → K v) : Mf P fn (amap r.ev a) (amap r.ev c) w K := by
 unfold mfX at h; split at h
 · rename_i xs ys hx hy; obtain rfl := Option.some.inj h; refine ⟨_, rfl, hK _ ?_⟩; simp only [vl, xargs_spec hE hx, xargs_spec hE hy]; rfl
 · cases h
def lmX (s : St) (b : Option Nat) : Option X := match esX s b with
 | some es => some (.i .i64 (es.length : Int))
 | none => none
theorem EsR.len {σ : Sg} : ∀ {es : List (X × X)} {l : List MapEntry}, EsR σ es l → es.length = l.length
 | [], [], _ => rfl
 | (k, v) :: es, e :: l, ⟨_, _, h⟩ => by simp [EsR.len h]
 | [], _ :: _, h => h.elim
 | _ :: _, [], h => h.elim
theorem lmX_ok (hM : Mem P base σ s w) {t k e ty : TypeId} {b : Option Nat} {x : X} {v : Value} (ht : P.underlying t = some (.map k e)) (h : lmX s b = some x) (hv : vl σ (.m b) = some v) : ∃ u, vl σ x = some u ∧ ∀ (ts : List TypeId) (vs : List Value), (Builtin.len_ (t :: ts).toArray ty (v :: vs).toArray).run P w = .ok u w := by
 unfold lmX at h; split at h
 · rename_i es hes; obtain rfl := Option.some.inj h; refine ⟨_, rfl, fun ts vs => ?_⟩
   cases b with
   | none =>
     obtain rfl := Option.some.inj hes; simp only [vl, Option.some.injEq] at hv; subst hv; simp [Builtin.len_, run_underlying ht, goInt]
   | some b =>
     simp only [esX] at hes; split at hes
     · rename_i es' hb; obtain rfl := Option.some.inj hes; obtain ⟨rb, g1, g2, l, clock, g3, g4⟩ := hM.mown b _ hb; simp only [vl, g1, Option.some.injEq] at hv; subst hv; simp [Builtin.len_, run_underlying ht, mgetObj g3, goInt, g4.len]
     · cases hes
 · cases h
def upX (op : UnOp) (x : Option X) : Option X := match x with
 | some (.i k n) => (match up op (.int k n) with
   | some v => ofV v
   | none => none)
 | some (.b b) => (match up op (.bool b) with
   | some v => ofV v
   | none => none)
 | _ => none
theorem upX_ok {op : UnOp} {a : Operand} {x : X} {K : Value → Prop} (hE : EnvR σ ρ r) (h : upX op (evX ρ a) = some x) (hK : ∀ v, vl σ x = some v → K v) : Up op (r.ev a) K := by
 unfold upX at h; split at h
 · rename_i k n ha; have e1 := evX_spec hE ha; simp only [vl, Option.some.injEq] at e1; rw [← e1]; split at h
   · rename_i v hv; exact ⟨v, hv, hK _ (vl_ofV h)⟩
   · cases h
 · rename_i b ha; have e1 := evX_spec hE ha; simp only [vl, Option.some.injEq] at e1; rw [← e1]; split at h
   · rename_i v hv; exact ⟨v, hv, hK _ (vl_ofV h)⟩
   · cases h
 · cases h
def ciX (k : IntKind) (x : Option X) : Option X := match x with
 | some (.i _ n) => some (.i k (k.wrap n))
 | _ => none
def cvX (P : Program) (s : St) (t : TypeId) (x : Option X) : Option X := match P.underlying t with
 | some (.slice e) => (match P.underlying e, x with
   | some (.int .u8), some x => strX s x
   | _, _ => none)
 | _ => none
def sstX (x : Option X) (lo hi : Nat → Option Nat) : Option X := match x with
 | some (.s l) => (match lo 0, hi l.length with
   | some a, some b => (match Nat.ble a b, Nat.ble b l.length with
     | true, true => some (.s ((l.take b).drop a))
     | _, _ => none)
   | _, _ => none)
 | _ => none
def slaX (P : Program) (s : St) (n : Nat) (e : TypeId) (x : Option X) (lo hi : Nat → Option Nat) : Option X := match x with
 | some (.p (some a)) => (match s.blk a.1 with
   | some cb => (match isArrB P cb.1, P.info? e, lo 0, hi n with
     | true, some inf, some i, some j => (match Nat.ble i j, Nat.ble j n, Nat.beq n i with
       | true, true, false => some (.l (some (a.1, a.2 + i * inf.size)) (j - i) (n - i))
       | true, true, true => some (.l (some a) 0 0)
       | _, _, _ => none)
     | _, _, _, _ => none)
   | none => none)
 | _ => none
theorem slaX_ok (hM : Mem P base σ s w) {t : TypeId} {n : Nat} {e : TypeId} (hu : P.underlying t = some (.array n e)) {a : Operand} {lo hi : Option Operand} {x : X} {K : Value → Prop} (hE : EnvR σ ρ r) (h : slaX P s n e (evX ρ a) (fun d => bndX ρ d lo) (fun d => bndX ρ d hi) = some x) (hK : ∀ v, vl σ x = some v → K v) :
   Sl P t (r.ev a) (lo.map r.ev) (hi.map r.ev) none w K := by
 unfold slaX at h; split at h
 · rename_i p ha; have e1 := evX_spec hE ha; split at h
   · rename_i cb hb; obtain ⟨be, cs⟩ := cb; obtain ⟨rb, off, k, pre, vs, sp, post, g⟩ := hM.own p.1 be cs hb; split at h
     · rename_i inf i j har hinf hi' hj'; have hk : k = 0 := g.nsp har; subst hk; simp only [vl, g.sg_, Option.some.injEq] at e1; split at h
       · rename_i h1 h2 h3; obtain rfl := Option.some.inj h; have h1 := Nat.le_of_ble_eq_true h1; have h2 := Nat.le_of_ble_eq_true h2; have h3 := Nat.ne_of_beq_eq_false h3; have hb := run_bounds (P := P) (w := w) (b := false) (bndX_spec hE hi') (bndX_spec hE hj') h1 h2; refine ⟨.slice (some ⟨rb, off + p.2 + i * inf.size, none⟩) (j - i) (n - i), ?_, hK _ ?_⟩
         · rw [← e1]; simp [Instr.sliceAt, Instr.sureAddr, run_underlying hu, hb, run_sz hinf, h3, add_off]
         · simp only [vl, g.sg_, Nat.add_zero, Nat.add_assoc]
       · rename_i h1 h2 h3; obtain rfl := Option.some.inj h; have h1 := Nat.le_of_ble_eq_true h1; have h2 := Nat.le_of_ble_eq_true h2; have h3 := Nat.eq_of_beq_eq_true h3; subst h3
         have h4 : j = n := by omega
         subst h4; have hb := run_bounds (P := P) (w := w) (b := false) (bndX_spec hE hi') (bndX_spec hE hj') h1 h2; refine ⟨.slice (some ⟨rb, off + p.2, none⟩) 0 0, ?_, hK _ ?_⟩
         · rw [← e1]; simp [Instr.sliceAt, Instr.sureAddr, run_underlying hu, hb, run_sz hinf]
         · simp only [vl, g.sg_, Nat.add_zero]
       · cases h
     · cases h
   · cases h
 · cases h
def sslX (size : Nat) (x : Option X) (lo hi : Nat → Option Nat) : Option X := match x with
 | some (.l (some p) n c) => (match lo 0, hi n with
   | some a, some b => (match Nat.ble a b, Nat.ble b c, Nat.beq c a && !(Nat.beq a 0) with
     | true, true, false => some (.l (some (p.1, p.2 + a * size)) (b - a) (c - a))
     | true, true, true => some (.e0 p.1 p.2 (p.2 + a * size))
     | _, _, _ => none)
   | _, _ => none)
 | some (.l none n c) => (match lo 0, hi n with
   | some a, some b => (match Nat.ble a b, Nat.ble b c with
     | true, true => some (.l none (b - a) (c - a))
     | _, _ => none)
   | _, _ => none)
 | _ => none
theorem sslX_ok {size : Nat} {a : Operand} {lo hi : Option Operand} {x : X} {K : Value → Prop} (hE : EnvR σ ρ r) (h : sslX size (evX ρ a) (fun d => bndX ρ d lo) (fun d => bndX ρ d hi) = some x) (hK : ∀ v, vl σ x = some v → K v) : Ssl size (r.ev a) (lo.map r.ev) (hi.map r.ev) K := by
 unfold sslX at h; split at h
 · rename_i p n c ha; have e1 := evX_spec hE ha; simp only [vl] at e1; split at h
   · rename_i i j hi' hj'; split at h
     · rename_i h1 h2 h3; obtain rfl := Option.some.inj h; have h1 := Nat.le_of_ble_eq_true h1; have h2 := Nat.le_of_ble_eq_true h2
       cases hs : σ p.1 with
       | none => rw [hs] at e1; cases e1
       | some q =>
         rw [hs] at e1; rw [← Option.some.inj e1]; refine ⟨_, n, c + q.2.2, i, j, rfl, bndX_spec hE hi', bndX_spec hE hj', h1, by omega, hK _ ?_⟩
         have h4 : ¬ (c = i ∧ i ≠ 0) := by
           rintro ⟨rfl, h5⟩; have h6 : Nat.beq c c = true := Nat.beq_refl c; rw [h6] at h3
           cases h7 : Nat.beq c 0 with
           | true => exact h5 (Nat.eq_of_beq_eq_true h7)
           | false => rw [h7] at h3; cases h3
         simp only [vl, hs]
         congr 1
         have h8 : c + q.2.2 - i = c - i + q.2.2 := by omega
         rw [h8]
         congr 1
         split
         · rename_i h9
           have h10 : i = 0 := by
             rcases Nat.eq_zero_or_pos i with h11 | h11
             · exact h11
             · exact absurd ⟨by omega, by omega⟩ h4
           subst h10; rw [Nat.zero_mul, Nat.add_zero]
         · simp only [Option.map_some, add_off, Nat.add_assoc]
     · rename_i h1 h2 h3; obtain rfl := Option.some.inj h; have h1 := Nat.le_of_ble_eq_true h1; have h2 := Nat.le_of_ble_eq_true h2; rw [Bool.and_eq_true] at h3; have h3 := Nat.eq_of_beq_eq_true h3.1
       cases hs : σ p.1 with
       | none => rw [hs] at e1; cases e1
       | some q =>
         rw [hs] at e1; rw [← Option.some.inj e1]; refine ⟨_, n, c + q.2.2, i, j, rfl, bndX_spec hE hi', bndX_spec hE hj', h1, by omega, hK _ ?_⟩; simp only [vl, hs]
         have h4 : j - i = 0 := by omega
         have h5 : c + q.2.2 - i = q.2.2 := by omega
         rw [h4, h5]
         congr 2
         by_cases hk : q.2.2 = 0
         · rw [if_pos hk, if_pos (by omega)]
         · rw [if_neg hk, if_neg (by omega)]; simp only [Option.map_some, add_off, Nat.add_assoc]
     · cases h
   · cases h
 · rename_i n c ha; have e1 := evX_spec hE ha; simp only [vl, Option.some.injEq] at e1; rw [← e1]; split at h
   · rename_i i j hi' hj'; split at h
     · rename_i h1 h2; obtain rfl := Option.some.inj h; refine ⟨none, n, c, i, j, rfl, bndX_spec hE hi', bndX_spec hE hj', Nat.le_of_ble_eq_true h1, Nat.le_of_ble_eq_true h2, hK _ ?_⟩; simp only [vl, Option.map_none, ite_self]
     · cases h
   · cases h
 · cases h
def exX (x : Option X) (i : Nat) : Option X := match x with
 | some (.t xs) => xs[i]?
 | _ => none
theorem exX_ok {i : Nat} {a : Operand} {x : X} {K : Value → Prop} (hE : EnvR σ ρ r) (h : exX (evX ρ a) i = some x) (hK : ∀ v, vl σ x = some v → K v) : Ex (r.ev a) i K := by
 unfold exX at h; split at h
 · rename_i xs ha; have e1 := evX_spec hE ha; simp only [vl] at e1
   cases hv : vls σ xs with
   | none => rw [hv] at e1; cases e1
   | some vs =>
     rw [hv] at e1; rw [← Option.some.inj e1]; obtain ⟨v, g1, g2⟩ := vls_get hv h; exact ⟨vs.toArray, v, rfl, by simpa using g1, hK _ g2⟩
 · cases h
def mmR (mx : Bool) (a b : Int) : Int := match mx with
 | true => if a < b then b else a
 | false => if b < a then b else a
def mmL (mx : Bool) (k : IntKind) : Int → List X → Option X
 | a, [] => some (.i k a)
 | a, .i k' b :: l => (match decide (k = k') with
   | true => mmL mx k (mmR mx a b) l
   | false => none)
 | _, _ => none
def mmX (mx : Bool) : List X → Option X
 | .i k a :: l => mmL mx k a l
 | _ => none
def xval (P : Program) (ρ : T X) (s : St) (o : Oper) : Option X := match o.op with
 | .move x | .assign x => evX ρ x
 | .pick c a b => (match evX ρ c with
   | some (.b true) => evX ρ a
   | some (.b false) => evX ρ b
   | _ => none)
 | .nilCheck x => (match pX (evX ρ x) with
   | some a => some (.p (some a))
   | none => none)
 | .load t a => ldW P ρ s t a
 | .fieldAddr q x f => (match P.underlying q with
   | some (.struct fs) => (match fldOf fs.toList f with
     | some fd => (match P.info? fd.type with
       | some i => (match i.size with
         | 0 => none
         | _ + 1 => foX (pX (evX ρ x)) fd.offset)
       | none => none)
     | none => none)
   | _ => none)
 | .indexAddr t x i => (match P.underlying t with
   | some (.array len e) => iaX P e len (pX (evX ρ x)) (evX ρ i)
   | some (.slice e) => isX P e (evX ρ x) (evX ρ i)
   | _ => none)
 | .index t x i => (match P.underlying t with
   | some .string => ixsX (evX ρ x) (evX ρ i)
   | some (.array len e) => (match P.info? e with
     | some inf => (match P.underlying e with
       | some (.struct _) | some (.array _ _) => ixaX inf.size true len (evX ρ x) (evX ρ i)
       | some _ => ixaX inf.size false len (evX ρ x) (evX ρ i)
       | none => none)
     | none => none)
   | _ => none)
 | .field t x f => (match P.underlying t with
   | some (.struct fs) => (match fldOf fs.toList f with
     | some fd => (match P.underlying fd.type with
       | some (.struct _) | some (.array _ _) => (match P.info? fd.type with
         | some i => fdaX fd.offset i.size (evX ρ x)
         | none => none)
       | some _ => fdX fd.offset (evX ρ x)
       | none => none)
     | none => none)
   | _ => none)
 | .binOp op t x y _ => (match P.underlying t with
   | some (.int _) | some .string => bp2 op (evX ρ x) (evX ρ y)
   | some .bool => (match op with
     | .eql => bbX false (evX ρ x) (evX ρ y)
     | .neq => bbX true (evX ρ x) (evX ρ y)
     | _ => none)
   | some (.pointer e) => (match op with
     | .eql => bnX P e false (evX ρ x) (evX ρ y)
     | .neq => bnX P e true (evX ρ x) (evX ρ y)
     | _ => none)
   | some _ => beX P op t x y (evX ρ x) (evX ρ y)
   | none => none)
 | .makeFunc fn a c => mfX ρ fn a c
 | .lookup t x i ok => lkX P s t (evX ρ x) (evX ρ i) ok
 | .typeAssert x _ a ok => taX P a ok (evX ρ x)
 | .unOp op _ x => upX op (evX ρ x)
 | .convert q d x => (match P.underlying q, P.underlying d with
   | some (.int _), some (.int k) => ciX k (evX ρ x)
   | some (.slice e), some .string => cvX P s q (evX ρ x)
   | some _, some _ => cpX P s q d (evX ρ x)
   | _, _ => none)
 | .makeInterface t x => (match P.underlying t, evX ρ x with
   | some (.interface _), _ => none
   | some _, some x => some (.fc t x)
   | _, _ => none)
 | .slice t x l h m => (match P.underlying t, m with
   | some .string, none => sstX (evX ρ x) (fun d => bndX ρ d l) (fun d => bndX ρ d h)
   | some (.slice e), none => (match P.info? e with
     | some inf => sslX inf.size (evX ρ x) (fun d => bndX ρ d l) (fun d => bndX ρ d h)
     | none => none)
   | some (.array n e), none => slaX P s n e (evX ρ x) (fun d => bndX ρ d l) (fun d => bndX ρ d h)
   | _, _ => none)
 | .extract x i => exX (evX ρ x) i
 | .build t ps => (match xparts ρ ps.toList with
   | some xs => bdX P t xs
   | none => none)
 | .call c => (match c.callee with
   | .builtin .len => (match c.argTypes.toList, xargs ρ c.args.toList with
     | t :: _, some (x :: _) => (match P.underlying t, x with
       | some .string, .s l => some (.i .i64 (l.length : Int))
       | some (.slice _), .l _ n _ => some (.i .i64 (n : Int))
       | some (.slice _), .e0 _ _ _ => some (.i .i64 0)
       | some (.map _ _), .m b => lmX s b
       | _, _ => none)
     | _, _ => none)
   | .builtin .cap => capX P c.argTypes.toList (xargs ρ c.args.toList)
   | .builtin .min => (match xargs ρ c.args.toList with
     | some xs => mmX false xs
     | none => none)
   | .builtin .max => (match xargs ρ c.args.toList with
     | some xs => mmX true xs
     | none => none)
   | _ => none)
 | _ => none
theorem mmL_ok {mx : Bool} {k : IntKind} {x : X} : ∀ {l : List X} {a : Int}, mmL mx k a l = some x → ∃ bs : List Int, l = bs.map (X.i k) ∧ x = .i k (bs.foldl (mmR mx) a)
 | [], a, h => ⟨[], rfl, (Option.some.inj h).symm⟩
 | y :: l, a, h => by
   unfold mmL at h; split at h
   · rename_i e; cases e
   · rename_i a' k' b l' e; cases e
     by_cases hk : k = k'
     · subst hk; rw [decide_eq_true rfl] at h; obtain ⟨bs, rfl, h2⟩ := mmL_ok (l := l) h; exact ⟨b :: bs, rfl, h2⟩
     · rw [decide_eq_false hk] at h; cases h
   · cases h
theorem mm_ok {mx : Bool} {xs : List X} {x : X} (h : mmX mx xs = some x) : ∃ k a, ∃ bs : List Int, xs = .i k a :: bs.map (X.i k) ∧ x = .i k (bs.foldl (mmR mx) a) := by
 unfold mmX at h; split at h
 · rename_i k a l; obtain ⟨bs, rfl, h2⟩ := mmL_ok h; exact ⟨k, a, bs, rfl, h2⟩
 · cases h
theorem vls_ints {k : IntKind} : ∀ (bs : List Int), vls σ (bs.map (X.i k)) = some (bs.map (Value.int k))
 | [] => rfl
 | b :: bs => vls_mk rfl (vls_ints bs)
theorem run_mm (k : IntKind) (w : World) : ∀ (bs : List Int) (a : Int), ((bs.map (Value.int k)).foldlM Builtin.min2 (Value.int k a)).run P w = .ok (.int k (bs.foldl (mmR false) a)) w ∧ ((bs.map (Value.int k)).foldlM Builtin.max2 (Value.int k a)).run P w = .ok (.int k (bs.foldl (mmR true) a)) w
 | [], a => ⟨by simp, by simp⟩
 | b :: bs, a => by
   obtain ⟨h1, _⟩ := run_mm k w bs (mmR false a b); obtain ⟨_, h2⟩ := run_mm k w bs (mmR true a b); refine ⟨?_, ?_⟩
   · rw [List.map_cons, List.foldlM_cons, List.foldl_cons, Sem.run_bind, show (Builtin.min2 (Value.int k a) (Value.int k b)).run P w = .ok (.int k (mmR false a b)) w by simp [Builtin.min2, mmR]]; exact h1
   · rw [List.map_cons, List.foldlM_cons, List.foldl_cons, Sem.run_bind, show (Builtin.max2 (Value.int k a) (Value.int k b)).run P w = .ok (.int k (mmR true a b)) w by simp [Builtin.max2, mmR]]; exact h2
theorem xval_ok (hM : Mem P base σ s w) (hE : EnvR σ ρ r) {o : Oper} {x : X} (h : xval P ρ s o = some x) (st : Bool) {K : Value → World → Prop} (hK : ∀ v, vl σ x = some v → K v w) : vcOp P st r.ev o w K := by
 unfold xval at h; unfold vcOp
 cases ho : o.op with
 | move a => simp only [ho] at h ⊢; exact hK _ (evX_spec hE h)
 | assign a => simp only [ho] at h ⊢; exact hK _ (evX_spec hE h)
 | pick c a b =>
   simp only [ho] at h ⊢; split at h
   · rename_i hc; have e1 := evX_spec hE hc; simp only [vl, Option.some.injEq] at e1; rw [← e1]; exact hK _ (evX_spec hE h)
   · rename_i hc; have e1 := evX_spec hE hc; simp only [vl, Option.some.injEq] at e1; rw [← e1]; exact hK _ (evX_spec hE h)
   · cases h
 | nilCheck a =>
   simp only [ho] at h ⊢; split at h
   · rename_i p hp; obtain rfl := Option.some.inj h; obtain ⟨q, h1, h2⟩ := pX_ok hE hp; refine ⟨⟨_, h2⟩, hK _ ?_⟩; rw [h2]; exact vl_p h1
   · cases h
 | load t a =>
   simp only [ho] at h ⊢; unfold ldW at h; split at h
   · rename_i g; split at h
     · rename_i xs hxs; obtain ⟨_, e, fz, vs, h2, h3⟩ := hM.glb g xs hxs; have h4 : vls σ xs = some vs := vls_ext (fun n q hn => by cases hn) _ _ h2
       have hcell : ∀ (j : Nat) v, vs[j]? = some v → w.cell? ((⟨g, 0, none⟩ : Addr).add j) = some v := fun j v hj => by
         rw [add_off, Nat.zero_add]; simp [World.cell?, h3, hj]
       unfold ldG at h
       have agg : ∀ {i : TypeInfo}, ldGA xs i.size = some x → LdA i.size (r.ev (.global g)) w fun v => K v w := by
         intro i h; unfold ldGA at h
         cases hb : Nat.beq xs.length i.size with
         | false => rw [hb] at h; cases h
         | true =>
           rw [hb] at h; obtain rfl := Option.some.inj h; have := vls_len h4; have hb := Nat.eq_of_beq_eq_true hb; refine ⟨⟨g, 0, none⟩, vs.toArray, rfl, by simp; omega, fun j v hj => hcell j v (by simpa using hj), hK _ ?_⟩; simp only [vl, h4]
       have one : ldG1 xs = some x → Ld (r.ev (.global g)) w fun v => K v w := by
         intro h
         cases xs with
         | nil => cases h
         | cons y l =>
           cases l with
           | cons _ _ => cases h
           | nil =>
             obtain rfl := Option.some.inj h; obtain ⟨v, us, g1, g2, rfl⟩ := vls_cons h4; have := hcell 0 v rfl; rw [add_off] at this; exact ⟨⟨g, 0, none⟩, v, rfl, this, hK _ g1⟩
       cases hu : P.underlying t with
       | none => rw [hu] at h; cases h
       | some d =>
         rw [hu] at h
         cases d with
         | struct fs =>
           simp only at h ⊢
           cases hi : P.info? t with
           | none => rw [hi] at h; cases h
           | some i => rw [hi] at h; exact agg h
         | array n e =>
           simp only at h ⊢
           cases hi : P.info? t with
           | none => rw [hi] at h; cases h
           | some i => rw [hi] at h; exact agg h
         | _ => exact one h
     · cases h
   · unfold ldV at h
     have agg : ∀ {p : Nat × Nat} {y : X} {i : TypeInfo}, pX (evX ρ a) = some p → ldAX s p.1 p.2 i.size = some y → y = x → LdA i.size (r.ev a) w fun v => K v w := by
       rintro p y i hp hl rfl; obtain ⟨q, h1, h2⟩ := pX_ok hE hp; obtain ⟨q', vs, g1, g2, g3, g4⟩ := ldAX_spec hM hl; rw [h1] at g1; cases g1; rw [h2]; exact ⟨_, vs.toArray, rfl, by simpa using g3, fun j v hj => g4 j v (by simpa using hj), hK _ g2⟩
     have one : ∀ {p : Nat × Nat} {y : X}, pX (evX ρ a) = some p → ldX s p.1 p.2 = some y → y = x → Ld (r.ev a) w fun v => K v w := by
       rintro p y hp hl rfl; obtain ⟨q, h1, h2⟩ := pX_ok hE hp; obtain ⟨q', v, g1, g2, g3⟩ := ldX_spec hM hl; rw [h1] at g1; cases g1; rw [h2]; exact ⟨_, v, rfl, g3, hK _ g2⟩
     cases hu : P.underlying t with
     | none => simp [hu] at h
     | some d =>
       cases hp : pX (evX ρ a) with
       | none => cases d <;> simp [hu, hp] at h
       | some p =>
         rw [hu, hp] at h
         cases d with
         | struct fs =>
           simp only at h ⊢
           cases hi : P.info? t with
           | none => rw [hi] at h; cases h
           | some i => rw [hi] at h; exact agg hp h rfl
         | array n e =>
           simp only at h ⊢
           cases hi : P.info? t with
           | none => rw [hi] at h; cases h
           | some i => rw [hi] at h; exact agg hp h rfl
         | _ => exact one hp h rfl
 | fieldAddr q a f =>
   simp only [ho] at h ⊢; split at h
   · rename_i fs hu; split at h
     · rename_i fd hf; split at h
       · rename_i i hi; split at h
         · cases h
         · rename_i m hm; simp only [hu, hf, hi, hm]; exact foX_ok hE h fun v hv => hK v hv
       · cases h
     · cases h
   · cases h
 | indexAddr t a i =>
   simp only [ho] at h ⊢; split at h
   · rename_i len e hu; unfold iaX at h; split at h
     · rename_i inf p k n hi hp hn; split at h
       · rename_i m hm; obtain rfl := Option.some.inj h; obtain ⟨rfl, h2⟩ := inX_spec hm; obtain ⟨q, h1, h3⟩ := pX_ok hE hp; have e2 := evX_spec hE hn; simp only [vl, Option.some.injEq] at e2; simp only [hu, hi]; rw [h3, ← e2]; refine ⟨_, k, (m : Int), rfl, rfl, by omega, by omega, hK _ ?_⟩; rw [add_off, Int.toNat_natCast, vl_p h1, Nat.add_assoc]
       · cases h
     · cases h
   · rename_i e hu; unfold isX at h; split at h
     · rename_i p len c ha; unfold iaX at h; split at h
       · rename_i inf p' k n hi hp hn; cases hp; split at h
         · rename_i m hm; obtain rfl := Option.some.inj h; obtain ⟨rfl, h2⟩ := inX_spec hm; have e1 := evX_spec hE ha; have e2 := evX_spec hE hn; simp only [vl, Option.some.injEq] at e2; simp only [vl] at e1
           cases hs : σ p.1 with
           | none => rw [hs] at e1; cases e1
           | some q =>
             rw [hs] at e1; simp only [hu, hi]; rw [← Option.some.inj e1, ← e2]; refine ⟨_, len, _, k, (m : Int), rfl, rfl, by omega, by omega, hK _ ?_⟩; rw [add_off, Int.toNat_natCast, vl_p hs, Nat.add_assoc]
         · cases h
       · cases h
     · cases h
   · cases h
 | index t a i =>
   simp only [ho] at h ⊢; split at h
   · rename_i hu; simp only [hu]; exact ixsX_ok hE h fun v hv => hK v hv
   · rename_i len e hu; split at h
     · rename_i inf hi; split at h
       · rename_i fs he; simp only [hu, hi, he]; exact ixaX_ok hE h fun v hv => hK v hv
       · rename_i fs n he; simp only [hu, hi, he]; exact ixaX_ok hE h fun v hv => hK v hv
       · rename_i d h1 h2 he; simp only [hu, hi, he]; exact ixaX_ok hE h fun v hv => hK v hv
       · cases h
     · cases h
   · cases h
 | field t a f =>
   simp only [ho] at h ⊢; split at h
   · rename_i fs hu; split at h
     · rename_i fd hf; split at h
       · rename_i fs2 he; split at h
         · rename_i i hi; simp only [hu, hf, he, hi]; exact fdaX_ok hE h fun v hv => hK v hv
         · cases h
       · rename_i n e he; split at h
         · rename_i i hi; simp only [hu, hf, he, hi]; exact fdaX_ok hE h fun v hv => hK v hv
         · cases h
       · rename_i d h1 h2 he; simp only [hu, hf, he]; exact fdX_ok hE h fun v hv => hK v hv
       · cases h
     · cases h
   · cases h
 | binOp op t a b yt =>
   simp only [ho] at h ⊢
   have arith : bp2 op (evX ρ a) (evX ρ b) = some x → Bp op (r.ev a) (r.ev b) fun v => K v w := by
     intro h; unfold bp2 at h; split at h
     · rename_i y z ha hb; obtain ⟨v, g1, g2⟩ := bpX_spec h (evX_spec hE ha) (evX_spec hE hb); exact ⟨v, g1, hK _ g2⟩
     · cases h
   have bool : ∀ neg, bbX neg (evX ρ a) (evX ρ b) = some x → Bb neg (r.ev a) (r.ev b) fun v => K v w := by
     intro neg h; unfold bbX at h; split at h
     · rename_i y z ha hb; obtain rfl := Option.some.inj h; have e1 := evX_spec hE ha; have e2 := evX_spec hE hb; simp only [vl, Option.some.injEq] at e1 e2; exact ⟨y, z, e1.symm, e2.symm, hK _ rfl⟩
     · cases h
   split at h
   · rename_i k hu; simp only [hu]; exact arith h
   · rename_i hu; simp only [hu]; exact arith h
   · rename_i hu; simp only [hu]; split at h
     · exact bool _ h
     · exact bool _ h
     · cases h
   · rename_i e hu; simp only [hu]; split at h
     · exact bnX_ok hE h fun v hv => hK v hv
     · exact bnX_ok hE h fun v hv => hK v hv
     · cases h
   · rename_i d h1 h2 h3 h4 hu; have hb := beX_ok (w := w) hu (fun k e => h1 k e) (fun e => h2 e) (fun e => h3 e) (fun q e => h4 q e) h (fun a ha => evX_spec hE ha) (fun a ha => evX_spec hE ha) (K := fun v => K v w) fun v hv => hK v hv
     cases d with
     | int k => exact (h1 k rfl).elim
     | string => exact (h2 rfl).elim
     | bool => exact (h3 rfl).elim
     | pointer e => exact (h4 e rfl).elim
     | _ => simp only [hu]; exact hb
   · cases h
 | makeFunc fn a c => simp only [ho] at h ⊢; exact mfX_ok hE h fun v hv => hK v hv
 | typeAssert a t b ok => simp only [ho] at h ⊢; exact taX_ok h (fun q hq => evX_spec hE hq) fun v hv => hK v hv
 | lookup t a i ok => simp only [ho] at h ⊢; exact lkX_ok hM h (fun q hq => evX_spec hE hq) (fun q hq => evX_spec hE hq) fun v hv => hK v hv
 | unOp op t a => simp only [ho] at h ⊢; exact upX_ok hE h fun v hv => hK v hv
 | convert q d a =>
   simp only [ho] at h ⊢; split at h
   · rename_i k1 k2 hq hd; unfold ciX at h; split at h
     · rename_i k n ha; obtain rfl := Option.some.inj h; have e1 := evX_spec hE ha; simp only [vl, Option.some.injEq] at e1; simp only [hq, hd]; exact ⟨k, n, e1.symm, hK _ rfl⟩
     · cases h
   · rename_i e hq hd; unfold cvX at h; rw [hq] at h; simp only at h; split at h
     · rename_i y he ha; obtain ⟨u, g1, g2⟩ := strX_spec hM hq he hd (evX_spec hE ha) h; simp only [hq, hd]
       cases st with
       | true => exact ⟨u, g2, hK _ g1⟩
       | false => exact ⟨u, w, g2, hK _ g1⟩
     · cases h
   · rename_i d1 d2 n1 n2 hq hd; have g := cpX_ok (w := w) hM h (u := r.ev a) fun b hb => evX_spec hE hb
     have key : (match st with
       | true => Cv P q d (r.ev a) w fun v => K v w
       | false => Cw P q d (r.ev a) w K) := by
       cases st with
       | true => exact ⟨_, g.2, hK _ g.1⟩
       | false => exact ⟨_, w, g.2, hK _ g.1⟩
     cases d1 with
     | int k1 =>
       cases d2 with
       | int k2 => exact (n1 k1 k2 rfl rfl).elim
       | _ => simp only [hq, hd]; exact key
     | _ => simp only [hq, hd]; exact key
   · cases h
 | makeInterface t a =>
   simp only [ho] at h ⊢; split at h
   · cases h
   · rename_i d y hn hu ha; obtain rfl := Option.some.inj h; have e1 := evX_spec hE ha
     have : vl σ (.fc t y) = some (.iface t (r.ev a)) := by simp only [vl, e1]
     have hk := hK _ this
     cases d <;> first | (simp only [hu]; exact hk) | exact (hn _ rfl).elim
   · cases h
 | slice t a l hh m =>
   simp only [ho] at h ⊢; split at h
   · rename_i hu; simp only [hu]; unfold sstX at h; split at h
     · rename_i q ha; split at h
       · rename_i i j hi hj; split at h
         · rename_i h1 h2; obtain rfl := Option.some.inj h; have e1 := evX_spec hE ha; simp only [vl, Option.some.injEq] at e1; rw [← e1]; refine ⟨str q, i, j, rfl, bndX_spec hE hi, by rw [str_size]; exact bndX_spec hE hj, Nat.le_of_ble_eq_true h1, by rw [str_size]; exact Nat.le_of_ble_eq_true h2, hK _ ?_⟩; rw [str_cut]; rfl
         · cases h
       · cases h
     · cases h
   · rename_i e hu; split at h
     · rename_i inf hi; simp only [hu, hi]; exact sslX_ok hE h fun v hv => hK v hv
     · cases h
   · rename_i q e hu; simp only [hu]; exact slaX_ok hM hu hE h fun v hv => hK v hv
   · cases h
 | extract a i => simp only [ho] at h ⊢; exact exX_ok hE h fun v hv => hK v hv
 | build t ps =>
   simp only [ho] at h ⊢; split at h
   · rename_i xs hx; obtain ⟨v, g1, g2⟩ := bdX_spec (w := w) (qs := bmap r.ev ps) h (by rw [xparts_spec hE hx]; rfl); exact ⟨v, g2, hK _ g1⟩
   · cases h
 | call c =>
   simp only [ho] at h ⊢
   have mm : ∀ mx xs, xargs ρ c.args.toList = some xs → mmX mx xs = some x → ∃ k a, ∃ bs : List Int, amap r.ev c.args = (Value.int k a :: bs.map (Value.int k)).toArray ∧ vl σ x = some (.int k (bs.foldl (mmR mx) a)) := by
     intro mx xs hx hm; obtain ⟨k, a, bs, rfl, rfl⟩ := mm_ok hm; have := xargs_spec hE hx; obtain ⟨v1, vs1, e1, e2, e3⟩ := vls_cons this; rw [vls_ints] at e2; obtain rfl := Option.some.inj e2; simp only [vl, Option.some.injEq] at e1; subst e1; exact ⟨k, a, bs, by unfold amap; rw [e3], rfl⟩
   split at h
   · rename_i hc; simp only [hc]; split at h
     · rename_i t ts y ys h1 h2; obtain ⟨v1, vs1, e1, e2, e3⟩ := vls_cons (xargs_spec hE h2); rw [h1, e3]; simp only; split at h
       · rename_i l hu; obtain rfl := Option.some.inj h; simp only [vl, Option.some.injEq] at e1; rw [hu]; refine ⟨str l, e1.symm, hK _ ?_⟩; rw [str_size]; rfl
       · rename_i e a n q hu; obtain rfl := Option.some.inj h; rw [hu]
         cases a with
         | none =>
           simp only [vl, Option.some.injEq] at e1; exact ⟨none, n, q, e1.symm, hK _ rfl⟩
         | some a =>
           simp only [vl] at e1
           cases hs : σ a.1 with
           | none => rw [hs] at e1; cases e1
           | some z => rw [hs] at e1; exact ⟨_, n, _, (Option.some.inj e1).symm, hK _ rfl⟩
       · rename_i a b o q hu; obtain rfl := Option.some.inj h; rw [hu]; obtain ⟨p, m, rfl⟩ := vl_es e1; exact ⟨_, 0, _, rfl, hK _ rfl⟩
       · rename_i k e b hu; obtain ⟨u, g1, g2⟩ := lmX_ok hM (ty := o.type) hu h e1; rw [hu]; refine ⟨u, ?_, hK _ g1⟩; have := g2 ts vs1
         have ea : amap r.ev c.args = (v1 :: vs1).toArray := by unfold amap; rw [e3]
         have et : c.argTypes = (t :: ts).toArray := by rw [← h1]
         rw [ea, et]; exact this
       · cases h
     · cases h
   · rename_i hc; simp only [hc]; have := capX_ok (P := P) (σ := σ) (w := w) (ty := o.type) (K := fun v => K v w) h (fun l hl => xargs_spec hE hl) fun v hv => hK v hv; exact this
   · rename_i hc; simp only [hc]; split at h
     · rename_i xs hx; obtain ⟨k, a, bs, e1, e2⟩ := mm false xs hx h; rw [e1]; exact ⟨_, (run_mm k w bs a).1, hK _ e2⟩
     · cases h
   · rename_i hc; simp only [hc]; split at h
     · rename_i xs hx; obtain ⟨k, a, bs, e1, e2⟩ := mm true xs hx h; rw [e1]; exact ⟨_, (run_mm k w bs a).2, hK _ e2⟩
     · cases h
   · cases h
 | _ => simp only [ho] at h; cases h
end
end Go.Ev
namespace Go.Ev
open Go Go.Vc
noncomputable section
variable {P : Program} {base : Bs} {w0 : World} {σ : Sg} {s : St} {w w' : World} {ρ : T X} {r : Env}
structure Wo (P : Program) (base : Bs) (w0 : World) (σ : Sg) (s : St) (w : World) : Prop where
 mem : Mem P base σ s w
 fresh : Fresh base σ s
 fram : Fram base w0 w
theorem Wo.drew (h : Wo P base w0 σ s w) : Wo P base w0 σ s w.drew := ⟨h.mem.drew, h.fresh, h.fram.drew⟩
theorem setL_eq : ∀ (us l : List Value) (o : Nat), o + us.length ≤ l.length → setL l o us = l.take o ++ us ++ l.drop (o + us.length)
 | [], l, o, h => by simp [setL]
 | u :: us, l, o, h => by
   simp only [List.length_cons] at h; rw [setL, setL_eq us (l.set o u) (o + 1) (by rw [List.length_set]; omega)]
   have h1 : (l.set o u).take (o + 1) = l.take o ++ [u] := by
     rw [List.take_add_one, List.take_set_of_le (Nat.le_refl _), List.getElem?_set_self (by omega)]; rfl
   have h2 : (l.set o u).drop (o + 1 + us.length) = l.drop (o + (us.length + 1)) := by
     rw [List.drop_set_of_lt (by omega)]
     congr 1
     omega
   rw [h1, h2]; simp
theorem heap_setCells {b : Nat} {t : TypeId} {fz : Nat × Nat} : ∀ (vs : List Value) {w : World} {cs : List Value} (o : Nat), w.heap[b]? = some (.cells cs.toArray t fz) →
   (w.setCells b o vs).heap[b]? = some (.cells (setL cs o vs).toArray t fz) ∧ ∀ c, c ≠ b → (w.setCells b o vs).heap[c]? = w.heap[c]?
 | [], w, cs, o, h => ⟨h, fun _ _ => rfl⟩
 | v :: r, w, cs, o, h => by
   have h1 : (w.setCell ⟨b, o, none⟩ v).heap[b]? = some (.cells (cs.set o v).toArray t fz) := by simp [World.setCell, Array.getElem?_modify, h]
   have h2 : ∀ c, c ≠ b → (w.setCell ⟨b, o, none⟩ v).heap[c]? = w.heap[c]? := fun c hc => by
     simp only [World.setCell, Array.getElem?_modify]; rw [if_neg (by simpa using fun h => hc h.symm)]
   obtain ⟨g1, g2⟩ := heap_setCells r (o + 1) h1; exact ⟨g1, fun c hc => (g2 c hc).trans (h2 c hc)⟩
theorem same_setCells : ∀ (vs : List Value) (w : World) (b o : Nat), Same w (w.setCells b o vs)
 | [], w, _, _ => .refl w
 | v :: r, w, b, o => (Same.setCell w _ v).trans (same_setCells r _ b (o + 1))
theorem Own.write {b e : Nat} {cs : List X} {rb off k : Nat} {pre vs sp post : List Value} (g : Own P base σ w b e cs rb off k pre vs sp post) (o : Nat) (us : List Value) (ho : o + us.length ≤ vs.length + sp.length) :
   (∃ fz : Nat × Nat, (w.setCells rb (off + o) us).heap[rb]? = some (.cells (pre ++ ((vs ++ sp).take o ++ us ++ (vs ++ sp).drop (o + us.length)) ++ post).toArray e fz) ∧ ∀ q, q < (pre ++ vs ++ sp ++ post).length → ¬ (fz.1 ≤ q ∧ q < fz.2)) ∧
     (∀ c x, c ≠ rb → w.heap[c]? = some x → (w.setCells rb (off + o) us).heap[c]? = some x) := by
 obtain ⟨fz, hh, hz⟩ := g.heap; obtain ⟨g1, g2⟩ := heap_setCells us (off + o) hh; refine ⟨⟨fz, ?_, hz⟩, fun c x hc hx => (g2 c hc).trans hx⟩; rw [g1]
 congr 3
 have hp := g.pre_; rw [setL_eq us _ _ (by simp; omega)]
 have e1 : pre ++ vs ++ sp ++ post = pre ++ ((vs ++ sp) ++ post) := by simp
 rw [e1, ← hp, List.take_append, List.take_of_length_le (by omega), Nat.add_sub_cancel_left, List.take_append_of_le_length (by simp; omega), List.drop_append, List.drop_of_length_le (by omega), List.nil_append,
   show pre.length + o + us.length - pre.length = o + us.length by omega, List.drop_append_of_le_length (by simp; omega)]
 simp
def stX (s : St) (a : Nat × Nat) (x : X) : Option St := match s.blk a.1 with
 | some c => (match Nat.blt a.2 c.2.length with
   | true => some (s.put a.1 (some (c.1, c.2.set a.2 x)))
   | false => none)
 | none => none
def flatX : X → Bool
 | .g _ | .t _ => false
 | _ => true
theorem flatX_sg {x : X} {v : Value} (h : flatX x = true) (hv : vl σ x = some v) : sg v = true := by
 cases x with
 | g xs => cases h
 | t xs => cases h
 | b c => simp only [vl, Option.some.injEq] at hv; subst hv; rfl
 | i k n => simp only [vl, Option.some.injEq] at hv; subst hv; rfl
 | s l => simp only [vl, Option.some.injEq] at hv; subst hv; rfl
 | ni => simp only [vl, Option.some.injEq] at hv; subst hv; rfl
 | nf => simp only [vl, Option.some.injEq] at hv; subst hv; rfl
 | p a =>
   cases a with
   | none => simp only [vl, Option.some.injEq] at hv; subst hv; rfl
   | some a =>
     simp only [vl] at hv
     cases hs : σ a.1 with
     | none => rw [hs] at hv; cases hv
     | some r => rw [hs] at hv; obtain rfl := Option.some.inj hv; rfl
 | l a n c =>
   cases a with
   | none => simp only [vl, Option.some.injEq] at hv; subst hv; rfl
   | some a =>
     simp only [vl] at hv
     cases hs : σ a.1 with
     | none => rw [hs] at hv; cases hv
     | some r => rw [hs] at hv; obtain rfl := Option.some.inj hv; rfl
 | fc t x =>
   simp only [vl] at hv
   cases hs : vl σ x with
   | none => rw [hs] at hv; cases hv
   | some r => rw [hs] at hv; obtain rfl := Option.some.inj hv; rfl
 | f fn a c =>
   simp only [vl] at hv
   cases hs : vls σ a with
   | none => rw [hs] at hv; cases hv
   | some r =>
     cases hc : vls σ c with
     | none => rw [hs, hc] at hv; cases hv
     | some r' => rw [hs, hc] at hv; obtain rfl := Option.some.inj hv; rfl
 | m a =>
   cases a with
   | none => simp only [vl, Option.some.injEq] at hv; subst hv; rfl
   | some a =>
     simp only [vl] at hv
     cases hs : σ a with
     | none => rw [hs] at hv; cases hv
     | some r => rw [hs] at hv; obtain rfl := Option.some.inj hv; rfl
 | e0 b o q =>
   simp only [vl] at hv
   cases hs : σ b with
   | none => rw [hs] at hv; cases hv
   | some r => rw [hs] at hv; obtain rfl := Option.some.inj hv; rfl
def flatXs : List X → Bool
 | [] => true
 | x :: r => match flatX x with
   | true => flatXs r
   | false => false
theorem flatXs_sg : ∀ {xs : List X} {vs : List Value}, flatXs xs = true → vls σ xs = some vs → vs.all sg = true
 | [], vs, _, h => by simp only [vls, Option.some.injEq] at h; subst h; rfl
 | x :: r, vs, hf, h => by
   obtain ⟨v, us, h1, h2, rfl⟩ := vls_cons h; simp only [flatXs] at hf
   cases hx : flatX x with
   | false => rw [hx] at hf; cases hf
   | true =>
     rw [hx] at hf; rw [List.all_cons, flatX_sg hx h1, flatXs_sg hf h2]; rfl
theorem all_take_drop {vs us : List Value} {o : Nat} (h1 : vs.all sg = true) (h2 : us.all sg = true) (n : Nat) : (vs.take o ++ us ++ vs.drop n).all sg = true := by
 rw [List.all_append, List.all_append, Bool.and_eq_true, Bool.and_eq_true]; refine ⟨⟨List.all_eq_true.2 fun x hx => List.all_eq_true.1 h1 x (List.mem_of_mem_take hx), h2⟩, List.all_eq_true.2 fun x hx => List.all_eq_true.1 h1 x (List.mem_of_mem_drop hx)⟩
theorem Wo.write (h : Wo P base w0 σ s w) {b e : Nat} {cs xs : List X} {us : List Value} {o : Nat} (hb : s.blk b = some (e, cs)) (hx : vls σ xs = some us) (hf : us.all sg = true) (ho : o + xs.length ≤ cs.length) {q : Nat × Nat × Nat} (hq : σ b = some q) :
   Wo P base w0 σ (s.put b (some (e, setLX cs o xs))) (w.setCells q.1 (q.2.1 + o) us) ∧ (∀ j, j < us.length → (w.cell? ⟨q.1, q.2.1 + o + j, none⟩).isSome = true ∧ w.frozen? ⟨q.1, q.2.1 + o + j, none⟩ = false) := by
 obtain ⟨rb, off, k, pre, vs, sp, post, g⟩ := h.mem.own b e cs hb; have hg := g.sg_; rw [hq] at hg; obtain rfl := Option.some.inj hg; have l1 := vls_len g.val; have l2 := vls_len hx; obtain ⟨⟨fz, h1, hz⟩, h2⟩ := g.write o us (by omega); refine ⟨⟨h.mem.upd hb (w' := w.setCells rb (off + o) us) (post := post) ⟨g.sg_, setLX_spec o g.val hx, g.pre_, g.sp_, ⟨fz, ?_, fun q hq => hz q ?_⟩, g.low, ?_, g.mul_, g.nsp⟩ h2, h.fresh, h.fram.upd (same_setCells _ _ _ _) g.low h2⟩, fun j hj => ⟨?_, ?_⟩⟩
 · show (w.setCells rb (off + o) us).heap[rb]? = _; rw [h1, setL_eq us vs o (by omega), List.take_append_of_le_length (by omega), List.drop_append_of_le_length (by omega)]; simp
 · have := setL_len us vs o; simp only [List.length_append] at hq ⊢; omega
 · rw [setL_eq us vs o (by omega)]; exact all_take_drop g.flat hf _
 · show (w.cell? ⟨rb, off + o + j, none⟩).isSome = true; rw [Nat.add_assoc, g.cell (by omega)]; simp; omega
 · show w.frozen? ⟨rb, off + o + j, none⟩ = false; rw [Nat.add_assoc]; exact g.nofz (by have := g.pre_; simp only [List.length_append]; omega)
def sizeX (P : Program) (t : TypeId) : Option (Nat × Nat) := match P.info? t with
 | some i => some (i.size, i.bytes)
 | none => none
def srcX (P : Program) (s : St) (k : Nat) (tx : TypeId) (y : X) : Option (Nat × List X) := match P.underlying tx, y with
 | some .string, .s l => (match Nat.beq k 1 with
   | true => some (l.length, l.map fun m => .i .u8 ((m % 256 : Nat) : Int))
   | false => none)
 | some (.slice _), .l none 0 _ => some (0, [])
 | some (.slice _), .e0 _ _ _ => some (0, [])
 | some (.slice _), .l (some b) m _ => (match s.blk b.1 with
   | some c => (match Nat.beq ((c.2.drop b.2).take (m * k)).length (m * k) with
     | true => some (m, (c.2.drop b.2).take (m * k))
     | false => none)
   | none => none)
 | _, _ => none
theorem srcX_ok (hM : Mem P base σ s w) {k : Nat} {tx : TypeId} {y : X} {v : Value} {n : Nat} {xs : List X} (h : srcX P s k tx y = some (n, xs)) (hv : vl σ y = some v) : ∃ us, vls σ xs = some us ∧ us.all sg = true ∧ Src P k tx v n us w := by
 unfold srcX at h; split at h
 · rename_i l hu; split at h
   · rename_i hk; obtain rfl := Nat.eq_of_beq_eq_true hk; simp only [Option.some.injEq, Prod.mk.injEq] at h; obtain ⟨rfl, rfl⟩ := h; simp only [vl, Option.some.injEq] at hv; subst hv
     have hb : byteCells (str l) = l.map fun m => Value.int .u8 ((m % 256 : Nat) : Int) := by
       unfold byteCells str; simp
     have hs := Src.ofString (P := P) w hu (str l); rw [str_size, hb] at hs; refine ⟨_, ?_, ?_, hs⟩
     · clear hs hb
       induction l with
       | nil => rfl
       | cons c l ih => exact vls_mk rfl ih
     · simp [sg]
   · cases h
 · rename_i e c hu; simp only [Option.some.injEq, Prod.mk.injEq] at h; obtain ⟨rfl, rfl⟩ := h; simp only [vl, Option.some.injEq] at hv; subst hv; exact ⟨[], rfl, rfl, Src.ofNil (P := P) w hu _⟩
 · rename_i e b o q hu; simp only [Option.some.injEq, Prod.mk.injEq] at h; obtain ⟨rfl, rfl⟩ := h; simp only [vl] at hv
   cases hs : σ b with
   | none => rw [hs] at hv; cases hv
   | some r =>
     rw [hs] at hv; obtain rfl := Option.some.inj hv; exact ⟨[], rfl, rfl, Src.ofSlice (P := P) w hu _ 0 _ [] (by simp) (fun j v hj => by simp at hj) (fun v hv => by simp at hv)⟩
 · rename_i e b m c hu; split at h
   · rename_i cb hb; split at h
     · rename_i hl; simp only [Option.some.injEq, Prod.mk.injEq] at h; obtain ⟨rfl, rfl⟩ := h; obtain ⟨be, cs⟩ := cb; obtain ⟨rb, off, kk, pre, vs, sp, post, g⟩ := hM.own b.1 be cs hb; simp only [vl, g.sg_, Option.some.injEq] at hv; subst hv; have h3 := vls_take (m * k) (vls_drop b.2 g.val); have h5 := Nat.eq_of_beq_eq_true hl; rw [vls_len h3] at h5; have hfl : ((vs.drop b.2).take (m * k)).all sg = true := List.all_eq_true.2 fun x hx => List.all_eq_true.1 g.flat x (List.mem_of_mem_drop (List.mem_of_mem_take hx)); refine ⟨_, h3, hfl, Src.ofSlice (P := P) w hu _ m _ _ h5 (fun j u hj => ?_) fun u hu2 => sg_one (List.all_eq_true.1 hfl u hu2)⟩; rw [add_off]; have hj2 := hj; rw [List.getElem?_take_of_lt (by have := (List.getElem?_eq_some_iff.1 hj).1; omega), List.getElem?_drop] at hj2; show w.cell? ⟨rb, off + b.2 + j, none⟩ = _; rw [show off + b.2 + j = off + (b.2 + j) by omega, g.cell (List.getElem?_eq_some_iff.1 hj2).1, hj2]
     · cases h
   · cases h
 · cases h
end
end Go.Ev
namespace Go.Ev
open Go Go.Vc
noncomputable section
variable {P : Program} {base : Bs} {w0 : World} {σ : Sg} {s : St} {w w' : World} {ρ : T X} {r : Env}
def elemX (P : Program) (t : TypeId) : Option (TypeId × Nat × Nat) := match P.underlying t with
 | some (.slice e) => (match P.info? e with
   | some i => (match i.zero with
     | some z => (match Nat.beq z.cells.size i.size, Nat.blt 0 i.size with
       | true, true => some (e, i.size, i.bytes)
       | _, _ => none)
     | none => none)
   | none => none)
 | _ => none
theorem elemX_ok {t e : TypeId} {k b : Nat} (h : elemX P t = some (e, k, b)) : ∃ i z, P.underlying t = some (.slice e) ∧ P.info? e = some i ∧ i.zero = some z ∧ z.cells.size = k ∧ i.size = k ∧ i.bytes = b ∧ 0 < k ∧ szOf P e = k := by
 unfold elemX at h; split at h
 · rename_i e' hu; split at h
   · rename_i i hi; split at h
     · rename_i z hz; split at h
       · rename_i h1 h2; simp only [Option.some.injEq, Prod.mk.injEq] at h; obtain ⟨rfl, rfl, rfl⟩ := h; exact ⟨i, z, hu, hi, hz, Nat.eq_of_beq_eq_true h1, rfl, rfl, Nat.le_of_ble_eq_true h2, by unfold szOf; rw [hi]⟩
       · cases h
     · cases h
   · cases h
 · cases h
def app2 (s : St) (e k bytes : Nat) (n : Nat) (news : List X) : X → Option (X × St)
 | .l none 0 0 => (match n with
   | 0 => some (.l none 0 0, s)
   | n + 1 => (match Nat.ble ((n + 1) * bytes) 140737488355328, Nat.ble (n + 1) 9223372036854775807 with
     | true, true => some (.l (some (s.n, 0)) (n + 1) (n + 1), s.new (e, news))
     | _, _ => none))
 | .l (some a) m c => (match s.blk a.1 with
   | some cb => (match Nat.beq cb.1 e, Nat.ble m c with
     | true, true => (match Nat.ble (m + n) c with
       | true => (match Nat.ble (a.2 + m * k + news.length) cb.2.length with
         | true => some (.l (some a) (m + n) c, s.put a.1 (some (cb.1, setLX cb.2 (a.2 + m * k) news)))
         | false => none)
       | false => (match Nat.beq (a.2 + c * k) cb.2.length, Nat.ble ((m + n) * bytes) 140737488355328, Nat.ble (m + n) 9223372036854775807, Nat.beq (a.2 % k) 0 with
         | true, true, true, true => some (.l (some (s.n, 0)) (m + n) (m + n), (s.put a.1 none).new (e, (cb.2.drop a.2).take (m * k) ++ news))
         | _, _, _, _ => none))
     | _, _ => none)
   | none => none)
 | _ => none
def appX (P : Program) (t tx : TypeId) (x y : X) (s : St) : Option (X × St) := match elemX P t with
 | some q => (match srcX P s q.2.1 tx y, isArrB P q.1 with
   | some z, false => app2 s q.1 q.2.1 q.2.2 z.1 z.2 x
   | _, _ => none)
 | none => none
theorem zc_len (z : Array Value) (n : Nat) : (Builtin.zeroCells z n).toList.length = n * z.size := by simp [Builtin.zeroCells]
theorem appX_ok (h : Wo P base w0 σ s w) {t tx ty : TypeId} {x y z : X} {u v : Value} {s' : St} (ha : appX P t tx x y s = some (z, s')) (hx : vl σ x = some u) (hy : vl σ y = some v) {K : Value → World → Prop}
   (hK : ∀ σ' w' v', Ext σ σ' → Wo P base w0 σ' s' w' → vl σ' z = some v' → K v' w') : Ap P #[t, tx] ty #[u, v] w K := by
 unfold appX at ha; split at ha
 · rename_i q hq; obtain ⟨e, k, bytes⟩ := q; obtain ⟨i, zv, hu, hi, hz, hzk, hik, hib, hk0, hsz⟩ := elemX_ok hq; split at ha
   · rename_i nz hs hna
     have hns : ∀ k : Nat, isArrB P e = true → k = 0 := fun k he => by rw [show isArrB P e = false from hna] at he; cases he
     obtain ⟨n, news⟩ := nz; simp only at ha hs; obtain ⟨us, hus, husg, hsrc⟩ := srcX_ok h.mem hs hy; have hnl := hsrc.newsLen; have hnx := vls_len hus; subst hik; subst hib; unfold app2 at ha; split at ha
     · -- nil
       simp only [vl, Option.some.injEq] at hx; subst hx; split at ha
       · simp only [Option.some.injEq, Prod.mk.injEq] at ha; obtain ⟨rfl, rfl⟩ := ha; refine ⟨.slice none 0 0, w, ?_, hK σ w _ (Ext.refl _) h rfl⟩
         rcases hsrc.kind with ⟨e', hk⟩ | hk <;> simp [Builtin.append_, run_underlying hu, run_underlying hk, sizeOf, typeInfo, hi, hsrc.len, hsrc.cells]
       · rename_i n; split at ha
         · rename_i h1 h2; simp only [Option.some.injEq, Prod.mk.injEq] at ha; obtain ⟨rfl, rfl⟩ := ha; have h1 := Nat.le_of_ble_eq_true h1; have h2 := Nat.le_of_ble_eq_true h2; have hrun := run_append_grow_src (P := P) w t tx ty e i zv hu hi hz none 0 0 [] (run_firstCells_none w.drew i.size 0 0 0) v (n + 1) us hsrc (by omega) (by omega) (growslice_fits (by omega) (by rw [Nat.zero_add]; exact h1)); refine ⟨_, _, hrun, ?_⟩; rw [Nat.zero_add, List.nil_append]; have hcap := grownCap_ge w (n + 1) 0 e; generalize grownCap w (n + 1) 0 e = cap at hcap ⊢; obtain ⟨g1, g2, g3⟩ := h.drew.mem.alloc h.fresh h.drew.fram (e := e) (cs := news) (k := cap - (n + 1)) (sp := (Builtin.zeroCells zv.cells (cap - (n + 1))).toList) hus (by rw [zc_len, hsz, hzk]) husg (hns _)
           have hc : us.toArray ++ Builtin.zeroCells zv.cells (cap - (n + 1)) = (us ++ (Builtin.zeroCells zv.cells (cap - (n + 1))).toList).toArray := by simp
           rw [hc]; refine hK _ _ _ g2 ⟨g1, g3, h.drew.fram.alloc _⟩ ?_; simp only [vl]; rw [sgPut_same]; simp only [Option.some.injEq, Value.slice.injEq, true_and]; exact ⟨rfl, by omega⟩
         · cases ha
     · -- a block of its own
       rename_i a m c; split at ha
       · rename_i cb hb; obtain ⟨be, cs⟩ := cb; simp only at ha; split at ha
         · rename_i hbe hmc; obtain rfl := Nat.eq_of_beq_eq_true hbe; have hmc := Nat.le_of_ble_eq_true hmc; obtain ⟨rb, off, kk, pre, vs, sp, post, g⟩ := h.mem.own a.1 be cs hb; simp only [vl, g.sg_, Option.some.injEq] at hx; subst hx; have hvl := vls_len g.val; split at ha
           · rename_i hroom; have hroom := Nat.le_of_ble_eq_true hroom; split at ha
             · rename_i hin; have hin := Nat.le_of_ble_eq_true hin; simp only [Option.some.injEq, Prod.mk.injEq] at ha; obtain ⟨rfl, rfl⟩ := ha; obtain ⟨hw, hc⟩ := h.write hb hus husg hin g.sg_
               have hrun := run_append_room_src (P := P) w t tx ty be i hu hi rb (off + a.2) m (c + kk) v n us hsrc (by omega)
                 (fun j hj => by rw [Nat.add_assoc off]; exact (hc j hj).1) (fun j hj => by rw [Nat.add_assoc off]; exact (hc j hj).2)
               refine ⟨_, _, hrun, ?_⟩; rw [show off + a.2 + m * i.size = off + (a.2 + m * i.size) by omega]; refine hK _ _ _ (Ext.refl _) hw ?_; simp only [vl, g.sg_]
             · cases ha
           · rename_i hroom
             have hroom : ¬ m + n ≤ c := fun e => by rw [Nat.ble_eq_true_of_le e] at hroom; cases hroom
             split at ha
             · rename_i h1 h2 h3 h4; have h1 := Nat.eq_of_beq_eq_true h1; have h2 := Nat.le_of_ble_eq_true h2; have h3 := Nat.le_of_ble_eq_true h3; have h4 := Nat.eq_of_beq_eq_true h4; simp only [Option.some.injEq, Prod.mk.injEq] at ha; obtain ⟨rfl, rfl⟩ := ha; have hmk : m * i.size ≤ c * i.size := Nat.mul_le_mul_right _ hmc; have hold := vls_take (m * i.size) (vls_drop a.2 g.val)
               have hol : ((vs.drop a.2).take (m * i.size)).length = m * i.size := by rw [List.length_take, List.length_drop]; omega
               have hosg : ((vs.drop a.2).take (m * i.size)).all sg = true := List.all_eq_true.2 fun x hx => List.all_eq_true.1 g.flat x (List.mem_of_mem_drop (List.mem_of_mem_take hx)); have hfresh : Fresh base σ (s.put a.1 none) := h.fresh; have hv2 := vls_app hold hus
               have hsg2 : ((vs.drop a.2).take (m * i.size) ++ us).all sg = true := by rw [List.all_append, hosg, husg]; rfl
               have hfirst : ∀ w1 : World, w1.heap = w.heap → (Builtin.firstCells i.size m (.slice (some ⟨rb, off + a.2, none⟩) m (c + kk))).run P w1 = .ok ((vs.drop a.2).take (m * i.size)).toArray w1 := by
                 intro w1 hw1; refine run_firstCells_some (P := P) w1 i.size m _ m (c + kk) _ hol fun j u hj => ?_; rw [add_off]; have hj2 := hj; rw [List.getElem?_take_of_lt (by have := (List.getElem?_eq_some_iff.1 hj).1; omega), List.getElem?_drop] at hj2
                 have e1 : w1.cell? ⟨rb, off + a.2 + j, none⟩ = w.cell? ⟨rb, off + a.2 + j, none⟩ := by unfold World.cell?; rw [hw1]
                 rw [e1, show off + a.2 + j = off + (a.2 + j) by omega, g.cell (List.getElem?_eq_some_iff.1 hj2).1, hj2]
               rcases Nat.lt_or_ge (c + kk) (m + n) with hg | hg
               · -- a new row
                 have hrun := run_append_grow_src (P := P) w t tx ty be i zv hu hi hz (some ⟨rb, off + a.2, none⟩) m (c + kk) _ (hfirst w.drew rfl) v n us hsrc hg (by omega) (growslice_fits (by omega) h2); refine ⟨_, _, hrun, ?_⟩; have hcap := grownCap_ge w (m + n) (c + kk) be; generalize grownCap w (m + n) (c + kk) be = cap at hcap ⊢; obtain ⟨g1, g2, g3⟩ := (h.drew.mem.del a.1).alloc hfresh h.drew.fram (e := be) (k := cap - (m + n)) (sp := (Builtin.zeroCells zv.cells (cap - (m + n))).toList) hv2 (by rw [zc_len, hsz, hzk]) hsg2 (hns _)
                 have hc : ((vs.drop a.2).take (m * i.size) ++ us).toArray ++ Builtin.zeroCells zv.cells (cap - (m + n)) = ((vs.drop a.2).take (m * i.size) ++ us ++ (Builtin.zeroCells zv.cells (cap - (m + n))).toList).toArray := by simp
                 rw [hc]; refine hK _ _ _ g2 ⟨g1, g3, h.drew.fram.alloc _⟩ ?_; simp only [vl]; rw [show (s.put a.1 none).n = s.n from rfl, sgPut_same]; simp only [Option.some.injEq, Value.slice.injEq, true_and]; exact ⟨rfl, by omega⟩
               · -- in the room that was spare
                 have hspl := g.sp_; rw [hsz] at hspl; have hpre := g.pre_; have hnk : (m + n) * i.size ≤ (c + kk) * i.size := Nat.mul_le_mul_right _ hg; have hd1 : (m + n) * i.size = m * i.size + n * i.size := Nat.add_mul _ _ _; have hd2 : (c + kk) * i.size = c * i.size + kk * i.size := Nat.add_mul _ _ _; have hd3 : (c + kk - (m + n)) * i.size = (c + kk) * i.size - (m + n) * i.size := Nat.sub_mul _ _ _; obtain ⟨⟨fz, w1, wz⟩, w2⟩ := g.write (a.2 + m * i.size) us (by omega)
                 have hcells : ∀ j, j < us.length → (w.cell? ⟨rb, off + a.2 + m * i.size + j, none⟩).isSome = true := by
                   intro j hj; have : w.cell? ⟨rb, off + a.2 + m * i.size + j, none⟩ = (pre ++ vs ++ sp ++ post)[off + a.2 + m * i.size + j]? := g.any _; rw [this, List.getElem?_eq_getElem (by simp; omega)]; rfl
                 have hfroz : ∀ j, j < us.length → w.frozen? ⟨rb, off + a.2 + m * i.size + j, none⟩ = false := fun j hj => g.nofz (by simp only [List.length_append]; omega); have hrun := run_append_room_src (P := P) w t tx ty be i hu hi rb (off + a.2) m (c + kk) v n us hsrc hg hcells hfroz; refine ⟨_, _, hrun, ?_⟩; rw [show off + a.2 + m * i.size = off + (a.2 + m * i.size) by omega]
                 have hlist : pre ++ ((vs ++ sp).take (a.2 + m * i.size) ++ us ++ (vs ++ sp).drop (a.2 + m * i.size + us.length)) ++ post =
                     (pre ++ vs.take a.2) ++ ((vs.drop a.2).take (m * i.size) ++ us) ++ (vs ++ sp).drop (a.2 + m * i.size + us.length) ++ post := by
                   have e1 : (vs ++ sp).take (a.2 + m * i.size) = vs.take a.2 ++ (vs.drop a.2).take (m * i.size) := by
                     rw [List.take_append_of_le_length (by omega), List.take_add]
                   rw [e1]; simp
                 rw [hlist] at w1
                 have hpl : (pre ++ vs.take a.2).length = off + a.2 := by rw [List.length_append, List.length_take]; omega
                 obtain ⟨g1, g2, g3⟩ := (h.mem.del a.1).fresh (w' := w.setCells rb (off + (a.2 + m * i.size)) us) hfresh (e := be) (k := c + kk - (m + n)) hv2 (by rw [hsz, List.length_drop, List.length_append]; omega) g.low hsg2 ⟨fz, w1, fun q hq => wz q (by have := congrArg List.length hlist; simp only [List.length_append, List.length_take, List.length_drop] at this hq ⊢; omega)⟩
                   (fun b x r hb2 hr he => by
                     have hne : b ≠ a.1 ∧ s.blk b = some x := by
                       rcases blk_put hb2 with ⟨_, h5⟩ | h5
                       · cases h5
                       · exact h5
                     exact h.mem.apart b a.1 x _ r _ hne.2 hb hne.1 hr g.sg_ he)
                   (fun b x r hb2 hr he => by
                     obtain ⟨fz', hh', _⟩ := g.heap
                     exact h.mem.sep (q := b) (o := x) hb2 ⟨_, _, _, hh'⟩ hr he) (by
                     obtain ⟨q, hq⟩ := g.mul_; refine ⟨q + a.2 / i.size, ?_⟩; have e1 := Nat.div_add_mod a.2 i.size; rw [h4, Nat.add_zero, Nat.mul_comm] at e1
                     rw [hpl, hq, hsz, Nat.add_mul, e1]) (hns _) w2
                 rw [hpl] at g1 g2 g3; refine hK _ _ _ g2 ⟨g1, g3, h.fram.upd (same_setCells _ _ _ _) g.low w2⟩ ?_; simp only [vl]; rw [show (s.put a.1 none).n = s.n from rfl, sgPut_same]; simp only [Option.some.injEq, Value.slice.injEq, true_and]; exact ⟨rfl, by omega⟩
             · cases ha
         · cases ha
       · cases ha
     · cases ha
   · cases ha
 · cases ha
end
end Go.Ev
namespace Go.Ev
open Go Go.Vc
noncomputable section
variable {P : Program} {base : Bs} {w0 : World} {σ : Sg} {s : St} {w w' : World}
def undX : X := .t []
def Fin (P : Program) (base : Bs) (w0 : World) (σ : Sg) (x : X) (s' : St) (K : Value → World → Prop) : Prop := ∀ σ' w' v, Ext σ σ' → Wo P base w0 σ' s' w' → vl σ' x = some v → K v w'
theorem Wo.mnew (h : Wo P base w0 σ s w) {o : M} {ob : Obj} (hn : ∀ w', w'.heap[w.heap.size]? = some ob → MOk σ w' w.heap.size o) : ∃ σ', Ext σ σ' ∧ Wo P base w0 σ' (s.mnew o) (w.alloc ob) ∧ σ' s.n = some (w.heap.size, 0, 0) := by
 obtain ⟨g1, g2, g3⟩ := h.mem.mnew h.fresh h.fram hn; exact ⟨_, g2, ⟨g1, g3, h.fram.alloc _⟩, sgPut_same _ _ _⟩
theorem Wo.mset (h : Wo P base w0 σ s w) {b rb : Nat} {o o' : M} {ob : Obj} (hb : s.mo b = some o) (hr : σ b = some (rb, 0, 0)) (hn : ∀ w', w'.heap[rb]? = some ob → MOk σ w' rb o') :
   Wo P base w0 σ (s.mput b (some o')) { w with heap := w.heap.setIfInBounds rb ob } := by
 obtain ⟨rb', h1, h2, h3⟩ := h.mem.mown b o hb; rw [hr] at h1; cases h1; obtain ⟨ox, hox⟩ := Option.isSome_iff_exists.1 h3.noC.2; obtain ⟨g1, g2⟩ := MapKept.heap_set (o' := ob) hox; have ho : ∀ c x, c ≠ rb → w.heap[c]? = some x → (w.heap.setIfInBounds rb ob)[c]? = some x := fun c x hc hx => (g2 c hc).trans hx; exact ⟨h.mem.mupd hb hr (hn _ g1) ho, h.fresh, h.fram.upd ⟨rfl, rfl, rfl, by simp⟩ h2 ho⟩
def mmX0 (P : Program) (t : TypeId) (r : Option (Option X)) (s : St) : Option (X × St) := match r with
 | none => some (.m (some s.n), s.mnew (.mp []))
 | some (some (.i _ _)) => (match P.underlying t with
   | some (.map _ _) => some (.m (some s.n), s.mnew (.mp []))
   | _ => none)
 | _ => none
def RqX (σ : Sg) : Option (Option X) → Option Value → Prop
 | none, none => True
 | some (some a), some v => vl σ a = some v
 | some none, some _ => True
 | _, _ => False
theorem mmX0_ok (h : Wo P base w0 σ s w) {t : TypeId} {r : Option (Option X)} {q : Option Value} {x : X} {s' : St} (hx : mmX0 P t r s = some (x, s')) (hq : RqX σ r q) {K : Value → World → Prop} (hK : Fin P base w0 σ x s' K) : Mm P t q w K := by
 obtain ⟨σ', k1, k2, k3⟩ := h.mnew (o := .mp []) (ob := .map #[] 0) fun w' hw => ⟨[], 0, hw, trivial⟩; unfold mmX0 at hx; split at hx
 · simp only [Option.some.injEq, Prod.mk.injEq] at hx; obtain ⟨rfl, rfl⟩ := hx
   cases q with
   | some v => exact hq.elim
   | none =>
     refine ⟨.map (some w.heap.size), w.alloc (.map #[] 0), rfl, hK σ' _ _ k1 k2 ?_⟩; simp only [vl, k3]
 · rename_i k n
   cases hu : P.underlying t with
   | none => rw [hu] at hx; cases hx
   | some d =>
     rw [hu] at hx
     cases d with
     | map kt et =>
       simp only [Option.some.injEq, Prod.mk.injEq] at hx; obtain ⟨rfl, rfl⟩ := hx
       cases q with
       | none => exact hq.elim
       | some v =>
         replace hq : some (Value.int k n) = some v := hq; obtain rfl := Option.some.inj hq; refine ⟨.map (some w.heap.size), w.alloc (.map #[] 0), ?_, hK σ' _ _ k1 k2 ?_⟩
         · simp [Instr.makeMap, run_underlying hu, asInt, asIntOf]
         · simp only [vl, k3]
     | _ => cases hx
 · cases hx
def setE (es : List (X × X)) (j : Nat) (k v : X) : List (X × X) := es.set j (k, v)
def muX (P : Program) (t : TypeId) (m k x : Option X) (s : St) : Option (X × St) := match P.underlying t, m, k, x with
 | some (.map kt _), some (.m (some b)), some k, some x => (match P.underlying kt, s.mo b with
   | some d, some (.mp es) => (match keyOk d k, findX k es 0 with
     | true, some none => some (undX, s.mput b (some (.mp (es ++ [(k, x)]))))
     | true, some (some q) => some (undX, s.mput b (some (.mp (es.set q.1 (k, x)))))
     | _, _ => none)
   | _, _ => none)
 | _, _, _, _ => none
theorem EsR.app : ∀ {es es' : List (X × X)} {l l' : List MapEntry}, EsR σ es l → EsR σ es' l' → EsR σ (es ++ es') (l ++ l')
 | [], _, [], _, _, h => h
 | (k, v) :: es, _, e :: l, _, ⟨h1, h2, h3⟩, h => ⟨h1, h2, h3.app h⟩
 | [], _, _ :: _, _, h, _ => h.elim
 | _ :: _, _, [], _, h, _ => h.elim
theorem EsR.set {k x : X} {kv xv : Value} (hk : vl σ k = some kv) (hx : vl σ x = some xv) : ∀ {es : List (X × X)} {l : List MapEntry} (j : Nat), EsR σ es l → EsR σ (es.set j (k, x)) (l.modify j fun e => { e with key := kv, val := xv })
 | [], [], 0, _ => trivial
 | [], [], _ + 1, _ => trivial
 | (a, b) :: es, e :: l, 0, ⟨h1, h2, h3⟩ => ⟨hk, hx, h3⟩
 | (a, b) :: es, e :: l, j + 1, ⟨h1, h2, h3⟩ => ⟨h1, h2, h3.set hk hx j⟩
 | [], _ :: _, _, h => h.elim
 | _ :: _, [], _, h => h.elim
theorem EsR.get : ∀ {es : List (X × X)} {l : List MapEntry} {j : Nat} {e : X × X}, EsR σ es l → es[j]? = some e → ∃ e', l[j]? = some e' ∧ vl σ e.1 = some e'.key
 | [], [], _, _, _, h => by simp at h
 | (a, b) :: es, e' :: l, 0, e, ⟨h1, h2, h3⟩, h => by
   simp at h; subst h; exact ⟨e', rfl, h1⟩
 | (a, b) :: es, e' :: l, j + 1, e, ⟨h1, h2, h3⟩, h => by
   obtain ⟨q, g1, g2⟩ := h3.get (j := j) (by simpa using h); exact ⟨q, by simpa using g1, g2⟩
 | [], _ :: _, _, _, h, _ => h.elim
 | _ :: _, [], _, _, h, _ => h.elim
theorem keyEq_bits {x y : X} {u v : Value} (h : keyEq x y = some true) (hx : vl σ x = some u) (hy : vl σ y = some v) (n : Nat) : Instr.sameBits n v u = true := by
 unfold keyEq at h; split at h
 · split at h
   · rename_i hk; have hk := of_decide_eq_true hk; subst hk; simp only [vl, Option.some.injEq] at hx hy h; subst hx; subst hy; have := beq_iff_eq.1 h; subst this
     cases n <;> simp [Instr.sameBits]
   · cases h
 · simp only [vl, Option.some.injEq] at hx hy h; subst hx; subst hy; rw [eqN_spec, decide_eq_true_iff] at h; rw [h]
   cases n <;> simp only [Instr.sameBits] <;> exact (MapKept.bytes_beq _ _).2 rfl
 · cases h
theorem muX_ok (h : Wo P base w0 σ s w) {t : TypeId} {m k x : Option X} {mv kv xv : Value} {z : X} {s' : St} (hx : muX P t m k x s = some (z, s')) (hm : ∀ a, m = some a → vl σ a = some mv) (hk : ∀ a, k = some a → vl σ a = some kv) (hv : ∀ a, x = some a → vl σ a = some xv)
   {K : Value → World → Prop} (hK : Fin P base w0 σ z s' K) : Mu P t mv kv xv w fun w' => K undef w' := by
 unfold muX at hx; split at hx
 · rename_i kt et b k x ht; have hm := hm _ rfl; have hk := hk _ rfl; have hv := hv _ rfl; split at hx
   · rename_i d es hd hb; obtain ⟨rb, g1, g2, l, clock, g3, g4⟩ := h.mem.mown b _ hb; simp only [vl, g1, Option.some.injEq] at hm; subst hm; split at hx
     · rename_i hko hf; simp only [Option.some.injEq, Prod.mk.injEq] at hx; obtain ⟨rfl, rfl⟩ := hx; obtain ⟨q, e1, e2⟩ := findX_ok hko hk g4 hf
       cases q with
       | some q => exact e2.elim
       | none =>
         have hfk := mfindKey (P := P) (w := w) hd e1; refine ⟨(), { w with heap := w.heap.setIfInBounds rb (.map (l ++ [MapEntry.mk kv xv clock]).toArray (clock + 1)) }, ?_, hK σ _ undef (Ext.refl _) (h.mset hb g1 fun w' hw => ⟨_, _, hw, g4.app (es' := [(k, x)]) (l' := [MapEntry.mk kv xv clock]) ⟨hk, hv, trivial⟩⟩) rfl⟩; unfold Instr.mapUpdate; rw [Sem.run_bind, run_underlying ht]; simp only [Result.andThen_ok]; rw [Sem.run_bind, mgetObj g3]; simp only [Result.andThen_ok]; rw [Sem.run_bind, checkKey_ok hd hko hk]; simp only [Result.andThen_ok]; rw [Sem.run_bind, hfk]; simp only [Result.andThen_ok]; rw [msetObj _ g3]; simp
     · rename_i q hko hf; obtain ⟨j, y⟩ := q; simp only [Option.some.injEq, Prod.mk.injEq] at hx; obtain ⟨rfl, rfl⟩ := hx; obtain ⟨q, e1, e2⟩ := findX_ok hko hk g4 hf
       cases q with
       | none => exact e2.elim
       | some q =>
         obtain ⟨j', v'⟩ := q; obtain ⟨rfl, _, _, e, e3, e4⟩ := e2; rw [Nat.sub_zero] at e3; obtain ⟨e', e5, e6⟩ := g4.get e3; have hfk := mfindKey (P := P) (w := w) hd e1; refine ⟨(), { w with heap := w.heap.setIfInBounds rb (.map (l.modify j fun e => { e with key := kv, val := xv }).toArray clock) }, ?_, hK σ _ undef (Ext.refl _) (h.mset hb g1 fun w' hw => ⟨_, _, hw, g4.set hk hv j⟩) rfl⟩; unfold Instr.mapUpdate; rw [Sem.run_bind, run_underlying ht]; simp only [Result.andThen_ok]; rw [Sem.run_bind, mgetObj g3]; simp only [Result.andThen_ok]; rw [Sem.run_bind, checkKey_ok hd hko hk]; simp only [Result.andThen_ok]; rw [Sem.run_bind, hfk]; simp only [Result.andThen_ok]
         have hg : (((l.toArray)[j]?).map (·.key)).getD kv = e'.key := by
           have : l.toArray[j]? = some e' := by simpa using e5
           rw [this]; rfl
         rw [Sem.run_bind, hg]
         have hks : (Instr.keyThatStays e'.key kv).run P w = .ok kv w := by
           unfold Instr.keyThatStays; rw [if_pos (keyEq_bits e4 hk e6 10000)]; rfl
         rw [hks]; simp only [Result.andThen_ok]; rw [msetObj _ g3]; simp
     · cases hx
   · cases hx
 · cases hx
def delE (es : List (X × X)) (j : Nat) : List (X × X) := es.eraseIdx j
def dlX (P : Program) (ats : List TypeId) (xs : Option (List X)) (s : St) : Option (X × St) := match ats, xs with
 | t :: _, some (.m (some b) :: k :: _) => (match P.underlying t with
   | some (.map kt _) => (match P.underlying kt, s.mo b with
     | some d, some (.mp es) => (match keyOk d k, findX k es 0 with
       | true, some none => some (undX, s.mput b (some (.mp es)))
       | true, some (some q) => some (undX, s.mput b (some (.mp (es.eraseIdx q.1))))
       | _, _ => none)
     | _, _ => none)
   | _ => none)
 | _, _ => none
theorem EsR.erase : ∀ {es : List (X × X)} {l : List MapEntry} (j : Nat), EsR σ es l → EsR σ (es.eraseIdx j) (l.eraseIdx j)
 | [], [], _, _ => trivial
 | (a, b) :: es, e :: l, 0, ⟨h1, h2, h3⟩ => h3
 | (a, b) :: es, e :: l, j + 1, ⟨h1, h2, h3⟩ => ⟨h1, h2, h3.erase j⟩
 | [], _ :: _, _, h => h.elim
 | _ :: _, [], _, h => h.elim
theorem dlX_ok (h : Wo P base w0 σ s w) {ats : Array TypeId} {ty : TypeId} {xs : Option (List X)} {vs : List Value} {z : X} {s' : St} (hx : dlX P ats.toList xs s = some (z, s')) (hv : ∀ l, xs = some l → vls σ l = some vs)
   {K : Value → World → Prop} (hK : Fin P base w0 σ z s' K) : Bdel P ats ty vs.toArray w K := by
 unfold dlX at hx; split at hx
 · rename_i t ts b k ks hats; have hv := hv _ rfl; obtain ⟨v1, vs1, e1, e2, rfl⟩ := vls_cons hv; obtain ⟨v2, vs2, e3, e4, rfl⟩ := vls_cons e2
   have hat : ats = (t :: ts).toArray := by rw [← hats]
   subst hat; split at hx
   · rename_i kt et ht; split at hx
     · rename_i d es hd hb; obtain ⟨rb, g1, g2, l, clock, g3, g4⟩ := h.mem.mown b _ hb; simp only [vl, g1, Option.some.injEq] at e1; subst e1
       have pre : keyOk d k = true → ∀ q ob, Instr.findNow d v2 l 0 = some q → ob = (match q with
           | some (i, _) => Obj.map (l.toArray.eraseIdxIfInBounds i) clock
           | none => Obj.map l.toArray clock) → (Builtin.delete_ (t :: ts).toArray ty (.map (some rb) :: v2 :: vs2).toArray).run P w = .ok (.tuple #[]) { w with heap := w.heap.setIfInBounds rb ob } := by
         intro hko q ob hq hob; have hfk := mfindKey (P := P) (w := w) hd hq; unfold Builtin.delete_; simp only [List.getElem?_toArray, List.getElem?_cons_zero, List.getElem?_cons_succ]; rw [Sem.run_bind, run_underlying ht]; simp only [Result.andThen_ok]; rw [Sem.run_bind, mgetObj g3]; simp only [Result.andThen_ok]; rw [Sem.run_bind, checkKey_ok hd hko e3]; simp only [Result.andThen_ok]; rw [Sem.run_bind, hfk]; simp only [Result.andThen_ok]; subst hob
         cases q with
         | none =>
           simp only; rw [Sem.run_bind, msetObj _ g3]; rfl
         | some q =>
           obtain ⟨i, v⟩ := q; simp only; rw [Sem.run_bind, msetObj _ g3]; rfl
       split at hx
       · rename_i hko hf; simp only [Option.some.injEq, Prod.mk.injEq] at hx; obtain ⟨rfl, rfl⟩ := hx; obtain ⟨q, f1, f2⟩ := findX_ok hko e3 g4 hf
         cases q with
         | some q => exact f2.elim
         | none => exact ⟨_, _, pre hko none _ f1 rfl, hK σ _ undef (Ext.refl _) (h.mset hb g1 fun w' hw => ⟨_, _, hw, g4⟩) rfl⟩
       · rename_i q hko hf; obtain ⟨j, y⟩ := q; simp only [Option.some.injEq, Prod.mk.injEq] at hx; obtain ⟨rfl, rfl⟩ := hx; obtain ⟨q, f1, f2⟩ := findX_ok hko e3 g4 hf
         cases q with
         | none => exact f2.elim
         | some q =>
           obtain ⟨j', v'⟩ := q; obtain ⟨rfl, _⟩ := f2; refine ⟨_, _, pre hko (some (j, v')) _ f1 rfl, hK σ _ undef (Ext.refl _) (h.mset hb g1 fun w' hw => ⟨l.eraseIdx j, clock, ?_, g4.erase j⟩) rfl⟩; rw [hw]; show some (Obj.map (l.toArray.eraseIdxIfInBounds j) clock) = _
           congr 2
           unfold Array.eraseIdxIfInBounds; split
           · simp
           · rename_i hn; rw [List.eraseIdx_of_length_le (by simpa using hn)]
       · cases hx
     · cases hx
   · cases hx
 · cases hx
def rgX (P : Program) (t : TypeId) (x : Option X) (s : St) : Option (X × St) := match P.underlying t, x with
 | some .string, some (.s l) => some (.p (some (s.n, 0)), s.mnew (.it l 0))
 | _, _ => none
theorem rgX_ok (h : Wo P base w0 σ s w) {t : TypeId} {x : Option X} {v : Value} {z : X} {s' : St} (hx : rgX P t x s = some (z, s')) (hv : ∀ a, x = some a → vl σ a = some v) {K : Value → World → Prop} (hK : Fin P base w0 σ z s' K) : Rg P t v w K := by
 unfold rgX at hx; split at hx
 · rename_i l ht; have hv := hv _ rfl; simp only [vl, Option.some.injEq] at hv; subst hv; simp only [Option.some.injEq, Prod.mk.injEq] at hx; obtain ⟨rfl, rfl⟩ := hx; obtain ⟨σ', k1, k2, k3⟩ := h.mnew (o := .it l 0) (ob := .stringIter (str l) 0) fun w' hw => hw; refine ⟨_, _, run_range_string w t _ ht, hK σ' _ _ k1 k2 ?_⟩; simp only [vl, k3]
 · cases hx
def dcX (l : List Nat) (p : Nat) : Nat × Nat := match l[p]? with
 | some c => (match Nat.blt (c % 256) 128 with
   | true => (c % 256, 1)
   | false => Utf8.decode (str l) p)
 | none => Utf8.decode (str l) p
theorem dcX_eq (l : List Nat) (p : Nat) : dcX l p = Utf8.decode (str l) p := by
 unfold dcX; split
 · rename_i c hc; split
   · rename_i hb; have hb := Nat.le_of_ble_eq_true hb; have hp : p < l.length := (List.getElem?_eq_some_iff.1 hc).1
     have h0 : ((str l).get! (p + 0)).toNat = c % 256 := by
       have h1 : (str l).data.toList = l.map UInt8.ofNat := by simp [str]
       have h2 : (str l).get! (p + 0) = (str l).data[p]! := rfl
       have h3 : (str l).data[p]! = UInt8.ofNat c := by
         have h4 : (str l).data[p]? = some (UInt8.ofNat c) := by
           rw [← Array.getElem?_toList, h1, List.getElem?_map, hc]; rfl
         rw [getElem!_def, h4]
       rw [h2, h3]; simp
     unfold Utf8.decode; simp only [h0]; rw [if_pos (by omega)]
   · rfl
 · rfl
def nxX (isS : Bool) (x : Option X) (s : St) : Option (X × St) := match isS, x with
 | true, some (.p (some (b, 0))) => (match s.mo b with
   | some (.it l p) => (match Nat.blt p l.length with
     | true => (match dcX l p with
       | (c, k) => some (.t [.b true, .i .i64 (p : Int), .i .i32 (c : Int)], s.mput b (some (.it l (p + k)))))
     | false => some (.t [.b false], s))
   | _ => none)
 | _, _ => none
theorem nxX_ok (h : Wo P base w0 σ s w) {t : TypeId} {isS : Bool} {x : Option X} {v : Value} {z : X} {s' : St} (hx : nxX isS x s = some (z, s')) (hv : ∀ a, x = some a → vl σ a = some v) {K : Value → World → Prop} (hK : Fin P base w0 σ z s' K) : Nx P v isS t w K := by
 unfold nxX at hx; split at hx
 · rename_i b; have hv := hv _ rfl; split at hx
   · rename_i l p hb; obtain ⟨rb, g1, g2, g3⟩ := h.mem.mown b _ hb; replace g3 : w.heap[rb]? = some (.stringIter (str l) p) := g3; simp only [vl, g1, Option.some.injEq] at hv; subst hv; split at hx
     · rename_i hlt; have hlt := Nat.le_of_ble_eq_true hlt; have hd := dcX_eq l p; generalize dcX l p = q at hx hd; obtain ⟨c, k⟩ := q; simp only [Option.some.injEq, Prod.mk.injEq] at hx; obtain ⟨rfl, rfl⟩ := hx; have hrun := Lib.run_next_any_at (P := P) w rb (str l) p t g3 (by rw [str_size]; omega); rw [← hd] at hrun; have hw := h.mset (o' := .it l (p + k)) (ob := .stringIter (str l) (p + k)) hb g1 fun w' hw => hw; refine ⟨_, _, hrun, hK σ _ _ (Ext.refl _) hw ?_⟩; simp only [vl, vls]
     · rename_i hlt; simp only [Option.some.injEq, Prod.mk.injEq] at hx; obtain ⟨rfl, rfl⟩ := hx
       have hlt : ¬ p < (str l).size := by
         rw [str_size]; intro e; have : Nat.blt p l.length = true := Nat.ble_eq_true_of_le e; rw [this] at hlt; cases hlt
       refine ⟨_, _, Lib.run_next_end_at (P := P) w rb (str l) p t g3 hlt, hK σ w _ (Ext.refl _) h ?_⟩; simp only [vl, vls]
   · cases hx
 · cases hx
end
end Go.Ev
namespace Go.Ev
open Go Go.Vc
noncomputable section
variable {P : Program} {base : Bs} {w0 : World} {σ : Sg} {s : St} {w w' : World}
def sbX (P : Program) (q d : TypeId) (x : Option X) (s : St) : Option (X × St) := match P.underlying q, P.underlying d, x with
 | some .string, some (.slice e), some (.s l) => (match P.underlying e, szOf P e with
   | some (.int .u8), 1 => some (.l (some (s.n, 0)) l.length l.length, s.new (e, l.map fun m => .i .u8 ((m % 256 : Nat) : Int)))
   | _, _ => none)
 | _, _, _ => none
theorem sbX_ty {q d : TypeId} {x : Option X} {z : X × St} (hx : sbX P q d x s = some z) : ∃ e, P.underlying q = some .string ∧ P.underlying d = some (.slice e) := by
 unfold sbX at hx; split at hx
 · rename_i hq hd; exact ⟨_, hq, hd⟩
 · cases hx
theorem vls_bytes (l : List Nat) : vls σ (l.map fun m => X.i .u8 ((m % 256 : Nat) : Int)) = some (l.map fun m => Value.int .u8 ((m % 256 : Nat) : Int)) := by
 induction l with
 | nil => rfl
 | cons c l ih => exact vls_mk rfl ih
theorem sbX_ok (h : Wo P base w0 σ s w) {q d : TypeId} {x : Option X} {u : Value} {z : X} {s' : St} (hx : sbX P q d x s = some (z, s')) (hv : ∀ a, x = some a → vl σ a = some u) {K : Value → World → Prop} (hK : Fin P base w0 σ z s' K) : Cw P q d u w K := by
 unfold sbX at hx; split at hx
 · rename_i e l hq hd; have hv := hv _ rfl; simp only [vl, Option.some.injEq] at hv; subst hv; split at hx
   · rename_i he hsz; simp only [Option.some.injEq, Prod.mk.injEq] at hx; obtain ⟨rfl, rfl⟩ := hx; have hrun := run_bytes_of_string (P := P) w q d e (str l) hq hd he; have hcap := grownCap_ge w (str l).size 0 e; rw [str_size] at hrun hcap; generalize grownCap w l.length 0 e = cap at hrun hcap
     have hb : bytesRow (str l) cap = ([] ++ (l.map fun m => Value.int .u8 ((m % 256 : Nat) : Int)) ++ List.replicate (cap - l.length) (Value.int .u8 0) ++ []).toArray := by
       unfold bytesRow; rw [str_size]; apply Array.ext'; simp [str]
     rw [hb] at hrun; have hlow := h.fram.top
     obtain ⟨g1, g2, g3⟩ := h.drew.mem.fresh (e := e) (pre := []) (post := []) (rb := w.heap.size) (k := cap - l.length) (w' := w.drew.alloc (.cells ([] ++ (l.map fun m => Value.int .u8 ((m % 256 : Nat) : Int)) ++ List.replicate (cap - l.length) (Value.int .u8 0) ++ []).toArray e
         (([] ++ (l.map fun m => Value.int .u8 ((m % 256 : Nat) : Int)) ++ List.replicate (cap - l.length) (Value.int .u8 0) ++ []).toArray.size, ([] ++ (l.map fun m => Value.int .u8 ((m % 256 : Nat) : Int)) ++ List.replicate (cap - l.length) (Value.int .u8 0) ++ []).toArray.size + 1)))
       h.fresh (vls_bytes l) (by rw [hsz, List.length_replicate, Nat.mul_one]) hlow (by simp [sg]) ⟨_, alloc_at _, fun o ho hz => by simp at ho hz; omega⟩
       (fun b x r hb hr he => by have : r.1 < w.heap.size := h.drew.mem.below hb hr; omega) (fun b x r hb hr he => by have : r.1 < w.heap.size := h.drew.mem.mbelow hb hr; omega) ⟨0, by simp⟩ (fun ha => by unfold isArrB at ha; rw [he] at ha; cases ha) alloc_oth
     refine ⟨_, _, hrun, hK _ _ _ g2 ⟨g1, g3, h.drew.fram.alloc _⟩ ?_⟩; simp only [vl]; rw [show sgPut σ s.n (w.heap.size, ([] : List Value).length, cap - l.length) s.n = some (w.heap.size, 0, cap - l.length) from sgPut_same _ _ _]; show some (Value.slice (some ⟨w.heap.size, 0 + 0, none⟩) l.length (l.length + (cap - l.length))) = _; rw [show l.length + (cap - l.length) = cap by omega]
   · cases hx
 · cases hx
def cpyX (P : Program) (ats : List TypeId) (xs : Option (List X)) (s : St) : Option (X × St) := match ats, xs with
 | [t, _], some [.l _ _ _, .l none 0 _] => (match P.underlying t with
   | some (.slice e) => (match Nat.beq (szOf P e) 1 with
     | true => some (.i .i64 0, s)
     | false => none)
   | _ => none)
 | [t, t'], some [.l (some a) n _, .l (some b) m _] => (match P.underlying t, s.blk a.1, s.blk b.1 with
   | some (.slice e), some ca, some cb => (match Nat.beq (szOf P e) 1, Nat.ble (a.2 + min m n) ca.2.length, Nat.ble (b.2 + min m n) cb.2.length, flatXs ((cb.2.drop b.2).take (min m n)) with
     | true, true, true, true => some (.i .i64 ((min m n : Nat) : Int), s.put a.1 (some (ca.1, setLX ca.2 a.2 ((cb.2.drop b.2).take (min m n)))))
     | _, _, _, _ => none)
   | _, _, _ => none)
 | _, _ => none
theorem szOf_one {e : TypeId} (h : szOf P e = 1) : (P.info? e).map (·.size) = some 1 := by
 unfold szOf at h
 cases hi : P.info? e with
 | none => rw [hi] at h; cases h
 | some i => rw [hi] at h; simp at h; simp [h]
theorem cpyX_ok (h : Wo P base w0 σ s w) {ats : Array TypeId} {ty : TypeId} {xs : Option (List X)} {vs : List Value} {z : X} {s' : St} (hx : cpyX P ats.toList xs s = some (z, s')) (hv : ∀ l, xs = some l → vls σ l = some vs)
   {K : Value → World → Prop} (hK : Fin P base w0 σ z s' K) : Cp P ats ty vs.toArray w K := by
 unfold cpyX at hx; split at hx
 · rename_i t t' a n ca' cb' hats; have hv := hv _ rfl; obtain ⟨v1, vs1, e1, e2, rfl⟩ := vls_cons hv; obtain ⟨v2, vs2, e3, e4, rfl⟩ := vls_cons e2; simp only [vls, Option.some.injEq] at e4; subst e4
   have hat : ats = #[t, t'] := by
     obtain ⟨l⟩ := ats; simp only at hats; rw [hats]
   subst hat; simp only [vl, Option.some.injEq] at e3; subst e3; split at hx
   · rename_i e ht; split at hx
     · rename_i h1; have h1 := Nat.eq_of_beq_eq_true h1; simp only [Option.some.injEq, Prod.mk.injEq] at hx; obtain ⟨rfl, rfl⟩ := hx
       have hd : ∃ d q, v1 = .slice d n q := by
         cases a with
         | none => simp only [vl, Option.some.injEq] at e1; exact ⟨_, _, e1.symm⟩
         | some a =>
           simp only [vl] at e1
           cases hs : σ a.1 with
           | none => rw [hs] at e1; cases e1
           | some r => rw [hs] at e1; exact ⟨_, _, (Option.some.inj e1).symm⟩
       obtain ⟨d, q, rfl⟩ := hd; exact ⟨_, _, run_copy_none (P := P) w t t' ty e d none n q 0 _ ht (szOf_one h1) (Nat.zero_min _), hK σ w _ (Ext.refl _) h rfl⟩
     · cases hx
   · cases hx
 · rename_i t t' a n ca' b m cb' hats; have hv := hv _ rfl; obtain ⟨v1, vs1, e1, e2, rfl⟩ := vls_cons hv; obtain ⟨v2, vs2, e3, e4, rfl⟩ := vls_cons e2; simp only [vls, Option.some.injEq] at e4; subst e4
   have hat : ats = #[t, t'] := by
     obtain ⟨l⟩ := ats; simp only at hats; rw [hats]
   subst hat; split at hx
   · rename_i e ca cb ht ha hb; obtain ⟨ea, csa⟩ := ca; obtain ⟨eb, csb⟩ := cb; split at hx
     · rename_i h1 h2 h3 h4; have h1 := Nat.eq_of_beq_eq_true h1; have h2 := Nat.le_of_ble_eq_true h2; have h3 := Nat.le_of_ble_eq_true h3; simp only [Option.some.injEq, Prod.mk.injEq] at hx; obtain ⟨rfl, rfl⟩ := hx; obtain ⟨rb, off, k, pre, vs, sp, post, g⟩ := h.mem.own a.1 ea csa ha; obtain ⟨rb2, off2, k2, pre2, vs2, sp2, post2, g2⟩ := h.mem.own b.1 eb csb hb; simp only [vl, g.sg_, Option.some.injEq] at e1; simp only [vl, g2.sg_, Option.some.injEq] at e3; subst e1; subst e3; simp only at h2 h3 h4 ⊢; have hl2 := vls_len g2.val; have hcut := vls_take (min m n) (vls_drop b.2 g2.val)
       have hlen : ((vs2.drop b.2).take (min m n)).length = min m n := by rw [List.length_take, List.length_drop]; omega
       have hlenX : ((csb.drop b.2).take (min m n)).length = min m n := by rw [List.length_take, List.length_drop]; omega
       have hsg := flatXs_sg h4 hcut; obtain ⟨hw, hc⟩ := h.write ha hcut hsg (by rw [hlenX]; exact h2) g.sg_
       have hrun := run_copy_cells (P := P) w t t' ty e rb (off + a.2) n (ca' + k) ⟨rb2, off2 + b.2, none⟩ m (cb' + k2) ((vs2.drop b.2).take (min m n)) ht (szOf_one h1) hlen
         (fun j v hj => by
           rw [add_off]; have hj2 := hj; rw [List.getElem?_take_of_lt (by have := (List.getElem?_eq_some_iff.1 hj).1; omega), List.getElem?_drop] at hj2
           rw [show off2 + b.2 + j = off2 + (b.2 + j) by omega, g2.cell (List.getElem?_eq_some_iff.1 hj2).1, hj2])
         (fun j hj => (hc j hj).1) (fun j hj => (hc j hj).2) (fun v hv => sg_one (List.all_eq_true.1 hsg v hv))
       refine ⟨_, _, hrun, hK _ _ _ (Ext.refl _) hw ?_⟩; rw [hlen]; rfl
     · cases hx
   · cases hx
 · cases hx
def slN : X → Option Nat
 | .l _ n _ => some n
 | .e0 _ _ _ => some 0
 | _ => none
theorem slN_ok {x : X} {n : Nat} {v : Value} (h : slN x = some n) (hv : vl σ x = some v) : ∃ d q, v = .slice d n q := by
 unfold slN at h; split at h
 · rename_i a n' c; obtain rfl := Option.some.inj h
   cases a with
   | none => simp only [vl, Option.some.injEq] at hv; exact ⟨_, _, hv.symm⟩
   | some a =>
     obtain ⟨q, m, d, rfl⟩ := vl_ls hv; simp only [vl] at hv
     cases hs : σ a.1 with
     | none => rw [hs] at hv; cases hv
     | some r =>
       rw [hs] at hv; exact ⟨_, _, (Option.some.inj hv).symm⟩
 · obtain rfl := Option.some.inj h; obtain ⟨p, m, rfl⟩ := vl_es hv; exact ⟨_, _, rfl⟩
 · cases h
def cpy0 (P : Program) : List TypeId → Option (List X) → Bool
 | [t, _], some [x, y] => (match P.underlying t, slN x, slN y with
   | some (.slice e), some n, some m => Nat.beq (szOf P e) 1 && Nat.beq (Nat.min m n) 0
   | _, _, _ => false)
 | _, _ => false
def cpyZ (P : Program) (ats : List TypeId) (xs : Option (List X)) (s : St) : Option (X × St) := match cpy0 P ats xs with
 | true => some (.i .i64 0, s)
 | false => cpyX P ats xs s
theorem cpyZ_ok (h : Wo P base w0 σ s w) {ats : Array TypeId} {ty : TypeId} {xs : Option (List X)} {vs : List Value} {z : X} {s' : St} (hx : cpyZ P ats.toList xs s = some (z, s')) (hv : ∀ l, xs = some l → vls σ l = some vs)
   {K : Value → World → Prop} (hK : Fin P base w0 σ z s' K) : Cp P ats ty vs.toArray w K := by
 unfold cpyZ at hx; split at hx
 · rename_i h0; simp only [Option.some.injEq, Prod.mk.injEq] at hx; obtain ⟨rfl, rfl⟩ := hx; unfold cpy0 at h0; split at h0
   · rename_i t t' x y hats
     have hat : ats = #[t, t'] := by
       obtain ⟨l⟩ := ats; simp only at hats; rw [hats]
     subst hat; split at h0
     · rename_i e n m ht hn hm; rw [Bool.and_eq_true] at h0; obtain ⟨v1, vs1, e1, e2, rfl⟩ := vls_cons (hv _ rfl); obtain ⟨v2, vs2, e3, e4, rfl⟩ := vls_cons e2; simp only [vls, Option.some.injEq] at e4; subst e4; obtain ⟨d, q, rfl⟩ := slN_ok hn e1; obtain ⟨d', q', rfl⟩ := slN_ok hm e3; exact ⟨_, _, run_copy_none (P := P) w t t' ty e d d' n q m q' ht (szOf_one (Nat.eq_of_beq_eq_true h0.1)) (Nat.eq_of_beq_eq_true h0.2), hK σ w _ (Ext.refl _) h rfl⟩
     · cases h0
   · cases h0
 · exact cpyX_ok h hx hv hK
def usdX : Option (List X) → Option X
 | some [.l none _ _] => some (.p none)
 | some [.l (some a) _ (_ + 1)] => some (.p (some a))
 | _ => none
theorem usdX_ok {ats : Array TypeId} {ty : TypeId} {xs : Option (List X)} {vs : List Value} {z : X} (hx : usdX xs = some z) (hv : ∀ l, xs = some l → vls σ l = some vs)
   {K : Value → World → Prop} (hK : ∀ v, vl σ z = some v → K v w) : Usd P ats ty vs.toArray w K := by
 unfold usdX at hx; split at hx
 · obtain rfl := Option.some.inj hx; obtain ⟨v1, vs1, e1, e2, rfl⟩ := vls_cons (hv _ rfl); simp only [vls, Option.some.injEq] at e2; simp only [vl, Option.some.injEq] at e1; subst e1; subst e2; exact ⟨_, w, Lib.run_unsafeSliceData_nil (P := P) w ats ty _ _, hK _ rfl⟩
 · rename_i a n c; obtain rfl := Option.some.inj hx; obtain ⟨v1, vs1, e1, e2, rfl⟩ := vls_cons (hv _ rfl); simp only [vls, Option.some.injEq] at e2; subst e2; simp only [vl] at e1
   cases hs : σ a.1 with
   | none => rw [hs] at e1; cases e1
   | some r =>
     rw [hs] at e1; obtain rfl := Option.some.inj e1; exact ⟨_, w, Lib.run_unsafeSliceData_row (P := P) w ats ty _ n _ (by omega), hK _ (by simp only [vl, hs])⟩
 · cases hx
def smallB : List Nat → Bool
 | [] => true
 | m :: l => match Nat.blt m 256 with
   | true => smallB l
   | false => false
theorem smallB_get : ∀ {l : List Nat} {j m : Nat}, smallB l = true → l[j]? = some m → m < 256
 | [], j, m, _, h => by simp at h
 | a :: l, 0, m, hb, h => by
   simp only [smallB] at hb; simp at h; subst h
   cases hq : Nat.blt a 256 with
   | true => exact Nat.le_of_ble_eq_true hq
   | false => rw [hq] at hb; cases hb
 | a :: l, j + 1, m, hb, h => by
   simp only [smallB] at hb
   cases hq : Nat.blt a 256 with
   | true => rw [hq] at hb; exact smallB_get (l := l) (j := j) hb (by simpa using h)
   | false => rw [hq] at hb; cases hb
def ustX (P : Program) (ats : List TypeId) (xs : Option (List X)) (s : St) : Option (X × St) := match ats, xs with
 | [_, _], some [.p _, .i .i64 (.ofNat 0)] => some (.s [], s)
 | [pt, _], some [.p (some b), .i .i64 (.ofNat (n + 1))] => (match s.blk b.1 with
   | some cb => (match P.underlying pt, Nat.ble (n + 1) 9223372036854775807, bytesX ((cb.2.drop b.2).take (n + 1)) with
     | some (.pointer e), true, some l => (match Nat.beq e cb.1, Nat.beq (szOf P e) 1, Nat.beq l.length (n + 1), smallB l with
       | true, true, true, true => some (.s l, s.put b.1 none)
       | _, _, _, _ => none)
     | _, _, _ => none)
   | none => none)
 | _, _ => none
theorem freeze_oth {a : Addr} {n : Nat} : (∀ c o, c ≠ a.block → w.heap[c]? = some o → (w.freeze a n).heap[c]? = some o) ∧ Same w (w.freeze a n) := by
 unfold World.freeze; split
 · exact ⟨fun c o _ h => h, .refl w⟩
 · refine ⟨fun c o hc h => ?_, ⟨rfl, rfl, rfl, by simp⟩⟩; simp only [Array.getElem?_modify]; rw [if_neg (fun e => hc e.symm)]; exact h
theorem bytes_of (l : List Nat) (j : Nat) (x : UInt8) (h : (l.map UInt8.ofNat)[j]? = some x) : ∃ m, l[j]? = some m ∧ x = UInt8.ofNat m := by
 rw [List.getElem?_map] at h
 cases hl : l[j]? with
 | none => rw [hl] at h; cases h
 | some m => rw [hl] at h; exact ⟨m, rfl, (Option.some.inj h).symm⟩
theorem ustX_ok (h : Wo P base w0 σ s w) {ats : Array TypeId} {ty : TypeId} {xs : Option (List X)} {vs : List Value} {z : X} {s' : St} (hx : ustX P ats.toList xs s = some (z, s')) (hv : ∀ l, xs = some l → vls σ l = some vs)
   {K : Value → World → Prop} (hK : Fin P base w0 σ z s' K) : Ust P ats ty vs.toArray w K := by
 unfold ustX at hx; split at hx
 · rename_i pt it a hats; simp only [Option.some.injEq, Prod.mk.injEq] at hx; obtain ⟨rfl, rfl⟩ := hx; obtain ⟨v1, vs1, e1, e2, rfl⟩ := vls_cons (hv _ rfl); obtain ⟨v2, vs2, e3, e4, rfl⟩ := vls_cons e2; simp only [vls, Option.some.injEq] at e4; subst e4; simp only [vl, Option.some.injEq] at e3; subst e3
   have hat : ats = #[pt, it] := by obtain ⟨l⟩ := ats; simp only at hats; rw [hats]
   subst hat
   have hp : ∃ q, v1 = .pointer q := by
     cases a with
     | none => simp only [vl, Option.some.injEq] at e1; exact ⟨_, e1.symm⟩
     | some a => obtain ⟨q, rfl⟩ := vl_ps e1; exact ⟨_, rfl⟩
   obtain ⟨q, rfl⟩ := hp; exact ⟨_, w, Lib.run_unsafeString_none (P := P) w pt it ty q, hK σ w _ (Ext.refl _) h rfl⟩
 · rename_i pt it b n hats; split at hx
   · rename_i cb hb; split at hx
     · rename_i e l hp h63 hby
       split at hx
       · rename_i he hs1 hl hsm; obtain ⟨eb, cs⟩ := cb; obtain rfl := Nat.eq_of_beq_eq_true he; have hs1 := Nat.eq_of_beq_eq_true hs1; have hl := Nat.eq_of_beq_eq_true hl; have h63 := Nat.le_of_ble_eq_true h63; simp only [Option.some.injEq, Prod.mk.injEq] at hx; obtain ⟨rfl, rfl⟩ := hx; obtain ⟨v1, vs1, e1, e2, rfl⟩ := vls_cons (hv _ rfl); obtain ⟨v2, vs2, e3, e4, rfl⟩ := vls_cons e2; simp only [vls, Option.some.injEq] at e4; subst e4; simp only [vl, Option.some.injEq] at e3; subst e3
         have hat : ats = #[pt, it] := by obtain ⟨l⟩ := ats; simp only at hats; rw [hats]
         subst hat; obtain ⟨rb, off, k, pre, vs, sp, post, g⟩ := h.mem.own b.1 e cs hb; simp only [vl, g.sg_, Option.some.injEq] at e1; subst e1; have hcut := vls_take (n + 1) (vls_drop b.2 g.val)
         have hbv := bytesX_spec (σ := σ) hby
         simp only at hbv hcut; rw [hcut] at hbv; have hvs := Option.some.inj hbv
         have hlen : ((vs.drop b.2).take (n + 1)).length = n + 1 := by rw [hvs]; simp [hl]
         have hc1 : P.cellsOf e = 1 := by rw [cellsOf_szOf (by omega)]; exact hs1
         have hsh := g.shape; have hpre := g.pre_
         have hin : b.2 + (n + 1) ≤ vs.length := by rw [List.length_take, List.length_drop] at hlen; omega
         have hlies : liesAt P P.depth e ((pre ++ vs ++ sp ++ post).length / P.cellsOf e) (off + b.2) e (n + 1) = true := by
           have h0 := Lib.liesAt_bytes (P := P) hc1 (n + 1) (n + 1) (Nat.le_refl _); have h1 := liesAt_up (q := off + b.2) (c' := (pre ++ vs ++ sp ++ post).length / P.cellsOf e) (by rw [hc1, Nat.div_one]; simp only [List.length_append]; omega) h0; rw [hc1, Nat.mul_one, Nat.add_zero] at h1; rw [hc1]; exact h1
         have hlb := Lib.run_loadBytes (P := P) w (l.map UInt8.ofNat) ⟨rb, off + b.2, none⟩ .empty (fun j x hj => by
           obtain ⟨m, hm, rfl⟩ := bytes_of l j x hj; rw [add_off]; have hm256 := smallB_get hsm hm
           have hvj : ((vs.drop b.2).take (n + 1))[j]? = some (.int .u8 (m : Int)) := by
             rw [hvs, List.getElem?_map, List.getElem?_map, hm]; rfl
           have hj1 := (List.getElem?_eq_some_iff.1 hvj).1; rw [List.getElem?_take_of_lt (by omega), List.getElem?_drop] at hvj; rw [show off + b.2 + j = off + (b.2 + j) by omega, g.cell (List.getElem?_eq_some_iff.1 hvj).1, hvj]
           rw [UInt8.toNat_ofNat_of_lt' (by simpa using hm256)])
         rw [List.length_map, hl] at hlb
         have h63' : ¬ (9223372036854775807 : Int) < ((n + 1 : Nat) : Int) := by omega
         have hdef : Builtin.unsafeString_ #[pt, it] ty #[.pointer (some ⟨rb, off + b.2, none⟩), .int .i64 ((n + 1 : Nat) : Int)] =
             (do
               let n ← asInt (.int .i64 ((n + 1 : Nat) : Int))
               if n < 0 then runtimePanic (.error "unsafe.String: len out of range")
               if n > IntKind.i64.max then unsupported (.unsafePointer "String: a length above the largest int")
               if n = 0 then pure (.string .empty)
               else if ← variablesAt ⟨rb, off + b.2, none⟩ (← elemOf pt) n.toNat then do
                 let s ← loadBytes ⟨rb, off + b.2, none⟩ .empty n.toNat
                 freeze ⟨rb, off + b.2, none⟩ n.toNat
                 pure (.string s)
               else unsupported (.unsafePointer "String: not so many bytes at ptr")) := rfl
         have hmax : IntKind.i64.max = 9223372036854775807 := rfl
         have hneg : ¬ ((n + 1 : Nat) : Int) < 0 := by omega
         have hnz : ¬ ((n + 1 : Nat) : Int) = 0 := by omega
         have hrun : (Builtin.unsafeString_ #[pt, it] ty #[.pointer (some ⟨rb, off + b.2, none⟩), .int .i64 ((n + 1 : Nat) : Int)]).run P w = .ok (.string (str l)) (w.freeze ⟨rb, off + b.2, none⟩ (n + 1)) := by
           rw [hdef]
           have hstr : (⟨ByteArray.empty.data ++ (l.map UInt8.ofNat).toArray⟩ : ByteArray) = str l := by
             apply ByteArray.ext; simp [str]
           have e1 : (asInt (.int .i64 ((n + 1 : Nat) : Int))).run P w = .ok ((n + 1 : Nat) : Int) w := by simp [asInt, asIntOf]
           rw [Sem.run_bind, e1]; simp only [Result.andThen_ok, hneg, if_false, hmax, gt_iff_lt, h63', hnz, Int.toNat_natCast, Sem.run_bind, Sem.run_pure, elemOf, run_underlying hp, variablesAt, run_program, run_shape, hsh, hlies, if_true, hlb, hstr]; rfl
         obtain ⟨f1, f2⟩ := freeze_oth (w := w) (a := ⟨rb, off + b.2, none⟩) (n := n + 1); refine ⟨_, _, hrun, hK σ _ _ (Ext.refl _) ⟨h.mem.lose hb g.sg_ f1, h.fresh, h.fram.upd f2 g.low f1⟩ rfl⟩
       · cases hx
     · cases hx
   · cases hx
 · cases hx
def idxN (c : Nat) : List Nat → Nat → Option Nat
 | [], _ => none
 | m :: l, i => match Nat.beq (m % 256) c with
   | true => some i
   | false => idxN c l (i + 1)
def cntN (c : Nat) : List Nat → Nat
 | [] => 0
 | m :: l => match Nat.beq (m % 256) c with
   | true => Nat.succ (cntN c l)
   | false => cntN c l
inductive Xt where
 | idx | cnt | noEsc | mkNo | idxB
def nmX : Xt → String
 | .idx => "internal/bytealg.IndexByteString"
 | .cnt => "internal/bytealg.CountString"
 | .noEsc => "internal/abi.NoEscape"
 | .mkNo => "internal/bytealg.MakeNoZero"
 | .idxB => "internal/bytealg.IndexByte"
def extF (fn : Func) (k : Xt) : Bool := match fn.name == nmX k with
 | true => (match fn.origin == "" with
   | true => true
   | false => fn.origin == nmX k)
 | false => false
def extK (P : Program) (f : FuncId) : Option (Func × Xt) := match P.funcs[f]? with
 | some fn => (match fn.body with
   | some _ => none
   | none => (match extF fn .idx, extF fn .cnt, extF fn .noEsc, extF fn .mkNo, extF fn .idxB with
     | true, _, _, _, _ => some (fn, .idx)
     | _, true, _, _, _ => some (fn, .cnt)
     | _, _, true, _, _ => some (fn, .noEsc)
     | _, _, _, true, _ => some (fn, .mkNo)
     | _, _, _, _, true => some (fn, .idxB)
     | _, _, _, _, _ => none))
 | none => none
theorem extK_ok {f : FuncId} {fn : Func} {k : Xt} (h : extK P f = some (fn, k)) : P.funcs[f]? = some fn ∧ fn.body = none ∧ extF fn k = true := by
 unfold extK at h; split at h
 · rename_i fn' hf; split at h
   · cases h
   · rename_i hb
     split at h <;> first | (simp only [Option.some.injEq, Prod.mk.injEq] at h; obtain ⟨rfl, rfl⟩ := h; exact ⟨hf, hb, by assumption⟩) | cases h
 · cases h
theorem extF_name {fn : Func} {k : Xt} (h : extF fn k = true) : fn.name = nmX k ∧ (fn.origin = "" ∨ fn.origin = nmX k) := by
 unfold extF at h; split at h
 · rename_i h1; split at h
   · rename_i h2; exact ⟨by simpa using h1, .inl (by simpa using h2)⟩
   · exact ⟨by simpa using h1, .inr (by simpa using h)⟩
 · cases h
theorem next_none (k : Xt) {fn : Func} (h : extF fn k = true) : Extern.findNext fn = none := by
 obtain ⟨h1, h2⟩ := extF_name h; unfold Extern.findNext
 rcases h2 with h2 | h2 <;> rw [h1, h2] <;> cases k <;> rfl
theorem find_idx {fn : Func} (h : extF fn .idx = true) : Extern.find fn = some Extern.BytealgIndexByte.indexByte := by
 unfold Extern.find; rw [(extF_name h).1]; rfl
theorem find_idxB {fn : Func} (h : extF fn .idxB = true) : Extern.find fn = some Extern.BytealgIndexByte.indexByte := by
 unfold Extern.find; rw [(extF_name h).1]; rfl
theorem find_cnt {fn : Func} (h : extF fn .cnt = true) : Extern.find fn = some Extern.BytealgCount.count := by
 unfold Extern.find; rw [(extF_name h).1]; rfl
theorem find_noEsc {fn : Func} (h : extF fn .noEsc = true) : Extern.find fn = some Extern.AbiNoEscape.same := by
 unfold Extern.find; rw [(extF_name h).1]; rfl
theorem find_mkNo {fn : Func} (h : extF fn .mkNo = true) : Extern.find fn = some (Extern.BytealgMakeNoZero.makeNoZero fn.params fn.resultTypes) := by
 unfold Extern.find; rw [(extF_name h).1]; rfl
theorem callExt {f : FuncId} {fn : Func} {k : Xt} {args : Array Value} {e : Array Value → Sem Value} {v : Value} (h : extK P f = some (fn, k)) (he : Extern.find fn = some e) (hr : (e args).run P w = .ok v w') : isExt P f = true ∧ (callFunc f args).run P w = .ok (.value v) w' := by
 obtain ⟨h1, h2, h3⟩ := extK_ok h; refine ⟨by simp only [isExt, h1, h2]; rfl, ?_⟩
 have hn : (fn.name == "runtime.NumGoroutine") = false := by rw [(extF_name h3).1]; cases k <;> rfl
 rw [run_callFunc_extern h1 hn (by rw [h2]; rfl) (next_none k h3) he, hr]; rfl
def bytX : List X → Option (List Nat)
 | [] => some []
 | .i .u8 (.ofNat n) :: l => (match bytX l with
   | some r => some (n :: r)
   | none => none)
 | _ => none
theorem bytX_ok : ∀ {xs : List X} {l : List Nat}, bytX xs = some l → vls σ xs = some (l.map fun (n : Nat) => Value.int .u8 (n : Int))
 | [], l, h => by obtain rfl := Option.some.inj h; rfl
 | x :: xs, l, h => by
   unfold bytX at h; split at h
   · rename_i e; cases e
   · rename_i n l' e; cases e; split at h
     · rename_i r hr; obtain rfl := Option.some.inj h; exact vls_mk rfl (bytX_ok hr)
     · cases h
   · cases h
theorem run_loadBytes {b : Nat} : ∀ (l : List Nat) (o : Nat) (acc : ByteArray), (∀ (i : Nat) (n : Nat), l[i]? = some n → w.cell? ⟨b, o + i, none⟩ = some (.int .u8 (n : Int))) →
   (Extern.Bytes.loadBytes ⟨b, o, none⟩ l.length acc).run P w = .ok ⟨acc.data ++ (l.map UInt8.ofNat).toArray⟩ w
 | [], o, acc, h => by
   show Result.ok acc w = _; simp
 | n :: l, o, acc, h => by
   show (Extern.Bytes.loadBytes ⟨b, o, none⟩ (l.length + 1) acc).run P w = _; unfold Extern.Bytes.loadBytes; rw [Sem.run_bind, run_load1 (show w.cell? ⟨b, o, none⟩ = _ from h 0 n rfl)]; simp only [Result.andThen_ok]; rw [add_off]
   have := run_loadBytes l (o + 1) (acc.push ((n : Int).toNat.toUInt8)) fun i m hi => by
     rw [show o + 1 + i = o + (i + 1) by omega]; exact h (i + 1) m hi
   rw [this]
   congr 1
   apply ba_ext; simp
theorem idxB_of {x y c : Value} {s : ByteArray} (h1 : (Extern.Bytes.bytesOf x).run P w = .ok s w) (h2 : (Extern.Bytes.bytesOf y).run P w = .ok s w) : (Extern.BytealgIndexByte.indexByte #[x, c]).run P w = (Extern.BytealgIndexByte.indexByte #[y, c]).run P w := by
 change ((Extern.Bytes.bytesOf x >>= _) : Sem Value).run P w = ((Extern.Bytes.bytesOf y >>= _) : Sem Value).run P w; rw [Sem.run_bind, Sem.run_bind, h1, h2]; rfl
def extX (P : Program) (s : St) : Option (Func × Xt) → Option (List X) → Option (X × St)
 | some (_, .idx), some [.s l, .i .u8 c] => some (.i .i64 (Lib.indexByte (l.map UInt8.ofNat) c.toNat.toUInt8), s)
 | some (_, .idxB), some [.l none _ _, .i .u8 c] => some (.i .i64 (Lib.indexByte [] c.toNat.toUInt8), s)
 | some (_, .idxB), some [.l (some a) n _, .i .u8 c] => (match s.blk a.1 with
   | some cb => (match bytX ((cb.2.drop a.2).take n) with
     | some l => (match Nat.beq l.length n with
       | true => some (.i .i64 (Lib.indexByte (l.map UInt8.ofNat) c.toNat.toUInt8), s)
       | false => none)
     | none => none)
   | none => none)
 | some (_, .cnt), some [.s l, .i .u8 c] => some (.i .i64 (Lib.countByte (l.map UInt8.ofNat) c.toNat.toUInt8), s)
 | some (_, .noEsc), some [x] => some (x, s)
 | some (fn, .mkNo), some [.i .i64 (.ofNat n)] => (match fn.resultTypes.toList with
   | [t] => (match P.underlying t with
     | some (.slice e) => (match szOf P e, Nat.ble n 1048576, isArrB P e with
       | 1, true, false => some (.l (some (s.n, 0)) n 0, s.new (e, []))
       | _, _, _ => none)
     | _ => none)
   | _ => none)
 | _, _ => none
theorem str_list (l : List Nat) : (str l).data.toList = l.map UInt8.ofNat := by simp [str]
theorem extX_ok (h : Wo P base w0 σ s w) {f : FuncId} {xs : Option (List X)} {vs : List Value} {z : X} {s' : St} (hx : extX P s (extK P f) xs = some (z, s')) (hv : ∀ l, xs = some l → vls σ l = some vs)
   {K : Value → World → Prop} (hK : Fin P base w0 σ z s' K) : isExt P f = true ∧ Cx P f vs.toArray w K := by
 unfold extX at hx; split at hx
 · rename_i fn l c hk; simp only [Option.some.injEq, Prod.mk.injEq] at hx; obtain ⟨rfl, rfl⟩ := hx; obtain ⟨v1, vs1, e1, e2, rfl⟩ := vls_cons (hv _ rfl); obtain ⟨v2, vs2, e3, e4, rfl⟩ := vls_cons e2; simp only [vls, Option.some.injEq] at e4; subst e4; simp only [vl, Option.some.injEq] at e1 e3; subst e1; subst e3; have hr := Lib.run_indexByteString (P := P) (str l) c w; rw [str_list] at hr; obtain ⟨g1, g2⟩ := callExt hk (find_idx (extK_ok hk).2.2) hr; exact ⟨g1, _, w, g2, hK σ w _ (Ext.refl _) h rfl⟩
 · rename_i fn n m c hk; simp only [Option.some.injEq, Prod.mk.injEq] at hx; obtain ⟨rfl, rfl⟩ := hx; obtain ⟨v1, vs1, e1, e2, rfl⟩ := vls_cons (hv _ rfl); obtain ⟨v2, vs2, e3, e4, rfl⟩ := vls_cons e2; simp only [vls, Option.some.injEq] at e4; subst e4; simp only [vl, Option.some.injEq] at e1 e3; subst e1; subst e3; have hr : (Extern.BytealgIndexByte.indexByte #[.slice none n m, .int .u8 c]).run P w = .ok (.int .i64 (Lib.indexByte [] c.toNat.toUInt8)) w := Lib.run_indexByteString (P := P) .empty c w; obtain ⟨g1, g2⟩ := callExt hk (find_idxB (extK_ok hk).2.2) hr; exact ⟨g1, _, w, g2, hK σ w _ (Ext.refl _) h rfl⟩
 · rename_i fn a n m c hk; split at hx
   · rename_i cb hb; obtain ⟨be, cs⟩ := cb; split at hx
     · rename_i l hl; split at hx
       · rename_i hn; have hn := Nat.eq_of_beq_eq_true hn; simp only [Option.some.injEq, Prod.mk.injEq] at hx; obtain ⟨rfl, rfl⟩ := hx; obtain ⟨v1, vs1, e1, e2, rfl⟩ := vls_cons (hv _ rfl); obtain ⟨v2, vs2, e3, e4, rfl⟩ := vls_cons e2; simp only [vls, Option.some.injEq] at e4; subst e4; obtain ⟨rb, off, k, pre, vs, sp, post, g⟩ := h.mem.own a.1 be cs hb; simp only [vl, g.sg_, Option.some.injEq] at e1 e3; subst e1; subst e3; have h3 := vls_take n (vls_drop a.2 g.val); have h4 := bytX_ok (σ := σ) hl; simp only at h4; rw [h3] at h4; have h5 := Option.some.inj h4
         have hload := run_loadBytes (P := P) (w := w) (b := rb) l (off + a.2) .empty fun i m' hi => by
           have hlt : i < l.length := (List.getElem?_eq_some_iff.1 hi).1
           have h6 : ((vs.drop a.2).take n)[i]? = some (.int .u8 (m' : Int)) := by rw [h5, List.getElem?_map, hi]; rfl
           rw [List.getElem?_take_of_lt (by omega), List.getElem?_drop] at h6; rw [show off + a.2 + i = off + (a.2 + i) by omega, g.cell (List.getElem?_eq_some_iff.1 h6).1, h6]
         have hr := Lib.run_indexByteString (P := P) (str l) c w; rw [str_list] at hr
         have hr2 : (Extern.BytealgIndexByte.indexByte #[.slice (some ⟨rb, off + a.2, none⟩) n (m + k), .int .u8 c]).run P w = .ok (.int .i64 (Lib.indexByte (l.map UInt8.ofNat) c.toNat.toUInt8)) w := by
           rw [← hr]; rw [hn] at hload; have hl1 : (Extern.Bytes.bytesOf (.slice (some ⟨rb, off + a.2, none⟩) n (m + k))).run P w = .ok (str l) w := hload.trans (by congr 1; apply ba_ext; simp [str]); have hl2 : (Extern.Bytes.bytesOf (.string (str l))).run P w = .ok (str l) w := rfl; exact idxB_of hl1 hl2
         obtain ⟨g1, g2⟩ := callExt hk (find_idxB (extK_ok hk).2.2) hr2; exact ⟨g1, _, w, g2, hK σ w _ (Ext.refl _) h rfl⟩
       · cases hx
     · cases hx
   · cases hx
 · rename_i fn l c hk; simp only [Option.some.injEq, Prod.mk.injEq] at hx; obtain ⟨rfl, rfl⟩ := hx; obtain ⟨v1, vs1, e1, e2, rfl⟩ := vls_cons (hv _ rfl); obtain ⟨v2, vs2, e3, e4, rfl⟩ := vls_cons e2; simp only [vls, Option.some.injEq] at e4; subst e4; simp only [vl, Option.some.injEq] at e1 e3; subst e1; subst e3; have hr := Lib.run_countString (P := P) (str l) c w; rw [str_list] at hr; obtain ⟨g1, g2⟩ := callExt hk (find_cnt (extK_ok hk).2.2) hr; exact ⟨g1, _, w, g2, hK σ w _ (Ext.refl _) h rfl⟩
 · rename_i fn x hk; simp only [Option.some.injEq, Prod.mk.injEq] at hx; obtain ⟨rfl, rfl⟩ := hx; obtain ⟨v1, vs1, e1, e2, rfl⟩ := vls_cons (hv _ rfl); simp only [vls, Option.some.injEq] at e2; subst e2; obtain ⟨g1, g2⟩ := callExt (P := P) (w := w) (w' := w) (args := [v1].toArray) (v := v1) hk (find_noEsc (extK_ok hk).2.2) rfl; exact ⟨g1, _, w, g2, hK σ w _ (Ext.refl _) h e1⟩
 · rename_i fn n hk; obtain ⟨v1, vs1, e1, e2, rfl⟩ := vls_cons (hv _ rfl); simp only [vls, Option.some.injEq] at e2; subst e2; simp only [vl, Option.some.injEq] at e1; subst e1; split at hx
   · rename_i t hrt; split at hx
     · rename_i e ht; split at hx
       · rename_i hsz hn hna; have hn := Nat.le_of_ble_eq_true hn; simp only [Option.some.injEq, Prod.mk.injEq] at hx; obtain ⟨rfl, rfl⟩ := hx
         have hres : fn.resultTypes = #[t] := by
           have := congrArg List.toArray hrt; simpa using this
         obtain ⟨cs, hr, h1, h2⟩ := Lib.run_makeNoZero (P := P) w fn.params t e ht n (by omega); have hfind := find_mkNo (extK_ok hk).2.2; rw [hres] at hfind; obtain ⟨g1, g2⟩ := callExt (P := P) (w := w) (args := [Value.int .i64 (n : Int)].toArray) hk hfind hr; refine ⟨g1, _, _, g2, ?_⟩; obtain ⟨k1, k2, k3⟩ := h.drew.drew.mem.alloc h.fresh h.drew.drew.fram (e := e) (cs := []) (vs := []) (sp := cs.toList) (k := cs.size) rfl (by rw [hsz]; simp) rfl (fun ha => by rw [hna] at ha; cases ha)
         have hcs : (([] : List Value) ++ cs.toList).toArray = cs := by simp
         rw [hcs] at k1; refine hK _ _ _ k2 ⟨k1, k3, h.drew.drew.fram.alloc _⟩ ?_; simp only [vl]; rw [sgPut_same]; show some (Value.slice (some ⟨w.heap.size, 0 + 0, none⟩) n (0 + cs.size)) = _; simp only [Nat.zero_add]
       · cases hx
     · cases hx
   · cases hx
 · cases hx
end
end Go.Ev
namespace Go.Vc
open Ev
variable {P : Program} {w : World} {L : List HProp}
end Go.Vc
namespace Go.Proofs.YtlppejfnjhkbpaaGreat
open Go Go.Vc
attribute [local irreducible] Vc.Nc Vc.Ld Vc.LdA Vc.St Vc.StA Vc.Fo Vc.Iaa Vc.Ias Vc.Ixs Vc.Ixa Vc.Fd Vc.FdA Vc.Bp Vc.Bb Vc.Bn Vc.Up Vc.Ci Vc.Lns Vc.Lnl Vc.Ex Vc.Sst Vc.Ssl Vc.New Vc.Vif Vc.VJoin Vc.VLoop Vc.KE Vc.Dr Vc.Rk Vc.Cl Vc.Cx Vc.Inv Vc.Be Vc.Cv Vc.Cw Vc.Mf Vc.Sl Vc.Lk Vc.Bd Vc.Bs Vc.Ms Vc.Mm Vc.Mu Vc.Me Vc.Es Vc.Rg Vc.Nx Vc.Ta Vc.Ap Vc.Usd Vc.Ust Vc.Cp Vc.Ln Vc.Bc Vc.Bmin Vc.Bmax Vc.Bdel Vc.Bclr Vc.Pk
namespace Bd
variable {w : World} {L : List HProp} {K : Value → World → Prop} {b : Nat} {t : List UInt8}
abbrev tBd : Nat := 55
def BdR (b : Nat) (t : List UInt8) : HProp := fun h => ∃ p v, (p = .pointer none ∨ p = pt b) ∧ Sat [blk b tBd [p, v], SL bv tB v t] h
end Bd
instance : Row Tryz.prog 103 3 (.int .i64 0) := ⟨by kernel_rfl, ⟨Tryz.t3, by kernel_rfl, by kernel_rfl, by decide, by kernel_rfl⟩, rfl⟩
instance : Row Tryz.prog 53 5 (.int .u8 0) := ⟨by kernel_rfl, ⟨Tryz.t5, by kernel_rfl, by kernel_rfl, by decide, by kernel_rfl⟩, rfl⟩
instance : Bytes Tryz.prog 53 5 9 := ⟨by kernel_rfl, by kernel_rfl, by kernel_rfl⟩
namespace U18
open Go.M18
abbrev tI : Nat := 3
abbrev tB : Nat := 5
def invC (last : ByteArray) (next : List Nat) (links : Value) (at_ : Nat) (out : Value) (steps : Nat) : List Value :=
 .string last :: (next.map nv ++ [links, nv at_, out, nv steps])
section
variable {last : ByteArray} {next : List Nat} {links out : Value} {at_ steps : Nat} (hn : next.length = 256)
include hn
theorem c257 : (invC last next links at_ out steps)[257]? = some links := by simp [invC, hn]
theorem c258 : (invC last next links at_ out steps)[258]? = some (nv at_) := by simp [invC, hn]
theorem c259 : (invC last next links at_ out steps)[259]? = some out := by simp [invC, hn]
theorem c260 : (invC last next links at_ out steps)[260]? = some (nv steps) := by simp [invC, hn]
theorem cnx {j n : Nat} (h : next[j]? = some n) : (invC last next links at_ out steps)[1 + j]? = some (nv n) := by
 have hj : j < 256 := by rw [← hn]; exact (List.getElem?_eq_some_iff.1 h).1
 unfold invC; rw [Nat.add_comm 1 j, List.getElem?_cons_succ, List.getElem?_append_left (by simpa [hn] using hj), List.getElem?_map, h]; rfl
theorem clen : (invC last next links at_ out steps).length = 261 := by simp [invC, hn]
theorem s258 (n : Nat) : (invC last next links at_ out steps).set 258 (nv n) = invC last next links n out steps := by simp [invC, hn, List.set_append]
theorem s259 (v : Value) : (invC last next links at_ out steps).set 259 v = invC last next links at_ v steps := by simp [invC, hn, List.set_append]
theorem s260 (n : Nat) : (invC last next links at_ out steps).set 260 (nv n) = invC last next links at_ out n := by simp [invC, hn, List.set_append]
theorem snx {j : Nat} (n : Nat) (hj : j < 256) : (invC last next links at_ out steps).set (1 + j) (nv n) = invC last (next.set j n) links at_ out steps := by
 unfold invC; rw [Nat.add_comm 1 j, List.set_cons_succ, List.set_append_left _ _ (by simpa [hn] using hj), List.map_set]
end
def InvR (b : Nat) (last : ByteArray) (o s k : Nat) : HProp := fun h => ∃ t lv ov, Sat [blk b t (invC last (nxL last.data.toList s) lv (atK last.data.toList o (s - 2 * last.size)) ov s),
 SL nv tI lv (lnS last.data.toList s), SL bv tB ov ((outK last.data.toList o (s - 2 * last.size)).drop k)] h
theorem InvR_open {b : Nat} {last : ByteArray} {o s k : Nat} {w : World} {L : List HProp} (H : Holds w (InvR b last o s k :: L)) :
   ∃ t lv ov, Holds w (blk b t (invC last (nxL last.data.toList s) lv (atK last.data.toList o (s - 2 * last.size)) ov s) :: SL nv tI lv (lnS last.data.toList s) ::
     SL bv tB ov ((outK last.data.toList o (s - 2 * last.size)).drop k) :: L) := by
 obtain ⟨t, H⟩ := Holds.ex H; obtain ⟨lv, H⟩ := Holds.ex H; obtain ⟨ov, H⟩ := Holds.ex H; exact ⟨t, lv, ov, Holds.unpack H⟩
theorem InvR_close {b : Nat} {last : ByteArray} {o s k t : Nat} {lv ov : Value} {w : World} {L : List HProp} (H : Holds w (blk b t (invC last (nxL last.data.toList s) lv (atK last.data.toList o (s - 2 * last.size)) ov s) :: SL nv tI lv (lnS last.data.toList s) ::
     SL bv tB ov ((outK last.data.toList o (s - 2 * last.size)).drop k) :: L)) : Holds w (InvR b last o s k :: L) :=
 Holds.imp (Holds.pack (A := [_, _, _]) H) fun h hh => ⟨t, lv, ov, hh⟩
variable {w : World} {L : List HProp} {K : Value → World → Prop} {b : Nat}
theorem Done_raw {t : Nat} {last : ByteArray} {next : List Nat} {links out : Value} {at_ steps : Nat} (hn : next.length = 256)
   (H : Holds w (blk b t (invC last next links at_ out steps) :: L)) (hl : last.size ≤ 1000000)
   (k : ∀ w', Same w w' → Holds w' (blk b t (invC last next links at_ out steps) :: L) → K (.bool ((steps : Int) == 3 * (last.size : Int))) w') :
   Cl Tryz.prog F.unbwt_Inverter_Done #[.pointer (some ⟨b, 0, none⟩)] w K := by
 refine Tie.unbwt_Inverter_Done ?_; unfold Vcf.unbwt_Inverter_Done; have S := Same.refl w
 repeat (first | ((with_reducible apply r_ld 0 H); (exact rfl); (with_reducible exact (c260 hn))) | refine r_nc ?_ | refine r_fo0 ?_ | refine r_lns ?_ | refine r_eql ?_ | (with_reducible refine r_bnST ?_) | (with_reducible refine r_vt ?_) | (refine r_mul (by omega) (by omega) ?_) | (refine r_dr H ?_; clear H; intro _ S_ H; replace S := S.trans S_; clear S_) | refine r_ld 0 H rfl rfl ?_)
 exact k _ S H
theorem begins_raw {t : Nat} {last : ByteArray} {next : List Nat} {links out : Value} {at_ steps : Nat} (hn : next.length = 256)
   (H : Holds w (blk b t (invC last next links at_ out steps) :: L)) (hb : ∀ x ∈ next, x ≤ 4000000)
   (k : ∀ w', Same w w' → Holds w' (blk b t (invC last ((List.range 256).map (exB fun j => next.getD j 0)) links at_ out steps) :: L) → K (.tuple #[]) w') :
   Cl Tryz.prog F.unbwt_Inverter_begins #[.pointer (some ⟨b, 0, none⟩)] w K := by
 refine Tie.unbwt_Inverter_begins ?_; unfold Vcf.unbwt_Inverter_begins; have S := Same.refl w
 have hsub : ((invC last next links at_ out steps).drop 1).take 256 = next.map nv := by
   unfold invC; rw [List.drop_succ_cons, List.drop_zero, List.take_append_of_le_length (by simp [hn]), List.take_of_length_le (by simp [hn])]
 repeat (first | refine r_ldA 0 H _ rfl hsub (by simp [hn]) ?_ | refine r_nc ?_ | refine r_fo0 ?_)
 have hex : ∀ j, j ≤ 256 → exB (fun j => next.getD j 0) j ≤ 4000000 * j := by
   intro j
   induction j with
   | zero => intro _; simp [exB]
   | succ j ih =>
     intro hj
     have hget : next[j]? = some (next.getD j 0) := by simp [List.getD, (by omega : j < next.length)]
     have h1 := hb (next.getD j 0) (List.mem_of_getElem? hget); have h2 := ih (by omega); simp only [exB]; omega
 refine r_loop2 (fun f x w' => ∃ j : Nat, j ≤ 256 ∧ x = nv j ∧ f = nv (exB (fun j => next.getD j 0) j) ∧ Same w w' ∧
     Holds w' (blk b t (invC last ((List.range j).map (exB fun j => next.getD j 0) ++ next.drop j) links at_ out steps) :: L))
   (fun _ x _ => 256 - (RowKit.intOf x).toNat) ⟨0, by omega, rfl, rfl, Same.refl w, by rw [List.range_zero, List.map_nil, List.nil_append, List.drop_zero]; exact H⟩ ?_
 rintro _ _ _ w1 ⟨j, hj, rfl, rfl, S, H⟩; have hx := hex j hj
 have hlen : ((List.range j).map (exB fun j => next.getD j 0) ++ next.drop j).length = 256 := by simp [hn]; omega
 repeat (refine r_lss ?_)
 refine r_vif (fun h => ?_) fun h => ?_
 · have hlt : j < 256 := by have := of_decide_eq_true h; omega
   obtain ⟨x, hgd⟩ : ∃ x, next.getD j 0 = x := ⟨_, rfl⟩
   have hget : next[j]? = some x := by rw [← hgd, List.getD_eq_getElem?_getD, List.getElem?_eq_getElem (by omega)]; rfl
   have hb1 := hb _ (List.mem_of_getElem? hget)
   have hsucc : exB (fun j => next.getD j 0) (j + 1) = exB (fun j => next.getD j 0) j + x := by rw [exB, hgd]
   have h2 := snx (last := last) (links := links) (out := out) (at_ := at_) (steps := steps) hlen (exB (fun j => next.getD j 0) j) hlt; have h3 := set_mid (exB fun j => next.getD j 0) next j (by omega); rw [h3] at h2; generalize exB (fun j => next.getD j 0) j = y at *; refine r_ixa1 (nv x) (by omega) (by omega) (by rw [Int.toNat_natCast, List.getElem?_map, hget]; rfl) ?_
   repeat (first | refine r_iaa (by omega) (by omega) ?_ | refine r_nc ?_ | refine r_fo0 ?_)
   refine r_st 0 H rfl (by rw [clen hlen]; simp; omega) rfl fun w2 S2 H2 => ?_; have S3 := S.trans S2; rw [Int.toNat_natCast, Nat.mul_one, List.set_cons_zero, h2] at H2
   repeat (first | refine r_ke ?_ | (refine r_add1N (by omega) ?_) | (refine r_addN (by omega) ?_))
   refine ⟨⟨j + 1, by omega, by simp [nv], by rw [hsucc], S3, H2⟩, ?_⟩; simp [nv, RowKit.intOf]
   try omega
 · have hge : j = 256 := by have := of_decide_eq_false h; omega
   subst hge; rw [List.drop_of_length_le (by omega), List.append_nil] at H; exact k _ S H
theorem step_spec {last : ByteArray} {o s k : Nat} (H : Holds w (InvR b last o s k :: L)) (hs : s < 3 * last.size) (hl : last.size ≤ 1000000) (ho : o < last.size) (hk : k ≤ s - 2 * last.size)
   (post : ∀ w', Same w w' → Holds w' (InvR b last o (s + 1) k :: L) → K (.tuple #[]) w') :
   Cl Tryz.prog F.unbwt_Inverter_step #[.pointer (some ⟨b, 0, none⟩)] w K := by
 refine Tie.unbwt_Inverter_step ?_; unfold Vcf.unbwt_Inverter_step; obtain ⟨t, lv, ov, H⟩ := InvR_open H; have S := Same.refl w
 have hll : last.data.toList.length = last.size := by simp
 have hn := nxL_len last.data.toList s; have hn' := nxL_len last.data.toList (s + 1)
 obtain ⟨q, r, hqr, hr, hq⟩ : ∃ q r, s = q * last.size + r ∧ r < last.size ∧ (q = 0 ∨ q = 1 ∨ q = 2) :=
   ⟨s / last.size, s % last.size, by rw [Nat.mul_comm]; exact (Nat.div_add_mod s last.size).symm, Nat.mod_lt _ (by omega), by
     have := Nat.div_lt_of_lt_mul (show s < last.size * 3 by omega)
     generalize s / last.size = q at this; omega⟩
 have hQ : ((s : Nat) : Int).tdiv (last.size : Int) = (q : Int) := by
   rw [Int.tdiv_eq_ediv_of_nonneg (by omega), hqr]
   have : ((q * last.size + r : Nat) : Int) / (last.size : Int) = (((q * last.size + r) / last.size : Nat) : Int) := by simp
   rw [this, Nat.add_comm, Nat.add_mul_div_right _ _ (by omega), Nat.div_eq_of_lt hr, Nat.zero_add]
 have hR : ((s : Nat) : Int).tmod (last.size : Int) = (r : Int) := by
   rw [Int.tmod_eq_emod_of_nonneg (by omega), hqr]
   have : ((q * last.size + r : Nat) : Int) % (last.size : Int) = (((q * last.size + r) % last.size : Nat) : Int) := by simp
   rw [this, Nat.add_comm, Nat.add_mul_mod_self_right, Nat.mod_eq_of_lt hr]
 repeat (first | ((with_reducible apply r_ld 0 H); (exact rfl); (with_reducible exact (c260 hn))) | refine r_remE hR (by omega) ?_ | refine r_nc ?_ | refine r_fo0 ?_ | refine r_lns ?_ | refine r_ld 0 H rfl rfl ?_)
 refine r_join0 (fun w' => ∃ t lv ov, Same w w' ∧ Holds w' (blk b t (invC last (nxL last.data.toList (s + 1)) lv (atK last.data.toList o (s + 1 - 2 * last.size)) ov s) :: SL nv tI lv (lnS last.data.toList (s + 1)) ::
     SL bv tB ov ((outK last.data.toList o (s + 1 - 2 * last.size)).drop k) :: L)) ?_ ?_
 · rintro _ w1 ⟨t, lv, ov, S, H⟩
   repeat (first | ((with_reducible apply r_ld 0 H); (exact rfl); (with_reducible exact (c260 hn'))) | refine r_nc ?_ | refine r_fo0 ?_ | (refine r_add1N (by omega) ?_))
   refine r_st 0 H rfl (by rw [clen hn']; omega) rfl fun w2 S2 H2 => ?_; rw [s260 hn', List.set_cons_zero] at H2; exact post _ (S.trans S2) (InvR_close H2)
 have hbt := fun i => byte_lt last.data.toList i; have hnx := fun c => nx_le last.data.toList s c
 repeat (first | ((with_reducible apply r_ld 0 H); (exact rfl); (with_reducible exact (c260 hn))) | refine r_quoE hQ (by omega) (by omega) (by omega) ?_ | refine r_nc ?_ | refine r_fo0 ?_ | refine r_eql ?_)
 rcases hq with rfl | rfl | rfl
 · -- counting
   have hrs : r = s := by omega
   subst hrs
   repeat (first | refine r_nc ?_ | refine r_fo0 ?_ | (refine r_ixsN (by omega) ?_) | (refine r_dr H ?_; clear H; intro _ S_ H; replace S := S.trans S_; clear S_) | refine r_ld 0 H rfl rfl ?_ | ((with_reducible refine r_vtE ?h ?_); (case h => omega)))
   have hc := hbt r; have hnc := hnx (last.data.toList.getD r 0).toNat
   repeat (first | ((with_reducible apply r_ld 0 H); (exact rfl); (with_reducible exact (cnx hn (nxL_get _ _ _ hc)))) | refine r_nc ?_ | refine r_fo0 ?_ | (refine r_add1N (by omega) ?_) | (refine r_iaaN (by omega) ?_))
   refine r_st 0 H rfl (by rw [clen hn]; omega) rfl fun w2 S2 H2 => ?_; rw [snx hn _ hc, List.set_cons_zero] at H2; clear H; have S := S.trans S2
   repeat (first | refine r_eql ?_ | (refine r_sub1N (by omega) (by omega) ?_))
   refine r_vif (fun h => ?_) fun h => ?_
   · have hlast : r + 1 = last.size := by have := of_decide_eq_true h; omega
     refine begins_raw (by rw [List.length_set]; exact hn) H2 ?_ fun w5 S5 H5 => ?_
     · intro x hx; rcases List.mem_or_eq_of_mem_set hx with h1 | h1
       · obtain ⟨j, hj, hjx⟩ := List.getElem_of_mem h1; have := nx_le last.data.toList r j; simp [nxL] at hjx; omega
       · omega
     · rw [nxL_begin _ _ (by omega)] at H5; refine r_ke ⟨t, lv, ov, S.trans S5, ?_⟩; rw [← lnS_low _ _ (by omega), show r + 1 - 2 * last.size = r - 2 * last.size by omega]; exact H5
   · have hlast : ¬ r + 1 = last.size := by have := of_decide_eq_false h; omega
     rw [nxL_count _ _ (by omega)] at H2; refine r_ke ⟨t, lv, ov, S, ?_⟩; rw [← lnS_low _ _ (by omega), show r + 1 - 2 * last.size = r - 2 * last.size by omega]; exact H2
 · -- linking
   have hrs : s - last.data.toList.length = r := by omega
   repeat (first | refine r_nc ?_ | refine r_fo0 ?_ | refine r_eql ?_ | (refine r_ixsN (by omega) ?_) | (refine r_dr H ?_; clear H; intro _ S_ H; replace S := S.trans S_; clear S_) | refine r_ld 0 H rfl rfl ?_ | ((with_reducible refine r_vtE ?h ?_); (case h => omega)) | ((with_reducible refine r_vfE ?h ?_); (case h => omega)))
   have hc := hbt r; have hnp := nx_pos last.data.toList s (by omega); have hlk := lnS_link last.data.toList s (by omega) (by omega); have hnl := nxL_link last.data.toList s (by omega) (by omega); have hpl := pos_lt last.data.toList r (by omega); rw [hrs] at hnp hlk hnl; obtain ⟨oa, sp, rfl, H⟩ := H.open 1 rfl; rw [List.set_cons_succ, List.set_cons_zero] at H
   repeat (first | ((with_reducible apply r_ld 0 H); (exact rfl); (with_reducible exact (cnx hn (nxL_get _ _ _ hc)))) | (refine r_iaaN (by omega) ?_))
   rw [hnp]; refine r_iasN 1 H rfl (by rw [lnS_len]; exact hpl) (Nat.le_refl _) ?_; rintro b2 rfl; refine r_stsl 1 H r rfl (by rw [lnS_len]; exact hpl) rfl rfl fun w2 S2 H2 => ?_; clear H; replace S := S.trans S2; rw [List.set_cons_succ, List.set_cons_zero, hlk] at H2; have H := H2; clear H2
   repeat (first | ((with_reducible apply r_ld 0 H); (exact rfl); (with_reducible exact (cnx hn (nxL_get _ _ _ hc)))) | refine r_nc ?_ | refine r_fo0 ?_ | (refine r_add1N (by omega) ?_) | (refine r_iaaN (by omega) ?_) | (refine r_dr H ?_; clear H; intro _ S_ H; replace S := S.trans S_; clear S_))
   have hnc := hnx (last.data.toList.getD r 0).toNat
   repeat (fail)
   refine r_st 0 H rfl (by rw [clen hn]; omega) rfl fun w3 S3 H3 => ?_; rw [snx hn _ hc, List.set_cons_zero, hnl] at H3; have H4 := H3.close 1 rfl; rw [List.set_cons_succ, List.set_cons_zero, lnS_len] at H4; rw [lnS_len] at H4; rw [show s + 1 - 2 * last.size = s - 2 * last.size by omega]; exact r_ke ⟨t, _, ov, S.trans S3, H4⟩
 · -- following
   have hlS := lnS_high last.data.toList s (by omega); have hlS' := lnS_high last.data.toList (s + 1) (by omega); have hnS := nxL_high last.data.toList s (by omega); obtain ⟨m, hm⟩ : ∃ m, s - 2 * last.size = m := ⟨_, rfl⟩
   have hm' : s + 1 - 2 * last.size = m + 1 := by omega
   rw [hm, hlS] at H; rw [hm] at hk; rw [hm', hlS', ← hnS]; have ha := atK_lt last.data.toList o (by omega) m; have ha' := atK_lt last.data.toList o (by omega) (m + 1)
   have hll2 : (links last.data.toList).length = last.size := by rw [← hll]; exact lnk_len _ _
   obtain ⟨oa, sp, rfl, H⟩ := H.open 1 rfl; rw [List.set_cons_succ, List.set_cons_zero] at H
   repeat (first | ((with_reducible apply r_ld 0 H); (exact rfl); (with_reducible exact (c257 hn))) | ((with_reducible apply r_ld 0 H); (exact rfl); (with_reducible exact (c258 hn))) | refine r_nc ?_ | refine r_fo0 ?_ | refine r_eql ?_ | (refine r_dr H ?_; clear H; intro _ S_ H; replace S := S.trans S_; clear S_) | ((with_reducible refine r_vfE ?h ?_); (case h => omega)))
   refine r_iasN 1 H rfl (by omega) (Nat.le_refl _) ?_; rintro b2 rfl
   have hat : (links last.data.toList)[atK last.data.toList o m]? = some (atK last.data.toList o (m + 1)) := by
     rw [atK, List.getD_eq_getElem?_getD, List.getElem?_eq_getElem (by omega)]; rfl
   refine r_ldsl 1 H rfl hat ?_
   repeat (first | refine r_nc ?_ | refine r_fo0 ?_)
   refine r_st 0 H rfl (by rw [clen hn]; omega) rfl fun w2 S2 H2 => ?_; rw [s258 hn, List.set_cons_zero] at H2; clear H; have H := H2; clear H2; replace S := S.trans S2; obtain ⟨oa, sp, rfl, H⟩ := H.open 2 rfl; rw [List.set_cons_succ, List.set_cons_succ, List.set_cons_zero] at H
   repeat (first | ((with_reducible apply r_ld 0 H); (exact rfl); (with_reducible exact (c258 hn))) | ((with_reducible apply r_ld 0 H); (exact rfl); (with_reducible exact (c259 hn))) | refine r_nc ?_ | refine r_fo0 ?_ | (refine r_ixsN (by omega) ?_) | (refine r_dr H ?_; clear H; intro _ S_ H; replace S := S.trans S_; clear S_) | refine r_ld 0 H rfl rfl ?_)
   have hol : (outK last.data.toList o m).length = m := outK_len _ _ _
   have hout : (outK last.data.toList o m).drop k ++ [last.data.toList.getD (atK last.data.toList o (m + 1)) 0] = (outK last.data.toList o (m + 1)).drop k := by
     rw [outK, List.drop_append_of_le_length (by omega)]
   refine r_bs1 H rfl fun b3 w3 S3 H3 => ?_; replace S := S.trans S3; refine r_rk (r_ld 1 H3 rfl (c259 hn) rfl) ?_; refine r_ap (f := bv) (ys := [last.data.toList.getD (atK last.data.toList o (m + 1)) 0]) H3 3 0 rfl rfl rfl rfl rfl rfl (fun _ => rfl) (by simp; omega) (by simp) fun oa' sp' w4 S4 H4 => ?_; replace S := S.trans S4; rw [hout, List.set_cons_succ, List.set_cons_succ, List.set_cons_succ, List.set_cons_zero] at H4
   have hlen : ((outK last.data.toList o m).drop k).length + [last.data.toList.getD (atK last.data.toList o (m + 1)) 0].length = ((outK last.data.toList o (m + 1)).drop k).length := by
     rw [← hout, List.length_append]
   rw [hlen]; clear H H3; have H := H4.drop; clear H4
   repeat (first | refine r_nc ?_ | refine r_fo0 ?_)
   refine r_st 0 H rfl (by rw [clen hn]; omega) rfl fun w5 S5 H5 => ?_; rw [s259 hn, List.set_cons_zero] at H5; have H6 := (H5.close 1 rfl); rw [List.set_cons_succ, List.set_cons_zero] at H6; have H7 := (H6.close 2 rfl); rw [List.set_cons_succ, List.set_cons_succ, List.set_cons_zero] at H7; exact r_ke ⟨t, _, _, S.trans S5, H7⟩
theorem Done_spec {last : ByteArray} {o s k : Nat} (H : Holds w (InvR b last o s k :: L)) (hl : last.size ≤ 1000000)
   (post : ∀ w', Same w w' → Holds w' (InvR b last o s k :: L) → K (.bool ((s : Int) == 3 * (last.size : Int))) w') :
   Cl Tryz.prog F.unbwt_Inverter_Done #[.pointer (some ⟨b, 0, none⟩)] w K := by
 obtain ⟨t, lv, ov, H⟩ := InvR_open H; exact Done_raw (nxL_len _ _) H hl fun w' S H => post w' S (InvR_close H)
theorem InvR_cell {last : ByteArray} {o s k : Nat} (H : Holds w (InvR b last o s k :: L)) : w.cell? ⟨b, 260, none⟩ = some (nv s) := by
 obtain ⟨t, lv, ov, H⟩ := InvR_open H; exact (H.cell 0 rfl 260).trans (c260 (nxL_len _ _))
theorem Step_spec {last : ByteArray} {o s k : Nat} {budget : Int} (H : Holds w (InvR b last o s k :: L)) (hs : s ≤ 3 * last.size) (hl : last.size ≤ 1000000) (ho : o < last.size) (hk : k ≤ s - 2 * last.size)
   (post : ∀ w', Same w w' → Holds w' (InvR b last o (s + min budget.toNat (3 * last.size - s)) k :: L) → K (nv (min budget.toNat (3 * last.size - s))) w') :
   Cl Tryz.prog F.unbwt_Inverter_Step #[.pointer (some ⟨b, 0, none⟩), .int .i64 budget] w K := by
 refine Tie.unbwt_Inverter_Step ?_; unfold Vcf.unbwt_Inverter_Step; have hn := nxL_len last.data.toList s; have S := Same.refl w; obtain ⟨t, lv, ov, H0⟩ := InvR_open H; have H' := H; clear H; have H := H0
 repeat (first | ((with_reducible apply r_ld 0 H); (exact rfl); (with_reducible exact (c260 hn))) | refine r_nc ?_ | refine r_fo0 ?_ | (with_reducible refine r_bnSF ?_) | (with_reducible refine r_vf ?_))
 clear H H0
 refine r_loop0 (fun w' => ∃ s', s ≤ s' ∧ s' ≤ 3 * last.size ∧ s' - s ≤ budget.toNat ∧ Same w w' ∧ Holds w' (InvR b last o s' k :: L))
   (fun w' => match w'.cell? ⟨b, 260, none⟩ with | some (.int _ n) => 3 * last.size - n.toNat | _ => 0) ⟨s, by omega, hs, by omega, S, H'⟩ ?_
 rintro _ w1 ⟨s', h1, h2, h3, S, H⟩; have hc := InvR_cell H; refine r_join1 (fun x w' => ∃ c : Bool, x = .bool c ∧ (c = true ↔ s' < 3 * last.size ∧ ((s' - s : Nat) : Int) < budget) ∧ Same w w' ∧ Holds w' (InvR b last o s' k :: L)) ?_ ?_
 · rintro _ _ w2 ⟨c, rfl, hc2, S, H⟩; refine r_vif (fun h => ?_) fun h => ?_
   · have h4 := hc2.1 h; refine step_spec H h4.1 hl ho (by omega) fun w3 S3 H3 => r_ke ⟨⟨s' + 1, by omega, by omega, by omega, S.trans S3, H3⟩, ?_⟩; rw [hc, InvR_cell H3]; simp only [Int.toNat_natCast]; omega
   · have h4 : ¬ (s' < 3 * last.size ∧ ((s' - s : Nat) : Int) < budget) := fun h5 => by rw [hc2.2 h5] at h; cases h
     obtain ⟨t, lv, ov, H0⟩ := InvR_open H; have H' := H; clear H; have H := H0; have hn := nxL_len last.data.toList s'
     repeat (first | ((with_reducible apply r_ld 0 H); (exact rfl); (with_reducible exact (c260 hn))) | refine r_nc ?_ | refine r_fo0 ?_ | (refine r_sub (by omega) (by omega) ?_))
     have e : s' - s = min budget.toNat (3 * last.size - s) := by omega
     have := post w2 S (by rw [← e, show s + (s' - s) = s' by omega]; exact H'); rw [← e] at this; rw [show ((s' : Int) - (s : Int)) = ((s' - s : Nat) : Int) by omega]; exact this
 · refine Done_spec H hl fun w3 S3 H3 => ?_; replace S := S.trans S3; clear H
   repeat (refine r_not ?_)
   refine r_ifNE (fun h => ?_) fun h => ?_
   · obtain ⟨t, lv, ov, H0⟩ := InvR_open H3; have H := H0; have hn := nxL_len last.data.toList s'
     repeat (first | ((with_reducible apply r_ld 0 H); (exact rfl); (with_reducible exact (c260 hn))) | refine r_nc ?_ | refine r_fo0 ?_ | refine r_ke ?_ | refine r_lss ?_ | (refine r_sub (by omega) (by omega) ?_))
     refine ⟨_, rfl, ?_, S, H3⟩; rw [decide_eq_true_iff]
     constructor
     · intro h; exact ⟨by omega, by omega⟩
     · intro h; omega
   · refine r_ke ⟨false, rfl, ?_, S, H3⟩
     constructor
     · intro h; cases h
     · intro h; omega
theorem New_spec {last : ByteArray} {origin : Int} (H : Holds w L)
   (p1 : last.size = 0 → K (.tuple #[.pointer none, .int .i64 1]) w)
   (p2 : 900000 < last.size → K (.tuple #[.pointer none, .int .i64 2]) w)
   (p3 : 0 < last.size → last.size ≤ 900000 → (origin < 0 ∨ (last.size : Int) ≤ origin) → K (.tuple #[.pointer none, .int .i64 23]) w)
   (p4 : ∀ (o : Nat) b w', origin = o → o < last.size → last.size ≤ 900000 → Same w w' → Holds w' (InvR b last o 0 0 :: L) → K (.tuple #[.pointer (some ⟨b, 0, none⟩), .int .i64 0]) w') :
   Cl Tryz.prog F.unbwt_New #[.string last, .int .i64 origin] w K := by
 refine Tie.unbwt_New ?_; unfold Vcf.unbwt_New; have S := Same.refl w
 repeat (refine r_seq0 ?_)
 refine r_ifD p1 fun h1 => ?_
 repeat (first | refine r_lns ?_ | refine r_gtr ?_)
 refine r_ifD (fun h => p2 (by omega)) fun h2 => ?_
 have hl : last.size ≤ 900000 := by omega
 refine r_join1 (fun x w' => w' = w ∧ ∃ c : Bool, x = .bool c ∧ (c = true ↔ origin < 0 ∨ (last.size : Int) ≤ origin)) ?_ ?_
 · rintro _ _ _ ⟨rfl, c, rfl, hc⟩; refine r_vif (fun h => p3 (by omega) hl (hc.1 h)) fun h => ?_
   have h3 : ¬ (origin < 0 ∨ (last.size : Int) ≤ origin) := fun h5 => by rw [hc.2 h5] at h; cases h
   obtain ⟨o, rfl⟩ : ∃ o : Nat, origin = o := ⟨origin.toNat, by omega⟩
   repeat (refine r_lns ?_)
   refine r_ms H (f := nv) (x := 0) rfl (by omega) (by omega) fun b2 w2 S2 H2 => ?_; rw [Int.toNat_natCast] at H2 ⊢; refine r_bd (v := .agg (invC last (List.replicate 256 0) (.slice (some ⟨b2, 0, none⟩) last.size last.size) o (.slice none 0 0) 0).toArray) (by kernel_rfl) ?_; refine r_new H2 fun b w3 S3 H3 => ?_; have H4 := H3.close 1 (f := nv) (by rfl); rw [List.set_cons_succ, List.set_cons_zero, List.length_replicate, List.length_nil, Nat.add_zero] at H4; have H5 := ((H4.nilSL bv tB).swap).front 2 rfl
   have hll : last.data.toList.length = last.size := by simp
   refine p4 o b w3 rfl (by omega) hl (S2.trans S3) (InvR_close (t := 157) (lv := .slice (some ⟨b2, 0, none⟩) last.size last.size) (ov := .slice none 0 0) ?_)
   have e1 : nxL last.data.toList 0 = List.replicate 256 0 := by
     unfold nxL; rw [List.eq_replicate_iff]; refine ⟨by simp, fun x hx => ?_⟩; obtain ⟨y, _, rfl⟩ := List.mem_map.1 hx; rw [nx_lo (by omega)]; simp [cntB]
   have e2 : lnS last.data.toList 0 = List.replicate last.size 0 := by
     unfold lnS; rw [show (0 - last.data.toList.length) = 0 by omega, Nat.zero_min, lnk, hll]
   rw [e1, e2, show 0 - 2 * last.size = 0 by omega]; exact H5.swap
 · repeat (refine r_lss ?_)
   refine r_ifD (fun h => ?_) fun h => ?_
   · exact r_ke ⟨rfl, true, rfl, by simp; omega⟩
   · repeat (first | refine r_ke ?_ | refine r_lns ?_ | refine r_geq ?_)
     refine ⟨rfl, _, rfl, ?_⟩; rw [decide_eq_true_iff]; omega
theorem Take_spec {last : ByteArray} {o s k : Nat} (H : Holds w (InvR b last o s k :: L))
   (post : ∀ w', Same w w' → Holds w' (InvR b last o s (s - 2 * last.size) :: L) → K (.string ⟨((outK last.data.toList o (s - 2 * last.size)).drop k).toArray⟩) w') :
   Cl Tryz.prog F.unbwt_Inverter_Take #[.pointer (some ⟨b, 0, none⟩)] w K := by
 refine Tie.unbwt_Inverter_Take ?_; unfold Vcf.unbwt_Inverter_Take; obtain ⟨t, lv, ov, H⟩ := InvR_open H; have S := Same.refl w; have hn := nxL_len last.data.toList s; obtain ⟨oa, sp, rfl, H⟩ := H.open 2 rfl; rw [List.set_cons_succ, List.set_cons_succ, List.set_cons_zero] at H
 repeat (first | ((with_reducible apply r_ld 0 H); (exact rfl); (with_reducible exact (c259 hn))) | refine r_cbs H 2 rfl rfl ?_ | refine r_nc ?_ | refine r_fo0 ?_ | (with_reducible refine r_bnSF ?_) | (with_reducible refine r_vf ?_))
 refine r_st 0 H rfl (by rw [clen hn]; omega) rfl fun w2 S2 H2 => ?_; rw [s259 hn, List.set_cons_zero] at H2; refine post w2 S2 (InvR_close (t := t) (lv := lv) (ov := .slice none 0 0) ?_); rw [List.drop_of_length_le (Nat.le_of_eq (outK_len _ _ _))]; exact (((H2.dropAt 2).nilSL bv tB).front 2 rfl).front 2 rfl
theorem Of_spec {last : ByteArray} {origin : Int} (H : Holds w L)
   (p1 : last.size = 0 → K (.tuple #[.string ⟨#[]⟩, .int .i64 1]) w)
   (p2 : 900000 < last.size → K (.tuple #[.string ⟨#[]⟩, .int .i64 2]) w)
   (p3 : 0 < last.size → last.size ≤ 900000 → (origin < 0 ∨ (last.size : Int) ≤ origin) → K (.tuple #[.string ⟨#[]⟩, .int .i64 23]) w)
   (p4 : ∀ (o : Nat) w', origin = o → o < last.size → last.size ≤ 900000 → Same w w' → Holds w' L → K (.tuple #[.string ⟨(text last.data.toList o).toArray⟩, .int .i64 0]) w') :
   Cl Tryz.prog F.unbwt_Of #[.string last, .int .i64 origin] w K := by
 refine Tie.unbwt_Of ?_; unfold Vcf.unbwt_Of; refine New_spec H (fun h => ?_) (fun h => ?_) (fun h1 h2 h3 => ?_) fun o b w1 h1 h2 h3 S H1 => ?_
 · repeat (first | refine r_neq ?_ | (with_reducible refine r_ex20 ?_) | (with_reducible refine r_ex21 ?_) | ((with_reducible refine r_vtN ?h ?_); (case h => omega)))
   exact p1 h
 · repeat (first | refine r_neq ?_ | (with_reducible refine r_ex20 ?_) | (with_reducible refine r_ex21 ?_) | ((with_reducible refine r_vtN ?h ?_); (case h => omega)))
   exact p2 h
 · repeat (first | refine r_neq ?_ | (with_reducible refine r_ex20 ?_) | (with_reducible refine r_ex21 ?_) | ((with_reducible refine r_vtN ?h ?_); (case h => omega)))
   exact p3 h1 h2 h3
 · clear H; have H := H1
   repeat (first | refine r_lns ?_ | refine r_neq ?_ | (with_reducible refine r_ex20 ?_) | (with_reducible refine r_ex21 ?_) | (refine r_mul (by omega) (by omega) ?_) | ((with_reducible refine r_vfN ?h ?_); (case h => omega)))
   refine Step_spec H (by omega) (by omega) h2 (by omega) fun w2 S2 H2 => ?_
   have e : min (3 * (last.size : Int)).toNat (3 * last.size - 0) = 3 * last.size := by omega
   rw [e, Nat.zero_add] at H2; refine Take_spec H2 fun w3 S3 H3 => ?_
   have hll : last.data.toList.length = last.size := by simp
   have := p4 o w3 h1 h2 h3 ((S.trans S2).trans S3) H3.drop; unfold text at this; rw [hll] at this; rw [show 3 * last.size - 2 * last.size = last.size by omega, List.drop_zero]; exact this
end U18
namespace R3b
open Go.M02 Go.M03 Go.M3d
abbrev S_ (B : List UInt8) : Value := .string ⟨B.toArray⟩
abbrev pt (b : Nat) : Value := .pointer (some ⟨b, 0, none⟩)
abbrev tB : Nat := 5
variable {w : World} {L : List HProp} {K : Value → World → Prop} {b r : Nat} {s : Nat} {t : List UInt8}
abbrev tS : Nat := 161
def smC (s : Nat) : List Value := [] ++ (tabL.map uv ++ [uv s])
def SumR (b s : Nat) : HProp := fun h => s < 4294967296 ∧ blk b tS (smC s) h
theorem SumR_open (H : Holds w (SumR b s :: L)) : s < 4294967296 ∧ Holds w (blk b tS (smC s) :: L) := Holds.pure H
theorem SumR_close (h : s < 4294967296) (H : Holds w (blk b tS (smC s) :: L)) : Holds w (SumR b s :: L) := Holds.imp H fun _ hh => ⟨h, hh⟩
theorem sm256 : (smC s)[256]? = some (uv s) := by
 have := mid_post (f := uv) (xs := tabL) (post := [uv s]) (j := 0) [] tabL_len; exact this
theorem smget {i : Nat} (h : i < 256) : (smC s)[0 + i]? = some (uv (crcTab i)) := mid_get (f := uv) [] (tabL_get i h)
theorem smset (v : Nat) : (smC s).set 256 (uv v) = smC v := by
 have := mid_pset (f := uv) (xs := tabL) (post := [uv s]) (j := 0) [] (uv v) tabL_len; exact this
theorem smlen : (smC s).length = 257 := by
 unfold smC; rw [List.nil_append, List.length_append, List.length_map, tabL_len]; rfl
theorem New_spec (H : Holds w L) (k : ∀ b w', Same w w' → Holds w' (SumR b 4294967295 :: L) → K (pt b) w') : Cl Tryz.prog F.crc_New #[] w K := by
 refine Tie.crc_New ?_; unfold Vcf.crc_New; refine W02.Table_spec H fun w1 S1 H1 => ?_; refine r_bd (v := .agg (smC 4294967295).toArray) (by kernel_rfl) ?_; refine r_new H1 fun b w2 S2 H2 => ?_; exact k b _ (S1.trans S2) (SumR_close (by decide) H2)
theorem step_spec {c : UInt8} (H : Holds w (blk b tS (smC s) :: L)) (hs : s < 4294967296) (k : K (uv (crcB s c)) w) : Cl Tryz.prog F.crc_step #[pt b, uv s, bv c] w K := by
 refine Tie.crc_step ?_; unfold Vcf.crc_step; have hc := c.toNat_lt; refine r_shlU32 (n := 8) (by omega) ?_; refine r_shrU (n := 24) (by decide) ?_; have h24 : s / 2 ^ 24 = s / 16777216 := rfl; rw [h24]; have hh : s / 16777216 ^^^ c.toNat < 256 := Nat.xor_lt_two_pow (n := 8) (by omega) (by omega)
 repeat (refine r_ciu8 (by omega) (by omega) ?_)
 refine r_xorU8 (by omega) (by omega) ?_; refine r_nc (r_iaaN (by omega) ?_); refine r_ld 0 H rfl (smget hh) ?_; have ht : crcTab (s / 16777216 ^^^ c.toNat) < 4294967296 := crcN_lt _ (by omega) 8; refine r_xorU32 (by omega) ht ?_; rw [crcB_tab hs]; exact k
theorem Put_spec {c : UInt8} (H : Holds w (SumR b s :: L)) (k : ∀ w', Same w w' → Holds w' (SumR b (crcB s c) :: L) → K (.tuple #[]) w') : Cl Tryz.prog F.crc_Sum_Put #[pt b, bv c] w K := by
 refine Tie.crc_Sum_Put ?_; unfold Vcf.crc_Sum_Put; obtain ⟨hs, H⟩ := SumR_open H; have S := Same.refl w
 repeat (first | ((with_reducible apply r_ld 0 H); (exact rfl); (with_reducible exact (sm256))) | refine r_nc ?_ | refine r_fo0 ?_ | (with_reducible refine r_bnST ?_) | (with_reducible refine r_vt ?_) | (refine r_dr H ?_; clear H; intro _ S_ H; replace S := S.trans S_; clear S_))
 refine step_spec H hs ?_
 repeat (first | refine r_nc ?_ | refine r_fo0 ?_)
 refine r_st 0 H rfl (by rw [smlen]; omega) rfl fun w2 S2 H2 => ?_; rw [List.set_cons_zero, smset] at H2; exact k _ (S.trans S2) (SumR_close (crcB_lt hs c) H2)
theorem getD_take {t : List UInt8} {i : Nat} (h : i < t.length) : t.take (i + 1) = t.take i ++ [t.getD i 0] := by
 rw [List.take_add_one, List.getElem?_eq_getElem h, List.getD_eq_getElem?_getD, List.getElem?_eq_getElem h]; rfl
theorem Of_spec (H : Holds w L) (ht : t.length ≤ 1000000000) (k : ∀ w', Same w w' → Holds w' L → K (uv (crcOf t)) w') : Cl Tryz.prog F.crc_Of #[S_ t] w K := by
 refine Tie.crc_Of ?_; unfold Vcf.crc_Of; refine New_spec H fun b w1 S1 H1 => ?_; refine r_cl (K := fun _ w' => Same w w' ∧ Holds w' (SumR b (crcF 4294967295 t) :: L)) ?_ ?_
 · refine Tie.crc_Sum_Text ?_; unfold Vcf.crc_Sum_Text
   have hs : (⟨t.toArray⟩ : ByteArray).size = t.length := by show t.toArray.size = _; simp
   repeat (refine r_lns ?_)
   rw [hs]; refine r_loop1 (fun x w' => ∃ i : Nat, i ≤ t.length ∧ x = nv i ∧ Same w w' ∧ Holds w' (SumR b (crcF 4294967295 (t.take i)) :: L)) (fun x _ => t.length - (RowKit.intOf x).toNat) ⟨0, by omega, rfl, S1, H1⟩ ?_; clear H H1 S1; rintro _ _ w2 ⟨i, hi, rfl, S, H⟩
   repeat (refine r_lss ?_)
   refine r_ifD (fun h => ?_) fun h => ?_
   · have hlt : i < t.length := by omega
     repeat (refine r_ixsN (by omega) ?_)
     refine Put_spec (c := t.getD i 0) H fun w3 S3 H3 => ?_
     repeat (first | refine r_ke ?_ | (refine r_add1N (by omega) ?_))
     refine ⟨⟨i + 1, by omega, rfl, S.trans S3, ?_⟩, ?_⟩
     · rw [getD_take hlt, crcF_snoc]; exact H3
     · simp [nv, RowKit.intOf]; omega
   · obtain rfl : i = t.length := by omega
     rw [List.take_length] at H; exact ⟨S, H⟩
 rintro _ w2 ⟨S, H⟩; refine Tie.crc_Sum_Value ?_; unfold Vcf.crc_Sum_Value; obtain ⟨hs, H⟩ := SumR_open H
 repeat (first | ((with_reducible apply r_ld 0 H); (exact rfl); (with_reducible exact (sm256))) | refine r_nc ?_ | refine r_fo0 ?_ | (with_reducible refine r_bnSF ?_) | (with_reducible refine r_vf ?_))
 refine r_upxU32 hs ?_; exact k _ S H.drop
theorem take_spec {v : Value} {c : UInt8} {n : Nat} (H : Holds w (blk b 53 [v] :: SL bv tB v t :: L)) (hn : n ≤ 255) (ht : t.length ≤ 1000000000)
   (k : ∀ v' w', Same w w' → Holds w' (blk b 53 [v'] :: SL bv tB v' (t ++ List.replicate n c) :: L) → K (.tuple #[]) w') : Cl Tryz.prog F.rle_Decode_1 #[bv c, nv n, pt b] w K := by
 refine Tie.rle_Decode_1 ?_; unfold Vcf.rle_Decode_1; refine r_loop1 (fun x w' => ∃ i v', i ≤ n ∧ x = nv i ∧ Same w w' ∧ Holds w' (blk b 53 [v'] :: SL bv tB v' (t ++ List.replicate i c) :: L)) (fun x _ => n - (RowKit.intOf x).toNat) ⟨0, v, by omega, rfl, .refl w, by rw [List.replicate_zero, List.append_nil]; exact H⟩ ?_; clear H; rintro _ _ w1 ⟨i, v', hi, rfl, S, H⟩
 repeat (refine r_lss ?_)
 refine r_ifD (fun h => ?_) fun h => ?_
 · repeat (refine r_ld 0 H rfl rfl ?_)
   refine r_app1 H 1 rfl c (fun _ => rfl) (by rw [List.length_append, List.length_replicate]; omega) fun v2 w2 S2 H2 => ?_; rw [List.set_cons_succ, List.set_cons_zero, List.append_assoc] at H2; refine r_st 0 H2 rfl (by simp) (SL_sg H2 1 rfl) fun w3 S3 H3 => ?_; replace H3 : Holds w3 (blk b 53 [v2] :: SL bv tB v2 (t ++ (List.replicate i c ++ [c])) :: L) := H3
   repeat (first | refine r_ke ?_ | (refine r_add1N (by omega) ?_))
   refine ⟨⟨i + 1, v2, by omega, rfl, (S.trans S2).trans S3, ?_⟩, ?_⟩
   · rw [List.replicate_succ']; exact H3
   · simp [nv, RowKit.intOf]; omega
 · obtain rfl : i = n := by omega
   exact k _ _ S H
theorem Decode_spec {s : List UInt8} (H : Holds w L) (hs : s.length ≤ 1000000)
   (kb : rle s = none → ∀ e w', e ≠ 0 → Same w w' → Holds w' L → K (.tuple #[S_ [], iv e]) w')
   (k : ∀ t, rle s = some t → ∀ w', Same w w' → Holds w' L → K (.tuple #[S_ t, iv 0]) w') : Cl Tryz.prog F.rle_Decode #[S_ s] w K := by
 refine Tie.rle_Decode ?_; unfold Vcf.rle_Decode
 have hz : (zeroP Tryz.prog 53).cells.toList = [.slice none 0 0] := by kernel_rfl
 refine r_new H fun b w1 S1 H1 => ?_; rw [hz] at H1; refine r_mf (.func (.func F.rle_Decode_1) #[] #[pt b]) (by kernel_rfl) ?_; refine r_cl (K := fun x w' => Same w w' ∧ ((rle s = none ∧ (x = iv 24 ∨ x = iv 25) ∧ Holds w' L) ∨ ∃ t v, rle s = some t ∧ x = iv 0 ∧ Holds w' (blk b 53 [v] :: SL bv tB v t :: L))) ?_ ?_
 · refine Tie.rle_unpack ?_; unfold Vcf.rle_unpack
   have hsz : ∀ _ : Unit, (⟨s.toArray⟩ : ByteArray).size = s.length := fun _ => by show s.toArray.size = _; simp
   repeat (refine r_lns ?_)
   rw [hsz ()]
   have call : ∀ {c : UInt8} {n : Nat} {w : World} {K : Value → World → Prop} {v : Value} {t : List UInt8} (H : Holds w (blk b 53 [v] :: SL bv tB v t :: L)) (hn : n ≤ 255) (ht : t.length ≤ 1000000000)
       (k : ∀ v' w', Same w w' → Holds w' (blk b 53 [v'] :: SL bv tB v' (t ++ List.replicate n c) :: L) → K (.tuple #[]) w'),
       Inv Tryz.prog (do let d ← Deferred.ofValue (.func (.func F.rle_Decode_1) #[] #[pt b]) #[bv c, nv n]; invoke d.target d.args) w K := fun H hn ht k =>
     r_inv (f := F.rle_Decode_1) (args := #[bv _, nv _, pt b]) (by kernel_rfl) (take_spec H hn ht k)
   refine r_loop2 (fun rn x w' => ∃ (i run : Nat) (p : UInt8) (out : List UInt8) (v : Value), i ≤ s.length ∧ run ≤ 4 ∧ x = nv i ∧ rn = nv run ∧ (0 < run → 0 < i ∧ p = s.getD (i - 1) 0) ∧ out.length ≤ 255 * i ∧ rleA out run p (s.drop i) = rle s ∧ Same w w' ∧ Holds w' (blk b 53 [v] :: SL bv tB v out :: L))
     (fun _ x _ => s.length - (RowKit.intOf x).toNat) ⟨0, 0, 0, [], .slice none 0 0, by omega, by omega, rfl, rfl, fun h => absurd h (Nat.lt_irrefl 0), by simp, rfl, S1, (H1.nilSL bv tB).swap⟩ ?_
   clear H H1 S1; rintro _ _ _ w2 ⟨i, run, p, out, v, hi, hr, rfl, rfl, hp, hout, hrle, S, H⟩
   repeat (refine r_lss ?_)
   refine r_ifD (fun h => ?_) fun h => ?_
   · have hlt : i < s.length := by omega
     have hd : s.drop i = s.getD i 0 :: s.drop (i + 1) := by
       rw [List.getD_eq_getElem?_getD, List.getElem?_eq_getElem hlt]; exact (List.getElem_cons_drop hlt).symm
     have hsi : (⟨s.toArray⟩ : ByteArray).data.toList.getD i 0 = s.getD i 0 := by simp
     have hsi1 : (⟨s.toArray⟩ : ByteArray).data.toList.getD (i - 1) 0 = s.getD (i - 1) 0 := by simp
     rw [hd] at hrle; unfold rleA at hrle; refine r_join1 (fun x w' => ∃ (run' : Nat), run' ≤ 4 ∧ 0 < run' ∧ x = nv run' ∧ rleA (out ++ [s.getD i 0]) run' (s.getD i 0) (s.drop (i + 1)) = rle s ∧ Same w w' ∧ Holds w' (blk b 53 [v] :: SL bv tB v out :: L)) ?_ ?_
     · clear H S hrle; rintro _ _ w3 ⟨run', hr', hr0, rfl, hrle, S, H⟩; refine r_ixsN (by rw [hsz ()]; exact hlt) ?_; rw [hsi]; refine call (c := s.getD i 0) (n := 1) H (by omega) (by omega) fun v2 w4 S4 H4 => ?_
       repeat (first | refine r_ke ?_ | (refine r_add1N (by omega) ?_))
       refine ⟨⟨i + 1, run', s.getD i 0, out ++ [s.getD i 0], v2, by omega, hr', rfl, rfl, fun _ => ⟨by omega, by rw [Nat.add_sub_cancel]⟩, by rw [List.length_append, List.length_singleton]; omega, hrle, S.trans S4, H4⟩, ?_⟩; simp [nv, RowKit.intOf]; omega
     · refine r_eql (r_ifE (fun h4 => ?_) fun h4 => ?_)
       · have h4' : run = 4 := by omega
         rw [if_pos h4'] at hrle; have hp2 := hp (by omega); refine r_ixsN (by rw [hsz ()]; exact hlt) ?_; rw [hsi]
         repeat (refine r_gtr ?_)
         refine r_ifD (fun hb => ?_) fun hb => ?_
         · rw [if_pos (by omega)] at hrle; exact ⟨S, .inl ⟨hrle.symm, .inr rfl, H.drop.drop⟩⟩
         · rw [if_neg (by omega)] at hrle
           repeat (first | (refine r_sub1N (by omega) (by omega) ?_) | (refine r_dr H ?_; clear H; intro _ S_ H; replace S := S.trans S_; clear S_))
           refine r_ixsN (by rw [hsz ()]; omega) ?_; rw [hsi1]; refine r_ixsN (by rw [hsz ()]; exact hlt) ?_; rw [hsi]
           repeat (refine r_ci64 (by omega) (by omega) ?_)
           refine call (c := s.getD (i - 1) 0) (n := (s.getD i 0).toNat) H (by omega) (by omega) fun v2 w4 S4 H4 => ?_; rw [hp2.2] at hrle
           repeat (first | refine r_ke ?_ | (refine r_add1N (by omega) ?_))
           refine ⟨⟨i + 1, 0, s.getD i 0, _, v2, by omega, by omega, rfl, rfl, fun h => absurd h (Nat.lt_irrefl 0), by rw [List.length_append, List.length_replicate]; omega, hrle, S.trans S4, H4⟩, ?_⟩; simp [nv, RowKit.intOf]; omega
       · have h4' : run ≠ 4 := by omega
         rw [if_neg h4'] at hrle; refine r_join1 (fun x w' => x = .bool (decide (0 < run ∧ s.getD i 0 = p)) ∧ Same w w' ∧ Holds w' (blk b 53 [v] :: SL bv tB v out :: L)) ?_ ?_
         · clear H S; rintro _ _ w3 ⟨rfl, S, H⟩; refine r_ifD (fun hc => ?_) fun hc => ?_
           · rw [if_pos hc] at hrle
             repeat (first | refine r_ke ?_ | (refine r_add1N (by omega) ?_))
             exact ⟨run + 1, by omega, by omega, rfl, hrle, S, H⟩
           · rw [if_neg hc] at hrle
             repeat (refine r_ke ?_)
             exact ⟨1, by omega, by omega, rfl, hrle, S, H⟩
         · repeat (first | refine r_gtr ?_ | (refine r_dr H ?_; clear H; intro _ S_ H; replace S := S.trans S_; clear S_))
           refine r_ifD (fun h0 => ?_) fun h0 => ?_
           · have hp2 := hp (by omega); refine r_ixsN (by rw [hsz ()]; exact hlt) ?_; rw [hsi]
             repeat (refine r_sub1N (by omega) (by omega) ?_)
             refine r_ixsN (by rw [hsz ()]; omega) ?_; rw [hsi1, ← hp2.2]
             repeat (first | refine r_ke ?_ | refine r_eql ?_)
             refine ⟨?_, S, H⟩; refine congrArg Value.bool ?_; rw [Bool.eq_iff_iff, beq_iff_eq, decide_eq_true_iff]
             constructor
             · intro h; exact ⟨by omega, UInt8.toNat_inj.1 (by omega)⟩
             · rintro ⟨_, h⟩; rw [h]
           · repeat (refine r_ke ?_)
             refine ⟨?_, S, H⟩; rw [decide_eq_false (by omega)]
   · obtain rfl : i = s.length := by omega
     rw [List.drop_length] at hrle; unfold rleA at hrle; refine r_eql (r_ifE (fun h4 => ?_) fun h4 => ?_)
     · rw [if_pos (by omega)] at hrle; exact ⟨S, .inl ⟨hrle.symm, .inl rfl, H.drop.drop⟩⟩
     · rw [if_neg (by omega)] at hrle; exact ⟨S, .inr ⟨out, v, hrle.symm, rfl, H⟩⟩
 rintro _ w2 ⟨S, ⟨hn, hx, H⟩ | ⟨t, v, ht, rfl, H⟩⟩
 · rcases hx with rfl | rfl
   · repeat (first | refine r_neq ?_ | ((with_reducible refine r_vtN ?h ?_); (case h => omega)))
     exact kb hn 24 _ (by decide) S H
   · repeat (first | refine r_neq ?_ | ((with_reducible refine r_vtN ?h ?_); (case h => omega)))
     exact kb hn 25 _ (by decide) S H
 · repeat (first | refine r_neq ?_ | refine r_ld 0 H rfl rfl ?_ | ((with_reducible refine r_vfN ?h ?_); (case h => omega)))
   obtain ⟨oa, sp, rfl, H3⟩ := H.open 1 rfl; refine r_cbs H3 1 rfl rfl ?_; exact k _ ht _ S H.drop.drop
end R3b
namespace U18
open Go.M18
variable {w : World} {L : List HProp} {K : Value → World → Prop}
theorem RLinks_spec {s : ByteArray} (H : Holds w L) (hl : s.size ≤ 1000000)
   (post : ∀ v w', Same w w' → Holds w' (SL nv tI v (links s.data.toList) :: L) → K v w') :
   Cl Tryz.prog F.balerref18_Links #[.string s] w K := by
 refine Tie.balerref18_Links ?_; unfold Vcf.balerref18_Links
 have hll : s.data.toList.length = s.size := by simp
 have hbt := fun i => byte_lt s.data.toList i
 refine r_loop2 (fun v x w' => ∃ b : Nat, b ≤ 256 ∧ x = nv b ∧ Same w w' ∧ Holds w' (SL nv tI v (refL s.data.toList b) :: L))
   (fun _ x _ => 256 - (RowKit.intOf x).toNat) ⟨0, by omega, rfl, .refl w, H.nilSL nv tI⟩ ?_
 clear H; rintro _ out _ w2 ⟨b, hb, rfl, S, H⟩
 repeat (refine r_lss ?_)
 refine r_ifD (fun h => ?_) fun h => ?_
 · have hlt : b < 256 := by omega
   repeat (refine r_lns ?_)
   refine r_loop2 (fun v x w' => ∃ i : Nat, i ≤ s.size ∧ x = nv i ∧ Same w w' ∧ Holds w' (SL nv tI v (refL s.data.toList b ++ refBi s.data.toList b i) :: L))
     (fun _ x _ => s.size - (RowKit.intOf x).toNat) ⟨0, by omega, rfl, S, by rw [show refBi s.data.toList b 0 = [] from rfl, List.append_nil]; exact H⟩ ?_
   clear H S; rintro _ out _ w3 ⟨i, hi, rfl, S, H⟩
   repeat (refine r_lss ?_)
   refine r_ifD (fun h => ?_) fun h => ?_
   · have hlt : i < s.size := by omega
     have hc := hbt i; have hs := refBi_succ s.data.toList b i
     have hlen : (refL s.data.toList b ++ refBi s.data.toList b i).length ≤ 2000000 := by
       rw [List.length_append, refL_len, refBi_len _ _ _ (by omega)]; have := blw_le s.data.toList b; have := cnt_take_le2 s.data.toList i b; omega
     repeat (first | refine r_eql ?_ | (refine r_ci64 (by omega) (by omega) ?_) | (refine r_ixsN (by omega) ?_))
     refine r_ifE (fun h => ?_) fun h => ?_
     · rw [if_pos (by omega)] at hs; obtain ⟨oa, sp, rfl, H⟩ := H.open 0 rfl; rw [List.set_cons_zero] at H; refine r_bs1 H rfl fun b3 w4 S4 H4 => ?_; refine r_ap (f := nv) (ys := [i]) H4 1 0 rfl rfl rfl rfl rfl rfl (fun _ => rfl) (by rw [List.length_singleton]; omega) (by simp) fun oa' sp' w5 S5 H5 => ?_; rw [List.append_assoc, ← hs, List.set_cons_succ, List.set_cons_zero] at H5; have H6 := H5.drop.close 0 rfl; rw [List.set_cons_zero] at H6
       have e : (refL s.data.toList b ++ refBi s.data.toList b i).length + [i].length = (refL s.data.toList b ++ refBi s.data.toList b (i + 1)).length := by
         rw [hs, List.length_append, List.length_append, List.length_append]; omega
       rw [e]
       repeat (first | refine r_ke ?_ | (refine r_add1N (by omega) ?_))
       refine ⟨⟨i + 1, by omega, rfl, (S.trans S4).trans S5, H6⟩, ?_⟩; simp [nv, RowKit.intOf]; omega
     · rw [if_neg (by omega), List.append_nil] at hs
       repeat (first | refine r_ke ?_ | (refine r_add1N (by omega) ?_))
       refine ⟨⟨i + 1, by omega, rfl, S, by rw [hs]; exact H⟩, ?_⟩; simp [nv, RowKit.intOf]; omega
   · have hii : i = s.data.toList.length := by omega
     subst hii
     repeat (first | refine r_ke ?_ | (refine r_add1N (by omega) ?_))
     refine ⟨⟨b + 1, by omega, rfl, S, H⟩, ?_⟩; simp [nv, RowKit.intOf]; omega
 · have hge : b = 256 := by omega
   subst hge; rw [← links_ref] at H; exact post _ _ S H
theorem ROf_spec {s : ByteArray} {o : Nat} (H : Holds w L) (hl : s.size ≤ 1000000) (ho : o < s.size)
   (post : ∀ w', Same w w' → Holds w' L → K (.string ⟨(text s.data.toList o).toArray⟩) w') :
   Cl Tryz.prog F.balerref18_Of #[.string s, .int .i64 o] w K := by
 refine Tie.balerref18_Of ?_; unfold Vcf.balerref18_Of
 have hll : s.data.toList.length = s.size := by simp
 refine RLinks_spec H hl fun v w1 S1 H1 => ?_; clear H; obtain ⟨oa, sp, rfl, H⟩ := H1.open 0 rfl; rw [List.set_cons_zero] at H
 repeat (refine r_lns ?_)
 refine r_loop3 (fun a b x w' => ∃ i : Nat, i ≤ s.size ∧ x = nv i ∧ b = nv (atK s.data.toList o i) ∧ a = .string ⟨(outK s.data.toList o i).toArray⟩ ∧ Same w w' ∧ Holds w' (slb nv tI oa (links s.data.toList) sp :: L))
   (fun _ _ x _ => s.size - (RowKit.intOf x).toNat) ⟨0, by omega, rfl, rfl, rfl, S1, H⟩ ?_
 clear H H1 S1; rintro _ _ _ _ w2 ⟨i, hi, rfl, rfl, rfl, S, H⟩
 repeat (refine r_lss ?_)
 refine r_ifD (fun h => ?_) fun h => ?_
 · have ha := atK_lt s.data.toList o (by omega) i; have ha' := atK_lt s.data.toList o (by omega) (i + 1); have hk := links_len s.data.toList; refine r_iasN 0 H rfl (by omega) (Nat.le_refl _) ?_; rintro b2 rfl
   have hat : (links s.data.toList)[atK s.data.toList o i]? = some (atK s.data.toList o (i + 1)) := by
     rw [atK, List.getD_eq_getElem?_getD, List.getElem?_eq_getElem (by omega)]; rfl
   refine r_ldsl 0 H rfl hat ?_
   repeat (refine r_add1N (by omega) ?_)
   refine r_sst1 (by omega) ?_; refine r_catL (by rw [outK_len, List.length_singleton]; omega) ?_
   repeat (first | refine r_ke ?_ | (refine r_add1N (by omega) ?_))
   refine ⟨⟨i + 1, by omega, rfl, rfl, rfl, S, H⟩, ?_⟩; simp [nv, RowKit.intOf]; omega
 · have e : i = s.data.toList.length := by omega
   subst e; exact post _ S H.drop
end U18
namespace O20
open Go.M02 Go.M03 Go.M3d Go.M18 Go.M20 R3b
variable {w : World} {L : List HProp} {K : Value → World → Prop}
theorem Bits_spec {s : Nat} (hs : s < 4294967296) (k : K (uv (crcN s 8)) w) : Cl Tryz.prog F.balerref02_Bits #[uv s] w K := by
 refine Tie.balerref02_Bits ?_; unfold Vcf.balerref02_Bits; refine r_loop2 (fun x i w' => ∃ j : Nat, j ≤ 8 ∧ i = nv j ∧ x = uv (crcN s j) ∧ w = w') (fun _ i _ => 8 - (RowKit.intOf i).toNat) ⟨0, by omega, rfl, rfl, rfl⟩ ?_; rintro _ _ _ _ ⟨j, hj, rfl, rfl, rfl⟩; have hb := crcN_lt hs j
 repeat (refine r_lss ?_)
 refine r_ifD (fun h => ?_) fun h => ?_
 · refine r_geq ?_; refine r_ifD (fun h2 => ?_) fun h2 => ?_
   · refine r_subU32 (t := 2147483648) (by omega) (by omega) ?_; refine r_mulU32 (t := 2) (by omega) ?_; refine r_xorU32 (t := 79764919) (by omega) (by decide) ?_
     repeat (first | refine r_ke ?_ | (refine r_add1N (by omega) ?_))
     refine ⟨⟨j + 1, by omega, rfl, ?_, rfl⟩, ?_⟩
     · rw [crcN_snoc, crcStep_high (by omega) hb]
     · simp [nv, RowKit.intOf]; omega
   · refine r_mulU32 (t := 2) (by omega) ?_
     repeat (first | refine r_ke ?_ | (refine r_add1N (by omega) ?_))
     refine ⟨⟨j + 1, by omega, rfl, ?_, rfl⟩, ?_⟩
     · rw [crcN_snoc, crcStep_low (by omega)]
     · simp [nv, RowKit.intOf]; omega
 · obtain rfl : j = 8 := by omega
   exact k
theorem Step_spec {s : Nat} {c : UInt8} (hs : s < 4294967296) (k : K (uv (crcB s c)) w) : Cl Tryz.prog F.balerref02_Step #[uv s, bv c] w K := by
 refine Tie.balerref02_Step ?_; unfold Vcf.balerref02_Step; have hc := c.toNat_lt
 repeat (refine r_ciu32 (by omega) (by omega) ?_)
 refine r_mulU32 (s := c.toNat) (t := 16777216) (by omega) ?_; refine r_xorU32 hs (by omega) ?_; exact Bits_spec (Nat.xor_lt_two_pow (n := 32) (by omega) (by omega)) k
theorem ROf_spec {t : List UInt8} (ht : t.length ≤ 1000000000) (k : K (uv (crcOf t)) w) : Cl Tryz.prog F.balerref02_Of #[S_ t] w K := by
 refine Tie.balerref02_Of ?_; unfold Vcf.balerref02_Of
 have hs : (⟨t.toArray⟩ : ByteArray).size = t.length := by show t.toArray.size = _; simp
 have hg : ∀ i, (⟨t.toArray⟩ : ByteArray).data.toList.getD i 0 = t.getD i 0 := fun i => by simp
 refine r_loop2 (fun x i w' => ∃ j : Nat, j ≤ t.length ∧ i = nv j ∧ x = uv (crcF 4294967295 (t.take j)) ∧ w = w') (fun _ i _ => t.length - (RowKit.intOf i).toNat) ⟨0, by omega, rfl, rfl, rfl⟩ ?_; rintro _ _ _ _ ⟨j, hj, rfl, rfl, rfl⟩; have hb := crcF_lt (t.take j) (s := 4294967295) (by decide)
 repeat (first | refine r_lns ?_ | refine r_lss ?_)
 rw [hs]; refine r_ifD (fun h => ?_) fun h => ?_
 · refine r_ixsN (by rw [hs]; omega) ?_; rw [hg]; refine Step_spec hb ?_
   repeat (first | refine r_ke ?_ | (refine r_add1N (by omega) ?_))
   refine ⟨⟨j + 1, by omega, rfl, ?_, rfl⟩, ?_⟩
   · rw [getD_take (by omega), crcF_snoc]
   · simp [nv, RowKit.intOf]; omega
 · obtain rfl : j = t.length := by omega
   rw [List.take_length] at hb ⊢; refine r_subU32 (s := 4294967295) (by omega) (by omega) ?_; exact k
theorem four_spec {t : List UInt8} (H : Holds w L) (k : ∀ b w', Same w w' → Holds w' L → (b = true ↔ four t) → K (.bool b) w') : Cl Tryz.prog F.balerref03_four #[S_ t] w K := by
 refine Tie.balerref03_four ?_; unfold Vcf.balerref03_four
 have hs : (⟨t.toArray⟩ : ByteArray).size = t.length := by show t.toArray.size = _; simp
 have hg : ∀ i, (⟨t.toArray⟩ : ByteArray).data.toList.getD i 0 = t.getD i 0 := fun i => by simp
 have S := Same.refl w; have eqv : ∀ a b : UInt8, ((a.toNat : Int) = (b.toNat : Int)) ↔ a = b := fun a b => ⟨fun h => UInt8.toNat_inj.1 (by omega), fun h => by rw [h]⟩; unfold four at k
 repeat (first | refine r_lns ?_ | refine r_geq ?_ | (refine r_dr H ?_; clear H; intro _ S_ H; replace S := S.trans S_; clear S_))
 rw [hs]; refine r_ifD (fun h => ?_) fun h => k _ _ S H ⟨fun e => (by cases e), fun hf => by omega⟩; refine r_ixs (by omega) (by rw [hs]; omega) ?_; refine r_ixs (by omega) (by rw [hs]; omega) ?_; rw [hg, hg]; refine r_eql (r_ifE (fun h1 => ?_) fun h1 => k _ _ S H ⟨fun e => (by cases e), fun hf => absurd ((eqv _ _).2 hf.2.1) h1⟩); refine r_ixs (by omega) (by rw [hs]; omega) ?_; refine r_ixs (by omega) (by rw [hs]; omega) ?_; rw [hg, hg]; refine r_eql (r_ifE (fun h2 => ?_) fun h2 => k _ _ S H ⟨fun e => (by cases e), fun hf => absurd ((eqv _ _).2 hf.2.2.1) h2⟩); refine r_ixs (by omega) (by rw [hs]; omega) ?_; refine r_ixs (by omega) (by rw [hs]; omega) ?_; rw [hg, hg]; refine r_eql ?_; refine k _ _ S H ⟨fun e => ⟨by omega, (eqv _ _).1 h1, (eqv _ _).1 h2, (eqv _ _).1 (by simpa using e)⟩, fun hf => ?_⟩; have := (eqv _ _).2 hf.2.2.2; simpa using this
def sz : Value → Nat
 | .string b => b.size
 | _ => 0
theorem Decode_spec {t : List UInt8} (H : Holds w L) (ht : t.length ≤ 1000000)
   (kb : rle t = none → ∀ e w', e ≠ 0 → Same w w' → Holds w' L → K (.tuple #[S_ [], iv e]) w')
   (k : ∀ s, rle t = some s → ∀ w', Same w w' → Holds w' L → K (.tuple #[S_ s, iv 0]) w') : Cl Tryz.prog F.balerref03_Decode #[S_ t] w K := by
 refine Tie.balerref03_Decode ?_; unfold Vcf.balerref03_Decode
 refine r_loop2 (fun s o w' => ∃ rest out : List UInt8, s = S_ rest ∧ o = S_ out ∧ rest.length ≤ t.length ∧ out.length + 255 * rest.length ≤ 255 * t.length ∧ rleA out 0 0 rest = rle t ∧ Same w w' ∧ Holds w' L) (fun s _ _ => sz s)
   ⟨t, [], rfl, rfl, Nat.le_refl _, by simp, rfl, .refl w, H⟩ ?_
 clear H; rintro _ _ _ w2 ⟨rest, out, rfl, rfl, hr, ho, hrle, S, H⟩
 have hs : ∀ l : List UInt8, (⟨l.toArray⟩ : ByteArray).size = l.length := fun l => by show l.toArray.size = _; simp
 have hl : ∀ l : List UInt8, (⟨l.toArray⟩ : ByteArray).data.toList = l := fun l => by simp
 refine r_lns ?_; rw [hs]; refine r_gtr ?_; refine r_ifD (fun h0 => ?_) fun h0 => ?_
 · refine four_spec H fun b w3 S3 H3 hb => ?_; replace S := S.trans S3; clear H S3; refine r_not ?_; refine r_vif (fun hn => ?_) fun hn => ?_
   · have hn4 : ¬ four rest := fun hf => by rw [hb.2 hf] at hn; cases hn
     cases rest with
     | nil => simp at h0
     | cons a r =>
       rw [List.length_cons] at hr ho h0; refine r_sstT (m := 1) (by rw [hs, List.length_cons]; omega) ?_; rw [hl]; refine r_catL (by simp; omega) ?_; refine r_sstD (m := 1) (by rw [hs, List.length_cons]; omega) ?_; rw [hl]; refine r_ke ?_; refine ⟨⟨r, out ++ [a], rfl, rfl, by omega, by rw [List.length_append, List.length_singleton]; omega, by rw [← rleA_step hn4]; exact hrle, S, H3⟩, ?_⟩; show (⟨r.toArray⟩ : ByteArray).size < (⟨(a :: r).toArray⟩ : ByteArray).size; rw [hs, hs, List.length_cons]; omega
   · have h4 : four rest := hb.1 (by simpa using hn); obtain ⟨a, r, rfl⟩ := four_form h4; simp only [List.length_cons] at hr ho h0; refine r_lns ?_; rw [hs]; refine r_eql (r_ifE (fun h5 => ?_) fun h5 => ?_)
     · simp only [List.length_cons] at h5; obtain rfl : r = [] := List.eq_nil_of_length_eq_zero (by omega); rw [rleA_end] at hrle; exact kb hrle.symm 24 _ (by omega) S H3
     · simp only [List.length_cons] at h5
       cases r with
       | nil => simp at h5
       | cons c r =>
         simp only [List.length_cons] at hr ho h0; have hc := c.toNat_lt; refine r_ixs (n := 4) (by omega) (by rw [hs]; simp only [List.length_cons]; omega) ?_; rw [hl]; refine r_gtr ?_; have e4 : (a :: a :: a :: a :: c :: r).getD (4 : Int).toNat 0 = c := rfl; rw [e4]; refine r_ifD (fun h6 => ?_) fun h6 => ?_
         · rw [rleA_bad _ _ _ _ _ (by omega)] at hrle; exact kb hrle.symm 25 _ (by omega) S H3
         · rw [rleA_run _ _ _ _ _ (by omega)] at hrle; refine r_ixs (n := 4) (by omega) (by rw [hs]; simp only [List.length_cons]; omega) ?_; rw [hl, e4]; refine r_ci64 (by omega) (by omega) ?_; refine r_add (by omega) (by omega) ?_; refine r_loop2 (fun o x w' => ∃ j : Nat, j ≤ 4 + c.toNat ∧ x = nv j ∧ o = S_ (out ++ List.replicate j a) ∧ w3 = w') (fun _ x _ => 4 + c.toNat - (RowKit.intOf x).toNat) ⟨0, by omega, rfl, by rw [List.replicate_zero, List.append_nil], rfl⟩ ?_; rintro _ _ _ _ ⟨j, hj, rfl, rfl, rfl⟩; refine r_lss ?_; refine r_ifD (fun h7 => ?_) fun h7 => ?_
           · refine r_sstT (m := 1) (by rw [hs]; simp) ?_; rw [hl]; refine r_catL (by simp; omega) ?_
             repeat (first | refine r_ke ?_ | (refine r_add1N (by omega) ?_))
             refine ⟨⟨j + 1, by omega, rfl, ?_, rfl⟩, ?_⟩
             · rw [List.replicate_succ', ← List.append_assoc]; rfl
             · simp [nv, RowKit.intOf]; omega
           · obtain rfl : j = 4 + c.toNat := by omega
             refine r_sstD (m := 5) (by rw [hs]; simp) ?_; rw [hl]; refine r_ke ?_; refine ⟨⟨r, _, rfl, rfl, by omega, by rw [List.length_append, List.length_replicate]; omega, hrle, S, H3⟩, ?_⟩; show (⟨r.toArray⟩ : ByteArray).size < (⟨(a :: a :: a :: a :: c :: r).toArray⟩ : ByteArray).size; rw [hs, hs]; simp only [List.length_cons]; omega
 · obtain rfl : rest = [] := List.eq_nil_of_length_eq_zero (by omega)
   have e : rleA out 0 0 [] = some out := by simp [rleA]
   rw [e] at hrle; exact k out hrle.symm _ S H
abbrev gotV (l : List UInt8) (o s : Int) : List Value := [S_ l, iv o, .int .u32 s]
abbrev tG : Nat := 40
abbrev tH : Nat := 49
theorem ROpen_spec {l : List UInt8} {o s : Int} (H : Holds w L) (hl : l.length ≤ 900000) (k : ∀ w', Same w w' → Holds w' L → K (.tuple #[S_ (opn l o s).1, iv (opn l o s).2]) w') : Cl Tryz.prog F.balerref20_Open #[.agg (gotV l o s).toArray] w K := by
 refine Tie.balerref20_Open ?_; unfold Vcf.balerref20_Open; refine r_new H fun b w1 S1 H1 => ?_; replace H1 : Holds w1 (blk b tH (gotV l o s) :: L) := H1; clear H; have H := H1; clear H1
 have hs : (⟨l.toArray⟩ : ByteArray).size = l.length := by show l.toArray.size = _; simp
 have hd : (⟨l.toArray⟩ : ByteArray).data.toList = l := by simp
 repeat (first | refine r_fo0 ?_ | refine r_seq0 ?_ | refine r_ld 0 H rfl rfl ?_)
 rw [hs]; refine r_ifD (fun h => ?_) fun h => ?_
 · have := k w1 S1 H.drop; rw [show opn l o s = ([], 1) by unfold opn; rw [if_pos h]] at this; exact this
 refine r_join1 (fun x w' => w1 = w' ∧ x = .bool (decide (o < 0 ∨ (l.length : Int) ≤ o))) ?_ ?_
 rotate_left
 · repeat (first | refine r_fo0 ?_ | refine r_lss ?_ | refine r_ld 0 H rfl rfl ?_)
   refine r_ifD (fun h2 => r_ke ⟨rfl, by rw [decide_eq_true (.inl h2)]⟩) fun h2 => ?_
   repeat (first | refine r_fo0 ?_ | refine r_ke ?_ | refine r_lns ?_ | refine r_geq ?_ | refine r_ld 0 H rfl rfl ?_)
   rw [hs]; refine ⟨rfl, ?_⟩
   congr 1
   rw [Bool.eq_iff_iff, decide_eq_true_iff, decide_eq_true_iff]; omega
 rintro _ _ _ ⟨rfl, rfl⟩; refine r_ifD (fun h2 => ?_) fun h2 => ?_
 · have := k w1 S1 H.drop; rw [show opn l o s = ([], 23) by unfold opn; rw [if_neg h, if_pos h2]] at this; exact this
 obtain ⟨n, rfl⟩ : ∃ n : Nat, o = n := ⟨o.toNat, by omega⟩
 have e0 : opn l (n : Int) s = opnR s (rle (text l n)) := by
   unfold opn; rw [if_neg (by omega), if_neg (by omega), Int.toNat_natCast]
 rw [e0] at k; have tl := text_len l n
 repeat (first | refine r_fo0 ?_ | refine r_ld 0 H rfl rfl ?_)
 refine U18.ROf_spec (s := ⟨l.toArray⟩) H (by omega) (by omega) fun w2 S2 H2 => ?_; rw [hd]; have S := S1.trans S2; clear H S1 S2; refine Decode_spec H2 (by omega) (fun hr e w3 he S3 H3 => ?_) fun t hr w3 S3 H3 => ?_
 · rw [hr] at k; simp only [opnR] at k
   repeat (first | refine r_neq ?_ | (with_reducible refine r_ex20 ?_) | (with_reducible refine r_ex21 ?_) | ((with_reducible refine r_vtN ?h ?_); (case h => omega)))
   exact k _ (S.trans S3) H3.drop
 · rw [hr] at k; simp only [opnR] at k; have htl := rleA_len _ _ _ _ _ hr; rw [tl] at htl; replace S := S.trans S3; clear H2 S3; have H := H3; clear H3
   repeat (first | refine r_neq ?_ | (with_reducible refine r_ex20 ?_) | (with_reducible refine r_ex21 ?_) | (refine r_dr H ?_; clear H; intro _ S_ H; replace S := S.trans S_; clear S_) | ((with_reducible refine r_vfN ?h ?_); (case h => omega)))
   refine ROf_spec (by simp at htl; omega) ?_
   repeat (first | refine r_rk (r_ld 0 H rfl rfl rfl) ?_ | refine r_fo0 ?_ | refine r_neq ?_ | refine r_ld 0 H rfl rfl ?_)
   refine r_ifN (fun h => ?_) fun h => ?_
   · have := k _ S H.drop; rw [if_neg h] at this
     repeat (fail)
     exact this
   · have := k _ S H.drop; rw [if_pos h] at this
     repeat (fail)
     exact this
end O20
namespace U22
open Go.M01 Go.Mb Go.Mp Go.M10 Go.Mc Go.Mz Go.Mk Go.Q20 Go.M02 Go.M03 Go.M20 Go.Q24 Go.Q25 Rb
variable {w : World} {L : List HProp} {K : Value → World → Prop} {b r : Nat} {B : List UInt8} {d at_ : Nat} {u : US}
def outT : TOut → List UInt8
 | .bad _ => []
 | .got t => t
def outE : TOut → Nat
 | .bad e => e
 | .got _ => 0
def lastN (w : World) (b : Nat) : Nat := match w.cell? ⟨b, 4, none⟩ with
 | some (.pointer (some a)) => B20.cellN w a.block 5
 | _ => 0
def mea (w : World) (b r len : Nat) : Nat :=
 (8 * len - B20.cellN w r 2) * 1000003 + (match w.cell? ⟨b, 1, none⟩ with | some (.int _ n) => if n = 2 then 1000001 - lastN w b else 0 | _ => 0)
end U22
namespace P20
open Go.M01 Go.Mb Go.Mp Go.M10 Go.Mc Go.Mz Go.Mk Go.Q20 Go.Q21 Go.Q22
abbrev S_ (B : List UInt8) : Value := .string ⟨B.toArray⟩
abbrev pt (b : Nat) : Value := .pointer (some ⟨b, 0, none⟩)
abbrev tB : Nat := 5
abbrev tI : Nat := 3
variable {w : World} {L : List HProp} {K : Value → World → Prop}
theorem sz (t : List UInt8) : (⟨t.toArray⟩ : ByteArray).size = t.length := by show t.toArray.size = _; simp
theorem dl (t : List UInt8) : (⟨t.toArray⟩ : ByteArray).data.toList = t := by simp
theorem q_len {t : List UInt8} {K : Value → Prop} (h : K (nv t.length)) : Lns (S_ t) K := r_lns (by rw [sz]; exact h)
theorem q_ix {t : List UInt8} {k : IntKind} {m : Nat} {K : Value → Prop} (h1 : m < t.length) (h : K (bv (t.getD m 0))) : Ixs (S_ t) (.int k (m : Int)) K := r_ixsN (by rw [sz]; exact h1) (by rw [dl]; exact h)
theorem q_T {t : List UInt8} {k : IntKind} {m : Nat} {K : Value → Prop} (h1 : m ≤ t.length) (h : K (S_ (t.take m))) : Sst (S_ t) none (some (.int k (m : Int))) K := r_sstT (by rw [sz]; exact h1) (by rw [dl]; exact h)
theorem q_D {t : List UInt8} {k : IntKind} {m : Nat} {K : Value → Prop} (h1 : m ≤ t.length) (h : K (S_ (t.drop m))) : Sst (S_ t) (some (.int k (m : Int))) none K := r_sstD (by rw [sz]; exact h1) (by rw [dl]; exact h)
theorem ext_ {t : List UInt8} {a b : Nat} : (⟨t.toArray⟩ : ByteArray).extract a b = ⟨((t.take b).drop a).toArray⟩ := by
 apply ByteArray.ext; rw [ByteArray.data_extract]; simp [List.drop_take]
theorem q_M {t : List UInt8} {k k' : IntKind} {a b : Nat} {K : Value → Prop} (h1 : a ≤ b) (h2 : b ≤ t.length) (h : K (S_ ((t.take b).drop a))) : Sst (S_ t) (some (.int k (a : Int))) (some (.int k' (b : Int))) K :=
 r_sst ⟨k, rfl⟩ ⟨k', rfl⟩ h1 (by rw [sz]; exact h2) (by rw [ext_]; exact h)
theorem q_1 {t : List UInt8} {k k' : IntKind} {m : Nat} {K : Value → Prop} (h1 : m < t.length) (h : K (S_ [t.getD m 0])) : Sst (S_ t) (some (.int k (m : Int))) (some (.int k' ((m + 1 : Nat) : Int))) K :=
 r_sst1 (by rw [sz]; exact h1) (by rw [dl]; exact h)
theorem q_str (H : Holds w L) (c : UInt8) {t e d : TypeId} {z : Value} [hr : Row Tryz.prog t e z] [hb : Bytes Tryz.prog t e d] (h : ∀ w', Same w w' → Holds w' L → K (S_ [c]) w') : Bs Tryz.prog t 1 #[(0, bv c)] w fun y w2 => Cw Tryz.prog t d y w2 K := by
 refine r_bs1 H (by rfl) fun b w2 S2 H2 => ?_; refine r_cbs (xs := [c]) (sp := []) (oa := some ⟨b, 0, none⟩) ((H2.imp fun h hh => (⟨rfl, rfl, hh⟩ : (slb bv e (some ⟨b, 0, none⟩) [c] []) h))) 0 rfl rfl ?_; exact h w2 S2 H2.drop
theorem txt_at {l : List Bool} {m : Nat} (h : m < l.length) : (txt l).getD m 0 = chr (l.getD m false) := txt_getD l m h
theorem q_rem {k : IntKind} {s t : Nat} {K : Value → Prop} (ht : t ≠ 0) (h : K (.int k ((s % t : Nat) : Int))) : Bp .rem (.int k (s : Int)) (.int k (t : Int)) K :=
 r_bp (v := .int k ((s % t : Nat) : Int)) (by simp only [bp]; rw [if_pos ⟨trivial, by omega⟩, Int.tmod_eq_emod_of_nonneg (by omega)]; rfl) h
theorem q_quoU32 {s t : Nat} {K : Value → Prop} (hs : s < 4294967296) (ht : t ≠ 0) (h : K (uv (s / t))) : Bp .quo (uv s) (uv t) K :=
 r_bp (v := uv (s / t)) (by
   have h1 : s / t ≤ s := Nat.div_le_self _ _; simp only [bp]; rw [if_pos ⟨trivial, by omega⟩, Int.tdiv_eq_ediv_of_nonneg (by omega), wrapU32 (Int.ediv_nonneg (by omega) (by omega)) (by rw [← Int.natCast_ediv]; omega)]
   rfl) h
theorem Field_spec {v n : Nat} (hn : n ≤ 64) (hv : v < 4294967296) (k : K (S_ (txt (bitsOf v n))) w) : Cl Tryz.prog F.balerref01_Field #[uv v, nv n] w K := by
 refine Tie.balerref01_Field ?_; unfold Vcf.balerref01_Field; refine r_loop3 (fun x s i w' => ∃ j : Nat, j ≤ n ∧ i = nv j ∧ x = uv (v / 2 ^ j) ∧ s = S_ (txt (bitsOf v j)) ∧ w = w') (fun _ _ i _ => n - (RowKit.intOf i).toNat) ⟨0, by omega, rfl, by simp, rfl, rfl⟩ ?_; rintro _ _ _ _ _ ⟨j, hj, rfl, rfl, rfl, rfl⟩; have hd : v / 2 ^ j < 4294967296 := Nat.lt_of_le_of_lt (Nat.div_le_self _ _) hv
 repeat (refine r_lss ?_)
 refine r_ifD (fun h => ?_) fun h => ?_
 · have h2 : v / 2 ^ j % 2 = (v.testBit j).toNat := by have := bit_at v j; rwa [Nat.and_one_is_mod] at this
   have hb := Bool.toNat_le (v.testBit j); refine q_rem (t := 2) (by decide) (q_rem (t := 2) (by decide) ?_); rw [h2]; refine r_addU32 (t := 1) (by omega) ?_; refine q_1 (t := [48, 49]) (by simp; omega) ?_
   have e : [48, 49].getD (v.testBit j).toNat 0 = chr (v.testBit j) := by cases v.testBit j <;> rfl
   rw [e]; refine r_catL (by simp [txt_len, bitsOf_len]; omega) ?_; refine q_quoU32 (t := 2) hd (by decide) ?_
   repeat (first | refine r_ke ?_ | (refine r_add1N (by omega) ?_))
   refine ⟨⟨j + 1, by omega, rfl, by rw [Nat.div_div_eq_div_mul, Nat.pow_succ], by rw [bitsOf_succ]; rfl, rfl⟩, ?_⟩; simp [nv, RowKit.intOf]; omega
 · obtain rfl : j = n := by omega
   exact k
theorem Bits_spec {s : List UInt8} (hs : s.length ≤ 1000000) (k : K (S_ (txt (bitsL s))) w) : Cl Tryz.prog F.balerref01_Bits #[S_ s] w K := by
 refine Tie.balerref01_Bits ?_; unfold Vcf.balerref01_Bits; refine r_loop2 (fun o i w' => ∃ j : Nat, j ≤ s.length ∧ i = nv j ∧ o = S_ (txt (bitsL (s.take j))) ∧ w = w') (fun _ i _ => s.length - (RowKit.intOf i).toNat) ⟨0, by omega, rfl, rfl, rfl⟩ ?_; rintro _ _ _ _ ⟨j, hj, rfl, rfl, rfl⟩; refine q_len ?_
 repeat (refine r_lss ?_)
 refine r_ifD (fun h => ?_) fun h => ?_
 · have hlt : j < s.length := by omega
   refine q_ix hlt ?_; have hc := (s.getD j 0).toNat_lt
   repeat (refine r_ciu32 (by omega) (by omega) ?_)
   refine Field_spec (n := 8) (by decide) (by omega) ?_; refine r_catL (by have := bitsL_len (s.take j); simp [txt_len, bitsOf_len, this]; omega) ?_
   repeat (first | refine r_ke ?_ | (refine r_add1N (by omega) ?_))
   refine ⟨⟨j + 1, by omega, rfl, ?_, rfl⟩, ?_⟩
   · have hg : s[j]? = some (s.getD j 0) := by rw [List.getD_eq_getElem?_getD, List.getElem?_eq_getElem hlt]; rfl
     rw [take_snoc hg, bitsL_app, txt_app]; simp [bitsL]
   · simp [nv, RowKit.intOf]; omega
 · obtain rfl : j = s.length := by omega
   rw [List.take_length]; exact k
theorem Number_spec {l : List Bool} (hl : l.length ≤ 32) (k : K (uv (valB l)) w) : Cl Tryz.prog F.balerref01_Number #[S_ (txt l)] w K := by
 refine Tie.balerref01_Number ?_; unfold Vcf.balerref01_Number; refine r_loop2 (fun x i w' => ∃ j : Nat, j ≤ l.length ∧ i = nv j ∧ x = uv (valB (l.take j)) ∧ w = w') (fun _ i _ => l.length - (RowKit.intOf i).toNat) ⟨0, by omega, rfl, rfl, rfl⟩ ?_; rintro _ _ _ _ ⟨j, hj, rfl, rfl, rfl⟩; refine q_len ?_; rw [txt_len]
 repeat (refine r_lss ?_)
 refine r_ifD (fun h => ?_) fun h => ?_
 · have hlt : j < l.length := by omega
   have hv := valB_take_lt l j; have hp : (2 : Nat) ^ j ≤ 2 ^ 31 := Nat.pow_le_pow_right (by omega) (by omega); have hx := valB_take_succ hlt; have hx2 := valB_take_lt l (j + 1); have hp2 : (2 : Nat) ^ (j + 1) ≤ 2 ^ 32 := Nat.pow_le_pow_right (by omega) (by omega); refine r_mulU32 (s := 2) (by omega) ?_; refine q_ix (by rw [txt_len]; exact hlt) ?_; rw [txt_at hlt]
   have ec : (chr (l.getD j false)).toNat = 48 + (l.getD j false).toNat := by cases l.getD j false <;> rfl
   rw [show bv (chr (l.getD j false)) = .int .u8 ((48 + (l.getD j false).toNat : Nat) : Int) by rw [← ec]]; have hb := Bool.toNat_le (l.getD j false); refine r_subU8 (t := 48) (by omega) (by omega) ?_; rw [Nat.add_sub_cancel_left]; refine r_ciu32 (by omega) (by omega) ?_; refine r_addU32 (by omega) ?_; rw [← hx]
   repeat (first | refine r_ke ?_ | (refine r_add1N (by omega) ?_))
   refine ⟨⟨j + 1, by omega, rfl, rfl, rfl⟩, ?_⟩; simp [nv, RowKit.intOf]; omega
 · obtain rfl : j = l.length := by omega
   rw [List.take_length]; exact k
theorem There_spec {s : List UInt8} {b : Nat} (hs : s.length ≤ 1000000) (hb : b < 256) (k : K (.bool (decide (UInt8.ofNat b ∈ s))) w) : Cl Tryz.prog F.balerref05_There #[S_ s, nv b] w K := by
 refine Tie.balerref05_There ?_; unfold Vcf.balerref05_There; refine r_loop1 (fun i w' => ∃ j : Nat, j ≤ s.length ∧ i = nv j ∧ UInt8.ofNat b ∉ s.take j ∧ w = w') (fun i _ => s.length - (RowKit.intOf i).toNat) ⟨0, by omega, rfl, by simp, rfl⟩ ?_; rintro _ _ _ ⟨j, hj, rfl, hno, rfl⟩; refine q_len ?_
 repeat (refine r_lss ?_)
 refine r_ifD (fun h => ?_) fun h => ?_
 · have hlt : j < s.length := by omega
   have hg : s[j]? = some (s.getD j 0) := by rw [List.getD_eq_getElem?_getD, List.getElem?_eq_getElem hlt]; rfl
   refine q_ix hlt ?_; have hc := (s.getD j 0).toNat_lt
   repeat (first | refine r_eql ?_ | (refine r_ci64 (by omega) (by omega) ?_))
   refine r_ifE (fun h2 => ?_) fun h2 => ?_
   · have hm : UInt8.ofNat b ∈ s := by
       have : s.getD j 0 = UInt8.ofNat b := by
         apply UInt8.toNat_inj.1; rw [UInt8.toNat_ofNat_of_lt' (by simpa using hb)]; omega
       rw [← this]; exact List.mem_of_getElem? hg
     rw [decide_eq_true hm] at k; exact k
   · repeat (first | refine r_ke ?_ | (refine r_add1N (by omega) ?_))
     refine ⟨⟨j + 1, by omega, rfl, ?_, rfl⟩, ?_⟩
     · rw [take_snoc hg]; intro hm; rcases List.mem_append.1 hm with h3 | h3
       · exact hno h3
       · rw [List.mem_singleton] at h3; have := congrArg UInt8.toNat h3; rw [UInt8.toNat_ofNat_of_lt' (by simpa using hb)] at this; omega
     · simp [nv, RowKit.intOf]; omega
 · obtain rfl : j = s.length := by omega
   rw [List.take_length] at hno; rw [decide_eq_false hno] at k; exact k
theorem bv_nat {j : Nat} (h : j < 256) : (Value.int .u8 (j : Int)) = bv (UInt8.ofNat j) := by
 show _ = Value.int .u8 ((UInt8.ofNat j).toNat : Int); rw [UInt8.toNat_ofNat_of_lt' (by simpa using h)]
theorem Symbols_spec {s : List UInt8} (H : Holds w L) (hs : s.length ≤ 1000000) (k : ∀ w', Same w w' → Holds w' L → K (S_ (listed fun b => decide (UInt8.ofNat b ∈ s))) w') : Cl Tryz.prog F.balerref05_Symbols #[S_ s] w K := by
 refine Tie.balerref05_Symbols ?_; unfold Vcf.balerref05_Symbols; refine r_loop2 (fun o i w' => ∃ j : Nat, j ≤ 256 ∧ i = nv j ∧ o = S_ (below (fun b => decide (UInt8.ofNat b ∈ s)) j) ∧ Same w w' ∧ Holds w' L) (fun _ i _ => 256 - (RowKit.intOf i).toNat) ⟨0, by omega, rfl, rfl, .refl w, H⟩ ?_; clear H; rintro _ _ _ w1 ⟨j, hj, rfl, rfl, S, H⟩
 repeat (refine r_lss ?_)
 refine r_ifD (fun h => ?_) fun h => ?_
 · have hlt : j < 256 := by omega
   have hbl := below_len (fun b => decide (UInt8.ofNat b ∈ s)) j; refine There_spec hs hlt ?_; refine r_vif (fun h2 => ?_) fun h2 => ?_
   · repeat (refine r_ciu8 (by omega) (by omega) ?_)
     rw [bv_nat hlt]; refine q_str H (UInt8.ofNat j) fun w2 S2 H2 => ?_; refine r_catL (by simp; omega) ?_
     repeat (first | refine r_ke ?_ | (refine r_add1N (by omega) ?_))
     refine ⟨⟨j + 1, by omega, rfl, ?_, S.trans S2, H2⟩, ?_⟩
     · rw [below_succ, if_pos h2]
     · simp [nv, RowKit.intOf]; omega
   · repeat (first | refine r_ke ?_ | (refine r_add1N (by omega) ?_))
     refine ⟨⟨j + 1, by omega, rfl, ?_, S, H⟩, ?_⟩
     · rw [below_succ, if_neg (by rw [h2]; simp), List.append_nil]
     · simp [nv, RowKit.intOf]; omega
 · obtain rfl : j = 256 := by omega
   exact k _ S H
theorem Is_spec {T : Nat → Bool} (H : Holds w L) (hne : listed T ≠ []) (k : ∀ w', Same w w' → Holds w' L → K (.bool true) w') : Cl Tryz.prog F.balerref05_Is #[S_ (listed T)] w K := by
 refine Tie.balerref05_Is ?_; unfold Vcf.balerref05_Is; have hl := listed_len T; have h0 : 0 < (listed T).length := List.length_pos_iff.2 hne; refine q_len ?_
 repeat (first | refine r_gtr ?_ | ((with_reducible refine r_vtD ?h ?_); (case h => omega)))
 refine Symbols_spec H (by omega) fun w2 S2 H2 => ?_; rw [listed_listed]; refine r_seqL ?_; rw [decide_eq_true rfl]; exact k _ S2 H2
theorem Touch_spec {o : List UInt8} {i : Nat} (H : Holds w L) (ho : o.length ≤ 1000000) (hi : i < o.length) (k : ∀ w', Same w w' → Holds w' L → K (S_ (frontB o i)) w') : Cl Tryz.prog F.balerref06_Touch #[S_ o, nv i] w K := by
 refine Tie.balerref06_Touch ?_; unfold Vcf.balerref06_Touch; have S := Same.refl w
 repeat (first | (refine r_add1N (by omega) ?_) | (refine r_dr H ?_; clear H; intro _ S_ H; replace S := S.trans S_; clear S_))
 refine q_1 hi ?_; refine q_T (by omega) ?_; refine r_catL (by simp; omega) ?_
 repeat (refine r_add1N (by omega) ?_)
 refine q_D (by omega) ?_; refine r_catL (by simp; omega) ?_; exact k _ S H
theorem Decode6_spec {T : Nat → Bool} {v : Value} {pl : List Nat} (H : Holds w (SL nv tI v pl :: L)) (hne : listed T ≠ []) (hp : ∀ p ∈ pl, p < (listed T).length) (hpl : pl.length ≤ 1000000)
   (k : ∀ w', Same w w' → Holds w' (SL nv tI v pl :: L) → K (.tuple #[S_ (mall (listed T) pl).2, iv 0]) w') : Cl Tryz.prog F.balerref06_Decode #[v, S_ (listed T)] w K := by
 refine Tie.balerref06_Decode ?_; unfold Vcf.balerref06_Decode; have hl := listed_len T; refine Is_spec H hne fun w1 S1 H1 => ?_; refine r_notT (r_vf ?_); refine r_lnS 0 H1 rfl ?_
 refine r_loop3 (fun o q i w' => ∃ j : Nat, j ≤ pl.length ∧ i = nv j ∧ o = S_ (mall (listed T) (pl.take j)).2 ∧ q = S_ (mall (listed T) (pl.take j)).1 ∧ Same w w' ∧ Holds w' (SL nv tI v pl :: L)) (fun _ _ i _ => pl.length - (RowKit.intOf i).toNat)
   ⟨0, by omega, rfl, rfl, rfl, S1, H1⟩ ?_
 clear H H1 S1; rintro _ _ _ _ w1 ⟨j, hj, rfl, rfl, rfl, S, H⟩
 repeat (refine r_lss ?_)
 have hm := mall_len (o := listed T) (pl.take j) (fun p h => hp p (List.mem_of_mem_take h)); refine r_ifD (fun h => ?_) fun h => ?_
 · have hlt : j < pl.length := by omega
   obtain ⟨p, hg⟩ : ∃ p, pl[j]? = some p := ⟨_, List.getElem?_eq_getElem hlt⟩; have hpl := hp p (List.mem_of_getElem? hg); refine r_getS 0 H rfl hg ?_
   have e : (mall (listed T) (pl.take (j + 1))) = mstep (mall (listed T) (pl.take j)) p := by rw [take_snoc hg, mall_snoc]
   generalize mall (listed T) (pl.take j) = x at *; obtain ⟨q, out⟩ := x; simp only at hm ⊢
   have ho : out.length = j := by rw [hm.2, List.length_take]; omega
   refine r_join1 (fun y w' => w1 = w' ∧ y = .bool false) ?_ ?_
   · rintro _ _ _ ⟨rfl, rfl⟩; refine r_vf ?_
     repeat (refine r_add1N (by omega) ?_)
     refine q_1 (by omega) ?_; refine r_catL (by simp; omega) ?_; refine Touch_spec H (by omega) (by omega) fun w2 S2 H2 => ?_
     repeat (first | refine r_ke ?_ | (refine r_add1N (by omega) ?_))
     refine ⟨⟨j + 1, by omega, rfl, by rw [e]; rfl, by rw [e]; rfl, S.trans S2, H2⟩, ?_⟩; simp [nv, RowKit.intOf]; omega
   · repeat (first | refine r_ke ?_ | refine r_lns ?_ | refine r_lss ?_ | refine r_geq ?_ | ((with_reducible refine r_vfD ?h ?_); (case h => omega)))
     exact ⟨rfl, by rw [sz, decide_eq_false (by omega)]⟩
 · obtain rfl : j = pl.length := by omega
   rw [List.take_length]; exact k _ S H
end P20
namespace P20
open Go.M01 Go.Mb Go.Mp Go.M10 Go.Mc Go.Mz Go.Mk Go.Q20 Go.Q21 Go.Q22
variable {w : World} {L : List HProp} {K : Value → World → Prop}
theorem share_snoc (t : List Nat) (x : Nat) : share (t ++ [x]) = share t + 2 ^ (20 - x) := by simp [share]
theorem share_le : ∀ t : List Nat, Sized t → share t ≤ t.length * 524288 := by
 intro t; refine snocRec (motive := fun t => Sized t → share t ≤ t.length * 524288) t (fun _ => by simp [share]) fun t x ih h => ?_; have h1 := ih fun y hy => h y (List.mem_append_left _ hy); have h2 := h x (by simp); rw [share_snoc, List.length_append, List.length_singleton, Nat.add_mul]; have h3 : 2 ^ (20 - x) ≤ 2 ^ 19 := Nat.pow_le_pow_right (by omega) (by omega); omega
theorem May_spec {v : Value} {lens : List Nat} (H : Holds w (SL nv tI v lens :: L)) (hs : Sized lens) (hl : lens.length ≤ 1000) (k : K (.bool true) w) : Cl Tryz.prog F.balerref09_May #[v, iv 1, iv 20] w K := by
 refine Tie.balerref09_May ?_; unfold Vcf.balerref09_May; refine r_lnS 0 H rfl ?_; refine r_loop1 (fun i w' => ∃ j : Nat, j ≤ lens.length ∧ i = nv j ∧ w = w') (fun i _ => lens.length - (RowKit.intOf i).toNat) ⟨0, by omega, rfl, rfl⟩ ?_; rintro _ _ _ ⟨j, hj, rfl, rfl⟩
 repeat (refine r_lss ?_)
 refine r_ifD (fun h => ?_) fun h => ?_
 · have hlt : j < lens.length := by omega
   obtain ⟨x, hg⟩ : ∃ x, lens[j]? = some x := ⟨_, List.getElem?_eq_getElem hlt⟩; have hx := hs x (List.mem_of_getElem? hg); refine r_getS 0 H rfl hg ?_; refine r_join1 (fun y w' => w = w' ∧ y = .bool false) ?_ ?_
   · rintro _ _ _ ⟨rfl, rfl⟩; refine r_vf ?_
     repeat (first | refine r_ke ?_ | (refine r_add1N (by omega) ?_))
     refine ⟨⟨j + 1, by omega, rfl, (by trivial)⟩, ?_⟩; simp [nv, RowKit.intOf]; omega
   · repeat (first | refine r_ke ?_ | refine r_lss ?_ | refine r_gtr ?_ | ((with_reducible refine r_vfD ?h ?_); (case h => omega)))
     exact ⟨rfl, by rw [decide_eq_false (by omega)]⟩
 · exact k
theorem Share_spec {v : Value} {lens : List Nat} (H : Holds w (SL nv tI v lens :: L)) (hs : Sized lens) (hl : lens.length ≤ 1000) (k : K (nv (share lens)) w) : Cl Tryz.prog F.balerref09_Share #[v] w K := by
 refine Tie.balerref09_Share ?_; unfold Vcf.balerref09_Share; refine r_lnS 0 H rfl ?_; refine r_loop2 (fun n i w' => ∃ j : Nat, j ≤ lens.length ∧ i = nv j ∧ n = nv (share (lens.take j)) ∧ w = w') (fun _ i _ => lens.length - (RowKit.intOf i).toNat) ⟨0, by omega, rfl, rfl, rfl⟩ ?_; rintro _ _ _ _ ⟨j, hj, rfl, rfl, rfl⟩
 repeat (refine r_lss ?_)
 refine r_ifD (fun h => ?_) fun h => ?_
 · have hlt : j < lens.length := by omega
   obtain ⟨x, hg⟩ : ∃ x, lens[j]? = some x := ⟨_, List.getElem?_eq_getElem hlt⟩; have hx := hs x (List.mem_of_getElem? hg); have hle := share_le (lens.take j) fun y hy => hs y (List.mem_of_mem_take hy); rw [List.length_take] at hle; refine r_getS 0 H rfl hg ?_
   repeat (refine r_sub (by omega) (by omega) ?_)
   refine r_loop2 (fun p i w' => ∃ m : Nat, m ≤ 20 - x ∧ i = nv m ∧ p = nv (2 ^ m) ∧ w = w') (fun _ i _ => 20 - x - (RowKit.intOf i).toNat) ⟨0, by omega, rfl, rfl, rfl⟩ ?_; rintro _ _ _ _ ⟨m, hm, rfl, rfl, rfl⟩; have hp : 2 ^ m ≤ 2 ^ 19 := Nat.pow_le_pow_right (by omega) (by omega); have hp2 := Nat.pow_succ 2 m; have hsn := share_snoc (lens.take j) x; rw [← take_snoc hg] at hsn; refine r_lss (r_ifD (fun h2 => ?_) fun h2 => ?_)
   · generalize 2 ^ m = q at *
     repeat (first | refine r_ke ?_ | (refine r_add1N (by omega) ?_) | (refine r_mul (by omega) (by omega) ?_))
     refine ⟨⟨m + 1, by omega, rfl, by rw [hp2]; simp; omega, (by trivial)⟩, ?_⟩; simp [nv, RowKit.intOf]; omega
   · have : m = 20 - x := by omega
     rw [← this] at hsn; generalize 2 ^ m = q at *
     repeat (first | refine r_ke ?_ | (refine r_add1N (by omega) ?_) | (refine r_addN (by omega) ?_))
     refine ⟨⟨j + 1, by omega, rfl, by rw [hsn], (by trivial)⟩, ?_⟩; simp [nv, RowKit.intOf]; omega
 · obtain rfl : j = lens.length := by omega
   rw [List.take_length]; exact k
theorem Whole_spec {v : Value} {lens : List Nat} (H : Holds w (SL nv tI v lens :: L)) (hs : Sized lens) (hl : lens.length ≤ 1000) (k : K (.bool (decide (share lens = 1048576))) w) : Cl Tryz.prog F.balerref10_Whole #[v] w K := by
 refine Tie.balerref10_Whole ?_; unfold Vcf.balerref10_Whole; refine May_spec H hs hl ?_; refine r_vt ?_; refine Share_spec H hs hl ?_; refine r_eql ?_
 have e : (((share lens : Nat) : Int) == 1048576) = decide (share lens = 1048576) := by rw [Bool.eq_iff_iff, beq_iff_eq, decide_eq_true_iff]; omega
 rw [e]; exact k
def szV : Value → Nat
 | .string b => b.size
 | _ => 0
theorem szV_S (t : List UInt8) : szV (S_ t) = t.length := sz t
theorem next_spec {code : List Bool} {n : Nat} (hc : code.length ≤ 1000) (hn : n ≤ 1000) (k : K (S_ (txt ((inc code).1 ++ List.replicate (n - code.length) false))) w) : Cl Tryz.prog F.balerref10_next #[S_ (txt code), nv n] w K := by
 refine Tie.balerref10_next ?_; unfold Vcf.balerref10_next; refine q_len ?_; rw [txt_len]
 repeat (refine r_sub (by omega) (by omega) ?_)
 refine r_loop3 (fun o c i w' => ∃ j : Nat, j ≤ code.length ∧ i = iv ((code.length : Int) - 1 - j) ∧ o = S_ (txt (inc (code.drop (code.length - j))).1) ∧ c = .bool (inc (code.drop (code.length - j))).2 ∧ w = w') (fun _ _ i _ => (RowKit.intOf i + 1).toNat)
   ⟨0, by omega, by simp, by simp [inc, txt], by simp [inc], rfl⟩ ?_
 rintro _ _ _ _ _ ⟨j, hj, rfl, rfl, rfl, rfl⟩; have hil := inc_len (code.drop (code.length - j)); rw [List.length_drop] at hil; refine r_geq (r_ifD (fun h => ?_) fun h => ?_)
 · have hlt : code.length - 1 - j < code.length := by omega
   rw [show (code.length : Int) - 1 - j = ((code.length - 1 - j : Nat) : Int) by omega]; refine q_ix (by rw [txt_len]; exact hlt) ?_; rw [txt_at hlt]
   have hg : code[code.length - 1 - j]? = some (code.getD (code.length - 1 - j) false) := by rw [List.getD_eq_getElem?_getD, List.getElem?_eq_getElem hlt]; rfl
   have hd : code.drop (code.length - (j + 1)) = code.getD (code.length - 1 - j) false :: code.drop (code.length - j) := by
     rw [show code.length - (j + 1) = code.length - 1 - j by omega, List.drop_eq_getElem_cons hlt, show code.length - 1 - j + 1 = code.length - j by omega]
     congr 1
     rw [List.getD_eq_getElem?_getD, List.getElem?_eq_getElem hlt]; rfl
   generalize code.getD (code.length - 1 - j) false = b at *; refine r_eql ?_
   have eb : (((chr b).toNat : Int) == 49) = b := by cases b <;> rfl
   rw [eb]
   have hinc : inc (code.drop (code.length - (j + 1))) = ((b != (inc (code.drop (code.length - j))).2) :: (inc (code.drop (code.length - j))).1, (inc (code.drop (code.length - j))).2 && b) := by rw [hd]; rfl
   generalize inc (code.drop (code.length - j)) = x at *; obtain ⟨o, c⟩ := x; simp only at hil hinc ⊢; refine r_join1 (fun y w' => w = w' ∧ y = S_ (txt ((b != c) :: o))) ?_ ?_
   · rintro _ _ _ ⟨rfl, rfl⟩; refine r_vif (fun h2 => ?_) fun h2 => ?_
     · subst h2
       repeat (first | refine r_ke ?_ | (refine r_sub (by omega) (by omega) ?_))
       refine ⟨⟨j + 1, by omega, ?_, by rw [hinc], by rw [hinc]; simp, (by trivial)⟩, ?_⟩
       · congr 1; omega
       · simp [RowKit.intOf]
     · subst h2
       repeat (first | refine r_ke ?_ | (refine r_sub (by omega) (by omega) ?_))
       refine ⟨⟨j + 1, by omega, ?_, by rw [hinc], by rw [hinc]; simp, (by trivial)⟩, ?_⟩
       · congr 1; omega
       · simp [RowKit.intOf]
   · refine r_bb ?_
     cases b <;> cases c
     · refine r_vf ?_; refine r_catL (xs := [48]) (by simp [txt_len]; omega) ?_
       repeat (refine r_ke ?_)
       exact ⟨rfl, rfl⟩
     · refine r_vt ?_; refine r_catL (xs := [49]) (by simp [txt_len]; omega) ?_
       repeat (refine r_ke ?_)
       exact ⟨rfl, rfl⟩
     · refine r_vt ?_; refine r_catL (xs := [49]) (by simp [txt_len]; omega) ?_
       repeat (refine r_ke ?_)
       exact ⟨rfl, rfl⟩
     · refine r_vf ?_; refine r_catL (xs := [48]) (by simp [txt_len]; omega) ?_
       repeat (refine r_ke ?_)
       exact ⟨rfl, rfl⟩
 · obtain rfl : j = code.length := by omega
   rw [Nat.sub_self, List.drop_zero] at hil ⊢; have hil := inc_len code; refine r_loop1 (fun o w' => ∃ m : Nat, m ≤ n - code.length ∧ o = S_ (txt ((inc code).1 ++ List.replicate m false)) ∧ w = w') (fun o _ => n - szV o) ⟨0, by omega, by rw [List.replicate_zero, List.append_nil], rfl⟩ ?_; rintro _ _ _ ⟨m, hm, rfl, rfl⟩; refine q_len ?_; rw [txt_len, List.length_append, List.length_replicate, hil]; refine r_lss (r_ifD (fun h2 => ?_) fun h2 => ?_)
   · refine r_catL (ys := [48]) (by simp [txt_len, hil]; omega) ?_; refine r_ke ?_; refine ⟨⟨m + 1, by omega, ?_, rfl⟩, ?_⟩
     · rw [List.replicate_succ', ← List.append_assoc, txt_app (_ ++ _)]; rfl
     · show n - szV (S_ _) < n - szV (S_ _); rw [szV_S, szV_S, List.length_append, txt_len, List.length_append, hil, List.length_replicate, List.length_singleton]; omega
   · have : m = n - code.length := by omega
     subst this; exact k
end P20
end Go.Proofs.YtlppejfnjhkbpaaGreat
