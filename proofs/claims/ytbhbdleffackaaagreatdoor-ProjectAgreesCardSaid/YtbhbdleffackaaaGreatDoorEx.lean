/- Functions without a body: which one it is, and what it answers. No program in sight. -/
import Derived.Test.YtbhbdleffackaaaGreatDoorSu
import Derived.Lib.UnsafeStr
import Derived.Lib.Bytealg
import Derived.Lib.MakeNoZero
set_option linter.unusedVariables false
set_option linter.unusedSimpArgs false
namespace Go.Ev
open Go Go.Vc
variable {P : Program} {w w' : World}
theorem add_off {b o n : Nat} : (⟨b, o, none⟩ : Addr).add n = ⟨b, o + n, none⟩ := by
  unfold Addr.add
  split
  · rename_i h; rw [h]; rfl
  · rfl
/-- Which one it is. -/
inductive Xt where
  | idx | cnt | noEsc | mkNo | idxB
def nmX : Xt → String
  | .idx => "internal/bytealg.IndexByteString"
  | .cnt => "internal/bytealg.CountString"
  | .noEsc => "internal/abi.NoEscape"
  | .mkNo => "internal/bytealg.MakeNoZero"
  | .idxB => "internal/bytealg.IndexByte"
def extF (fn : Func) (k : Xt) : Bool := match fn.name == nmX k with
  | true => (match fn.origin == "" with
    | true => true
    | false => fn.origin == nmX k)
  | false => false
def extK (P : Program) (f : FuncId) : Option (Func × Xt) := match P.funcs[f]? with
  | some fn => (match fn.body with
    | some _ => none
    | none => (match extF fn .idx, extF fn .cnt, extF fn .noEsc, extF fn .mkNo, extF fn .idxB with
      | true, _, _, _, _ => some (fn, .idx)
      | _, true, _, _, _ => some (fn, .cnt)
      | _, _, true, _, _ => some (fn, .noEsc)
      | _, _, _, true, _ => some (fn, .mkNo)
      | _, _, _, _, true => some (fn, .idxB)
      | _, _, _, _, _ => none))
  | none => none
theorem extK_ok {f : FuncId} {fn : Func} {k : Xt} (h : extK P f = some (fn, k)) : P.funcs[f]? = some fn ∧ fn.body = none ∧ extF fn k = true := by
  unfold extK at h
  split at h
  · rename_i fn' hf
    split at h
    · cases h
    · rename_i hb
      split at h <;> first | (simp only [Option.some.injEq, Prod.mk.injEq] at h; obtain ⟨rfl, rfl⟩ := h; exact ⟨hf, hb, by assumption⟩) | cases h
  · cases h
theorem extF_name {fn : Func} {k : Xt} (h : extF fn k = true) : fn.name = nmX k ∧ (fn.origin = "" ∨ fn.origin = nmX k) := by
  unfold extF at h
  split at h
  · rename_i h1
    split at h
    · rename_i h2; exact ⟨by simpa using h1, .inl (by simpa using h2)⟩
    · exact ⟨by simpa using h1, .inr (by simpa using h)⟩
  · cases h
theorem next_none (k : Xt) {fn : Func} (h : extF fn k = true) : Extern.findNext fn = none := by
  obtain ⟨h1, h2⟩ := extF_name h
  unfold Extern.findNext
  rcases h2 with h2 | h2 <;> rw [h1, h2] <;> cases k <;> rfl
theorem find_idx {fn : Func} (h : extF fn .idx = true) : Extern.find fn = some Extern.BytealgIndexByte.indexByte := by
  unfold Extern.find
  rw [(extF_name h).1]
  rfl
theorem find_idxB {fn : Func} (h : extF fn .idxB = true) : Extern.find fn = some Extern.BytealgIndexByte.indexByte := by
  unfold Extern.find
  rw [(extF_name h).1]
  rfl
theorem find_cnt {fn : Func} (h : extF fn .cnt = true) : Extern.find fn = some Extern.BytealgCount.count := by
  unfold Extern.find
  rw [(extF_name h).1]
  rfl
theorem find_noEsc {fn : Func} (h : extF fn .noEsc = true) : Extern.find fn = some Extern.AbiNoEscape.same := by
  unfold Extern.find
  rw [(extF_name h).1]
  rfl
theorem find_mkNo {fn : Func} (h : extF fn .mkNo = true) : Extern.find fn = some (Extern.BytealgMakeNoZero.makeNoZero fn.params fn.resultTypes) := by
  unfold Extern.find
  rw [(extF_name h).1]
  rfl
theorem callExt {f : FuncId} {fn : Func} {k : Xt} {args : Array Value} {e : Array Value → Sem Value} {v : Value} (h : extK P f = some (fn, k)) (he : Extern.find fn = some e) (hr : (e args).run P w = .ok v w') : isExt P f = true ∧ (callFunc f args).run P w = .ok (.value v) w' := by
  obtain ⟨h1, h2, h3⟩ := extK_ok h
  refine ⟨by simp only [isExt, h1, h2]; rfl, ?_⟩
  have hn : (fn.name == "runtime.NumGoroutine") = false := by rw [(extF_name h3).1]; cases k <;> rfl
  rw [run_callFunc_extern h1 hn (by rw [h2]; rfl) (next_none k h3) he, hr]
  rfl
theorem run_loadBytes {b : Nat} : ∀ (l : List Nat) (o : Nat) (acc : ByteArray), (∀ (i : Nat) (n : Nat), l[i]? = some n → w.cell? ⟨b, o + i, none⟩ = some (.int .u8 (n : Int))) →
    (Extern.Bytes.loadBytes ⟨b, o, none⟩ l.length acc).run P w = .ok ⟨acc.data ++ (l.map UInt8.ofNat).toArray⟩ w
  | [], o, acc, h => by
    show Result.ok acc w = _
    simp
  | n :: l, o, acc, h => by
    show (Extern.Bytes.loadBytes ⟨b, o, none⟩ (l.length + 1) acc).run P w = _
    unfold Extern.Bytes.loadBytes
    rw [Sem.run_bind, run_load1 (show w.cell? ⟨b, o, none⟩ = _ from h 0 n rfl)]
    simp only [Result.andThen_ok]
    rw [add_off]
    have := run_loadBytes l (o + 1) (acc.push ((n : Int).toNat.toUInt8)) fun i m hi => by
      rw [show o + 1 + i = o + (i + 1) by omega]
      exact h (i + 1) m hi
    rw [this]
    congr 1
    apply ba_ext
    simp
theorem idxB_of {x y c : Value} {s : ByteArray} (h1 : (Extern.Bytes.bytesOf x).run P w = .ok s w) (h2 : (Extern.Bytes.bytesOf y).run P w = .ok s w) : (Extern.BytealgIndexByte.indexByte #[x, c]).run P w = (Extern.BytealgIndexByte.indexByte #[y, c]).run P w := by
  change ((Extern.Bytes.bytesOf x >>= _) : Sem Value).run P w = ((Extern.Bytes.bytesOf y >>= _) : Sem Value).run P w
  rw [Sem.run_bind, Sem.run_bind, h1, h2]
  rfl
end Go.Ev
