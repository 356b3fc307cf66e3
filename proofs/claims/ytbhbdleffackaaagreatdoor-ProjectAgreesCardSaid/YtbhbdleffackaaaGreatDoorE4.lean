/- A verified evaluator for closed calls, fourth part: operations that leave the world as it is, each against its formula. No program in sight. -/
import Derived.Test.YtbhbdleffackaaaGreatDoorF0
set_option linter.unusedVariables false
set_option linter.unusedSimpArgs false
namespace Go.Ev
open Go Go.Vc
noncomputable section
variable {P : Program} {base : Bs} {σ : Sg} {s : St} {w w' : World} {ρ : T X} {r : Env}
def pX : Option X → Option (Nat × Nat)
  | some (.p (some a)) => some a
  | _ => none
theorem pX_spec {o : Operand} {a : Nat × Nat} (hE : EnvR σ ρ r) (h : pX (evX ρ o) = some a) : ∃ q, σ a.1 = some q ∧ r.ev o = .pointer (some ⟨q.1, q.2.1 + a.2, none⟩) ∨ False := by
  unfold pX at h
  split at h
  · rename_i b hb
    obtain rfl := Option.some.inj h
    have := evX_spec hE hb
    simp only [vl] at this
    cases hs : σ b.1 with
    | none => rw [hs] at this; cases this
    | some q => rw [hs] at this; exact ⟨q, .inl ⟨rfl, (Option.some.inj this).symm⟩⟩
  · cases h
theorem pX_ok {o : Operand} {a : Nat × Nat} (hE : EnvR σ ρ r) (h : pX (evX ρ o) = some a) : ∃ q, σ a.1 = some q ∧ r.ev o = .pointer (some ⟨q.1, q.2.1 + a.2, none⟩) := by
  obtain ⟨q, h1 | h1⟩ := pX_spec hE h
  · exact ⟨q, h1⟩
  · exact h1.elim
theorem vl_p {b o : Nat} {q : Nat × Nat × Nat} (h : σ b = some q) : vl σ (.p (some (b, o))) = some (.pointer (some ⟨q.1, q.2.1 + o, none⟩)) := by
  simp only [vl, h]
def foX (a : Option (Nat × Nat)) (off : Nat) : Option X := match a with
  | some a => some (.p (some (a.1, a.2 + off)))
  | none => none
theorem foX_ok {o : Operand} {off : Nat} {x : X} {K : Value → Prop} (hE : EnvR σ ρ r) (h : foX (pX (evX ρ o)) off = some x) (hK : ∀ v, vl σ x = some v → K v) : Fo off (r.ev o) K := by
  unfold foX at h
  split at h
  · rename_i a ha
    obtain rfl := Option.some.inj h
    obtain ⟨q, h1, h2⟩ := pX_ok hE ha
    rw [h2]
    refine ⟨_, rfl, ?_⟩
    rw [add_off]
    refine hK _ ?_
    rw [vl_p h1, Nat.add_assoc]
  · cases h
def ldV (P : Program) (s : St) (t : TypeId) (a : Option (Nat × Nat)) : Option X := match P.underlying t, a with
  | some (.struct _), some a | some (.array _ _), some a => (match P.info? t with
    | some i => ldAX s a.1 a.2 i.size
    | none => none)
  | some _, some a => ldX s a.1 a.2
  | _, _ => none
def ldG1 : List X → Option X
  | [x] => some x
  | _ => none
def ldGA (xs : List X) (n : Nat) : Option X := match Nat.beq xs.length n with
  | true => some (.g xs)
  | false => none
/-- What a package-level variable holds. -/
def ldG (P : Program) (t : TypeId) (xs : List X) : Option X := match P.underlying t with
  | some (.struct _) | some (.array _ _) => (match P.info? t with
    | some i => ldGA xs i.size
    | none => none)
  | some _ => ldG1 xs
  | none => none
def ldW (P : Program) (ρ : T X) (s : St) (t : TypeId) : Operand → Option X
  | .global g => (match lkG s.g g with
    | some xs => ldG P t xs
    | none => none)
  | a => ldV P s t (pX (evX ρ a))
def iaX (P : Program) (e : TypeId) (len : Nat) (a : Option (Nat × Nat)) (n : Option X) : Option X := match P.info? e, a, n with
  | some inf, some a, some (.i k n) => (match inX n len with
    | some m => some (.p (some (a.1, a.2 + m * inf.size)))
    | none => none)
  | _, _, _ => none
def isX (P : Program) (e : TypeId) (x n : Option X) : Option X := match x with
  | some (.l (some a) len _) => iaX P e len (some a) n
  | _ => none
def ixsX (x n : Option X) : Option X := match x, n with
  | some (.s l), some (.i k n) => (match inX n l.length with
    | some m => some (.i .u8 ((l.getD m 0 % 256 : Nat) : Int))
    | none => none)
  | _, _ => none
theorem ixsX_ok {a b : Operand} {x : X} {K : Value → Prop} (hE : EnvR σ ρ r) (h : ixsX (evX ρ a) (evX ρ b) = some x) (hK : ∀ v, vl σ x = some v → K v) : Ixs (r.ev a) (r.ev b) K := by
  unfold ixsX at h
  split at h
  · rename_i l k n ha hb
    split at h
    · rename_i m hm
      obtain rfl := Option.some.inj h
      obtain ⟨rfl, h2⟩ := inX_spec hm
      have e1 := evX_spec hE ha
      have e2 := evX_spec hE hb
      simp only [vl, Option.some.injEq] at e1 e2
      rw [← e1, ← e2]
      refine ⟨str l, k, (m : Int), rfl, rfl, by omega, by rw [str_size]; omega, hK _ ?_⟩
      rw [Int.toNat_natCast, str_get h2]
      rfl
    · cases h
  · cases h
def ixaX (size : Nat) (agg : Bool) (len : Nat) (x n : Option X) : Option X := match x, n with
  | some (.g xs), some (.i k n) => (match inX n len with
    | some m => (match agg with
      | true => some (.g ((xs.drop (m * size)).take size))
      | false => xs[m * size]?)
    | none => none)
  | _, _ => none
theorem ext_toList (vs : List Value) (a n : Nat) : vs.toArray.extract a (a + n) = ((vs.drop a).take n).toArray := by
  apply Array.ext'
  rw [Array.toList_extract, List.extract_eq_take_drop]
  simp
theorem ixaX_ok {size len : Nat} {agg : Bool} {a b : Operand} {x : X} {K : Value → Prop} (hE : EnvR σ ρ r) (h : ixaX size agg len (evX ρ a) (evX ρ b) = some x) (hK : ∀ v, vl σ x = some v → K v) : Ixa len size agg (r.ev a) (r.ev b) K := by
  unfold ixaX at h
  split at h
  · rename_i xs k n ha hb
    split at h
    · rename_i m hm
      obtain ⟨rfl, h2⟩ := inX_spec hm
      have e1 := evX_spec hE ha
      have e2 := evX_spec hE hb
      simp only [vl] at e1
      simp only [vl, Option.some.injEq] at e2
      cases hv : vls σ xs with
      | none => rw [hv] at e1; cases e1
      | some vs =>
        rw [hv] at e1
        rw [← Option.some.inj e1, ← e2]
        refine ⟨vs.toArray, k, (m : Int), rfl, rfl, by omega, by omega, ?_⟩
        rw [Int.toNat_natCast]
        cases agg with
        | true =>
          obtain rfl := Option.some.inj h
          refine hK _ ?_
          rw [ext_toList]
          simp only [vl, vls_take size (vls_drop (m * size) hv)]
        | false =>
          obtain ⟨v, g1, g2⟩ := vls_get hv h
          exact ⟨v, by simpa using g1, hK _ g2⟩
    · cases h
  · cases h
def fdX (off : Nat) (x : Option X) : Option X := match x with
  | some (.g xs) => xs[off]?
  | _ => none
theorem fdX_ok {off : Nat} {a : Operand} {x : X} {K : Value → Prop} (hE : EnvR σ ρ r) (h : fdX off (evX ρ a) = some x) (hK : ∀ v, vl σ x = some v → K v) : Vc.Fd off (r.ev a) K := by
  unfold fdX at h
  split at h
  · rename_i xs ha
    have e1 := evX_spec hE ha
    simp only [vl] at e1
    cases hv : vls σ xs with
    | none => rw [hv] at e1; cases e1
    | some vs =>
      rw [hv] at e1
      rw [← Option.some.inj e1]
      obtain ⟨v, g1, g2⟩ := vls_get hv h
      exact ⟨vs.toArray, v, rfl, by simpa using g1, hK _ g2⟩
  · cases h
def fdaX (off n : Nat) (x : Option X) : Option X := match x with
  | some (.g xs) => some (.g ((xs.drop off).take n))
  | _ => none
theorem fdaX_ok {off n : Nat} {a : Operand} {x : X} {K : Value → Prop} (hE : EnvR σ ρ r) (h : fdaX off n (evX ρ a) = some x) (hK : ∀ v, vl σ x = some v → K v) : FdA off n (r.ev a) K := by
  unfold fdaX at h
  split at h
  · rename_i xs ha
    have e1 := evX_spec hE ha
    simp only [vl] at e1
    cases hv : vls σ xs with
    | none => rw [hv] at e1; cases e1
    | some vs =>
      rw [hv] at e1
      rw [← Option.some.inj e1]
      obtain rfl := Option.some.inj h
      refine ⟨vs.toArray, rfl, hK _ ?_⟩
      rw [ext_toList]
      simp only [vl, vls_take n (vls_drop off hv)]
  · cases h
def bp2 (op : BinOp) (x y : Option X) : Option X := match x, y with
  | some x, some y => bpX op x y
  | _, _ => none
def bbX (neg : Bool) (x y : Option X) : Option X := match x, y with
  | some (.b a), some (.b b) => some (.b (if neg then !(a == b) else a == b))
  | _, _ => none
def bnX (P : Program) (e : TypeId) (neg : Bool) (x y : Option X) : Option X := match x, y with
  | some (.p none), some (.p b) => some (.b (if neg then !b.isNone else b.isNone))
  | some (.p (some _)), some (.p none) => some (.b neg)
  | some (.p (some a)), some (.p (some b)) => (match P.info? e, Nat.beq a.1 b.1, Nat.beq a.2 b.2 with
    | some _, true, true => some (.b (!neg))
    | _, _, _ => none)
  | _, _ => none
theorem bnX_ok {e : TypeId} {neg : Bool} {a b : Operand} {x : X} {K : Value → Prop} (hE : EnvR σ ρ r) (h : bnX P e neg (evX ρ a) (evX ρ b) = some x) (hK : ∀ v, vl σ x = some v → K v) : Bn P e neg (r.ev a) (r.ev b) K := by
  unfold bnX at h
  split at h
  · rename_i q ha hb
    obtain rfl := Option.some.inj h
    have e1 := evX_spec hE ha
    have e2 := evX_spec hE hb
    simp only [vl, Option.some.injEq] at e1
    rw [← e1]
    cases q with
    | none =>
      simp only [vl, Option.some.injEq] at e2
      rw [← e2]
      exact .inl ⟨true, rfl, hK _ rfl⟩
    | some q =>
      simp only [vl] at e2
      cases hs : σ q.1 with
      | none => rw [hs] at e2; cases e2
      | some z =>
        rw [hs] at e2
        rw [← Option.some.inj e2]
        exact .inl ⟨false, rfl, hK _ rfl⟩
  · rename_i q ha hb
    obtain rfl := Option.some.inj h
    have e1 := evX_spec hE ha
    have e2 := evX_spec hE hb
    simp only [vl, Option.some.injEq] at e2
    rw [← e2]
    simp only [vl] at e1
    cases hs : σ q.1 with
    | none => rw [hs] at e1; cases e1
    | some z =>
      rw [hs] at e1
      rw [← Option.some.inj e1]
      exact .inl ⟨false, rfl, hK _ (by cases neg <;> rfl)⟩
  · rename_i p q ha hb
    split at h
    · rename_i i hi h1 h2
      obtain rfl := Option.some.inj h
      have e1 := evX_spec hE ha
      have e2 := evX_spec hE hb
      obtain ⟨p1, p2⟩ := p
      obtain ⟨q1, q2⟩ := q
      obtain rfl := Nat.eq_of_beq_eq_true h1
      obtain rfl := Nat.eq_of_beq_eq_true h2
      rw [e1] at e2
      have e2 := Option.some.inj e2
      obtain ⟨z, hz⟩ := vl_ps e1
      rw [← e2, hz]
      exact .inr ⟨i, z, hi, rfl, rfl, hK _ rfl⟩
    · cases h
  · cases h
def mfX (ρ : T X) (fn : Fn) (a c : Array Operand) : Option X := match xargs ρ a.toList, xargs ρ c.toList with
  | some xs, some ys => some (.f fn xs ys)
  | _, _ => none
theorem mfX_ok {fn : Fn} {a c : Array Operand} {x : X} {K : Value → Prop} (hE : EnvR σ ρ r) (h : mfX ρ fn a c = some x) (hK : ∀ v, vl σ x = some v → K v) : Mf P fn (amap r.ev a) (amap r.ev c) w K := by
  unfold mfX at h
  split at h
  · rename_i xs ys hx hy
    obtain rfl := Option.some.inj h
    refine ⟨_, rfl, hK _ ?_⟩
    simp only [vl, xargs_spec hE hx, xargs_spec hE hy]
    rfl
  · cases h
def lmX (s : St) (b : Option Nat) : Option X := match esX s b with
  | some es => some (.i .i64 (es.length : Int))
  | none => none
theorem EsR.len {σ : Sg} : ∀ {es : List (X × X)} {l : List MapEntry}, EsR σ es l → es.length = l.length
  | [], [], _ => rfl
  | (k, v) :: es, e :: l, ⟨_, _, h⟩ => by simp [EsR.len h]
  | [], _ :: _, h => h.elim
  | _ :: _, [], h => h.elim
theorem lmX_ok (hM : Mem P base σ s w) {t k e ty : TypeId} {b : Option Nat} {x : X} {v : Value} (ht : P.underlying t = some (.map k e)) (h : lmX s b = some x) (hv : vl σ (.m b) = some v) : ∃ u, vl σ x = some u ∧ ∀ (ts : List TypeId) (vs : List Value), (Builtin.len_ (t :: ts).toArray ty (v :: vs).toArray).run P w = .ok u w := by
  unfold lmX at h
  split at h
  · rename_i es hes
    obtain rfl := Option.some.inj h
    refine ⟨_, rfl, fun ts vs => ?_⟩
    cases b with
    | none =>
      obtain rfl := Option.some.inj hes
      simp only [vl, Option.some.injEq] at hv
      subst hv
      simp [Builtin.len_, run_underlying ht, goInt]
    | some b =>
      simp only [esX] at hes
      split at hes
      · rename_i es' hb
        obtain rfl := Option.some.inj hes
        obtain ⟨rb, g1, g2, l, clock, g3, g4⟩ := hM.mown b _ hb
        simp only [vl, g1, Option.some.injEq] at hv
        subst hv
        simp [Builtin.len_, run_underlying ht, mgetObj g3, goInt, g4.len]
      · cases hes
  · cases h
def upX (op : UnOp) (x : Option X) : Option X := match x with
  | some (.i k n) => (match up op (.int k n) with
    | some v => ofV v
    | none => none)
  | some (.b b) => (match up op (.bool b) with
    | some v => ofV v
    | none => none)
  | _ => none
theorem upX_ok {op : UnOp} {a : Operand} {x : X} {K : Value → Prop} (hE : EnvR σ ρ r) (h : upX op (evX ρ a) = some x) (hK : ∀ v, vl σ x = some v → K v) : Up op (r.ev a) K := by
  unfold upX at h
  split at h
  · rename_i k n ha
    have e1 := evX_spec hE ha
    simp only [vl, Option.some.injEq] at e1
    rw [← e1]
    split at h
    · rename_i v hv
      exact ⟨v, hv, hK _ (vl_ofV h)⟩
    · cases h
  · rename_i b ha
    have e1 := evX_spec hE ha
    simp only [vl, Option.some.injEq] at e1
    rw [← e1]
    split at h
    · rename_i v hv
      exact ⟨v, hv, hK _ (vl_ofV h)⟩
    · cases h
  · cases h
def ciX (k : IntKind) (x : Option X) : Option X := match x with
  | some (.i _ n) => some (.i k (k.wrap n))
  | _ => none
def cvX (P : Program) (s : St) (t : TypeId) (x : Option X) : Option X := match P.underlying t with
  | some (.slice e) => (match P.underlying e, x with
    | some (.int .u8), some x => strX s x
    | _, _ => none)
  | _ => none
def sstX (x : Option X) (lo hi : Nat → Option Nat) : Option X := match x with
  | some (.s l) => (match lo 0, hi l.length with
    | some a, some b => (match Nat.ble a b, Nat.ble b l.length with
      | true, true => some (.s ((l.take b).drop a))
      | _, _ => none)
    | _, _ => none)
  | _ => none
/-- An array's part. -/
def slaX (P : Program) (s : St) (n : Nat) (e : TypeId) (x : Option X) (lo hi : Nat → Option Nat) : Option X := match x with
  | some (.p (some a)) => (match s.blk a.1 with
    | some cb => (match isArrB P cb.1, P.info? e, lo 0, hi n with
      | true, some inf, some i, some j => (match Nat.ble i j, Nat.ble j n, Nat.beq n i with
        | true, true, false => some (.l (some (a.1, a.2 + i * inf.size)) (j - i) (n - i))
        | true, true, true => some (.l (some a) 0 0)
        | _, _, _ => none)
      | _, _, _, _ => none)
    | none => none)
  | _ => none
theorem slaX_ok (hM : Mem P base σ s w) {t : TypeId} {n : Nat} {e : TypeId} (hu : P.underlying t = some (.array n e)) {a : Operand} {lo hi : Option Operand} {x : X} {K : Value → Prop} (hE : EnvR σ ρ r) (h : slaX P s n e (evX ρ a) (fun d => bndX ρ d lo) (fun d => bndX ρ d hi) = some x) (hK : ∀ v, vl σ x = some v → K v) :
    Sl P t (r.ev a) (lo.map r.ev) (hi.map r.ev) none w K := by
  unfold slaX at h
  split at h
  · rename_i p ha
    have e1 := evX_spec hE ha
    split at h
    · rename_i cb hb
      obtain ⟨be, cs⟩ := cb
      obtain ⟨rb, off, k, pre, vs, sp, post, g⟩ := hM.own p.1 be cs hb
      split at h
      · rename_i inf i j har hinf hi' hj'
        have hk : k = 0 := g.nsp har
        subst hk
        simp only [vl, g.sg_, Option.some.injEq] at e1
        split at h
        · rename_i h1 h2 h3
          obtain rfl := Option.some.inj h
          have h1 := Nat.le_of_ble_eq_true h1
          have h2 := Nat.le_of_ble_eq_true h2
          have h3 := Nat.ne_of_beq_eq_false h3
          have hb := run_bounds (P := P) (w := w) (b := false) (bndX_spec hE hi') (bndX_spec hE hj') h1 h2
          refine ⟨.slice (some ⟨rb, off + p.2 + i * inf.size, none⟩) (j - i) (n - i), ?_, hK _ ?_⟩
          · rw [← e1]
            simp [Instr.sliceAt, Instr.sureAddr, run_underlying hu, hb, run_sz hinf, h3, add_off]
          · simp only [vl, g.sg_, Nat.add_zero, Nat.add_assoc]
        · rename_i h1 h2 h3
          obtain rfl := Option.some.inj h
          have h1 := Nat.le_of_ble_eq_true h1
          have h2 := Nat.le_of_ble_eq_true h2
          have h3 := Nat.eq_of_beq_eq_true h3
          subst h3
          have h4 : j = n := by omega
          subst h4
          have hb := run_bounds (P := P) (w := w) (b := false) (bndX_spec hE hi') (bndX_spec hE hj') h1 h2
          refine ⟨.slice (some ⟨rb, off + p.2, none⟩) 0 0, ?_, hK _ ?_⟩
          · rw [← e1]
            simp [Instr.sliceAt, Instr.sureAddr, run_underlying hu, hb, run_sz hinf]
          · simp only [vl, g.sg_, Nat.add_zero]
        · cases h
      · cases h
    · cases h
  · cases h
/-- A slice's part; where nothing of the room that is known is left behind it, its address would hang on what is spare: given up, save at 0. -/
def sslX (size : Nat) (x : Option X) (lo hi : Nat → Option Nat) : Option X := match x with
  | some (.l (some p) n c) => (match lo 0, hi n with
    | some a, some b => (match Nat.ble a b, Nat.ble b c, Nat.beq c a && !(Nat.beq a 0) with
      | true, true, false => some (.l (some (p.1, p.2 + a * size)) (b - a) (c - a))
      | true, true, true => some (.e0 p.1 p.2 (p.2 + a * size))
      | _, _, _ => none)
    | _, _ => none)
  | some (.l none n c) => (match lo 0, hi n with
    | some a, some b => (match Nat.ble a b, Nat.ble b c with
      | true, true => some (.l none (b - a) (c - a))
      | _, _ => none)
    | _, _ => none)
  | _ => none
theorem sslX_ok {size : Nat} {a : Operand} {lo hi : Option Operand} {x : X} {K : Value → Prop} (hE : EnvR σ ρ r) (h : sslX size (evX ρ a) (fun d => bndX ρ d lo) (fun d => bndX ρ d hi) = some x) (hK : ∀ v, vl σ x = some v → K v) : Ssl size (r.ev a) (lo.map r.ev) (hi.map r.ev) K := by
  unfold sslX at h
  split at h
  · rename_i p n c ha
    have e1 := evX_spec hE ha
    simp only [vl] at e1
    split at h
    · rename_i i j hi' hj'
      split at h
      · rename_i h1 h2 h3
        obtain rfl := Option.some.inj h
        have h1 := Nat.le_of_ble_eq_true h1
        have h2 := Nat.le_of_ble_eq_true h2
        cases hs : σ p.1 with
        | none => rw [hs] at e1; cases e1
        | some q =>
          rw [hs] at e1
          rw [← Option.some.inj e1]
          refine ⟨_, n, c + q.2.2, i, j, rfl, bndX_spec hE hi', bndX_spec hE hj', h1, by omega, hK _ ?_⟩
          have h4 : ¬ (c = i ∧ i ≠ 0) := by
            rintro ⟨rfl, h5⟩
            have h6 : Nat.beq c c = true := Nat.beq_refl c
            rw [h6] at h3
            cases h7 : Nat.beq c 0 with
            | true => exact h5 (Nat.eq_of_beq_eq_true h7)
            | false => rw [h7] at h3; cases h3
          simp only [vl, hs]
          congr 1
          have h8 : c + q.2.2 - i = c - i + q.2.2 := by omega
          rw [h8]
          congr 1
          split
          · rename_i h9
            have h10 : i = 0 := by
              rcases Nat.eq_zero_or_pos i with h11 | h11
              · exact h11
              · exact absurd ⟨by omega, by omega⟩ h4
            subst h10
            rw [Nat.zero_mul, Nat.add_zero]
          · simp only [Option.map_some, add_off, Nat.add_assoc]
      · rename_i h1 h2 h3
        obtain rfl := Option.some.inj h
        have h1 := Nat.le_of_ble_eq_true h1
        have h2 := Nat.le_of_ble_eq_true h2
        rw [Bool.and_eq_true] at h3
        have h3 := Nat.eq_of_beq_eq_true h3.1
        cases hs : σ p.1 with
        | none => rw [hs] at e1; cases e1
        | some q =>
          rw [hs] at e1
          rw [← Option.some.inj e1]
          refine ⟨_, n, c + q.2.2, i, j, rfl, bndX_spec hE hi', bndX_spec hE hj', h1, by omega, hK _ ?_⟩
          simp only [vl, hs]
          have h4 : j - i = 0 := by omega
          have h5 : c + q.2.2 - i = q.2.2 := by omega
          rw [h4, h5]
          congr 2
          by_cases hk : q.2.2 = 0
          · rw [if_pos hk, if_pos (by omega)]
          · rw [if_neg hk, if_neg (by omega)]
            simp only [Option.map_some, add_off, Nat.add_assoc]
      · cases h
    · cases h
  · rename_i n c ha
    have e1 := evX_spec hE ha
    simp only [vl, Option.some.injEq] at e1
    rw [← e1]
    split at h
    · rename_i i j hi' hj'
      split at h
      · rename_i h1 h2
        obtain rfl := Option.some.inj h
        refine ⟨none, n, c, i, j, rfl, bndX_spec hE hi', bndX_spec hE hj', Nat.le_of_ble_eq_true h1, Nat.le_of_ble_eq_true h2, hK _ ?_⟩
        simp only [vl, Option.map_none, ite_self]
      · cases h
    · cases h
  · cases h
def exX (x : Option X) (i : Nat) : Option X := match x with
  | some (.t xs) => xs[i]?
  | _ => none
theorem exX_ok {i : Nat} {a : Operand} {x : X} {K : Value → Prop} (hE : EnvR σ ρ r) (h : exX (evX ρ a) i = some x) (hK : ∀ v, vl σ x = some v → K v) : Ex (r.ev a) i K := by
  unfold exX at h
  split at h
  · rename_i xs ha
    have e1 := evX_spec hE ha
    simp only [vl] at e1
    cases hv : vls σ xs with
    | none => rw [hv] at e1; cases e1
    | some vs =>
      rw [hv] at e1
      rw [← Option.some.inj e1]
      obtain ⟨v, g1, g2⟩ := vls_get hv h
      exact ⟨vs.toArray, v, rfl, by simpa using g1, hK _ g2⟩
  · cases h
def mmR (mx : Bool) (a b : Int) : Int := match mx with
  | true => if a < b then b else a
  | false => if b < a then b else a
def mmL (mx : Bool) (k : IntKind) : Int → List X → Option X
  | a, [] => some (.i k a)
  | a, .i k' b :: l => (match decide (k = k') with
    | true => mmL mx k (mmR mx a b) l
    | false => none)
  | _, _ => none
def mmX (mx : Bool) : List X → Option X
  | .i k a :: l => mmL mx k a l
  | _ => none
/-- The value of an operation that leaves the world as it is. -/
def xval (P : Program) (ρ : T X) (s : St) (o : Oper) : Option X := match o.op with
  | .move x | .assign x => evX ρ x
  | .pick c a b => (match evX ρ c with
    | some (.b true) => evX ρ a
    | some (.b false) => evX ρ b
    | _ => none)
  | .nilCheck x => (match pX (evX ρ x) with
    | some a => some (.p (some a))
    | none => none)
  | .load t a => ldW P ρ s t a
  | .fieldAddr q x f => (match P.underlying q with
    | some (.struct fs) => (match fldOf fs.toList f with
      | some fd => (match P.info? fd.type with
        | some i => (match i.size with
          | 0 => none
          | _ + 1 => foX (pX (evX ρ x)) fd.offset)
        | none => none)
      | none => none)
    | _ => none)
  | .indexAddr t x i => (match P.underlying t with
    | some (.array len e) => iaX P e len (pX (evX ρ x)) (evX ρ i)
    | some (.slice e) => isX P e (evX ρ x) (evX ρ i)
    | _ => none)
  | .index t x i => (match P.underlying t with
    | some .string => ixsX (evX ρ x) (evX ρ i)
    | some (.array len e) => (match P.info? e with
      | some inf => (match P.underlying e with
        | some (.struct _) | some (.array _ _) => ixaX inf.size true len (evX ρ x) (evX ρ i)
        | some _ => ixaX inf.size false len (evX ρ x) (evX ρ i)
        | none => none)
      | none => none)
    | _ => none)
  | .field t x f => (match P.underlying t with
    | some (.struct fs) => (match fldOf fs.toList f with
      | some fd => (match P.underlying fd.type with
        | some (.struct _) | some (.array _ _) => (match P.info? fd.type with
          | some i => fdaX fd.offset i.size (evX ρ x)
          | none => none)
        | some _ => fdX fd.offset (evX ρ x)
        | none => none)
      | none => none)
    | _ => none)
  | .binOp op t x y _ => (match P.underlying t with
    | some (.int _) | some .string => bp2 op (evX ρ x) (evX ρ y)
    | some .bool => (match op with
      | .eql => bbX false (evX ρ x) (evX ρ y)
      | .neq => bbX true (evX ρ x) (evX ρ y)
      | _ => none)
    | some (.pointer e) => (match op with
      | .eql => bnX P e false (evX ρ x) (evX ρ y)
      | .neq => bnX P e true (evX ρ x) (evX ρ y)
      | _ => none)
    | some _ => beX P op t x y (evX ρ x) (evX ρ y)
    | none => none)
  | .makeFunc fn a c => mfX ρ fn a c
  | .lookup t x i ok => lkX P s t (evX ρ x) (evX ρ i) ok
  | .typeAssert x _ a ok => taX P a ok (evX ρ x)
  | .unOp op _ x => upX op (evX ρ x)
  | .convert q d x => (match P.underlying q, P.underlying d with
    | some (.int _), some (.int k) => ciX k (evX ρ x)
    | some (.slice e), some .string => cvX P s q (evX ρ x)
    | some _, some _ => cpX P s q d (evX ρ x)
    | _, _ => none)
  | .makeInterface t x => (match P.underlying t, evX ρ x with
    | some (.interface _), _ => none
    | some _, some x => some (.fc t x)
    | _, _ => none)
  | .slice t x l h m => (match P.underlying t, m with
    | some .string, none => sstX (evX ρ x) (fun d => bndX ρ d l) (fun d => bndX ρ d h)
    | some (.slice e), none => (match P.info? e with
      | some inf => sslX inf.size (evX ρ x) (fun d => bndX ρ d l) (fun d => bndX ρ d h)
      | none => none)
    | some (.array n e), none => slaX P s n e (evX ρ x) (fun d => bndX ρ d l) (fun d => bndX ρ d h)
    | _, _ => none)
  | .extract x i => exX (evX ρ x) i
  | .build t ps => (match xparts ρ ps.toList with
    | some xs => bdX P t xs
    | none => none)
  | .call c => (match c.callee with
    | .builtin .len => (match c.argTypes.toList, xargs ρ c.args.toList with
      | t :: _, some (x :: _) => (match P.underlying t, x with
        | some .string, .s l => some (.i .i64 (l.length : Int))
        | some (.slice _), .l _ n _ => some (.i .i64 (n : Int))
        | some (.slice _), .e0 _ _ _ => some (.i .i64 0)
        | some (.map _ _), .m b => lmX s b
        | _, _ => none)
      | _, _ => none)
    | .builtin .cap => capX P c.argTypes.toList (xargs ρ c.args.toList)
    | .builtin .min => (match xargs ρ c.args.toList with
      | some xs => mmX false xs
      | none => none)
    | .builtin .max => (match xargs ρ c.args.toList with
      | some xs => mmX true xs
      | none => none)
    | _ => none)
  | _ => none
theorem mmL_ok {mx : Bool} {k : IntKind} {x : X} : ∀ {l : List X} {a : Int}, mmL mx k a l = some x → ∃ bs : List Int, l = bs.map (X.i k) ∧ x = .i k (bs.foldl (mmR mx) a)
  | [], a, h => ⟨[], rfl, (Option.some.inj h).symm⟩
  | y :: l, a, h => by
    unfold mmL at h
    split at h
    · rename_i e; cases e
    · rename_i a' k' b l' e
      cases e
      by_cases hk : k = k'
      · subst hk
        rw [decide_eq_true rfl] at h
        obtain ⟨bs, rfl, h2⟩ := mmL_ok (l := l) h
        exact ⟨b :: bs, rfl, h2⟩
      · rw [decide_eq_false hk] at h
        cases h
    · cases h
theorem mm_ok {mx : Bool} {xs : List X} {x : X} (h : mmX mx xs = some x) : ∃ k a, ∃ bs : List Int, xs = .i k a :: bs.map (X.i k) ∧ x = .i k (bs.foldl (mmR mx) a) := by
  unfold mmX at h
  split at h
  · rename_i k a l
    obtain ⟨bs, rfl, h2⟩ := mmL_ok h
    exact ⟨k, a, bs, rfl, h2⟩
  · cases h
theorem vls_ints {k : IntKind} : ∀ (bs : List Int), vls σ (bs.map (X.i k)) = some (bs.map (Value.int k))
  | [] => rfl
  | b :: bs => vls_mk rfl (vls_ints bs)
theorem run_mm (k : IntKind) (w : World) : ∀ (bs : List Int) (a : Int), ((bs.map (Value.int k)).foldlM Builtin.min2 (Value.int k a)).run P w = .ok (.int k (bs.foldl (mmR false) a)) w ∧ ((bs.map (Value.int k)).foldlM Builtin.max2 (Value.int k a)).run P w = .ok (.int k (bs.foldl (mmR true) a)) w
  | [], a => ⟨by simp, by simp⟩
  | b :: bs, a => by
    obtain ⟨h1, _⟩ := run_mm k w bs (mmR false a b)
    obtain ⟨_, h2⟩ := run_mm k w bs (mmR true a b)
    refine ⟨?_, ?_⟩
    · rw [List.map_cons, List.foldlM_cons, List.foldl_cons, Sem.run_bind, show (Builtin.min2 (Value.int k a) (Value.int k b)).run P w = .ok (.int k (mmR false a b)) w by simp [Builtin.min2, mmR]]
      exact h1
    · rw [List.map_cons, List.foldlM_cons, List.foldl_cons, Sem.run_bind, show (Builtin.max2 (Value.int k a) (Value.int k b)).run P w = .ok (.int k (mmR true a b)) w by simp [Builtin.max2, mmR]]
      exact h2
theorem xval_ok (hM : Mem P base σ s w) (hE : EnvR σ ρ r) {o : Oper} {x : X} (h : xval P ρ s o = some x) (st : Bool) {K : Value → World → Prop} (hK : ∀ v, vl σ x = some v → K v w) : vcOp P st r.ev o w K := by
  unfold xval at h
  unfold vcOp
  cases ho : o.op with
  | move a => simp only [ho] at h ⊢; exact hK _ (evX_spec hE h)
  | assign a => simp only [ho] at h ⊢; exact hK _ (evX_spec hE h)
  | pick c a b =>
    simp only [ho] at h ⊢
    split at h
    · rename_i hc
      have e1 := evX_spec hE hc
      simp only [vl, Option.some.injEq] at e1
      rw [← e1]
      exact hK _ (evX_spec hE h)
    · rename_i hc
      have e1 := evX_spec hE hc
      simp only [vl, Option.some.injEq] at e1
      rw [← e1]
      exact hK _ (evX_spec hE h)
    · cases h
  | nilCheck a =>
    simp only [ho] at h ⊢
    split at h
    · rename_i p hp
      obtain rfl := Option.some.inj h
      obtain ⟨q, h1, h2⟩ := pX_ok hE hp
      refine ⟨⟨_, h2⟩, hK _ ?_⟩
      rw [h2]
      exact vl_p h1
    · cases h
  | load t a =>
    simp only [ho] at h ⊢
    unfold ldW at h
    split at h
    · rename_i g
      split at h
      · rename_i xs hxs
        obtain ⟨_, e, fz, vs, h2, h3⟩ := hM.glb g xs hxs
        have h4 : vls σ xs = some vs := vls_ext (fun n q hn => by cases hn) _ _ h2
        have hcell : ∀ (j : Nat) v, vs[j]? = some v → w.cell? ((⟨g, 0, none⟩ : Addr).add j) = some v := fun j v hj => by
          rw [add_off, Nat.zero_add]
          simp [World.cell?, h3, hj]
        unfold ldG at h
        have agg : ∀ {i : TypeInfo}, ldGA xs i.size = some x → LdA i.size (r.ev (.global g)) w fun v => K v w := by
          intro i h
          unfold ldGA at h
          cases hb : Nat.beq xs.length i.size with
          | false => rw [hb] at h; cases h
          | true =>
            rw [hb] at h
            obtain rfl := Option.some.inj h
            have := vls_len h4
            have hb := Nat.eq_of_beq_eq_true hb
            refine ⟨⟨g, 0, none⟩, vs.toArray, rfl, by simp; omega, fun j v hj => hcell j v (by simpa using hj), hK _ ?_⟩
            simp only [vl, h4]
        have one : ldG1 xs = some x → Ld (r.ev (.global g)) w fun v => K v w := by
          intro h
          cases xs with
          | nil => cases h
          | cons y l =>
            cases l with
            | cons _ _ => cases h
            | nil =>
              obtain rfl := Option.some.inj h
              obtain ⟨v, us, g1, g2, rfl⟩ := vls_cons h4
              have := hcell 0 v rfl
              rw [add_off] at this
              exact ⟨⟨g, 0, none⟩, v, rfl, this, hK _ g1⟩
        cases hu : P.underlying t with
        | none => rw [hu] at h; cases h
        | some d =>
          rw [hu] at h
          cases d with
          | struct fs =>
            simp only at h ⊢
            cases hi : P.info? t with
            | none => rw [hi] at h; cases h
            | some i => rw [hi] at h; exact agg h
          | array n e =>
            simp only at h ⊢
            cases hi : P.info? t with
            | none => rw [hi] at h; cases h
            | some i => rw [hi] at h; exact agg h
          | _ => exact one h
      · cases h
    · unfold ldV at h
      have agg : ∀ {p : Nat × Nat} {y : X} {i : TypeInfo}, pX (evX ρ a) = some p → ldAX s p.1 p.2 i.size = some y → y = x → LdA i.size (r.ev a) w fun v => K v w := by
        rintro p y i hp hl rfl
        obtain ⟨q, h1, h2⟩ := pX_ok hE hp
        obtain ⟨q', vs, g1, g2, g3, g4⟩ := ldAX_spec hM hl
        rw [h1] at g1
        cases g1
        rw [h2]
        exact ⟨_, vs.toArray, rfl, by simpa using g3, fun j v hj => g4 j v (by simpa using hj), hK _ g2⟩
      have one : ∀ {p : Nat × Nat} {y : X}, pX (evX ρ a) = some p → ldX s p.1 p.2 = some y → y = x → Ld (r.ev a) w fun v => K v w := by
        rintro p y hp hl rfl
        obtain ⟨q, h1, h2⟩ := pX_ok hE hp
        obtain ⟨q', v, g1, g2, g3⟩ := ldX_spec hM hl
        rw [h1] at g1
        cases g1
        rw [h2]
        exact ⟨_, v, rfl, g3, hK _ g2⟩
      cases hu : P.underlying t with
      | none => simp [hu] at h
      | some d =>
        cases hp : pX (evX ρ a) with
        | none => cases d <;> simp [hu, hp] at h
        | some p =>
          rw [hu, hp] at h
          cases d with
          | struct fs =>
            simp only at h ⊢
            cases hi : P.info? t with
            | none => rw [hi] at h; cases h
            | some i => rw [hi] at h; exact agg hp h rfl
          | array n e =>
            simp only at h ⊢
            cases hi : P.info? t with
            | none => rw [hi] at h; cases h
            | some i => rw [hi] at h; exact agg hp h rfl
          | _ => exact one hp h rfl
  | fieldAddr q a f =>
    simp only [ho] at h ⊢
    split at h
    · rename_i fs hu
      split at h
      · rename_i fd hf
        split at h
        · rename_i i hi
          split at h
          · cases h
          · rename_i m hm
            simp only [hu, hf, hi, hm]
            exact foX_ok hE h fun v hv => hK v hv
        · cases h
      · cases h
    · cases h
  | indexAddr t a i =>
    simp only [ho] at h ⊢
    split at h
    · rename_i len e hu
      unfold iaX at h
      split at h
      · rename_i inf p k n hi hp hn
        split at h
        · rename_i m hm
          obtain rfl := Option.some.inj h
          obtain ⟨rfl, h2⟩ := inX_spec hm
          obtain ⟨q, h1, h3⟩ := pX_ok hE hp
          have e2 := evX_spec hE hn
          simp only [vl, Option.some.injEq] at e2
          simp only [hu, hi]
          rw [h3, ← e2]
          refine ⟨_, k, (m : Int), rfl, rfl, by omega, by omega, hK _ ?_⟩
          rw [add_off, Int.toNat_natCast, vl_p h1, Nat.add_assoc]
        · cases h
      · cases h
    · rename_i e hu
      unfold isX at h
      split at h
      · rename_i p len c ha
        unfold iaX at h
        split at h
        · rename_i inf p' k n hi hp hn
          cases hp
          split at h
          · rename_i m hm
            obtain rfl := Option.some.inj h
            obtain ⟨rfl, h2⟩ := inX_spec hm
            have e1 := evX_spec hE ha
            have e2 := evX_spec hE hn
            simp only [vl, Option.some.injEq] at e2
            simp only [vl] at e1
            cases hs : σ p.1 with
            | none => rw [hs] at e1; cases e1
            | some q =>
              rw [hs] at e1
              simp only [hu, hi]
              rw [← Option.some.inj e1, ← e2]
              refine ⟨_, len, _, k, (m : Int), rfl, rfl, by omega, by omega, hK _ ?_⟩
              rw [add_off, Int.toNat_natCast, vl_p hs, Nat.add_assoc]
          · cases h
        · cases h
      · cases h
    · cases h
  | index t a i =>
    simp only [ho] at h ⊢
    split at h
    · rename_i hu
      simp only [hu]
      exact ixsX_ok hE h fun v hv => hK v hv
    · rename_i len e hu
      split at h
      · rename_i inf hi
        split at h
        · rename_i fs he
          simp only [hu, hi, he]
          exact ixaX_ok hE h fun v hv => hK v hv
        · rename_i fs n he
          simp only [hu, hi, he]
          exact ixaX_ok hE h fun v hv => hK v hv
        · rename_i d h1 h2 he
          simp only [hu, hi, he]
          exact ixaX_ok hE h fun v hv => hK v hv
        · cases h
      · cases h
    · cases h
  | field t a f =>
    simp only [ho] at h ⊢
    split at h
    · rename_i fs hu
      split at h
      · rename_i fd hf
        split at h
        · rename_i fs2 he
          split at h
          · rename_i i hi
            simp only [hu, hf, he, hi]
            exact fdaX_ok hE h fun v hv => hK v hv
          · cases h
        · rename_i n e he
          split at h
          · rename_i i hi
            simp only [hu, hf, he, hi]
            exact fdaX_ok hE h fun v hv => hK v hv
          · cases h
        · rename_i d h1 h2 he
          simp only [hu, hf, he]
          exact fdX_ok hE h fun v hv => hK v hv
        · cases h
      · cases h
    · cases h
  | binOp op t a b yt =>
    simp only [ho] at h ⊢
    have arith : bp2 op (evX ρ a) (evX ρ b) = some x → Bp op (r.ev a) (r.ev b) fun v => K v w := by
      intro h
      unfold bp2 at h
      split at h
      · rename_i y z ha hb
        obtain ⟨v, g1, g2⟩ := bpX_spec h (evX_spec hE ha) (evX_spec hE hb)
        exact ⟨v, g1, hK _ g2⟩
      · cases h
    have bool : ∀ neg, bbX neg (evX ρ a) (evX ρ b) = some x → Bb neg (r.ev a) (r.ev b) fun v => K v w := by
      intro neg h
      unfold bbX at h
      split at h
      · rename_i y z ha hb
        obtain rfl := Option.some.inj h
        have e1 := evX_spec hE ha
        have e2 := evX_spec hE hb
        simp only [vl, Option.some.injEq] at e1 e2
        exact ⟨y, z, e1.symm, e2.symm, hK _ rfl⟩
      · cases h
    split at h
    · rename_i k hu
      simp only [hu]
      exact arith h
    · rename_i hu
      simp only [hu]
      exact arith h
    · rename_i hu
      simp only [hu]
      split at h
      · exact bool _ h
      · exact bool _ h
      · cases h
    · rename_i e hu
      simp only [hu]
      split at h
      · exact bnX_ok hE h fun v hv => hK v hv
      · exact bnX_ok hE h fun v hv => hK v hv
      · cases h
    · rename_i d h1 h2 h3 h4 hu
      have hb := beX_ok (w := w) hu (fun k e => h1 k e) (fun e => h2 e) (fun e => h3 e) (fun q e => h4 q e) h (fun a ha => evX_spec hE ha) (fun a ha => evX_spec hE ha) (K := fun v => K v w) fun v hv => hK v hv
      cases d with
      | int k => exact (h1 k rfl).elim
      | string => exact (h2 rfl).elim
      | bool => exact (h3 rfl).elim
      | pointer e => exact (h4 e rfl).elim
      | _ => simp only [hu]; exact hb
    · cases h
  | makeFunc fn a c => simp only [ho] at h ⊢; exact mfX_ok hE h fun v hv => hK v hv
  | typeAssert a t b ok => simp only [ho] at h ⊢; exact taX_ok h (fun q hq => evX_spec hE hq) fun v hv => hK v hv
  | lookup t a i ok => simp only [ho] at h ⊢; exact lkX_ok hM h (fun q hq => evX_spec hE hq) (fun q hq => evX_spec hE hq) fun v hv => hK v hv
  | unOp op t a => simp only [ho] at h ⊢; exact upX_ok hE h fun v hv => hK v hv
  | convert q d a =>
    simp only [ho] at h ⊢
    split at h
    · rename_i k1 k2 hq hd
      unfold ciX at h
      split at h
      · rename_i k n ha
        obtain rfl := Option.some.inj h
        have e1 := evX_spec hE ha
        simp only [vl, Option.some.injEq] at e1
        simp only [hq, hd]
        exact ⟨k, n, e1.symm, hK _ rfl⟩
      · cases h
    · rename_i e hq hd
      unfold cvX at h
      rw [hq] at h
      simp only at h
      split at h
      · rename_i y he ha
        obtain ⟨u, g1, g2⟩ := strX_spec hM hq he hd (evX_spec hE ha) h
        simp only [hq, hd]
        cases st with
        | true => exact ⟨u, g2, hK _ g1⟩
        | false => exact ⟨u, w, g2, hK _ g1⟩
      · cases h
    · rename_i d1 d2 n1 n2 hq hd
      have g := cpX_ok (w := w) hM h (u := r.ev a) fun b hb => evX_spec hE hb
      have key : (match st with
        | true => Cv P q d (r.ev a) w fun v => K v w
        | false => Cw P q d (r.ev a) w K) := by
        cases st with
        | true => exact ⟨_, g.2, hK _ g.1⟩
        | false => exact ⟨_, w, g.2, hK _ g.1⟩
      cases d1 with
      | int k1 =>
        cases d2 with
        | int k2 => exact (n1 k1 k2 rfl rfl).elim
        | _ => simp only [hq, hd]; exact key
      | _ => simp only [hq, hd]; exact key
    · cases h
  | makeInterface t a =>
    simp only [ho] at h ⊢
    split at h
    · cases h
    · rename_i d y hn hu ha
      obtain rfl := Option.some.inj h
      have e1 := evX_spec hE ha
      have : vl σ (.fc t y) = some (.iface t (r.ev a)) := by simp only [vl, e1]
      have hk := hK _ this
      cases d <;> first | (simp only [hu]; exact hk) | exact (hn _ rfl).elim
    · cases h
  | slice t a l hh m =>
    simp only [ho] at h ⊢
    split at h
    · rename_i hu
      simp only [hu]
      unfold sstX at h
      split at h
      · rename_i q ha
        split at h
        · rename_i i j hi hj
          split at h
          · rename_i h1 h2
            obtain rfl := Option.some.inj h
            have e1 := evX_spec hE ha
            simp only [vl, Option.some.injEq] at e1
            rw [← e1]
            refine ⟨str q, i, j, rfl, bndX_spec hE hi, by rw [str_size]; exact bndX_spec hE hj, Nat.le_of_ble_eq_true h1, by rw [str_size]; exact Nat.le_of_ble_eq_true h2, hK _ ?_⟩
            rw [str_cut]
            rfl
          · cases h
        · cases h
      · cases h
    · rename_i e hu
      split at h
      · rename_i inf hi
        simp only [hu, hi]
        exact sslX_ok hE h fun v hv => hK v hv
      · cases h
    · rename_i q e hu
      simp only [hu]
      exact slaX_ok hM hu hE h fun v hv => hK v hv
    · cases h
  | extract a i => simp only [ho] at h ⊢; exact exX_ok hE h fun v hv => hK v hv
  | build t ps =>
    simp only [ho] at h ⊢
    split at h
    · rename_i xs hx
      obtain ⟨v, g1, g2⟩ := bdX_spec (w := w) (qs := bmap r.ev ps) h (by rw [xparts_spec hE hx]; rfl)
      exact ⟨v, g2, hK _ g1⟩
    · cases h
  | call c =>
    simp only [ho] at h ⊢
    have mm : ∀ mx xs, xargs ρ c.args.toList = some xs → mmX mx xs = some x → ∃ k a, ∃ bs : List Int, amap r.ev c.args = (Value.int k a :: bs.map (Value.int k)).toArray ∧ vl σ x = some (.int k (bs.foldl (mmR mx) a)) := by
      intro mx xs hx hm
      obtain ⟨k, a, bs, rfl, rfl⟩ := mm_ok hm
      have := xargs_spec hE hx
      obtain ⟨v1, vs1, e1, e2, e3⟩ := vls_cons this
      rw [vls_ints] at e2
      obtain rfl := Option.some.inj e2
      simp only [vl, Option.some.injEq] at e1
      subst e1
      exact ⟨k, a, bs, by unfold amap; rw [e3], rfl⟩
    split at h
    · rename_i hc
      simp only [hc]
      split at h
      · rename_i t ts y ys h1 h2
        obtain ⟨v1, vs1, e1, e2, e3⟩ := vls_cons (xargs_spec hE h2)
        rw [h1, e3]
        simp only
        split at h
        · rename_i l hu
          obtain rfl := Option.some.inj h
          simp only [vl, Option.some.injEq] at e1
          rw [hu]
          refine ⟨str l, e1.symm, hK _ ?_⟩
          rw [str_size]; rfl
        · rename_i e a n q hu
          obtain rfl := Option.some.inj h
          rw [hu]
          cases a with
          | none =>
            simp only [vl, Option.some.injEq] at e1
            exact ⟨none, n, q, e1.symm, hK _ rfl⟩
          | some a =>
            simp only [vl] at e1
            cases hs : σ a.1 with
            | none => rw [hs] at e1; cases e1
            | some z => rw [hs] at e1; exact ⟨_, n, _, (Option.some.inj e1).symm, hK _ rfl⟩
        · rename_i a b o q hu
          obtain rfl := Option.some.inj h
          rw [hu]
          obtain ⟨p, m, rfl⟩ := vl_es e1
          exact ⟨_, 0, _, rfl, hK _ rfl⟩
        · rename_i k e b hu
          obtain ⟨u, g1, g2⟩ := lmX_ok hM (ty := o.type) hu h e1
          rw [hu]
          refine ⟨u, ?_, hK _ g1⟩
          have := g2 ts vs1
          have ea : amap r.ev c.args = (v1 :: vs1).toArray := by unfold amap; rw [e3]
          have et : c.argTypes = (t :: ts).toArray := by rw [← h1]
          rw [ea, et]
          exact this
        · cases h
      · cases h
    · rename_i hc
      simp only [hc]
      have := capX_ok (P := P) (σ := σ) (w := w) (ty := o.type) (K := fun v => K v w) h (fun l hl => xargs_spec hE hl) fun v hv => hK v hv
      exact this
    · rename_i hc
      simp only [hc]
      split at h
      · rename_i xs hx
        obtain ⟨k, a, bs, e1, e2⟩ := mm false xs hx h
        rw [e1]
        exact ⟨_, (run_mm k w bs a).1, hK _ e2⟩
      · cases h
    · rename_i hc
      simp only [hc]
      split at h
      · rename_i xs hx
        obtain ⟨k, a, bs, e1, e2⟩ := mm true xs hx h
        rw [e1]
        exact ⟨_, (run_mm k w bs a).2, hK _ e2⟩
      · cases h
    · cases h
  | _ => simp only [ho] at h; cases h
end
end Go.Ev
