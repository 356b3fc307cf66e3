/- A verified evaluator for closed calls: equality, maps, methods. No program in sight. -/
import Derived.Test.YtbhbdleffackaaaGreatDoorE3
import Derived.ChangeKeysEq
import Derived.MapKept
set_option linter.unusedVariables false
set_option linter.unusedSimpArgs false
namespace Go.Ev
open Go Go.Vc
noncomputable section
variable {P : Program} {base : Bs} {σ : Sg} {s : St} {w w' : World}
def partX (P : Program) (e : TypeId) (xs : List X) (off : Nat) : Option X := match P.underlying e with
  | some (.struct _) | some (.array _ _) => (match P.info? e with
    | some i => some (.g ((xs.drop off).take i.size))
    | none => none)
  | some _ => xs[off]?
  | none => none
theorem cut_arr (vs : List Value) (a n : Nat) : vs.toArray.extract a (a + n) = ((vs.drop a).take n).toArray := by
  apply Array.ext'
  rw [Array.toList_extract, List.extract_eq_take_drop]
  simp
theorem partX_ok {e : TypeId} {xs : List X} {off : Nat} {x : X} {vs : List Value} (h : partX P e xs off = some x) (hv : vls σ xs = some vs) : ∃ v, vl σ x = some v ∧ ∀ w, (part e vs.toArray off).run P w = .ok v w := by
  unfold partX at h
  have big : ∀ d, P.underlying e = some d → ((∃ fs, d = .struct fs) ∨ ∃ n e, d = .array n e) → (match P.info? e with
    | some i => some (X.g ((xs.drop off).take i.size))
    | none => none) = some x → ∃ v, vl σ x = some v ∧ ∀ w, (part e vs.toArray off).run P w = .ok v w := by
    intro d hu hd h
    cases hi : P.info? e with
    | none => rw [hi] at h; cases h
    | some i =>
      rw [hi] at h
      obtain rfl := Option.some.inj h
      refine ⟨.agg ((vs.drop off).take i.size).toArray, ?_, fun w => ?_⟩
      · simp only [vl, vls_take i.size (vls_drop off hv)]
      · simp only [part, Sem.run_bind, run_agg_yes hu hd, Result.andThen_ok, if_true, run_sz hi, Sem.run_pure, cut_arr]
  cases hu : P.underlying e with
  | none => rw [hu] at h; cases h
  | some d =>
    rw [hu] at h
    cases d with
    | struct fs => exact big _ hu (.inl ⟨_, rfl⟩) h
    | array n a => exact big _ hu (.inr ⟨_, _, rfl⟩) h
    | _ =>
      obtain ⟨v, g1, g2⟩ := vls_get hv h
      refine ⟨v, g2, fun w => ?_⟩
      have g1' : vs.toArray[off]? = some v := by simpa using g1
      simp only [part, Sem.run_bind, run_agg_no hu (fun fs h => by cases h) (fun n e h => by cases h), Result.andThen_ok, Bool.false_eq_true, if_false, g1', Sem.run_pure]
def eq1 : TypeDesc → X → X → Option Bool
  | .bool, .b a, .b b => some (a == b)
  | .int _, .i k a, .i k' b => (match decide (k = k') with
    | true => some (a == b)
    | false => none)
  | .string, .s a, .s b => some (eqN a b)
  | .pointer _, .p none, .p b => some b.isNone
  | .pointer _, .p (some _), .p none => some false
  | .interface _, .ni, .ni => some true
  | .interface _, .ni, .fc _ _ => some false
  | .interface _, .fc _ _, .ni => some false
  | .slice _, .l none _ _, .l b _ _ => some b.isNone
  | .slice _, .l (some _) _ _, .l none _ _ => some false
  | .slice _, .e0 _ _ _, .l none _ _ => some false
  | .slice _, .l none _ _, .e0 _ _ _ => some false
  | .map _ _, .m none, .m b => some b.isNone
  | .map _ _, .m (some _), .m none => some false
  | .func _ _ _, .nf, .nf => some true
  | .func _ _ _, .nf, .f _ _ _ => some false
  | .func _ _ _, .f _ _ _, .nf => some false
  | _, _, _ => none
theorem vl_ps {a : Nat × Nat} {v : Value} (h : vl σ (.p (some a)) = some v) : ∃ q, v = .pointer (some q) := by
  simp only [vl] at h
  cases hs : σ a.1 with
  | none => rw [hs] at h; cases h
  | some r => rw [hs] at h; exact ⟨_, (Option.some.inj h).symm⟩
theorem vl_ls {a : Nat × Nat} {n c : Nat} {v : Value} (h : vl σ (.l (some a) n c) = some v) : ∃ q m d, v = .slice (some q) m d := by
  simp only [vl] at h
  cases hs : σ a.1 with
  | none => rw [hs] at h; cases h
  | some r => rw [hs] at h; exact ⟨_, _, _, (Option.some.inj h).symm⟩
theorem vl_es {b o q : Nat} {v : Value} (h : vl σ (.e0 b o q) = some v) : ∃ p m, v = .slice (some p) 0 m := by
  simp only [vl] at h
  cases hs : σ b with
  | none => rw [hs] at h; cases h
  | some r => rw [hs] at h; exact ⟨_, _, (Option.some.inj h).symm⟩
theorem vl_ms {a : Nat} {v : Value} (h : vl σ (.m (some a)) = some v) : ∃ q, v = .map (some q) := by
  simp only [vl] at h
  cases hs : σ a with
  | none => rw [hs] at h; cases h
  | some r => rw [hs] at h; exact ⟨_, (Option.some.inj h).symm⟩
theorem vl_fs {fn : Fn} {a c : List X} {v : Value} (h : vl σ (.f fn a c) = some v) : ∃ us vs, v = .func fn us.toArray vs.toArray ∧ vls σ a = some us ∧ vls σ c = some vs := by
  simp only [vl] at h
  cases hs : vls σ a with
  | none => rw [hs] at h; cases h
  | some r =>
    cases hc : vls σ c with
    | none => rw [hs, hc] at h; cases h
    | some r' => rw [hs, hc] at h; exact ⟨_, _, (Option.some.inj h).symm, rfl, rfl⟩
theorem vl_fcs {t : TypeId} {x : X} {v : Value} (h : vl σ (.fc t x) = some v) : ∃ u, v = .iface t u ∧ vl σ x = some u := by
  simp only [vl] at h
  cases hs : vl σ x with
  | none => rw [hs] at h; cases h
  | some r => rw [hs] at h; exact ⟨_, (Option.some.inj h).symm, rfl⟩
theorem eq1_ok {t : TypeId} {d : TypeDesc} {x y : X} {u v : Value} {b : Bool} (hu : P.underlying t = some d) (h : eq1 d x y = some b) (hx : vl σ x = some u) (hy : vl σ y = some v) (D : Nat) (w : World) : (Op.equalIn (D + 1) t u v).run P w = .ok b w := by
  unfold eq1 at h
  split at h
  · simp only [vl, Option.some.injEq] at hx hy h; subst hx; subst hy; subst h; exact run_equalIn_bool' w D t _ _ hu
  · split at h
    · rename_i hk
      have hk := of_decide_eq_true hk
      subst hk
      simp only [vl, Option.some.injEq] at hx hy h; subst hx; subst hy; subst h; exact run_equalIn_int w D t _ _ _ _ hu
    · cases h
  · simp only [vl, Option.some.injEq] at hx hy h; subst hx; subst hy; subst h
    rw [run_equalIn_string w D t _ _ hu, eqN_spec, seq_eq]
  · rename_i q
    simp only [vl, Option.some.injEq] at hx h; subst hx; subst h
    cases q with
    | none => simp only [vl, Option.some.injEq] at hy; subst hy; simp [Op.equalIn, run_underlying hu]
    | some q => obtain ⟨q', rfl⟩ := vl_ps hy; simp [Op.equalIn, run_underlying hu]
  · simp only [vl, Option.some.injEq] at hy h; subst hy; subst h
    obtain ⟨q', rfl⟩ := vl_ps hx; simp [Op.equalIn, run_underlying hu]
  · simp only [vl, Option.some.injEq] at hx hy h; subst hx; subst hy; subst h; simp [Op.equalIn, run_underlying hu]
  · simp only [vl, Option.some.injEq] at hx h; subst hx; subst h
    obtain ⟨q', rfl, _⟩ := vl_fcs hy; simp [Op.equalIn, run_underlying hu]
  · simp only [vl, Option.some.injEq] at hy h; subst hy; subst h
    obtain ⟨q', rfl, _⟩ := vl_fcs hx; simp [Op.equalIn, run_underlying hu]
  · rename_i q _ _
    simp only [vl, Option.some.injEq] at hx h; subst hx; subst h
    cases q with
    | none => simp only [vl, Option.some.injEq] at hy; subst hy; simp [Op.equalIn, run_underlying hu]
    | some q => obtain ⟨q', _, _, rfl⟩ := vl_ls hy; simp [Op.equalIn, run_underlying hu]
  · simp only [vl, Option.some.injEq] at hy h; subst hy; subst h
    obtain ⟨q', _, _, rfl⟩ := vl_ls hx; simp [Op.equalIn, run_underlying hu]
  · simp only [vl, Option.some.injEq] at hy h; subst hy; subst h
    obtain ⟨q', _, rfl⟩ := vl_es hx; simp [Op.equalIn, run_underlying hu]
  · simp only [vl, Option.some.injEq] at hx h; subst hx; subst h
    obtain ⟨q', _, rfl⟩ := vl_es hy; simp [Op.equalIn, run_underlying hu]
  · rename_i q
    simp only [vl, Option.some.injEq] at hx h; subst hx; subst h
    cases q with
    | none => simp only [vl, Option.some.injEq] at hy; subst hy; simp [Op.equalIn, run_underlying hu]
    | some q => obtain ⟨q', rfl⟩ := vl_ms hy; simp [Op.equalIn, run_underlying hu]
  · simp only [vl, Option.some.injEq] at hy h; subst hy; subst h
    obtain ⟨q', rfl⟩ := vl_ms hx; simp [Op.equalIn, run_underlying hu]
  · simp only [vl, Option.some.injEq] at hx hy h; subst hx; subst hy; subst h; simp [Op.equalIn, run_underlying hu]
  · simp only [vl, Option.some.injEq] at hx h; subst hx; subst h
    obtain ⟨_, _, rfl, _⟩ := vl_fs hy; simp [Op.equalIn, run_underlying hu]
  · simp only [vl, Option.some.injEq] at hy h; subst hy; subst h
    obtain ⟨_, _, rfl, _⟩ := vl_fs hx; simp [Op.equalIn, run_underlying hu]
  · cases h
def eqFs (P : Program) (eq : TypeId → X → X → Option Bool) (xs ys : List X) : List Field → Option Bool
  | [] => some true
  | f :: fs => match f.name == "_" with
    | true => eqFs P eq xs ys fs
    | false => (match partX P f.type xs f.offset, partX P f.type ys f.offset with
      | some a, some b => (match eq f.type a b with
        | some true => eqFs P eq xs ys fs
        | some false => some false
        | none => none)
      | _, _ => none)
def eqIs (P : Program) (eq : TypeId → X → X → Option Bool) (e : TypeId) (c : Nat) (xs ys : List X) : List Nat → Option Bool
  | [] => some true
  | i :: is => (match partX P e xs (i * c), partX P e ys (i * c) with
    | some a, some b => (match eq e a b with
      | some true => eqIs P eq e c xs ys is
      | some false => some false
      | none => none)
    | _, _ => none)
def eqT (P : Program) : Nat → TypeId → X → X → Option Bool
  | 0, _, _, _ => none
  | d + 1, t, x, y => match P.underlying t with
    | some (.struct fs) => (match P.stoodInHeld t, x, y with
      | false, .g xs, .g ys => eqFs P (eqT P d) xs ys fs.toList
      | _, _, _ => none)
    | some (.array n e) => (match P.info? e, x, y with
      | some i, .g xs, .g ys => eqIs P (eqT P d) e i.size xs ys (List.range n)
      | _, _, _ => none)
    | some k => eq1 k x y
    | none => none
def EqOk (P : Program) (σ : Sg) (D : Nat) (eq : TypeId → X → X → Option Bool) : Prop := ∀ t x y u v b, eq t x y = some b → vl σ x = some u → vl σ y = some v → ∀ w, (Op.equalIn D t u v).run P w = .ok b w
theorem eqFs_ok {D : Nat} {eq : TypeId → X → X → Option Bool} (he : EqOk P σ D eq) {xs ys : List X} {us vs : List Value} (hx : vls σ xs = some us) (hy : vls σ ys = some vs) : ∀ {fs : List Field} {b : Bool}, eqFs P eq xs ys fs = some b → ∀ w, (Op.eqFields D us.toArray vs.toArray fs).run P w = .ok b w
  | [], b, h, w => by obtain rfl := Option.some.inj h; rfl
  | f :: fs, b, h, w => by
    simp only [eqFs] at h
    unfold Op.eqFields
    cases hn : f.name == "_" with
    | true =>
      rw [hn] at h
      have hn' : f.name = "_" := by simpa using hn
      rw [if_neg (by simp [hn'])]
      exact eqFs_ok he hx hy h w
    | false =>
      rw [hn] at h
      have hn' : f.name ≠ "_" := by simpa using hn
      rw [if_pos hn']
      simp only at h
      split at h
      · rename_i a c ha hc
        obtain ⟨v1, g1, g2⟩ := partX_ok ha hx
        obtain ⟨v2, g3, g4⟩ := partX_ok hc hy
        split at h
        · rename_i hb
          simp only [Sem.run_bind, g2, g4, Result.andThen_ok, he _ _ _ _ _ _ hb g1 g3, Bool.not_true, Bool.false_eq_true, if_false]
          exact eqFs_ok he hx hy h w
        · rename_i hb
          obtain rfl := Option.some.inj h
          simp only [Sem.run_bind, g2, g4, Result.andThen_ok, he _ _ _ _ _ _ hb g1 g3, Bool.not_false, if_true, Sem.run_pure]
        · cases h
      · cases h
theorem eqIs_ok {D : Nat} {eq : TypeId → X → X → Option Bool} (he : EqOk P σ D eq) {e : TypeId} {xs ys : List X} {us vs : List Value} {c : Nat} (hx : vls σ xs = some us) (hy : vls σ ys = some vs) : ∀ {is : List Nat} {b : Bool}, eqIs P eq e c xs ys is = some b → ∀ w, (Op.eqItems D e c us.toArray vs.toArray is).run P w = .ok b w
  | [], b, h, w => by obtain rfl := Option.some.inj h; rfl
  | i :: is, b, h, w => by
    simp only [eqIs] at h
    unfold Op.eqItems
    split at h
    · rename_i a q ha hc
      obtain ⟨v1, g1, g2⟩ := partX_ok ha hx
      obtain ⟨v2, g3, g4⟩ := partX_ok hc hy
      split at h
      · rename_i hb
        simp only [Sem.run_bind, g2, g4, Result.andThen_ok, he _ _ _ _ _ _ hb g1 g3, Bool.not_true, Bool.false_eq_true, if_false]
        exact eqIs_ok he hx hy h w
      · rename_i hb
        obtain rfl := Option.some.inj h
        simp only [Sem.run_bind, g2, g4, Result.andThen_ok, he _ _ _ _ _ _ hb g1 g3, Bool.not_false, if_true, Sem.run_pure]
      · cases h
    · cases h
theorem eqT_ok (k : Nat) : ∀ d, EqOk P σ (d + k) (eqT P d)
  | 0 => fun t x y u v b h => by simp only [eqT] at h; cases h
  | d + 1 => fun t x y u v b h hx hy w => by
    simp only [eqT] at h
    have hd : d + 1 + k = d + k + 1 := by omega
    rw [hd]
    cases hu : P.underlying t with
    | none => rw [hu] at h; cases h
    | some q =>
      rw [hu] at h
      cases q with
      | struct fs =>
        simp only at h
        split at h
        · rename_i xs ys hp
          simp only [vl] at hx hy
          cases h1 : vls σ xs with
          | none => rw [h1] at hx; cases hx
          | some us =>
            cases h2 : vls σ ys with
            | none => rw [h2] at hy; cases hy
            | some vs =>
              rw [h1] at hx; rw [h2] at hy
              obtain rfl := Option.some.inj hx
              obtain rfl := Option.some.inj hy
              have hf : P.fieldsOf t = fs := by unfold Program.fieldsOf; rw [hu]
              rw [run_equalIn_struct w (d + k) t _ _ (by rw [hf]; exact hu) hp, hf]
              exact eqFs_ok (eqT_ok k d) h1 h2 h w
        · cases h
      | array n e =>
        simp only at h
        split at h
        · rename_i i xs ys hi
          simp only [vl] at hx hy
          cases h1 : vls σ xs with
          | none => rw [h1] at hx; cases hx
          | some us =>
            cases h2 : vls σ ys with
            | none => rw [h2] at hy; cases hy
            | some vs =>
              rw [h1] at hx; rw [h2] at hy
              obtain rfl := Option.some.inj hx
              obtain rfl := Option.some.inj hy
              rw [run_equalIn_array w (d + k) _ _ hu hi, show P.cellsOf e = i.size by unfold Program.cellsOf; rw [hi]; rfl]
              exact eqIs_ok (eqT_ok k d) h1 h2 h w
        · cases h
      | _ => exact eq1_ok hu h hx hy (d + k) w
def isC : Operand → Bool
  | .const _ => true
  | _ => false
def gdE (P : Program) (t : TypeId) (A B : Operand) : X → X → Bool
  | .ni, .ni => (match isC A with
    | true => true
    | false => isC B)
  | .g _, .g _ => (match P.eqGuardType P.depth t with
    | true => false
    | false => true)
  | _, _ => true
theorem isC_ok {A : Operand} (h : isC A = true) : ∃ v, A = .const v := by
  cases A with
  | const v => exact ⟨v, rfl⟩
  | _ => cases h
theorem vl_nil {x : X} (h : vl σ x = some .nilIface) : x = .ni := by
  cases x with
  | ni => rfl
  | p a => cases a with
    | none => simp [vl] at h
    | some a => obtain ⟨_, h⟩ := vl_ps h; cases h
  | l a n c => cases a with
    | none => simp [vl] at h
    | some a => obtain ⟨_, _, _, h⟩ := vl_ls h; cases h
  | m a => cases a with
    | none => simp [vl] at h
    | some a => obtain ⟨_, h⟩ := vl_ms h; cases h
  | f fn a c => obtain ⟨_, _, h, _⟩ := vl_fs h; cases h
  | e0 b o q => obtain ⟨_, _, h⟩ := vl_es h; cases h
  | fc t x => obtain ⟨_, h, _⟩ := vl_fcs h; cases h
  | g xs => simp only [vl] at h; cases hs : vls σ xs <;> rw [hs] at h <;> cases h
  | t xs => simp only [vl] at h; cases hs : vls σ xs <;> rw [hs] at h <;> cases h
  | _ => simp [vl] at h
theorem vl_agg {x : X} {cs : Array Value} (h : vl σ x = some (.agg cs)) : ∃ xs vs, x = .g xs ∧ vls σ xs = some vs ∧ cs = vs.toArray := by
  cases x with
  | g xs =>
    simp only [vl] at h
    cases hs : vls σ xs with
    | none => rw [hs] at h; cases h
    | some vs => rw [hs] at h; exact ⟨xs, vs, rfl, hs, by have := Option.some.inj h; cases this; rfl⟩
  | p a => cases a with
    | none => simp [vl] at h
    | some a => obtain ⟨_, h⟩ := vl_ps h; cases h
  | l a n c => cases a with
    | none => simp [vl] at h
    | some a => obtain ⟨_, _, _, h⟩ := vl_ls h; cases h
  | m a => cases a with
    | none => simp [vl] at h
    | some a => obtain ⟨_, h⟩ := vl_ms h; cases h
  | f fn a c => obtain ⟨_, _, h, _⟩ := vl_fs h; cases h
  | e0 b o q => obtain ⟨_, _, h⟩ := vl_es h; cases h
  | fc t x => obtain ⟨_, h, _⟩ := vl_fcs h; cases h
  | t xs => simp only [vl] at h; cases hs : vls σ xs <;> rw [hs] at h <;> cases h
  | _ => simp [vl] at h
theorem gd_main {t : TypeId} {A B : Operand} {u v : Value} {op : BinOp} (w : World) (hn : u = .nilIface → v = .nilIface → isC A = true ∨ isC B = true) (ha : ∀ cs ds, u = .agg cs → v = .agg ds → P.eqGuardType P.depth t = false) : (eqGuard op t A B u v).run P w = .ok () w := by
  have key : ∀ q : BinOp, (q = .eql ∨ q = .neq) → (eqGuard q t A B u v).run P w = .ok () w := by
    intro q hq
    unfold eqGuard
    rw [if_neg (by rcases hq with rfl | rfl <;> decide)]
    split
    · rcases hn rfl rfl with h | h
      · obtain ⟨v, rfl⟩ := isC_ok h; rfl
      · obtain ⟨v, rfl⟩ := isC_ok h; simp
    · simp [run_program, ha _ _ rfl rfl]
    · rfl
  cases op with
  | eql => exact key _ (.inl rfl)
  | neq => exact key _ (.inr rfl)
  | _ => rfl
theorem gdE_ok {t : TypeId} {A B : Operand} {x y : X} {u v : Value} {op : BinOp} (h : gdE P t A B x y = true) (hx : vl σ x = some u) (hy : vl σ y = some v) (w : World) : (eqGuard op t A B u v).run P w = .ok () w := by
  refine gd_main w (fun h1 h2 => ?_) fun cs ds h1 h2 => ?_
  · subst h1; subst h2
    have h1 := vl_nil hx
    have h2 := vl_nil hy
    subst h1; subst h2
    simp only [gdE] at h
    cases hA : isC A with
    | true => exact .inl rfl
    | false => rw [hA] at h; exact .inr h
  · subst h1; subst h2
    obtain ⟨xs, us, rfl, _⟩ := vl_agg hx
    obtain ⟨ys, vs, rfl, _⟩ := vl_agg hy
    simp only [gdE] at h
    cases hg : P.eqGuardType P.depth t with
    | true => rw [hg] at h; cases h
    | false => rfl
/-- Comparison where the formula is the model's own. -/
def beX (P : Program) (op : BinOp) (t : TypeId) (A B : Operand) (x y : Option X) : Option X := match x, y with
  | some x, some y => (match gdE P t A B x y with
    | true => (match op with
      | .eql => (match eqT P 20 t x y with
        | some b => some (.b b)
        | none => none)
      | .neq => (match eqT P 20 t x y with
        | some b => some (.b (!b))
        | none => none)
      | _ => none)
    | false => none)
  | _, _ => none
def oddV : Value → Bool
  | .agg _ | .slice _ _ _ | .map _ | .func _ _ _ | .nilFunc | .iface _ _ | .nilIface => true
  | _ => false
theorem eq1_odd {d : TypeDesc} {x y : X} {u v : Value} {b : Bool} (h1 : ∀ k, d ≠ .int k) (h2 : d ≠ .string) (h3 : d ≠ .bool) (h4 : ∀ e, d ≠ .pointer e) (h : eq1 d x y = some b) (hx : vl σ x = some u) (hy : vl σ y = some v) : oddV u = true := by
  unfold eq1 at h
  split at h
  · exact absurd rfl h3
  · exact absurd rfl (h1 _)
  · exact absurd rfl h2
  · exact absurd rfl (h4 _)
  · exact absurd rfl (h4 _)
  · simp only [vl, Option.some.injEq] at hx; subst hx; rfl
  · simp only [vl, Option.some.injEq] at hx; subst hx; rfl
  · obtain ⟨_, rfl, _⟩ := vl_fcs hx; rfl
  · simp only [vl, Option.some.injEq] at hx; subst hx; rfl
  · obtain ⟨_, _, _, rfl⟩ := vl_ls hx; rfl
  · obtain ⟨_, _, rfl⟩ := vl_es hx; rfl
  · simp only [vl, Option.some.injEq] at hx; subst hx; rfl
  · simp only [vl, Option.some.injEq] at hx; subst hx; rfl
  · obtain ⟨_, rfl⟩ := vl_ms hx; rfl
  · simp only [vl, Option.some.injEq] at hx; subst hx; rfl
  · simp only [vl, Option.some.injEq] at hx; subst hx; rfl
  · obtain ⟨_, _, rfl, _⟩ := vl_fs hx; rfl
  · cases h
theorem eqT_odd {t : TypeId} {d : TypeDesc} {n : Nat} {x y : X} {u v : Value} {b : Bool} (hd : P.underlying t = some d) (h1 : ∀ k, d ≠ .int k) (h2 : d ≠ .string) (h3 : d ≠ .bool) (h4 : ∀ e, d ≠ .pointer e) (h : eqT P n t x y = some b) (hx : vl σ x = some u) (hy : vl σ y = some v) : oddV u = true := by
  cases n with
  | zero => simp only [eqT] at h; cases h
  | succ n =>
    simp only [eqT, hd] at h
    cases d with
    | struct fs =>
      simp only at h
      split at h
      · simp only [vl] at hx
        rename_i xs ys hp
        cases hs : vls σ xs <;> rw [hs] at hx
        · cases hx
        · obtain rfl := Option.some.inj hx; rfl
      · cases h
    | array n e =>
      simp only at h
      split at h
      · simp only [vl] at hx
        rename_i i xs ys hp
        cases hs : vls σ xs <;> rw [hs] at hx
        · cases hx
        · obtain rfl := Option.some.inj hx; rfl
      · cases h
    | _ => exact eq1_odd h1 h2 h3 h4 h hx hy
theorem beX_ok {t : TypeId} {d : TypeDesc} {op : BinOp} {A B : Operand} {x y : Option X} {z : X} {f : Operand → Value} (hd : P.underlying t = some d) (h1 : ∀ k, d ≠ .int k) (h2 : d ≠ .string) (h3 : d ≠ .bool) (h4 : ∀ e, d ≠ .pointer e)
    (h : beX P op t A B x y = some z) (hx : ∀ a, x = some a → vl σ a = some (f A)) (hy : ∀ a, y = some a → vl σ a = some (f B)) {w : World} {K : Value → Prop} (hK : ∀ v, vl σ z = some v → K v) : Be P op t A B (f A) (f B) w K := by
  unfold beX at h
  split at h
  · rename_i x y
    have hx := hx _ rfl
    have hy := hy _ rfl
    split at h
    · rename_i hg
      have gd := fun w => gdE_ok (op := op) hg hx hy w
      have fin : ∀ b : Bool, eqT P 20 t x y = some b → (Op.equal t (f A) (f B)).run P w = .ok b w ∧ oddV (f A) = true := fun b hb => ⟨eqT_ok 9980 20 t x y _ _ b hb hx hy w, eqT_odd hd h1 h2 h3 h4 hb hx hy⟩
      split at h
      · split at h
        · rename_i b hb
          obtain rfl := Option.some.inj h
          obtain ⟨g1, g2⟩ := fin b hb
          refine ⟨.bool b, ?_, hK _ rfl⟩
          rw [Sem.run_bind, gd w]
          simp only [Result.andThen_ok]
          clear fin gd hK hx hy
          generalize f A = p at g1 g2 ⊢
          generalize f B = q at g1 ⊢
          cases p <;> first | exact Bool.noConfusion g2 | (cases q <;> simp only [binOp, Sem.run_bind, g1, Result.andThen_ok, Sem.run_pure])
        · cases h
      · split at h
        · rename_i b hb
          obtain rfl := Option.some.inj h
          obtain ⟨g1, g2⟩ := fin b hb
          refine ⟨.bool (!b), ?_, hK _ rfl⟩
          rw [Sem.run_bind, gd w]
          simp only [Result.andThen_ok]
          clear fin gd hK hx hy
          generalize f A = p at g1 g2 ⊢
          generalize f B = q at g1 ⊢
          cases p <;> first | exact Bool.noConfusion g2 | (cases q <;> simp only [binOp, Sem.run_bind, g1, Result.andThen_ok, Sem.run_pure])
        · cases h
      · cases h
    · cases h
  · cases h
/-! ### Maps -/
theorem mgetObj {r : Nat} {es : Array MapEntry} {clock : Nat} (hb : w.heap[r]? = some (.map es clock)) : (getObj r).run P w = .ok (.map es clock) w := by
  simp [getObj, Sem.run, hb]
theorem msetObj {r : Nat} {es : Array MapEntry} {clock : Nat} (o : Obj) (hb : w.heap[r]? = some (.map es clock)) : (setObj r o).run P w = .ok () { w with heap := w.heap.setIfInBounds r o } := by
  simp [setObj, Sem.run, hb]
theorem mfindKey {kt : TypeId} {d : TypeDesc} {k : Value} {l : List MapEntry} {a : Option (Nat × Value)} (hd : P.underlying kt = some d) (h : Instr.findNow d k l 0 = some a) : (Instr.findKey kt k l).run P w = .ok a w := by
  simp [Instr.findKey, run_underlying hd, Result.andThen, h]
def keyOk : TypeDesc → X → Bool
  | .int _, .i _ _ => true
  | .string, .s _ => true
  | _, _ => false
def keyEq : X → X → Option Bool
  | .i k a, .i k' b => (match decide (k = k') with
    | true => some (a == b)
    | false => none)
  | .s a, .s b => some (eqN a b)
  | _, _ => none
def findX (k : X) : List (X × X) → Nat → Option (Option (Nat × X))
  | [], _ => some none
  | e :: es, i => match keyEq k e.1 with
    | some true => some (some (i, e.2))
    | some false => findX k es (i + 1)
    | none => none
theorem keyEq_ok {d : TypeDesc} {x y : X} {u v : Value} {b : Bool} (hk : keyOk d x = true) (h : keyEq x y = some b) (hx : vl σ x = some u) (hy : vl σ y = some v) : Instr.sameNow d u v = some b := by
  unfold keyEq at h
  split at h
  · split at h
    · rename_i hk'
      have hk' := of_decide_eq_true hk'
      subst hk'
      simp only [vl, Option.some.injEq] at hx hy h; subst hx; subst hy; subst h
      cases d <;> simp [keyOk] at hk
      simp [Instr.sameNow]
    · cases h
  · simp only [vl, Option.some.injEq] at hx hy h; subst hx; subst hy; subst h
    cases d <;> simp [keyOk] at hk
    simp only [Instr.sameNow]
    rw [beq_toListBytes, seq_eq, eqN_spec]
  · cases h
def FX (σ : Sg) (k : X) (es : List (X × X)) (i : Nat) : Option (Nat × X) → Option (Nat × Value) → Prop
  | none, none => True
  | some r, some q => r.1 = q.1 ∧ vl σ r.2 = some q.2 ∧ i ≤ r.1 ∧ (∃ e, es[r.1 - i]? = some e ∧ keyEq k e.1 = some true)
  | _, _ => False
theorem findX_ok {d : TypeDesc} {k : X} {kv : Value} (hk : keyOk d k = true) (hv : vl σ k = some kv) : ∀ {es : List (X × X)} {l : List MapEntry} {i : Nat} {r : Option (Nat × X)}, EsR σ es l → findX k es i = some r →
    ∃ q, Instr.findNow d kv l i = some q ∧ FX σ k es i r q
  | [], [], i, r, _, h => by
    obtain rfl := Option.some.inj h
    exact ⟨none, rfl, trivial⟩
  | (a, b) :: es, e :: l, i, r, ⟨h1, h2, h3⟩, h => by
    simp only [findX] at h
    cases hq : keyEq k a with
    | none => rw [hq] at h; cases h
    | some c =>
      have hs := keyEq_ok hk hq hv h1
      rw [hq] at h
      cases c with
      | true =>
        obtain rfl := Option.some.inj h
        exact ⟨some (i, e.val), by simp [Instr.findNow, hs], rfl, h2, Nat.le_refl _, (a, b), by simp, hq⟩
      | false =>
        obtain ⟨q, g1, g2⟩ := findX_ok hk hv (i := i + 1) h3 h
        refine ⟨q, by simp [Instr.findNow, hs, g1], ?_⟩
        cases r with
        | none =>
          cases q with
          | none => trivial
          | some q => exact g2.elim
        | some r =>
          obtain ⟨j, x⟩ := r
          cases q with
          | none => exact g2.elim
          | some q =>
            obtain ⟨j', v⟩ := q
            obtain ⟨e1, e2, e3, e', e4, e5⟩ := g2
            refine ⟨e1, e2, Nat.le_of_succ_le e3, e', ?_, e5⟩
            show ((a, b) :: es)[j - i]? = _
            have e3' : i + 1 ≤ j := e3
            rw [show j - i = (j - (i + 1)) + 1 by omega, List.getElem?_cons_succ]
            exact e4
  | [], _ :: _, _, _, h, _ => h.elim
  | _ :: _, [], _, _, h, _ => h.elim
theorem checkKey_ok {d : TypeDesc} {kt : TypeId} {k : X} {kv : Value} (hd : P.underlying kt = some d) (hk : keyOk d k = true) (hv : vl σ k = some kv) (e : Bool) (n : Nat) (w : World) : (Instr.checkKey e (n + 1) kt kv).run P w = .ok () w := by
  unfold Instr.checkKey
  simp only [Sem.run_bind, run_underlying hd, Result.andThen]
  cases d <;> cases k <;> simp [keyOk] at hk
  all_goals (simp only [vl, Option.some.injEq] at hv; subst hv; rfl)
/-- The zero value of a type, whole. -/
def zeroVX (P : Program) (t : TypeId) : Option X := match P.info? t with
  | some i => (match i.zero with
    | some (.agg cs) => (match ofVs cs.toList with
      | some xs => some (.g xs)
      | none => none)
    | some z => ofV z
    | none => none)
  | none => none
theorem zeroVX_ok {t : TypeId} {x : X} (h : zeroVX P t = some x) : ∃ z, vl σ x = some z ∧ ∀ w, (zeroValue t).run P w = .ok z w := by
  unfold zeroVX at h
  split at h
  · rename_i i hi
    have run : ∀ z, i.zero = some z → ∀ w, (zeroValue t).run P w = .ok z w := fun z hz w => by simp [zeroValue, typeInfo, hi, hz]
    split at h
    · rename_i cs hz
      split at h
      · rename_i xs hxs
        obtain rfl := Option.some.inj h
        refine ⟨_, ?_, run _ hz⟩
        simp only [vl, vls_ofVs hxs]
      · cases h
    · rename_i z _ hz
      exact ⟨_, vl_ofV h, run _ hz⟩
    · cases h
  · cases h
def esX (s : St) : Option Nat → Option (List (X × X))
  | none => some []
  | some b => (match s.mo b with
    | some (.mp es) => some es
    | _ => none)
def lkR (ok : Bool) (v : X) (b : Bool) : X := match ok with
  | true => .t [v, .b b]
  | false => v
def lkX (P : Program) (s : St) (t : TypeId) (x i : Option X) (ok : Bool) : Option X := match P.underlying t, x, i with
  | some (.map k e), some (.m b), some i => (match P.underlying k, esX s b with
    | some d, some es => (match keyOk d i, findX i es 0 with
      | true, some (some q) => some (lkR ok q.2 true)
      | true, some none => (match zeroVX P e with
        | some z => some (lkR ok z false)
        | none => none)
      | _, _ => none)
    | _, _ => none)
  | _, _, _ => none
theorem lkR_ok {ok b : Bool} {x : X} {v : Value} (h : vl σ x = some v) : vl σ (lkR ok x b) = some (if ok then .tuple #[v, .bool b] else v) := by
  cases ok with
  | true => simp only [lkR, vl, vls, h]; rfl
  | false => exact h
theorem lkX_ok (hM : Mem P base σ s w) {t : TypeId} {x i : Option X} {ok : Bool} {z : X} {u v : Value} (h : lkX P s t x i ok = some z) (hx : ∀ a, x = some a → vl σ a = some u) (hi : ∀ a, i = some a → vl σ a = some v) {K : Value → Prop} (hK : ∀ v, vl σ z = some v → K v) : Lk P t u v ok w K := by
  unfold lkX at h
  split at h
  · rename_i k e b i ht
    have hx := hx _ rfl
    have hi := hi _ rfl
    split at h
    · rename_i d es hd hes
      -- the entries
      have hent : ∃ l : List MapEntry, EsR σ es l ∧ ((u = .map none ∧ l = []) ∨ ∃ rb clock, u = .map (some rb) ∧ w.heap[rb]? = some (.map l.toArray clock)) := by
        cases b with
        | none =>
          simp only [vl, Option.some.injEq] at hx
          obtain rfl := Option.some.inj hes
          exact ⟨[], trivial, .inl ⟨hx.symm, rfl⟩⟩
        | some b =>
          simp only [esX] at hes
          split at hes
          · rename_i es' hb
            obtain rfl := Option.some.inj hes
            obtain ⟨rb, g1, g2, l, clock, g3, g4⟩ := hM.mown b _ hb
            simp only [vl, g1, Option.some.injEq] at hx
            exact ⟨l, g4, .inr ⟨rb, clock, hx.symm, g3⟩⟩
          · cases hes
      obtain ⟨l, hE, hu⟩ := hent
      have fin : ∀ r, keyOk d i = true → findX i es 0 = some r → ∀ (z' : X) (zv : Value), (match r with
          | some q => z' = q.2 ∧ vl σ z' = some zv
          | none => zeroVX P e = some z' ∧ vl σ z' = some zv) → z = lkR ok z' r.isSome → Lk P t u v ok w K := by
        intro r hk hf z' zv hz hzz
        obtain ⟨q, g1, g2⟩ := findX_ok hk hi hE hf
        have hfk := mfindKey (P := P) (w := w) hd g1
        have hck : ∀ b, (Instr.checkKey b 10000 k v).run P w = .ok () w := fun b => checkKey_ok hd hk hi b 9999 w
        refine ⟨if ok then .tuple #[zv, .bool r.isSome] else zv, ?_, hK _ (by rw [hzz]; exact lkR_ok (by
          cases r with
          | none => exact hz.2
          | some r => exact hz.2))⟩
        unfold Instr.lookup
        rw [Sem.run_bind, run_underlying ht]
        cases r with
        | none =>
          cases q with
          | some q => exact g2.elim
          | none =>
            obtain ⟨zv', e1, e2⟩ := zeroVX_ok (σ := σ) hz.1
            rw [hz.2] at e1
            obtain rfl := Option.some.inj e1
            rcases hu with ⟨rfl, rfl⟩ | ⟨rb, clock, rfl, g3⟩
            · simp only [Result.andThen_ok, Sem.run_bind, Sem.run_pure, hck, List.toList_toArray, hfk, e2, Option.isSome_none]
            · simp only [Result.andThen_ok, Sem.run_bind, Sem.run_pure, mgetObj g3, hck, List.toList_toArray, hfk, e2, Option.isSome_none]
        | some r =>
          obtain ⟨j, x'⟩ := r
          cases q with
          | none => exact g2.elim
          | some q =>
            obtain ⟨j', v'⟩ := q
            obtain ⟨_, e2, _⟩ := g2
            obtain ⟨rfl, e3⟩ := hz
            simp only at e2 e3
            rw [e2] at e3
            obtain rfl := Option.some.inj e3
            rcases hu with ⟨rfl, rfl⟩ | ⟨rb, clock, rfl, g3⟩
            · simp only [Result.andThen_ok, Sem.run_bind, Sem.run_pure, hck, List.toList_toArray, hfk, Option.isSome_some]
            · simp only [Result.andThen_ok, Sem.run_bind, Sem.run_pure, mgetObj g3, hck, List.toList_toArray, hfk, Option.isSome_some]
      split at h
      · rename_i q hk hf
        obtain rfl := Option.some.inj h
        obtain ⟨q', g1, g2⟩ := findX_ok hk hi hE hf
        cases q' with
        | none => exact g2.elim
        | some q' => exact fin (some q) hk hf q.2 q'.2 ⟨rfl, g2.2.1⟩ rfl
      · rename_i hk hf
        split at h
        · rename_i z' hz
          obtain rfl := Option.some.inj h
          obtain ⟨zv, e1, _⟩ := zeroVX_ok (σ := σ) hz
          exact fin none hk hf z' zv ⟨hz, e1⟩ rfl
        · cases h
      · cases h
    · cases h
  · cases h
/-! ### Methods -/
def methX (P : Program) (t : TypeId) (name : String) : Option FuncId := match P.info? t, P.underlying t with
  | some i, some (.pointer _) => (match i.methods.toList.find? (·.name == name) with
    | some m => (match m.path.isEmpty, m.func with
      | true, some (f, true) => some f
      | _, _ => none)
    | none => none)
  | _, _ => none
theorem methX_ok {t : TypeId} {name : String} {f : FuncId} {v : Value} (h : methX P t name = some f) (n : Nat) (w : World) : (method (n + 1) t v name).run P w = .ok (f, v) w := by
  unfold methX at h
  split at h
  · rename_i i e hi hu
    split at h
    · rename_i m hm
      split at h
      · rename_i f' hp hf
        obtain rfl := Option.some.inj h
        have hm' : i.methods.find? (·.name == name) = some m := by rw [← hm, Array.find?_toList]
        have hpath : m.path.toList = [] := by
          have := Array.isEmpty_iff.1 hp
          rw [this]
        unfold method
        rw [Sem.run_bind, show (typeInfo t).run P w = .ok i w by simp [typeInfo, hi]]
        simp only [Result.andThen_ok, hm', hpath, follow, Sem.run_bind, Sem.run_pure, hf]
        simp only [receiverAt, Sem.run_bind, run_underlying hu, Result.andThen_ok, Place.get, Sem.run_pure]
      · cases h
    · cases h
  · cases h
/-! Type assertions. -/
def taR (ok : Bool) (x : X) : Option X := some (match ok with
  | true => .t [x, .b true]
  | false => x)
def taF (P : Program) (a : TypeId) (ok : Bool) : Option X := match ok, zeroVX P a with
  | true, some z => some (.t [z, .b false])
  | _, _ => none
def missB (want : Array (String × TypeId)) (got : Array Method) : Bool := (want.toList.filter fun x => !got.any fun m => m.name == x.1 && m.sig == x.2).isEmpty
def taI (P : Program) (a : TypeId) (ok : Bool) (want : Array (String × TypeId)) : X → Option X
  | .ni => taF P a ok
  | .fc t x => (match P.info? t with
    | some i => (match missB want i.methods with
      | true => taR ok (.fc t x)
      | false => taF P a ok)
    | none => none)
  | _ => none
def taC (P : Program) (a : TypeId) (ok : Bool) : X → Option X
  | .ni => taF P a ok
  | .fc t x => (match Nat.beq t a with
    | true => taR ok x
    | false => taF P a ok)
  | _ => none
def taX (P : Program) (a : TypeId) (ok : Bool) (x : Option X) : Option X := match P.underlying a, x with
  | some (.interface want), some x => taI P a ok want x
  | some _, some x => taC P a ok x
  | _, _ => none
theorem taR_ok {ok : Bool} {x z : X} {v : Value} (h : taR ok x = some z) (hx : vl σ x = some v) : vl σ z = some (if ok then .tuple #[v, .bool true] else v) := by
  obtain rfl := Option.some.inj h
  cases ok with
  | true => simp only [vl, vls, hx]; rfl
  | false => exact hx
theorem taF_ok {a : TypeId} {ok : Bool} {z : X} (h : taF P a ok = some z) : ∃ v, ok = true ∧ vl σ z = some (.tuple #[v, .bool false]) ∧ ∀ w, (zeroValue a).run P w = .ok v w := by
  unfold taF at h
  split at h
  · rename_i y hy
    obtain rfl := Option.some.inj h
    obtain ⟨v, h1, h2⟩ := zeroVX_ok (σ := σ) hy
    refine ⟨v, rfl, ?_, h2⟩
    simp only [vl, vls, h1]
  · cases h
theorem taX_ok {a xt : TypeId} {ok : Bool} {x : Option X} {z : X} {u : Value} (h : taX P a ok x = some z) (hx : ∀ b, x = some b → vl σ b = some u) {K : Value → Prop} (hK : ∀ v, vl σ z = some v → K v) : Ta P u xt a ok w K := by
  unfold taX at h
  split at h
  · rename_i want x hu
    have hx := hx _ rfl
    unfold taI at h
    split at h
    · simp only [vl, Option.some.injEq] at hx
      subst hx
      obtain ⟨v, rfl, h1, h2⟩ := taF_ok (σ := σ) h
      refine ⟨_, ?_, hK _ h1⟩
      simp [Instr.typeAssert, run_underlying hu, h2]
    · rename_i t y
      obtain ⟨v, rfl, hv⟩ := vl_fcs hx
      split at h
      · rename_i i hi
        split at h
        · rename_i hm
          refine ⟨_, ?_, hK _ (taR_ok h hx)⟩
          have hm' : (want.toList.filter fun x => !i.methods.any fun m => m.name == x.1 && m.sig == x.2) = [] := List.isEmpty_iff.1 hm
          have hmm : Instr.missingMethod want i.methods = none := by
            unfold Instr.missingMethod
            rw [hm']
            rfl
          simp [Instr.typeAssert, run_underlying hu, typeInfo, hi, hmm]
        · rename_i hm
          obtain ⟨v', rfl, h1, h2⟩ := taF_ok (σ := σ) h
          exact r_taNo hu hi (fun e => by unfold missB at hm; rw [e] at hm; exact Bool.noConfusion hm) h2 (hK _ h1)
      · cases h
    · cases h
  · rename_i d x hni hu
    have hx := hx _ rfl
    unfold taC at h
    split at h
    · simp only [vl, Option.some.injEq] at hx
      subst hx
      obtain ⟨v, rfl, h1, h2⟩ := taF_ok (σ := σ) h
      refine ⟨_, ?_, hK _ h1⟩
      simp only [Instr.typeAssert, run_underlying hu, Sem.run_bind, Result.andThen_ok]
      cases d <;> first | exact absurd rfl (hni _) | simp [h2]
    · rename_i t y
      obtain ⟨v, rfl, hv⟩ := vl_fcs hx
      split at h
      · rename_i ht
        obtain rfl := Nat.eq_of_beq_eq_true ht
        refine ⟨_, ?_, hK _ (taR_ok h hv)⟩
        simp only [Instr.typeAssert, run_underlying hu, Sem.run_bind, Result.andThen_ok]
        cases d <;> first | exact absurd rfl (hni _) | simp
      · rename_i ht
        have ht := Nat.ne_of_beq_eq_false ht
        obtain ⟨v', rfl, h1, h2⟩ := taF_ok (σ := σ) h
        refine ⟨_, ?_, hK _ h1⟩
        simp only [Instr.typeAssert, run_underlying hu, Sem.run_bind, Result.andThen_ok]
        cases d <;> first | exact absurd rfl (hni _) | simp [h2, ht]
    · cases h
  · cases h
end
end Go.Ev
