/- A verified evaluator for closed calls, ninth part: code and functions. No program in sight. -/
import Derived.Test.YtbhbdleffackaaaGreatDoorEU
set_option linter.unusedVariables false
set_option linter.unusedSimpArgs false
namespace Go.Ev
open Go Go.Vc
noncomputable section
variable {P : Program} {base : Bs} {w0 : World} {σ : Sg} {s : St} {w w' : World} {ρ : T X} {r : Env} {n : Nat}
def xreg (P : Program) (n : Nat) (call : FuncId → List X → St → Option (X × St)) (ops : Array Oper) (draw : Bool) (ρ : T X) (s : St) : Option (T X × St) := match draw with
  | false => xops P false call n ops.toList ops.toList 0 ρ s
  | true => (match Region.lexB .any ops, allStill ops.toList with
    | true, true => xops P true call n ops.toList ops.toList 0 ρ s
    | _, _ => (match stagedB ops ops.toList (msOf ops.toList []) ops.toList 0 with
      | true => xst P call n ops.toList (befM (msOf ops.toList [])) ops.toList 0 [] [] ρ s
      | false => xtr P call n ops ρ s))
theorem xreg_ok {call : FuncId → List X → St → Option (X × St)} (hcall : ∀ base w0, CallOk P base w0 call) {ops : Array Oper} {draw : Bool} (h : Wo P base w0 σ s w) (hE : EnvR σ ρ r) {ρ' : T X} {s' : St} (hx : xreg P n call ops draw ρ s = some (ρ', s')) {K : Env → World → Prop}
    (hK : FinE P base w0 σ ρ' s' K) : ∃ hh, vcReg P n ops draw hh r w K := by
  unfold xreg at hx
  cases draw with
  | false => exact ⟨.text, xops_ok (hcall _ _) false _ _ h hE hx hK⟩
  | true =>
    simp only at hx
    have stg : (match stagedB ops ops.toList (msOf ops.toList []) ops.toList 0 with
      | true => xst P call n ops.toList (befM (msOf ops.toList [])) ops.toList 0 [] [] ρ s
      | false => xtr P call n ops ρ s) = some (ρ', s') → ∃ hh, vcReg P n ops true hh r w K := by
      intro hx
      cases hs : stagedB ops ops.toList (msOf ops.toList []) ops.toList 0 with
      | false =>
        rw [hs] at hx
        replace hx : xtr P call n ops ρ s = some (ρ', s') := hx
        unfold xtr xtr0 xtr1 at hx
        cases ht : treeB ops ops.toList (msOf ops.toList []) (mkT ops.toList (msOf ops.toList []) (ops.toList.length + 1) 0) with
        | false => rw [ht] at hx; cases hx
        | true =>
          rw [ht] at hx
          refine ⟨.tree (msOf ops.toList []) (mkT ops.toList (msOf ops.toList []) (ops.toList.length + 1) 0), ?_⟩
          simp only [vcReg, ht]
          exact xtrM_ok hcall h.drew hE hx hK
      | true =>
        rw [hs] at hx
        refine ⟨.staged (msOf ops.toList []), ?_⟩
        simp only [vcReg, hs]
        exact xst_ok (hcall _ _) _ _ (pend := []) (past := []) (pend' := []) (past' := []) h.drew hE trivial trivial hx hK
    cases h1 : Region.lexB .any ops with
    | false => rw [h1] at hx; exact stg hx
    | true =>
      cases h2 : allStill ops.toList with
      | false => rw [h1, h2] at hx; exact stg hx
      | true =>
        rw [h1, h2] at hx
        refine ⟨.still, ?_⟩
        simp only [vcReg, h1, h2]
        exact xops_ok (hcall _ _) true _ _ h.drew hE hx hK
/-! Loops, round by round. -/
def LR (P : Program) (c : Code) (Q : Exit → Act → World → Prop) : Nat → Act → World → Prop
  | 0, _, _ => False
  | k + 1, a, w => c.wp P (Exit.then (LR P c Q k) Q) a w
theorem least_of {p : Nat → Prop} : ∀ n, p n → ∃ m, p m ∧ ∀ k, k < m → ¬ p k := by
  intro n
  induction n using Nat.strongRecOn with
  | _ n ih =>
    intro hn
    by_cases h : ∃ k, k < n ∧ p k
    · obtain ⟨k, hk, hp⟩ := h
      exact ih k hk hp
    · exact ⟨n, hn, fun k hk hp => h ⟨k, hk, hp⟩⟩
theorem wp_of_LR {c : Code} {Q : Exit → Act → World → Prop} {k : Nat} {a : Act} (h : LR P c Q k a w) : (Code.loop c).wp P Q a w := by
  classical
  have key : ∀ a w, (∃ k, LR P c Q k a w) → ∃ m, LR P c Q m a w ∧ ∀ k, k < m → ¬ LR P c Q k a w := fun a w ⟨k, hk⟩ => least_of k hk
  refine wp_loop (fun a w => ∃ k, LR P c Q k a w) (fun a w => if h : ∃ k, LR P c Q k a w then Classical.choose (key a w h) else 0) ⟨k, h⟩ ?_
  intro a1 w1 h1
  obtain ⟨hm, hmin⟩ := Classical.choose_spec (key a1 w1 h1)
  rw [dif_pos h1]
  generalize Classical.choose (key a1 w1 h1) = m at hm hmin
  cases m with
  | zero => exact hm.elim
  | succ m =>
    refine wp_mono hm fun e a2 w2 h2 => ?_
    cases e with
    | normal =>
      refine ⟨⟨m, h2⟩, ?_⟩
      have h3 : ∃ k, LR P c Q k a2 w2 := ⟨m, h2⟩
      rw [dif_pos h3]
      obtain ⟨_, g2⟩ := Classical.choose_spec (key a2 w2 h3)
      rcases Nat.lt_or_ge m (Classical.choose (key a2 w2 h3)) with h4 | h4
      · exact absurd h2 (g2 m h4)
      · omega
    | _ => exact h2
abbrev Run := Nat → Code → T X → St → Option (Exit × T X × St)
def argX (d : Nat) : List X → Nat → T X → T X
  | [], _, ρ => ρ
  | x :: l, i, ρ => argX d l (i + 1) (T.set d ρ i i x)
theorem argX_get {d : Nat} : ∀ (xs : List X) (i : Nat) (ρ : T X) (t : Nat) (x : X), (argX d xs i ρ).get t t = some x → (i ≤ t ∧ xs[t - i]? = some x) ∨ ρ.get t t = some x
  | [], i, ρ, t, x, h => .inr h
  | y :: l, i, ρ, t, x, h => by
    rcases argX_get l (i + 1) _ t x h with ⟨h1, h2⟩ | h1
    · refine .inl ⟨by omega, ?_⟩
      rw [show t - i = (t - (i + 1)) + 1 by omega, List.getElem?_cons_succ]
      exact h2
    · rcases T.get_set d ρ i i y t t x (fun e => e) h1 with ⟨rfl, rfl⟩ | ⟨_, h2⟩
      · exact .inl ⟨Nat.le_refl _, by simp⟩
      · exact .inr h2
theorem argX_ok {d : Nat} {xs : List X} {vs : List Value} (h : vls σ xs = some vs) : EnvR σ (argX d xs 0 .e) ⟨args0 vs 0, fun _ => undef⟩ := by
  intro t x ht
  rcases argX_get xs 0 .e t x ht with ⟨_, h2⟩ | h2
  · obtain ⟨v, g1, g2⟩ := vls_get h h2
    rw [g2]
    unfold Env.get
    simp only [args0_find, Nat.zero_le, if_true, g1]
  · cases h2
def xres (P : Program) (ρ : T X) (s : St) : List ResultVar → List X → Option X
  | [], [x] => some x
  | [], xs => some (.t xs.reverse)
  | .tmp t :: l, xs => (match ρ.get t t with
    | some x => xres P ρ s l (x :: xs)
    | none => none)
  | .cell x t :: l, xs => (match xval P ρ s ⟨none, .load t (.tmp x), t, "", #[], none⟩ with
    | some y => xres P ρ s l (y :: xs)
    | none => none)
theorem vls_rev {xs : List X} {vs : List Value} (h : vls σ xs = some vs) : vls σ xs.reverse = some vs.reverse := by
  induction xs generalizing vs with
  | nil => simp only [vls, Option.some.injEq] at h; subst h; rfl
  | cons x l ih =>
    obtain ⟨v, us, h1, h2, rfl⟩ := vls_cons h
    rw [List.reverse_cons, List.reverse_cons]
    exact vls_app (ih h2) (vls_mk h1 rfl)
theorem xres_ok (hM : Mem P base σ s w) (hE : EnvR σ ρ r) : ∀ {rs : List ResultVar} {xs : List X} {vs : List Value} {x : X} {R : Value → World → Prop}, xres P ρ s rs xs = some x → vls σ xs = some vs → (∀ v, vl σ x = some v → R v w) → ResK P r w R rs vs
  | [], [], vs, x, R, h, hv, hR => by
    simp only [vls, Option.some.injEq] at hv
    subst hv
    simp only [xres, Option.some.injEq] at h
    subst h
    exact hR _ rfl
  | [], [y], vs, x, R, h, hv, hR => by
    obtain ⟨v, us, h1, h2, rfl⟩ := vls_cons hv
    simp only [vls, Option.some.injEq] at h2
    subst h2
    simp only [xres, Option.some.injEq] at h
    subst h
    exact hR _ h1
  | [], y :: z :: l, vs, x, R, h, hv, hR => by
    have hr := vls_rev hv
    obtain ⟨v, us, h1, h2, rfl⟩ := vls_cons hv
    obtain ⟨v2, us2, h3, h4, rfl⟩ := vls_cons h2
    simp only [xres, Option.some.injEq] at h
    subst h
    exact hR _ (by simp only [vl, hr])
  | .tmp t :: l, xs, vs, x, R, h, hv, hR => by
    simp only [xres] at h
    cases hx : ρ.get t t with
    | none => rw [hx] at h; cases h
    | some y =>
      rw [hx] at h
      replace h : xres P ρ s l (y :: xs) = some x := h
      show ResK P r w R l (r.get t :: vs)
      exact xres_ok hM hE h (vls_mk (hE t y hx) hv) hR
  | .cell q t :: l, xs, vs, x, R, h, hv, hR => by
    simp only [xres] at h
    cases hx : xval P ρ s ⟨none, .load t (.tmp q), t, "", #[], none⟩ with
    | none => rw [hx] at h; cases h
    | some y =>
      rw [hx] at h
      replace h : xres P ρ s l (y :: xs) = some x := h
      exact xval_ok hM hE hx true fun v hvv => xres_ok hM hE h (vls_mk hvv hv) hR
/-! A state that is less than another: each of its objects is there in the other. -/
def eqPs : List (X × X) → List (X × X) → Bool
  | [], [] => true
  | x :: a, y :: c => match eqX x.1 y.1 with
    | true => (match eqX x.2 y.2 with
      | true => eqPs a c
      | false => false)
    | false => false
  | _, _ => false
theorem eqPs_eq : ∀ (x y : List (X × X)), eqPs x y = true → x = y
  | [], y, h => by cases y <;> simp [eqPs] at h; rfl
  | (x1, x2) :: a, y, h => by
    cases y with
    | nil => simp [eqPs] at h
    | cons z c =>
      obtain ⟨z1, z2⟩ := z
      simp only [eqPs] at h
      split at h
      · rename_i h1
        split at h
        · rename_i h2
          rw [eqX_eq _ _ h1, eqX_eq _ _ h2, eqPs_eq a c h]
        · cases h
      · cases h
def eqB : Option (Option Blk) → Blk → Bool
  | some (some c), d => (match Nat.beq c.1 d.1 with
    | true => eqXs c.2 d.2
    | false => false)
  | _, _ => false
theorem eqB_eq {o : Option (Option Blk)} {d : Blk} (h : eqB o d = true) : o = some (some d) := by
  unfold eqB at h
  split at h
  · rename_i c
    obtain ⟨c1, c2⟩ := c
    obtain ⟨d1, d2⟩ := d
    simp only at h
    split at h
    · rename_i h1
      have := Nat.eq_of_beq_eq_true h1
      subst this
      rw [eqXs_eq _ _ h]
    · cases h
  · cases h
def eqM : Option (Option M) → M → Bool
  | some (some (.mp a)), .mp c => eqPs a c
  | some (some (.it a p)), .it c q => (match Nat.beq p q with
    | true => decide (a = c)
    | false => false)
  | _, _ => false
theorem eqM_eq {o : Option (Option M)} {d : M} (h : eqM o d = true) : o = some (some d) := by
  unfold eqM at h
  split at h
  · rw [eqPs_eq _ _ h]
  · split at h
    · rename_i h1
      have := Nat.eq_of_beq_eq_true h1
      subst this
      rw [of_decide_eq_true h]
    · cases h
  · cases h
def subH (s : T (Option Blk)) : T (Option Blk) → Bool
  | .e => true
  | .lf k v => (match v with
    | none => true
    | some c => eqB (s.get k k) c)
  | .nd a b => (match subH s a with
    | true => subH s b
    | false => false)
theorem subH_ok {s : T (Option Blk)} : ∀ (t : T (Option Blk)), subH s t = true → ∀ i q c, t.get i q = some (some c) → s.get q q = some (some c)
  | .e, _, i, q, c, h => by rw [T.get_e] at h; cases h
  | .lf k v, hs, i, q, c, h => by
    rw [T.get_lf] at h
    split at h
    · rename_i hb
      have := Nat.eq_of_beq_eq_true hb
      subst this
      obtain rfl := Option.some.inj h
      exact eqB_eq hs
    · cases h
  | .nd a b, hs, i, q, c, h => by
    rw [T.get_nd] at h
    simp only [subH] at hs
    split at hs
    · rename_i h1
      split at h
      · exact subH_ok a h1 _ q c h
      · exact subH_ok b hs _ q c h
    · cases hs
def subM (s : T (Option M)) : T (Option M) → Bool
  | .e => true
  | .lf k v => (match v with
    | none => true
    | some c => eqM (s.get k k) c)
  | .nd a b => (match subM s a with
    | true => subM s b
    | false => false)
theorem subM_ok {s : T (Option M)} : ∀ (t : T (Option M)), subM s t = true → ∀ i q c, t.get i q = some (some c) → s.get q q = some (some c)
  | .e, _, i, q, c, h => by rw [T.get_e] at h; cases h
  | .lf k v, hs, i, q, c, h => by
    rw [T.get_lf] at h
    split at h
    · rename_i hb
      have := Nat.eq_of_beq_eq_true hb
      subst this
      obtain rfl := Option.some.inj h
      exact eqM_eq hs
    · cases h
  | .nd a b, hs, i, q, c, h => by
    rw [T.get_nd] at h
    simp only [subM] at hs
    split at hs
    · rename_i h1
      split at h
      · exact subM_ok a h1 _ q c h
      · exact subM_ok b hs _ q c h
    · cases hs
def eqG : List (Nat × List X) → List (Nat × List X) → Bool
  | [], [] => true
  | x :: a, y :: c => match Nat.beq x.1 y.1 with
    | true => (match eqXs x.2 y.2 with
      | true => eqG a c
      | false => false)
    | false => false
  | _, _ => false
theorem eqG_eq : ∀ (x y : List (Nat × List X)), eqG x y = true → x = y
  | [], y, h => by cases y <;> simp [eqG] at h; rfl
  | (x1, x2) :: a, y, h => by
    cases y with
    | nil => simp [eqG] at h
    | cons z c =>
      obtain ⟨z1, z2⟩ := z
      simp only [eqG] at h
      split at h
      · rename_i h1
        split at h
        · rename_i h2
          rw [show x1 = z1 from Nat.eq_of_beq_eq_true h1, eqXs_eq _ _ h2, eqG_eq a c h]
        · cases h
      · cases h
/-- Is the state q the other, but that it may lack objects? -/
def subS (s q : St) : Bool := match Nat.beq q.k s.k with
  | true => (match Nat.beq q.n s.n with
    | true => (match subH s.h q.h with
      | true => (match subM s.m q.m with
        | true => (match q.g with
          | [] => true
          | _ :: _ => eqG q.g s.g)
        | false => false)
      | false => false)
    | false => false)
  | false => false
theorem jn_eq {α : Type} {o : Option (Option α)} {c : α} (h : jn o = some c) : o = some (some c) := by
  cases o with
  | none => cases h
  | some o =>
    cases o with
    | none => cases h
    | some x => obtain rfl := Option.some.inj h; rfl
structure Less (s q : St) : Prop where
  k : q.k = s.k
  n : q.n = s.n
  b : ∀ b c, q.blk b = some c → s.blk b = some c
  m : ∀ b c, q.mo b = some c → s.mo b = some c
  g : ∀ g xs, lkG q.g g = some xs → lkG s.g g = some xs
theorem subS_ok {s q : St} (hq : subS s q = true) : Less s q := by
  unfold subS at hq
  split at hq
  · rename_i h1
    split at hq
    · rename_i h2
      split at hq
      · rename_i h3
        split at hq
        · rename_i h4
          refine ⟨Nat.eq_of_beq_eq_true h1, Nat.eq_of_beq_eq_true h2, fun b c hc => ?_, fun b c hc => ?_, fun g xs hx => ?_⟩
          · show jn (s.h.get b b) = some c
            rw [subH_ok _ h3 b b c (jn_eq hc)]; rfl
          · show jn (s.m.get b b) = some c
            rw [subM_ok _ h4 b b c (jn_eq hc)]; rfl
          · split at hq
            · rename_i hz
              rw [hz] at hx; cases hx
            · rw [eqG_eq _ _ hq] at hx; exact hx
        · cases hq
      · cases hq
    · cases hq
  · cases hq
theorem Wo.sub {q : St} (l : Less s q) (h : Wo P base w0 σ s w) : Wo P base w0 σ q w := by
  have hf := h.fresh
  refine ⟨⟨fun b e cs hq => h.mem.own b e cs (l.b _ _ hq), fun b c x y r r' h1 h2 => h.mem.apart b c x y r r' (l.b _ _ h1) (l.b _ _ h2), fun b o ho => h.mem.mown b o (l.m _ _ ho), fun b c x y r r' h1 h2 => h.mem.mapart b c x y r r' (l.m _ _ h1) (l.m _ _ h2), fun g xs hx => h.mem.glb g xs (l.g _ _ hx)⟩, ?_, h.fram⟩
  show FreshN base σ q.n q.k
  rw [l.k, l.n]
  exact hf
/-! A part of the state, and what comes of it, put back into the state. -/
def mrg {α : Type} : T α → T α → T α
  | .e, s => s
  | .lf k v, _ => .lf k v
  | .nd a b, s => (match s with
    | .nd c d => .nd (mrg a c) (mrg b d)
    | _ => .nd a b)
theorem mrg_get {α : Type} : ∀ (t s : T α) (i q : Nat) (x : α), (mrg t s).get i q = some x → t.get i q = some x ∨ (t.get i q = none ∧ s.get i q = some x)
  | .e, s, i, q, x, h => by
    simp only [mrg] at h
    exact .inr ⟨T.get_e _ _, h⟩
  | .lf k v, s, i, q, x, h => by
    simp only [mrg] at h
    exact .inl h
  | .nd a b, s, i, q, x, h => by
    cases s with
    | nd c d =>
      simp only [mrg] at h
      rw [T.get_nd] at h
      rw [T.get_nd, T.get_nd]
      split at h
      · exact mrg_get a c _ q x h
      · exact mrg_get b d _ q x h
    | _ =>
      simp only [mrg] at h
      exact .inl h
def mrgS (s q' : St) : St := ⟨mrg q'.h s.h, q'.n, q'.k, mrg q'.m s.m, s.g⟩
def domH {α : Type} (t : T α) : T α → Bool
  | .e => true
  | .lf k _ => (match t.get k k with
    | some _ => true
    | none => false)
  | .nd a b => (match domH t a with
    | true => domH t b
    | false => false)
theorem domH_ok {α : Type} {t : T α} : ∀ (u : T α), domH t u = true → ∀ i q x, u.get i q = some x → t.get q q ≠ none
  | .e, _, i, q, c, h => by rw [T.get_e] at h; cases h
  | .lf k v, hs, i, q, c, h => by
    rw [T.get_lf] at h
    split at h
    · rename_i hb
      have := Nat.eq_of_beq_eq_true hb
      subst this
      simp only [domH] at hs
      split at hs
      · rename_i y hy; rw [hy]; exact fun h => by cases h
      · cases hs
    · cases h
  | .nd a b, hs, i, q, c, h => by
    rw [T.get_nd] at h
    simp only [domH] at hs
    split at hs
    · rename_i h1
      split at h
      · exact domH_ok a h1 _ q c h
      · exact domH_ok b hs _ q c h
    · cases hs
def domS (q q' : St) : Bool := match domH q'.h q.h with
  | true => domH q'.m q.m
  | false => false
/-- What is not of the part is kept. -/
def bsF (base : Bs) (σ : Sg) (s q : St) : Bs := ⟨fun a => base.pr a ∨ (∃ b c r, s.blk b = some c ∧ q.blk b = none ∧ σ b = some r ∧ r.1 = a) ∨ (∃ b c r, s.mo b = some c ∧ q.mo b = none ∧ σ b = some r ∧ r.1 = a), base.res, base.gp, fun a h => .inl (base.gpr a h)⟩
theorem Wo.part {q : St} (l : Less s q) (h : Wo P base w0 σ s w) : Wo P (bsF base σ s q) w σ q w := by
  have h0 := h.sub l
  refine ⟨⟨fun b e cs hq => ?_, h0.mem.apart, fun b o ho => ?_, h0.mem.mapart, h0.mem.glb⟩, ⟨h0.fresh.nx, h0.fresh.lt, h0.fresh.ge, h0.fresh.rs⟩, ⟨.refl w, fun c hc => ?_, fun _ _ => rfl⟩⟩
  · obtain ⟨rb, off, k, pre, vs, sp, post, g⟩ := h0.mem.own b e cs hq
    refine ⟨rb, off, k, pre, vs, sp, post, ⟨g.sg_, g.val, g.pre_, g.sp_, g.heap, ?_, g.flat, g.mul_, g.nsp⟩⟩
    rintro (hp | ⟨c, x, r, h1, h2, h3, h4⟩ | ⟨c, x, r, h1, h2, h3, h4⟩)
    · exact g.low hp
    · have hne : b ≠ c := fun e => by subst e; rw [hq] at h2; cases h2
      exact h.mem.apart b c _ _ _ _ (l.b _ _ hq) h1 hne g.sg_ h3 h4.symm
    · obtain ⟨fz, hh, _⟩ := g.heap
      exact h.mem.sep h1 ⟨_, _, _, hh⟩ h3 h4
  · obtain ⟨rb, g1, g2, g3⟩ := h0.mem.mown b o ho
    refine ⟨rb, g1, ?_, g3⟩
    rintro (hp | ⟨c, x, r, h1, h2, h3, h4⟩ | ⟨c, x, r, h1, h2, h3, h4⟩)
    · exact g2 hp
    · obtain ⟨e, cs⟩ := x
      obtain ⟨rb', off', k', pre', vs', sp', post', g'⟩ := h.mem.own c e cs h1
      have e1 := g'.sg_
      rw [h3] at e1
      obtain rfl := Option.some.inj e1
      obtain ⟨fz, hh, _⟩ := g'.heap
      exact h.mem.sep (l.m _ _ ho) ⟨_, _, _, hh⟩ g1 h4.symm
    · have hne : b ≠ c := fun e => by subst e; rw [ho] at h2; cases h2
      exact h.mem.mapart b c _ _ _ _ (l.m _ _ ho) h1 hne g1 h3 h4.symm
  · rcases hc with hp | ⟨b, x, r, h1, h2, h3, h4⟩ | ⟨b, x, r, h1, h2, h3, h4⟩
    · exact h.fram.low c hp
    · obtain ⟨e, cs⟩ := x
      obtain ⟨rb', off', k', pre', vs', sp', post', g'⟩ := h.mem.own b e cs h1
      have e1 := g'.sg_
      rw [h3] at e1
      obtain rfl := Option.some.inj e1
      rw [← h4]; exact g'.lt
    · obtain ⟨rb', k1, k2, k3⟩ := h.mem.mown b x h1
      rw [h3] at k1
      obtain rfl := Option.some.inj k1
      rw [← h4]; exact k3.lt
theorem blk_none {s : St} {b : Nat} (h : ∀ c, s.h.get b b ≠ some (some c)) : s.blk b = none := by
  cases hb : s.blk b with
  | none => rfl
  | some c => exact absurd (jn_eq hb) (h c)
theorem Wo.back {σ' : Sg} {q q' : St} (l : Less s q) (h : Wo P base w0 σ s w) (hd : domS q q' = true) (hx : Ext σ σ') (g : Wo P (bsF base σ s q) w σ' q' w') : Wo P base w0 σ' (mrgS s q') w' := by
  have hd1 : domH q'.h q.h = true ∧ domH q'.m q.m = true := by
    unfold domS at hd
    split at hd
    · rename_i h1; exact ⟨h1, hd⟩
    · cases hd
  have hb : ∀ b c, (mrgS s q').blk b = some c → q'.blk b = some c ∨ (s.blk b = some c ∧ q.blk b = none) := fun b c hc => by
    rcases mrg_get _ _ _ _ _ (jn_eq hc) with h1 | ⟨h1, h2⟩
    · left; show jn (q'.h.get b b) = some c; rw [h1]; rfl
    · right
      refine ⟨by show jn (s.h.get b b) = some c; rw [h2]; rfl, ?_⟩
      cases hq : q.blk b with
      | none => rfl
      | some y => exact absurd h1 (domH_ok _ hd1.1 b b _ (jn_eq hq))
  have hm : ∀ b c, (mrgS s q').mo b = some c → q'.mo b = some c ∨ (s.mo b = some c ∧ q.mo b = none) := fun b c hc => by
    rcases mrg_get _ _ _ _ _ (jn_eq hc) with h1 | ⟨h1, h2⟩
    · left; show jn (q'.m.get b b) = some c; rw [h1]; rfl
    · right
      refine ⟨by show jn (s.m.get b b) = some c; rw [h2]; rfl, ?_⟩
      cases hq : q.mo b with
      | none => rfl
      | some y => exact absurd h1 (domH_ok _ hd1.2 b b _ (jn_eq hq))
  have pb : ∀ {b c r}, s.blk b = some c → q.blk b = none → σ b = some r → (bsF base σ s q).pr r.1 := fun h1 h2 h3 => .inr (.inl ⟨_, _, _, h1, h2, h3, rfl⟩)
  have pm : ∀ {b c r}, s.mo b = some c → q.mo b = none → σ b = some r → (bsF base σ s q).pr r.1 := fun h1 h2 h3 => .inr (.inr ⟨_, _, _, h1, h2, h3, rfl⟩)
  have kp : ∀ {c : Nat} {o : Obj}, (bsF base σ s q).pr c → w.heap[c]? = some o → w'.heap[c]? = some o := fun hp ho => by rw [g.fram.old _ hp]; exact ho
  have sb : ∀ {b c r}, s.blk b = some c → σ' b = some r → σ b = some r := fun {b c r} h1 h2 => by
    obtain ⟨e, cs⟩ := c
    obtain ⟨_, _, _, _, _, _, _, g'⟩ := h.mem.own b e cs h1
    have e1 := hx _ _ g'.sg_
    rw [h2] at e1; rw [e1]; exact g'.sg_
  have sm : ∀ {b c r}, s.mo b = some c → σ' b = some r → σ b = some r := fun {b c r} h1 h2 => by
    obtain ⟨_, g', _⟩ := h.mem.mown b c h1
    have e1 := hx _ _ g'
    rw [h2] at e1; rw [e1]; exact g'
  have gb : ∀ {b c r}, q'.blk b = some c → σ' b = some r → ¬ (bsF base σ s q).pr r.1 := fun {b c r} h1 h2 => by
    obtain ⟨e, cs⟩ := c
    obtain ⟨_, _, _, _, _, _, _, g'⟩ := g.mem.own b e cs h1
    have e1 := g'.sg_
    rw [h2] at e1
    obtain rfl := Option.some.inj e1
    exact g'.low
  have gm : ∀ {b c r}, q'.mo b = some c → σ' b = some r → ¬ (bsF base σ s q).pr r.1 := fun {b c r} h1 h2 => by
    obtain ⟨_, g', g2, _⟩ := g.mem.mown b c h1
    rw [h2] at g'
    obtain rfl := Option.some.inj g'
    exact g2
  refine ⟨⟨fun b e cs hq => ?_, fun b c x y r r' h1 h2 hne e1 e2 => ?_, fun b o ho => ?_, fun b c x y r r' h1 h2 hne e1 e2 => ?_, fun v xs hv => ?_⟩, ⟨g.fresh.nx, g.fresh.lt, g.fresh.ge, g.fresh.rs⟩, h.fram.step g.fram fun a ha => .inl ha⟩
  · rcases hb _ _ hq with h1 | ⟨h1, h2⟩
    · obtain ⟨rb, off, k, pre, vs, sp, post, g'⟩ := g.mem.own b e cs h1
      exact ⟨rb, off, k, pre, vs, sp, post, g'.rebase fun ha => g'.low (.inl ha)⟩
    · obtain ⟨rb, off, k, pre, vs, sp, post, g'⟩ := h.mem.own b e cs h1
      exact ⟨rb, off, k, pre, vs, sp, post, (g'.keep fun o => kp (pb h1 h2 g'.sg_)).ext hx⟩
  · rcases hb _ _ h1 with k1 | ⟨k1, k2⟩ <;> rcases hb _ _ h2 with j1 | ⟨j1, j2⟩
    · exact g.mem.apart b c x y r r' k1 j1 hne e1 e2
    · exact fun he => gb k1 e1 (he ▸ pb j1 j2 (sb j1 e2))
    · exact fun he => gb j1 e2 (he ▸ pb k1 k2 (sb k1 e1))
    · exact h.mem.apart b c x y r r' k1 j1 hne (sb k1 e1) (sb j1 e2)
  · rcases hm _ _ ho with h1 | ⟨h1, h2⟩
    · obtain ⟨rb, k1, k2, k3⟩ := g.mem.mown b o h1
      exact ⟨rb, k1, fun ha => k2 (.inl ha), k3⟩
    · obtain ⟨rb, k1, k2, k3⟩ := h.mem.mown b o h1
      exact ⟨rb, hx _ _ k1, k2, (k3.keep fun o => kp (pm h1 h2 k1)).ext hx⟩
  · rcases hm _ _ h1 with k1 | ⟨k1, k2⟩ <;> rcases hm _ _ h2 with j1 | ⟨j1, j2⟩
    · exact g.mem.mapart b c x y r r' k1 j1 hne e1 e2
    · exact fun he => gm k1 e1 (he ▸ pm j1 j2 (sm j1 e2))
    · exact fun he => gm j1 e2 (he ▸ pm k1 k2 (sm k1 e1))
    · exact h.mem.mapart b c x y r r' k1 j1 hne (sm k1 e1) (sm j1 e2)
  · exact h.mem.keepG (fun c o hp => kp (.inl hp)) v xs hv
/-- What is known of calls. `c`: the function, its arguments, its value; none of them has an address, and memory stays as it is. `s`: the same in a state, with the state behind. -/
inductive Ent
  | c (f : FuncId) (xs : List X) (x : X)
  | s (f : FuncId) (xs : List X) (q : St) (x : X) (q' : St)
def memo : List Ent → FuncId → List X → St → Option (X × St)
  | [], _, _, _ => none
  | .c g ys x :: l, f, xs, s => (match Nat.beq g f with
    | true => (match eqXs ys xs with
      | true => some (x, s)
      | false => memo l f xs s)
    | false => memo l f xs s)
  | .s g ys q x q' :: l, f, xs, s => (match Nat.beq g f with
    | true => (match eqXs ys xs with
      | true => (match subS s q with
        | true => some (x, mrgS s q')
        | false => memo l f xs s)
      | false => memo l f xs s)
    | false => memo l f xs s)
def nsg : Sg := fun _ => none
def EntOk (P : Program) : Ent → Prop
  | .c f xs x => isExt P f = false ∧ ∃ vs v, vls nsg xs = some vs ∧ vl nsg x = some v ∧ ∀ (w : World) (L : List HProp) (K : Value → World → Prop), Holds w L → (∀ w', Same w w' → Holds w' L → K v w') → Cl P f vs.toArray w K
  | .s f xs q x q' => domS q q' = true ∧ ∀ (base : Bs) (w0 : World) σ w vs, Wo P base w0 σ q w → vls σ xs = some vs → ∀ K, Fin P base w0 σ x q' K → isExt P f = false ∧ Cl P f vs.toArray w K
def OraOk (P : Program) (M : List Ent) : Prop := ∀ e ∈ M, EntOk P e
theorem Wo.keepAll (h : Wo P base w0 σ s w) (S : Same w w') (ho : ∀ (c : Nat) (o : Obj), w.heap[c]? = some o → w'.heap[c]? = some o) : Wo P base w0 σ s w' := by
  refine ⟨⟨fun b e cs hq => ?_, h.mem.apart, fun b o hq => ?_, h.mem.mapart, h.mem.keepG fun c o _ hc => ho c o hc⟩, h.fresh, h.fram.same.trans S, fun c hc => Nat.lt_of_lt_of_le (h.fram.low c hc) S.size, fun c hc => ?_⟩
  · obtain ⟨rb, off, k, pre, vs, sp, post, g⟩ := h.mem.own b e cs hq
    exact ⟨rb, off, k, pre, vs, sp, post, g.keep (ho _)⟩
  · obtain ⟨rb, h1, h2, h3⟩ := h.mem.mown b o hq
    exact ⟨rb, h1, h2, h3.keep (ho _)⟩
  · rw [← h.fram.old c hc]
    have hlt := h.fram.low c hc
    have h2 : w.heap[c]? = some w.heap[c] := Array.getElem?_eq_getElem hlt
    rw [h2]
    exact ho c _ h2
theorem memo_ok {M : List Ent} (hM : OraOk P M) {f : FuncId} {xs : List X} {x : X} {s' : St} (h : memo M f xs s = some (x, s')) {vs : List Value} (hw : Wo P base w0 σ s w) (hv : vls σ xs = some vs) {K : Value → World → Prop} (hK : Fin P base w0 σ x s' K) : isExt P f = false ∧ Cl P f vs.toArray w K := by
  induction M with
  | nil => cases h
  | cons e l ih =>
    have rest := fun h => ih (fun e he => hM e (List.mem_cons_of_mem _ he)) h
    cases e with
    | c g ys z =>
      simp only [memo] at h
      cases hb : Nat.beq g f with
      | false => rw [hb] at h; exact rest h
      | true =>
        rw [hb] at h
        simp only at h
        cases he : eqXs ys xs with
        | false => rw [he] at h; exact rest h
        | true =>
          rw [he] at h
          simp only [Option.some.injEq, Prod.mk.injEq] at h
          obtain ⟨rfl, rfl⟩ := h
          obtain rfl := Nat.eq_of_beq_eq_true hb
          have he := eqXs_eq _ _ he
          obtain ⟨g1, us, v, g2, g3, g4⟩ := hM _ List.mem_cons_self
          rw [he] at g2
          have hn : Ext nsg σ := fun n r hn => by cases hn
          have := vls_ext hn _ _ g2
          rw [hv] at this
          obtain rfl := Option.some.inj this
          refine ⟨g1, g4 w [Vc.whole w] K (Vc.holds_whole w) fun w' S' H' => hK σ w' v (Ext.refl _) (hw.keepAll S' fun c o hc => ?_) (vl_ext hn _ _ g3)⟩
          obtain ⟨g, hg, hgs, _⟩ := H'
          exact hgs _ _ (hg _ _ hc)
    | s g ys q z q' =>
      simp only [memo] at h
      cases hb : Nat.beq g f with
      | false => rw [hb] at h; exact rest h
      | true =>
        rw [hb] at h
        simp only at h
        cases he : eqXs ys xs with
        | false => rw [he] at h; exact rest h
        | true =>
          rw [he] at h
          simp only at h
          cases hs : subS s q with
          | false => rw [hs] at h; exact rest h
          | true =>
            rw [hs] at h
            simp only [Option.some.injEq, Prod.mk.injEq] at h
            obtain ⟨rfl, rfl⟩ := h
            obtain rfl := Nat.eq_of_beq_eq_true hb
            obtain rfl := eqXs_eq _ _ he
            have l := subS_ok hs
            obtain ⟨hd, hM⟩ := hM _ List.mem_cons_self
            exact hM (bsF base σ s q) w σ w vs (hw.part l) hv K fun σ' w' v hxt hw' hv' => hK σ' w' v hxt (hw.back l hd hxt hw') hv'
/-- A call: by what is known of the function, or through its code. -/
def callX (P : Program) (ora : List Ent) (run : Run) (f : FuncId) (xs : List X) (s : St) : Option (X × St) := match memo ora f xs s with
  | some p => some p
  | none => (match P.funcs[f]? with
    | some fn => (match fn.body, fn.name == "runtime.NumGoroutine", Nat.ble xs.length fn.ntmps with
      | some c, false, true => (match run fn.ntmps c (argX (dep fn.ntmps) xs 0 .e) s with
        | some (.normal, ρ', s') | some (.ret, ρ', s') => (match xres P ρ' s' fn.results.toList [] with
          | some x => some (x, s')
          | none => none)
        | _ => none)
      | _, _, _ => none)
    | none => none)
def RunOk (P : Program) (run : Run) : Prop := ∀ (base : Bs) (w0 : World) n c ρ s e ρ' s', run n c ρ s = some (e, ρ', s') → ∀ σ w a r Q, Wo P base w0 σ s w → Fits n r a → EnvR σ ρ r →
  (∀ σ' w' a' r', Ext σ σ' → Wo P base w0 σ' s' w' → Fits n r' a' → EnvR σ' ρ' r' → Q e a' w') → c.wp P Q a w
theorem cl_of_wp {f : FuncId} {fn : Func} {c : Code} {args : List Value} {w : World} {R : Value → World → Prop} {rs : List ResultVar}
    (hf : P.funcs[f]? = some fn) (hb : fn.body = some c) (hn : (fn.name == "runtime.NumGoroutine") = false)
    (hr : fn.results = rs.toArray) (ha : Nat.ble args.length fn.ntmps = true)
    (hh : ∀ a, Fits fn.ntmps ⟨args0 args 0, fun _ => undef⟩ a → c.wp P (fun e a' w' => ∃ ρ', Fits fn.ntmps ρ' a' ∧ fin P rs R e ρ' w') a w) : Cl P f args.toArray w R := by
  refine ⟨by simp [callFunc, hf, (by simpa using hn : ¬ fn.name = "runtime.NumGoroutine"), hb], calls_of_wp hf hb ?_⟩
  have ha := Nat.le_of_ble_eq_true ha
  refine wp_mono (hh _ ⟨rfl, by simp; omega, fun t => ?_⟩) ?_
  · unfold Env.get
    simp only [args0_find, Nat.zero_le, if_true, Nat.sub_zero]
    by_cases hlt : t < args.length
    · simp [Array.getElem?_append, hlt]
    · have h1 : args[t]? = none := by simp; omega
      rw [h1]
      simp only [Array.getD_eq_getD_getElem?, Array.getElem?_append, List.size_toArray, if_neg hlt, Array.getElem?_replicate]
      split <;> rfl
  · rintro e a w ⟨ρ, hf', h'⟩
    have key : ResK P ρ w R rs [] → bodyPost P fn (fun e w' => ∃ v, e = .returned v ∧ R v w') .ret a w := fun h' => by
      obtain ⟨vs, h1, h2⟩ := resK_run hf' rs [] h'
      refine ⟨hf'.defers, _, ?_, _, rfl, resK_nil vs (by simpa using h2)⟩
      unfold results
      rw [Sem.run_bind, hr]
      have : (rs.toArray.mapM fun | .tmp t => pure (a.tmps.getD t undef) | .cell x t => do loadVar t (← asAddr (a.tmps.getD x undef)) : Sem (Array Value)) = (do pure (← rs.mapM (rv a.tmps)).toArray) := by
        rw [List.mapM_toArray]
        rfl
      erw [this]
      simp [h1, Result.andThen]
    cases e <;> simp only [fin] at h' <;> try exact h'.elim
    · exact key h'
    · exact key h'
theorem callX_ok {ora : List Ent} (hora : OraOk P ora) {run : Run} (hrun : RunOk P run) : CallOk P base w0 (callX P ora run) := by
  intro f xs s x s' hx σ w vs h hv K hK
  unfold callX at hx
  cases ho : memo ora f xs s with
  | some g =>
    rw [ho] at hx
    simp only [Option.some.injEq] at hx
    subst hx
    exact memo_ok hora ho h hv hK
  | none =>
    rw [ho] at hx
    simp only at hx
    cases hf : P.funcs[f]? with
    | none => rw [hf] at hx; cases hx
    | some fn =>
      rw [hf] at hx
      simp only at hx
      split at hx
      · rename_i c hb hn hl
        have hlen := vls_len hv
        refine ⟨by simp only [isExt, hf, hb]; rfl, cl_of_wp (rs := fn.results.toList) hf hb hn (by simp) (by rw [← hlen]; exact hl) fun a ha => ?_⟩
        have res : ∀ e ρ1 s1, (e = .normal ∨ e = .ret) → run fn.ntmps c (argX (dep fn.ntmps) xs 0 .e) s = some (e, ρ1, s1) → (match xres P ρ1 s1 fn.results.toList [] with
            | some x => some (x, s1)
            | none => none) = some (x, s') → c.wp P (fun e a' w' => ∃ ρ', Fits fn.ntmps ρ' a' ∧ fin P fn.results.toList K e ρ' w') a w := by
          intro e ρ1 s1 he hr hq
          cases hxr : xres P ρ1 s1 fn.results.toList [] with
          | none => rw [hxr] at hq; cases hq
          | some y =>
            rw [hxr] at hq
            simp only [Option.some.injEq, Prod.mk.injEq] at hq
            obtain ⟨rfl, rfl⟩ := hq
            refine hrun _ _ _ _ _ _ _ _ _ hr σ w a _ _ h ha (argX_ok hv) fun σ' w' a' r' hxt hw hfit hE => ⟨r', hfit, ?_⟩
            have hk : ResK P r' w' K fn.results.toList [] := xres_ok hw.mem hE hxr rfl fun v hvv => hK σ' w' v hxt hw hvv
            rcases he with rfl | rfl
            · exact hk
            · exact hk
        split at hx
        · rename_i ρ1 s1 hr
          exact res _ _ _ (.inl rfl) hr hx
        · rename_i ρ1 s1 hr
          exact res _ _ _ (.inr rfl) hr hx
        · cases hx
      · cases hx
/-- The evaluator. -/
def ev (P : Program) (ora : List Ent) : Nat → Run
  | 0, _, _, _, _ => none
  | k + 1, n, c, ρ, s => match c with
    | .skip => some (.normal, ρ, s)
    | .label _ => some (.normal, ρ, s)
    | .region _ ops draw => (match xreg P n (callX P ora (ev P ora k)) ops draw ρ s with
      | some (ρ', s') => some (.normal, ρ', s')
      | none => none)
    | .seq x y => (match ev P ora k n x ρ s with
      | some (.normal, ρ', s') => ev P ora k n y ρ' s'
      | o => o)
    | .cond q x y => (match evX ρ q with
      | some (.b true) => ev P ora k n x ρ s
      | some (.b false) => ev P ora k n y ρ s
      | _ => none)
    | .block id x => (match ev P ora k n x ρ s with
      | some (.exit i, ρ', s') => (match Nat.beq i id with
        | true => some (.normal, ρ', s')
        | false => some (.exit i, ρ', s'))
      | o => o)
    | .loop x => (match ev P ora k n x ρ s with
      | some (.normal, ρ', s') => ev P ora k n (.loop x) ρ' s'
      | o => o)
    | .exit id => some (.exit id, ρ, s)
    | .ret => some (.ret, ρ, s)
    | _ => none
theorem ev_ok (hm : P.follows .mixedOrders = true) {ora : List Ent} (hora : OraOk P ora) :
    ∀ k, RunOk P (ev P ora k) ∧ (∀ (base : Bs) (w0 : World) n c ρ s e ρ' s', ev P ora k n (.loop c) ρ s = some (e, ρ', s') → ∀ σ w a r Q, Wo P base w0 σ s w → Fits n r a → EnvR σ ρ r →
      (∀ σ' w' a' r', Ext σ σ' → Wo P base w0 σ' s' w' → Fits n r' a' → EnvR σ' ρ' r' → Q e a' w') → LR P c Q k a w) := by
  intro k
  induction k with
  | zero =>
    refine ⟨?_, ?_⟩
    · intro base w0 n c ρ s e ρ' s' h
      simp only [ev] at h
      cases h
    · intro base w0 n c ρ s e ρ' s' h
      simp only [ev] at h
      cases h
  | succ k ih =>
    obtain ⟨ihR, ihL⟩ := ih
    have loop : ∀ (base : Bs) (w0 : World) n c ρ s e ρ' s', ev P ora (k + 1) n (.loop c) ρ s = some (e, ρ', s') → ∀ σ w a r Q, Wo P base w0 σ s w → Fits n r a → EnvR σ ρ r →
      (∀ σ' w' a' r', Ext σ σ' → Wo P base w0 σ' s' w' → Fits n r' a' → EnvR σ' ρ' r' → Q e a' w') → LR P c Q (k + 1) a w := by
      intro base w0 n c ρ s e ρ' s' h σ w a r Q hw hf hE hQ
      simp only [ev] at h
      cases hx : ev P ora k n c ρ s with
      | none => rw [hx] at h; cases h
      | some q =>
        obtain ⟨e1, ρ1, s1⟩ := q
        rw [hx] at h
        refine ihR _ _ _ _ _ _ _ _ _ hx σ w a r _ hw hf hE fun σ' w' a' r' hxt hw' hf' hE' => ?_
        cases e1 with
        | normal => exact ihL _ _ _ _ _ _ _ _ _ h σ' w' a' r' Q hw' hf' hE' fun σ2 w2 a2 r2 hxt2 hw2 hf2 hE2 => hQ σ2 w2 a2 r2 (hxt.trans hxt2) hw2 hf2 hE2
        | _ =>
          simp only [Option.some.injEq, Prod.mk.injEq] at h
          obtain ⟨rfl, rfl, rfl⟩ := h
          exact hQ σ' w' a' r' hxt hw' hf' hE'
    refine ⟨fun base w0 n c ρ s e ρ' s' h σ w a r Q hw hf hE hQ => ?_, loop⟩
    cases c with
    | skip =>
      simp only [ev, Option.some.injEq, Prod.mk.injEq] at h
      obtain ⟨rfl, rfl, rfl⟩ := h
      exact wp_skip (hQ σ w a r (Ext.refl _) hw hf hE)
    | label l =>
      simp only [ev, Option.some.injEq, Prod.mk.injEq] at h
      obtain ⟨rfl, rfl, rfl⟩ := h
      exact wp_label (hQ σ w a r (Ext.refl _) hw hf hE)
    | exit id =>
      simp only [ev, Option.some.injEq, Prod.mk.injEq] at h
      obtain ⟨rfl, rfl, rfl⟩ := h
      exact wp_exit (hQ σ w a r (Ext.refl _) hw hf hE)
    | ret =>
      simp only [ev, Option.some.injEq, Prod.mk.injEq] at h
      obtain ⟨rfl, rfl, rfl⟩ := h
      exact wp_ret (hQ σ w a r (Ext.refl _) hw hf hE)
    | region id ops draw =>
      simp only [ev] at h
      cases hx : xreg P n (callX P ora (ev P ora k)) ops draw ρ s with
      | none => rw [hx] at h; cases h
      | some q =>
        obtain ⟨ρ1, s1⟩ := q
        rw [hx] at h
        simp only [Option.some.injEq, Prod.mk.injEq] at h
        obtain ⟨rfl, rfl, rfl⟩ := h
        obtain ⟨hh, hv⟩ := xreg_ok (fun _ _ => callX_ok hora ihR) hw hE hx (K := fun r' w' => ∃ σ', Ext σ σ' ∧ Wo P base w0 σ' s1 w' ∧ EnvR σ' ρ1 r') fun σ' w' r' hxt hw' hE' => ⟨σ', hxt, hw', hE'⟩
        exact vcReg_sound hm hv hf fun r' a' w' hf' ⟨σ', hxt, hw', hE'⟩ => hQ σ' w' a' r' hxt hw' hf' hE'
    | seq x y =>
      simp only [ev] at h
      cases hx : ev P ora k n x ρ s with
      | none => rw [hx] at h; cases h
      | some q =>
        obtain ⟨e1, ρ1, s1⟩ := q
        rw [hx] at h
        refine wp_seq (ihR _ _ _ _ _ _ _ _ _ hx σ w a r _ hw hf hE fun σ' w' a' r' hxt hw' hf' hE' => ?_)
        cases e1 with
        | normal => exact ihR _ _ _ _ _ _ _ _ _ h σ' w' a' r' Q hw' hf' hE' fun σ2 w2 a2 r2 hxt2 hw2 hf2 hE2 => hQ σ2 w2 a2 r2 (hxt.trans hxt2) hw2 hf2 hE2
        | _ =>
          simp only [Option.some.injEq, Prod.mk.injEq] at h
          obtain ⟨rfl, rfl, rfl⟩ := h
          exact hQ σ' w' a' r' hxt hw' hf' hE'
    | cond q x y =>
      simp only [ev] at h
      cases hx : evX ρ q with
      | none => rw [hx] at h; cases h
      | some z =>
        rw [hx] at h
        have hz := evX_spec hE hx
        cases z with
        | b c =>
          simp only [vl, Option.some.injEq] at hz
          cases c with
          | true => exact wp_cond_true (by rw [hf.eval]; exact hz.symm) (ihR _ _ _ _ _ _ _ _ _ h σ w a r Q hw hf hE hQ)
          | false => exact wp_cond_false (by rw [hf.eval]; exact hz.symm) (ihR _ _ _ _ _ _ _ _ _ h σ w a r Q hw hf hE hQ)
        | _ => cases h
    | block id x =>
      simp only [ev] at h
      cases hx : ev P ora k n x ρ s with
      | none => rw [hx] at h; cases h
      | some q =>
        obtain ⟨e1, ρ1, s1⟩ := q
        rw [hx] at h
        refine wp_block (ihR _ _ _ _ _ _ _ _ _ hx σ w a r _ hw hf hE fun σ' w' a' r' hxt hw' hf' hE' => ?_)
        cases e1 with
        | exit i =>
          simp only at h
          cases hb : Nat.beq i id with
          | true =>
            rw [hb] at h
            simp only [Option.some.injEq, Prod.mk.injEq] at h
            obtain ⟨rfl, rfl, rfl⟩ := h
            have := Nat.eq_of_beq_eq_true hb
            subst this
            simp only [Exit.inBlock, if_true]
            exact hQ σ' w' a' r' hxt hw' hf' hE'
          | false =>
            rw [hb] at h
            simp only [Option.some.injEq, Prod.mk.injEq] at h
            obtain ⟨rfl, rfl, rfl⟩ := h
            simp only [Exit.inBlock, if_neg (Nat.ne_of_beq_eq_false hb)]
            exact hQ σ' w' a' r' hxt hw' hf' hE'
        | _ =>
          simp only [Option.some.injEq, Prod.mk.injEq] at h
          obtain ⟨rfl, rfl, rfl⟩ := h
          exact hQ σ' w' a' r' hxt hw' hf' hE'
    | loop x =>
      exact wp_of_LR (loop _ _ _ _ _ _ _ _ _ h σ w a r Q hw hf hE hQ)
    | _ => simp only [ev] at h; cases h
end
end Go.Ev
