/- Several texts in one: E9, EA, EB, Ts, Tv. -/
import Derived.Test.YtcnjipikapiplaaGreatDoorMG2
import Derived.Test.YtcnjipikapiplaaGreatDoorMG1
import Derived.Handed
import Derived.Shelf.Vars
set_option linter.unusedVariables false
set_option linter.unusedSimpArgs false
namespace Go.Ev
open Go Go.Vc
noncomputable section
variable {P : Program} {base : Bs} {w0 : World} {σ : Sg} {s : St} {w w' : World} {ρ : T X} {r : Env} {n : Nat}
def xreg (P : Program) (n : Nat) (call : FuncId → List X → St → Option (X × St)) (ops : Array Oper) (draw : Bool) (ρ : T X) (s : St) : Option (T X × St) := match draw with
 | false => xops P false call n ops.toList ops.toList 0 ρ s
 | true => (match Region.lexB .any ops, allStill ops.toList with
   | true, true => xops P true call n ops.toList ops.toList 0 ρ s
   | _, _ => (match stagedB ops ops.toList (msOf ops.toList []) ops.toList 0 with
     | true => xst P call n ops.toList (befM (msOf ops.toList [])) ops.toList 0 [] [] ρ s
     | false => xtr P call n ops ρ s))
theorem xreg_ok {call : FuncId → List X → St → Option (X × St)} (hcall : ∀ base w0, CallOk P base w0 call) {ops : Array Oper} {draw : Bool} (h : Wo P base w0 σ s w) (hE : EnvR σ ρ r) {ρ' : T X} {s' : St} (hx : xreg P n call ops draw ρ s = some (ρ', s')) {K : Env → World → Prop}
   (hK : FinE P base w0 σ ρ' s' K) : ∃ hh, vcReg P n ops draw hh r w K := by
 unfold xreg at hx
 cases draw with
 | false => exact ⟨.text, xops_ok (hcall _ _) false _ _ h hE hx hK⟩
 | true =>
   simp only at hx
   have stg : (match stagedB ops ops.toList (msOf ops.toList []) ops.toList 0 with
     | true => xst P call n ops.toList (befM (msOf ops.toList [])) ops.toList 0 [] [] ρ s
     | false => xtr P call n ops ρ s) = some (ρ', s') → ∃ hh, vcReg P n ops true hh r w K := by
     intro hx
     cases hs : stagedB ops ops.toList (msOf ops.toList []) ops.toList 0 with
     | false =>
       rw [hs] at hx; replace hx : xtr P call n ops ρ s = some (ρ', s') := hx; unfold xtr xtr0 xtr1 at hx
       cases ht : treeB ops ops.toList (msOf ops.toList []) (mkT ops.toList (msOf ops.toList []) (ops.toList.length + 1) 0) with
       | false => rw [ht] at hx; cases hx
       | true =>
         rw [ht] at hx; refine ⟨.tree (msOf ops.toList []) (mkT ops.toList (msOf ops.toList []) (ops.toList.length + 1) 0), ?_⟩; simp only [vcReg, ht]; exact xtrM_ok hcall h.drew hE hx hK
     | true =>
       rw [hs] at hx; refine ⟨.staged (msOf ops.toList []), ?_⟩; simp only [vcReg, hs]; exact xst_ok (hcall _ _) _ _ (pend := []) (past := []) (pend' := []) (past' := []) h.drew hE trivial trivial hx hK
   cases h1 : Region.lexB .any ops with
   | false => rw [h1] at hx; exact stg hx
   | true =>
     cases h2 : allStill ops.toList with
     | false => rw [h1, h2] at hx; exact stg hx
     | true =>
       rw [h1, h2] at hx; refine ⟨.still, ?_⟩; simp only [vcReg, h1, h2]; exact xops_ok (hcall _ _) true _ _ h.drew hE hx hK
def LR (P : Program) (c : Code) (Q : Exit → Act → World → Prop) : Nat → Act → World → Prop
 | 0, _, _ => False
 | k + 1, a, w => c.wp P (Exit.then (LR P c Q k) Q) a w
theorem least_of {p : Nat → Prop} : ∀ n, p n → ∃ m, p m ∧ ∀ k, k < m → ¬ p k := by
 intro n
 induction n using Nat.strongRecOn with
 | _ n ih =>
   intro hn
   by_cases h : ∃ k, k < n ∧ p k
   · obtain ⟨k, hk, hp⟩ := h; exact ih k hk hp
   · exact ⟨n, hn, fun k hk hp => h ⟨k, hk, hp⟩⟩
theorem wp_of_LR {c : Code} {Q : Exit → Act → World → Prop} {k : Nat} {a : Act} (h : LR P c Q k a w) : (Code.loop c).wp P Q a w := by
 classical
 have key : ∀ a w, (∃ k, LR P c Q k a w) → ∃ m, LR P c Q m a w ∧ ∀ k, k < m → ¬ LR P c Q k a w := fun a w ⟨k, hk⟩ => least_of k hk; refine wp_loop (fun a w => ∃ k, LR P c Q k a w) (fun a w => if h : ∃ k, LR P c Q k a w then Classical.choose (key a w h) else 0) ⟨k, h⟩ ?_; intro a1 w1 h1; obtain ⟨hm, hmin⟩ := Classical.choose_spec (key a1 w1 h1); rw [dif_pos h1]; generalize Classical.choose (key a1 w1 h1) = m at hm hmin
 cases m with
 | zero => exact hm.elim
 | succ m =>
   refine wp_mono hm fun e a2 w2 h2 => ?_
   cases e with
   | normal =>
     refine ⟨⟨m, h2⟩, ?_⟩; have h3 : ∃ k, LR P c Q k a2 w2 := ⟨m, h2⟩; rw [dif_pos h3]; obtain ⟨_, g2⟩ := Classical.choose_spec (key a2 w2 h3); rcases Nat.lt_or_ge m (Classical.choose (key a2 w2 h3)) with h4 | h4
     · exact absurd h2 (g2 m h4)
     · omega
   | _ => exact h2
abbrev Run := Nat → Code → T X → St → Option (Exit × T X × St)
def argX (d : Nat) : List X → Nat → T X → T X
 | [], _, ρ => ρ
 | x :: l, i, ρ => argX d l (i + 1) (T.set d ρ i i x)
theorem argX_get {d : Nat} : ∀ (xs : List X) (i : Nat) (ρ : T X) (t : Nat) (x : X), (argX d xs i ρ).get t t = some x → (i ≤ t ∧ xs[t - i]? = some x) ∨ ρ.get t t = some x
 | [], i, ρ, t, x, h => .inr h
 | y :: l, i, ρ, t, x, h => by
   rcases argX_get l (i + 1) _ t x h with ⟨h1, h2⟩ | h1
   · refine .inl ⟨by omega, ?_⟩; rw [show t - i = (t - (i + 1)) + 1 by omega, List.getElem?_cons_succ]; exact h2
   · rcases T.get_set d ρ i i y t t x (fun e => e) h1 with ⟨rfl, rfl⟩ | ⟨_, h2⟩
     · exact .inl ⟨Nat.le_refl _, by simp⟩
     · exact .inr h2
theorem argX_ok {d : Nat} {xs : List X} {vs : List Value} (h : vls σ xs = some vs) : EnvR σ (argX d xs 0 .e) ⟨args0 vs 0, fun _ => undef⟩ := by
 intro t x ht; rcases argX_get xs 0 .e t x ht with ⟨_, h2⟩ | h2
 · obtain ⟨v, g1, g2⟩ := vls_get h h2; rw [g2]; unfold Env.get; simp only [args0_find, Nat.zero_le, if_true, g1]
 · cases h2
def xres (P : Program) (ρ : T X) (s : St) : List ResultVar → List X → Option X
 | [], [x] => some x
 | [], xs => some (.t xs.reverse)
 | .tmp t :: l, xs => (match ρ.get t t with
   | some x => xres P ρ s l (x :: xs)
   | none => none)
 | .cell x t :: l, xs => (match xval P ρ s ⟨none, .load t (.tmp x), t, "", #[], none⟩ with
   | some y => xres P ρ s l (y :: xs)
   | none => none)
theorem vls_rev {xs : List X} {vs : List Value} (h : vls σ xs = some vs) : vls σ xs.reverse = some vs.reverse := by
 induction xs generalizing vs with
 | nil => simp only [vls, Option.some.injEq] at h; subst h; rfl
 | cons x l ih =>
   obtain ⟨v, us, h1, h2, rfl⟩ := vls_cons h; rw [List.reverse_cons, List.reverse_cons]; exact vls_app (ih h2) (vls_mk h1 rfl)
theorem xres_ok (hM : Mem P base σ s w) (hE : EnvR σ ρ r) : ∀ {rs : List ResultVar} {xs : List X} {vs : List Value} {x : X} {R : Value → World → Prop}, xres P ρ s rs xs = some x → vls σ xs = some vs → (∀ v, vl σ x = some v → R v w) → ResK P r w R rs vs
 | [], [], vs, x, R, h, hv, hR => by
   simp only [vls, Option.some.injEq] at hv; subst hv; simp only [xres, Option.some.injEq] at h; subst h; exact hR _ rfl
 | [], [y], vs, x, R, h, hv, hR => by
   obtain ⟨v, us, h1, h2, rfl⟩ := vls_cons hv; simp only [vls, Option.some.injEq] at h2; subst h2; simp only [xres, Option.some.injEq] at h; subst h; exact hR _ h1
 | [], y :: z :: l, vs, x, R, h, hv, hR => by
   have hr := vls_rev hv; obtain ⟨v, us, h1, h2, rfl⟩ := vls_cons hv; obtain ⟨v2, us2, h3, h4, rfl⟩ := vls_cons h2; simp only [xres, Option.some.injEq] at h; subst h; exact hR _ (by simp only [vl, hr])
 | .tmp t :: l, xs, vs, x, R, h, hv, hR => by
   simp only [xres] at h
   cases hx : ρ.get t t with
   | none => rw [hx] at h; cases h
   | some y =>
     rw [hx] at h; replace h : xres P ρ s l (y :: xs) = some x := h; show ResK P r w R l (r.get t :: vs); exact xres_ok hM hE h (vls_mk (hE t y hx) hv) hR
 | .cell q t :: l, xs, vs, x, R, h, hv, hR => by
   simp only [xres] at h
   cases hx : xval P ρ s ⟨none, .load t (.tmp q), t, "", #[], none⟩ with
   | none => rw [hx] at h; cases h
   | some y =>
     rw [hx] at h; replace h : xres P ρ s l (y :: xs) = some x := h; exact xval_ok hM hE hx true fun v hvv => xres_ok hM hE h (vls_mk hvv hv) hR
def eqPs : List (X × X) → List (X × X) → Bool
 | [], [] => true
 | x :: a, y :: c => match eqX x.1 y.1 with
   | true => (match eqX x.2 y.2 with
     | true => eqPs a c
     | false => false)
   | false => false
 | _, _ => false
theorem eqPs_eq : ∀ (x y : List (X × X)), eqPs x y = true → x = y
 | [], y, h => by cases y <;> simp [eqPs] at h; rfl
 | (x1, x2) :: a, y, h => by
   cases y with
   | nil => simp [eqPs] at h
   | cons z c =>
     obtain ⟨z1, z2⟩ := z; simp only [eqPs] at h; split at h
     · rename_i h1; split at h
       · rename_i h2; rw [eqX_eq _ _ h1, eqX_eq _ _ h2, eqPs_eq a c h]
       · cases h
     · cases h
def eqB : Option (Option Blk) → Blk → Bool
 | some (some c), d => (match Nat.beq c.1 d.1 with
   | true => eqXs c.2 d.2
   | false => false)
 | _, _ => false
theorem eqB_eq {o : Option (Option Blk)} {d : Blk} (h : eqB o d = true) : o = some (some d) := by
 unfold eqB at h; split at h
 · rename_i c; obtain ⟨c1, c2⟩ := c; obtain ⟨d1, d2⟩ := d; simp only at h; split at h
   · rename_i h1; have := Nat.eq_of_beq_eq_true h1; subst this; rw [eqXs_eq _ _ h]
   · cases h
 · cases h
def eqM : Option (Option M) → M → Bool
 | some (some (.mp a)), .mp c => eqPs a c
 | some (some (.it a p)), .it c q => (match Nat.beq p q with
   | true => decide (a = c)
   | false => false)
 | _, _ => false
theorem eqM_eq {o : Option (Option M)} {d : M} (h : eqM o d = true) : o = some (some d) := by
 unfold eqM at h; split at h
 · rw [eqPs_eq _ _ h]
 · split at h
   · rename_i h1; have := Nat.eq_of_beq_eq_true h1; subst this; rw [of_decide_eq_true h]
   · cases h
 · cases h
def subH (s : T (Option Blk)) : T (Option Blk) → Bool
 | .e => true
 | .lf k v => (match v with
   | none => true
   | some c => eqB (s.get k k) c)
 | .nd a b => (match subH s a with
   | true => subH s b
   | false => false)
theorem subH_ok {s : T (Option Blk)} : ∀ (t : T (Option Blk)), subH s t = true → ∀ i q c, t.get i q = some (some c) → s.get q q = some (some c)
 | .e, _, i, q, c, h => by rw [T.get_e] at h; cases h
 | .lf k v, hs, i, q, c, h => by
   rw [T.get_lf] at h; split at h
   · rename_i hb; have := Nat.eq_of_beq_eq_true hb; subst this; obtain rfl := Option.some.inj h; exact eqB_eq hs
   · cases h
 | .nd a b, hs, i, q, c, h => by
   rw [T.get_nd] at h; simp only [subH] at hs; split at hs
   · rename_i h1; split at h
     · exact subH_ok a h1 _ q c h
     · exact subH_ok b hs _ q c h
   · cases hs
def subM (s : T (Option M)) : T (Option M) → Bool
 | .e => true
 | .lf k v => (match v with
   | none => true
   | some c => eqM (s.get k k) c)
 | .nd a b => (match subM s a with
   | true => subM s b
   | false => false)
theorem subM_ok {s : T (Option M)} : ∀ (t : T (Option M)), subM s t = true → ∀ i q c, t.get i q = some (some c) → s.get q q = some (some c)
 | .e, _, i, q, c, h => by rw [T.get_e] at h; cases h
 | .lf k v, hs, i, q, c, h => by
   rw [T.get_lf] at h; split at h
   · rename_i hb; have := Nat.eq_of_beq_eq_true hb; subst this; obtain rfl := Option.some.inj h; exact eqM_eq hs
   · cases h
 | .nd a b, hs, i, q, c, h => by
   rw [T.get_nd] at h; simp only [subM] at hs; split at hs
   · rename_i h1; split at h
     · exact subM_ok a h1 _ q c h
     · exact subM_ok b hs _ q c h
   · cases hs
def eqG : List (Nat × List X) → List (Nat × List X) → Bool
 | [], [] => true
 | x :: a, y :: c => match Nat.beq x.1 y.1 with
   | true => (match eqXs x.2 y.2 with
     | true => eqG a c
     | false => false)
   | false => false
 | _, _ => false
theorem eqG_eq : ∀ (x y : List (Nat × List X)), eqG x y = true → x = y
 | [], y, h => by cases y <;> simp [eqG] at h; rfl
 | (x1, x2) :: a, y, h => by
   cases y with
   | nil => simp [eqG] at h
   | cons z c =>
     obtain ⟨z1, z2⟩ := z; simp only [eqG] at h; split at h
     · rename_i h1; split at h
       · rename_i h2; rw [show x1 = z1 from Nat.eq_of_beq_eq_true h1, eqXs_eq _ _ h2, eqG_eq a c h]
       · cases h
     · cases h
def subS (s q : St) : Bool := match Nat.beq q.k s.k with
 | true => (match Nat.beq q.n s.n with
   | true => (match subH s.h q.h with
     | true => (match subM s.m q.m with
       | true => (match q.g with
         | [] => true
         | _ :: _ => eqG q.g s.g)
       | false => false)
     | false => false)
   | false => false)
 | false => false
theorem jn_eq {α : Type} {o : Option (Option α)} {c : α} (h : jn o = some c) : o = some (some c) := by
 cases o with
 | none => cases h
 | some o =>
   cases o with
   | none => cases h
   | some x => obtain rfl := Option.some.inj h; rfl
structure Less (s q : St) : Prop where
 k : q.k = s.k
 n : q.n = s.n
 b : ∀ b c, q.blk b = some c → s.blk b = some c
 m : ∀ b c, q.mo b = some c → s.mo b = some c
 g : ∀ g xs, lkG q.g g = some xs → lkG s.g g = some xs
theorem subS_ok {s q : St} (hq : subS s q = true) : Less s q := by
 unfold subS at hq; split at hq
 · rename_i h1; split at hq
   · rename_i h2; split at hq
     · rename_i h3; split at hq
       · rename_i h4; refine ⟨Nat.eq_of_beq_eq_true h1, Nat.eq_of_beq_eq_true h2, fun b c hc => ?_, fun b c hc => ?_, fun g xs hx => ?_⟩
         · show jn (s.h.get b b) = some c; rw [subH_ok _ h3 b b c (jn_eq hc)]; rfl
         · show jn (s.m.get b b) = some c; rw [subM_ok _ h4 b b c (jn_eq hc)]; rfl
         · split at hq
           · rename_i hz; rw [hz] at hx; cases hx
           · rw [eqG_eq _ _ hq] at hx; exact hx
       · cases hq
     · cases hq
   · cases hq
 · cases hq
theorem Wo.sub {q : St} (l : Less s q) (h : Wo P base w0 σ s w) : Wo P base w0 σ q w := by
 have hf := h.fresh; refine ⟨⟨fun b e cs hq => h.mem.own b e cs (l.b _ _ hq), fun b c x y r r' h1 h2 => h.mem.apart b c x y r r' (l.b _ _ h1) (l.b _ _ h2), fun b o ho => h.mem.mown b o (l.m _ _ ho), fun b c x y r r' h1 h2 => h.mem.mapart b c x y r r' (l.m _ _ h1) (l.m _ _ h2), fun g xs hx => h.mem.glb g xs (l.g _ _ hx)⟩, ?_, h.fram⟩; show FreshN base σ q.n q.k; rw [l.k, l.n]; exact hf
def mrg {α : Type} : T α → T α → T α
 | .e, s => s
 | .lf k v, _ => .lf k v
 | .nd a b, s => (match s with
   | .nd c d => .nd (mrg a c) (mrg b d)
   | _ => .nd a b)
theorem mrg_get {α : Type} : ∀ (t s : T α) (i q : Nat) (x : α), (mrg t s).get i q = some x → t.get i q = some x ∨ (t.get i q = none ∧ s.get i q = some x)
 | .e, s, i, q, x, h => by
   simp only [mrg] at h; exact .inr ⟨T.get_e _ _, h⟩
 | .lf k v, s, i, q, x, h => by
   simp only [mrg] at h; exact .inl h
 | .nd a b, s, i, q, x, h => by
   cases s with
   | nd c d =>
     simp only [mrg] at h; rw [T.get_nd] at h; rw [T.get_nd, T.get_nd]; split at h
     · exact mrg_get a c _ q x h
     · exact mrg_get b d _ q x h
   | _ =>
     simp only [mrg] at h; exact .inl h
def mrgS (s q' : St) : St := ⟨mrg q'.h s.h, q'.n, q'.k, mrg q'.m s.m, s.g⟩
def domH {α : Type} (t : T α) : T α → Bool
 | .e => true
 | .lf k _ => (match t.get k k with
   | some _ => true
   | none => false)
 | .nd a b => (match domH t a with
   | true => domH t b
   | false => false)
theorem domH_ok {α : Type} {t : T α} : ∀ (u : T α), domH t u = true → ∀ i q x, u.get i q = some x → t.get q q ≠ none
 | .e, _, i, q, c, h => by rw [T.get_e] at h; cases h
 | .lf k v, hs, i, q, c, h => by
   rw [T.get_lf] at h; split at h
   · rename_i hb; have := Nat.eq_of_beq_eq_true hb; subst this; simp only [domH] at hs; split at hs
     · rename_i y hy; rw [hy]; exact fun h => by cases h
     · cases hs
   · cases h
 | .nd a b, hs, i, q, c, h => by
   rw [T.get_nd] at h; simp only [domH] at hs; split at hs
   · rename_i h1; split at h
     · exact domH_ok a h1 _ q c h
     · exact domH_ok b hs _ q c h
   · cases hs
def domS (q q' : St) : Bool := match domH q'.h q.h with
 | true => domH q'.m q.m
 | false => false
def bsF (base : Bs) (σ : Sg) (s q : St) : Bs := ⟨fun a => base.pr a ∨ (∃ b c r, s.blk b = some c ∧ q.blk b = none ∧ σ b = some r ∧ r.1 = a) ∨ (∃ b c r, s.mo b = some c ∧ q.mo b = none ∧ σ b = some r ∧ r.1 = a), base.res, base.gp, fun a h => .inl (base.gpr a h)⟩
theorem Wo.part {q : St} (l : Less s q) (h : Wo P base w0 σ s w) : Wo P (bsF base σ s q) w σ q w := by
 have h0 := h.sub l; refine ⟨⟨fun b e cs hq => ?_, h0.mem.apart, fun b o ho => ?_, h0.mem.mapart, h0.mem.glb⟩, ⟨h0.fresh.nx, h0.fresh.lt, h0.fresh.ge, h0.fresh.rs⟩, ⟨.refl w, fun c hc => ?_, fun _ _ => rfl⟩⟩
 · obtain ⟨rb, off, k, pre, vs, sp, post, g⟩ := h0.mem.own b e cs hq; refine ⟨rb, off, k, pre, vs, sp, post, ⟨g.sg_, g.val, g.pre_, g.sp_, g.heap, ?_, g.flat, g.mul_, g.nsp⟩⟩; rintro (hp | ⟨c, x, r, h1, h2, h3, h4⟩ | ⟨c, x, r, h1, h2, h3, h4⟩)
   · exact g.low hp
   · have hne : b ≠ c := fun e => by subst e; rw [hq] at h2; cases h2
     exact h.mem.apart b c _ _ _ _ (l.b _ _ hq) h1 hne g.sg_ h3 h4.symm
   · obtain ⟨fz, hh, _⟩ := g.heap; exact h.mem.sep h1 ⟨_, _, _, hh⟩ h3 h4
 · obtain ⟨rb, g1, g2, g3⟩ := h0.mem.mown b o ho; refine ⟨rb, g1, ?_, g3⟩; rintro (hp | ⟨c, x, r, h1, h2, h3, h4⟩ | ⟨c, x, r, h1, h2, h3, h4⟩)
   · exact g2 hp
   · obtain ⟨e, cs⟩ := x; obtain ⟨rb', off', k', pre', vs', sp', post', g'⟩ := h.mem.own c e cs h1; have e1 := g'.sg_; rw [h3] at e1; obtain rfl := Option.some.inj e1; obtain ⟨fz, hh, _⟩ := g'.heap; exact h.mem.sep (l.m _ _ ho) ⟨_, _, _, hh⟩ g1 h4.symm
   · have hne : b ≠ c := fun e => by subst e; rw [ho] at h2; cases h2
     exact h.mem.mapart b c _ _ _ _ (l.m _ _ ho) h1 hne g1 h3 h4.symm
 · rcases hc with hp | ⟨b, x, r, h1, h2, h3, h4⟩ | ⟨b, x, r, h1, h2, h3, h4⟩
   · exact h.fram.low c hp
   · obtain ⟨e, cs⟩ := x; obtain ⟨rb', off', k', pre', vs', sp', post', g'⟩ := h.mem.own b e cs h1; have e1 := g'.sg_; rw [h3] at e1; obtain rfl := Option.some.inj e1; rw [← h4]; exact g'.lt
   · obtain ⟨rb', k1, k2, k3⟩ := h.mem.mown b x h1; rw [h3] at k1; obtain rfl := Option.some.inj k1; rw [← h4]; exact k3.lt
theorem Wo.back {σ' : Sg} {q q' : St} (l : Less s q) (h : Wo P base w0 σ s w) (hd : domS q q' = true) (hx : Ext σ σ') (g : Wo P (bsF base σ s q) w σ' q' w') : Wo P base w0 σ' (mrgS s q') w' := by
 have hd1 : domH q'.h q.h = true ∧ domH q'.m q.m = true := by
   unfold domS at hd; split at hd
   · rename_i h1; exact ⟨h1, hd⟩
   · cases hd
 have hb : ∀ b c, (mrgS s q').blk b = some c → q'.blk b = some c ∨ (s.blk b = some c ∧ q.blk b = none) := fun b c hc => by
   rcases mrg_get _ _ _ _ _ (jn_eq hc) with h1 | ⟨h1, h2⟩
   · left; show jn (q'.h.get b b) = some c; rw [h1]; rfl
   · right; refine ⟨by show jn (s.h.get b b) = some c; rw [h2]; rfl, ?_⟩
     cases hq : q.blk b with
     | none => rfl
     | some y => exact absurd h1 (domH_ok _ hd1.1 b b _ (jn_eq hq))
 have hm : ∀ b c, (mrgS s q').mo b = some c → q'.mo b = some c ∨ (s.mo b = some c ∧ q.mo b = none) := fun b c hc => by
   rcases mrg_get _ _ _ _ _ (jn_eq hc) with h1 | ⟨h1, h2⟩
   · left; show jn (q'.m.get b b) = some c; rw [h1]; rfl
   · right; refine ⟨by show jn (s.m.get b b) = some c; rw [h2]; rfl, ?_⟩
     cases hq : q.mo b with
     | none => rfl
     | some y => exact absurd h1 (domH_ok _ hd1.2 b b _ (jn_eq hq))
 have pb : ∀ {b c r}, s.blk b = some c → q.blk b = none → σ b = some r → (bsF base σ s q).pr r.1 := fun h1 h2 h3 => .inr (.inl ⟨_, _, _, h1, h2, h3, rfl⟩); have pm : ∀ {b c r}, s.mo b = some c → q.mo b = none → σ b = some r → (bsF base σ s q).pr r.1 := fun h1 h2 h3 => .inr (.inr ⟨_, _, _, h1, h2, h3, rfl⟩)
 have kp : ∀ {c : Nat} {o : Obj}, (bsF base σ s q).pr c → w.heap[c]? = some o → w'.heap[c]? = some o := fun hp ho => by rw [g.fram.old _ hp]; exact ho
 have sb : ∀ {b c r}, s.blk b = some c → σ' b = some r → σ b = some r := fun {b c r} h1 h2 => by
   obtain ⟨e, cs⟩ := c; obtain ⟨_, _, _, _, _, _, _, g'⟩ := h.mem.own b e cs h1; have e1 := hx _ _ g'.sg_; rw [h2] at e1; rw [e1]; exact g'.sg_
 have sm : ∀ {b c r}, s.mo b = some c → σ' b = some r → σ b = some r := fun {b c r} h1 h2 => by
   obtain ⟨_, g', _⟩ := h.mem.mown b c h1; have e1 := hx _ _ g'; rw [h2] at e1; rw [e1]; exact g'
 have gb : ∀ {b c r}, q'.blk b = some c → σ' b = some r → ¬ (bsF base σ s q).pr r.1 := fun {b c r} h1 h2 => by
   obtain ⟨e, cs⟩ := c; obtain ⟨_, _, _, _, _, _, _, g'⟩ := g.mem.own b e cs h1; have e1 := g'.sg_; rw [h2] at e1; obtain rfl := Option.some.inj e1; exact g'.low
 have gm : ∀ {b c r}, q'.mo b = some c → σ' b = some r → ¬ (bsF base σ s q).pr r.1 := fun {b c r} h1 h2 => by
   obtain ⟨_, g', g2, _⟩ := g.mem.mown b c h1; rw [h2] at g'; obtain rfl := Option.some.inj g'; exact g2
 refine ⟨⟨fun b e cs hq => ?_, fun b c x y r r' h1 h2 hne e1 e2 => ?_, fun b o ho => ?_, fun b c x y r r' h1 h2 hne e1 e2 => ?_, fun v xs hv => ?_⟩, ⟨g.fresh.nx, g.fresh.lt, g.fresh.ge, g.fresh.rs⟩, h.fram.step g.fram fun a ha => .inl ha⟩
 · rcases hb _ _ hq with h1 | ⟨h1, h2⟩
   · obtain ⟨rb, off, k, pre, vs, sp, post, g'⟩ := g.mem.own b e cs h1; exact ⟨rb, off, k, pre, vs, sp, post, g'.rebase fun ha => g'.low (.inl ha)⟩
   · obtain ⟨rb, off, k, pre, vs, sp, post, g'⟩ := h.mem.own b e cs h1; exact ⟨rb, off, k, pre, vs, sp, post, (g'.keep fun o => kp (pb h1 h2 g'.sg_)).ext hx⟩
 · rcases hb _ _ h1 with k1 | ⟨k1, k2⟩ <;> rcases hb _ _ h2 with j1 | ⟨j1, j2⟩
   · exact g.mem.apart b c x y r r' k1 j1 hne e1 e2
   · exact fun he => gb k1 e1 (he ▸ pb j1 j2 (sb j1 e2))
   · exact fun he => gb j1 e2 (he ▸ pb k1 k2 (sb k1 e1))
   · exact h.mem.apart b c x y r r' k1 j1 hne (sb k1 e1) (sb j1 e2)
 · rcases hm _ _ ho with h1 | ⟨h1, h2⟩
   · obtain ⟨rb, k1, k2, k3⟩ := g.mem.mown b o h1; exact ⟨rb, k1, fun ha => k2 (.inl ha), k3⟩
   · obtain ⟨rb, k1, k2, k3⟩ := h.mem.mown b o h1; exact ⟨rb, hx _ _ k1, k2, (k3.keep fun o => kp (pm h1 h2 k1)).ext hx⟩
 · rcases hm _ _ h1 with k1 | ⟨k1, k2⟩ <;> rcases hm _ _ h2 with j1 | ⟨j1, j2⟩
   · exact g.mem.mapart b c x y r r' k1 j1 hne e1 e2
   · exact fun he => gm k1 e1 (he ▸ pm j1 j2 (sm j1 e2))
   · exact fun he => gm j1 e2 (he ▸ pm k1 k2 (sm k1 e1))
   · exact h.mem.mapart b c x y r r' k1 j1 hne (sm k1 e1) (sm j1 e2)
 · exact h.mem.keepG (fun c o hp => kp (.inl hp)) v xs hv
inductive Ent
 | c (f : FuncId) (xs : List X) (x : X)
 | s (f : FuncId) (xs : List X) (q : St) (x : X) (q' : St)
def memo : List Ent → FuncId → List X → St → Option (X × St)
 | [], _, _, _ => none
 | .c g ys x :: l, f, xs, s => (match Nat.beq g f with
   | true => (match eqXs ys xs with
     | true => some (x, s)
     | false => memo l f xs s)
   | false => memo l f xs s)
 | .s g ys q x q' :: l, f, xs, s => (match Nat.beq g f with
   | true => (match eqXs ys xs with
     | true => (match subS s q with
       | true => some (x, mrgS s q')
       | false => memo l f xs s)
     | false => memo l f xs s)
   | false => memo l f xs s)
def nsg : Sg := fun _ => none
def EntOk (P : Program) : Ent → Prop
 | .c f xs x => isExt P f = false ∧ ∃ vs v, vls nsg xs = some vs ∧ vl nsg x = some v ∧ ∀ (w : World) (L : List HProp) (K : Value → World → Prop), Holds w L → (∀ w', Same w w' → Holds w' L → K v w') → Cl P f vs.toArray w K
 | .s f xs q x q' => domS q q' = true ∧ ∀ (base : Bs) (w0 : World) σ w vs, Wo P base w0 σ q w → vls σ xs = some vs → ∀ K, Fin P base w0 σ x q' K → isExt P f = false ∧ Cl P f vs.toArray w K
def OraOk (P : Program) (M : List Ent) : Prop := ∀ e ∈ M, EntOk P e
theorem Wo.keepAll (h : Wo P base w0 σ s w) (S : Same w w') (ho : ∀ (c : Nat) (o : Obj), w.heap[c]? = some o → w'.heap[c]? = some o) : Wo P base w0 σ s w' := by
 refine ⟨⟨fun b e cs hq => ?_, h.mem.apart, fun b o hq => ?_, h.mem.mapart, h.mem.keepG fun c o _ hc => ho c o hc⟩, h.fresh, h.fram.same.trans S, fun c hc => Nat.lt_of_lt_of_le (h.fram.low c hc) S.size, fun c hc => ?_⟩
 · obtain ⟨rb, off, k, pre, vs, sp, post, g⟩ := h.mem.own b e cs hq; exact ⟨rb, off, k, pre, vs, sp, post, g.keep (ho _)⟩
 · obtain ⟨rb, h1, h2, h3⟩ := h.mem.mown b o hq; exact ⟨rb, h1, h2, h3.keep (ho _)⟩
 · rw [← h.fram.old c hc]; have hlt := h.fram.low c hc; have h2 : w.heap[c]? = some w.heap[c] := Array.getElem?_eq_getElem hlt; rw [h2]; exact ho c _ h2
theorem memo_ok {M : List Ent} (hM : OraOk P M) {f : FuncId} {xs : List X} {x : X} {s' : St} (h : memo M f xs s = some (x, s')) {vs : List Value} (hw : Wo P base w0 σ s w) (hv : vls σ xs = some vs) {K : Value → World → Prop} (hK : Fin P base w0 σ x s' K) : isExt P f = false ∧ Cl P f vs.toArray w K := by
 induction M with
 | nil => cases h
 | cons e l ih =>
   have rest := fun h => ih (fun e he => hM e (List.mem_cons_of_mem _ he)) h
   cases e with
   | c g ys z =>
     simp only [memo] at h
     cases hb : Nat.beq g f with
     | false => rw [hb] at h; exact rest h
     | true =>
       rw [hb] at h; simp only at h
       cases he : eqXs ys xs with
       | false => rw [he] at h; exact rest h
       | true =>
         rw [he] at h; simp only [Option.some.injEq, Prod.mk.injEq] at h; obtain ⟨rfl, rfl⟩ := h; obtain rfl := Nat.eq_of_beq_eq_true hb; have he := eqXs_eq _ _ he; obtain ⟨g1, us, v, g2, g3, g4⟩ := hM _ List.mem_cons_self; rw [he] at g2
         have hn : Ext nsg σ := fun n r hn => by cases hn
         have := vls_ext hn _ _ g2; rw [hv] at this; obtain rfl := Option.some.inj this; refine ⟨g1, g4 w [Vc.whole w] K (Vc.holds_whole w) fun w' S' H' => hK σ w' v (Ext.refl _) (hw.keepAll S' fun c o hc => ?_) (vl_ext hn _ _ g3)⟩; obtain ⟨g, hg, hgs, _⟩ := H'; exact hgs _ _ (hg _ _ hc)
   | s g ys q z q' =>
     simp only [memo] at h
     cases hb : Nat.beq g f with
     | false => rw [hb] at h; exact rest h
     | true =>
       rw [hb] at h; simp only at h
       cases he : eqXs ys xs with
       | false => rw [he] at h; exact rest h
       | true =>
         rw [he] at h; simp only at h
         cases hs : subS s q with
         | false => rw [hs] at h; exact rest h
         | true =>
           rw [hs] at h; simp only [Option.some.injEq, Prod.mk.injEq] at h; obtain ⟨rfl, rfl⟩ := h; obtain rfl := Nat.eq_of_beq_eq_true hb; obtain rfl := eqXs_eq _ _ he; have l := subS_ok hs; obtain ⟨hd, hM⟩ := hM _ List.mem_cons_self; exact hM (bsF base σ s q) w σ w vs (hw.part l) hv K fun σ' w' v hxt hw' hv' => hK σ' w' v hxt (hw.back l hd hxt hw') hv'
def callX (P : Program) (ora : List Ent) (run : Run) (f : FuncId) (xs : List X) (s : St) : Option (X × St) := match memo ora f xs s with
 | some p => some p
 | none => (match P.funcs[f]? with
   | some fn => (match fn.body, fn.name == "runtime.NumGoroutine", Nat.ble xs.length fn.ntmps with
     | some c, false, true => (match run fn.ntmps c (argX (dep fn.ntmps) xs 0 .e) s with
       | some (.normal, ρ', s') | some (.ret, ρ', s') => (match xres P ρ' s' fn.results.toList [] with
         | some x => some (x, s')
         | none => none)
       | _ => none)
     | _, _, _ => none)
   | none => none)
def RunOk (P : Program) (run : Run) : Prop := ∀ (base : Bs) (w0 : World) n c ρ s e ρ' s', run n c ρ s = some (e, ρ', s') → ∀ σ w a r Q, Wo P base w0 σ s w → Fits n r a → EnvR σ ρ r →
 (∀ σ' w' a' r', Ext σ σ' → Wo P base w0 σ' s' w' → Fits n r' a' → EnvR σ' ρ' r' → Q e a' w') → c.wp P Q a w
theorem cl_of_wp {f : FuncId} {fn : Func} {c : Code} {args : List Value} {w : World} {R : Value → World → Prop} {rs : List ResultVar}
   (hf : P.funcs[f]? = some fn) (hb : fn.body = some c) (hn : (fn.name == "runtime.NumGoroutine") = false)
   (hr : fn.results = rs.toArray) (ha : Nat.ble args.length fn.ntmps = true)
   (hh : ∀ a, Fits fn.ntmps ⟨args0 args 0, fun _ => undef⟩ a → c.wp P (fun e a' w' => ∃ ρ', Fits fn.ntmps ρ' a' ∧ fin P rs R e ρ' w') a w) : Cl P f args.toArray w R := by
 refine ⟨by simp [callFunc, hf, (by simpa using hn : ¬ fn.name = "runtime.NumGoroutine"), hb], calls_of_wp hf hb ?_⟩; have ha := Nat.le_of_ble_eq_true ha; refine wp_mono (hh _ ⟨rfl, by simp; omega, fun t => ?_⟩) ?_
 · unfold Env.get; simp only [args0_find, Nat.zero_le, if_true, Nat.sub_zero]
   by_cases hlt : t < args.length
   · simp [Array.getElem?_append, hlt]
   · have h1 : args[t]? = none := by simp; omega
     rw [h1]; simp only [Array.getD_eq_getD_getElem?, Array.getElem?_append, List.size_toArray, if_neg hlt, Array.getElem?_replicate]
     split <;> rfl
 · rintro e a w ⟨ρ, hf', h'⟩
   have key : ResK P ρ w R rs [] → bodyPost P fn (fun e w' => ∃ v, e = .returned v ∧ R v w') .ret a w := fun h' => by
     obtain ⟨vs, h1, h2⟩ := resK_run hf' rs [] h'; refine ⟨hf'.defers, _, ?_, _, rfl, resK_nil vs (by simpa using h2)⟩; unfold results; rw [Sem.run_bind, hr]
     have : (rs.toArray.mapM fun | .tmp t => pure (a.tmps.getD t undef) | .cell x t => do loadVar t (← asAddr (a.tmps.getD x undef)) : Sem (Array Value)) = (do pure (← rs.mapM (rv a.tmps)).toArray) := by
       rw [List.mapM_toArray]; rfl
     erw [this]
     simp [h1, Result.andThen]
   cases e <;> simp only [fin] at h' <;> try exact h'.elim
   · exact key h'
   · exact key h'
theorem callX_ok {ora : List Ent} (hora : OraOk P ora) {run : Run} (hrun : RunOk P run) : CallOk P base w0 (callX P ora run) := by
 intro f xs s x s' hx σ w vs h hv K hK; unfold callX at hx
 cases ho : memo ora f xs s with
 | some g =>
   rw [ho] at hx; simp only [Option.some.injEq] at hx; subst hx; exact memo_ok hora ho h hv hK
 | none =>
   rw [ho] at hx; simp only at hx
   cases hf : P.funcs[f]? with
   | none => rw [hf] at hx; cases hx
   | some fn =>
     rw [hf] at hx; simp only at hx; split at hx
     · rename_i c hb hn hl; have hlen := vls_len hv; refine ⟨by simp only [isExt, hf, hb]; rfl, cl_of_wp (rs := fn.results.toList) hf hb hn (by simp) (by rw [← hlen]; exact hl) fun a ha => ?_⟩
       have res : ∀ e ρ1 s1, (e = .normal ∨ e = .ret) → run fn.ntmps c (argX (dep fn.ntmps) xs 0 .e) s = some (e, ρ1, s1) → (match xres P ρ1 s1 fn.results.toList [] with
           | some x => some (x, s1)
           | none => none) = some (x, s') → c.wp P (fun e a' w' => ∃ ρ', Fits fn.ntmps ρ' a' ∧ fin P fn.results.toList K e ρ' w') a w := by
         intro e ρ1 s1 he hr hq
         cases hxr : xres P ρ1 s1 fn.results.toList [] with
         | none => rw [hxr] at hq; cases hq
         | some y =>
           rw [hxr] at hq; simp only [Option.some.injEq, Prod.mk.injEq] at hq; obtain ⟨rfl, rfl⟩ := hq; refine hrun _ _ _ _ _ _ _ _ _ hr σ w a _ _ h ha (argX_ok hv) fun σ' w' a' r' hxt hw hfit hE => ⟨r', hfit, ?_⟩; have hk : ResK P r' w' K fn.results.toList [] := xres_ok hw.mem hE hxr rfl fun v hvv => hK σ' w' v hxt hw hvv; rcases he with rfl | rfl
           · exact hk
           · exact hk
       split at hx
       · rename_i ρ1 s1 hr; exact res _ _ _ (.inl rfl) hr hx
       · rename_i ρ1 s1 hr; exact res _ _ _ (.inr rfl) hr hx
       · cases hx
     · cases hx
def ev (P : Program) (ora : List Ent) : Nat → Run
 | 0, _, _, _, _ => none
 | k + 1, n, c, ρ, s => match c with
   | .skip => some (.normal, ρ, s)
   | .label _ => some (.normal, ρ, s)
   | .region _ ops draw => (match xreg P n (callX P ora (ev P ora k)) ops draw ρ s with
     | some (ρ', s') => some (.normal, ρ', s')
     | none => none)
   | .seq x y => (match ev P ora k n x ρ s with
     | some (.normal, ρ', s') => ev P ora k n y ρ' s'
     | o => o)
   | .cond q x y => (match evX ρ q with
     | some (.b true) => ev P ora k n x ρ s
     | some (.b false) => ev P ora k n y ρ s
     | _ => none)
   | .block id x => (match ev P ora k n x ρ s with
     | some (.exit i, ρ', s') => (match Nat.beq i id with
       | true => some (.normal, ρ', s')
       | false => some (.exit i, ρ', s'))
     | o => o)
   | .loop x => (match ev P ora k n x ρ s with
     | some (.normal, ρ', s') => ev P ora k n (.loop x) ρ' s'
     | o => o)
   | .exit id => some (.exit id, ρ, s)
   | .ret => some (.ret, ρ, s)
   | _ => none
theorem ev_ok (hm : P.follows .mixedOrders = true) {ora : List Ent} (hora : OraOk P ora) :
   ∀ k, RunOk P (ev P ora k) ∧ (∀ (base : Bs) (w0 : World) n c ρ s e ρ' s', ev P ora k n (.loop c) ρ s = some (e, ρ', s') → ∀ σ w a r Q, Wo P base w0 σ s w → Fits n r a → EnvR σ ρ r →
     (∀ σ' w' a' r', Ext σ σ' → Wo P base w0 σ' s' w' → Fits n r' a' → EnvR σ' ρ' r' → Q e a' w') → LR P c Q k a w) := by
 intro k
 induction k with
 | zero =>
   refine ⟨?_, ?_⟩
   · intro base w0 n c ρ s e ρ' s' h; simp only [ev] at h; cases h
   · intro base w0 n c ρ s e ρ' s' h; simp only [ev] at h; cases h
 | succ k ih =>
   obtain ⟨ihR, ihL⟩ := ih
   have loop : ∀ (base : Bs) (w0 : World) n c ρ s e ρ' s', ev P ora (k + 1) n (.loop c) ρ s = some (e, ρ', s') → ∀ σ w a r Q, Wo P base w0 σ s w → Fits n r a → EnvR σ ρ r →
     (∀ σ' w' a' r', Ext σ σ' → Wo P base w0 σ' s' w' → Fits n r' a' → EnvR σ' ρ' r' → Q e a' w') → LR P c Q (k + 1) a w := by
     intro base w0 n c ρ s e ρ' s' h σ w a r Q hw hf hE hQ; simp only [ev] at h
     cases hx : ev P ora k n c ρ s with
     | none => rw [hx] at h; cases h
     | some q =>
       obtain ⟨e1, ρ1, s1⟩ := q; rw [hx] at h; refine ihR _ _ _ _ _ _ _ _ _ hx σ w a r _ hw hf hE fun σ' w' a' r' hxt hw' hf' hE' => ?_
       cases e1 with
       | normal => exact ihL _ _ _ _ _ _ _ _ _ h σ' w' a' r' Q hw' hf' hE' fun σ2 w2 a2 r2 hxt2 hw2 hf2 hE2 => hQ σ2 w2 a2 r2 (hxt.trans hxt2) hw2 hf2 hE2
       | _ =>
         simp only [Option.some.injEq, Prod.mk.injEq] at h; obtain ⟨rfl, rfl, rfl⟩ := h; exact hQ σ' w' a' r' hxt hw' hf' hE'
   refine ⟨fun base w0 n c ρ s e ρ' s' h σ w a r Q hw hf hE hQ => ?_, loop⟩
   cases c with
   | skip =>
     simp only [ev, Option.some.injEq, Prod.mk.injEq] at h; obtain ⟨rfl, rfl, rfl⟩ := h; exact wp_skip (hQ σ w a r (Ext.refl _) hw hf hE)
   | label l =>
     simp only [ev, Option.some.injEq, Prod.mk.injEq] at h; obtain ⟨rfl, rfl, rfl⟩ := h; exact wp_label (hQ σ w a r (Ext.refl _) hw hf hE)
   | exit id =>
     simp only [ev, Option.some.injEq, Prod.mk.injEq] at h; obtain ⟨rfl, rfl, rfl⟩ := h; exact wp_exit (hQ σ w a r (Ext.refl _) hw hf hE)
   | ret =>
     simp only [ev, Option.some.injEq, Prod.mk.injEq] at h; obtain ⟨rfl, rfl, rfl⟩ := h; exact wp_ret (hQ σ w a r (Ext.refl _) hw hf hE)
   | region id ops draw =>
     simp only [ev] at h
     cases hx : xreg P n (callX P ora (ev P ora k)) ops draw ρ s with
     | none => rw [hx] at h; cases h
     | some q =>
       obtain ⟨ρ1, s1⟩ := q; rw [hx] at h; simp only [Option.some.injEq, Prod.mk.injEq] at h; obtain ⟨rfl, rfl, rfl⟩ := h; obtain ⟨hh, hv⟩ := xreg_ok (fun _ _ => callX_ok hora ihR) hw hE hx (K := fun r' w' => ∃ σ', Ext σ σ' ∧ Wo P base w0 σ' s1 w' ∧ EnvR σ' ρ1 r') fun σ' w' r' hxt hw' hE' => ⟨σ', hxt, hw', hE'⟩; exact vcReg_sound hm hv hf fun r' a' w' hf' ⟨σ', hxt, hw', hE'⟩ => hQ σ' w' a' r' hxt hw' hf' hE'
   | seq x y =>
     simp only [ev] at h
     cases hx : ev P ora k n x ρ s with
     | none => rw [hx] at h; cases h
     | some q =>
       obtain ⟨e1, ρ1, s1⟩ := q; rw [hx] at h; refine wp_seq (ihR _ _ _ _ _ _ _ _ _ hx σ w a r _ hw hf hE fun σ' w' a' r' hxt hw' hf' hE' => ?_)
       cases e1 with
       | normal => exact ihR _ _ _ _ _ _ _ _ _ h σ' w' a' r' Q hw' hf' hE' fun σ2 w2 a2 r2 hxt2 hw2 hf2 hE2 => hQ σ2 w2 a2 r2 (hxt.trans hxt2) hw2 hf2 hE2
       | _ =>
         simp only [Option.some.injEq, Prod.mk.injEq] at h; obtain ⟨rfl, rfl, rfl⟩ := h; exact hQ σ' w' a' r' hxt hw' hf' hE'
   | cond q x y =>
     simp only [ev] at h
     cases hx : evX ρ q with
     | none => rw [hx] at h; cases h
     | some z =>
       rw [hx] at h; have hz := evX_spec hE hx
       cases z with
       | b c =>
         simp only [vl, Option.some.injEq] at hz
         cases c with
         | true => exact wp_cond_true (by rw [hf.eval]; exact hz.symm) (ihR _ _ _ _ _ _ _ _ _ h σ w a r Q hw hf hE hQ)
         | false => exact wp_cond_false (by rw [hf.eval]; exact hz.symm) (ihR _ _ _ _ _ _ _ _ _ h σ w a r Q hw hf hE hQ)
       | _ => cases h
   | block id x =>
     simp only [ev] at h
     cases hx : ev P ora k n x ρ s with
     | none => rw [hx] at h; cases h
     | some q =>
       obtain ⟨e1, ρ1, s1⟩ := q; rw [hx] at h; refine wp_block (ihR _ _ _ _ _ _ _ _ _ hx σ w a r _ hw hf hE fun σ' w' a' r' hxt hw' hf' hE' => ?_)
       cases e1 with
       | exit i =>
         simp only at h
         cases hb : Nat.beq i id with
         | true =>
           rw [hb] at h; simp only [Option.some.injEq, Prod.mk.injEq] at h; obtain ⟨rfl, rfl, rfl⟩ := h; have := Nat.eq_of_beq_eq_true hb; subst this; simp only [Exit.inBlock, if_true]; exact hQ σ' w' a' r' hxt hw' hf' hE'
         | false =>
           rw [hb] at h; simp only [Option.some.injEq, Prod.mk.injEq] at h; obtain ⟨rfl, rfl, rfl⟩ := h; simp only [Exit.inBlock, if_neg (Nat.ne_of_beq_eq_false hb)]; exact hQ σ' w' a' r' hxt hw' hf' hE'
       | _ =>
         simp only [Option.some.injEq, Prod.mk.injEq] at h; obtain ⟨rfl, rfl, rfl⟩ := h; exact hQ σ' w' a' r' hxt hw' hf' hE'
   | loop x =>
     exact wp_of_LR (loop _ _ _ _ _ _ _ _ _ h σ w a r Q hw hf hE hQ)
   | _ => simp only [ev] at h; cases h
end
end Go.Ev
namespace Go.Ev
open Go Go.Vc
noncomputable section
variable {P : Program}
def s0G (G : List (Nat × List X)) : St := ⟨.e, 0, 1, .e, G⟩
def s0 : St := s0G []
def bsW (w : World) : Bs := ⟨fun c => c < w.heap.size, fun _ => False, fun c => c < w.heap.size, fun _ h => h⟩
def isTrue : Option (X × St) → Bool
 | some (.b true, _) => true
 | _ => false
def GOk (G : List (Nat × List X)) (w : World) : Prop := ∀ g xs, lkG G g = some xs → ∃ e fz vs, vls (fun _ => none) xs = some vs ∧ w.heap[g]? = some (.cells vs.toArray e fz)
theorem startG {G : List (Nat × List X)} {w : World} (hG : GOk G w) : Wo P (bsW w) w (fun _ => none) (s0G G) w := by
 refine ⟨⟨fun b e cs h => ?_, fun b c x y r r' h => ?_, fun b o h => ?_, fun b c x y r r' h => ?_, fun g xs h => ?_⟩, ⟨rfl, Nat.lt_succ_self 0, fun _ _ => rfl, fun _ h => h.elim⟩, ⟨.refl w, fun c h => h, fun c _ => rfl⟩⟩
 · simp [St.blk, s0G, T.get_e, jn] at h
 · simp [St.blk, s0G, T.get_e, jn] at h
 · simp [St.mo, s0G, T.get_e, jn] at h
 · simp [St.mo, s0G, T.get_e, jn] at h
 · obtain ⟨e, fz, vs, h1, h2⟩ := hG g xs h; exact ⟨(Array.getElem?_eq_some_iff.1 h2).1, e, fz, vs, h1, h2⟩
theorem start (w : World) : Wo P (bsW w) w (fun _ => none) s0 w := startG fun g xs h => by cases h
theorem fram_holds {w w' : World} {L : List HProp} (h : Fram (bsW w) w w') (H : Holds w L) : Holds w' L := by
 refine Sat.mono H fun c o hc => ?_; show w'.heap[c]? = some o; have hc' : w.heap[c]? = some o := hc; have hlt : c < w.heap.size := (Array.getElem?_eq_some_iff.1 hc').1; rw [h.old c hlt, hc']
theorem cl_true (hm : P.follows .mixedOrders = true) {f : FuncId} {k : Nat} {M : List Ent} (hM : OraOk P M) (h : isTrue (callX P M (ev P M k) f [] s0) = true) {w : World} {L : List HProp} {K : Value → World → Prop} (H : Holds w L)
   (post : ∀ w', Same w w' → Holds w' L → K (.bool true) w') : Cl P f #[] w K := by
 have hc : CallOk P (bsW w) w (callX P M (ev P M k)) := callX_ok hM (ev_ok hm hM k).1
 cases hx : callX P M (ev P M k) f [] s0 with
 | none => rw [hx] at h; cases h
 | some q =>
   obtain ⟨x, s'⟩ := q; rw [hx] at h
   cases x with
   | b c =>
     cases c with
     | false => cases h
     | true =>
       refine (hc f [] s0 _ s' hx _ w [] (start w) rfl K fun σ' w' v _ hw hv => ?_).2; simp only [vl, Option.some.injEq] at hv; subst hv; exact post w' hw.fram.same (fram_holds hw.fram H)
   | _ => cases h
def isVal (z : X) : Option (X × St) → Bool
 | some q => eqX q.1 z
 | none => false
end
end Go.Ev
namespace Go.Ev
open Go Go.Vc
noncomputable section
abbrev CallT := FuncId → List X → St → Option (X × St)
def vPk (ρ : T X) (a b : Operand) : Option X → Option X
 | some (.b c) => (match c with
   | true => evX ρ a
   | false => evX ρ b)
 | _ => none
def vNc : Option (Nat × Nat) → Option X
 | some a => some (.p (some a))
 | none => none
def vFa2 (P : Program) (ρ : T X) (x : Operand) : Option Field → Option X
 | some fd => (match P.info? fd.type with
   | some i => (match i.size with
     | 0 => none
     | _ + 1 => foX (pX (evX ρ x)) fd.offset)
   | none => none)
 | none => none
def vFa (P : Program) (ρ : T X) (x : Operand) (f : Nat) : Option TypeDesc → Option X
 | some (.struct fs) => vFa2 P ρ x (fldOf fs.toList f)
 | _ => none
def vIa (P : Program) (ρ : T X) (x i : Operand) : Option TypeDesc → Option X
 | some (.array len e) => iaX P e len (pX (evX ρ x)) (evX ρ i)
 | some (.slice e) => isX P e (evX ρ x) (evX ρ i)
 | _ => none
def vIx (P : Program) (ρ : T X) (x i : Operand) : Option TypeDesc → Option X
 | some .string => ixsX (evX ρ x) (evX ρ i)
 | some (.array len e) => (match P.info? e with
   | some inf => (match P.underlying e with
     | some (.struct _) | some (.array _ _) => ixaX inf.size true len (evX ρ x) (evX ρ i)
     | some _ => ixaX inf.size false len (evX ρ x) (evX ρ i)
     | none => none)
   | none => none)
 | _ => none
def vFd (P : Program) (ρ : T X) (x : Operand) (f : Nat) : Option TypeDesc → Option X
 | some (.struct fs) => (match fldOf fs.toList f with
   | some fd => (match P.underlying fd.type with
     | some (.struct _) | some (.array _ _) => (match P.info? fd.type with
       | some i => fdaX fd.offset i.size (evX ρ x)
       | none => none)
     | some _ => fdX fd.offset (evX ρ x)
     | none => none)
   | none => none)
 | _ => none
def vBb (ρ : T X) (x y : Operand) : BinOp → Option X
 | .eql => bbX false (evX ρ x) (evX ρ y)
 | .neq => bbX true (evX ρ x) (evX ρ y)
 | _ => none
def vBn (P : Program) (e : TypeId) (ρ : T X) (x y : Operand) : BinOp → Option X
 | .eql => bnX P e false (evX ρ x) (evX ρ y)
 | .neq => bnX P e true (evX ρ x) (evX ρ y)
 | _ => none
def vBp (P : Program) (ρ : T X) (t : TypeId) (op : BinOp) (x y : Operand) : Option TypeDesc → Option X
 | some (.int _) => bp2 op (evX ρ x) (evX ρ y)
 | some .string => bp2 op (evX ρ x) (evX ρ y)
 | some .bool => vBb ρ x y op
 | some (.pointer e) => vBn P e ρ x y op
 | some _ => beX P op t x y (evX ρ x) (evX ρ y)
 | none => none
def vCv (P : Program) (ρ : T X) (s : St) (q d : TypeId) (x : Operand) : Option TypeDesc → Option TypeDesc → Option X
 | some (.int _), some (.int k) => ciX k (evX ρ x)
 | some (.slice e), some .string => cvX P s q (evX ρ x)
 | some _, some _ => cpX P s q d (evX ρ x)
 | _, _ => none
def vMi : Option TypeDesc → TypeId → Option X → Option X
 | some (.interface _), _, _ => none
 | some _, t, some x => some (.fc t x)
 | _, _, _ => none
def vSl (P : Program) (ρ : T X) (s : St) (x : Operand) (l h m : Option Operand) : Option TypeDesc → Option X
 | some .string => (match m with
   | none => sstX (evX ρ x) (fun d => bndX ρ d l) (fun d => bndX ρ d h)
   | some _ => none)
 | some (.slice e) => (match m with
   | none => (match P.info? e with
     | some inf => sslX inf.size (evX ρ x) (fun d => bndX ρ d l) (fun d => bndX ρ d h)
     | none => none)
   | some _ => none)
 | some (.array n e) => (match m with
   | none => slaX P s n e (evX ρ x) (fun d => bndX ρ d l) (fun d => bndX ρ d h)
   | some _ => none)
 | _ => none
def vBd (P : Program) (t : TypeId) : Option (List (Nat × X)) → Option X
 | some xs => bdX P t xs
 | none => none
def vLn2 (s : St) : Option TypeDesc → X → Option X
 | some .string, .s l => some (.i .i64 (l.length : Int))
 | some (.slice _), .l _ n _ => some (.i .i64 (n : Int))
 | some (.slice _), .e0 _ _ _ => some (.i .i64 0)
 | some (.map _ _), .m b => lmX s b
 | _, _ => none
def vLn (P : Program) (s : St) : List TypeId → Option (List X) → Option X
 | t :: _, some (x :: _) => vLn2 s (P.underlying t) x
 | _, _ => none
def vMm (mx : Bool) : Option (List X) → Option X
 | some xs => mmX mx xs
 | none => none
def vCl (P : Program) (ρ : T X) (s : St) (c : Call) : Callee → Option X
 | .builtin .len => vLn P s c.argTypes.toList (xargs ρ c.args.toList)
 | .builtin .cap => capX P c.argTypes.toList (xargs ρ c.args.toList)
 | .builtin .min => vMm false (xargs ρ c.args.toList)
 | .builtin .max => vMm true (xargs ρ c.args.toList)
 | _ => none
def xvalF (P : Program) (ρ : T X) (s : St) : Op → Option X
 | .move x => evX ρ x
 | .assign x => evX ρ x
 | .pick c a b => vPk ρ a b (evX ρ c)
 | .nilCheck x => vNc (pX (evX ρ x))
 | .load t a => ldW P ρ s t a
 | .fieldAddr q x f => vFa P ρ x f (P.underlying q)
 | .indexAddr t x i => vIa P ρ x i (P.underlying t)
 | .index t x i => vIx P ρ x i (P.underlying t)
 | .field t x f => vFd P ρ x f (P.underlying t)
 | .binOp op t x y _ => vBp P ρ t op x y (P.underlying t)
 | .unOp op _ x => upX op (evX ρ x)
 | .convert q d x => vCv P ρ s q d x (P.underlying q) (P.underlying d)
 | .makeInterface t x => vMi (P.underlying t) t (evX ρ x)
 | .slice t x l h m => vSl P ρ s x l h m (P.underlying t)
 | .extract x i => exX (evX ρ x) i
 | .build t ps => vBd P t (xparts ρ ps.toList)
 | .call c => vCl P ρ s c c.callee
 | .makeFunc fn a c => mfX ρ fn a c
 | .lookup t x i ok => lkX P s t (evX ρ x) (evX ρ i) ok
 | .typeAssert x _ a ok => taX P a ok (evX ρ x)
 | _ => none
theorem xvalF_eq (P : Program) (ρ : T X) (s : St) (o : Oper) : xvalF P ρ s o.op = xval P ρ s o := by
 unfold xval
 cases o.op with
 | pick c a b =>
   show vPk ρ a b (evX ρ c) = _; simp only
   cases evX ρ c with
   | none => rfl
   | some x =>
     cases x with
     | b c => cases c <;> rfl
     | _ => rfl
 | nilCheck x =>
   show vNc (pX (evX ρ x)) = _; simp only
   cases pX (evX ρ x) <;> rfl
 | fieldAddr q x f =>
   show vFa P ρ x f (P.underlying q) = _; simp only
   cases P.underlying q with
   | none => rfl
   | some d =>
     cases d with
     | struct fs =>
       show vFa2 P ρ x (fldOf fs.toList f) = _; simp only
       cases fldOf fs.toList f <;> rfl
     | _ => rfl
 | indexAddr t x i =>
   show vIa P ρ x i (P.underlying t) = _; simp only
   cases P.underlying t with
   | none => rfl
   | some d => cases d <;> rfl
 | index t x i =>
   show vIx P ρ x i (P.underlying t) = _; simp only
   cases P.underlying t with
   | none => rfl
   | some d => cases d <;> rfl
 | field t x f =>
   show vFd P ρ x f (P.underlying t) = _; simp only
   cases P.underlying t with
   | none => rfl
   | some d => cases d <;> rfl
 | binOp op t x y yt =>
   show vBp P ρ t op x y (P.underlying t) = _; simp only
   cases P.underlying t with
   | none => rfl
   | some d => cases d <;> first | rfl | (cases op <;> rfl)
 | convert q d x =>
   show vCv P ρ s q d x (P.underlying q) (P.underlying d) = _; simp only
   cases P.underlying q with
   | none => cases P.underlying d <;> rfl
   | some a =>
     cases P.underlying d with
     | none => cases a <;> rfl
     | some b => cases a <;> cases b <;> rfl
 | makeInterface t x =>
   show vMi (P.underlying t) t (evX ρ x) = _; simp only
   cases P.underlying t with
   | none => cases evX ρ x <;> rfl
   | some d => cases d <;> cases evX ρ x <;> rfl
 | slice t x l h m =>
   show vSl P ρ s x l h m (P.underlying t) = _; simp only
   cases P.underlying t with
   | none => rfl
   | some d => cases d <;> cases m <;> rfl
 | build t ps =>
   show vBd P t (xparts ρ ps.toList) = _; simp only
   cases xparts ρ ps.toList <;> rfl
 | call c =>
   show vCl P ρ s c c.callee = _; simp only
   cases c.callee with
   | builtin b =>
     cases b with
     | len =>
       show vLn P s c.argTypes.toList (xargs ρ c.args.toList) = _; simp only
       cases c.argTypes.toList with
       | nil => rfl
       | cons t ts =>
         cases xargs ρ c.args.toList with
         | none => rfl
         | some xs =>
           cases xs with
           | nil => rfl
           | cons y ys =>
             show vLn2 s (P.underlying t) y = _; simp only
             cases P.underlying t with
             | none => cases y <;> rfl
             | some d => cases d <;> cases y <;> rfl
     | min =>
       show vMm false (xargs ρ c.args.toList) = _; simp only
       cases xargs ρ c.args.toList <;> rfl
     | max =>
       show vMm true (xargs ρ c.args.toList) = _; simp only
       cases xargs ρ c.args.toList <;> rfl
     | _ => rfl
   | _ => rfl
 | _ => rfl
def eBx (t : TypeId) (s : St) : Option X → Option (X × St)
 | some x => newX t (some (cellsX x)) s
 | none => none
def eAp (P : Program) (s : St) : Array TypeId → Option (List X) → Option (X × St)
 | ⟨[t, tx]⟩, some [x, y] => appX P t tx x y s
 | _, _ => none
def eCl (P : Program) (call : CallT) (ρ : T X) (s : St) (c : Call) : Callee → Option (X × St)
 | .value (.func f) => eFn P call f s (xargs ρ c.args.toList)
 | .value f => eVl call s (evX ρ f) (xargs ρ c.args.toList)
 | .invoke q name => eIv P call s name (evX ρ q) (xargs ρ c.args.toList)
 | .builtin .clear => clrX P c.argTypes.toList (xargs ρ c.args.toList) s
 | .builtin .delete => dlX P c.argTypes.toList (xargs ρ c.args.toList) s
 | .builtin .copy => cpyZ P c.argTypes.toList (xargs ρ c.args.toList) s
 | .builtin .unsafeSliceData => eUsd s (usdX (xargs ρ c.args.toList))
 | .builtin .unsafeString => ustX P c.argTypes.toList (xargs ρ c.args.toList) s
 | .builtin .append => eAp P s c.argTypes (xargs ρ c.args.toList)
 | _ => none
def xeffF (P : Program) (st : Bool) (call : CallT) (ρ : T X) (s : St) : Op → Option (X × St)
 | .store t a x => stoX P s t (pX (evX ρ a)) (evX ρ x)
 | .alloc t => newX t (zeroX P t) s
 | .box t x => eBx t s (evX ρ x)
 | .buildSlice t n ps => eBs P t s n (xparts ρ ps.toList)
 | .makeSlice t l c => msX P t (evX ρ l) (evX ρ c) s
 | .convert q d x => eCv P st q d (evX ρ x) s
 | .makeMap t r => mmX0 P t (r.map (evX ρ)) s
 | .mapUpdate t m k x => muX P t (evX ρ m) (evX ρ k) (evX ρ x) s
 | .insert t m k x => muX P t (evX ρ m) (evX ρ k) (evX ρ x) s
 | .range t x => rgX P t (evX ρ x) s
 | .next x isS => nxX isS (evX ρ x) s
 | .call c => eCl P call ρ s c c.callee
 | _ => none
theorem xeffF_eq (P : Program) (st : Bool) (call : CallT) (ρ : T X) (s : St) (o : Oper) : xeffF P st call ρ s o.op = xeff P st call ρ s o := by
 unfold xeff
 cases o.op with
 | box t x =>
   show eBx t s (evX ρ x) = _; simp only
   cases evX ρ x <;> rfl
 | call c =>
   show eCl P call ρ s c c.callee = _; simp only
   cases c.callee with
   | value f =>
     cases f with
     | func f => rfl
     | _ => rfl
   | builtin b =>
     cases b with
     | append =>
       show eAp P s c.argTypes (xargs ρ c.args.toList) = _; obtain ⟨l⟩ := c.argTypes
       cases xargs ρ c.args.toList with
       | none =>
         match l with
         | [] => rfl
         | [_] => rfl
         | [_, _] => rfl
         | _ :: _ :: _ :: _ => rfl
       | some xs =>
         match l, xs with
         | [], [] => rfl
         | [], [_] => rfl
         | [], [_, _] => rfl
         | [], _ :: _ :: _ :: _ => rfl
         | [_], [] => rfl
         | [_], [_] => rfl
         | [_], [_, _] => rfl
         | [_], _ :: _ :: _ :: _ => rfl
         | [_, _], [] => rfl
         | [_, _], [_] => rfl
         | [_, _], [_, _] => rfl
         | [_, _], _ :: _ :: _ :: _ => rfl
         | _ :: _ :: _ :: _, [] => rfl
         | _ :: _ :: _ :: _, [_] => rfl
         | _ :: _ :: _ :: _, [_, _] => rfl
         | _ :: _ :: _ :: _, _ :: _ :: _ :: _ => rfl
     | delete => rfl
     | clear => rfl
     | copy => rfl
     | unsafeSliceData => rfl
     | unsafeString => rfl
     | _ => cases xargs ρ c.args.toList <;> rfl
   | invoke r m => rfl
 | _ => rfl
def oD2 (s : St) : Option (T X) → Option (T X × St)
 | some ρ => some (ρ, s)
 | none => none
def oE (n : Nat) (ops : List Oper) (i : Nat) (dst : Option Nat) (ρ : T X) : Option (X × St) → Option (T X × St)
 | some q => oD2 q.2 (xdone n ops i dst q.1 ρ)
 | none => none
def oV (P : Program) (st : Bool) (call : CallT) (n : Nat) (ops : List Oper) (i : Nat) (o : Oper) (ρ : T X) (s : St) : Option X → Option (T X × St)
 | some x => oD2 s (xdone n ops i o.dst x ρ)
 | none => oE n ops i o.dst ρ (xeffF P st call ρ s o.op)
def oG (P : Program) (st : Bool) (call : CallT) (n : Nat) (ops : List Oper) (i : Nat) (o : Oper) (ρ : T X) (s : St) : Option Bool → Option (T X × St)
 | some c => (match c with
   | true => oV P st call n ops i o ρ s (xvalF P ρ s o.op)
   | false => oD2 s (xput n ρ o.dst undX))
 | none => none
theorem oG_eq (P : Program) (st : Bool) (call : CallT) (n : Nat) (ops : List Oper) (i : Nat) (o : Oper) (ρ : T X) (s : St) : oG P st call n ops i o ρ s (xgd ops ρ o) = xop1 P st call n ops i o ρ s := by
 unfold xop1
 cases xgd ops ρ o with
 | none => rfl
 | some c =>
   cases c with
   | true =>
     show oV P st call n ops i o ρ s (xvalF P ρ s o.op) = _; rw [xvalF_eq]; simp only
     cases xval P ρ s o with
     | some x =>
       show oD2 s (xdone n ops i o.dst x ρ) = _; simp only
       cases xdone n ops i o.dst x ρ <;> rfl
     | none =>
       show oE n ops i o.dst ρ (xeffF P st call ρ s o.op) = _; rw [xeffF_eq]; simp only
       cases xeff P st call ρ s o with
       | none => rfl
       | some q =>
         obtain ⟨x, s'⟩ := q; show oD2 s' (xdone n ops i o.dst x ρ) = _; simp only
         cases xdone n ops i o.dst x ρ <;> rfl
   | false =>
     show oD2 s (xput n ρ o.dst undX) = _; simp only
     cases xput n ρ o.dst undX <;> rfl
def lK (ih : Nat → T X → St → Option (T X × St)) (i : Nat) : Option (T X × St) → Option (T X × St)
 | some q => ih i q.1 q.2
 | none => none
def xopsF (P : Program) (st : Bool) (call : CallT) (n : Nat) (ops : List Oper) (l : List Oper) : Nat → T X → St → Option (T X × St) :=
 @List.rec Oper (fun _ => Nat → T X → St → Option (T X × St)) (fun _ ρ s => some (ρ, s)) (fun o _ ih i ρ s => lK ih (i + 1) (oG P st call n ops i o ρ s (xgd ops ρ o))) l
theorem xopsF_eq (P : Program) (st : Bool) (call : CallT) (n : Nat) (ops : List Oper) : ∀ (l : List Oper) (i : Nat) (ρ : T X) (s : St), xopsF P st call n ops l i ρ s = xops P st call n ops l i ρ s
 | [], _, _, _ => rfl
 | o :: l, i, ρ, s => by
   show lK (xopsF P st call n ops l) (i + 1) (oG P st call n ops i o ρ s (xgd ops ρ o)) = _; rw [oG_eq, xops]
   cases xop1 P st call n ops i o ρ s with
   | none => rfl
   | some q =>
     obtain ⟨ρ', s'⟩ := q; exact xopsF_eq P st call n ops l (i + 1) ρ' s'
abbrev Pend := List (Nat × Oper × T X × X)
abbrev Past := List (Nat × St)
abbrev StT := Nat → Pend → Past → T X → St → Option (T X × St)
def sPa (ih : StT) (i : Nat) (pend : Pend) (past : Past) (ρ : T X) (s : St) : Bool → Option (T X × St)
 | true => ih i pend past ρ s
 | false => none
def sV2 (P : Program) (b : Nat → Nat → Bool) (o : Oper) (ih : StT) (i : Nat) (pend : Pend) (past : Past) (ρ : T X) (s : St) (x : X) (ρ' : T X) : Bool → Option (T X × St)
 | true => ih (i + 1) pend past ρ' s
 | false => sPa ih (i + 1) ((i, o, ρ, x) :: pend) past ρ' s (pastOk P ρ o (b i) x past)
def sV1 (P : Program) (b : Nat → Nat → Bool) (o : Oper) (ih : StT) (i : Nat) (pend : Pend) (past : Past) (ρ : T X) (s : St) (x : X) : Option (T X) → Option (T X × St)
 | some ρ' => sV2 P b o ih i pend past ρ s x ρ' (blind P o)
 | none => none
def sV (P : Program) (n : Nat) (ops : List Oper) (b : Nat → Nat → Bool) (o : Oper) (ih : StT) (i : Nat) (pend : Pend) (past : Past) (ρ : T X) (s : St) : Option X → Option (T X × St)
 | some x => sV1 P b o ih i pend past ρ s x (xdone n ops i o.dst x ρ)
 | none => none
def sE2 (ih : StT) (i : Nat) (pend : Pend) (past : Past) (s s' : St) : Bool → Option (T X) → Option (T X × St)
 | true, some ρ' => ih (i + 1) pend ((i, s) :: past) ρ' s'
 | _, _ => none
def sE (P : Program) (n : Nat) (ops : List Oper) (b : Nat → Nat → Bool) (o : Oper) (ih : StT) (i : Nat) (pend : Pend) (past : Past) (ρ : T X) (s : St) : Option (X × St) → Option (T X × St)
 | some q => sE2 ih i pend past s q.2 (pendOk P q.2 (b i) pend) (xdone n ops i o.dst q.1 ρ)
 | none => none
def sS (ih : StT) (i : Nat) (pend : Pend) (past : Past) (s : St) : Option (T X) → Option (T X × St)
 | some ρ' => ih (i + 1) pend past ρ' s
 | none => none
def sX (P : Program) (call : CallT) (n : Nat) (ops : List Oper) (b : Nat → Nat → Bool) (o : Oper) (ih : StT) (i : Nat) (pend : Pend) (past : Past) (ρ : T X) (s : St) : Bool → Option (T X × St)
 | true => sV P n ops b o ih i pend past ρ s (xvalF P ρ s o.op)
 | false => sE P n ops b o ih i pend past ρ s (xeffF P false call ρ s o.op)
def sG (P : Program) (call : CallT) (n : Nat) (ops : List Oper) (b : Nat → Nat → Bool) (o : Oper) (ih : StT) (i : Nat) (pend : Pend) (past : Past) (ρ : T X) (s : St) : Option Bool → Option (T X × St)
 | some c => (match c with
   | true => sX P call n ops b o ih i pend past ρ s (stillOp o.op)
   | false => sS ih i pend past s (xput n ρ o.dst undX))
 | none => none
def xstF (P : Program) (call : CallT) (n : Nat) (ops : List Oper) (b : Nat → Nat → Bool) (l : List Oper) : StT :=
 @List.rec Oper (fun _ => StT) (fun _ _ _ ρ s => some (ρ, s)) (fun o _ ih i pend past ρ s => sG P call n ops b o ih i pend past ρ s (xgd ops ρ o)) l
theorem xstF_eq (P : Program) (call : CallT) (n : Nat) (ops : List Oper) (b : Nat → Nat → Bool) : ∀ (l : List Oper) (i : Nat) (pend : Pend) (past : Past) (ρ : T X) (s : St), xstF P call n ops b l i pend past ρ s = xst P call n ops b l i pend past ρ s
 | [], _, _, _, _, _ => rfl
 | o :: l, i, pend, past, ρ, s => by
   have ih := xstF_eq P call n ops b l; show sG P call n ops b o (xstF P call n ops b l) i pend past ρ s (xgd ops ρ o) = _; rw [xst]
   cases xgd ops ρ o with
   | none => rfl
   | some c =>
     cases c with
     | false =>
       show sS (xstF P call n ops b l) i pend past s (xput n ρ o.dst undX) = _; simp only
       cases xput n ρ o.dst undX with
       | none => rfl
       | some ρ' => exact ih _ _ _ _ _
     | true =>
       show sX P call n ops b o (xstF P call n ops b l) i pend past ρ s (stillOp o.op) = _; simp only
       cases stillOp o.op with
       | true =>
         show sV P n ops b o (xstF P call n ops b l) i pend past ρ s (xvalF P ρ s o.op) = _; rw [xvalF_eq]; simp only
         cases xval P ρ s o with
         | none => rfl
         | some x =>
           show sV1 P b o (xstF P call n ops b l) i pend past ρ s x (xdone n ops i o.dst x ρ) = _; simp only
           cases xdone n ops i o.dst x ρ with
           | none => rfl
           | some ρ' =>
             show sV2 P b o (xstF P call n ops b l) i pend past ρ s x ρ' (blind P o) = _; simp only
             cases blind P o with
             | true => exact ih _ _ _ _ _
             | false =>
               show sPa (xstF P call n ops b l) (i + 1) ((i, o, ρ, x) :: pend) past ρ' s (pastOk P ρ o (b i) x past) = _; simp only
               cases pastOk P ρ o (b i) x past with
               | true => exact ih _ _ _ _ _
               | false => rfl
       | false =>
         show sE P n ops b o (xstF P call n ops b l) i pend past ρ s (xeffF P false call ρ s o.op) = _; rw [xeffF_eq]; simp only
         cases xeff P false call ρ s o with
         | none => rfl
         | some q =>
           obtain ⟨x, s'⟩ := q; show sE2 (xstF P call n ops b l) i pend past s s' (pendOk P s' (b i) pend) (xdone n ops i o.dst x ρ) = _; simp only
           cases pendOk P s' (b i) pend with
           | false => cases xdone n ops i o.dst x ρ <;> rfl
           | true =>
             cases xdone n ops i o.dst x ρ with
             | none => rfl
             | some ρ' => exact ih _ _ _ _ _
def rS (P : Program) (n : Nat) (call : CallT) (ops : Array Oper) (ρ : T X) (s : St) : Bool → Option (T X × St)
 | true => xstF P call n ops.toList (befM (msOf ops.toList [])) ops.toList 0 [] [] ρ s
 | false => xtr P call n ops ρ s
def rD (P : Program) (n : Nat) (call : CallT) (ops : Array Oper) (ρ : T X) (s : St) : Bool → Bool → Option (T X × St)
 | true, true => xopsF P true call n ops.toList ops.toList 0 ρ s
 | _, _ => rS P n call ops ρ s (stagedB ops ops.toList (msOf ops.toList []) ops.toList 0)
def xregF (P : Program) (n : Nat) (call : CallT) (ops : Array Oper) (ρ : T X) (s : St) : Bool → Option (T X × St)
 | false => xopsF P false call n ops.toList ops.toList 0 ρ s
 | true => rD P n call ops ρ s (Region.lexB .any ops) (allStill ops.toList)
theorem xregF_eq (P : Program) (n : Nat) (call : CallT) (ops : Array Oper) (draw : Bool) (ρ : T X) (s : St) : xregF P n call ops ρ s draw = xreg P n call ops draw ρ s := by
 unfold xreg
 cases draw with
 | false => exact xopsF_eq _ _ _ _ _ _ _ _ _
 | true =>
   show rD P n call ops ρ s (Region.lexB .any ops) (allStill ops.toList) = _
   have st : rS P n call ops ρ s (stagedB ops ops.toList (msOf ops.toList []) ops.toList 0) = (match stagedB ops ops.toList (msOf ops.toList []) ops.toList 0 with
     | true => xst P call n ops.toList (befM (msOf ops.toList [])) ops.toList 0 [] [] ρ s
     | false => xtr P call n ops ρ s) := by
     cases stagedB ops ops.toList (msOf ops.toList []) ops.toList 0 with
     | true => exact xstF_eq _ _ _ _ _ _ _ _ _ _ _
     | false => rfl
   simp only
   cases Region.lexB .any ops with
   | false => exact st
   | true =>
     cases allStill ops.toList with
     | false => exact st
     | true => exact xopsF_eq _ _ _ _ _ _ _ _ _
def cR2 (s : St) : Option X → Option (X × St)
 | some x => some (x, s)
 | none => none
def cR (P : Program) (rs : List ResultVar) : Option (Exit × T X × St) → Option (X × St)
 | some q => (match q.1 with
   | .normal => cR2 q.2.2 (xres P q.2.1 q.2.2 rs [])
   | .ret => cR2 q.2.2 (xres P q.2.1 q.2.2 rs [])
   | _ => none)
 | none => none
def cB (P : Program) (run : Run) (fn : Func) (xs : List X) (s : St) : Option Code → Bool → Bool → Option (X × St)
 | some c, false, true => cR P fn.results.toList (run fn.ntmps c (argX (dep fn.ntmps) xs 0 .e) s)
 | _, _, _ => none
def cF (P : Program) (run : Run) (xs : List X) (s : St) : Option Func → Option (X × St)
 | some fn => cB P run fn xs s fn.body (fn.name == "runtime.NumGoroutine") (Nat.ble xs.length fn.ntmps)
 | none => none
def mF (P : Program) (run : Run) (f : FuncId) (xs : List X) (s : St) : Option (X × St) → Option (X × St)
 | some p => some p
 | none => cF P run xs s (P.funcs[f]?)
def callF (P : Program) (M : List Ent) (run : Run) (f : FuncId) (xs : List X) (s : St) : Option (X × St) := mF P run f xs s (memo M f xs s)
theorem callF_eq (P : Program) (M : List Ent) (run : Run) (f : FuncId) (xs : List X) (s : St) : callF P M run f xs s = callX P M run f xs s := by
 unfold callF callX
 cases memo M f xs s with
 | some x => rfl
 | none =>
 show cF P run xs s (P.funcs[f]?) = _; simp only
 cases P.funcs[f]? with
 | none => rfl
 | some fn =>
   show cB P run fn xs s fn.body (fn.name == "runtime.NumGoroutine") (Nat.ble xs.length fn.ntmps) = _; simp only
   cases fn.body with
   | none => rfl
   | some c =>
     cases fn.name == "runtime.NumGoroutine" with
     | true => cases Nat.ble xs.length fn.ntmps <;> rfl
     | false =>
       cases Nat.ble xs.length fn.ntmps with
       | false => rfl
       | true =>
         show cR P fn.results.toList (run fn.ntmps c (argX (dep fn.ntmps) xs 0 .e) s) = _; simp only
         cases run fn.ntmps c (argX (dep fn.ntmps) xs 0 .e) s with
         | none => rfl
         | some q =>
           obtain ⟨e, ρ', s'⟩ := q
           cases e with
           | normal =>
             show cR2 s' (xres P ρ' s' fn.results.toList []) = _; simp only
             cases xres P ρ' s' fn.results.toList [] <;> rfl
           | ret =>
             show cR2 s' (xres P ρ' s' fn.results.toList []) = _; simp only
             cases xres P ρ' s' fn.results.toList [] <;> rfl
           | _ => rfl
def kR : Option (T X × St) → Option (Exit × T X × St)
 | some q => some (.normal, q.1, q.2)
 | none => none
def kS2 (ih : Run) (n : Nat) (y : Code) (q : Exit × T X × St) : Exit → Option (Exit × T X × St)
 | .normal => ih n y q.2.1 q.2.2
 | _ => some q
def kS (ih : Run) (n : Nat) (y : Code) : Option (Exit × T X × St) → Option (Exit × T X × St)
 | some q => kS2 ih n y q q.1
 | none => none
def kC2 (ih : Run) (n : Nat) (x y : Code) (ρ : T X) (s : St) : Bool → Option (Exit × T X × St)
 | true => ih n x ρ s
 | false => ih n y ρ s
def kC (ih : Run) (n : Nat) (x y : Code) (ρ : T X) (s : St) : Option X → Option (Exit × T X × St)
 | some (.b c) => kC2 ih n x y ρ s c
 | _ => none
def kB3 (q : Exit × T X × St) : Bool → Option (Exit × T X × St)
 | true => some (.normal, q.2.1, q.2.2)
 | false => some q
def kB2 (id : Nat) (q : Exit × T X × St) : Exit → Option (Exit × T X × St)
 | .exit i => kB3 q (Nat.beq i id)
 | _ => some q
def kB (id : Nat) : Option (Exit × T X × St) → Option (Exit × T X × St)
 | some q => kB2 id q q.1
 | none => none
def stepF (P : Program) (M : List Ent) (ih : Run) (n : Nat) (c : Code) (ρ : T X) (s : St) : Option (Exit × T X × St) := match c with
 | .skip => some (.normal, ρ, s)
 | .label _ => some (.normal, ρ, s)
 | .region _ ops draw => kR (xregF P n (callF P M ih) ops ρ s draw)
 | .seq x y => kS ih n y (ih n x ρ s)
 | .cond q x y => kC ih n x y ρ s (evX ρ q)
 | .block id x => kB id (ih n x ρ s)
 | .loop x => kS ih n (.loop x) (ih n x ρ s)
 | .exit id => some (.exit id, ρ, s)
 | .ret => some (.ret, ρ, s)
 | _ => none
def evF (P : Program) (M : List Ent) (k : Nat) : Run := @Nat.rec (fun _ => Run) (fun _ _ _ _ => none) (fun _ ih => stepF P M ih) k
theorem evF_eq (P : Program) (M : List Ent) : ∀ (k : Nat) (n : Nat) (c : Code) (ρ : T X) (s : St), evF P M k n c ρ s = ev P M k n c ρ s
 | 0, _, _, _, _ => rfl
 | k + 1, n, c, ρ, s => by
   have ih := evF_eq P M k
   have ihf : evF P M k = ev P M k := by funext n c ρ s; exact ih n c ρ s
   show stepF P M (evF P M k) n c ρ s = _; rw [ihf]; unfold stepF
   cases c with
   | region id ops draw =>
     simp only [ev]; rw [xregF_eq]
     have : callF P M (ev P M k) = callX P M (ev P M k) := by funext f xs s; exact callF_eq P M _ f xs s
     rw [this]
     cases xreg P n (callX P M (ev P M k)) ops draw ρ s <;> rfl
   | seq x y =>
     simp only [ev]
     cases ev P M k n x ρ s with
     | none => rfl
     | some q => obtain ⟨e, ρ', s'⟩ := q; cases e <;> rfl
   | cond q x y =>
     simp only [ev]
     cases evX ρ q with
     | none => rfl
     | some z =>
       cases z with
       | b c => cases c <;> rfl
       | _ => rfl
   | block id x =>
     simp only [ev]
     cases ev P M k n x ρ s with
     | none => rfl
     | some q =>
       obtain ⟨e, ρ', s'⟩ := q
       cases e with
       | exit i =>
         show kB3 (.exit i, ρ', s') (Nat.beq i id) = _; simp only
         cases Nat.beq i id <;> rfl
       | _ => rfl
   | loop x =>
     simp only [ev]
     cases ev P M k n x ρ s with
     | none => rfl
     | some q => obtain ⟨e, ρ', s'⟩ := q; cases e <;> rfl
   | _ => rfl
theorem evF_fun (P : Program) (M : List Ent) (k : Nat) : evF P M k = ev P M k := by funext n c ρ s; exact evF_eq P M k n c ρ s
theorem cl_trueF {P : Program} (hm : P.follows .mixedOrders = true) {f : FuncId} {k : Nat} {M : List Ent} (hM : OraOk P M) (h : isTrue (callF P M (evF P M k) f [] s0) = true) {w : World} {L : List HProp} {K : Value → World → Prop} (H : Holds w L)
   (post : ∀ w', Same w w' → Holds w' L → K (.bool true) w') : Cl P f #[] w K := by
 rw [evF_fun, callF_eq] at h; exact cl_true hm hM h H post
theorem ora_nil {P : Program} : OraOk P [] := fun e he => by cases he
theorem ora_cons {P : Program} {e : Ent} {M : List Ent} (h : EntOk P e) (hM : OraOk P M) : OraOk P (e :: M) := fun x hx => by
 rcases List.mem_cons.1 hx with rfl | hx
 · exact h
 · exact hM x hx
def isRes (x : X) (q' : St) : Option (X × St) → Bool
 | some r => (match eqX r.1 x with
   | true => subS r.2 q'
   | false => false)
 | none => false
theorem entS {P : Program} (hm : P.follows .mixedOrders = true) {f : FuncId} {k : Nat} {xs : List X} {q : St} {z : X} {q' : St} {M : List Ent} (hM : OraOk P M) (hd : domS q q' = true)
   (h : isRes z q' (callF P M (evF P M k) f xs q) = true) : EntOk P (.s f xs q z q') := by
 refine ⟨hd, ?_⟩; intro base w0 σ w vs hw hv K hK; rw [evF_fun, callF_eq] at h; have hc : CallOk P base w0 (callX P M (ev P M k)) := callX_ok hM (ev_ok hm hM k).1
 cases hx : callX P M (ev P M k) f xs q with
 | none => rw [hx] at h; cases h
 | some r =>
   obtain ⟨y, s'⟩ := r; rw [hx] at h; unfold isRes at h; simp only at h; split at h
   · rename_i he; obtain rfl := eqX_eq _ _ he; exact hc f xs q _ s' hx σ w vs hw hv K fun σ' w' v hxt hw' hv' => hK σ' w' v hxt (hw'.sub (subS_ok h)) hv'
   · cases h
end
end Go.Ev
namespace Go.Proofs.YtcnjipikapiplaaGreatDoor
open Go Go.Vc
attribute [local irreducible] Vc.Nc Vc.Ld Vc.LdA Vc.St Vc.StA Vc.Fo Vc.Iaa Vc.Ias Vc.Ixs Vc.Ixa Vc.Fd Vc.FdA Vc.Bp Vc.Bb Vc.Bn Vc.Up Vc.Ci Vc.Lns Vc.Lnl Vc.Ex Vc.Sst Vc.Ssl Vc.New Vc.Vif Vc.VJoin Vc.VLoop Vc.KE Vc.Dr Vc.Rk Vc.Cl Vc.Cx Vc.Inv Vc.Be Vc.Cv Vc.Cw Vc.Mf Vc.Sl Vc.Lk Vc.Bd Vc.Bs Vc.Ms Vc.Mm Vc.Mu Vc.Me Vc.Es Vc.Rg Vc.Nx Vc.Ta Vc.Ap Vc.Usd Vc.Ust Vc.Cp Vc.Ln Vc.Bc Vc.Bmin Vc.Bmax Vc.Bdel Vc.Bclr Vc.Pk
namespace L42
open Go.M31 J30 J31 J32 J34 Go.Tx
variable {w : World} {L : List HProp} {K : Value → World → Prop}
def fldsOf (P : Program) (t : Nat) : List Field := match P.underlying t with
 | some (.struct fs) => fs.toList
 | _ => []
def opV (i : Nat) (u v : Value) : Operand → Value
 | .tmp n => if n = i then u else v
 | _ => v
theorem beQ {P : Program} {tS i j : Nat} (ks : List TypeDesc) (xs ys : List Ev.X) (bs : List Bool) {u v : Value} {K : Value → Prop} (hij : j ≠ i)
   (hl : (fldsOf P tS).length = xs.length) (hly : ys.length = xs.length) (hlb : bs.length = xs.length) (hu : P.underlying tS = some (.struct (fldsOf P tS).toArray)) (ho : (fldsOf P tS).map (·.offset) = List.range xs.length) (hn : (fldsOf P tS).all (fun f => !(f.name == "_")) = true)
   (ht : (fldsOf P tS).map (fun f => P.underlying f.type) = ks.map some) (hp : (ks.all fun k => match k with | .struct _ => false | .array _ _ => false | _ => true) = true)
   (hst : P.stoodInHeld tS = false) (hg : P.eqGuardType P.depth tS = false) (he : ∀ (q : Nat) k x y b, ks[q]? = some k → xs[q]? = some x → ys[q]? = some y → bs[q]? = some b → Ev.eq1 k x y = some b)
   (hx : Ev.vl (fun _ => none) (.g xs) = some u) (hy : Ev.vl (fun _ => none) (.g ys) = some v) (h : K (.bool (!(bs.all id)))) : Be P .neq tS (.tmp i) (.tmp j) u v w K := by
 have key : ∀ (fs : List Field) (bs : List Bool), fs.length = bs.length → (∀ (q : Nat) f b, fs[q]? = some f → bs[q]? = some b → (f.name == "_") = false ∧ ∃ x y, Ev.partX P f.type xs f.offset = some x ∧ Ev.partX P f.type ys f.offset = some y ∧ Ev.eqT P 19 f.type x y = some b) →
     Ev.eqFs P (Ev.eqT P 19) xs ys fs = some (bs.all id) := by
   intro fs
   induction fs with
   | nil =>
     intro bs hb _; have : bs = [] := List.eq_nil_of_length_eq_zero hb.symm; subst this; rfl
   | cons f r ih =>
     intro bs hb hf
     cases bs with
     | nil => simp at hb
     | cons b bs =>
       obtain ⟨h1, x, y, h2, h3, h4⟩ := hf 0 f b rfl rfl; have hr := ih bs (by simpa using hb) fun q g c hg hc => hf (q + 1) g c (by simpa using hg) (by simpa using hc); simp only [Ev.eqFs, h1, h2, h3, h4]
       cases b with
       | false => simp
       | true => simpa using hr
 have all : ∀ (q : Nat) f b, (fldsOf P tS)[q]? = some f → bs[q]? = some b → (f.name == "_") = false ∧ ∃ x y, Ev.partX P f.type xs f.offset = some x ∧ Ev.partX P f.type ys f.offset = some y ∧ Ev.eqT P 19 f.type x y = some b := by
   intro q f b hq hbq
   have h0 : (f.name == "_") = false := by
     have := List.all_eq_true.1 hn f (List.mem_of_getElem? hq); simpa using this
   have hql : q < xs.length := by rw [← hl]; exact (List.getElem?_eq_some_iff.1 hq).1
   have h1 : f.offset = q := by
     have := congrArg (fun l => l[q]?) ho; simp only [List.getElem?_map, hq, Option.map_some, List.getElem?_range hql, Option.some.injEq] at this; exact this
   have h2 := congrArg (fun l => l[q]?) ht; simp only [List.getElem?_map, hq, Option.map_some] at h2
   cases hk : ks[q]? with
   | none => rw [hk] at h2; simp at h2
   | some k =>
     rw [hk] at h2
     have h3 : P.underlying f.type = some k := by simpa using h2
     have h4 := List.all_eq_true.1 hp k (List.mem_of_getElem? hk); obtain ⟨x, hxq⟩ : ∃ x, xs[q]? = some x := ⟨_, List.getElem?_eq_getElem hql⟩; obtain ⟨y, hyq⟩ : ∃ y, ys[q]? = some y := ⟨_, List.getElem?_eq_getElem (by omega)⟩; have h5 := he q k x y b hk hxq hyq hbq; refine ⟨h0, x, y, ?_, ?_, ?_⟩
     · unfold Ev.partX; rw [h3, h1]
       cases k <;> first | exact hxq | (simp at h4)
     · unfold Ev.partX; rw [h3, h1]
       cases k <;> first | exact hyq | (simp at h4)
     · rw [Ev.eqT, h3]
       cases k <;> first | exact h5 | (simp at h4)
 have he2 : Ev.eqT P 20 tS (.g xs) (.g ys) = some (bs.all id) := by
   rw [Ev.eqT, hu]; simp only [hst]; exact key _ bs (by omega) all
 have hgd : Ev.gdE P tS (.tmp i) (.tmp j) (.g xs) (.g ys) = true := by
   simp only [Ev.gdE, hg]
 have hb : Ev.beX P .neq tS (.tmp i) (.tmp j) (some (.g xs)) (some (.g ys)) = some (.b (!(bs.all id))) := by
   unfold Ev.beX; simp only [hgd, he2]
 have hfa : opV i u v (.tmp i) = u := if_pos rfl; have hfb : opV i u v (.tmp j) = v := if_neg hij
 have := Ev.beX_ok (P := P) (σ := fun _ => none) (t := tS) (A := .tmp i) (B := .tmp j) (f := opV i u v) (w := w) (K := K)
   hu (fun k h => by cases h) (fun h => by cases h) (fun h => by cases h) (fun e h => by cases h) hb (fun a ha => by cases ha; rw [hfa]; exact hx) (fun a ha => by cases ha; rw [hfb]; exact hy) fun v hv => by
     obtain rfl := Option.some.inj hv; exact h
 rw [hfa, hfb] at this; exact this
def xsB (s : ByteArray) : Ev.X := .s (s.data.toList.map (·.toNat))
theorem xsB_vl (s : ByteArray) : Ev.str (s.data.toList.map (·.toNat)) = s := by
 unfold Ev.str; rw [List.map_map]
 have : (s.data.toList.map (UInt8.ofNat ∘ fun x => x.toNat)) = s.data.toList := by
   rw [show (UInt8.ofNat ∘ fun x : UInt8 => x.toNat) = id by funext x; simp]; simp
 rw [this]
abbrev tEv : Nat := 42
theorem beEt {i j : Nat} {e f : Et} {K : Value → Prop} (hij : j ≠ i) (h : ∀ z : Bool, (z = true ↔ e = f) → K (.bool (!z))) : Be Tryz.prog .neq tEv (.tmp i) (.tmp j) (.agg (cellsE e).toArray) (.agg (cellsE f).toArray) w K := by
 refine beQ [.int .i64, .int .i64, .int .i64] [.i .i64 e.kd, .i .i64 e.cn, .i .i64 e.nn] [.i .i64 f.kd, .i .i64 f.cn, .i .i64 f.nn] [e.kd == f.kd, e.cn == f.cn, e.nn == f.nn] hij (by kernel_rfl) rfl rfl (by kernel_rfl) (by kernel_rfl) (by kernel_rfl) (by kernel_rfl) rfl (by kernel_rfl) (by kernel_rfl) ?_ ?_ ?_ (h _ ?_)
 · intro q k x y b hk hx hy hb
   rcases q with _ | _ | _ | q <;> simp at hk hx hy hb <;> subst hk <;> subst hx <;> subst hy <;> subst hb <;> simp [Ev.eq1]
 · simp [cellsE, Ev.vl, Ev.vls, iv]
 · simp [cellsE, Ev.vl, Ev.vls, iv]
 · cases e; cases f; simp
theorem beTt {i j : Nat} {e f : Tn} {K : Value → Prop} (hij : j ≠ i) (h : ∀ z : Bool, (z = true ↔ e = f) → K (.bool (!z))) : Be Tryz.prog .neq tT (.tmp i) (.tmp j) (.agg (cellsT e).toArray) (.agg (cellsT f).toArray) w K := by
 refine beQ [.string, .string, .int .i64, .int .i64, .int .i64] [xsB e.nm, xsB e.tk, .i .i64 e.me, .i .i64 e.st, .i .i64 e.qu] [xsB f.nm, xsB f.tk, .i .i64 f.me, .i .i64 f.st, .i .i64 f.qu] [decide (e.nm = f.nm), decide (e.tk = f.tk), e.me == f.me, e.st == f.st, e.qu == f.qu] hij (by kernel_rfl) rfl rfl (by kernel_rfl) (by kernel_rfl) (by kernel_rfl) (by kernel_rfl) rfl (by kernel_rfl) (by kernel_rfl) ?_ ?_ ?_ (h _ ?_)
 · intro q k x y b hk hx hy hb
   rcases q with _ | _ | _ | _ | _ | q <;> simp at hk hx hy hb <;> subst hk <;> subst hx <;> subst hy <;> subst hb <;> simp [Ev.eq1, xsB, Ev.eqN_spec, xsB_vl]
 · simp [cellsT, xsB, Ev.vl, Ev.vls, xsB_vl, iv]
 · simp [cellsT, xsB, Ev.vl, Ev.vls, xsB_vl, iv]
 · cases e; cases f; simp
theorem eq_lists {α : Type} {a b : List α} (hl : a.length = b.length) : (∀ q < a.length, a[q]? = b[q]?) ↔ a = b := by
 constructor
 · intro h; apply List.ext_getElem?; intro i
   by_cases hi : i < a.length
   · exact h i hi
   · rw [List.getElem?_eq_none (by omega), List.getElem?_eq_none (by omega)]
 · rintro rfl q _; rfl
theorem eq_next {α : Type} {a b : List α} {i : Nat} {x y : α} (hx : a[i]? = some x) (hy : b[i]? = some y) (h : ∀ q < i, a[q]? = b[q]?) (e : x = y) : ∀ q < i + 1, a[q]? = b[q]? := by
 intro q hq
 by_cases hqi : q < i
 · exact h q hqi
 · obtain rfl : q = i := by omega
   rw [hx, hy, e]
section
variable {a b : Option Addr} {c d : Nat}
theorem EqT_spec {ts us : List Tn} (H : Holds w L) (h1 : TsIn L a ts) (h2 : TsIn L b us) (hl : ts.length ≤ 1000) (k : ∀ z w', (z = true ↔ ts = us) → Same w w' → Holds w' L → K (.bool z) w') :
   Cl Tryz.prog F.slices_Equal_api_Tenant_api_Tenant #[.slice a ts.length c, .slice b us.length d] w K := by
 refine Tie.slices_Equal_api_Tenant_api_Tenant ?_; unfold Vcf.slices_Equal_api_Tenant_api_Tenant; refine r_lnl (r_lnl (r_neq (r_ifN (fun h => k false w ⟨fun e => (by cases e), fun e => absurd (by rw [e]) h⟩ (.refl _) H) fun h => r_lnl ?_)))
 have hlen : ts.length = us.length := by omega
 refine r_loop1 (fun y w' => ∃ i : Nat, i ≤ ts.length ∧ y = nv i ∧ (∀ q < i, ts[q]? = us[q]?) ∧ Same w w' ∧ Holds w' L) (fun y _ => ts.length - (RowKit.intOf y).toNat) ⟨0, by omega, rfl, fun q hq => absurd hq (Nat.not_lt_zero _), .refl w, H⟩ ?_; clear H; rintro _ _ w2 ⟨i, hi, rfl, hq, S, H⟩; refine r_lss (r_ifD (fun h => ?_) fun h => ?_)
 · have hlt : i < ts.length := by omega
   obtain ⟨t, ht⟩ : ∃ t, ts[i]? = some t := ⟨_, List.getElem?_eq_getElem hlt⟩; obtain ⟨u, hu⟩ : ∃ u, us[i]? = some u := ⟨_, List.getElem?_eq_getElem (by omega)⟩; refine r_dr H fun w3 S3 H3 => ?_; refine r_ldT h1 H3 ht hlt (r_ldT h2 H3 hu (by omega) ?_); refine beTt (by decide) fun z hz => ?_
   cases z with
   | false =>
     refine r_vt (k false w3 ⟨fun e => (by cases e), fun e => ?_⟩ (S.trans S3) H3); subst e; rw [ht] at hu; exact hz.2 (Option.some.inj hu)
   | true =>
     refine r_vf (r_add1N (by omega) (r_ke ⟨⟨i + 1, by omega, rfl, eq_next ht hu hq (hz.1 rfl), S.trans S3, H3⟩, ?_⟩)); simp only [RowKit.intOf, Int.toNat_natCast]; omega
 · obtain rfl : i = ts.length := by omega
   exact k true w2 ⟨fun _ => (eq_lists hlen).1 hq, fun _ => rfl⟩ S H
theorem REqT_spec {ts us : List Tn} (H : Holds w L) (h1 : TsIn L a ts) (h2 : TsIn L b us) (hl : ts.length ≤ 1000) (k : ∀ z w', (z = true ↔ ts = us) → Same w w' → Holds w' L → K (.bool z) w') :
   Cl Tryz.prog F.balerref32_Same #[.slice a ts.length c, .slice b us.length d] w K := by
 refine Tie.balerref32_Same ?_; unfold Vcf.balerref32_Same; refine r_lnl (r_lnl (r_neq (r_ifN (fun h => k false w ⟨fun e => (by cases e), fun e => absurd (by rw [e]) h⟩ (.refl _) H) fun h => r_lnl ?_)))
 have hlen : ts.length = us.length := by omega
 refine r_loop1 (fun y w' => ∃ i : Nat, i ≤ ts.length ∧ y = nv i ∧ (∀ q < i, ts[q]? = us[q]?) ∧ Same w w' ∧ Holds w' L) (fun y _ => ts.length - (RowKit.intOf y).toNat) ⟨0, by omega, rfl, fun q hq => absurd hq (Nat.not_lt_zero _), .refl w, H⟩ ?_; clear H; rintro _ _ w2 ⟨i, hi, rfl, hq, S, H⟩; refine r_lss (r_ifD (fun h => ?_) fun h => ?_)
 · have hlt : i < ts.length := by omega
   obtain ⟨t, ht⟩ : ∃ t, ts[i]? = some t := ⟨_, List.getElem?_eq_getElem hlt⟩; obtain ⟨u, hu⟩ : ∃ u, us[i]? = some u := ⟨_, List.getElem?_eq_getElem (by omega)⟩; refine r_ldT h1 H ht hlt ?_; refine r_new H fun tb w3 S3 H3 => ?_
   have hzT : (zeroP Tryz.prog tT).cells.toList = [.string ⟨#[]⟩, .string ⟨#[]⟩, iv 0, iv 0, iv 0] := by kernel_rfl
   rw [hzT] at H3; refine r_stA 0 H3 (vs := cellsT t) rfl (Nat.le_refl 5) rfl rfl fun w4 S4 H4 => ?_; replace H4 : Holds w4 (blk tb tT (cellsT t) :: L) := H4; refine r_dr H4 fun w5 S5 H5 => ?_; refine r_ldA 0 H5 (cellsT t) rfl rfl rfl (r_ldT h2.up H5 hu (by omega) ?_); have Sz := S.trans (S3.trans (S4.trans S5)); refine beTt (by decide) fun z hz => ?_
   cases z with
   | false =>
     refine r_vt (k false w5 ⟨fun e => (by cases e), fun e => ?_⟩ Sz H5.drop); subst e; rw [ht] at hu; exact hz.2 (Option.some.inj hu)
   | true =>
     refine r_vf (r_add1N (by omega) (r_ke ⟨⟨i + 1, by omega, rfl, eq_next ht hu hq (hz.1 rfl), Sz, H5.drop⟩, ?_⟩)); simp only [RowKit.intOf, Int.toNat_natCast]; omega
 · obtain rfl : i = ts.length := by omega
   exact k true w2 ⟨fun _ => (eq_lists hlen).1 hq, fun _ => rfl⟩ S H
theorem EqX_spec {xs ys : List ByteArray} (H : Holds w L) (h1 : StIn L a xs) (h2 : StIn L b ys) (hl : xs.length ≤ 1000) (k : ∀ z w', (z = true ↔ xs = ys) → Same w w' → Holds w' L → K (.bool z) w') :
   Cl Tryz.prog F.slices_Equal_string_string #[.slice a xs.length c, .slice b ys.length d] w K := by
 refine Tie.slices_Equal_string_string ?_; unfold Vcf.slices_Equal_string_string; refine r_lnl (r_lnl (r_neq (r_ifN (fun h => k false w ⟨fun e => (by cases e), fun e => absurd (by rw [e]) h⟩ (.refl _) H) fun h => r_lnl ?_)))
 have hlen : xs.length = ys.length := by omega
 refine r_loop1 (fun y w' => ∃ i : Nat, i ≤ xs.length ∧ y = nv i ∧ (∀ q < i, xs[q]? = ys[q]?) ∧ Same w w' ∧ Holds w' L) (fun y _ => xs.length - (RowKit.intOf y).toNat) ⟨0, by omega, rfl, fun q hq => absurd hq (Nat.not_lt_zero _), .refl w, H⟩ ?_; clear H; rintro _ _ w2 ⟨i, hi, rfl, hq, S, H⟩; refine r_lss (r_ifD (fun h => ?_) fun h => ?_)
 · have hlt : i < xs.length := by omega
   obtain ⟨t, ht⟩ : ∃ t, xs[i]? = some t := ⟨_, List.getElem?_eq_getElem hlt⟩; obtain ⟨u, hu⟩ : ∃ u, ys[i]? = some u := ⟨_, List.getElem?_eq_getElem (by omega)⟩; refine r_dr H fun w3 S3 H3 => ?_; refine r_ldG1 h1 H3 ht (v := .string t) rfl hlt (r_ldG1 h2 H3 hu (v := .string u) rfl (by omega) ?_); refine r_sne ?_
   by_cases e : t = u
   · rw [show (!decide (t = u)) = false by simp [e]]; refine r_vf (r_add1N (by omega) (r_ke ⟨⟨i + 1, by omega, rfl, eq_next ht hu hq e, S.trans S3, H3⟩, ?_⟩)); simp only [RowKit.intOf, Int.toNat_natCast]; omega
   · rw [show (!decide (t = u)) = true by simp [e]]; refine r_vt (k false w3 ⟨fun e => (by cases e), fun e2 => ?_⟩ (S.trans S3) H3); subst e2; rw [ht] at hu; exact absurd (Option.some.inj hu) e
 · obtain rfl : i = xs.length := by omega
   exact k true w2 ⟨fun _ => (eq_lists hlen).1 hq, fun _ => rfl⟩ S H
theorem EqE_spec {es fs : List Et} (H : Holds w L) (h1 : EtIn L a es) (h2 : EtIn L b fs) (hl : es.length ≤ 1000) (k : ∀ z w', (z = true ↔ es = fs) → Same w w' → Holds w' L → K (.bool z) w') :
   Cl Tryz.prog F.slices_Equal_api_Event_api_Event #[.slice a es.length c, .slice b fs.length d] w K := by
 refine Tie.slices_Equal_api_Event_api_Event ?_; unfold Vcf.slices_Equal_api_Event_api_Event; refine r_lnl (r_lnl (r_neq (r_ifN (fun h => k false w ⟨fun e => (by cases e), fun e => absurd (by rw [e]) h⟩ (.refl _) H) fun h => r_lnl ?_)))
 have hlen : es.length = fs.length := by omega
 refine r_loop1 (fun y w' => ∃ i : Nat, i ≤ es.length ∧ y = nv i ∧ (∀ q < i, es[q]? = fs[q]?) ∧ Same w w' ∧ Holds w' L) (fun y _ => es.length - (RowKit.intOf y).toNat) ⟨0, by omega, rfl, fun q hq => absurd hq (Nat.not_lt_zero _), .refl w, H⟩ ?_; clear H; rintro _ _ w2 ⟨i, hi, rfl, hq, S, H⟩; refine r_lss (r_ifD (fun h => ?_) fun h => ?_)
 · have hlt : i < es.length := by omega
   obtain ⟨t, ht⟩ : ∃ t, es[i]? = some t := ⟨_, List.getElem?_eq_getElem hlt⟩; obtain ⟨u, hu⟩ : ∃ u, fs[i]? = some u := ⟨_, List.getElem?_eq_getElem (by omega)⟩; refine r_dr H fun w3 S3 H3 => ?_; refine r_ldG h1 H3 ht rfl hlt (r_ldG h2 H3 hu rfl (by omega) ?_); refine beEt (by decide) fun z hz => ?_
   cases z with
   | false =>
     refine r_vt (k false w3 ⟨fun e => (by cases e), fun e => ?_⟩ (S.trans S3) H3); subst e; rw [ht] at hu; exact hz.2 (Option.some.inj hu)
   | true =>
     refine r_vf (r_add1N (by omega) (r_ke ⟨⟨i + 1, by omega, rfl, eq_next ht hu hq (hz.1 rfl), S.trans S3, H3⟩, ?_⟩)); simp only [RowKit.intOf, Int.toNat_natCast]; omega
 · obtain rfl : i = es.length := by omega
   exact k true w2 ⟨fun _ => (eq_lists hlen).1 hq, fun _ => rfl⟩ S H
end
theorem cn_eq {n m : Cn} : n = m ↔ n.un = m.un ∧ n.wi = m.wi ∧ n.bu = m.bu ∧ n.sp = m.sp ∧ n.jo = m.jo ∧ n.ch = m.ch := by
 cases n; cases m; simp
def sameS (ts us : List Tn) (n m : Cn) (xs ys : List ByteArray) (es fs : List Et) : Prop := n = m ∧ ts = us ∧ xs = ys ∧ es = fs
section
variable {ts us : List Tn} {n m : Cn} {xs ys : List ByteArray} {es fs : List Et} {a b a2 b2 a3 b3 : Option Addr} {c d c2 d2 c3 d3 : Nat}
theorem sameC_spec (H : Holds w L) (h1 : TsIn L a ts) (h2 : TsIn L b us) (hl : ts.length ≤ 1000) (k : ∀ z w', (z = true ↔ n = m ∧ ts = us) → Same w w' → Holds w' L → K (.bool z) w') :
   Cl Tryz.prog F.script_sameConfig #[.agg (cellsC a ts.length c n).toArray, .agg (cellsC b us.length d m).toArray] w K := by
 refine Tie.script_sameConfig ?_; unfold Vcf.script_sameConfig; refine r_new H fun ab w1 S1 H1 => ?_; replace H1 : Holds w1 (blk ab tC (cellsC a ts.length c n) :: L) := H1; refine r_new H1 fun bb w2 S2 H2 => ?_; replace H2 : Holds w2 (blk bb tC (cellsC b us.length d m) :: blk ab tC (cellsC a ts.length c n) :: L) := H2; have S := S1.trans S2; have no : (¬ (n = m)) → K (.bool false) w2 := fun h => k false w2 ⟨fun e => (by cases e), fun e => absurd e.1 h⟩ S H2.drop.drop; rw [cn_eq] at no; refine r_fo (r_ld 1 H2 (v := iv n.un) rfl rfl (r_fo (r_ld 0 H2 (v := iv m.un) rfl rfl (r_eql (r_ifE (fun e1 => ?_) fun e1 => no fun q => e1 q.1))))); refine r_fo (r_ld 1 H2 (v := iv n.wi) rfl rfl (r_fo (r_ld 0 H2 (v := iv m.wi) rfl rfl (r_eql (r_ifE (fun e2 => ?_) fun e2 => no fun q => e2 q.2.1))))); refine r_fo (r_ld 1 H2 (v := iv n.bu) rfl rfl (r_fo (r_ld 0 H2 (v := iv m.bu) rfl rfl (r_eql (r_ifE (fun e3 => ?_) fun e3 => no fun q => e3 q.2.2.1))))); refine r_fo (r_ld 1 H2 (v := iv n.sp) rfl rfl (r_fo (r_ld 0 H2 (v := iv m.sp) rfl rfl (r_eql (r_ifE (fun e4 => ?_) fun e4 => no fun q => e4 q.2.2.2.1))))); refine r_fo (r_ld 1 H2 (v := iv n.jo) rfl rfl (r_fo (r_ld 0 H2 (v := iv m.jo) rfl rfl (r_eql (r_ifE (fun e5 => ?_) fun e5 => no fun q => e5 q.2.2.2.2.1))))); refine r_fo (r_ld 1 H2 (v := iv n.ch) rfl rfl (r_fo (r_ld 0 H2 (v := iv m.ch) rfl rfl (r_eql (r_ifE (fun e6 => ?_) fun e6 => no fun q => e6 q.2.2.2.2.2))))); have hnm : n = m := cn_eq.2 ⟨e1, e2, e3, e4, e5, e6⟩; refine r_fo0 (r_ld 1 H2 (v := .slice a ts.length c) rfl rfl (r_fo0 (r_ld 0 H2 (v := .slice b us.length d) rfl rfl ?_))); refine EqT_spec H2 h1.up.up h2.up.up hl fun z w3 hz S3 H3 => ?_; exact k z w3 ⟨fun e => ⟨hnm, hz.1 e⟩, fun e => hz.2 e.2⟩ (S.trans S3) H3.drop.drop
theorem PSame_spec (H : Holds w L) (h1 : TsIn L a ts) (h2 : TsIn L b us) (h3 : StIn L a2 xs) (h4 : StIn L b2 ys) (h5 : EtIn L a3 es) (h6 : EtIn L b3 fs) (l1 : ts.length ≤ 1000) (l2 : xs.length ≤ 1000) (l3 : es.length ≤ 1000)
   (k : ∀ z w', (z = true ↔ sameS ts us n m xs ys es fs) → Same w w' → Holds w' L → K (.bool z) w') :
   Cl Tryz.prog F.script_Same #[.agg (cellsS a ts.length c n a2 xs.length c2 a3 es.length c3).toArray, .agg (cellsS b us.length d m b2 ys.length d2 b3 fs.length d3).toArray] w K := by
 refine Tie.script_Same ?_; unfold Vcf.script_Same; refine r_new H fun ab w1 S1 H1 => ?_; replace H1 : Holds w1 (blk ab tS (cellsS a ts.length c n a2 xs.length c2 a3 es.length c3) :: L) := H1; refine r_new H1 fun bb w2 S2 H2 => ?_; replace H2 : Holds w2 (blk bb tS (cellsS b us.length d m b2 ys.length d2 b3 fs.length d3) :: blk ab tS (cellsS a ts.length c n a2 xs.length c2 a3 es.length c3) :: L) := H2; refine r_fo0 (r_ldA 1 H2 (cellsC a ts.length c n) rfl rfl rfl (r_fo0 (r_ldA 0 H2 (cellsC b us.length d m) rfl rfl rfl ?_))); refine sameC_spec H2 h1.up.up h2.up.up l1 fun z w3 hz S3 H3 => ?_; have S := S1.trans (S2.trans S3)
 cases z with
 | false => exact r_vf (k false w3 ⟨fun e => (by cases e), fun e => hz.2 ⟨e.1, e.2.1⟩⟩ S H3.drop.drop)
 | true =>
   obtain ⟨e1, e2⟩ := hz.1 rfl; refine r_vt (r_fo (r_ld 1 H3 (v := .slice a2 xs.length c2) rfl rfl (r_fo (r_ld 0 H3 (v := .slice b2 ys.length d2) rfl rfl ?_)))); refine EqX_spec H3 h3.up.up h4.up.up l2 fun z w4 hz S4 H4 => ?_
   cases z with
   | false => exact r_vf (k false w4 ⟨fun e => (by cases e), fun e => hz.2 e.2.2.1⟩ (S.trans S4) H4.drop.drop)
   | true =>
     have e3 := hz.1 rfl; refine r_vt (r_fo (r_ld 1 H4 (v := .slice a3 es.length c3) rfl rfl (r_fo (r_ld 0 H4 (v := .slice b3 fs.length d3) rfl rfl ?_)))); refine EqE_spec H4 h5.up.up h6.up.up l3 fun z w5 hz S5 H5 => ?_; exact k z w5 ⟨fun e => ⟨e1, e2, e3, hz.1 e⟩, fun e => hz.2 e.2.2.2⟩ (S.trans (S4.trans S5)) H5.drop.drop
theorem RSame_spec (H : Holds w L) (h1 : TsIn L a ts) (h2 : TsIn L b us) (h3 : StIn L a2 xs) (h4 : StIn L b2 ys) (h5 : EtIn L a3 es) (h6 : EtIn L b3 fs) (l1 : ts.length ≤ 1000) (l2 : xs.length ≤ 1000) (l3 : es.length ≤ 1000)
   (k : ∀ z w', (z = true ↔ sameS ts us n m xs ys es fs) → Same w w' → Holds w' L → K (.bool z) w') :
   Cl Tryz.prog F.balerref42_Same #[.agg (cellsS a ts.length c n a2 xs.length c2 a3 es.length c3).toArray, .agg (cellsS b us.length d m b2 ys.length d2 b3 fs.length d3).toArray] w K := by
 refine Tie.balerref42_Same ?_; unfold Vcf.balerref42_Same; refine r_new H fun ab w1 S1 H1 => ?_; replace H1 : Holds w1 (blk ab tS (cellsS a ts.length c n a2 xs.length c2 a3 es.length c3) :: L) := H1; refine r_new H1 fun bb w2 S2 H2 => ?_; replace H2 : Holds w2 (blk bb tS (cellsS b us.length d m b2 ys.length d2 b3 fs.length d3) :: blk ab tS (cellsS a ts.length c n a2 xs.length c2 a3 es.length c3) :: L) := H2
 have hzC : (zeroP Tryz.prog tC).cells.toList = [.slice none 0 0, iv 0, iv 0, iv 0, iv 0, iv 0, iv 0] := by kernel_rfl
 refine r_fo0 (r_ldA 1 H2 (cellsC a ts.length c n) rfl rfl rfl ?_); refine r_new H2 fun xb w3 S3 H3 => ?_; rw [hzC] at H3; refine r_stA 0 H3 (vs := cellsC a ts.length c n) rfl (Nat.le_refl 7) rfl rfl fun w4 S4 H4 => ?_; replace H4 : Holds w4 (blk xb tC (cellsC a ts.length c n) :: blk bb tS (cellsS b us.length d m b2 ys.length d2 b3 fs.length d3) :: blk ab tS (cellsS a ts.length c n a2 xs.length c2 a3 es.length c3) :: L) := H4; refine r_fo0 (r_ldA 1 H4 (cellsC b us.length d m) rfl rfl rfl ?_); refine r_new H4 fun yb w5 S5 H5 => ?_; rw [hzC] at H5; refine r_stA 0 H5 (vs := cellsC b us.length d m) rfl (Nat.le_refl 7) rfl rfl fun w6 S6 H6 => ?_; replace H6 : Holds w6 (blk yb tC (cellsC b us.length d m) :: blk xb tC (cellsC a ts.length c n) :: blk bb tS (cellsS b us.length d m b2 ys.length d2 b3 fs.length d3) :: blk ab tS (cellsS a ts.length c n a2 xs.length c2 a3 es.length c3) :: L) := H6; have S := S1.trans (S2.trans (S3.trans (S4.trans (S5.trans S6)))); clear S1 S2 S3 S4 S5 S6 H H1 H2 H3 H4 H5; refine r_join1 (fun v w' => ∃ z : Bool, v = .bool (!z) ∧ (z = true ↔ n = m ∧ ts = us) ∧ Same w w' ∧ Holds w' (blk yb tC (cellsC b us.length d m) :: blk xb tC (cellsC a ts.length c n) :: blk bb tS (cellsS b us.length d m b2 ys.length d2 b3 fs.length d3) :: blk ab tS (cellsS a ts.length c n a2 xs.length c2 a3 es.length c3) :: L)) ?_ ?_
 rotate_left
 · have no : (¬ (n.un = m.un ∧ n.wi = m.wi ∧ n.bu = m.bu ∧ n.sp = m.sp ∧ n.jo = m.jo ∧ n.ch = m.ch)) → KE [pt ab, pt bb] [pt ab, pt bb] (∃ z : Bool, Value.bool true = .bool (!z) ∧ (z = true ↔ n = m ∧ ts = us) ∧ Same w w6 ∧ Holds w6 (blk yb tC (cellsC b us.length d m) :: blk xb tC (cellsC a ts.length c n) :: blk bb tS (cellsS b us.length d m b2 ys.length d2 b3 fs.length d3) :: blk ab tS (cellsS a ts.length c n a2 xs.length c2 a3 es.length c3) :: L)) :=
     fun h => r_ke ⟨false, rfl, ⟨fun e => (by cases e), fun e => absurd (cn_eq.1 e.1) h⟩, S, H6⟩
   refine r_fo (r_ld 1 H6 (v := iv n.un) rfl rfl (r_fo (r_ld 0 H6 (v := iv m.un) rfl rfl (r_neq (r_ifN (fun e1 => no fun q => e1 q.1) fun e1 => ?_))))); refine r_fo (r_ld 1 H6 (v := iv n.wi) rfl rfl (r_fo (r_ld 0 H6 (v := iv m.wi) rfl rfl (r_neq (r_ifN (fun e2 => no fun q => e2 q.2.1) fun e2 => ?_))))); refine r_fo (r_ld 1 H6 (v := iv n.bu) rfl rfl (r_fo (r_ld 0 H6 (v := iv m.bu) rfl rfl (r_neq (r_ifN (fun e3 => no fun q => e3 q.2.2.1) fun e3 => ?_))))); refine r_fo (r_ld 1 H6 (v := iv n.sp) rfl rfl (r_fo (r_ld 0 H6 (v := iv m.sp) rfl rfl (r_neq (r_ifN (fun e4 => no fun q => e4 q.2.2.2.1) fun e4 => ?_))))); refine r_fo (r_ld 1 H6 (v := iv n.jo) rfl rfl (r_fo (r_ld 0 H6 (v := iv m.jo) rfl rfl (r_neq (r_ifN (fun e5 => no fun q => e5 q.2.2.2.2.1) fun e5 => ?_))))); refine r_fo (r_ld 1 H6 (v := iv n.ch) rfl rfl (r_fo (r_ld 0 H6 (v := iv m.ch) rfl rfl (r_neq (r_ifN (fun e6 => no fun q => e6 q.2.2.2.2.2) fun e6 => ?_))))); have hnm : n = m := cn_eq.2 ⟨e1, e2, e3, e4, e5, e6⟩; refine r_fo0 (r_ld 1 H6 (v := .slice a ts.length c) rfl rfl (r_fo0 (r_ld 0 H6 (v := .slice b us.length d) rfl rfl ?_))); refine REqT_spec H6 h1.up.up.up.up h2.up.up.up.up l1 fun z w7 hz S7 H7 => ?_; exact r_not (r_ke ⟨z, rfl, ⟨fun e => ⟨hnm, hz.1 e⟩, fun e => hz.2 e.2⟩, S.trans S7, H7⟩)
 clear H6 S; rintro _ _ w7 ⟨z, rfl, hz, S, H⟩
 cases z with
 | false => exact r_vt (k false w7 ⟨fun e => (by cases e), fun e => hz.2 ⟨e.1, e.2.1⟩⟩ S H.drop.drop.drop.drop)
 | true =>
   obtain ⟨e1, e2⟩ := hz.1 rfl; refine r_vf ?_; refine r_join1 (fun v w' => w7 = w' ∧ ∃ z : Bool, v = .bool (!z) ∧ (z = true ↔ xs.length = ys.length ∧ es.length = fs.length)) ?_ ?_
   rotate_left
   · refine r_fo (r_ld 3 H (v := .slice a2 xs.length c2) rfl rfl (r_lnl (r_fo (r_ld 2 H (v := .slice b2 ys.length d2) rfl rfl (r_lnl (r_neq (r_ifN (fun g => r_ke ⟨rfl, false, rfl, fun e => (by cases e), fun e => absurd (by rw [e.1]) g⟩) fun g => ?_))))))); refine r_fo (r_ld 3 H (v := .slice a3 es.length c3) rfl rfl (r_lnl (r_fo (r_ld 2 H (v := .slice b3 fs.length d3) rfl rfl (r_lnl (r_neq (r_ke ⟨rfl, (es.length : Int) == (fs.length : Int), rfl, ?_⟩))))))); rw [beq_iff_eq]; omega
   rintro _ _ _ ⟨rfl, z, rfl, hz⟩
   cases z with
   | false => exact r_vt (k false w7 ⟨fun e => (by cases e), fun e => hz.2 ⟨by rw [e.2.2.1], by rw [e.2.2.2]⟩⟩ S H.drop.drop.drop.drop)
   | true =>
     obtain ⟨e3, e4⟩ := hz.1 rfl; refine r_vf (r_fo (r_ld 3 H (v := .slice a2 xs.length c2) rfl rfl (r_lnl ?_))); refine r_loop1 (fun y w' => ∃ i : Nat, i ≤ xs.length ∧ y = nv i ∧ (∀ q < i, xs[q]? = ys[q]?) ∧ w7 = w') (fun y _ => xs.length - (RowKit.intOf y).toNat) ⟨0, by omega, rfl, fun q hq => absurd hq (Nat.not_lt_zero _), rfl⟩ ?_; rintro _ _ _ ⟨i, hi, rfl, hq, rfl⟩; refine r_lss (r_ifD (fun h => ?_) fun h => ?_)
     · have hlt : i < xs.length := by omega
       obtain ⟨t, ht⟩ : ∃ t, xs[i]? = some t := ⟨_, List.getElem?_eq_getElem hlt⟩; obtain ⟨u, hu⟩ : ∃ u, ys[i]? = some u := ⟨_, List.getElem?_eq_getElem (by omega)⟩; refine r_ldG1 h3.up.up.up.up H ht (v := .string t) rfl hlt ?_; refine r_fo (r_ld 2 H (v := .slice b2 ys.length d2) rfl rfl ?_); refine r_ldG1 h4.up.up.up.up H hu (v := .string u) rfl (by omega) ?_; refine r_sne ?_
       by_cases e : t = u
       · rw [show (!decide (t = u)) = false by simp [e]]; refine r_vf (r_add1N (by omega) (r_ke ⟨⟨i + 1, by omega, rfl, eq_next ht hu hq e, rfl⟩, ?_⟩)); simp only [RowKit.intOf, Int.toNat_natCast]; omega
       · rw [show (!decide (t = u)) = true by simp [e]]; refine r_vt (k false w7 ⟨fun e => (by cases e), fun e2 => ?_⟩ S H.drop.drop.drop.drop); have e2 := e2.2.2.1; subst e2; rw [ht] at hu; exact absurd (Option.some.inj hu) e
     obtain rfl : i = xs.length := by omega
     have e5 := (eq_lists e3).1 hq; refine r_fo (r_ld 3 H (v := .slice a3 es.length c3) rfl rfl (r_lnl ?_)); refine r_loop1 (fun y w' => ∃ i : Nat, i ≤ es.length ∧ y = nv i ∧ (∀ q < i, es[q]? = fs[q]?) ∧ Same w w' ∧ Holds w' (blk yb tC (cellsC b us.length d m) :: blk xb tC (cellsC a ts.length c n) :: blk bb tS (cellsS b us.length d m b2 ys.length d2 b3 fs.length d3) :: blk ab tS (cellsS a ts.length c n a2 xs.length c2 a3 es.length c3) :: L)) (fun y _ => es.length - (RowKit.intOf y).toNat) ⟨0, by omega, rfl, fun q hq => absurd hq (Nat.not_lt_zero _), S, H⟩ ?_; clear H S h hi hq; rintro _ _ w8 ⟨i, hi, rfl, hq, S, H⟩; refine r_lss (r_ifD (fun h => ?_) fun h => ?_)
     · have hlt : i < es.length := by omega
       obtain ⟨t, ht⟩ : ∃ t, es[i]? = some t := ⟨_, List.getElem?_eq_getElem hlt⟩; obtain ⟨u, hu⟩ : ∃ u, fs[i]? = some u := ⟨_, List.getElem?_eq_getElem (by omega)⟩; refine r_ldG h5.up.up.up.up H ht rfl hlt ?_; refine r_new H fun eb w9 S9 H9 => ?_
       have hzE : (zeroP Tryz.prog 42).cells.toList = [iv 0, iv 0, iv 0] := by kernel_rfl
       rw [hzE] at H9; refine r_stA 0 H9 (vs := cellsE t) rfl (Nat.le_refl 3) rfl rfl fun w10 S10 H10 => ?_; replace H10 : Holds w10 (blk eb tEv (cellsE t) :: blk yb tC (cellsC b us.length d m) :: blk xb tC (cellsC a ts.length c n) :: blk bb tS (cellsS b us.length d m b2 ys.length d2 b3 fs.length d3) :: blk ab tS (cellsS a ts.length c n a2 xs.length c2 a3 es.length c3) :: L) := H10; refine r_dr H10 fun w11 S11 H11 => ?_; refine r_ldA 0 H11 (cellsE t) rfl rfl rfl ?_; refine r_fo (r_ld 3 H11 (v := .slice b3 fs.length d3) rfl rfl ?_); refine r_ldG h6.up.up.up.up.up H11 hu rfl (by omega) ?_; have Sz := S.trans (S9.trans (S10.trans S11)); refine beEt (by decide) fun z hz9 => ?_
       cases z with
       | false =>
         refine r_vt (k false w11 ⟨fun e => (by cases e), fun e => ?_⟩ Sz H11.drop.drop.drop.drop.drop); have e := e.2.2.2; subst e; rw [ht] at hu; exact hz9.2 (Option.some.inj hu)
       | true =>
         refine r_vf (r_add1N (by omega) (r_ke ⟨⟨i + 1, by omega, rfl, eq_next ht hu hq (hz9.1 rfl), Sz, H11.drop⟩, ?_⟩)); simp only [RowKit.intOf, Int.toNat_natCast]; omega
     · obtain rfl : i = es.length := by omega
       exact k true w8 ⟨fun _ => ⟨e1, e2, e5, (eq_lists e4).1 hq⟩, fun _ => rfl⟩ S H.drop.drop.drop.drop
end
end L42
namespace L42
open Go.M31 J30 J31 J32 J34 Go.Tx
variable {w : World} {L : List HProp} {K : Value → World → Prop}
theorem maxIn_whole {W : World} (h : W.ShapedOpen Tryz.prog) : MaxIn [whole W] := by
 have g : ∃ m, W.cell? ⟨0, 0, none⟩ = some (.int .i64 m) :=
   Go.Proofs.cell_of_shapedOpen_int (t := 3) (zero := #[.int .i64 0]) h (of_decide_eq_true (by kernel_rfl)) (by kernel_rfl) rfl (by kernel_rfl) (by kernel_rfl) Tryz.underlying3
 intro w' H'; obtain ⟨m, hm⟩ := g; obtain ⟨g, hg, hgs, _⟩ := H'; refine ⟨m, ?_⟩; unfold World.cell? at hm ⊢
 cases hb : W.heap[0]? with
 | none => rw [hb] at hm; cases hm
 | some o =>
   rw [hb] at hm; rw [show w'.heap[0]? = some o from hgs _ _ (hg _ _ hb)]; exact hm
section
variable {H : Type} {enc : TypeId × Value → H}
theorem handed_shaped {a : Assume} {C : Checked} {os : Os} {f : FuncId} {fn : Func} {s : ChangeSpec} {conds : List PathCond} {apart fresh handsOn again : Bool} {X : World → Array Value → Prop}
   (hX : ∀ (w w' : World) (args : Array Value), w.heap = w'.heap → X w args → X w' args)
   (own : ownKnob C.prog.godebug = none) (started : os.Started) (noInit : C.prog.inits.idxOf? f = none) (hfn : C.prog.funcs[f]? = some fn)
   (witness : ∃ (w : World) (tape : Tape) (i : Input), w.os = os ∧ (w.forCall tape i).Shaped C.prog ∧ i.vars = [] ∧ Input.okWide C.prog (w.forCall tape i) .any w.heap.size f i ∧
     ((s.pre enc C.prog fn conds apart (w.forCall tape i).memory i.args ∧ X (w.forCall tape i).memory i.args) ∧ sizedMet enc C.prog fn (OpenSpec.ofChange s) apart (w.forCall tape i).memory i.args) ∧ a.holds C.prog (lone (Frame.enter C.prog f i.args .normal) [] (w.forCall tape i)))
   (contract : ∀ (W : World) (base : Nat) (args : Array Value) (ds gs : List (DataW H)) (before : List MemPlace),
     (∀ (j : Nat) t v, fn.params[j]? = some t → args[j]? = some v → Value.okWide C.prog W .any base t v) →
     DataW.Whole enc C.prog fn.params.toList s.vars apart W args.toList ds gs before →
     conds.all (PathCond.test C.prog ⟨fn.params.toList, ds, s.plain.varTypes C.prog, gs⟩) = true →
     W.ShapedOpen C.prog → X W args →
     a.holds C.prog (lone (Frame.enter C.prog f args .normal) [] W) →
     Calls C.prog f args W fun e W' => ∃ v, e = .returned v ∧ s.post enc C.prog fn apart fresh handsOn again W args v W') :
   ReturnsInHanded a C os f .any (fun w args => (s.pre enc C.prog fn conds apart w args ∧ X w args) ∧ sizedMet enc C.prog fn (OpenSpec.ofChange s) apart w args) (s.post enc C.prog fn apart fresh handsOn again) := by
 refine returnsInHanded_of_calls own started noInit witness ?_; intro w tape i _ hsh _ hok hpre hholds; obtain ⟨_, _, _, fn', hfn', _, _, _, _, hval⟩ := hok; have e : fn' = fn := Option.some.inj (hfn'.symm.trans hfn); subst e; obtain ⟨⟨⟨ds, gs, before, hw, hc⟩, hx⟩, hz⟩ := hpre; have hw' := DataW.Whole.of_heap (w' := w.forCall tape i) (by rfl) hw; refine (contract (w.forCall tape i) w.heap.size i.args ds gs before hval hw' hc hsh (hX _ _ _ (by rfl) hx) hholds).mono fun e W' ⟨v, he, hp⟩ => ?_; subst he; exact ChangeSpec.post_blind hp
end
theorem ScriptTexts_of (hh : ∀ {w : World} {L : List HProp} {K : Value → World → Prop}, Holds w L → (∀ w', Same w w' → Holds w' L → K (.bool true) w') → Cl Tryz.prog F.balerlaw42_hello #[] w K)
   (H : Holds w L) (a : Option Addr) (ts : List Tn) (c : Nat) (n : Cn) (a2 : Option Addr) (xs : List ByteArray) (c2 : Nat) (a3 : Option Addr) (es : List Et) (c3 : Nat)
   (b : Option Addr) (us : List Tn) (d : Nat) (m : Cn) (b2 : Option Addr) (ys : List ByteArray) (d2 : Nat) (b3 : Option Addr) (fs : List Et) (d3 : Nat)
   (h0 : (TsIn L a ts ∧ ts.length ≤ c) ∧ (StIn L a2 xs ∧ xs.length ≤ c2) ∧ EtIn L a3 es ∧ es.length ≤ c3) (h1 : (TsIn L b us ∧ us.length ≤ d) ∧ (StIn L b2 ys ∧ ys.length ≤ d2) ∧ EtIn L b3 fs ∧ fs.length ≤ d3)
   (hU : TabIn L ∧ MaxIn L) (post : ∀ w', Same w w' → Holds w' L → K (.bool true) w') :
   Cl Tryz.prog F.balerlaw42_ScriptTexts #[.agg (cellsS a ts.length c n a2 xs.length c2 a3 es.length c3).toArray, .agg (cellsS b us.length d m b2 ys.length d2 b3 fs.length d3).toArray] w K := by
 obtain ⟨⟨hT, hc⟩, ⟨hX, _⟩, hE, _⟩ := h0; obtain ⟨⟨hT', hc'⟩, ⟨hX', _⟩, hE', _⟩ := h1; obtain ⟨hU, hM⟩ := hU; refine Tie.balerlaw42_ScriptTexts ?_; unfold Vcf.balerlaw42_ScriptTexts; refine r_new H fun bs w1 S1 H1 => r_new H1 fun bt w2 S2 H2 => ?_; replace H2 : Holds w2 (blk bt tS (cellsS b us.length d m b2 ys.length d2 b3 fs.length d3) :: blk bs tS (cellsS a ts.length c n a2 xs.length c2 a3 es.length c3) :: L) := H2; have S := S1.trans S2; clear H H1 S1 S2
 refine r_join1 (fun v w' => ∃ z : Bool, v = .bool z ∧ (z = false → ((∀ t ∈ ts, szT t) ∧ ts.length ≤ 20 ∧ xs.length ≤ 6 ∧ es.length ≤ 60 ∧ ∀ s ∈ xs, s.size ≤ 500) ∧ us.length ≤ 20) ∧ Same w w' ∧
   Holds w' (blk bt tS (cellsS b us.length d m b2 ys.length d2 b3 fs.length d3) :: blk bs tS (cellsS a ts.length c n a2 xs.length c2 a3 es.length c3) :: L)) ?_ ?_
 rotate_left
 · refine r_ldA 1 H2 (cellsS a ts.length c n a2 xs.length c2 a3 es.length c3) rfl rfl rfl ?_; refine S42.Large_spec (m := 500) H2 hT.up.up hX.up.up hE.up.up fun z w3 S3 H3 hz => ?_; refine r_vif (fun _ => r_ke ⟨true, rfl, (fun e => by cases e), S.trans S3, H3⟩) fun e => ?_; refine r_ldA 0 H3 (cellsS b us.length d m b2 ys.length d2 b3 fs.length d3) rfl rfl rfl ?_; exact S42.Large_spec (m := 500) H3 hT'.up.up hX'.up.up hE'.up.up fun z' w4 S4 H4 hz' => r_ke ⟨z', rfl, fun e' => ⟨hz e, (hz' e').2.1⟩, (S.trans S3).trans S4, H4⟩
 clear S H2; rintro _ _ w3 ⟨z, rfl, hz, S, H⟩; refine r_vif (fun _ => hh H fun w4 S4 H4 => post _ (S.trans S4) H4.drop.drop) fun e => ?_; obtain ⟨⟨hs, ht20, hx6, he, hxl⟩, hu20⟩ := hz e; refine r_ldA 1 H (cellsS a ts.length c n a2 xs.length c2 a3 es.length c3) rfl rfl rfl ?_; refine Text_spec H hT.up.up hX.up.up hE.up.up hU.up.up hM.up.up hs hc hx6 he hxl (fun e1 w4 hk he1 S4 H4 => ?_) (fun w4 hk S4 H4 => ?_)
 · refine r_ex20 (r_ex21 ?_); refine r_join1 (fun v w' => v = .bool false ∧ Same w w' ∧ Holds w' (blk bt tS (cellsS b us.length d m b2 ys.length d2 b3 fs.length d3) :: blk bs tS (cellsS a ts.length c n a2 xs.length c2 a3 es.length c3) :: L)) ?_ ?_
   rotate_left
   · refine r_dr H4 fun w5 S5 H5 => ?_; refine r_ldA 1 H5 (cellsS a ts.length c n a2 xs.length c2 a3 es.length c3) rfl rfl rfl (r_ldA 0 H5 (cellsS b us.length d m b2 ys.length d2 b3 fs.length d3) rfl rfl rfl ?_); refine PSame_spec H5 hT.up.up hT'.up.up hX.up.up hX'.up.up hE.up.up hE'.up.up (by omega) (by omega) (by omega) fun z1 w6 hz1 S6 H6 => ?_; refine r_ldA 1 H6 (cellsS a ts.length c n a2 xs.length c2 a3 es.length c3) rfl rfl rfl ?_; refine r_rk (r_ldA 1 H5 (cellsS a ts.length c n a2 xs.length c2 a3 es.length c3) rfl rfl rfl rfl) ?_; refine r_ldA 0 H6 (cellsS b us.length d m b2 ys.length d2 b3 fs.length d3) rfl rfl rfl ?_; refine r_rk (r_ldA 0 H5 (cellsS b us.length d m b2 ys.length d2 b3 fs.length d3) rfl rfl rfl rfl) ?_; refine RSame_spec H6 hT.up.up hT'.up.up hX.up.up hX'.up.up hE.up.up hE'.up.up (by omega) (by omega) (by omega) fun z2 w7 hz2 S7 H7 => ?_
     obtain rfl : z1 = z2 := by rw [Bool.eq_iff_iff]; exact hz1.trans hz2.symm
     refine r_bb ?_; rw [show (if true = true then !(z1 == z1) else z1 == z1) = false by cases z1 <;> rfl]; refine r_vf ?_; refine r_ldA 1 H7 (cellsS a ts.length c n a2 xs.length c2 a3 es.length c3) rfl rfl rfl (r_ldA 1 H7 (cellsS a ts.length c n a2 xs.length c2 a3 es.length c3) rfl rfl rfl ?_); refine PSame_spec H7 hT.up.up hT.up.up hX.up.up hX.up.up hE.up.up hE.up.up (by omega) (by omega) (by omega) fun z3 w8 hz3 S8 H8 => ?_; obtain rfl : z3 = true := hz3.2 ⟨rfl, rfl, rfl, rfl⟩; exact r_not (r_ke ⟨rfl, ((((S.trans S4).trans S5).trans S6).trans S7).trans S8, H8⟩)
   clear S S4 H H4; rintro _ _ w6 ⟨rfl, S, H6⟩; refine r_vf ?_; refine r_ldA 1 H6 (cellsS a ts.length c n a2 xs.length c2 a3 es.length c3) rfl rfl rfl ?_; refine S43.RCheck_spec H6 hT.up.up hX.up.up hE.up.up hs hc hx6 he fun e2 w7 S7 H7 hk2 => ?_; obtain rfl := S43.ChkS_one hk hk2; refine r_neq (r_vtN he1 (r_eql (r_vtE rfl (q_eq (u := []) ?_)))); rw [decide_eq_true rfl]; exact r_vt (hh H7 fun w8 S8 H8 => post _ ((S.trans S7).trans S8) H8.drop.drop)
 · have g := good_of hk hs hx6 he hxl; refine r_ex20 (r_ex21 ?_); refine r_join1 (fun v w' => v = .bool false ∧ Same w w' ∧ Holds w' (blk bt tS (cellsS b us.length d m b2 ys.length d2 b3 fs.length d3) :: blk bs tS (cellsS a ts.length c n a2 xs.length c2 a3 es.length c3) :: L)) ?_ ?_
   rotate_left
   · refine r_dr H4 fun w5 S5 H5 => ?_; refine r_ldA 1 H5 (cellsS a ts.length c n a2 xs.length c2 a3 es.length c3) rfl rfl rfl (r_ldA 0 H5 (cellsS b us.length d m b2 ys.length d2 b3 fs.length d3) rfl rfl rfl ?_); refine PSame_spec H5 hT.up.up hT'.up.up hX.up.up hX'.up.up hE.up.up hE'.up.up (by omega) (by omega) (by omega) fun z1 w6 hz1 S6 H6 => ?_; refine r_ldA 1 H6 (cellsS a ts.length c n a2 xs.length c2 a3 es.length c3) rfl rfl rfl ?_; refine r_rk (r_ldA 1 H5 (cellsS a ts.length c n a2 xs.length c2 a3 es.length c3) rfl rfl rfl rfl) ?_; refine r_ldA 0 H6 (cellsS b us.length d m b2 ys.length d2 b3 fs.length d3) rfl rfl rfl ?_; refine r_rk (r_ldA 0 H5 (cellsS b us.length d m b2 ys.length d2 b3 fs.length d3) rfl rfl rfl rfl) ?_; refine RSame_spec H6 hT.up.up hT'.up.up hX.up.up hX'.up.up hE.up.up hE'.up.up (by omega) (by omega) (by omega) fun z2 w7 hz2 S7 H7 => ?_
     obtain rfl : z1 = z2 := by rw [Bool.eq_iff_iff]; exact hz1.trans hz2.symm
     refine r_bb ?_; rw [show (if true = true then !(z1 == z1) else z1 == z1) = false by cases z1 <;> rfl]; refine r_vf ?_; refine r_ldA 1 H7 (cellsS a ts.length c n a2 xs.length c2 a3 es.length c3) rfl rfl rfl (r_ldA 1 H7 (cellsS a ts.length c n a2 xs.length c2 a3 es.length c3) rfl rfl rfl ?_); refine PSame_spec H7 hT.up.up hT.up.up hX.up.up hX.up.up hE.up.up hE.up.up (by omega) (by omega) (by omega) fun z3 w8 hz3 S8 H8 => ?_; obtain rfl : z3 = true := hz3.2 ⟨rfl, rfl, rfl, rfl⟩; exact r_not (r_ke ⟨rfl, ((((S.trans S4).trans S5).trans S6).trans S7).trans S8, H8⟩)
   clear S S4 H H4; rintro _ _ w6 ⟨rfl, S, H6⟩; refine r_vf ?_; refine r_ldA 1 H6 (cellsS a ts.length c n a2 xs.length c2 a3 es.length c3) rfl rfl rfl ?_; refine S43.RCheck_spec H6 hT.up.up hX.up.up hE.up.up hs hc hx6 he fun e2 w7 S7 H7 hk2 => ?_; obtain rfl := S43.ChkS_one hk2 hk; refine r_neq (r_vfN rfl ?_); refine Parse_spec hk g H7 hU.up.up hM.up.up fun ta tc sa sc ea ec w8 hct S8 H8 => ?_; refine r_ex30 (r_ex31 (r_ex32 ?_)); refine r_new H8 fun yb w9 S9 H9 => ?_; rw [zSc] at H9; refine r_stA 0 H9 (vs := cellsS ta ts.length tc n sa xs.length sc ea es.length ec) rfl (Nat.le_refl 9) rfl rfl fun w10 S10 H10 => ?_; replace H10 : Holds w10 (blk yb tS (cellsS ta ts.length tc n sa xs.length sc ea es.length ec) :: RW cellsE 3 tE (.slice ea es.length ec) es :: SL S_ tSt (.slice sa xs.length sc) (strB xs) :: RW cellsT 5 tT (.slice ta ts.length tc) ts :: blk bt tS (cellsS b us.length d m b2 ys.length d2 b3 fs.length d3) :: blk bs tS (cellsS a ts.length c n a2 xs.length c2 a3 es.length c3) :: L) := H10; refine r_eql (r_vtE rfl ?_); refine r_ldA 5 H10 (cellsS a ts.length c n a2 xs.length c2 a3 es.length c3) rfl rfl rfl ?_; refine RText_spec H10 hT.up.up.up.up.up.up hX.up.up.up.up.up.up hE.up.up.up.up.up.up g fun w11 S11 H11 => ?_; refine q_eq ?_; rw [decide_eq_true rfl]; refine r_vt (r_eql (r_vtE rfl (r_eql (r_vtE rfl ?_)))); refine r_ldA 5 H11 (cellsS a ts.length c n a2 xs.length c2 a3 es.length c3) rfl rfl rfl ?_; refine r_ldA 0 H11 (cellsS ta ts.length tc n sa xs.length sc ea es.length ec) rfl rfl rfl ?_; refine RSame_spec H11 hT.up.up.up.up.up.up (S4r.InG.own 3 rfl fun _ => rfl) hX.up.up.up.up.up.up (SLIn (f := S_) (F := cellsX) (fun x => x.data.toList) 2 rfl rfl fun y => by simp [cellsX, S_]) hE.up.up.up.up.up.up (S4r.InG.own 1 rfl fun _ => rfl) (by omega) (by omega) (by omega) fun z w12 hz S12 H12 => ?_; obtain rfl : z = true := hz.2 ⟨rfl, rfl, rfl, rfl⟩; refine r_vt (hh H12 fun w13 S13 H13 => post _ (((((((S.trans S7).trans S8).trans S9).trans S10).trans S11).trans S12).trans S13) H13.drop.drop.drop.drop.drop.drop)
end L42
end Go.Proofs.YtcnjipikapiplaaGreatDoor
