/- Several texts in one: E9, EA, EB, So, Mh, Ms, Mi, W8g, Rw, W2f, W09, W9t, W9o, W2r, W2o. -/
import Derived.Test.YtgaiocpkjaaphaaGreatDoorMG1
import Derived.Test.YtgaiocpkjaaphaaGreatDoorMG0
import Derived.WalkKit
set_option linter.unusedVariables false
set_option linter.unusedSimpArgs false
namespace Go.Ev
open Go Go.Vc
noncomputable section
variable {P : Program} {base : Bs} {w0 : World} {σ : Sg} {s : St} {w w' : World} {ρ : T X} {r : Env} {n : Nat}
def xreg (P : Program) (n : Nat) (call : FuncId → List X → St → Option (X × St)) (ops : Array Oper) (draw : Bool) (ρ : T X) (s : St) : Option (T X × St) := match draw with
 | false => xops P false call n ops.toList ops.toList 0 ρ s
 | true => (match Region.lexB .any ops, allStill ops.toList with
   | true, true => xops P true call n ops.toList ops.toList 0 ρ s
   | _, _ => (match stagedB ops ops.toList (msOf ops.toList []) ops.toList 0 with
     | true => xst P call n ops.toList (befM (msOf ops.toList [])) ops.toList 0 [] [] ρ s
     | false => xtr P call n ops ρ s))
theorem xreg_ok {call : FuncId → List X → St → Option (X × St)} (hcall : ∀ base w0, CallOk P base w0 call) {ops : Array Oper} {draw : Bool} (h : Wo P base w0 σ s w) (hE : EnvR σ ρ r) {ρ' : T X} {s' : St} (hx : xreg P n call ops draw ρ s = some (ρ', s')) {K : Env → World → Prop}
   (hK : FinE P base w0 σ ρ' s' K) : ∃ hh, vcReg P n ops draw hh r w K := by
 unfold xreg at hx
 cases draw with
 | false => exact ⟨.text, xops_ok (hcall _ _) false _ _ h hE hx hK⟩
 | true =>
   simp only at hx
   have stg : (match stagedB ops ops.toList (msOf ops.toList []) ops.toList 0 with
     | true => xst P call n ops.toList (befM (msOf ops.toList [])) ops.toList 0 [] [] ρ s
     | false => xtr P call n ops ρ s) = some (ρ', s') → ∃ hh, vcReg P n ops true hh r w K := by
     intro hx
     cases hs : stagedB ops ops.toList (msOf ops.toList []) ops.toList 0 with
     | false =>
       rw [hs] at hx; replace hx : xtr P call n ops ρ s = some (ρ', s') := hx; unfold xtr xtr0 xtr1 at hx
       cases ht : treeB ops ops.toList (msOf ops.toList []) (mkT ops.toList (msOf ops.toList []) (ops.toList.length + 1) 0) with
       | false => rw [ht] at hx; cases hx
       | true =>
         rw [ht] at hx; refine ⟨.tree (msOf ops.toList []) (mkT ops.toList (msOf ops.toList []) (ops.toList.length + 1) 0), ?_⟩; simp only [vcReg, ht]; exact xtrM_ok hcall h.drew hE hx hK
     | true =>
       rw [hs] at hx; refine ⟨.staged (msOf ops.toList []), ?_⟩; simp only [vcReg, hs]; exact xst_ok (hcall _ _) _ _ (pend := []) (past := []) (pend' := []) (past' := []) h.drew hE trivial trivial hx hK
   cases h1 : Region.lexB .any ops with
   | false => rw [h1] at hx; exact stg hx
   | true =>
     cases h2 : allStill ops.toList with
     | false => rw [h1, h2] at hx; exact stg hx
     | true =>
       rw [h1, h2] at hx; refine ⟨.still, ?_⟩; simp only [vcReg, h1, h2]; exact xops_ok (hcall _ _) true _ _ h.drew hE hx hK
def LR (P : Program) (c : Code) (Q : Exit → Act → World → Prop) : Nat → Act → World → Prop
 | 0, _, _ => False
 | k + 1, a, w => c.wp P (Exit.then (LR P c Q k) Q) a w
theorem least_of {p : Nat → Prop} : ∀ n, p n → ∃ m, p m ∧ ∀ k, k < m → ¬ p k := by
 intro n
 induction n using Nat.strongRecOn with
 | _ n ih =>
   intro hn
   by_cases h : ∃ k, k < n ∧ p k
   · obtain ⟨k, hk, hp⟩ := h; exact ih k hk hp
   · exact ⟨n, hn, fun k hk hp => h ⟨k, hk, hp⟩⟩
theorem wp_of_LR {c : Code} {Q : Exit → Act → World → Prop} {k : Nat} {a : Act} (h : LR P c Q k a w) : (Code.loop c).wp P Q a w := by
 classical
 have key : ∀ a w, (∃ k, LR P c Q k a w) → ∃ m, LR P c Q m a w ∧ ∀ k, k < m → ¬ LR P c Q k a w := fun a w ⟨k, hk⟩ => least_of k hk; refine wp_loop (fun a w => ∃ k, LR P c Q k a w) (fun a w => if h : ∃ k, LR P c Q k a w then Classical.choose (key a w h) else 0) ⟨k, h⟩ ?_; intro a1 w1 h1; obtain ⟨hm, hmin⟩ := Classical.choose_spec (key a1 w1 h1); rw [dif_pos h1]; generalize Classical.choose (key a1 w1 h1) = m at hm hmin
 cases m with
 | zero => exact hm.elim
 | succ m =>
   refine wp_mono hm fun e a2 w2 h2 => ?_
   cases e with
   | normal =>
     refine ⟨⟨m, h2⟩, ?_⟩; have h3 : ∃ k, LR P c Q k a2 w2 := ⟨m, h2⟩; rw [dif_pos h3]; obtain ⟨_, g2⟩ := Classical.choose_spec (key a2 w2 h3); rcases Nat.lt_or_ge m (Classical.choose (key a2 w2 h3)) with h4 | h4
     · exact absurd h2 (g2 m h4)
     · omega
   | _ => exact h2
abbrev Run := Nat → Code → T X → St → Option (Exit × T X × St)
def argX (d : Nat) : List X → Nat → T X → T X
 | [], _, ρ => ρ
 | x :: l, i, ρ => argX d l (i + 1) (T.set d ρ i i x)
theorem argX_get {d : Nat} : ∀ (xs : List X) (i : Nat) (ρ : T X) (t : Nat) (x : X), (argX d xs i ρ).get t t = some x → (i ≤ t ∧ xs[t - i]? = some x) ∨ ρ.get t t = some x
 | [], i, ρ, t, x, h => .inr h
 | y :: l, i, ρ, t, x, h => by
   rcases argX_get l (i + 1) _ t x h with ⟨h1, h2⟩ | h1
   · refine .inl ⟨by omega, ?_⟩; rw [show t - i = (t - (i + 1)) + 1 by omega, List.getElem?_cons_succ]; exact h2
   · rcases T.get_set d ρ i i y t t x (fun e => e) h1 with ⟨rfl, rfl⟩ | ⟨_, h2⟩
     · exact .inl ⟨Nat.le_refl _, by simp⟩
     · exact .inr h2
theorem argX_ok {d : Nat} {xs : List X} {vs : List Value} (h : vls σ xs = some vs) : EnvR σ (argX d xs 0 .e) ⟨args0 vs 0, fun _ => undef⟩ := by
 intro t x ht; rcases argX_get xs 0 .e t x ht with ⟨_, h2⟩ | h2
 · obtain ⟨v, g1, g2⟩ := vls_get h h2; rw [g2]; unfold Env.get; simp only [args0_find, Nat.zero_le, if_true, g1]
 · cases h2
def xres (P : Program) (ρ : T X) (s : St) : List ResultVar → List X → Option X
 | [], [x] => some x
 | [], xs => some (.t xs.reverse)
 | .tmp t :: l, xs => (match ρ.get t t with
   | some x => xres P ρ s l (x :: xs)
   | none => none)
 | .cell x t :: l, xs => (match xval P ρ s ⟨none, .load t (.tmp x), t, "", #[], none⟩ with
   | some y => xres P ρ s l (y :: xs)
   | none => none)
theorem vls_rev {xs : List X} {vs : List Value} (h : vls σ xs = some vs) : vls σ xs.reverse = some vs.reverse := by
 induction xs generalizing vs with
 | nil => simp only [vls, Option.some.injEq] at h; subst h; rfl
 | cons x l ih =>
   obtain ⟨v, us, h1, h2, rfl⟩ := vls_cons h; rw [List.reverse_cons, List.reverse_cons]; exact vls_app (ih h2) (vls_mk h1 rfl)
theorem xres_ok (hM : Mem P base σ s w) (hE : EnvR σ ρ r) : ∀ {rs : List ResultVar} {xs : List X} {vs : List Value} {x : X} {R : Value → World → Prop}, xres P ρ s rs xs = some x → vls σ xs = some vs → (∀ v, vl σ x = some v → R v w) → ResK P r w R rs vs
 | [], [], vs, x, R, h, hv, hR => by
   simp only [vls, Option.some.injEq] at hv; subst hv; simp only [xres, Option.some.injEq] at h; subst h; exact hR _ rfl
 | [], [y], vs, x, R, h, hv, hR => by
   obtain ⟨v, us, h1, h2, rfl⟩ := vls_cons hv; simp only [vls, Option.some.injEq] at h2; subst h2; simp only [xres, Option.some.injEq] at h; subst h; exact hR _ h1
 | [], y :: z :: l, vs, x, R, h, hv, hR => by
   have hr := vls_rev hv; obtain ⟨v, us, h1, h2, rfl⟩ := vls_cons hv; obtain ⟨v2, us2, h3, h4, rfl⟩ := vls_cons h2; simp only [xres, Option.some.injEq] at h; subst h; exact hR _ (by simp only [vl, hr])
 | .tmp t :: l, xs, vs, x, R, h, hv, hR => by
   simp only [xres] at h
   cases hx : ρ.get t t with
   | none => rw [hx] at h; cases h
   | some y =>
     rw [hx] at h; replace h : xres P ρ s l (y :: xs) = some x := h; show ResK P r w R l (r.get t :: vs); exact xres_ok hM hE h (vls_mk (hE t y hx) hv) hR
 | .cell q t :: l, xs, vs, x, R, h, hv, hR => by
   simp only [xres] at h
   cases hx : xval P ρ s ⟨none, .load t (.tmp q), t, "", #[], none⟩ with
   | none => rw [hx] at h; cases h
   | some y =>
     rw [hx] at h; replace h : xres P ρ s l (y :: xs) = some x := h; exact xval_ok hM hE hx true fun v hvv => xres_ok hM hE h (vls_mk hvv hv) hR
def eqPs : List (X × X) → List (X × X) → Bool
 | [], [] => true
 | x :: a, y :: c => match eqX x.1 y.1 with
   | true => (match eqX x.2 y.2 with
     | true => eqPs a c
     | false => false)
   | false => false
 | _, _ => false
theorem eqPs_eq : ∀ (x y : List (X × X)), eqPs x y = true → x = y
 | [], y, h => by cases y <;> simp [eqPs] at h; rfl
 | (x1, x2) :: a, y, h => by
   cases y with
   | nil => simp [eqPs] at h
   | cons z c =>
     obtain ⟨z1, z2⟩ := z; simp only [eqPs] at h; split at h
     · rename_i h1; split at h
       · rename_i h2; rw [eqX_eq _ _ h1, eqX_eq _ _ h2, eqPs_eq a c h]
       · cases h
     · cases h
def eqB : Option (Option Blk) → Blk → Bool
 | some (some c), d => (match Nat.beq c.1 d.1 with
   | true => eqXs c.2 d.2
   | false => false)
 | _, _ => false
theorem eqB_eq {o : Option (Option Blk)} {d : Blk} (h : eqB o d = true) : o = some (some d) := by
 unfold eqB at h; split at h
 · rename_i c; obtain ⟨c1, c2⟩ := c; obtain ⟨d1, d2⟩ := d; simp only at h; split at h
   · rename_i h1; have := Nat.eq_of_beq_eq_true h1; subst this; rw [eqXs_eq _ _ h]
   · cases h
 · cases h
def eqM : Option (Option M) → M → Bool
 | some (some (.mp a)), .mp c => eqPs a c
 | some (some (.it a p)), .it c q => (match Nat.beq p q with
   | true => decide (a = c)
   | false => false)
 | _, _ => false
theorem eqM_eq {o : Option (Option M)} {d : M} (h : eqM o d = true) : o = some (some d) := by
 unfold eqM at h; split at h
 · rw [eqPs_eq _ _ h]
 · split at h
   · rename_i h1; have := Nat.eq_of_beq_eq_true h1; subst this; rw [of_decide_eq_true h]
   · cases h
 · cases h
def subH (s : T (Option Blk)) : T (Option Blk) → Bool
 | .e => true
 | .lf k v => (match v with
   | none => true
   | some c => eqB (s.get k k) c)
 | .nd a b => (match subH s a with
   | true => subH s b
   | false => false)
theorem subH_ok {s : T (Option Blk)} : ∀ (t : T (Option Blk)), subH s t = true → ∀ i q c, t.get i q = some (some c) → s.get q q = some (some c)
 | .e, _, i, q, c, h => by rw [T.get_e] at h; cases h
 | .lf k v, hs, i, q, c, h => by
   rw [T.get_lf] at h; split at h
   · rename_i hb; have := Nat.eq_of_beq_eq_true hb; subst this; obtain rfl := Option.some.inj h; exact eqB_eq hs
   · cases h
 | .nd a b, hs, i, q, c, h => by
   rw [T.get_nd] at h; simp only [subH] at hs; split at hs
   · rename_i h1; split at h
     · exact subH_ok a h1 _ q c h
     · exact subH_ok b hs _ q c h
   · cases hs
def subM (s : T (Option M)) : T (Option M) → Bool
 | .e => true
 | .lf k v => (match v with
   | none => true
   | some c => eqM (s.get k k) c)
 | .nd a b => (match subM s a with
   | true => subM s b
   | false => false)
theorem subM_ok {s : T (Option M)} : ∀ (t : T (Option M)), subM s t = true → ∀ i q c, t.get i q = some (some c) → s.get q q = some (some c)
 | .e, _, i, q, c, h => by rw [T.get_e] at h; cases h
 | .lf k v, hs, i, q, c, h => by
   rw [T.get_lf] at h; split at h
   · rename_i hb; have := Nat.eq_of_beq_eq_true hb; subst this; obtain rfl := Option.some.inj h; exact eqM_eq hs
   · cases h
 | .nd a b, hs, i, q, c, h => by
   rw [T.get_nd] at h; simp only [subM] at hs; split at hs
   · rename_i h1; split at h
     · exact subM_ok a h1 _ q c h
     · exact subM_ok b hs _ q c h
   · cases hs
def eqG : List (Nat × List X) → List (Nat × List X) → Bool
 | [], [] => true
 | x :: a, y :: c => match Nat.beq x.1 y.1 with
   | true => (match eqXs x.2 y.2 with
     | true => eqG a c
     | false => false)
   | false => false
 | _, _ => false
theorem eqG_eq : ∀ (x y : List (Nat × List X)), eqG x y = true → x = y
 | [], y, h => by cases y <;> simp [eqG] at h; rfl
 | (x1, x2) :: a, y, h => by
   cases y with
   | nil => simp [eqG] at h
   | cons z c =>
     obtain ⟨z1, z2⟩ := z; simp only [eqG] at h; split at h
     · rename_i h1; split at h
       · rename_i h2; rw [show x1 = z1 from Nat.eq_of_beq_eq_true h1, eqXs_eq _ _ h2, eqG_eq a c h]
       · cases h
     · cases h
def subS (s q : St) : Bool := match Nat.beq q.k s.k with
 | true => (match Nat.beq q.n s.n with
   | true => (match subH s.h q.h with
     | true => (match subM s.m q.m with
       | true => (match q.g with
         | [] => true
         | _ :: _ => eqG q.g s.g)
       | false => false)
     | false => false)
   | false => false)
 | false => false
theorem jn_eq {α : Type} {o : Option (Option α)} {c : α} (h : jn o = some c) : o = some (some c) := by
 cases o with
 | none => cases h
 | some o =>
   cases o with
   | none => cases h
   | some x => obtain rfl := Option.some.inj h; rfl
structure Less (s q : St) : Prop where
 k : q.k = s.k
 n : q.n = s.n
 b : ∀ b c, q.blk b = some c → s.blk b = some c
 m : ∀ b c, q.mo b = some c → s.mo b = some c
 g : ∀ g xs, lkG q.g g = some xs → lkG s.g g = some xs
theorem subS_ok {s q : St} (hq : subS s q = true) : Less s q := by
 unfold subS at hq; split at hq
 · rename_i h1; split at hq
   · rename_i h2; split at hq
     · rename_i h3; split at hq
       · rename_i h4; refine ⟨Nat.eq_of_beq_eq_true h1, Nat.eq_of_beq_eq_true h2, fun b c hc => ?_, fun b c hc => ?_, fun g xs hx => ?_⟩
         · show jn (s.h.get b b) = some c; rw [subH_ok _ h3 b b c (jn_eq hc)]; rfl
         · show jn (s.m.get b b) = some c; rw [subM_ok _ h4 b b c (jn_eq hc)]; rfl
         · split at hq
           · rename_i hz; rw [hz] at hx; cases hx
           · rw [eqG_eq _ _ hq] at hx; exact hx
       · cases hq
     · cases hq
   · cases hq
 · cases hq
theorem Wo.sub {q : St} (l : Less s q) (h : Wo P base w0 σ s w) : Wo P base w0 σ q w := by
 have hf := h.fresh; refine ⟨⟨fun b e cs hq => h.mem.own b e cs (l.b _ _ hq), fun b c x y r r' h1 h2 => h.mem.apart b c x y r r' (l.b _ _ h1) (l.b _ _ h2), fun b o ho => h.mem.mown b o (l.m _ _ ho), fun b c x y r r' h1 h2 => h.mem.mapart b c x y r r' (l.m _ _ h1) (l.m _ _ h2), fun g xs hx => h.mem.glb g xs (l.g _ _ hx)⟩, ?_, h.fram⟩; show FreshN base σ q.n q.k; rw [l.k, l.n]; exact hf
def mrg {α : Type} : T α → T α → T α
 | .e, s => s
 | .lf k v, _ => .lf k v
 | .nd a b, s => (match s with
   | .nd c d => .nd (mrg a c) (mrg b d)
   | _ => .nd a b)
theorem mrg_get {α : Type} : ∀ (t s : T α) (i q : Nat) (x : α), (mrg t s).get i q = some x → t.get i q = some x ∨ (t.get i q = none ∧ s.get i q = some x)
 | .e, s, i, q, x, h => by
   simp only [mrg] at h; exact .inr ⟨T.get_e _ _, h⟩
 | .lf k v, s, i, q, x, h => by
   simp only [mrg] at h; exact .inl h
 | .nd a b, s, i, q, x, h => by
   cases s with
   | nd c d =>
     simp only [mrg] at h; rw [T.get_nd] at h; rw [T.get_nd, T.get_nd]; split at h
     · exact mrg_get a c _ q x h
     · exact mrg_get b d _ q x h
   | _ =>
     simp only [mrg] at h; exact .inl h
def mrgS (s q' : St) : St := ⟨mrg q'.h s.h, q'.n, q'.k, mrg q'.m s.m, s.g⟩
def domH {α : Type} (t : T α) : T α → Bool
 | .e => true
 | .lf k _ => (match t.get k k with
   | some _ => true
   | none => false)
 | .nd a b => (match domH t a with
   | true => domH t b
   | false => false)
theorem domH_ok {α : Type} {t : T α} : ∀ (u : T α), domH t u = true → ∀ i q x, u.get i q = some x → t.get q q ≠ none
 | .e, _, i, q, c, h => by rw [T.get_e] at h; cases h
 | .lf k v, hs, i, q, c, h => by
   rw [T.get_lf] at h; split at h
   · rename_i hb; have := Nat.eq_of_beq_eq_true hb; subst this; simp only [domH] at hs; split at hs
     · rename_i y hy; rw [hy]; exact fun h => by cases h
     · cases hs
   · cases h
 | .nd a b, hs, i, q, c, h => by
   rw [T.get_nd] at h; simp only [domH] at hs; split at hs
   · rename_i h1; split at h
     · exact domH_ok a h1 _ q c h
     · exact domH_ok b hs _ q c h
   · cases hs
def domS (q q' : St) : Bool := match domH q'.h q.h with
 | true => domH q'.m q.m
 | false => false
def bsF (base : Bs) (σ : Sg) (s q : St) : Bs := ⟨fun a => base.pr a ∨ (∃ b c r, s.blk b = some c ∧ q.blk b = none ∧ σ b = some r ∧ r.1 = a) ∨ (∃ b c r, s.mo b = some c ∧ q.mo b = none ∧ σ b = some r ∧ r.1 = a), base.res, base.gp, fun a h => .inl (base.gpr a h)⟩
theorem Wo.part {q : St} (l : Less s q) (h : Wo P base w0 σ s w) : Wo P (bsF base σ s q) w σ q w := by
 have h0 := h.sub l; refine ⟨⟨fun b e cs hq => ?_, h0.mem.apart, fun b o ho => ?_, h0.mem.mapart, h0.mem.glb⟩, ⟨h0.fresh.nx, h0.fresh.lt, h0.fresh.ge, h0.fresh.rs⟩, ⟨.refl w, fun c hc => ?_, fun _ _ => rfl⟩⟩
 · obtain ⟨rb, off, k, pre, vs, sp, post, g⟩ := h0.mem.own b e cs hq; refine ⟨rb, off, k, pre, vs, sp, post, ⟨g.sg_, g.val, g.pre_, g.sp_, g.heap, ?_, g.flat, g.mul_, g.nsp⟩⟩; rintro (hp | ⟨c, x, r, h1, h2, h3, h4⟩ | ⟨c, x, r, h1, h2, h3, h4⟩)
   · exact g.low hp
   · have hne : b ≠ c := fun e => by subst e; rw [hq] at h2; cases h2
     exact h.mem.apart b c _ _ _ _ (l.b _ _ hq) h1 hne g.sg_ h3 h4.symm
   · obtain ⟨fz, hh, _⟩ := g.heap; exact h.mem.sep h1 ⟨_, _, _, hh⟩ h3 h4
 · obtain ⟨rb, g1, g2, g3⟩ := h0.mem.mown b o ho; refine ⟨rb, g1, ?_, g3⟩; rintro (hp | ⟨c, x, r, h1, h2, h3, h4⟩ | ⟨c, x, r, h1, h2, h3, h4⟩)
   · exact g2 hp
   · obtain ⟨e, cs⟩ := x; obtain ⟨rb', off', k', pre', vs', sp', post', g'⟩ := h.mem.own c e cs h1; have e1 := g'.sg_; rw [h3] at e1; obtain rfl := Option.some.inj e1; obtain ⟨fz, hh, _⟩ := g'.heap; exact h.mem.sep (l.m _ _ ho) ⟨_, _, _, hh⟩ g1 h4.symm
   · have hne : b ≠ c := fun e => by subst e; rw [ho] at h2; cases h2
     exact h.mem.mapart b c _ _ _ _ (l.m _ _ ho) h1 hne g1 h3 h4.symm
 · rcases hc with hp | ⟨b, x, r, h1, h2, h3, h4⟩ | ⟨b, x, r, h1, h2, h3, h4⟩
   · exact h.fram.low c hp
   · obtain ⟨e, cs⟩ := x; obtain ⟨rb', off', k', pre', vs', sp', post', g'⟩ := h.mem.own b e cs h1; have e1 := g'.sg_; rw [h3] at e1; obtain rfl := Option.some.inj e1; rw [← h4]; exact g'.lt
   · obtain ⟨rb', k1, k2, k3⟩ := h.mem.mown b x h1; rw [h3] at k1; obtain rfl := Option.some.inj k1; rw [← h4]; exact k3.lt
theorem Wo.back {σ' : Sg} {q q' : St} (l : Less s q) (h : Wo P base w0 σ s w) (hd : domS q q' = true) (hx : Ext σ σ') (g : Wo P (bsF base σ s q) w σ' q' w') : Wo P base w0 σ' (mrgS s q') w' := by
 have hd1 : domH q'.h q.h = true ∧ domH q'.m q.m = true := by
   unfold domS at hd; split at hd
   · rename_i h1; exact ⟨h1, hd⟩
   · cases hd
 have hb : ∀ b c, (mrgS s q').blk b = some c → q'.blk b = some c ∨ (s.blk b = some c ∧ q.blk b = none) := fun b c hc => by
   rcases mrg_get _ _ _ _ _ (jn_eq hc) with h1 | ⟨h1, h2⟩
   · left; show jn (q'.h.get b b) = some c; rw [h1]; rfl
   · right; refine ⟨by show jn (s.h.get b b) = some c; rw [h2]; rfl, ?_⟩
     cases hq : q.blk b with
     | none => rfl
     | some y => exact absurd h1 (domH_ok _ hd1.1 b b _ (jn_eq hq))
 have hm : ∀ b c, (mrgS s q').mo b = some c → q'.mo b = some c ∨ (s.mo b = some c ∧ q.mo b = none) := fun b c hc => by
   rcases mrg_get _ _ _ _ _ (jn_eq hc) with h1 | ⟨h1, h2⟩
   · left; show jn (q'.m.get b b) = some c; rw [h1]; rfl
   · right; refine ⟨by show jn (s.m.get b b) = some c; rw [h2]; rfl, ?_⟩
     cases hq : q.mo b with
     | none => rfl
     | some y => exact absurd h1 (domH_ok _ hd1.2 b b _ (jn_eq hq))
 have pb : ∀ {b c r}, s.blk b = some c → q.blk b = none → σ b = some r → (bsF base σ s q).pr r.1 := fun h1 h2 h3 => .inr (.inl ⟨_, _, _, h1, h2, h3, rfl⟩); have pm : ∀ {b c r}, s.mo b = some c → q.mo b = none → σ b = some r → (bsF base σ s q).pr r.1 := fun h1 h2 h3 => .inr (.inr ⟨_, _, _, h1, h2, h3, rfl⟩)
 have kp : ∀ {c : Nat} {o : Obj}, (bsF base σ s q).pr c → w.heap[c]? = some o → w'.heap[c]? = some o := fun hp ho => by rw [g.fram.old _ hp]; exact ho
 have sb : ∀ {b c r}, s.blk b = some c → σ' b = some r → σ b = some r := fun {b c r} h1 h2 => by
   obtain ⟨e, cs⟩ := c; obtain ⟨_, _, _, _, _, _, _, g'⟩ := h.mem.own b e cs h1; have e1 := hx _ _ g'.sg_; rw [h2] at e1; rw [e1]; exact g'.sg_
 have sm : ∀ {b c r}, s.mo b = some c → σ' b = some r → σ b = some r := fun {b c r} h1 h2 => by
   obtain ⟨_, g', _⟩ := h.mem.mown b c h1; have e1 := hx _ _ g'; rw [h2] at e1; rw [e1]; exact g'
 have gb : ∀ {b c r}, q'.blk b = some c → σ' b = some r → ¬ (bsF base σ s q).pr r.1 := fun {b c r} h1 h2 => by
   obtain ⟨e, cs⟩ := c; obtain ⟨_, _, _, _, _, _, _, g'⟩ := g.mem.own b e cs h1; have e1 := g'.sg_; rw [h2] at e1; obtain rfl := Option.some.inj e1; exact g'.low
 have gm : ∀ {b c r}, q'.mo b = some c → σ' b = some r → ¬ (bsF base σ s q).pr r.1 := fun {b c r} h1 h2 => by
   obtain ⟨_, g', g2, _⟩ := g.mem.mown b c h1; rw [h2] at g'; obtain rfl := Option.some.inj g'; exact g2
 refine ⟨⟨fun b e cs hq => ?_, fun b c x y r r' h1 h2 hne e1 e2 => ?_, fun b o ho => ?_, fun b c x y r r' h1 h2 hne e1 e2 => ?_, fun v xs hv => ?_⟩, ⟨g.fresh.nx, g.fresh.lt, g.fresh.ge, g.fresh.rs⟩, h.fram.step g.fram fun a ha => .inl ha⟩
 · rcases hb _ _ hq with h1 | ⟨h1, h2⟩
   · obtain ⟨rb, off, k, pre, vs, sp, post, g'⟩ := g.mem.own b e cs h1; exact ⟨rb, off, k, pre, vs, sp, post, g'.rebase fun ha => g'.low (.inl ha)⟩
   · obtain ⟨rb, off, k, pre, vs, sp, post, g'⟩ := h.mem.own b e cs h1; exact ⟨rb, off, k, pre, vs, sp, post, (g'.keep fun o => kp (pb h1 h2 g'.sg_)).ext hx⟩
 · rcases hb _ _ h1 with k1 | ⟨k1, k2⟩ <;> rcases hb _ _ h2 with j1 | ⟨j1, j2⟩
   · exact g.mem.apart b c x y r r' k1 j1 hne e1 e2
   · exact fun he => gb k1 e1 (he ▸ pb j1 j2 (sb j1 e2))
   · exact fun he => gb j1 e2 (he ▸ pb k1 k2 (sb k1 e1))
   · exact h.mem.apart b c x y r r' k1 j1 hne (sb k1 e1) (sb j1 e2)
 · rcases hm _ _ ho with h1 | ⟨h1, h2⟩
   · obtain ⟨rb, k1, k2, k3⟩ := g.mem.mown b o h1; exact ⟨rb, k1, fun ha => k2 (.inl ha), k3⟩
   · obtain ⟨rb, k1, k2, k3⟩ := h.mem.mown b o h1; exact ⟨rb, hx _ _ k1, k2, (k3.keep fun o => kp (pm h1 h2 k1)).ext hx⟩
 · rcases hm _ _ h1 with k1 | ⟨k1, k2⟩ <;> rcases hm _ _ h2 with j1 | ⟨j1, j2⟩
   · exact g.mem.mapart b c x y r r' k1 j1 hne e1 e2
   · exact fun he => gm k1 e1 (he ▸ pm j1 j2 (sm j1 e2))
   · exact fun he => gm j1 e2 (he ▸ pm k1 k2 (sm k1 e1))
   · exact h.mem.mapart b c x y r r' k1 j1 hne (sm k1 e1) (sm j1 e2)
 · exact h.mem.keepG (fun c o hp => kp (.inl hp)) v xs hv
inductive Ent
 | c (f : FuncId) (xs : List X) (x : X)
 | s (f : FuncId) (xs : List X) (q : St) (x : X) (q' : St)
def memo : List Ent → FuncId → List X → St → Option (X × St)
 | [], _, _, _ => none
 | .c g ys x :: l, f, xs, s => (match Nat.beq g f with
   | true => (match eqXs ys xs with
     | true => some (x, s)
     | false => memo l f xs s)
   | false => memo l f xs s)
 | .s g ys q x q' :: l, f, xs, s => (match Nat.beq g f with
   | true => (match eqXs ys xs with
     | true => (match subS s q with
       | true => some (x, mrgS s q')
       | false => memo l f xs s)
     | false => memo l f xs s)
   | false => memo l f xs s)
def nsg : Sg := fun _ => none
def EntOk (P : Program) : Ent → Prop
 | .c f xs x => isExt P f = false ∧ ∃ vs v, vls nsg xs = some vs ∧ vl nsg x = some v ∧ ∀ (w : World) (L : List HProp) (K : Value → World → Prop), Holds w L → (∀ w', Same w w' → Holds w' L → K v w') → Cl P f vs.toArray w K
 | .s f xs q x q' => domS q q' = true ∧ ∀ (base : Bs) (w0 : World) σ w vs, Wo P base w0 σ q w → vls σ xs = some vs → ∀ K, Fin P base w0 σ x q' K → isExt P f = false ∧ Cl P f vs.toArray w K
def OraOk (P : Program) (M : List Ent) : Prop := ∀ e ∈ M, EntOk P e
theorem Wo.keepAll (h : Wo P base w0 σ s w) (S : Same w w') (ho : ∀ (c : Nat) (o : Obj), w.heap[c]? = some o → w'.heap[c]? = some o) : Wo P base w0 σ s w' := by
 refine ⟨⟨fun b e cs hq => ?_, h.mem.apart, fun b o hq => ?_, h.mem.mapart, h.mem.keepG fun c o _ hc => ho c o hc⟩, h.fresh, h.fram.same.trans S, fun c hc => Nat.lt_of_lt_of_le (h.fram.low c hc) S.size, fun c hc => ?_⟩
 · obtain ⟨rb, off, k, pre, vs, sp, post, g⟩ := h.mem.own b e cs hq; exact ⟨rb, off, k, pre, vs, sp, post, g.keep (ho _)⟩
 · obtain ⟨rb, h1, h2, h3⟩ := h.mem.mown b o hq; exact ⟨rb, h1, h2, h3.keep (ho _)⟩
 · rw [← h.fram.old c hc]; have hlt := h.fram.low c hc; have h2 : w.heap[c]? = some w.heap[c] := Array.getElem?_eq_getElem hlt; rw [h2]; exact ho c _ h2
theorem memo_ok {M : List Ent} (hM : OraOk P M) {f : FuncId} {xs : List X} {x : X} {s' : St} (h : memo M f xs s = some (x, s')) {vs : List Value} (hw : Wo P base w0 σ s w) (hv : vls σ xs = some vs) {K : Value → World → Prop} (hK : Fin P base w0 σ x s' K) : isExt P f = false ∧ Cl P f vs.toArray w K := by
 induction M with
 | nil => cases h
 | cons e l ih =>
   have rest := fun h => ih (fun e he => hM e (List.mem_cons_of_mem _ he)) h
   cases e with
   | c g ys z =>
     simp only [memo] at h
     cases hb : Nat.beq g f with
     | false => rw [hb] at h; exact rest h
     | true =>
       rw [hb] at h; simp only at h
       cases he : eqXs ys xs with
       | false => rw [he] at h; exact rest h
       | true =>
         rw [he] at h; simp only [Option.some.injEq, Prod.mk.injEq] at h; obtain ⟨rfl, rfl⟩ := h; obtain rfl := Nat.eq_of_beq_eq_true hb; have he := eqXs_eq _ _ he; obtain ⟨g1, us, v, g2, g3, g4⟩ := hM _ List.mem_cons_self; rw [he] at g2
         have hn : Ext nsg σ := fun n r hn => by cases hn
         have := vls_ext hn _ _ g2; rw [hv] at this; obtain rfl := Option.some.inj this; refine ⟨g1, g4 w [Vc.whole w] K (Vc.holds_whole w) fun w' S' H' => hK σ w' v (Ext.refl _) (hw.keepAll S' fun c o hc => ?_) (vl_ext hn _ _ g3)⟩; obtain ⟨g, hg, hgs, _⟩ := H'; exact hgs _ _ (hg _ _ hc)
   | s g ys q z q' =>
     simp only [memo] at h
     cases hb : Nat.beq g f with
     | false => rw [hb] at h; exact rest h
     | true =>
       rw [hb] at h; simp only at h
       cases he : eqXs ys xs with
       | false => rw [he] at h; exact rest h
       | true =>
         rw [he] at h; simp only at h
         cases hs : subS s q with
         | false => rw [hs] at h; exact rest h
         | true =>
           rw [hs] at h; simp only [Option.some.injEq, Prod.mk.injEq] at h; obtain ⟨rfl, rfl⟩ := h; obtain rfl := Nat.eq_of_beq_eq_true hb; obtain rfl := eqXs_eq _ _ he; have l := subS_ok hs; obtain ⟨hd, hM⟩ := hM _ List.mem_cons_self; exact hM (bsF base σ s q) w σ w vs (hw.part l) hv K fun σ' w' v hxt hw' hv' => hK σ' w' v hxt (hw.back l hd hxt hw') hv'
def callX (P : Program) (ora : List Ent) (run : Run) (f : FuncId) (xs : List X) (s : St) : Option (X × St) := match memo ora f xs s with
 | some p => some p
 | none => (match P.funcs[f]? with
   | some fn => (match fn.body, fn.name == "runtime.NumGoroutine", Nat.ble xs.length fn.ntmps with
     | some c, false, true => (match run fn.ntmps c (argX (dep fn.ntmps) xs 0 .e) s with
       | some (.normal, ρ', s') | some (.ret, ρ', s') => (match xres P ρ' s' fn.results.toList [] with
         | some x => some (x, s')
         | none => none)
       | _ => none)
     | _, _, _ => none)
   | none => none)
def RunOk (P : Program) (run : Run) : Prop := ∀ (base : Bs) (w0 : World) n c ρ s e ρ' s', run n c ρ s = some (e, ρ', s') → ∀ σ w a r Q, Wo P base w0 σ s w → Fits n r a → EnvR σ ρ r →
 (∀ σ' w' a' r', Ext σ σ' → Wo P base w0 σ' s' w' → Fits n r' a' → EnvR σ' ρ' r' → Q e a' w') → c.wp P Q a w
theorem cl_of_wp {f : FuncId} {fn : Func} {c : Code} {args : List Value} {w : World} {R : Value → World → Prop} {rs : List ResultVar}
   (hf : P.funcs[f]? = some fn) (hb : fn.body = some c) (hn : (fn.name == "runtime.NumGoroutine") = false)
   (hr : fn.results = rs.toArray) (ha : Nat.ble args.length fn.ntmps = true)
   (hh : ∀ a, Fits fn.ntmps ⟨args0 args 0, fun _ => undef⟩ a → c.wp P (fun e a' w' => ∃ ρ', Fits fn.ntmps ρ' a' ∧ fin P rs R e ρ' w') a w) : Cl P f args.toArray w R := by
 refine ⟨by simp [callFunc, hf, (by simpa using hn : ¬ fn.name = "runtime.NumGoroutine"), hb], calls_of_wp hf hb ?_⟩; have ha := Nat.le_of_ble_eq_true ha; refine wp_mono (hh _ ⟨rfl, by simp; omega, fun t => ?_⟩) ?_
 · unfold Env.get; simp only [args0_find, Nat.zero_le, if_true, Nat.sub_zero]
   by_cases hlt : t < args.length
   · simp [Array.getElem?_append, hlt]
   · have h1 : args[t]? = none := by simp; omega
     rw [h1]; simp only [Array.getD_eq_getD_getElem?, Array.getElem?_append, List.size_toArray, if_neg hlt, Array.getElem?_replicate]
     split <;> rfl
 · rintro e a w ⟨ρ, hf', h'⟩
   have key : ResK P ρ w R rs [] → bodyPost P fn (fun e w' => ∃ v, e = .returned v ∧ R v w') .ret a w := fun h' => by
     obtain ⟨vs, h1, h2⟩ := resK_run hf' rs [] h'; refine ⟨hf'.defers, _, ?_, _, rfl, resK_nil vs (by simpa using h2)⟩; unfold results; rw [Sem.run_bind, hr]
     have : (rs.toArray.mapM fun | .tmp t => pure (a.tmps.getD t undef) | .cell x t => do loadVar t (← asAddr (a.tmps.getD x undef)) : Sem (Array Value)) = (do pure (← rs.mapM (rv a.tmps)).toArray) := by
       rw [List.mapM_toArray]; rfl
     erw [this]
     simp [h1, Result.andThen]
   cases e <;> simp only [fin] at h' <;> try exact h'.elim
   · exact key h'
   · exact key h'
theorem callX_ok {ora : List Ent} (hora : OraOk P ora) {run : Run} (hrun : RunOk P run) : CallOk P base w0 (callX P ora run) := by
 intro f xs s x s' hx σ w vs h hv K hK; unfold callX at hx
 cases ho : memo ora f xs s with
 | some g =>
   rw [ho] at hx; simp only [Option.some.injEq] at hx; subst hx; exact memo_ok hora ho h hv hK
 | none =>
   rw [ho] at hx; simp only at hx
   cases hf : P.funcs[f]? with
   | none => rw [hf] at hx; cases hx
   | some fn =>
     rw [hf] at hx; simp only at hx; split at hx
     · rename_i c hb hn hl; have hlen := vls_len hv; refine ⟨by simp only [isExt, hf, hb]; rfl, cl_of_wp (rs := fn.results.toList) hf hb hn (by simp) (by rw [← hlen]; exact hl) fun a ha => ?_⟩
       have res : ∀ e ρ1 s1, (e = .normal ∨ e = .ret) → run fn.ntmps c (argX (dep fn.ntmps) xs 0 .e) s = some (e, ρ1, s1) → (match xres P ρ1 s1 fn.results.toList [] with
           | some x => some (x, s1)
           | none => none) = some (x, s') → c.wp P (fun e a' w' => ∃ ρ', Fits fn.ntmps ρ' a' ∧ fin P fn.results.toList K e ρ' w') a w := by
         intro e ρ1 s1 he hr hq
         cases hxr : xres P ρ1 s1 fn.results.toList [] with
         | none => rw [hxr] at hq; cases hq
         | some y =>
           rw [hxr] at hq; simp only [Option.some.injEq, Prod.mk.injEq] at hq; obtain ⟨rfl, rfl⟩ := hq; refine hrun _ _ _ _ _ _ _ _ _ hr σ w a _ _ h ha (argX_ok hv) fun σ' w' a' r' hxt hw hfit hE => ⟨r', hfit, ?_⟩; have hk : ResK P r' w' K fn.results.toList [] := xres_ok hw.mem hE hxr rfl fun v hvv => hK σ' w' v hxt hw hvv; rcases he with rfl | rfl
           · exact hk
           · exact hk
       split at hx
       · rename_i ρ1 s1 hr; exact res _ _ _ (.inl rfl) hr hx
       · rename_i ρ1 s1 hr; exact res _ _ _ (.inr rfl) hr hx
       · cases hx
     · cases hx
def ev (P : Program) (ora : List Ent) : Nat → Run
 | 0, _, _, _, _ => none
 | k + 1, n, c, ρ, s => match c with
   | .skip => some (.normal, ρ, s)
   | .label _ => some (.normal, ρ, s)
   | .region _ ops draw => (match xreg P n (callX P ora (ev P ora k)) ops draw ρ s with
     | some (ρ', s') => some (.normal, ρ', s')
     | none => none)
   | .seq x y => (match ev P ora k n x ρ s with
     | some (.normal, ρ', s') => ev P ora k n y ρ' s'
     | o => o)
   | .cond q x y => (match evX ρ q with
     | some (.b true) => ev P ora k n x ρ s
     | some (.b false) => ev P ora k n y ρ s
     | _ => none)
   | .block id x => (match ev P ora k n x ρ s with
     | some (.exit i, ρ', s') => (match Nat.beq i id with
       | true => some (.normal, ρ', s')
       | false => some (.exit i, ρ', s'))
     | o => o)
   | .loop x => (match ev P ora k n x ρ s with
     | some (.normal, ρ', s') => ev P ora k n (.loop x) ρ' s'
     | o => o)
   | .exit id => some (.exit id, ρ, s)
   | .ret => some (.ret, ρ, s)
   | _ => none
theorem ev_ok (hm : P.follows .mixedOrders = true) {ora : List Ent} (hora : OraOk P ora) :
   ∀ k, RunOk P (ev P ora k) ∧ (∀ (base : Bs) (w0 : World) n c ρ s e ρ' s', ev P ora k n (.loop c) ρ s = some (e, ρ', s') → ∀ σ w a r Q, Wo P base w0 σ s w → Fits n r a → EnvR σ ρ r →
     (∀ σ' w' a' r', Ext σ σ' → Wo P base w0 σ' s' w' → Fits n r' a' → EnvR σ' ρ' r' → Q e a' w') → LR P c Q k a w) := by
 intro k
 induction k with
 | zero =>
   refine ⟨?_, ?_⟩
   · intro base w0 n c ρ s e ρ' s' h; simp only [ev] at h; cases h
   · intro base w0 n c ρ s e ρ' s' h; simp only [ev] at h; cases h
 | succ k ih =>
   obtain ⟨ihR, ihL⟩ := ih
   have loop : ∀ (base : Bs) (w0 : World) n c ρ s e ρ' s', ev P ora (k + 1) n (.loop c) ρ s = some (e, ρ', s') → ∀ σ w a r Q, Wo P base w0 σ s w → Fits n r a → EnvR σ ρ r →
     (∀ σ' w' a' r', Ext σ σ' → Wo P base w0 σ' s' w' → Fits n r' a' → EnvR σ' ρ' r' → Q e a' w') → LR P c Q (k + 1) a w := by
     intro base w0 n c ρ s e ρ' s' h σ w a r Q hw hf hE hQ; simp only [ev] at h
     cases hx : ev P ora k n c ρ s with
     | none => rw [hx] at h; cases h
     | some q =>
       obtain ⟨e1, ρ1, s1⟩ := q; rw [hx] at h; refine ihR _ _ _ _ _ _ _ _ _ hx σ w a r _ hw hf hE fun σ' w' a' r' hxt hw' hf' hE' => ?_
       cases e1 with
       | normal => exact ihL _ _ _ _ _ _ _ _ _ h σ' w' a' r' Q hw' hf' hE' fun σ2 w2 a2 r2 hxt2 hw2 hf2 hE2 => hQ σ2 w2 a2 r2 (hxt.trans hxt2) hw2 hf2 hE2
       | _ =>
         simp only [Option.some.injEq, Prod.mk.injEq] at h; obtain ⟨rfl, rfl, rfl⟩ := h; exact hQ σ' w' a' r' hxt hw' hf' hE'
   refine ⟨fun base w0 n c ρ s e ρ' s' h σ w a r Q hw hf hE hQ => ?_, loop⟩
   cases c with
   | skip =>
     simp only [ev, Option.some.injEq, Prod.mk.injEq] at h; obtain ⟨rfl, rfl, rfl⟩ := h; exact wp_skip (hQ σ w a r (Ext.refl _) hw hf hE)
   | label l =>
     simp only [ev, Option.some.injEq, Prod.mk.injEq] at h; obtain ⟨rfl, rfl, rfl⟩ := h; exact wp_label (hQ σ w a r (Ext.refl _) hw hf hE)
   | exit id =>
     simp only [ev, Option.some.injEq, Prod.mk.injEq] at h; obtain ⟨rfl, rfl, rfl⟩ := h; exact wp_exit (hQ σ w a r (Ext.refl _) hw hf hE)
   | ret =>
     simp only [ev, Option.some.injEq, Prod.mk.injEq] at h; obtain ⟨rfl, rfl, rfl⟩ := h; exact wp_ret (hQ σ w a r (Ext.refl _) hw hf hE)
   | region id ops draw =>
     simp only [ev] at h
     cases hx : xreg P n (callX P ora (ev P ora k)) ops draw ρ s with
     | none => rw [hx] at h; cases h
     | some q =>
       obtain ⟨ρ1, s1⟩ := q; rw [hx] at h; simp only [Option.some.injEq, Prod.mk.injEq] at h; obtain ⟨rfl, rfl, rfl⟩ := h; obtain ⟨hh, hv⟩ := xreg_ok (fun _ _ => callX_ok hora ihR) hw hE hx (K := fun r' w' => ∃ σ', Ext σ σ' ∧ Wo P base w0 σ' s1 w' ∧ EnvR σ' ρ1 r') fun σ' w' r' hxt hw' hE' => ⟨σ', hxt, hw', hE'⟩; exact vcReg_sound hm hv hf fun r' a' w' hf' ⟨σ', hxt, hw', hE'⟩ => hQ σ' w' a' r' hxt hw' hf' hE'
   | seq x y =>
     simp only [ev] at h
     cases hx : ev P ora k n x ρ s with
     | none => rw [hx] at h; cases h
     | some q =>
       obtain ⟨e1, ρ1, s1⟩ := q; rw [hx] at h; refine wp_seq (ihR _ _ _ _ _ _ _ _ _ hx σ w a r _ hw hf hE fun σ' w' a' r' hxt hw' hf' hE' => ?_)
       cases e1 with
       | normal => exact ihR _ _ _ _ _ _ _ _ _ h σ' w' a' r' Q hw' hf' hE' fun σ2 w2 a2 r2 hxt2 hw2 hf2 hE2 => hQ σ2 w2 a2 r2 (hxt.trans hxt2) hw2 hf2 hE2
       | _ =>
         simp only [Option.some.injEq, Prod.mk.injEq] at h; obtain ⟨rfl, rfl, rfl⟩ := h; exact hQ σ' w' a' r' hxt hw' hf' hE'
   | cond q x y =>
     simp only [ev] at h
     cases hx : evX ρ q with
     | none => rw [hx] at h; cases h
     | some z =>
       rw [hx] at h; have hz := evX_spec hE hx
       cases z with
       | b c =>
         simp only [vl, Option.some.injEq] at hz
         cases c with
         | true => exact wp_cond_true (by rw [hf.eval]; exact hz.symm) (ihR _ _ _ _ _ _ _ _ _ h σ w a r Q hw hf hE hQ)
         | false => exact wp_cond_false (by rw [hf.eval]; exact hz.symm) (ihR _ _ _ _ _ _ _ _ _ h σ w a r Q hw hf hE hQ)
       | _ => cases h
   | block id x =>
     simp only [ev] at h
     cases hx : ev P ora k n x ρ s with
     | none => rw [hx] at h; cases h
     | some q =>
       obtain ⟨e1, ρ1, s1⟩ := q; rw [hx] at h; refine wp_block (ihR _ _ _ _ _ _ _ _ _ hx σ w a r _ hw hf hE fun σ' w' a' r' hxt hw' hf' hE' => ?_)
       cases e1 with
       | exit i =>
         simp only at h
         cases hb : Nat.beq i id with
         | true =>
           rw [hb] at h; simp only [Option.some.injEq, Prod.mk.injEq] at h; obtain ⟨rfl, rfl, rfl⟩ := h; have := Nat.eq_of_beq_eq_true hb; subst this; simp only [Exit.inBlock, if_true]; exact hQ σ' w' a' r' hxt hw' hf' hE'
         | false =>
           rw [hb] at h; simp only [Option.some.injEq, Prod.mk.injEq] at h; obtain ⟨rfl, rfl, rfl⟩ := h; simp only [Exit.inBlock, if_neg (Nat.ne_of_beq_eq_false hb)]; exact hQ σ' w' a' r' hxt hw' hf' hE'
       | _ =>
         simp only [Option.some.injEq, Prod.mk.injEq] at h; obtain ⟨rfl, rfl, rfl⟩ := h; exact hQ σ' w' a' r' hxt hw' hf' hE'
   | loop x =>
     exact wp_of_LR (loop _ _ _ _ _ _ _ _ _ h σ w a r Q hw hf hE hQ)
   | _ => simp only [ev] at h; cases h
end
end Go.Ev
namespace Go.Ev
open Go Go.Vc
noncomputable section
variable {P : Program}
def s0G (G : List (Nat × List X)) : St := ⟨.e, 0, 1, .e, G⟩
def s0 : St := s0G []
def bsW (w : World) : Bs := ⟨fun c => c < w.heap.size, fun _ => False, fun c => c < w.heap.size, fun _ h => h⟩
def isTrue : Option (X × St) → Bool
 | some (.b true, _) => true
 | _ => false
def GOk (G : List (Nat × List X)) (w : World) : Prop := ∀ g xs, lkG G g = some xs → ∃ e fz vs, vls (fun _ => none) xs = some vs ∧ w.heap[g]? = some (.cells vs.toArray e fz)
theorem startG {G : List (Nat × List X)} {w : World} (hG : GOk G w) : Wo P (bsW w) w (fun _ => none) (s0G G) w := by
 refine ⟨⟨fun b e cs h => ?_, fun b c x y r r' h => ?_, fun b o h => ?_, fun b c x y r r' h => ?_, fun g xs h => ?_⟩, ⟨rfl, Nat.lt_succ_self 0, fun _ _ => rfl, fun _ h => h.elim⟩, ⟨.refl w, fun c h => h, fun c _ => rfl⟩⟩
 · simp [St.blk, s0G, T.get_e, jn] at h
 · simp [St.blk, s0G, T.get_e, jn] at h
 · simp [St.mo, s0G, T.get_e, jn] at h
 · simp [St.mo, s0G, T.get_e, jn] at h
 · obtain ⟨e, fz, vs, h1, h2⟩ := hG g xs h; exact ⟨(Array.getElem?_eq_some_iff.1 h2).1, e, fz, vs, h1, h2⟩
theorem fram_holds {w w' : World} {L : List HProp} (h : Fram (bsW w) w w') (H : Holds w L) : Holds w' L := by
 refine Sat.mono H fun c o hc => ?_; show w'.heap[c]? = some o; have hc' : w.heap[c]? = some o := hc; have hlt : c < w.heap.size := (Array.getElem?_eq_some_iff.1 hc').1; rw [h.old c hlt, hc']
theorem cl_trueG (hm : P.follows .mixedOrders = true) {f : FuncId} {k : Nat} {M : List Ent} {G : List (Nat × List X)} (hM : OraOk P M) (h : isTrue (callX P M (ev P M k) f [] (s0G G)) = true) {w : World} {L : List HProp} {K : Value → World → Prop} (hG : GOk G w) (H : Holds w L)
   (post : ∀ w', Same w w' → Holds w' L → K (.bool true) w') : Cl P f #[] w K := by
 have hc : CallOk P (bsW w) w (callX P M (ev P M k)) := callX_ok hM (ev_ok hm hM k).1
 cases hx : callX P M (ev P M k) f [] (s0G G) with
 | none => rw [hx] at h; cases h
 | some q =>
   obtain ⟨x, s'⟩ := q; rw [hx] at h
   cases x with
   | b c =>
     cases c with
     | false => cases h
     | true =>
       refine (hc f [] (s0G G) _ s' hx _ w [] (startG hG) rfl K fun σ' w' v _ hw hv => ?_).2; simp only [vl, Option.some.injEq] at hv; subst hv; exact post w' hw.fram.same (fram_holds hw.fram H)
   | _ => cases h
def isVal (z : X) : Option (X × St) → Bool
 | some q => eqX q.1 z
 | none => false
end
end Go.Ev
namespace Go.Ev
open Go Go.Vc
noncomputable section
abbrev CallT := FuncId → List X → St → Option (X × St)
def vPk (ρ : T X) (a b : Operand) : Option X → Option X
 | some (.b c) => (match c with
   | true => evX ρ a
   | false => evX ρ b)
 | _ => none
def vNc : Option (Nat × Nat) → Option X
 | some a => some (.p (some a))
 | none => none
def vFa2 (P : Program) (ρ : T X) (x : Operand) : Option Field → Option X
 | some fd => (match P.info? fd.type with
   | some i => (match i.size with
     | 0 => none
     | _ + 1 => foX (pX (evX ρ x)) fd.offset)
   | none => none)
 | none => none
def vFa (P : Program) (ρ : T X) (x : Operand) (f : Nat) : Option TypeDesc → Option X
 | some (.struct fs) => vFa2 P ρ x (fldOf fs.toList f)
 | _ => none
def vIa (P : Program) (ρ : T X) (x i : Operand) : Option TypeDesc → Option X
 | some (.array len e) => iaX P e len (pX (evX ρ x)) (evX ρ i)
 | some (.slice e) => isX P e (evX ρ x) (evX ρ i)
 | _ => none
def vIx (P : Program) (ρ : T X) (x i : Operand) : Option TypeDesc → Option X
 | some .string => ixsX (evX ρ x) (evX ρ i)
 | some (.array len e) => (match P.info? e with
   | some inf => (match P.underlying e with
     | some (.struct _) | some (.array _ _) => ixaX inf.size true len (evX ρ x) (evX ρ i)
     | some _ => ixaX inf.size false len (evX ρ x) (evX ρ i)
     | none => none)
   | none => none)
 | _ => none
def vFd (P : Program) (ρ : T X) (x : Operand) (f : Nat) : Option TypeDesc → Option X
 | some (.struct fs) => (match fldOf fs.toList f with
   | some fd => (match P.underlying fd.type with
     | some (.struct _) | some (.array _ _) => (match P.info? fd.type with
       | some i => fdaX fd.offset i.size (evX ρ x)
       | none => none)
     | some _ => fdX fd.offset (evX ρ x)
     | none => none)
   | none => none)
 | _ => none
def vBb (ρ : T X) (x y : Operand) : BinOp → Option X
 | .eql => bbX false (evX ρ x) (evX ρ y)
 | .neq => bbX true (evX ρ x) (evX ρ y)
 | _ => none
def vBn (P : Program) (e : TypeId) (ρ : T X) (x y : Operand) : BinOp → Option X
 | .eql => bnX P e false (evX ρ x) (evX ρ y)
 | .neq => bnX P e true (evX ρ x) (evX ρ y)
 | _ => none
def vBp (P : Program) (ρ : T X) (t : TypeId) (op : BinOp) (x y : Operand) : Option TypeDesc → Option X
 | some (.int _) => bp2 op (evX ρ x) (evX ρ y)
 | some .string => bp2 op (evX ρ x) (evX ρ y)
 | some .bool => vBb ρ x y op
 | some (.pointer e) => vBn P e ρ x y op
 | some _ => beX P op t x y (evX ρ x) (evX ρ y)
 | none => none
def vCv (P : Program) (ρ : T X) (s : St) (q d : TypeId) (x : Operand) : Option TypeDesc → Option TypeDesc → Option X
 | some (.int _), some (.int k) => ciX k (evX ρ x)
 | some (.slice e), some .string => cvX P s q (evX ρ x)
 | some _, some _ => cpX P s q d (evX ρ x)
 | _, _ => none
def vMi : Option TypeDesc → TypeId → Option X → Option X
 | some (.interface _), _, _ => none
 | some _, t, some x => some (.fc t x)
 | _, _, _ => none
def vSl (P : Program) (ρ : T X) (s : St) (x : Operand) (l h m : Option Operand) : Option TypeDesc → Option X
 | some .string => (match m with
   | none => sstX (evX ρ x) (fun d => bndX ρ d l) (fun d => bndX ρ d h)
   | some _ => none)
 | some (.slice e) => (match m with
   | none => (match P.info? e with
     | some inf => sslX inf.size (evX ρ x) (fun d => bndX ρ d l) (fun d => bndX ρ d h)
     | none => none)
   | some _ => none)
 | some (.array n e) => (match m with
   | none => slaX P s n e (evX ρ x) (fun d => bndX ρ d l) (fun d => bndX ρ d h)
   | some _ => none)
 | _ => none
def vBd (P : Program) (t : TypeId) : Option (List (Nat × X)) → Option X
 | some xs => bdX P t xs
 | none => none
def vLn2 (s : St) : Option TypeDesc → X → Option X
 | some .string, .s l => some (.i .i64 (l.length : Int))
 | some (.slice _), .l _ n _ => some (.i .i64 (n : Int))
 | some (.slice _), .e0 _ _ _ => some (.i .i64 0)
 | some (.map _ _), .m b => lmX s b
 | _, _ => none
def vLn (P : Program) (s : St) : List TypeId → Option (List X) → Option X
 | t :: _, some (x :: _) => vLn2 s (P.underlying t) x
 | _, _ => none
def vMm (mx : Bool) : Option (List X) → Option X
 | some xs => mmX mx xs
 | none => none
def vCl (P : Program) (ρ : T X) (s : St) (c : Call) : Callee → Option X
 | .builtin .len => vLn P s c.argTypes.toList (xargs ρ c.args.toList)
 | .builtin .cap => capX P c.argTypes.toList (xargs ρ c.args.toList)
 | .builtin .min => vMm false (xargs ρ c.args.toList)
 | .builtin .max => vMm true (xargs ρ c.args.toList)
 | _ => none
def xvalF (P : Program) (ρ : T X) (s : St) : Op → Option X
 | .move x => evX ρ x
 | .assign x => evX ρ x
 | .pick c a b => vPk ρ a b (evX ρ c)
 | .nilCheck x => vNc (pX (evX ρ x))
 | .load t a => ldW P ρ s t a
 | .fieldAddr q x f => vFa P ρ x f (P.underlying q)
 | .indexAddr t x i => vIa P ρ x i (P.underlying t)
 | .index t x i => vIx P ρ x i (P.underlying t)
 | .field t x f => vFd P ρ x f (P.underlying t)
 | .binOp op t x y _ => vBp P ρ t op x y (P.underlying t)
 | .unOp op _ x => upX op (evX ρ x)
 | .convert q d x => vCv P ρ s q d x (P.underlying q) (P.underlying d)
 | .makeInterface t x => vMi (P.underlying t) t (evX ρ x)
 | .slice t x l h m => vSl P ρ s x l h m (P.underlying t)
 | .extract x i => exX (evX ρ x) i
 | .build t ps => vBd P t (xparts ρ ps.toList)
 | .call c => vCl P ρ s c c.callee
 | .makeFunc fn a c => mfX ρ fn a c
 | .lookup t x i ok => lkX P s t (evX ρ x) (evX ρ i) ok
 | .typeAssert x _ a ok => taX P a ok (evX ρ x)
 | _ => none
theorem xvalF_eq (P : Program) (ρ : T X) (s : St) (o : Oper) : xvalF P ρ s o.op = xval P ρ s o := by
 unfold xval
 cases o.op with
 | pick c a b =>
   show vPk ρ a b (evX ρ c) = _; simp only
   cases evX ρ c with
   | none => rfl
   | some x =>
     cases x with
     | b c => cases c <;> rfl
     | _ => rfl
 | nilCheck x =>
   show vNc (pX (evX ρ x)) = _; simp only
   cases pX (evX ρ x) <;> rfl
 | fieldAddr q x f =>
   show vFa P ρ x f (P.underlying q) = _; simp only
   cases P.underlying q with
   | none => rfl
   | some d =>
     cases d with
     | struct fs =>
       show vFa2 P ρ x (fldOf fs.toList f) = _; simp only
       cases fldOf fs.toList f <;> rfl
     | _ => rfl
 | indexAddr t x i =>
   show vIa P ρ x i (P.underlying t) = _; simp only
   cases P.underlying t with
   | none => rfl
   | some d => cases d <;> rfl
 | index t x i =>
   show vIx P ρ x i (P.underlying t) = _; simp only
   cases P.underlying t with
   | none => rfl
   | some d => cases d <;> rfl
 | field t x f =>
   show vFd P ρ x f (P.underlying t) = _; simp only
   cases P.underlying t with
   | none => rfl
   | some d => cases d <;> rfl
 | binOp op t x y yt =>
   show vBp P ρ t op x y (P.underlying t) = _; simp only
   cases P.underlying t with
   | none => rfl
   | some d => cases d <;> first | rfl | (cases op <;> rfl)
 | convert q d x =>
   show vCv P ρ s q d x (P.underlying q) (P.underlying d) = _; simp only
   cases P.underlying q with
   | none => cases P.underlying d <;> rfl
   | some a =>
     cases P.underlying d with
     | none => cases a <;> rfl
     | some b => cases a <;> cases b <;> rfl
 | makeInterface t x =>
   show vMi (P.underlying t) t (evX ρ x) = _; simp only
   cases P.underlying t with
   | none => cases evX ρ x <;> rfl
   | some d => cases d <;> cases evX ρ x <;> rfl
 | slice t x l h m =>
   show vSl P ρ s x l h m (P.underlying t) = _; simp only
   cases P.underlying t with
   | none => rfl
   | some d => cases d <;> cases m <;> rfl
 | build t ps =>
   show vBd P t (xparts ρ ps.toList) = _; simp only
   cases xparts ρ ps.toList <;> rfl
 | call c =>
   show vCl P ρ s c c.callee = _; simp only
   cases c.callee with
   | builtin b =>
     cases b with
     | len =>
       show vLn P s c.argTypes.toList (xargs ρ c.args.toList) = _; simp only
       cases c.argTypes.toList with
       | nil => rfl
       | cons t ts =>
         cases xargs ρ c.args.toList with
         | none => rfl
         | some xs =>
           cases xs with
           | nil => rfl
           | cons y ys =>
             show vLn2 s (P.underlying t) y = _; simp only
             cases P.underlying t with
             | none => cases y <;> rfl
             | some d => cases d <;> cases y <;> rfl
     | min =>
       show vMm false (xargs ρ c.args.toList) = _; simp only
       cases xargs ρ c.args.toList <;> rfl
     | max =>
       show vMm true (xargs ρ c.args.toList) = _; simp only
       cases xargs ρ c.args.toList <;> rfl
     | _ => rfl
   | _ => rfl
 | _ => rfl
def eBx (t : TypeId) (s : St) : Option X → Option (X × St)
 | some x => newX t (some (cellsX x)) s
 | none => none
def eAp (P : Program) (s : St) : Array TypeId → Option (List X) → Option (X × St)
 | ⟨[t, tx]⟩, some [x, y] => appX P t tx x y s
 | _, _ => none
def eCl (P : Program) (call : CallT) (ρ : T X) (s : St) (c : Call) : Callee → Option (X × St)
 | .value (.func f) => eFn P call f s (xargs ρ c.args.toList)
 | .value f => eVl call s (evX ρ f) (xargs ρ c.args.toList)
 | .invoke q name => eIv P call s name (evX ρ q) (xargs ρ c.args.toList)
 | .builtin .clear => clrX P c.argTypes.toList (xargs ρ c.args.toList) s
 | .builtin .delete => dlX P c.argTypes.toList (xargs ρ c.args.toList) s
 | .builtin .copy => cpyZ P c.argTypes.toList (xargs ρ c.args.toList) s
 | .builtin .unsafeSliceData => eUsd s (usdX (xargs ρ c.args.toList))
 | .builtin .unsafeString => ustX P c.argTypes.toList (xargs ρ c.args.toList) s
 | .builtin .append => eAp P s c.argTypes (xargs ρ c.args.toList)
 | _ => none
def xeffF (P : Program) (st : Bool) (call : CallT) (ρ : T X) (s : St) : Op → Option (X × St)
 | .store t a x => stoX P s t (pX (evX ρ a)) (evX ρ x)
 | .alloc t => newX t (zeroX P t) s
 | .box t x => eBx t s (evX ρ x)
 | .buildSlice t n ps => eBs P t s n (xparts ρ ps.toList)
 | .makeSlice t l c => msX P t (evX ρ l) (evX ρ c) s
 | .convert q d x => eCv P st q d (evX ρ x) s
 | .makeMap t r => mmX0 P t (r.map (evX ρ)) s
 | .mapUpdate t m k x => muX P t (evX ρ m) (evX ρ k) (evX ρ x) s
 | .insert t m k x => muX P t (evX ρ m) (evX ρ k) (evX ρ x) s
 | .range t x => rgX P t (evX ρ x) s
 | .next x isS => nxX isS (evX ρ x) s
 | .call c => eCl P call ρ s c c.callee
 | _ => none
theorem xeffF_eq (P : Program) (st : Bool) (call : CallT) (ρ : T X) (s : St) (o : Oper) : xeffF P st call ρ s o.op = xeff P st call ρ s o := by
 unfold xeff
 cases o.op with
 | box t x =>
   show eBx t s (evX ρ x) = _; simp only
   cases evX ρ x <;> rfl
 | call c =>
   show eCl P call ρ s c c.callee = _; simp only
   cases c.callee with
   | value f =>
     cases f with
     | func f => rfl
     | _ => rfl
   | builtin b =>
     cases b with
     | append =>
       show eAp P s c.argTypes (xargs ρ c.args.toList) = _; obtain ⟨l⟩ := c.argTypes
       cases xargs ρ c.args.toList with
       | none =>
         match l with
         | [] => rfl
         | [_] => rfl
         | [_, _] => rfl
         | _ :: _ :: _ :: _ => rfl
       | some xs =>
         match l, xs with
         | [], [] => rfl
         | [], [_] => rfl
         | [], [_, _] => rfl
         | [], _ :: _ :: _ :: _ => rfl
         | [_], [] => rfl
         | [_], [_] => rfl
         | [_], [_, _] => rfl
         | [_], _ :: _ :: _ :: _ => rfl
         | [_, _], [] => rfl
         | [_, _], [_] => rfl
         | [_, _], [_, _] => rfl
         | [_, _], _ :: _ :: _ :: _ => rfl
         | _ :: _ :: _ :: _, [] => rfl
         | _ :: _ :: _ :: _, [_] => rfl
         | _ :: _ :: _ :: _, [_, _] => rfl
         | _ :: _ :: _ :: _, _ :: _ :: _ :: _ => rfl
     | delete => rfl
     | clear => rfl
     | copy => rfl
     | unsafeSliceData => rfl
     | unsafeString => rfl
     | _ => cases xargs ρ c.args.toList <;> rfl
   | invoke r m => rfl
 | _ => rfl
def oD2 (s : St) : Option (T X) → Option (T X × St)
 | some ρ => some (ρ, s)
 | none => none
def oE (n : Nat) (ops : List Oper) (i : Nat) (dst : Option Nat) (ρ : T X) : Option (X × St) → Option (T X × St)
 | some q => oD2 q.2 (xdone n ops i dst q.1 ρ)
 | none => none
def oV (P : Program) (st : Bool) (call : CallT) (n : Nat) (ops : List Oper) (i : Nat) (o : Oper) (ρ : T X) (s : St) : Option X → Option (T X × St)
 | some x => oD2 s (xdone n ops i o.dst x ρ)
 | none => oE n ops i o.dst ρ (xeffF P st call ρ s o.op)
def oG (P : Program) (st : Bool) (call : CallT) (n : Nat) (ops : List Oper) (i : Nat) (o : Oper) (ρ : T X) (s : St) : Option Bool → Option (T X × St)
 | some c => (match c with
   | true => oV P st call n ops i o ρ s (xvalF P ρ s o.op)
   | false => oD2 s (xput n ρ o.dst undX))
 | none => none
theorem oG_eq (P : Program) (st : Bool) (call : CallT) (n : Nat) (ops : List Oper) (i : Nat) (o : Oper) (ρ : T X) (s : St) : oG P st call n ops i o ρ s (xgd ops ρ o) = xop1 P st call n ops i o ρ s := by
 unfold xop1
 cases xgd ops ρ o with
 | none => rfl
 | some c =>
   cases c with
   | true =>
     show oV P st call n ops i o ρ s (xvalF P ρ s o.op) = _; rw [xvalF_eq]; simp only
     cases xval P ρ s o with
     | some x =>
       show oD2 s (xdone n ops i o.dst x ρ) = _; simp only
       cases xdone n ops i o.dst x ρ <;> rfl
     | none =>
       show oE n ops i o.dst ρ (xeffF P st call ρ s o.op) = _; rw [xeffF_eq]; simp only
       cases xeff P st call ρ s o with
       | none => rfl
       | some q =>
         obtain ⟨x, s'⟩ := q; show oD2 s' (xdone n ops i o.dst x ρ) = _; simp only
         cases xdone n ops i o.dst x ρ <;> rfl
   | false =>
     show oD2 s (xput n ρ o.dst undX) = _; simp only
     cases xput n ρ o.dst undX <;> rfl
def lK (ih : Nat → T X → St → Option (T X × St)) (i : Nat) : Option (T X × St) → Option (T X × St)
 | some q => ih i q.1 q.2
 | none => none
def xopsF (P : Program) (st : Bool) (call : CallT) (n : Nat) (ops : List Oper) (l : List Oper) : Nat → T X → St → Option (T X × St) :=
 @List.rec Oper (fun _ => Nat → T X → St → Option (T X × St)) (fun _ ρ s => some (ρ, s)) (fun o _ ih i ρ s => lK ih (i + 1) (oG P st call n ops i o ρ s (xgd ops ρ o))) l
theorem xopsF_eq (P : Program) (st : Bool) (call : CallT) (n : Nat) (ops : List Oper) : ∀ (l : List Oper) (i : Nat) (ρ : T X) (s : St), xopsF P st call n ops l i ρ s = xops P st call n ops l i ρ s
 | [], _, _, _ => rfl
 | o :: l, i, ρ, s => by
   show lK (xopsF P st call n ops l) (i + 1) (oG P st call n ops i o ρ s (xgd ops ρ o)) = _; rw [oG_eq, xops]
   cases xop1 P st call n ops i o ρ s with
   | none => rfl
   | some q =>
     obtain ⟨ρ', s'⟩ := q; exact xopsF_eq P st call n ops l (i + 1) ρ' s'
abbrev Pend := List (Nat × Oper × T X × X)
abbrev Past := List (Nat × St)
abbrev StT := Nat → Pend → Past → T X → St → Option (T X × St)
def sPa (ih : StT) (i : Nat) (pend : Pend) (past : Past) (ρ : T X) (s : St) : Bool → Option (T X × St)
 | true => ih i pend past ρ s
 | false => none
def sV2 (P : Program) (b : Nat → Nat → Bool) (o : Oper) (ih : StT) (i : Nat) (pend : Pend) (past : Past) (ρ : T X) (s : St) (x : X) (ρ' : T X) : Bool → Option (T X × St)
 | true => ih (i + 1) pend past ρ' s
 | false => sPa ih (i + 1) ((i, o, ρ, x) :: pend) past ρ' s (pastOk P ρ o (b i) x past)
def sV1 (P : Program) (b : Nat → Nat → Bool) (o : Oper) (ih : StT) (i : Nat) (pend : Pend) (past : Past) (ρ : T X) (s : St) (x : X) : Option (T X) → Option (T X × St)
 | some ρ' => sV2 P b o ih i pend past ρ s x ρ' (blind P o)
 | none => none
def sV (P : Program) (n : Nat) (ops : List Oper) (b : Nat → Nat → Bool) (o : Oper) (ih : StT) (i : Nat) (pend : Pend) (past : Past) (ρ : T X) (s : St) : Option X → Option (T X × St)
 | some x => sV1 P b o ih i pend past ρ s x (xdone n ops i o.dst x ρ)
 | none => none
def sE2 (ih : StT) (i : Nat) (pend : Pend) (past : Past) (s s' : St) : Bool → Option (T X) → Option (T X × St)
 | true, some ρ' => ih (i + 1) pend ((i, s) :: past) ρ' s'
 | _, _ => none
def sE (P : Program) (n : Nat) (ops : List Oper) (b : Nat → Nat → Bool) (o : Oper) (ih : StT) (i : Nat) (pend : Pend) (past : Past) (ρ : T X) (s : St) : Option (X × St) → Option (T X × St)
 | some q => sE2 ih i pend past s q.2 (pendOk P q.2 (b i) pend) (xdone n ops i o.dst q.1 ρ)
 | none => none
def sS (ih : StT) (i : Nat) (pend : Pend) (past : Past) (s : St) : Option (T X) → Option (T X × St)
 | some ρ' => ih (i + 1) pend past ρ' s
 | none => none
def sX (P : Program) (call : CallT) (n : Nat) (ops : List Oper) (b : Nat → Nat → Bool) (o : Oper) (ih : StT) (i : Nat) (pend : Pend) (past : Past) (ρ : T X) (s : St) : Bool → Option (T X × St)
 | true => sV P n ops b o ih i pend past ρ s (xvalF P ρ s o.op)
 | false => sE P n ops b o ih i pend past ρ s (xeffF P false call ρ s o.op)
def sG (P : Program) (call : CallT) (n : Nat) (ops : List Oper) (b : Nat → Nat → Bool) (o : Oper) (ih : StT) (i : Nat) (pend : Pend) (past : Past) (ρ : T X) (s : St) : Option Bool → Option (T X × St)
 | some c => (match c with
   | true => sX P call n ops b o ih i pend past ρ s (stillOp o.op)
   | false => sS ih i pend past s (xput n ρ o.dst undX))
 | none => none
def xstF (P : Program) (call : CallT) (n : Nat) (ops : List Oper) (b : Nat → Nat → Bool) (l : List Oper) : StT :=
 @List.rec Oper (fun _ => StT) (fun _ _ _ ρ s => some (ρ, s)) (fun o _ ih i pend past ρ s => sG P call n ops b o ih i pend past ρ s (xgd ops ρ o)) l
theorem xstF_eq (P : Program) (call : CallT) (n : Nat) (ops : List Oper) (b : Nat → Nat → Bool) : ∀ (l : List Oper) (i : Nat) (pend : Pend) (past : Past) (ρ : T X) (s : St), xstF P call n ops b l i pend past ρ s = xst P call n ops b l i pend past ρ s
 | [], _, _, _, _, _ => rfl
 | o :: l, i, pend, past, ρ, s => by
   have ih := xstF_eq P call n ops b l; show sG P call n ops b o (xstF P call n ops b l) i pend past ρ s (xgd ops ρ o) = _; rw [xst]
   cases xgd ops ρ o with
   | none => rfl
   | some c =>
     cases c with
     | false =>
       show sS (xstF P call n ops b l) i pend past s (xput n ρ o.dst undX) = _; simp only
       cases xput n ρ o.dst undX with
       | none => rfl
       | some ρ' => exact ih _ _ _ _ _
     | true =>
       show sX P call n ops b o (xstF P call n ops b l) i pend past ρ s (stillOp o.op) = _; simp only
       cases stillOp o.op with
       | true =>
         show sV P n ops b o (xstF P call n ops b l) i pend past ρ s (xvalF P ρ s o.op) = _; rw [xvalF_eq]; simp only
         cases xval P ρ s o with
         | none => rfl
         | some x =>
           show sV1 P b o (xstF P call n ops b l) i pend past ρ s x (xdone n ops i o.dst x ρ) = _; simp only
           cases xdone n ops i o.dst x ρ with
           | none => rfl
           | some ρ' =>
             show sV2 P b o (xstF P call n ops b l) i pend past ρ s x ρ' (blind P o) = _; simp only
             cases blind P o with
             | true => exact ih _ _ _ _ _
             | false =>
               show sPa (xstF P call n ops b l) (i + 1) ((i, o, ρ, x) :: pend) past ρ' s (pastOk P ρ o (b i) x past) = _; simp only
               cases pastOk P ρ o (b i) x past with
               | true => exact ih _ _ _ _ _
               | false => rfl
       | false =>
         show sE P n ops b o (xstF P call n ops b l) i pend past ρ s (xeffF P false call ρ s o.op) = _; rw [xeffF_eq]; simp only
         cases xeff P false call ρ s o with
         | none => rfl
         | some q =>
           obtain ⟨x, s'⟩ := q; show sE2 (xstF P call n ops b l) i pend past s s' (pendOk P s' (b i) pend) (xdone n ops i o.dst x ρ) = _; simp only
           cases pendOk P s' (b i) pend with
           | false => cases xdone n ops i o.dst x ρ <;> rfl
           | true =>
             cases xdone n ops i o.dst x ρ with
             | none => rfl
             | some ρ' => exact ih _ _ _ _ _
def rS (P : Program) (n : Nat) (call : CallT) (ops : Array Oper) (ρ : T X) (s : St) : Bool → Option (T X × St)
 | true => xstF P call n ops.toList (befM (msOf ops.toList [])) ops.toList 0 [] [] ρ s
 | false => xtr P call n ops ρ s
def rD (P : Program) (n : Nat) (call : CallT) (ops : Array Oper) (ρ : T X) (s : St) : Bool → Bool → Option (T X × St)
 | true, true => xopsF P true call n ops.toList ops.toList 0 ρ s
 | _, _ => rS P n call ops ρ s (stagedB ops ops.toList (msOf ops.toList []) ops.toList 0)
def xregF (P : Program) (n : Nat) (call : CallT) (ops : Array Oper) (ρ : T X) (s : St) : Bool → Option (T X × St)
 | false => xopsF P false call n ops.toList ops.toList 0 ρ s
 | true => rD P n call ops ρ s (Region.lexB .any ops) (allStill ops.toList)
theorem xregF_eq (P : Program) (n : Nat) (call : CallT) (ops : Array Oper) (draw : Bool) (ρ : T X) (s : St) : xregF P n call ops ρ s draw = xreg P n call ops draw ρ s := by
 unfold xreg
 cases draw with
 | false => exact xopsF_eq _ _ _ _ _ _ _ _ _
 | true =>
   show rD P n call ops ρ s (Region.lexB .any ops) (allStill ops.toList) = _
   have st : rS P n call ops ρ s (stagedB ops ops.toList (msOf ops.toList []) ops.toList 0) = (match stagedB ops ops.toList (msOf ops.toList []) ops.toList 0 with
     | true => xst P call n ops.toList (befM (msOf ops.toList [])) ops.toList 0 [] [] ρ s
     | false => xtr P call n ops ρ s) := by
     cases stagedB ops ops.toList (msOf ops.toList []) ops.toList 0 with
     | true => exact xstF_eq _ _ _ _ _ _ _ _ _ _ _
     | false => rfl
   simp only
   cases Region.lexB .any ops with
   | false => exact st
   | true =>
     cases allStill ops.toList with
     | false => exact st
     | true => exact xopsF_eq _ _ _ _ _ _ _ _ _
def cR2 (s : St) : Option X → Option (X × St)
 | some x => some (x, s)
 | none => none
def cR (P : Program) (rs : List ResultVar) : Option (Exit × T X × St) → Option (X × St)
 | some q => (match q.1 with
   | .normal => cR2 q.2.2 (xres P q.2.1 q.2.2 rs [])
   | .ret => cR2 q.2.2 (xres P q.2.1 q.2.2 rs [])
   | _ => none)
 | none => none
def cB (P : Program) (run : Run) (fn : Func) (xs : List X) (s : St) : Option Code → Bool → Bool → Option (X × St)
 | some c, false, true => cR P fn.results.toList (run fn.ntmps c (argX (dep fn.ntmps) xs 0 .e) s)
 | _, _, _ => none
def cF (P : Program) (run : Run) (xs : List X) (s : St) : Option Func → Option (X × St)
 | some fn => cB P run fn xs s fn.body (fn.name == "runtime.NumGoroutine") (Nat.ble xs.length fn.ntmps)
 | none => none
def mF (P : Program) (run : Run) (f : FuncId) (xs : List X) (s : St) : Option (X × St) → Option (X × St)
 | some p => some p
 | none => cF P run xs s (P.funcs[f]?)
def callF (P : Program) (M : List Ent) (run : Run) (f : FuncId) (xs : List X) (s : St) : Option (X × St) := mF P run f xs s (memo M f xs s)
theorem callF_eq (P : Program) (M : List Ent) (run : Run) (f : FuncId) (xs : List X) (s : St) : callF P M run f xs s = callX P M run f xs s := by
 unfold callF callX
 cases memo M f xs s with
 | some x => rfl
 | none =>
 show cF P run xs s (P.funcs[f]?) = _; simp only
 cases P.funcs[f]? with
 | none => rfl
 | some fn =>
   show cB P run fn xs s fn.body (fn.name == "runtime.NumGoroutine") (Nat.ble xs.length fn.ntmps) = _; simp only
   cases fn.body with
   | none => rfl
   | some c =>
     cases fn.name == "runtime.NumGoroutine" with
     | true => cases Nat.ble xs.length fn.ntmps <;> rfl
     | false =>
       cases Nat.ble xs.length fn.ntmps with
       | false => rfl
       | true =>
         show cR P fn.results.toList (run fn.ntmps c (argX (dep fn.ntmps) xs 0 .e) s) = _; simp only
         cases run fn.ntmps c (argX (dep fn.ntmps) xs 0 .e) s with
         | none => rfl
         | some q =>
           obtain ⟨e, ρ', s'⟩ := q
           cases e with
           | normal =>
             show cR2 s' (xres P ρ' s' fn.results.toList []) = _; simp only
             cases xres P ρ' s' fn.results.toList [] <;> rfl
           | ret =>
             show cR2 s' (xres P ρ' s' fn.results.toList []) = _; simp only
             cases xres P ρ' s' fn.results.toList [] <;> rfl
           | _ => rfl
def kR : Option (T X × St) → Option (Exit × T X × St)
 | some q => some (.normal, q.1, q.2)
 | none => none
def kS2 (ih : Run) (n : Nat) (y : Code) (q : Exit × T X × St) : Exit → Option (Exit × T X × St)
 | .normal => ih n y q.2.1 q.2.2
 | _ => some q
def kS (ih : Run) (n : Nat) (y : Code) : Option (Exit × T X × St) → Option (Exit × T X × St)
 | some q => kS2 ih n y q q.1
 | none => none
def kC2 (ih : Run) (n : Nat) (x y : Code) (ρ : T X) (s : St) : Bool → Option (Exit × T X × St)
 | true => ih n x ρ s
 | false => ih n y ρ s
def kC (ih : Run) (n : Nat) (x y : Code) (ρ : T X) (s : St) : Option X → Option (Exit × T X × St)
 | some (.b c) => kC2 ih n x y ρ s c
 | _ => none
def kB3 (q : Exit × T X × St) : Bool → Option (Exit × T X × St)
 | true => some (.normal, q.2.1, q.2.2)
 | false => some q
def kB2 (id : Nat) (q : Exit × T X × St) : Exit → Option (Exit × T X × St)
 | .exit i => kB3 q (Nat.beq i id)
 | _ => some q
def kB (id : Nat) : Option (Exit × T X × St) → Option (Exit × T X × St)
 | some q => kB2 id q q.1
 | none => none
def stepF (P : Program) (M : List Ent) (ih : Run) (n : Nat) (c : Code) (ρ : T X) (s : St) : Option (Exit × T X × St) := match c with
 | .skip => some (.normal, ρ, s)
 | .label _ => some (.normal, ρ, s)
 | .region _ ops draw => kR (xregF P n (callF P M ih) ops ρ s draw)
 | .seq x y => kS ih n y (ih n x ρ s)
 | .cond q x y => kC ih n x y ρ s (evX ρ q)
 | .block id x => kB id (ih n x ρ s)
 | .loop x => kS ih n (.loop x) (ih n x ρ s)
 | .exit id => some (.exit id, ρ, s)
 | .ret => some (.ret, ρ, s)
 | _ => none
def evF (P : Program) (M : List Ent) (k : Nat) : Run := @Nat.rec (fun _ => Run) (fun _ _ _ _ => none) (fun _ ih => stepF P M ih) k
theorem evF_eq (P : Program) (M : List Ent) : ∀ (k : Nat) (n : Nat) (c : Code) (ρ : T X) (s : St), evF P M k n c ρ s = ev P M k n c ρ s
 | 0, _, _, _, _ => rfl
 | k + 1, n, c, ρ, s => by
   have ih := evF_eq P M k
   have ihf : evF P M k = ev P M k := by funext n c ρ s; exact ih n c ρ s
   show stepF P M (evF P M k) n c ρ s = _; rw [ihf]; unfold stepF
   cases c with
   | region id ops draw =>
     simp only [ev]; rw [xregF_eq]
     have : callF P M (ev P M k) = callX P M (ev P M k) := by funext f xs s; exact callF_eq P M _ f xs s
     rw [this]
     cases xreg P n (callX P M (ev P M k)) ops draw ρ s <;> rfl
   | seq x y =>
     simp only [ev]
     cases ev P M k n x ρ s with
     | none => rfl
     | some q => obtain ⟨e, ρ', s'⟩ := q; cases e <;> rfl
   | cond q x y =>
     simp only [ev]
     cases evX ρ q with
     | none => rfl
     | some z =>
       cases z with
       | b c => cases c <;> rfl
       | _ => rfl
   | block id x =>
     simp only [ev]
     cases ev P M k n x ρ s with
     | none => rfl
     | some q =>
       obtain ⟨e, ρ', s'⟩ := q
       cases e with
       | exit i =>
         show kB3 (.exit i, ρ', s') (Nat.beq i id) = _; simp only
         cases Nat.beq i id <;> rfl
       | _ => rfl
   | loop x =>
     simp only [ev]
     cases ev P M k n x ρ s with
     | none => rfl
     | some q => obtain ⟨e, ρ', s'⟩ := q; cases e <;> rfl
   | _ => rfl
theorem evF_fun (P : Program) (M : List Ent) (k : Nat) : evF P M k = ev P M k := by funext n c ρ s; exact evF_eq P M k n c ρ s
theorem cl_trueFG {P : Program} (hm : P.follows .mixedOrders = true) {f : FuncId} {k : Nat} {M : List Ent} {G : List (Nat × List X)} (hM : OraOk P M) (h : isTrue (callF P M (evF P M k) f [] (s0G G)) = true) {w : World} {L : List HProp} {K : Value → World → Prop} (hG : GOk G w) (H : Holds w L)
   (post : ∀ w', Same w w' → Holds w' L → K (.bool true) w') : Cl P f #[] w K := by
 rw [evF_fun, callF_eq] at h; exact cl_trueG hm hM h hG H post
theorem ora_nil {P : Program} : OraOk P [] := fun e he => by cases he
theorem ora_cons {P : Program} {e : Ent} {M : List Ent} (h : EntOk P e) (hM : OraOk P M) : OraOk P (e :: M) := fun x hx => by
 rcases List.mem_cons.1 hx with rfl | hx
 · exact h
 · exact hM x hx
def isRes (x : X) (q' : St) : Option (X × St) → Bool
 | some r => (match eqX r.1 x with
   | true => subS r.2 q'
   | false => false)
 | none => false
theorem entS {P : Program} (hm : P.follows .mixedOrders = true) {f : FuncId} {k : Nat} {xs : List X} {q : St} {z : X} {q' : St} {M : List Ent} (hM : OraOk P M) (hd : domS q q' = true)
   (h : isRes z q' (callF P M (evF P M k) f xs q) = true) : EntOk P (.s f xs q z q') := by
 refine ⟨hd, ?_⟩; intro base w0 σ w vs hw hv K hK; rw [evF_fun, callF_eq] at h; have hc : CallOk P base w0 (callX P M (ev P M k)) := callX_ok hM (ev_ok hm hM k).1
 cases hx : callX P M (ev P M k) f xs q with
 | none => rw [hx] at h; cases h
 | some r =>
   obtain ⟨y, s'⟩ := r; rw [hx] at h; unfold isRes at h; simp only at h; split at h
   · rename_i he; obtain rfl := eqX_eq _ _ he; exact hc f xs q _ s' hx σ w vs hw hv K fun σ' w' v hxt hw' hv' => hK σ' w' v hxt (hw'.sub (subS_ok h)) hv'
   · cases h
end
end Go.Ev
namespace Go.Vc
section
variable {α : Type} {P : Program} {w : World} {L : List HProp}
theorem r_apO {t e : TypeId} {z : Value} [hr : Row P t e z] (H : Holds w L) (i j : Nat) {f : α → Value} {oa : Option Addr} {xs ys : List α} {sp : List Value} {l c m c' b2 o2 : Nat} {cs : List Value} {ty : TypeId} {K : Value → World → Prop}
   (hi : L[i]? = some (slb f e oa xs sp)) (hj : L[j]? = some (blk b2 e cs)) (hcs : (cs.drop o2).take m = ys.map f) (hm : m = ys.length) (hl : l = xs.length) (hc : c = xs.length + sp.length) (hs : ∀ y, sg (f y) = true)
   (hn : xs.length + ys.length ≤ 1099511627776) (hne : 0 < ys.length)
   (h : ∀ oa' sp' w', Same w w' → Holds w' (L.set i (slb f e oa' (xs ++ ys) sp')) → K (.slice oa' (xs.length + ys.length) (xs.length + ys.length + sp'.length)) w') :
   Ap P #[t, t] ty #[.slice oa l c, .slice (some ⟨b2, o2, none⟩) m c'] w K := by
 subst hl hc hm; obtain ⟨inf, hinf, hsz, hby, hzz⟩ := hr.inf
 have hnews : ∀ k u, (ys.map f)[k]? = some u → w.cell? ((⟨b2, o2, none⟩ : Addr).add k) = some u := by
   intro k u hu
   have e1 : (⟨b2, o2, none⟩ : Addr).add k = ⟨b2, o2 + k, none⟩ := by
     unfold Addr.add; split
     · rename_i h; rw [h]; rfl
     · rfl
   rw [e1, H.cell j hj (o2 + k)]
   have hk : k < ys.length := by have := (List.getElem?_eq_some_iff.1 hu).1; simpa using this
   rw [← hu, ← hcs, List.getElem?_take_of_lt hk, List.getElem?_drop]
 have hmul : (xs.length + ys.length) * inf.bytes ≤ 140737488355328 :=
   Nat.le_trans (Nat.mul_le_mul_left _ hby) (by omega)
 have grow : ∀ (b : Addr) (olds : List Value), olds = xs.map f → (∀ k v, olds[k]? = some v → w.cell? (b.add k) = some v) → sp.length < ys.length →
     (∃ o, L[i]? = some o) → Ap P #[t, t] ty #[.slice (some b) xs.length (xs.length + sp.length), .slice (some ⟨b2, o2, none⟩) ys.length c'] w K := by
   intro b olds ho hold hg _; subst ho
   have hrun := run_append_grow (P := P) w t ty e inf z hr.und hinf hzz b xs.length (xs.length + sp.length) (xs.map f) (by simp [hsz]) hold
     ⟨b2, o2, none⟩ ys.length c' (ys.map f) (by simp [hsz]) hnews (by omega) (by omega) (growslice_fits (by omega) hmul)
   refine ⟨_, _, hrun, ?_⟩; have hcap := grownCap_ge w (xs.length + ys.length) (xs.length + sp.length) e; generalize grownCap w (xs.length + ys.length) (xs.length + sp.length) e = cap at hcap ⊢
   have hz2 : Builtin.zeroCells z.cells (cap - (xs.length + ys.length)) = (List.replicate (cap - (xs.length + ys.length)) z).toArray := by
     rw [hr.one]; apply Array.ext
     · simp [Builtin.zeroCells]
     · intro j h1 h2; simp [Builtin.zeroCells, Nat.mod_one]
   have hcells : ((xs.map f).toArray ++ (ys.map f).toArray ++ Builtin.zeroCells z.cells (cap - (xs.length + ys.length))) = ((xs ++ ys).map f ++ List.replicate (cap - (xs.length + ys.length)) z).toArray := by
     rw [hz2]; simp
   rw [hcells]; have H1 : Holds w.drew L := H.same rfl; have H2 := H1.alloc (.cells ((xs ++ ys).map f ++ List.replicate (cap - (xs.length + ys.length)) z).toArray e)
   have H3 : Holds (w.drew.alloc (.cells ((xs ++ ys).map f ++ List.replicate (cap - (xs.length + ys.length)) z).toArray e)) (L.set i (slb f e (some ⟨w.heap.size, 0, none⟩) (xs ++ ys) (List.replicate (cap - (xs.length + ys.length)) z))) := by
     -- the new block in the place of the old row
     have H4 := (Holds.imp H2 (Q := slb f e (some ⟨w.heap.size, 0, none⟩) (xs ++ ys) (List.replicate (cap - (xs.length + ys.length)) z)) fun g hg => ⟨rfl, rfl, hg⟩); have H5 := H4.dropAt (i + 1); rw [List.eraseIdx_cons_succ] at H5; exact Sat.push i hi H5
   have := h (some ⟨w.heap.size, 0, none⟩) (List.replicate (cap - (xs.length + ys.length)) z) _ ((Same.drew w).trans (.alloc _ _)) H3
   have hc2 : xs.length + ys.length + (List.replicate (cap - (xs.length + ys.length)) z).length = cap := by simp; omega
   rw [hc2] at this; exact this
 cases oa with
 | none =>
   obtain ⟨g, ⟨h2, h3⟩, _⟩ := H.front i hi; subst h2; subst h3; simp only [List.length_nil, Nat.zero_add, List.nil_append] at hn hmul h ⊢; have hrun := run_append_nil (P := P) w t ty e inf z hr.und hinf hzz ⟨b2, o2, none⟩ ys.length c' (ys.map f) (by simp [hsz]) hnews (by omega) (by omega) (by omega); refine ⟨_, _, hrun, ?_⟩; have hcap := grownCap_ge w ys.length 0 e; generalize grownCap w ys.length 0 e = cap at hcap ⊢
   have hz2 : Builtin.zeroCells z.cells (cap - ys.length) = (List.replicate (cap - ys.length) z).toArray := by
     rw [hr.one]; apply Array.ext
     · simp [Builtin.zeroCells]
     · intro j h1 h2; simp [Builtin.zeroCells, Nat.mod_one]
   have hcells : ((ys.map f).toArray ++ Builtin.zeroCells z.cells (cap - ys.length)) = (ys.map f ++ List.replicate (cap - ys.length) z).toArray := by
     rw [hz2]; simp
   rw [hcells]; have H2 := (H.same (w' := w.drew) rfl).alloc (.cells (ys.map f ++ List.replicate (cap - ys.length) z).toArray e); have H4 := (Holds.imp H2 (Q := slb f e (some ⟨w.heap.size, 0, none⟩) ys (List.replicate (cap - ys.length) z)) fun g hg => ⟨rfl, rfl, hg⟩); have H5 := H4.dropAt (i + 1); rw [List.eraseIdx_cons_succ] at H5; have := h (some ⟨w.heap.size, 0, none⟩) (List.replicate (cap - ys.length) z) _ ((Same.drew w).trans (.alloc _ _)) (Sat.push i hi H5)
   have hc2 : ys.length + (List.replicate (cap - ys.length) z).length = cap := by simp; omega
   rw [hc2] at this; exact this
 | some a =>
   obtain ⟨g, ⟨h2, h3, _⟩, _⟩ := H.front i hi; obtain ⟨b, o, s⟩ := a; simp only at h2 h3; subst h2; subst h3; have Hb := H.slb i hi; have hgi : (L.set i (blk b e (xs.map f ++ sp)))[i]? = some (blk b e (xs.map f ++ sp)) := set_get hi
   have hold : ∀ k v, (xs.map f)[k]? = some v → w.cell? ((⟨b, 0, none⟩ : Addr).add k) = some v := by
     intro k v hv
     have e1 : (⟨b, 0, none⟩ : Addr).add k = ⟨b, k, none⟩ := by
       unfold Addr.add; split
       · rename_i h; rw [h]
       · simp
     rw [e1, Hb.cell i hgi k, List.getElem?_append_left (by simpa using (List.getElem?_eq_some_iff.1 hv).1)]; exact hv
   rcases Nat.lt_or_ge sp.length ys.length with hg | hg
   · exact grow ⟨b, 0, none⟩ _ rfl hold hg ⟨_, hi⟩
   · have hobj := Hb.obj i hgi
     have hrun := run_append_room (P := P) w t ty e inf hr.und hinf b xs.length (xs.length + sp.length) (xs.map f ++ sp).toArray hobj
       ⟨b2, o2, none⟩ ys.length c' (ys.map f) (by simp [hsz]) hnews (by simpa using fun y _ => sg_one (hs y)) (by omega) (by simp [hsz]; omega)
     refine ⟨_, _, hrun, ?_⟩
     have hcells : (((xs.map f ++ sp).toArray.toList.take (xs.length * inf.size) ++ ys.map f ++ (xs.map f ++ sp).toArray.toList.drop (xs.length * inf.size + (ys.map f).length)).toArray) = ((xs ++ ys).map f ++ sp.drop ys.length).toArray := by
       rw [hsz]; simp [List.take_append, List.drop_append]
     rw [hcells]
     have H3 : Holds (w.setRow b ((xs ++ ys).map f ++ sp.drop ys.length).toArray) (L.set i (slb f e (some ⟨b, 0, none⟩) (xs ++ ys) (sp.drop ys.length))) := by
       have := Hb.upd (w' := w.setRow b ((xs ++ ys).map f ++ sp.drop ys.length).toArray) i hgi (o' := .cells ((xs ++ ys).map f ++ sp.drop ys.length).toArray e) (setRow_heap w b _ _ e _ hobj) fun c hc => setRow_other w b c _ hc; have h4 := Holds.slb' (f := f) (e := e) (b := b) (xs := xs ++ ys) (sp := sp.drop ys.length) this i (by rw [List.set_set]; exact set_get hi); simpa [List.set_set] using h4
     have hlen : xs.length + sp.length = xs.length + ys.length + (sp.drop ys.length).length := by simp; omega
     rw [hlen]; exact h _ _ _ ⟨rfl, rfl, rfl, by simp⟩ H3
end
end Go.Vc
namespace Go.Mh
def lt (W : List Nat) (x y : Nat) : Prop := W.getD x 0 < W.getD y 0 ∨ (W.getD x 0 = W.getD y 0 ∧ x < y)
instance (W : List Nat) (x y : Nat) : Decidable (lt W x y) := inferInstanceAs (Decidable (_ ∨ _))
theorem lt_asymm {W : List Nat} {x y : Nat} (h : lt W x y) : ¬ lt W y x := by unfold lt at *; omega
theorem lt_trans {W : List Nat} {x y z : Nat} (h : lt W x y) (h2 : lt W y z) : lt W x z := by unfold lt at *; omega
theorem lt_total {W : List Nat} {x y : Nat} (h : x ≠ y) : lt W x y ∨ lt W y x := by unfold lt; omega
def IsLeast (W V : List Nat) (x : Nat) : Prop := x ∈ V ∧ ∀ y ∈ V, y ≠ x → lt W x y
theorem IsLeast.uniq {W V : List Nat} {x y : Nat} (h : IsLeast W V x) (h2 : IsLeast W V y) : x = y :=
 Classical.byContradiction fun hne => lt_asymm (h.2 y h2.1 fun e => hne e.symm) (h2.2 x h.1 hne)
theorem IsLeast.perm {W V V' : List Nat} {x : Nat} (h : IsLeast W V x) (p : V.Perm V') : IsLeast W V' x :=
 ⟨p.mem_iff.1 h.1, fun y hy => h.2 y (p.mem_iff.2 hy)⟩
structure HS where
 W : List Nat
 I : List (Option Nat)
 V : List Nat
def h0 (w : List Nat) : HS := ⟨w, List.replicate w.length none, List.range w.length⟩
structure Join (s s' : HS) (a b : Nat) : Prop where
 la : IsLeast s.W s.V a
 lb : IsLeast s.W (s.V.erase a) b
 W : s'.W = s.W ++ [s.W.getD a 0 + s.W.getD b 0]
 I : s'.I = ((s.I.set a (some s.W.length)).set b (some s.W.length)) ++ [none]
 V : s'.V.Perm (s.W.length :: (s.V.erase a).erase b)
inductive Joins (s0 : HS) : Nat → HS → Prop
 | start : Joins s0 0 s0
 | next {k : Nat} {s s' : HS} {a b : Nat} (h : Joins s0 k s) (j : Join s s' a b) : Joins s0 (k + 1) s'
theorem Joins.det {s0 : HS} {k : Nat} {s : HS} (h : Joins s0 k s) : ∀ {s2 : HS}, Joins s0 k s2 → s.W = s2.W ∧ s.I = s2.I ∧ s.V.Perm s2.V := by
 induction h with
 | start => intro s2 h2; cases h2; exact ⟨rfl, rfl, .refl _⟩
 | next h j ih =>
   intro s2 h2
   cases h2 with
   | next h' j' =>
     obtain ⟨hW, hI, hV⟩ := ih h'; have ha := (j.la.perm hV); rw [hW] at ha; obtain rfl := ha.uniq j'.la; have hb := (j.lb.perm (hV.erase _)); rw [hW] at hb; obtain rfl := hb.uniq j'.lb; refine ⟨by rw [j.W, j'.W, hW], by rw [j.I, j'.I, hI, hW], ?_⟩; refine j.V.trans (.trans ?_ j'.V.symm); rw [hW]; exact .cons _ ((hV.erase _).erase _)
structure Good (s : HS) : Prop where
 nodup : s.V.Nodup
 lt : ∀ x ∈ s.V, x < s.W.length
 len : s.I.length = s.W.length
 live : ∀ x ∈ s.V, s.I[x]? = some none
 dead : ∀ x, x < s.W.length → x ∉ s.V → ∃ p, s.I[x]? = some (some p) ∧ x < p ∧ p < s.W.length
theorem good0 (w : List Nat) : Good (h0 w) :=
 ⟨List.nodup_range, fun x hx => List.mem_range.1 hx, by simp [h0], fun x hx => by
   have := List.mem_range.1 hx
   simp [h0, this], fun x hx hn => absurd (List.mem_range.2 hx) hn⟩
theorem join_ne {s s' : HS} {a b : Nat} (hg : Good s) (j : Join s s' a b) : a ≠ b := by
 rintro rfl; exact (List.Nodup.not_mem_erase hg.nodup) j.lb.1
theorem join_good {s s' : HS} {a b : Nat} (hg : Good s) (j : Join s s' a b) : Good s' ∧ s'.V.length + 1 = s.V.length ∧ s'.W.length = s.W.length + 1 := by
 have hne := join_ne hg j; have ha := hg.lt a j.la.1; have hbm : b ∈ s.V := List.mem_of_mem_erase j.lb.1; have hb := hg.lt b hbm; have hn2 : ((s.V.erase a).erase b).Nodup := (hg.nodup.erase a).erase b
 have hmem : ∀ x, x ∈ (s.V.erase a).erase b ↔ x ∈ s.V ∧ x ≠ a ∧ x ≠ b := by
   intro x; rw [(hg.nodup.erase a).mem_erase_iff, hg.nodup.mem_erase_iff]
   constructor
   · rintro ⟨h1, h2, h3⟩; exact ⟨h3, h2, h1⟩
   · rintro ⟨h1, h2, h3⟩; exact ⟨h3, h2, h1⟩
 have hWl : s'.W.length = s.W.length + 1 := by rw [j.W]; simp
 have hIl : ((s.I.set a (some s.W.length)).set b (some s.W.length)).length = s.W.length := by rw [List.length_set, List.length_set, hg.len]
 have hget : ∀ x, x < s.W.length → s'.I[x]? = if x = b then some (some s.W.length) else if x = a then some (some s.W.length) else s.I[x]? := by
   intro x hx; rw [j.I, List.getElem?_append_left (by rw [hIl]; exact hx), List.getElem?_set, List.getElem?_set]
   by_cases h1 : x = b
   · subst h1; rw [if_pos rfl, if_pos rfl, if_pos (by rw [List.length_set, hg.len]; exact hx)]
   · rw [if_neg (fun e : b = x => h1 e.symm), if_neg h1]
     by_cases h2 : x = a
     · subst h2; rw [if_pos rfl, if_pos rfl, if_pos (by rw [hg.len]; exact hx)]
     · rw [if_neg (fun e : a = x => h2 e.symm), if_neg h2]
 have hV : ∀ x, x ∈ s'.V ↔ x = s.W.length ∨ (x ∈ s.V ∧ x ≠ a ∧ x ≠ b) := by
   intro x; rw [j.V.mem_iff, List.mem_cons, hmem]
 refine ⟨⟨?_, ?_, ?_, ?_, ?_⟩, ?_, hWl⟩
 · rw [j.V.nodup_iff, List.nodup_cons]; exact ⟨fun h => by have := hg.lt _ ((hmem _).1 h).1; omega, hn2⟩
 · intro x hx; rw [hWl]; rcases (hV x).1 hx with h | h
   · omega
   · have := hg.lt x h.1; omega
 · rw [j.I, List.length_append, hIl, hWl]; rfl
 · intro x hx; rcases (hV x).1 hx with h | ⟨h, h1, h2⟩
   · subst h; rw [j.I, List.getElem?_append_right (by rw [hIl]; exact Nat.le_refl _), hIl, Nat.sub_self]; rfl
   · rw [hget x (hg.lt x h), if_neg h2, if_neg h1]; exact hg.live x h
 · intro x hx hn; rw [hWl] at hx ⊢; have hxn : x ≠ s.W.length := fun e => hn ((hV x).2 (.inl e))
   have hx' : x < s.W.length := by omega
   rw [hget x hx']
   by_cases h1 : x = b
   · rw [if_pos h1]; exact ⟨_, rfl, by omega, by omega⟩
   · rw [if_neg h1]
     by_cases h2 : x = a
     · rw [if_pos h2]; exact ⟨_, rfl, by omega, by omega⟩
     · rw [if_neg h2]; obtain ⟨p, h3, h4, h5⟩ := hg.dead x hx' fun h => hn ((hV x).2 (.inr ⟨h, h2, h1⟩)); exact ⟨p, h3, h4, by omega⟩
 · have := j.V.length_eq; rw [this, List.length_cons, List.length_erase_of_mem j.lb.1, List.length_erase_of_mem j.la.1]; have h1 := List.length_pos_of_mem j.la.1; have h2 := List.length_pos_of_mem j.lb.1; rw [List.length_erase_of_mem j.la.1] at h2; omega
theorem joins_good {w : List Nat} {k : Nat} {s : HS} (h : Joins (h0 w) k s) : Good s ∧ s.V.length + k = w.length ∧ s.W.length = w.length + k := by
 induction h with
 | start => exact ⟨good0 w, by simp [h0], rfl⟩
 | next h j ih =>
   obtain ⟨h1, h2, h3⟩ := join_good ih.1 j; exact ⟨h1, by omega, by omega⟩
inductive Up (I : List (Option Nat)) : Nat → Nat → Nat → Prop
 | here (x : Nat) : Up I x 0 x
 | up {x p k y : Nat} (h : I[x]? = some (some p)) (u : Up I p k y) : Up I x (k + 1) y
theorem Up.uniq {I : List (Option Nat)} {x k y : Nat} (hy : ∀ p, I[y]? ≠ some (some p)) (h : Up I x k y) : ∀ {k2 : Nat}, Up I x k2 y → k = k2 := by
 induction h with
 | here x =>
   intro k2 h2
   cases h2 with
   | here => rfl
   | up h u => exact absurd h (hy _)
 | up h u ih =>
   intro k2 h2
   cases h2 with
   | here => exact absurd h (hy _)
   | up h' u' =>
     rw [h] at h'; cases h'; rw [ih hy u']
theorem Up.snoc {I : List (Option Nat)} {x k y p : Nat} (h : Up I x k y) (hp : I[y]? = some (some p)) : Up I x (k + 1) p := by
 induction h with
 | here x => exact .up hp (.here _)
 | up h u ih => exact .up h (ih hp)
theorem Up.join {s s' : HS} {a b x k y : Nat} (hg : Good s) (j : Join s s' a b) (h : Up s.I x k y) : Up s'.I x k y := by
 induction h with
 | here x => exact .here x
 | up h u ih =>
   rename_i x p k y; refine .up ?_ ih
   have hx : x < s.W.length := by
     have := (List.getElem?_eq_some_iff.1 h).1; rw [hg.len] at this; exact this
   have h1 : x ≠ a := by
     rintro rfl; rw [hg.live _ j.la.1] at h; cases h
   have h2 : x ≠ b := by
     rintro rfl; rw [hg.live _ (List.mem_of_mem_erase j.lb.1)] at h; cases h
   rw [j.I, List.getElem?_append_left (by rw [List.length_set, List.length_set, hg.len]; exact hx), List.getElem?_set, List.getElem?_set, if_neg (fun e => h2 e.symm), if_neg (fun e => h1 e.symm)]; exact h
def Depths (w out : List Nat) : Prop := ∃ s r, Joins (h0 w) (w.length - 1) s ∧ s.V = [r] ∧ out.length = w.length ∧ ∀ i, i < w.length → Up s.I i (out.getD i 0) r
theorem Depths.uniq {w out out2 : List Nat} (h : Depths w out) (h2 : Depths w out2) : out = out2 := by
 obtain ⟨s, r, hj, hr, hl, hu⟩ := h; obtain ⟨s2, r2, hj2, hr2, hl2, hu2⟩ := h2; obtain ⟨hW, hI, hV⟩ := hj.det hj2; rw [hr, hr2] at hV
 have hrr : r = r2 := by have := hV.mem_iff.1 (List.mem_singleton.2 rfl); exact List.mem_singleton.1 this
 subst hrr; have hg := (joins_good hj).1
 have hroot : ∀ p, s.I[r]? ≠ some (some p) := fun p e => by rw [hg.live r (by rw [hr]; exact List.mem_singleton.2 rfl)] at e; cases e
 apply List.ext_getElem (by omega); intro i h3 h4; have h5 := hu i (by omega); have h6 := hu2 i (by omega); rw [← hI] at h6; have := h5.uniq hroot h6; rw [List.getD_eq_getElem?_getD, List.getElem?_eq_getElem h3, List.getD_eq_getElem?_getD, List.getElem?_eq_getElem h4] at this; exact this
structure Queue (n : Nat) (s : HS) (lf : List Nat) (j : Nat) : Prop where
 perm : s.V.Perm (lf ++ List.range' j (s.W.length - j))
 jn : n ≤ j ∧ j ≤ s.W.length
 lfn : ∀ x ∈ lf, x < n
 sorted : lf.Pairwise (lt s.W)
 mono : ∀ x y, n ≤ x → x ≤ y → y < s.W.length → s.W.getD x 0 ≤ s.W.getD y 0
 sum : ∀ x ∈ s.V, ∀ y ∈ s.V, x ≠ y → ∀ c, n ≤ c → c < s.W.length → s.W.getD c 0 ≤ s.W.getD x 0 + s.W.getD y 0
def head (W lf : List Nat) (j : Nat) : Nat := match lf with
 | [] => j
 | x :: _ => if j = W.length ∨ W.getD x 0 ≤ W.getD j 0 then x else j
def tail1 (W lf : List Nat) (j : Nat) : List Nat := match lf with
 | [] => []
 | x :: l => if j = W.length ∨ W.getD x 0 ≤ W.getD j 0 then l else x :: l
def tail2 (W lf : List Nat) (j : Nat) : Nat := match lf with
 | [] => j + 1
 | x :: l => if j = W.length ∨ W.getD x 0 ≤ W.getD j 0 then j else j + 1
theorem head_least {W lf : List Nat} {n j : Nat} (hj : n ≤ j ∧ j ≤ W.length) (hl : ∀ x ∈ lf, x < n) (hs : lf.Pairwise (lt W)) (hm : ∀ x y, n ≤ x → x ≤ y → y < W.length → W.getD x 0 ≤ W.getD y 0)
   (hne : lf ++ List.range' j (W.length - j) ≠ []) :
   IsLeast W (lf ++ List.range' j (W.length - j)) (head W lf j) ∧ ((lf ++ List.range' j (W.length - j)).erase (head W lf j)).Perm (tail1 W lf j ++ List.range' (tail2 W lf j) (W.length - tail2 W lf j)) ∧
     (n ≤ tail2 W lf j ∧ tail2 W lf j ≤ W.length) ∧ (∀ x ∈ tail1 W lf j, x < n) ∧ (tail1 W lf j).Pairwise (lt W) := by
 have hjl : ∀ y, y ∈ List.range' j (W.length - j) → j ≤ y ∧ y < W.length := fun y hy => by
   have := List.mem_range'_1.1 hy; omega
 have jless : j < W.length → ∀ y, y ∈ List.range' j (W.length - j) → y ≠ j → lt W j y := fun h y hy hyj => by
   have h1 := hjl y hy; have h2 := hm j y hj.1 h1.1 h1.2; unfold lt; omega
 have split : j < W.length → List.range' j (W.length - j) = j :: List.range' (j + 1) (W.length - (j + 1)) := fun h => by
   rw [show W.length - j = (W.length - (j + 1)) + 1 by omega, List.range'_succ]
 cases lf with
 | nil =>
   have hlt : j < W.length := by
     rcases Nat.lt_or_ge j W.length with h | h
     · exact h
     · rw [show W.length - j = 0 by omega] at hne; exact absurd rfl hne
   simp only [head, tail1, tail2, List.nil_append]; rw [split hlt]; refine ⟨⟨List.mem_cons_self .., fun y hy hyj => ?_⟩, ?_, by omega, by simp, by simp⟩
   · rw [← split hlt] at hy; exact jless hlt y hy hyj
   · rw [List.erase_cons_head]
 | cons x l =>
   have hx := hl x (List.mem_cons_self ..); have hxl := (List.pairwise_cons.1 hs); simp only [head, tail1, tail2]
   by_cases hc : j = W.length ∨ W.getD x 0 ≤ W.getD j 0
   · rw [if_pos hc, if_pos hc, if_pos hc]; refine ⟨⟨by simp, fun y hy hyx => ?_⟩, ?_, hj, fun y hy => hl y (List.mem_cons_of_mem _ hy), hxl.2⟩
     · rcases List.mem_append.1 hy with hy | hy
       · rcases List.mem_cons.1 hy with hy | hy
         · exact absurd hy hyx
         · exact hxl.1 y hy
       · have h1 := hjl y hy; have h2 := hm j y hj.1 h1.1 h1.2; unfold lt; omega
     · rw [List.cons_append, List.erase_cons_head]
   · rw [if_neg hc, if_neg hc, if_neg hc]
     have hlt : j < W.length := by omega
     have hlj : lt W j x := by unfold lt; omega
     have hnj : j ∉ x :: l := fun h => by have := hl j h; omega
     refine ⟨⟨?_, fun y hy hyx => ?_⟩, ?_, by omega, hl, hs⟩
     · rw [split hlt]; simp
     · rcases List.mem_append.1 hy with hy | hy
       · rcases List.mem_cons.1 hy with hy | hy
         · rw [hy]; exact hlj
         · exact lt_trans hlj (hxl.1 y hy)
       · exact jless hlt y hy hyx
     · rw [List.erase_append_right _ hnj, split hlt, List.erase_cons_head]
theorem getD_app {W : List Nat} {v x : Nat} (h : x < W.length) : (W ++ [v]).getD x 0 = W.getD x 0 := by
 rw [List.getD_eq_getElem?_getD, List.getD_eq_getElem?_getD, List.getElem?_append_left h]
theorem getD_end {W : List Nat} {v : Nat} : (W ++ [v]).getD W.length 0 = v := by
 rw [List.getD_eq_getElem?_getD, List.getElem?_append_right (Nat.le_refl _), Nat.sub_self]; rfl
theorem lt_app {W : List Nat} {v x y : Nat} (hx : x < W.length) (hy : y < W.length) : lt (W ++ [v]) x y ↔ lt W x y := by
 unfold lt; rw [getD_app hx, getD_app hy]
theorem queue_join {n : Nat} {s : HS} {lf : List Nat} {j : Nat} (hg : Good s) (hq : Queue n s lf j) (h2 : 2 ≤ s.V.length) :
   ∃ s' a b, a = head s.W lf j ∧ b = head s.W (tail1 s.W lf j) (tail2 s.W lf j) ∧ Join s s' a b ∧
     Queue n s' (tail1 s.W (tail1 s.W lf j) (tail2 s.W lf j)) (tail2 s.W (tail1 s.W lf j) (tail2 s.W lf j)) ∧ a < s.W.length ∧ b < s.W.length ∧ a ≠ b := by
 have hlen := hq.perm.length_eq; obtain ⟨a1, a2, a3, a4, a5⟩ := head_least hq.jn hq.lfn hq.sorted hq.mono (by intro e; rw [e, List.length_nil] at hlen; omega); generalize ha : head s.W lf j = a at *; have hp1 : (s.V.erase a).Perm (tail1 s.W lf j ++ List.range' (tail2 s.W lf j) (s.W.length - tail2 s.W lf j)) := (hq.perm.erase a).trans a2; have ham : a ∈ s.V := hq.perm.mem_iff.2 a1.1; have hlen1 := hp1.length_eq; rw [List.length_erase_of_mem ham] at hlen1; generalize tail1 s.W lf j = lf1 at *; generalize tail2 s.W lf j = j1 at *; obtain ⟨b1, b2, b3, b4, b5⟩ := head_least a3 a4 a5 hq.mono (by intro e; rw [e, List.length_nil] at hlen1; omega); generalize hb : head s.W lf1 j1 = b at *; generalize tail1 s.W lf1 j1 = lf2 at *; generalize tail2 s.W lf1 j1 = j2 at *; have hbm : b ∈ s.V.erase a := hp1.mem_iff.2 b1.1; have hbv : b ∈ s.V := List.mem_of_mem_erase hbm; have hal := hg.lt a ham; have hbl := hg.lt b hbv; have hlb : IsLeast s.W (s.V.erase a) b := b1.perm hp1.symm; have hla : IsLeast s.W s.V a := a1.perm hq.perm.symm
 have j0 : Join s ⟨s.W ++ [s.W.getD a 0 + s.W.getD b 0], ((s.I.set a (some s.W.length)).set b (some s.W.length)) ++ [none], s.W.length :: (s.V.erase a).erase b⟩ a b :=
   ⟨hla, hlb, rfl, rfl, .refl _⟩
 have hne := join_ne hg j0
 have hnW : n ≤ s.W.length := by have := hq.jn; omega
 have hmem : ∀ x, x ∈ (s.V.erase a).erase b ↔ x ∈ s.V ∧ x ≠ a ∧ x ≠ b := by
   intro x; rw [(hg.nodup.erase a).mem_erase_iff, hg.nodup.mem_erase_iff]
   constructor
   · rintro ⟨h1, h2, h3⟩; exact ⟨h3, h2, h1⟩
   · rintro ⟨h1, h2, h3⟩; exact ⟨h3, h2, h1⟩
 have big : ∀ x, x ∈ s.V → x ≠ a → x ≠ b → s.W.getD b 0 ≤ s.W.getD x 0 := by
   intro x hx h1 h3; have := hlb.2 x ((hg.nodup.mem_erase_iff).2 ⟨h1, hx⟩) h3; unfold lt at this; omega
 have hab : s.W.getD a 0 ≤ s.W.getD b 0 := by
   have := hla.2 b hbv fun e => hne e.symm; unfold lt at this; omega
 refine ⟨_, a, b, rfl, rfl, j0, ⟨?_, ?_, b4, ?_, ?_, ?_⟩, hal, hbl, hne⟩
 · -- the queue
   show (s.W.length :: (s.V.erase a).erase b).Perm (lf2 ++ List.range' j2 ((s.W ++ [_]).length - j2)); have hp2 : ((s.V.erase a).erase b).Perm (lf2 ++ List.range' j2 (s.W.length - j2)) := (hp1.erase b).trans b2; rw [List.length_append, List.length_singleton, show s.W.length + 1 - j2 = (s.W.length - j2) + 1 by omega, List.range'_concat, show j2 + 1 * (s.W.length - j2) = s.W.length by omega, ← List.append_assoc]; exact (hp2.cons _).trans (List.perm_append_singleton _ _).symm
 · show n ≤ j2 ∧ j2 ≤ (s.W ++ [_]).length; rw [List.length_append]; omega
 · refine b5.imp_of_mem fun {x y} hx hy h => ?_; exact (lt_app (by have := b4 x hx; omega) (by have := b4 y hy; omega)).2 h
 · intro x y hx hxy hy; rw [List.length_append, List.length_singleton] at hy; rcases Nat.lt_or_ge y s.W.length with h | h
   · rw [getD_app (by omega), getD_app h]; exact hq.mono x y hx hxy h
   · have : y = s.W.length := by omega
     subst this; rw [getD_end]; rcases Nat.lt_or_ge x s.W.length with h3 | h3
     · rw [getD_app h3]; exact hq.sum a ham b hbv hne x hx h3
     · rw [show x = s.W.length by omega, getD_end]; exact Nat.le_refl _
 · intro x hx y hy hxy c hc1 hc2; rw [List.length_append, List.length_singleton] at hc2
   have hcw : (s.W ++ [s.W.getD a 0 + s.W.getD b 0]).getD c 0 ≤ s.W.getD a 0 + s.W.getD b 0 := by
     rcases Nat.lt_or_ge c s.W.length with h | h
     · rw [getD_app h]; exact hq.sum a ham b hbv hne c hc1 h
     · rw [show c = s.W.length by omega, getD_end]; exact Nat.le_refl _
   refine Nat.le_trans hcw ?_; rcases List.mem_cons.1 hx with hx | hx
   · rw [hx, getD_end]; exact Nat.le_add_right _ _
   · rcases List.mem_cons.1 hy with hy | hy
     · rw [hy, getD_end]; exact Nat.le_add_left _ _
     · obtain ⟨x1, x2, x3⟩ := (hmem x).1 hx; obtain ⟨y1, y2, y3⟩ := (hmem y).1 hy; rw [getD_app (hg.lt x x1), getD_app (hg.lt y y1)]; have := big x x1 x2 x3; have := big y y1 y2 y3; omega
theorem depth_up {s : HS} {r : Nat} {D : List Nat} (hg : Good s) (hV : s.V = [r]) (hD0 : D.getD r 0 = 0) (hD : ∀ i p, s.I[i]? = some (some p) → D.getD i 0 = D.getD p 0 + 1) :
   ∀ m i, s.W.length - i ≤ m → i < s.W.length → Up s.I i (D.getD i 0) r := by
 intro m
 induction m with
 | zero => intro i h1 h2; omega
 | succ m ih =>
   intro i h1 h2
   by_cases hi : i = r
   · subst hi; rw [hD0]; exact .here _
   · obtain ⟨p, h3, h4, h5⟩ := hg.dead i h2 (by rw [hV]; simpa using hi); rw [hD i p h3]; exact .up h3 (ih p (by omega) h5)
def incL (out ls : List Nat) : List Nat := ls.foldl (fun o i => o.set i (o.getD i 0 + 1)) out
theorem incL_len : ∀ (ls out : List Nat), (incL out ls).length = out.length
 | [], out => rfl
 | i :: ls, out => by
   show (incL (out.set i (out.getD i 0 + 1)) ls).length = _; rw [incL_len ls, List.length_set]
theorem incL_get : ∀ (ls out : List Nat) (i : Nat), ls.Nodup → (∀ x ∈ ls, x < out.length) → (incL out ls).getD i 0 = out.getD i 0 + if i ∈ ls then 1 else 0
 | [], out, i, _, _ => by simp [incL]
 | x :: ls, out, i, hn, hl => by
   have hx := hl x (List.mem_cons_self ..); obtain ⟨h1, h2⟩ := List.nodup_cons.1 hn; show (incL (out.set x (out.getD x 0 + 1)) ls).getD i 0 = _; rw [incL_get ls _ i h2 (fun y hy => by rw [List.length_set]; exact hl y (List.mem_cons_of_mem _ hy))]
   by_cases hi : i = x
   · subst hi; rw [if_neg h1, if_pos (List.mem_cons_self ..), List.getD_eq_getElem?_getD, List.getElem?_set_self hx]; rfl
   · have e : (out.set x (out.getD x 0 + 1)).getD i 0 = out.getD i 0 := by
       rw [List.getD_eq_getElem?_getD, List.getElem?_set_ne (fun e => hi e.symm), ← List.getD_eq_getElem?_getD]
     rw [e]; simp [hi]
structure Forest (n : Nat) (s : HS) (l : List (Nat × List Nat)) (out : List Nat) : Prop where
 perm : (l.map (·.1)).Perm s.V
 leaves : (l.flatMap (·.2)).Perm (List.range n)
 up : ∀ t ∈ l, ∀ i ∈ t.2, Up s.I i (out.getD i 0) t.1
 len : out.length = n
theorem forest0 (w : List Nat) : Forest w.length (h0 w) ((List.range w.length).map fun i => (i, [i])) (List.replicate w.length 0) := by
 refine ⟨?_, ?_, ?_, by simp⟩
 · rw [List.map_map]
   have : (List.range w.length).map ((fun t : Nat × List Nat => t.1) ∘ fun i => (i, [i])) = List.range w.length := by
     rw [show ((fun t : Nat × List Nat => t.1) ∘ fun i => (i, [i])) = id from rfl, List.map_id]
   rw [this]; exact .refl _
 · rw [List.flatMap_map]; rw [show (fun i : Nat => ((i, [i]) : Nat × List Nat).2) = fun i => [i] from rfl, List.flatMap_singleton']
 · intro t ht i hi; obtain ⟨x, hx, rfl⟩ := List.mem_map.1 ht
   have : i = x := by simpa using hi
   subst this; have hx := List.mem_range.1 hx; rw [List.getD_eq_getElem?_getD, List.getElem?_replicate, if_pos hx]; exact .here _
theorem forest_join {n : Nat} {s s' : HS} {l l1 l2 : List (Nat × List Nat)} {out : List Nat} {x y : Nat × List Nat} (hg : Good s) (hf : Forest n s l out) (h1 : l.Perm (x :: l1)) (h2 : l1.Perm (y :: l2)) (j : Join s s' x.1 y.1) :
   Forest n s' (l2 ++ [(s.W.length, x.2 ++ y.2)]) (incL out (x.2 ++ y.2)) := by
 have hp : l.Perm (x :: y :: l2) := h1.trans (h2.cons _)
 have hfl : (x.2 ++ (y.2 ++ l2.flatMap (·.2))).Perm (List.range n) := by
   refine List.Perm.trans ?_ hf.leaves; have := (hp.flatMap_right (·.2)).symm; simpa using this
 have hnd : (x.2 ++ (y.2 ++ l2.flatMap (·.2))).Nodup := hfl.nodup_iff.2 List.nodup_range
 have hnd2 : (x.2 ++ y.2).Nodup := by
   rw [← List.append_assoc] at hnd; exact (List.nodup_append.1 hnd).1
 have hlt : ∀ i ∈ x.2 ++ y.2, i < out.length := fun i hi => by
   rw [hf.len]
   have : i ∈ List.range n := hfl.mem_iff.1 (by
     rw [← List.append_assoc]
     exact List.mem_append_left _ hi)
   exact List.mem_range.1 this
 have hxm : x ∈ l := hp.mem_iff.2 (List.mem_cons_self ..); have hym : y ∈ l := hp.mem_iff.2 (List.mem_cons_of_mem _ (List.mem_cons_self ..)); have hne := join_ne hg j; have hbm := List.mem_of_mem_erase j.lb.1
 have hIx : s'.I[x.1]? = some (some s.W.length) := by
   have hx := hg.lt _ j.la.1; rw [j.I, List.getElem?_append_left (by rw [List.length_set, List.length_set, hg.len]; exact hx), List.getElem?_set_ne (fun e => hne e.symm), List.getElem?_set_self (by rw [hg.len]; exact hx)]
 have hIy : s'.I[y.1]? = some (some s.W.length) := by
   have hy := hg.lt _ hbm; rw [j.I, List.getElem?_append_left (by rw [List.length_set, List.length_set, hg.len]; exact hy), List.getElem?_set_self (by rw [List.length_set, hg.len]; exact hy)]
 refine ⟨?_, ?_, ?_, by rw [incL_len, hf.len]⟩
 · rw [List.map_append, List.map_cons, List.map_nil]; refine List.Perm.trans (List.perm_append_singleton _ _) (List.Perm.trans ?_ j.V.symm); refine .cons _ ?_; have h3 : (x.1 :: y.1 :: l2.map (·.1)).Perm s.V := (by simpa using (hp.map (·.1)).symm : (x.1 :: y.1 :: l2.map (·.1)).Perm (l.map (·.1))).trans hf.perm; have h4 := (h3.erase x.1).erase y.1; rw [List.erase_cons_head, List.erase_cons_head] at h4; exact h4
 · rw [List.flatMap_append]; simp only [List.flatMap_cons, List.flatMap_nil, List.append_nil]; refine List.Perm.trans List.perm_append_comm ?_; rw [List.append_assoc]; exact hfl
 · intro t ht i hi; rw [incL_get _ _ _ hnd2 hlt]; rcases List.mem_append.1 ht with ht | ht
   · have hni : i ∉ x.2 ++ y.2 := by
       intro h; rw [← List.append_assoc] at hnd; exact (List.nodup_append.1 hnd).2.2 i h i (List.mem_flatMap.2 ⟨t, ht, hi⟩) rfl
     rw [if_neg hni, Nat.add_zero]; have htl : t ∈ l := hp.mem_iff.2 (List.mem_cons_of_mem _ (List.mem_cons_of_mem _ ht)); exact (hf.up t htl i hi).join hg j
   · have e := List.mem_singleton.1 ht; subst e; rw [if_pos hi]; rcases List.mem_append.1 hi with h | h
     · exact ((hf.up x hxm i h).join hg j).snoc hIx
     · exact ((hf.up y hym i h).join hg j).snoc hIy
def Tot (s : HS) : Nat := (s.V.map fun x => s.W.getD x 0).sum
theorem sum_perm {l l2 : List Nat} (p : l.Perm l2) : l.sum = l2.sum := by
 induction p with
 | nil => rfl
 | cons x _ ih => rw [List.sum_cons, List.sum_cons, ih]
 | swap x y l => rw [List.sum_cons, List.sum_cons, List.sum_cons, List.sum_cons]; omega
 | trans _ _ h1 h2 => rw [h1, h2]
theorem tot_two {s : HS} {a b : Nat} (ha : a ∈ s.V) (hb : b ∈ s.V.erase a) : Tot s = s.W.getD a 0 + s.W.getD b 0 + (((s.V.erase a).erase b).map fun x => s.W.getD x 0).sum := by
 unfold Tot; rw [sum_perm ((List.perm_cons_erase ha).map _), List.map_cons, List.sum_cons, sum_perm ((List.perm_cons_erase hb).map _), List.map_cons, List.sum_cons]; omega
theorem tot_join {s s' : HS} {a b : Nat} (hg : Good s) (j : Join s s' a b) : Tot s' = Tot s := by
 rw [tot_two j.la.1 j.lb.1]; unfold Tot; rw [sum_perm (j.V.map _), List.map_cons, List.sum_cons, j.W, getD_end]
 congr 1
 congr 1
 refine List.map_congr_left fun x hx => getD_app (hg.lt x ?_); exact List.mem_of_mem_erase (List.mem_of_mem_erase hx)
theorem tot0 {w : List Nat} {m : Nat} (h : ∀ x ∈ w, x ≤ m) : Tot (h0 w) ≤ w.length * m := by
 have : ∀ l : List Nat, (∀ x ∈ l, x < w.length) → (l.map fun x => w.getD x 0).sum ≤ l.length * m := by
   intro l
   induction l with
   | nil => intro _; simp
   | cons x l ih =>
     intro hl; have h1 := ih fun y hy => hl y (List.mem_cons_of_mem _ hy); have hx := hl x (List.mem_cons_self ..)
     have h2 : w.getD x 0 ≤ m := by
       rw [List.getD_eq_getElem?_getD, List.getElem?_eq_getElem hx]; exact h _ (List.getElem_mem hx)
     rw [List.map_cons, List.sum_cons, List.length_cons, Nat.succ_mul]; omega
 have := this (List.range w.length) fun x hx => List.mem_range.1 hx; rw [List.length_range] at this; exact this
theorem queue0 {w lf : List Nat} (p : lf.Perm (List.range w.length)) (hs : lf.Pairwise (lt w)) : Queue w.length (h0 w) lf w.length := by
 refine ⟨?_, ⟨Nat.le_refl _, Nat.le_refl _⟩, fun x hx => List.mem_range.1 (p.mem_iff.1 hx), hs, fun x y h1 h2 h3 => ?_, fun x _ y _ _ c h1 h2 => ?_⟩
 · show (List.range w.length).Perm (lf ++ List.range' w.length (w.length - w.length)); rw [Nat.sub_self, List.range'_zero, List.append_nil]; exact p.symm
 · have : y < w.length := h3; omega
 · have : c < w.length := h2; omega
theorem incL_le : ∀ (ls out : List Nat) (y : Nat), (incL out ls).getD y 0 ≤ out.getD y 0 + ls.length
 | [], out, y => Nat.le_refl _
 | x :: ls, out, y => by
   have h := incL_le ls (out.set x (out.getD x 0 + 1)) y
   have h2 : (out.set x (out.getD x 0 + 1)).getD y 0 ≤ out.getD y 0 + 1 := by
     rw [List.getD_eq_getElem?_getD, List.getElem?_set]; split
     · rename_i e; subst e; split
       · exact Nat.le_refl _
       · exact Nat.zero_le _
     · rw [← List.getD_eq_getElem?_getD]; exact Nat.le_succ _
   show (incL (out.set x (out.getD x 0 + 1)) ls).getD y 0 ≤ _; rw [List.length_cons]; omega
theorem incL_snoc (out ls : List Nat) (x : Nat) : incL out (ls ++ [x]) = (incL out ls).set x ((incL out ls).getD x 0 + 1) := by
 unfold incL; rw [List.foldl_append]; rfl
end Go.Mh
namespace Go.Ms
open Go.Mh
theorem sw {α : Type} {P Q R : List α} {x y : α} {p q : Nat} (hp : P.length = p) (hq : p + 1 + Q.length = q) :
   (P ++ x :: (Q ++ y :: R))[p]? = some x ∧ (P ++ x :: (Q ++ y :: R))[q]? = some y ∧ ((P ++ x :: (Q ++ y :: R)).set p y).set q x = P ++ y :: (Q ++ x :: R) ∧
     p < (P ++ x :: (Q ++ y :: R)).length ∧ q < ((P ++ x :: (Q ++ y :: R)).set p y).length := by
 subst hp; subst hq
 have e : P.length + 1 + Q.length - P.length = (Q.length + 1) := by omega
 refine ⟨?_, ?_, ?_, ?_, ?_⟩
 · rw [List.getElem?_append_right (Nat.le_refl _), Nat.sub_self]; rfl
 · rw [List.getElem?_append_right (by omega), e, List.getElem?_cons_succ, List.getElem?_append_right (Nat.le_refl _), Nat.sub_self]; rfl
 · rw [List.set_append_right _ _ (Nat.le_refl _), Nat.sub_self, List.set_cons_zero, List.set_append_right _ _ (by omega), e, List.set_cons_succ, List.set_append_right _ _ (Nat.le_refl _), Nat.sub_self, List.set_cons_zero]
 · simp
 · simp; omega
theorem drop_at {α : Type} {U : List α} {i : Nat} (h : i < U.length) : U.drop i = U[i] :: U.drop (i + 1) := List.drop_eq_getElem_cons h
theorem take_at {α : Type} {U : List α} {i : Nat} (h : i < U.length) : U.take (i + 1) = U.take i ++ [U[i]] := by
 rw [List.take_add_one, List.getElem?_eq_getElem h]; rfl
theorem mid_at {α : Type} {A B : List α} {x : α} {i : Nat} (h : A.length = i) : (A ++ x :: B)[i]? = some x := by
 subst h; rw [List.getElem?_append_right (Nat.le_refl _), Nat.sub_self]; rfl
theorem mid_in {α : Type} {A X B : List α} {a c : Nat} (ha : A.length = a) (h : c < X.length) : (A ++ (X ++ B))[a + c]? = some X[c] := by
 subst ha; rw [List.getElem?_append_right (by omega), show A.length + c - A.length = c by omega, List.getElem?_append_left h, List.getElem?_eq_getElem h]
theorem cut_le {α : Type} {D : List α} {i : Nat} (h : i ≤ D.length) : ∃ A B, D = A ++ B ∧ A.length = i ∧ B.length = D.length - i := ⟨D.take i, D.drop i, (List.take_append_drop _ _).symm, by rw [List.length_take]; omega, by rw [List.length_drop]⟩
def Srt (W X : List Nat) : Prop := X.Pairwise (lt W)
theorem Srt.app {W X Y : List Nat} (hx : Srt W X) (hy : Srt W Y) (h : ∀ x ∈ X, ∀ y ∈ Y, lt W x y) : Srt W (X ++ Y) := List.pairwise_append.2 ⟨hx, hy, h⟩
theorem srt_ins {W Z1 Z2 : List Nat} {x : Nat} (hs : Srt W (Z1 ++ Z2)) (h1 : ∀ z ∈ Z1, lt W z x) (h2 : ∀ z ∈ Z2, lt W x z) : Srt W (Z1 ++ x :: Z2) := by
 obtain ⟨a, b, c⟩ := List.pairwise_append.1 hs; refine List.pairwise_append.2 ⟨a, List.pairwise_cons.2 ⟨h2, b⟩, fun z hz y hy => ?_⟩; rcases List.mem_cons.1 hy with rfl | hy
 · exact h1 z hz
 · exact c z hz y hy
theorem all_before {W Z : List Nat} {x : Nat} (hs : Srt W Z) {k : Nat} (h : ∀ y, Z[k]? = some y → lt W y x) (hk : k < Z.length) : ∀ z ∈ Z.take (k + 1), lt W z x := by
 intro z hz; obtain ⟨i, hi, rfl⟩ := List.getElem_of_mem hz; rw [List.length_take] at hi; rw [List.getElem_take]; have hx := h _ (List.getElem?_eq_getElem hk)
 by_cases e : i = k
 · subst e; exact hx
 · exact lt_trans (List.pairwise_iff_getElem.1 hs i k (by omega) hk (by omega)) hx
theorem all_behind {W Z : List Nat} {x : Nat} (hs : Srt W Z) {k : Nat} (h : ∀ y, Z[k]? = some y → lt W x y) : ∀ z ∈ Z.drop k, lt W x z := by
 intro z hz; obtain ⟨i, hi, rfl⟩ := List.getElem_of_mem hz; rw [List.length_drop] at hi; rw [List.getElem_drop]
 have hk : k < Z.length := by omega
 have hx := h _ (List.getElem?_eq_getElem hk)
 by_cases e : i = 0
 · subst e; exact hx
 · exact lt_trans hx (List.pairwise_iff_getElem.1 hs k (k + i) hk (by omega) (by omega))
def Seg (W : List Nat) (lo : Nat) (X : List Nat) : Prop := X.Perm (List.range' lo X.length) ∧ Srt W X
inductive Runs (W : List Nat) (s : Nat) : Nat → List Nat → Prop
 | last {lo : Nat} {X : List Nat} (h : Seg W lo X) (hl : X.length ≤ s) : Runs W s lo X
 | cons {lo : Nat} {X L : List Nat} (h : Seg W lo X) (hl : X.length = s) (r : Runs W s (lo + s) L) : Runs W s lo (X ++ L)
theorem Seg.join {W X Y Z : List Nat} {lo s : Nat} (hx : Seg W lo X) (hl : X.length = s) (hy : Seg W (lo + s) Y) (hz : Z.Perm (X ++ Y)) (hs : Srt W Z) : Seg W lo Z := by
 refine ⟨?_, hs⟩; refine hz.trans ((hx.1.append hy.1).trans ?_); rw [hz.length_eq, List.length_append, hl, ← List.range'_append_1]
theorem seg_less {W X Y : List Nat} {lo s : Nat} (hx : Seg W lo X) (hl : X.length = s) (hy : Seg W (lo + s) Y) : ∀ x ∈ X, ∀ y ∈ Y, x < y := by
 intro x h1 y h2; have h1 := List.mem_range'_1.1 (hx.1.mem_iff.1 h1); have h2 := List.mem_range'_1.1 (hy.1.mem_iff.1 h2); omega
theorem runs_whole {W D : List Nat} {s lo : Nat} (h : Runs W s lo D) (hs : 0 < s) (hl : D.length ≤ s) : Seg W lo D := by
 cases h with
 | last h _ => exact h
 | cons h hl2 r =>
   rename_i X L; rw [List.length_append] at hl; have : L = [] := List.eq_nil_of_length_eq_zero (by omega); subst this; rw [List.append_nil]; exact h
theorem halves {W X1 X2 Y1 Y2 Z1 Z2 : List Nat} (hx : Srt W (X1 ++ X2)) (hy : Srt W (Y1 ++ Y2)) (h1 : ∀ x ∈ X1, ∀ y ∈ Y2, lt W x y) (h2 : ∀ y ∈ Y1, ∀ x ∈ X2, lt W y x)
   (p1 : Z1.Perm (X1 ++ Y1)) (p2 : Z2.Perm (X2 ++ Y2)) (s1 : Srt W Z1) (s2 : Srt W Z2) : (Z1 ++ Z2).Perm (X1 ++ X2 ++ (Y1 ++ Y2)) ∧ Srt W (Z1 ++ Z2) := by
 obtain ⟨_, _, cx⟩ := List.pairwise_append.1 hx; obtain ⟨_, _, cy⟩ := List.pairwise_append.1 hy; refine ⟨?_, s1.app s2 fun x hx1 y hy1 => ?_⟩
 · refine (p1.append p2).trans ?_; rw [List.append_assoc, List.append_assoc]; refine .append_left _ ?_; rw [← List.append_assoc, ← List.append_assoc]; exact .append_right _ List.perm_append_comm
 · rcases List.mem_append.1 (p1.mem_iff.1 hx1) with h | h <;> rcases List.mem_append.1 (p2.mem_iff.1 hy1) with h' | h'
   · exact cx x h y h'
   · exact h1 x h y h'
   · exact h2 x h y h'
   · exact cy x h y h'
theorem sw' {α : Type} {P Q R : List α} {x y : α} {p q : Nat} (hp : P.length = p) (hq : p + 1 + Q.length = q) :
   ((P ++ x :: (Q ++ y :: R)).set q x).set p y = P ++ y :: (Q ++ x :: R) ∧ q < (P ++ x :: (Q ++ y :: R)).length ∧ p < ((P ++ x :: (Q ++ y :: R)).set q x).length := by
 obtain ⟨_, _, e, h1, h2⟩ := sw (P := P) (Q := Q) (R := R) (x := x) (y := y) hp hq; refine ⟨by rw [List.set_comm _ _ (by omega)]; exact e, ?_, ?_⟩
 · rw [List.length_set] at h2; exact h2
 · rw [List.length_set]; exact h1
theorem sym_cut {W X Y : List Nat} {h lo hi s : Nat} (hx : Srt W X) (hy : Srt W Y) (hc : (lo = h - Y.length ∧ Y.length ≤ h ∧ hi = h) ∨ (lo = 0 ∧ hi = X.length)) (h0 : lo ≤ s) (h1 : s ≤ hi) (hh : s ≤ h)
   (h2 : lo < s → lt W (X.getD (s - 1) 0) (Y.getD (h - s) 0)) (h3 : s < hi → lt W (Y.getD (h - 1 - s) 0) (X.getD s 0)) (hX : s ≤ X.length) (hY : h - s ≤ Y.length) :
   (∀ x ∈ X.take s, ∀ y ∈ Y.drop (h - s), lt W x y) ∧ (∀ y ∈ Y.take (h - s), ∀ x ∈ X.drop s, lt W y x) := by
 have gX : ∀ i (hi : i < X.length), X.getD i 0 = X[i] := fun i hi => by rw [List.getD_eq_getElem?_getD, List.getElem?_eq_getElem hi]; rfl
 have gY : ∀ i (hi : i < Y.length), Y.getD i 0 = Y[i] := fun i hi => by rw [List.getD_eq_getElem?_getD, List.getElem?_eq_getElem hi]; rfl
 have mX : ∀ i j (hi : i < X.length) (hj : j < X.length), i < j → lt W X[i] X[j] := fun i j hi hj hij => List.pairwise_iff_getElem.1 hx i j hi hj hij; have mY : ∀ i j (hi : i < Y.length) (hj : j < Y.length), i < j → lt W Y[i] Y[j] := fun i j hi hj hij => List.pairwise_iff_getElem.1 hy i j hi hj hij
 constructor
 · intro x hxm y hym; obtain ⟨i, hi1, rfl⟩ := List.getElem_of_mem hxm; obtain ⟨j, hj1, rfl⟩ := List.getElem_of_mem hym; rw [List.length_take] at hi1; rw [List.length_drop] at hj1; rw [List.getElem_take, List.getElem_drop]
   have hls : lo < s := by
     rcases hc with ⟨a, b, c⟩ | ⟨a, b⟩ <;> omega
   have e := h2 hls; rw [gX _ (by omega), gY _ (by omega)] at e
   have e1 : lt W X[i] Y[h - s] := by
     by_cases q : i = s - 1
     · subst q; exact e
     · exact lt_trans (mX i (s - 1) (by omega) (by omega) (by omega)) e
   by_cases q : j = 0
   · subst q; exact e1
   · exact lt_trans e1 (mY (h - s) (h - s + j) (by omega) (by omega) (by omega))
 · intro y hym x hxm; obtain ⟨i, hi1, rfl⟩ := List.getElem_of_mem hxm; obtain ⟨j, hj1, rfl⟩ := List.getElem_of_mem hym; rw [List.length_take] at hj1; rw [List.length_drop] at hi1; rw [List.getElem_take, List.getElem_drop]
   have hls : s < hi := by
     rcases hc with ⟨a, b, c⟩ | ⟨a, b⟩ <;> omega
   have e := h3 hls; rw [gX _ (by omega), gY _ (by omega)] at e
   have e1 : lt W Y[j] X[s] := by
     by_cases q : j = h - 1 - s
     · subst q; exact e
     · exact lt_trans (mY j (h - 1 - s) (by omega) (by omega) (by omega)) e
   by_cases q : i = 0
   · subst q; exact e1
   · exact lt_trans e1 (mX s (s + i) (by omega) (by omega) (by omega))
theorem seg_nil (W : List Nat) (lo : Nat) : Seg W lo [] := ⟨.refl _, List.Pairwise.nil⟩
theorem runs_head {W D : List Nat} {s lo : Nat} (h : Runs W s lo D) (hl : s ≤ D.length) : ∃ X R, D = X ++ R ∧ Seg W lo X ∧ X.length = s ∧ Runs W s (lo + s) R := by
 cases h with
 | last h h2 => exact ⟨D, [], (List.append_nil _).symm, h, by omega, .last (seg_nil _ _) (Nat.zero_le _)⟩
 | cons h h2 r => exact ⟨_, _, rfl, h, h2, r⟩
theorem seg_lt {W X : List Nat} {lo n : Nat} (h : Seg W lo X) (hn : lo + X.length ≤ n) : ∀ x ∈ X, x < n := by
 intro x hx; have := List.mem_range'_1.1 (h.1.mem_iff.1 hx); omega
theorem range_cut (lo n s : Nat) (h : s ≤ n) : List.range' lo n = List.range' lo s ++ List.range' (lo + s) (n - s) := by
 rw [List.range'_append_1, show s + (n - s) = n by omega]
end Go.Ms
namespace Go.Mh
def fib : Nat → Nat
 | 0 => 0
 | 1 => 1
 | n + 2 => fib (n + 1) + fib n
theorem fib_step : ∀ n, fib n ≤ fib (n + 1)
 | 0 => by decide
 | n + 1 => by show fib (n + 1) ≤ fib (n + 1) + fib n; omega
theorem fib_mono {m n : Nat} (h : m ≤ n) : fib m ≤ fib n := by
 induction h with
 | refl => exact Nat.le_refl _
 | step _ ih => exact Nat.le_trans ih (fib_step _)
theorem join_get {s s' : HS} {a b x p : Nat} (hg : Good s) (j : Join s s' a b) (h : s'.I[x]? = some (some p)) : ((x = a ∨ x = b) ∧ p = s.W.length) ∨ (s.I[x]? = some (some p) ∧ p < s.W.length) := by
 have hl : ((s.I.set a (some s.W.length)).set b (some s.W.length)).length = s.W.length := by rw [List.length_set, List.length_set, hg.len]
 rw [j.I] at h
 have hx : x < s.W.length := by
   rcases Nat.lt_or_ge x s.W.length with q | q
   · exact q
   · rw [List.getElem?_append_right (by rw [hl]; exact q), hl] at h
     cases hxx : x - s.W.length with
     | zero => rw [hxx] at h; cases h
     | succ n => rw [hxx] at h; simp at h
 rw [List.getElem?_append_left (by rw [hl]; exact hx), List.getElem?_set, List.getElem?_set] at h
 by_cases h1 : b = x
 · rw [if_pos h1, if_pos (by rw [List.length_set, hg.len]; omega)] at h; cases h; exact .inl ⟨.inr h1.symm, rfl⟩
 · rw [if_neg h1] at h
   by_cases h2 : a = x
   · rw [if_pos h2, if_pos (by rw [hg.len]; omega)] at h; cases h; exact .inl ⟨.inl h2.symm, rfl⟩
   · rw [if_neg h2] at h
     have hn : x ∉ s.V := fun e => by rw [hg.live x e] at h; cases h
     obtain ⟨p', h3, h4, h5⟩ := hg.dead x hx hn; rw [h] at h3; cases h3; exact .inr ⟨h, h5⟩
theorem no_up {s : HS} {k y : Nat} (hg : Good s) (hy : y < s.W.length) : ¬ Up s.I s.W.length k y := by
 intro h
 cases h with
 | here => exact Nat.lt_irrefl _ hy
 | up h u =>
   have := (List.getElem?_eq_some_iff.1 h).1; rw [hg.len] at this; exact Nat.lt_irrefl _ this
theorem up_back {s s' : HS} {a b i k x : Nat} (hg : Good s) (j : Join s s' a b) (h : Up s'.I i k x) :
   (x ≠ s.W.length → x < s.W.length → Up s.I i k x) ∧ (x = s.W.length → (k = 0 ∧ i = s.W.length) ∨ ∃ q, k = q + 1 ∧ (Up s.I i q a ∨ Up s.I i q b)) := by
 have ha := hg.lt a j.la.1; have hb := hg.lt b (List.mem_of_mem_erase j.lb.1)
 induction h with
 | here x => exact ⟨fun _ _ => .here x, fun e => .inl ⟨rfl, e⟩⟩
 | up h u ih =>
   rename_i x p k y; obtain ⟨i1, i2⟩ := ih; have hc := join_get hg j h
   constructor
   · intro h1 h2; have u1 := i1 h1 h2; rcases hc with ⟨_, rfl⟩ | ⟨h3, _⟩
     · exact absurd u1 (no_up hg h2)
     · exact .up h3 u1
   · intro h1; right; rcases i2 h1 with ⟨rfl, rfl⟩ | ⟨q, rfl, hq⟩
     · rcases hc with ⟨h3 | h3, _⟩ | ⟨_, h4⟩
       · exact ⟨0, rfl, .inl (h3 ▸ .here _)⟩
       · exact ⟨0, rfl, .inr (h3 ▸ .here _)⟩
       · exact absurd h4 (Nat.lt_irrefl _)
     · rcases hc with ⟨_, rfl⟩ | ⟨h3, _⟩
       · rcases hq with hq | hq
         · exact absurd hq (no_up hg ha)
         · exact absurd hq (no_up hg hb)
       · exact ⟨q + 1, rfl, hq.imp (Up.up h3) (Up.up h3)⟩
structure Hts (s : HS) (h : Nat → Nat) : Prop where
 up : ∀ x ∈ s.V, ∀ i k, Up s.I i k x → k ≤ h x
 wt : ∀ x ∈ s.V, fib (h x + 1) ≤ s.W.getD x 0
 lo : ∀ x ∈ s.V, ∀ y ∈ s.V, 1 ≤ h x → fib (h x) ≤ s.W.getD y 0
theorem hts0 {w : List Nat} (hw : ∀ x ∈ w, 1 ≤ x) : Hts (h0 w) (fun _ => 0) := by
 refine ⟨fun x hx i k u => ?_, fun x hx => ?_, fun x _ y _ h => absurd h (by decide)⟩
 · cases u with
   | here => exact Nat.le_refl _
   | up h u =>
     exfalso; unfold h0 at h; simp only [List.getElem?_replicate] at h
     split at h <;> cases h
 · have hx : x < w.length := List.mem_range.1 hx; show 1 ≤ w.getD x 0; rw [List.getD_eq_getElem?_getD, List.getElem?_eq_getElem hx]; exact hw _ (List.getElem_mem hx)
theorem hts_join {s s' : HS} {a b : Nat} {h : Nat → Nat} (hg : Good s) (j : Join s s' a b) (H : Hts s h) : ∃ h', Hts s' h' := by
 have ha := j.la.1; have hb : b ∈ s.V := List.mem_of_mem_erase j.lb.1; have hal := hg.lt a ha; have hbl := hg.lt b hb; have hne := join_ne hg j
 have hV : ∀ x, x ∈ s'.V → x = s.W.length ∨ (x ∈ s.V ∧ x ≠ s.W.length ∧ x < s.W.length) := by
   intro x hx; rcases List.mem_cons.1 (j.V.mem_iff.1 hx) with h1 | h1
   · exact .inl h1
   · have h2 := List.mem_of_mem_erase (List.mem_of_mem_erase h1); have := hg.lt x h2; exact .inr ⟨h2, by omega, this⟩
 have hT : s'.W.getD s.W.length 0 = s.W.getD a 0 + s.W.getD b 0 := by rw [j.W, getD_end]
 have hW : ∀ x, x < s.W.length → s'.W.getD x 0 = s.W.getD x 0 := fun x hx => by rw [j.W, getD_app hx]
 have ab : s.W.getD a 0 ≤ s.W.getD b 0 := by
   have := j.la.2 b hb fun e => hne e.symm; unfold lt at this; omega
 have least : ∀ y ∈ s.V, s.W.getD a 0 ≤ s.W.getD y 0 := by
   intro y hy
   by_cases e : y = a
   · rw [e]; exact Nat.le_refl _
   · have := j.la.2 y hy e; unfold lt at this; omega
 have least2 : ∀ y ∈ s'.V, y ≠ s.W.length → s.W.getD b 0 ≤ s.W.getD y 0 := by
   intro y hy hyl; rcases List.mem_cons.1 (j.V.mem_iff.1 hy) with h1 | h1
   · exact absurd h1 hyl
   · have h2 := ((hg.nodup.erase a).mem_erase_iff).1 h1; have := j.lb.2 y h2.2 h2.1; unfold lt at this; omega
 have wa := H.wt a ha; have wb := H.wt b hb
 have lab : ∀ x ∈ s.V, ∀ y ∈ s.V, fib (h x) ≤ s.W.getD y 0 := by
   intro x hx y hy
   cases e : h x with
   | zero => exact Nat.zero_le _
   | succ n => rw [← e]; exact H.lo x hx y hy (by omega)
 have f2 : ∀ n, fib (n + 2) = fib (n + 1) + fib n := fun _ => rfl; have hA := lab a ha b hb; have hB := lab b hb a ha; refine ⟨fun x => if x = s.W.length then max (h a) (h b) + 1 else h x, ?_, ?_, ?_⟩
 · intro x hx i k u; obtain ⟨u1, u2⟩ := up_back hg j u; rcases hV x hx with e | ⟨h1, h2, h3⟩
   · simp only [if_pos e]; rcases u2 e with ⟨rfl, _⟩ | ⟨q, rfl, hq | hq⟩
     · exact Nat.zero_le _
     · have := H.up a ha i q hq; omega
     · have := H.up b hb i q hq; omega
   · simp only [if_neg h2]; exact H.up x h1 i k (u1 h2 h3)
 · intro x hx; rcases hV x hx with e | ⟨h1, h2, h3⟩
   · simp only [if_pos e]; rw [e, hT]; rcases Nat.le_total (h a) (h b) with q | q
     · rw [Nat.max_eq_right q, f2]; omega
     · rw [Nat.max_eq_left q, f2]; omega
   · simp only [if_neg h2]; rw [hW x h3]; exact H.wt x h1
 · intro x hx y hy hx1
   have wy : ∀ z, fib (h z + 1) ≤ s.W.getD z 0 → (z = a ∨ z = b) → fib (h z + 1) ≤ s'.W.getD y 0 := by
     intro z hz hzab; rcases hV y hy with e | ⟨h1, h2, h3⟩
     · rw [e, hT]
       rcases hzab with rfl | rfl <;> omega
     · rw [hW y h3]; have := least2 y hy h2
       rcases hzab with rfl | rfl <;> omega
   rcases hV x hx with e | ⟨h1, h2, h3⟩
   · simp only [if_pos e]; rcases Nat.le_total (h a) (h b) with q | q
     · rw [Nat.max_eq_right q]; exact wy b wb (.inr rfl)
     · rw [Nat.max_eq_left q]; exact wy a wa (.inl rfl)
   · simp only [if_neg h2] at hx1 ⊢; rcases hV y hy with e | ⟨h4, h5, h6⟩
     · rw [e, hT]; have := H.lo x h1 a ha hx1; omega
     · rw [hW y h6]; exact H.lo x h1 y h4 hx1
theorem hts_joins {w : List Nat} (hw : ∀ x ∈ w, 1 ≤ x) {k : Nat} {s : HS} (h : Joins (h0 w) k s) : (∃ f, Hts s f) ∧ Tot s = Tot (h0 w) := by
 induction h with
 | start => exact ⟨⟨_, hts0 hw⟩, rfl⟩
 | next h j ih =>
   obtain ⟨⟨f, hf⟩, ht⟩ := ih; have hg := (joins_good h).1; exact ⟨hts_join hg j hf, (tot_join hg j).trans ht⟩
theorem depths_small {w out : List Nat} (hw : ∀ x ∈ w, 1 ≤ x ∧ x ≤ 2) (hl : w.length ≤ 258) (h : Depths w out) : ∀ x ∈ out, x ≤ 20 := by
 obtain ⟨s, r, hj, hr, hlen, hu⟩ := h; obtain ⟨⟨f, hf⟩, ht⟩ := hts_joins (fun x hx => (hw x hx).1) hj; intro x hx; obtain ⟨i, hi, rfl⟩ := List.getElem_of_mem hx; have h1 := hu i (by omega); rw [List.getD_eq_getElem?_getD, List.getElem?_eq_getElem hi] at h1
 have hrm : r ∈ s.V := by rw [hr]; exact List.mem_singleton.2 rfl
 have h2 := hf.up r hrm i _ h1; have h3 := hf.wt r hrm
 have h4 : s.W.getD r 0 = Tot s := by unfold Tot; rw [hr]; simp
 have h5 := tot0 (m := 2) fun x hx => (hw x hx).2
 have h6 : f r + 1 < 15 := by
   rcases Nat.lt_or_ge (f r + 1) 15 with q | q
   · exact q
   · have h7 := fib_mono q
     have h8 : fib 15 = 610 := by decide
     omega
 have h9 : out[i] ≤ f r := h2; omega
def halved (w : List Nat) : List Nat := w.map fun x => x / 2 + 1
inductive LensOf : List Nat → List Nat → Prop
 | fit {w out : List Nat} (h : Depths w out) (hl : ∀ x ∈ out, x ≤ 20) : LensOf w out
 | more {w l out : List Nat} (h : Depths w l) (hl : ¬ ∀ x ∈ l, x ≤ 20) (r : LensOf (halved w) out) : LensOf w out
theorem LensOf.uniq {w o : List Nat} (h : LensOf w o) : ∀ {o2 : List Nat}, LensOf w o2 → o = o2 := by
 induction h with
 | fit h hl =>
   intro o2 h2
   cases h2 with
   | fit h' hl' => exact h.uniq h'
   | more h' hl' r => exact absurd (h.uniq h' ▸ hl) hl'
 | more h hl r ih =>
   intro o2 h2
   cases h2 with
   | fit h' hl' => exact absurd (h.uniq h' ▸ hl') hl
   | more h' hl' r' => exact ih r'
theorem halved_le : ∀ (w : List Nat), (∀ x ∈ w, 1 ≤ x) → (halved w).sum ≤ w.sum
 | [], _ => Nat.le_refl _
 | x :: w, h => by
   have h1 := halved_le w fun y hy => h y (List.mem_cons_of_mem _ hy); have h2 := h x (List.mem_cons_self ..); show ((x / 2 + 1) :: halved w : List Nat).sum ≤ _; rw [List.sum_cons, List.sum_cons]; omega
theorem halved_lt : ∀ (w : List Nat), (∀ x ∈ w, 1 ≤ x) → (¬ ∀ x ∈ w, x ≤ 2) → (halved w).sum < w.sum
 | [], _, h => absurd (by simp) h
 | x :: w, h, hn => by
   have h2 := h x (List.mem_cons_self ..); have h3 : ∀ y ∈ w, 1 ≤ y := fun y hy => h y (List.mem_cons_of_mem _ hy); show ((x / 2 + 1) :: halved w : List Nat).sum < _; rw [List.sum_cons, List.sum_cons]
   by_cases hx : x ≤ 2
   · have := halved_lt w h3 fun e => hn fun y hy => by
       rcases List.mem_cons.1 hy with rfl | hy
       · exact hx
       · exact e y hy
     omega
   · have := halved_le w h3; omega
theorem halved_in {w : List Nat} {m : Nat} (hm : 1 ≤ m) (h : ∀ x ∈ w, 1 ≤ x ∧ x ≤ m) : ∀ x ∈ halved w, 1 ≤ x ∧ x ≤ m := by
 intro x hx; obtain ⟨y, hy, rfl⟩ := List.mem_map.1 hx; have := h y hy; omega
theorem exists_least {p : Nat → Prop} (h : ∃ n, p n) : ∃ n, p n ∧ ∀ m, p m → n ≤ m := by
 obtain ⟨n, hn⟩ := h
 induction n using Nat.strongRecOn with
 | ind n ih =>
   by_cases q : ∃ m, m < n ∧ p m
   · obtain ⟨m, h1, h2⟩ := q; exact ih m h1 h2
   · exact ⟨n, hn, fun m hm => Nat.le_of_not_lt fun h => q ⟨m, h, hm⟩⟩
theorem depths_pos {w out : List Nat} (hw : 2 ≤ w.length) (h : Depths w out) : ∀ x ∈ out, 1 ≤ x := by
 obtain ⟨s, r, hj, hr, hlen, hu⟩ := h; intro x hx; obtain ⟨i, hi, rfl⟩ := List.getElem_of_mem hx; have h1 := hu i (by omega); rw [List.getD_eq_getElem?_getD, List.getElem?_eq_getElem hi] at h1
 have h2 : w.length ≤ r := by
   obtain ⟨k, hk⟩ : ∃ k, w.length - 1 = k + 1 := ⟨w.length - 2, by omega⟩; rw [hk] at hj
   cases hj with
   | next h j =>
     have h3 := j.V.mem_iff.2 (List.mem_cons_self ..); rw [hr] at h3; have h4 := List.mem_singleton.1 h3; have := (joins_good h).2.2; omega
 have h3 : Up s.I i out[i] r := h1; generalize out[i] = y at *
 cases h3 with
 | here => omega
 | up _ _ => omega
end Go.Mh
namespace Go.Proofs.YtgaiocpkjaaphaaGreatDoor
open Go Go.Vc
attribute [local irreducible] Vc.Nc Vc.Ld Vc.LdA Vc.St Vc.StA Vc.Fo Vc.Iaa Vc.Ias Vc.Ixs Vc.Ixa Vc.Fd Vc.FdA Vc.Bp Vc.Bb Vc.Bn Vc.Up Vc.Ci Vc.Lns Vc.Lnl Vc.Ex Vc.Sst Vc.Ssl Vc.New Vc.Vif Vc.VJoin Vc.VLoop Vc.KE Vc.Dr Vc.Rk Vc.Cl Vc.Cx Vc.Inv Vc.Be Vc.Cv Vc.Cw Vc.Mf Vc.Sl Vc.Lk Vc.Bd Vc.Bs Vc.Ms Vc.Mm Vc.Mu Vc.Me Vc.Es Vc.Rg Vc.Nx Vc.Ta Vc.Ap Vc.Usd Vc.Ust Vc.Cp Vc.Ln Vc.Bc Vc.Bmin Vc.Bmax Vc.Bdel Vc.Bclr Vc.Pk
namespace F08
variable {w : World} {L : List HProp} {K : Value → World → Prop}
theorem CloneO_spec {b o m c j : Nat} {cs : List Value} {xs : List Nat} (H : Holds w L) (hj : L[j]? = some (blk b tI cs)) (hcs : (cs.drop o).take m = xs.map nv) (hm : m = xs.length) (hne : 0 < xs.length) (hn : xs.length ≤ 1000000000)
   (k : ∀ v' w', Same w w' → Holds w' (SL nv tI v' xs :: L) → K v' w') : Cl Tryz.prog F.slices_Clone_int_int #[.slice (some ⟨b, o, none⟩) m c] w K := by
 refine Tie.slices_Clone_int_int ?_; unfold Vcf.slices_Clone_int_int; refine eq_nilI _ _ _ (r_vf ?_); refine r_bsK (e := tI) [] H (by kernel_rfl) fun b0 w1 S1 H1 => ?_; have H2 := Holds.slb' (f := nv) (xs := []) (sp := []) H1 0 rfl; rw [List.set_cons_zero] at H2; refine r_apO (f := nv) (xs := []) (ys := xs) (sp := []) (l := 0) (c := 0) H2 0 (j + 1) rfl (by rw [List.getElem?_cons_succ]; exact hj) hcs hm rfl rfl sg_nv (by simp only [List.length_nil]; omega) hne fun oa' sp' w2 S2 H3 => ?_; rw [List.set_cons_zero, List.nil_append] at H3; have H4 := H3.close 0 rfl; rw [List.set_cons_zero] at H4; have := k _ w2 (S1.trans S2) H4; simpa only [List.length_nil, Nat.zero_add] using this
theorem Group_spec {v : Value} {l : List Nat} {i g : Nat} (H : Holds w L) (hi : L[i]? = some (SL nv tI v l)) (hl : l.length ≤ 100000000) (hg : g * 50 < l.length)
   (k : ∀ v' w', Same w w' → Holds w' (SL nv tI v' ((l.drop (g * 50)).take 50) :: L) → K (.tuple #[v', iv 0]) w') : Cl Tryz.prog F.freq_Group #[v, nv g] w K := by
 refine Tie.freq_Group ?_; unfold Vcf.freq_Group; refine r_join1 (fun t w' => w = w' ∧ t = .bool false) ?_ ?_
 rotate_left
 · refine r_lss (r_vfD (by omega) ?_); refine r_lnS i H hi (Groups_spec (by omega) ?_); exact r_geq (r_ke ⟨rfl, by rw [decide_eq_false (by omega)]⟩)
 rintro _ _ _ ⟨rfl, rfl⟩; refine r_vf ?_; refine r_cl (K := fun z w' => Same w w' ∧ Holds w' (SL nv tI z ((l.drop (g * 50)).take 50) :: L)) ?_ ?_
 · refine Tie.freq_part_int ?_; unfold Vcf.freq_part_int; refine r_mulE ((g * 50 : Nat) : Int) (by omega) (by omega) (by omega) ?_; refine r_lnS i H hi (r_add1N (by omega) ?_); refine r_mulE (((g + 1) * 50 : Nat) : Int) (by omega) (by omega) (by omega) ?_; refine r_min ?_; obtain ⟨h, hh⟩ : ∃ h, h = min l.length ((g + 1) * 50) := ⟨_, rfl⟩; rw [show min (l.length : Int) (((g + 1) * 50 : Nat) : Int) = (h : Int) by omega]; obtain ⟨oa, sp, rfl, H1⟩ := H.open i hi
   cases oa with
   | none =>
     obtain ⟨q, ⟨h2, _⟩, _⟩ := H1.front i (set_get hi); subst h2; simp at hg
   | some a =>
     obtain ⟨q, ⟨h2, h3, _⟩, _⟩ := H1.front i (set_get hi); obtain ⟨b, o, s⟩ := a; simp only at h2 h3; subst h2; subst h3; refine r_sslLH (by omega) (by omega) ?_; rw [if_neg (by omega)]; have H2 := H1.slb i (set_get hi); rw [List.set_set] at H2
     have e1 : Option.map (fun x : Addr => x.add (g * 50 * 1)) (some (⟨b, 0, none⟩ : Addr)) = some (⟨b, g * 50, none⟩ : Addr) := by
       show some ((⟨b, 0, none⟩ : Addr).add (g * 50 * 1)) = _; rw [Nat.mul_one]; unfold Addr.add; split
       · rename_i e; rw [e]
       · simp
     rw [e1]
     have hlen : ((l.drop (g * 50)).take 50).length = h - g * 50 := by rw [List.length_take, List.length_drop]; omega
     refine CloneO_spec (xs := (l.drop (g * 50)).take 50) H2 (j := i) (set_get hi) ?_ hlen.symm (by omega) (by omega) fun v' w2 S2 H3 => ⟨S2, ?_⟩
     · rw [List.drop_append_of_le_length (by rw [List.length_map]; omega), List.take_append_of_le_length (by rw [List.length_drop, List.length_map]; omega), ← List.map_drop, ← List.map_take]
       congr 1
       rcases Nat.le_total ((g + 1) * 50) l.length with q | q
       · rw [show h - g * 50 = 50 by omega]
       · rw [List.take_of_length_le (by rw [List.length_drop]; omega), List.take_of_length_le (by rw [List.length_drop]; omega)]
     · have H4 := (Holds.slb' (f := nv) (xs := l) (sp := sp) H3 (i + 1) (by rw [List.getElem?_cons_succ]; exact set_get hi)); have H5 := H4.close (i + 1) (by rw [List.set_cons_succ, List.getElem?_cons_succ]; exact set_get (set_get hi)); rw [List.set_cons_succ, List.set_cons_succ, List.set_set, List.set_set] at H5
       have e2 : L.set i (SL nv tI (.slice (some ⟨b, 0, none⟩) l.length (l.length + sp.length)) l) = L := by
         obtain ⟨p1, p2⟩ := List.getElem?_eq_some_iff.1 hi; rw [← p2, List.set_getElem_self]
       rw [e2] at H5; exact H5
 rintro v' w' ⟨S2, H2⟩; exact k v' w' S2 H2
theorem addL_cnt (a b : List Nat) (n : Nat) : addL (cnt a n) (cnt b n) = cnt (a ++ b) n := by
 unfold addL; apply List.ext_getElem?; intro i; rw [List.getElem?_zipWith]; rcases Nat.lt_or_ge i n with q | q
 · rw [cnt_get q, cnt_get q, cnt_get q, List.count_append]
 · have e : ∀ z, (cnt z n)[i]? = none := fun z => List.getElem?_eq_none (by rw [cnt_len]; exact q); rw [e, e, e]
theorem cnt_le (l : List Nat) (n : Nat) : ∀ x ∈ cnt l n, x ≤ l.length := by
 intro x hx; unfold cnt at hx; obtain ⟨y, _, rfl⟩ := List.mem_map.1 hx; exact List.count_le_length
end F08
namespace Rw
variable {w : World} {L : List HProp} {K : Value → World → Prop}
abbrev tIs : Nat := 69
instance rowIs : Row Tryz.prog 146 tIs (.slice none 0 0) := ⟨by kernel_rfl, ⟨Tryz.t69, by kernel_rfl, by kernel_rfl, by decide, by kernel_rfl⟩, rfl⟩
abbrev Sw : Type := Option Addr × Nat × Nat
abbrev sw (x : Sw) : Value := .slice x.1 x.2.1 x.2.2
theorem sg_sw (x : Sw) : sg (sw x) = true := rfl
def RI (vs : List Sw) (rs : List (List Nat)) : List HProp := (vs.zip rs).map fun x => SL nv tI (sw x.1) x.2
def RR (v : Value) (rs : List (List Nat)) : HProp := fun h => ∃ vs, vs.length = rs.length ∧ Sat (SL sw tIs v vs :: RI vs rs) h
theorem ri_get {vs : List Sw} {rs : List (List Nat)} {q : Nat} {x : Sw} {l : List Nat} (hx : vs[q]? = some x) (hl : rs[q]? = some l) : (RI vs rs)[q]? = some (SL nv tI (sw x) l) := by
 unfold RI; rw [List.getElem?_map, (List.getElem?_zip_eq_some (z := (x, l))).2 ⟨hx, hl⟩]; rfl
theorem ri_len {vs : List Sw} {rs : List (List Nat)} (h : vs.length = rs.length) : (RI vs rs).length = rs.length := by unfold RI; simp [h]
theorem ri_set {vs : List Sw} {rs : List (List Nat)} {q : Nat} (x : Sw) (l : List Nat) (h : vs.length = rs.length) : (RI vs rs).set q (SL nv tI (sw x) l) = RI (vs.set q x) (rs.set q l) := by
 unfold RI; apply List.ext_getElem?; intro i; rw [List.getElem?_set, List.getElem?_map, List.getElem?_map, List.length_map, List.length_zip, h, Nat.min_self]
 by_cases e : q = i
 · subst e; rw [if_pos rfl]
   by_cases hq : q < rs.length
   · rw [if_pos hq, (List.getElem?_zip_eq_some (z := (x, l))).2 ⟨by rw [List.getElem?_set_self (by omega)], by rw [List.getElem?_set_self hq]⟩]; rfl
   · rw [if_neg hq, List.getElem?_eq_none (by rw [List.length_zip, List.length_set, List.length_set]; omega)]; rfl
 · rw [if_neg e]
   congr 1
   apply Option.ext; rintro ⟨y, m⟩; rw [List.getElem?_zip_eq_some, List.getElem?_zip_eq_some, List.getElem?_set_ne e, List.getElem?_set_ne e]
theorem sl_sw {v : Value} {l : List Nat} {i : Nat} (H : Holds w L) (hi : L[i]? = some (SL nv tI v l)) : ∃ x, v = sw x := by
 obtain ⟨oa, sp, rfl, _⟩ := H.open i hi; exact ⟨(oa, _, _), rfl⟩
theorem rr_nil (H : Holds w L) : Holds w (RR (.slice none 0 0) [] :: L) := by
 have H1 := H.nilSL sw tIs; have H2 : Holds w (Sat [SL sw tIs (.slice none 0 0) []] :: L) := Holds.pack (A := [_]) H1; exact Holds.imp H2 fun h hh => ⟨[], rfl, hh⟩
theorem rr_ln (i : Nat) (H : Holds w L) {v : Value} {rs : List (List Nat)} {K : Value → Prop} (hi : L[i]? = some (RR v rs)) (h : K (nv rs.length)) : Lnl v K := by
 obtain ⟨vs, H1⟩ := H.atEx (α := List Sw) (Q := fun vs h => vs.length = rs.length ∧ Sat (SL sw tIs v vs :: RI vs rs) h) i hi fun g hg => hg; obtain ⟨hl, H2⟩ := H1.atPure (Q := Sat (SL sw tIs v vs :: RI vs rs)) i (set_get hi) fun g hg => hg; rw [List.set_set] at H2; have H3 := H2.front i (set_get hi); rw [List.eraseIdx_set_eq] at H3; have H4 : Holds w (SL sw tIs v vs :: (RI vs rs ++ L.eraseIdx i)) := Holds.unpack H3; refine r_lnS 0 H4 rfl ?_; rw [hl]; exact h
theorem r_getP {α : Type} (i : Nat) (H : Holds w L) {f : α → Value} {e : TypeId} {v : Value} {xs : List α} {k : IntKind} {j : Nat} {x : α} {J : Value → Prop} (hi : L[i]? = some (SL f e v xs)) (hx : xs[j]? = some x)
   (h : ∀ p, (∀ J' : Value → Prop, J' (f x) → Ld p w J') → J p) : Ias 1 v (.int k (j : Int)) J := by
 obtain ⟨oa, sp, rfl, H1⟩ := H.open i hi; have hj : j < xs.length := (List.getElem?_eq_some_iff.1 hx).1; refine r_iasN i H1 (set_get hi) hj (Nat.le_refl _) fun b hb => ?_; subst hb; exact h _ fun J' hJ => r_ldsl i H1 (set_get hi) hx hJ
theorem rr_shut {x : Sw} {R : HProp} {v : Value} {rs' : List (List Nat)} {l' : List Nat} (hR : ∀ h, Sat [SL nv tI (sw x) l', R] h → RR v rs' h) (N : List HProp) (i : Nat) {L' : List HProp} (hi : L'[i]? = some R) {w' : World}
   (H : Holds w' (N ++ SL nv tI (sw x) l' :: L')) : Holds w' (N ++ L'.set i (RR v rs')) := by
 have key : ∀ h, Sat (SL nv tI (sw x) l' :: L') h → Sat (L'.set i (RR v rs')) h := by
   intro h hh
   have h1 : Sat (R :: SL nv tI (sw x) l' :: L'.eraseIdx i) h := by
     have := Sat.pull (i + 1) hh (P := R) (by rw [List.getElem?_cons_succ]; exact hi); rw [List.eraseIdx_cons_succ] at this; exact this
   have h4 : Sat ([SL nv tI (sw x) l', R] ++ L'.eraseIdx i) h := Sat.swap h1; exact Sat.push i hi (Sat.imp (Sat.pack h4) fun g hg => hR g hg)
 have lift : ∀ (N : List HProp) h, Sat (N ++ SL nv tI (sw x) l' :: L') h → Sat (N ++ L'.set i (RR v rs')) h := by
   intro N
   induction N with
   | nil => exact key
   | cons P N ih => exact fun h hh => Sat_tail ih hh
 exact lift N _ H
theorem rr_sw {v : Value} {rs : List (List Nat)} {i : Nat} (H : Holds w L) (hi : L[i]? = some (RR v rs)) : ∃ x, v = sw x := by
 obtain ⟨vs, H1⟩ := H.atEx (α := List Sw) (Q := fun vs h => vs.length = rs.length ∧ Sat (SL sw tIs v vs :: RI vs rs) h) i hi fun g hg => hg; obtain ⟨_, H2⟩ := H1.atPure (Q := Sat (SL sw tIs v vs :: RI vs rs)) i (set_get hi) fun g hg => hg; rw [List.set_set] at H2; have H3 := H2.front i (set_get hi); rw [List.eraseIdx_set_eq] at H3; have H4 : Holds w (SL sw tIs v vs :: (RI vs rs ++ L.eraseIdx i)) := Holds.unpack H3; obtain ⟨oa, sp, rfl, _⟩ := H4.open 0 rfl; exact ⟨(oa, _, _), rfl⟩
theorem rr_open (i : Nat) (H : Holds w L) {v : Value} {rs : List (List Nat)} {q : Nat} {l : List Nat} (hi : L[i]? = some (RR v rs)) (hq : rs[q]? = some l) :
   ∃ (x : Sw) (R : HProp), (∀ (k : IntKind) (J : Value → Prop), (∀ p, (∀ J' : Value → Prop, J' (sw x) → Ld p w J') → J p) → Ias 1 v (.int k (q : Int)) J) ∧ Holds w (SL nv tI (sw x) l :: L.set i R) ∧
     (∀ (N : List HProp) (w' : World), Holds w' (N ++ SL nv tI (sw x) l :: L.set i R) → Holds w' (N ++ L)) ∧
     (∀ (l' : List Nat) (N : List HProp) (w' : World), Holds w' (N ++ SL nv tI (sw x) l' :: L.set i R) → Holds w' (N ++ L.set i (RR v (rs.set q l')))) ∧
     (∀ l' h, Sat [SL nv tI (sw x) l', R] h → RR v (rs.set q l') h) ∧ ∀ h, Sat [SL nv tI (sw x) l, R] h → RR v rs h := by
 obtain ⟨vs, H1⟩ := H.atEx (α := List Sw) (Q := fun vs h => vs.length = rs.length ∧ Sat (SL sw tIs v vs :: RI vs rs) h) i hi fun g hg => hg; obtain ⟨hl, H2⟩ := H1.atPure (Q := Sat (SL sw tIs v vs :: RI vs rs)) i (set_get hi) fun g hg => hg; rw [List.set_set] at H2; have hqr : q < rs.length := (List.getElem?_eq_some_iff.1 hq).1; have hx : vs[q]? = some vs[q] := List.getElem?_eq_getElem (by omega); generalize vs[q] = x at hx; have hri := ri_get hx hq
 have hA : (SL sw tIs v vs :: RI vs rs)[q + 1]? = some (SL nv tI (sw x) l) := by rw [List.getElem?_cons_succ]; exact hri
 have hR : ∀ l' h, Sat [SL nv tI (sw x) l', Sat ((SL sw tIs v vs :: RI vs rs).eraseIdx (q + 1))] h → RR v (rs.set q l') h := by
   intro l' g hg; have h6 : Sat (Sat ((SL sw tIs v vs :: RI vs rs).eraseIdx (q + 1)) :: [SL nv tI (sw x) l']) g := Sat.swap hg; have h7 := Sat.unpack h6
   have h8 : (((SL sw tIs v vs :: RI vs rs).eraseIdx (q + 1)) ++ [SL nv tI (sw x) l'])[((SL sw tIs v vs :: RI vs rs).eraseIdx (q + 1)).length]? = some (SL nv tI (sw x) l') := by simp
   have h9 := Sat.pull _ h7 h8; rw [List.eraseIdx_append_of_length_le (Nat.le_refl _), Nat.sub_self, List.eraseIdx_cons_zero, List.append_nil] at h9; refine ⟨vs, by rw [List.length_set]; exact hl, ?_⟩; have := Sat.push (q + 1) hA h9; rw [List.set_cons_succ, ri_set x l' hl] at this
   have e : vs.set q x = vs := by
     obtain ⟨p1, p2⟩ := List.getElem?_eq_some_iff.1 hx; rw [← p2, List.set_getElem_self]
   rw [e] at this; exact this
 have back : ∀ (l' : List Nat) (N : List HProp) (w' : World), Holds w' (N ++ SL nv tI (sw x) l' :: L.set i (Sat ((SL sw tIs v vs :: RI vs rs).eraseIdx (q + 1)))) → Holds w' (N ++ L.set i (RR v (rs.set q l'))) := by
   intro l' N w' HN; have := rr_shut (hR l') N i (set_get hi) HN; rw [List.set_set] at this; exact this
 have e1 : rs.set q l = rs := by
   obtain ⟨p1, p2⟩ := List.getElem?_eq_some_iff.1 hq; rw [← p2, List.set_getElem_self]
 refine ⟨x, Sat ((SL sw tIs v vs :: RI vs rs).eraseIdx (q + 1)), ?_, ?_, ?_, back, hR, fun h hh => by have := hR l h hh; rw [e1] at this; exact this⟩
 · intro k J hJ; have H3 := H2.front i (set_get hi); rw [List.eraseIdx_set_eq] at H3; have H4 : Holds w (SL sw tIs v vs :: (RI vs rs ++ L.eraseIdx i)) := Holds.unpack H3; exact r_getP 0 H4 rfl hx hJ
 · have H3 := H2.front i (set_get hi); rw [List.eraseIdx_set_eq] at H3; have H4 : Holds w (Sat (SL nv tI (sw x) l :: (SL sw tIs v vs :: RI vs rs).eraseIdx (q + 1)) :: L.eraseIdx i) := Holds.imp H3 fun g hg => Sat.pull (q + 1) hg hA; have H5 : Holds w (SL nv tI (sw x) l :: ((SL sw tIs v vs :: RI vs rs).eraseIdx (q + 1) ++ L.eraseIdx i)) := Holds.unpack H4; have H6 : Holds w (SL nv tI (sw x) l :: Sat ((SL sw tIs v vs :: RI vs rs).eraseIdx (q + 1)) :: L.eraseIdx i) := Sat_tail (fun h hh => Sat.pack hh) H5; exact Sat_tail (fun h hh => Sat.push i hi hh) H6
 · intro N w' HN; have := back l N w' HN
   have e2 : L.set i (RR v rs) = L := by
     obtain ⟨p1, p2⟩ := List.getElem?_eq_some_iff.1 hi; rw [← p2, List.set_getElem_self]
   rw [e1, e2] at this; exact this
theorem rr_set (i : Nat) {v v' : Value} {rs : List (List Nat)} {q : Nat} {l : List Nat} (H : Holds w (SL nv tI v' l :: L)) (hi : L[i]? = some (RR v rs)) (hq : q < rs.length) {k : IntKind} {J : World → Prop}
   (h : ∀ w', Same w w' → Holds w' (L.set i (RR v (rs.set q l))) → J w') : Ias 1 v (.int k (q : Int)) fun p => St p v' w J := by
 obtain ⟨y, rfl⟩ := sl_sw H (i := 0) rfl
 have hi' : (SL nv tI (sw y) l :: L)[i + 1]? = some (RR v rs) := by rw [List.getElem?_cons_succ]; exact hi
 obtain ⟨vs, H1⟩ := H.atEx (α := List Sw) (Q := fun vs h => vs.length = rs.length ∧ Sat (SL sw tIs v vs :: RI vs rs) h) (i + 1) hi' fun g hg => hg; obtain ⟨hl, H2⟩ := H1.atPure (Q := Sat (SL sw tIs v vs :: RI vs rs)) (i + 1) (set_get hi') fun g hg => hg; rw [List.set_set] at H2; have H3 := H2.front (i + 1) (set_get hi'); rw [List.eraseIdx_set_eq, List.eraseIdx_cons_succ] at H3; have H4 : Holds w (SL sw tIs v vs :: (RI vs rs ++ SL nv tI (sw y) l :: L.eraseIdx i)) := Holds.unpack H3; refine r_setS (f := sw) 0 H4 y rfl (by omega) rfl fun w' S' H5 => h w' S' ?_; rw [List.set_cons_zero] at H5
 have h6 : ((SL sw tIs v (vs.set q y) :: RI vs rs) ++ SL nv tI (sw y) l :: L.eraseIdx i)[rs.length + 1]? = some (SL nv tI (sw y) l) := by
   rw [List.cons_append, List.getElem?_cons_succ, List.getElem?_append_right (by rw [ri_len hl]; omega), ri_len hl, Nat.sub_self]; rfl
 have H6 : Holds w' (((SL sw tIs v (vs.set q y) :: RI vs rs)) ++ SL nv tI (sw y) l :: L.eraseIdx i) := H5; have H7 := H6.front _ h6; rw [List.cons_append, List.eraseIdx_cons_succ, List.eraseIdx_append_of_length_le (by rw [ri_len hl]; omega), ri_len hl, Nat.sub_self, List.eraseIdx_cons_zero] at H7; have H8 : Holds w' (Sat (SL nv tI (sw y) l :: SL sw tIs v (vs.set q y) :: RI vs rs) :: L.eraseIdx i) := Holds.pack H7
 have H9 : Holds w' (RR v (rs.set q l) :: L.eraseIdx i) := Holds.imp H8 fun g hg => ⟨vs.set q y, by simp [hl], by
   have hA : (SL sw tIs v (vs.set q y) :: RI vs rs)[q + 1]? = some (SL nv tI (sw vs[q]) rs[q]) := by
     rw [List.getElem?_cons_succ]; exact ri_get (List.getElem?_eq_getElem (by omega)) (List.getElem?_eq_getElem hq)
   -- the old row is let go
   obtain ⟨g1, hg1, hs1, hr⟩ := hg
   have h10 : Sat (SL nv tI (sw y) l :: (SL sw tIs v (vs.set q y) :: RI vs rs).eraseIdx (q + 1)) g := by
     refine ⟨g1, hg1, hs1, ?_⟩; obtain ⟨g2, _, _, hr2⟩ := Sat.pull (q + 1) hr hA
     exact hr2.mono fun b o hb => by
       unfold Hp.minus at hb; split at hb
       · cases hb
       · exact hb
   have := Sat.push (q + 1) hA h10; rw [List.set_cons_succ, ri_set y l hl] at this
   exact this⟩
 exact Sat.push i hi H9
theorem rr_app (i : Nat) {v v' : Value} {rs : List (List Nat)} {l : List Nat} {ty : TypeId} (H : Holds w (SL nv tI v' l :: L)) (hi : L[i]? = some (RR v rs)) (hn : rs.length + 1 ≤ 1099511627776)
   (h : ∀ v2 w', Same w w' → Holds w' (L.set i (RR v2 (rs ++ [l]))) → K v2 w') : Bs Tryz.prog 146 1 #[(0, v')] w fun y w2 => Ap Tryz.prog #[146, 146] ty #[v, y] w2 K := by
 obtain ⟨y, rfl⟩ := sl_sw H (i := 0) rfl
 have hi' : (SL nv tI (sw y) l :: L)[i + 1]? = some (RR v rs) := by rw [List.getElem?_cons_succ]; exact hi
 obtain ⟨vs, H1⟩ := H.atEx (α := List Sw) (Q := fun vs h => vs.length = rs.length ∧ Sat (SL sw tIs v vs :: RI vs rs) h) (i + 1) hi' fun g hg => hg; obtain ⟨hl, H2⟩ := H1.atPure (Q := Sat (SL sw tIs v vs :: RI vs rs)) (i + 1) (set_get hi') fun g hg => hg; rw [List.set_set] at H2; have H3 := H2.front (i + 1) (set_get hi'); rw [List.eraseIdx_set_eq, List.eraseIdx_cons_succ] at H3; have H4 : Holds w (SL sw tIs v vs :: (RI vs rs ++ SL nv tI (sw y) l :: L.eraseIdx i)) := Holds.unpack H3; refine r_app1 (f := sw) H4 0 rfl y sg_sw (by omega) fun v2 w' S' H5 => h v2 w' S' ?_; rw [List.set_cons_zero] at H5
 have e : RI (vs ++ [y]) (rs ++ [l]) = RI vs rs ++ [SL nv tI (sw y) l] := by
   unfold RI; rw [List.zip_append hl, List.map_append]; rfl
 have H6 : Holds w' ((SL sw tIs v2 (vs ++ [y]) :: RI (vs ++ [y]) (rs ++ [l])) ++ L.eraseIdx i) := by
   rw [e, List.cons_append, List.append_assoc]; exact H5
 have H7 : Holds w' (RR v2 (rs ++ [l]) :: L.eraseIdx i) := Holds.imp (Holds.pack H6) fun g hg => ⟨vs ++ [y], by simp [hl], hg⟩; exact Sat.push i hi H7
theorem ri_nils : ∀ (n : Nat) {h : Hp}, Sat L h → Sat (RI (List.replicate n (none, 0, 0)) (List.replicate n []) ++ L) h
 | 0, _, H => H
 | n + 1, h, H => by
   refine ⟨fun _ => none, SL_nil nv tI _, (fun b o hb => by cases hb), ?_⟩
   have e : h.minus (fun _ => none) = h := by funext b; simp [Hp.minus]
   rw [e]; exact ri_nils n H
theorem rr_make (H : Holds w L) {k k' : IntKind} {n : Nat} {J : Value → World → Prop} (hn : n ≤ 1000000)
   (h : ∀ v w', Same w w' → Holds w' (RR v (List.replicate n []) :: L) → J v w') : Ms Tryz.prog 146 (.int k (n : Int)) (.int k' (n : Int)) w J := by
 refine r_ms (f := sw) (x := (none, 0, 0)) H rfl (by omega) (by omega) fun b w' S' H2 => ?_; rw [Int.toNat_natCast] at H2 ⊢; have H3 := H2.close 0 rfl; simp only [List.set_cons_zero, List.length_replicate, List.length_nil, Nat.add_zero] at H3; refine h _ w' S' ?_; have H4 : Holds w' (SL sw tIs (.slice (some ⟨b, 0, none⟩) n n) (List.replicate n (none, 0, 0)) :: (RI (List.replicate n (none, 0, 0)) (List.replicate n []) ++ L)) := Sat_tail (fun h hh => ri_nils n hh) H3; exact Holds.imp (Holds.pack (A := SL sw tIs (.slice (some ⟨b, 0, none⟩) n n) (List.replicate n (none, 0, 0)) :: RI (List.replicate n (none, 0, 0)) (List.replicate n [])) H4) fun g hg => ⟨List.replicate n (none, 0, 0), by simp, hg⟩
end Rw
namespace T12
open F08 Rw
variable {w : World} {L : List HProp} {K : Value → World → Prop}
def blw (c : List Nat) (n v : Nat) : Nat := min ((c.take v).sum) (n - 1)
def firstV (c : List Nat) (n t p v : Nat) : Nat := if blw c n v * t / n = p then 0 else 15
def firstR (c : List Nat) (n t p : Nat) : List Nat := (List.range c.length).map (firstV c n t p)
def firstL (c : List Nat) (n t : Nat) : List (List Nat) := (List.range t).map (firstR c n t)
theorem firstR_len (c : List Nat) (n t p : Nat) : (firstR c n t p).length = c.length := by simp [firstR]
theorem firstR_get {c : List Nat} {n t p v : Nat} (h : v < c.length) : (firstR c n t p)[v]? = some (firstV c n t p v) := by simp [firstR, h]
theorem firstL_len (c : List Nat) (n t : Nat) : (firstL c n t).length = t := by simp [firstL]
theorem blw_succ {c : List Nat} {n v : Nat} (h : v < c.length) : min (blw c n v + c.getD v 0) (n - 1) = blw c n (v + 1) := by
 unfold blw
 have e : c.take (v + 1) = c.take v ++ [c.getD v 0] := by rw [List.take_add_one, List.getD_eq_getElem?_getD, List.getElem?_eq_getElem h]; rfl
 rw [e, List.sum_append]; simp; omega
theorem map_range_set {α : Type} {t p : Nat} (g g' : Nat → α) (hp : p < t) (h : ∀ i, i < t → i ≠ p → g i = g' i) : ((List.range t).map g).set p (g' p) = (List.range t).map g' := by
 apply List.ext_getElem?; intro i; rw [List.getElem?_set, List.length_map, List.length_range]
 by_cases e : p = i
 · subst e; rw [if_pos rfl, if_pos hp, List.getElem?_map, List.getElem?_range hp]; rfl
 · rw [if_neg e, List.getElem?_map, List.getElem?_map]; rcases Nat.lt_or_ge i t with q | q
   · rw [List.getElem?_range q]; show some (g i) = some (g' i); rw [h i q (Ne.symm e)]
   · rw [List.getElem?_eq_none (by simpa using q)]; rfl
theorem map_range_get {α : Type} {t p : Nat} (g : Nat → α) (hp : p < t) : ((List.range t).map g)[p]? = some (g p) := by rw [List.getElem?_map, List.getElem?_range hp]; rfl
theorem map_range_congr {α : Type} {t : Nat} (g g' : Nat → α) (h : ∀ i, i < t → g i = g' i) : (List.range t).map g = (List.range t).map g' := List.map_congr_left fun i hi => h i (List.mem_range.1 hi)
theorem filled_same {xs : List Nat} {n i : Nat} (hi : i < n) (hn : xs.length = n) (hx : xs[i]? = some 0) : filled xs 0 n i = filled xs 0 n (i + 1) := by
 rw [← filled_set hi hn hx]
 have e : (filled xs 0 n i)[i]? = some 0 := by
   unfold filled
   have hl : (xs.take i).length = i := by rw [List.length_take]; omega
   rw [List.getElem?_append_right (by omega), hl, Nat.sub_self, List.getElem?_replicate, if_pos (by omega)]
 obtain ⟨p1, p2⟩ := List.getElem?_eq_some_iff.1 e; have h := List.set_getElem_self p1; rw [p2] at h; exact h.symm
theorem num_lim (n : Nat) : 2 ≤ num n ∧ num n ≤ 6 := by
 unfold num numAt; have h : (bnd.take 4).length = 4 := rfl; have := List.length_filter_le (fun b => decide (b ≤ n)) (bnd.take 4); omega
theorem mine_calc {c : List Nat} {n v t : Nat} (hn : 1 ≤ n) (hn2 : n ≤ 100000000) (ht : t ≤ 6) {K : Value → Prop} (h : K (nv (blw c n v * t / n))) : Bp .mul (nv (blw c n v)) (nv t) fun x => Bp .quo x (nv n) K := by
 have h1 : blw c n v ≤ n := by unfold blw; omega
 have h2 : blw c n v * t ≤ n * 6 := Nat.mul_le_mul h1 ht; refine r_mulE ((blw c n v * t : Nat) : Int) (Int.natCast_mul _ _).symm (by omega) (by omega) ?_; generalize blw c n v * t = z at *; have h3 : z / n ≤ z := Nat.div_le_self _ _; generalize hq : z / n = q at *; refine r_quoE (q := (q : Int)) ?_ (by omega) (by omega) (by omega) h; rw [Int.tdiv_eq_ediv_of_nonneg (by omega), ← hq]; rfl
theorem first_spec {v : Value} {c : List Nat} {n i : Nat} (H : Holds w L) (hb : BndOk L) (hi : L[i]? = some (SL nv tI v c)) (hc : c.length ≤ 1000000) (hcx : ∀ x ∈ c, x ≤ 100000000) (hn : 1 ≤ n) (hn2 : n ≤ 100000000)
   (k : ∀ v' w', Same w w' → Holds w' (RR v' (firstL c n (num n)) :: L) → K v' w') : Cl Tryz.prog F.tables_first #[v, nv n] w K := by
 refine Tie.tables_first ?_; unfold Vcf.tables_first; refine Number_spec H hb ?_; have hnl := num_lim n; generalize hnt : num n = t at *; refine rr_make H (by omega) fun ov w2 S2 H2 => ?_; refine rr_ln 0 H2 rfl ?_; rw [List.length_replicate]
 refine r_loop1 (fun q w' => ∃ p : Nat, q = nv p ∧ p ≤ t ∧ Same w w' ∧ Holds w' (RR ov ((List.range t).map fun j => if j < p then List.replicate c.length 0 else []) :: L)) (fun q _ => t - (RowKit.intOf q).toNat)
   ⟨0, rfl, Nat.zero_le _, S2, by
     have e : (List.range t).map (fun j => if j < 0 then List.replicate c.length 0 else ([] : List Nat)) = List.replicate t [] := by
       apply List.ext_getElem?; intro j; rw [List.getElem?_replicate]; split
       · rename_i q; rw [map_range_get _ q, if_neg (by omega)]
       · rename_i q; rw [List.getElem?_eq_none (by simpa using q)]
     rw [e]; exact H2⟩ ?_
 clear H H2 S2; rintro _ _ w3 ⟨p, rfl, hp, S3, H3⟩
 have hi3 : (RR ov ((List.range t).map fun j => if j < p then List.replicate c.length 0 else []) :: L)[i + 1]? = some (SL nv tI v c) := by rw [List.getElem?_cons_succ]; exact hi
 refine r_lss (r_ifD (fun h => ?_) fun h => ?_)
 · have hlt : p < t := by omega
   refine r_lnS (i + 1) H3 hi3 ?_; refine r_ms (f := nv) (x := 0) H3 rfl (by omega) (by omega) fun nb w4 S4 H4 => ?_; rw [Int.toNat_natCast] at H4 ⊢; have H5 := H4.close 0 rfl; simp only [List.set_cons_zero, List.length_replicate, List.length_nil, Nat.add_zero] at H5; refine rr_set 0 H5 rfl (by rw [List.length_map, List.length_range]; exact hlt) fun w5 S5 H6 => ?_
   have e6 := map_range_set (fun j => if j < p then List.replicate c.length 0 else ([] : List Nat)) (fun j => if j < p + 1 then List.replicate c.length 0 else ([] : List Nat)) hlt (fun j hj hjp => by
     by_cases q : j < p
     · rw [if_pos q, if_pos (by omega)]
     · rw [if_neg q, if_neg (by omega)])
   simp only [Nat.lt_succ_self, if_true] at e6; rw [List.set_cons_zero, e6] at H6; refine r_add1N (by omega) (r_ke ⟨⟨p + 1, rfl, hlt, S3.trans (S4.trans S5), H6⟩, ?_⟩); simp only [nv, RowKit.intOf, Int.toNat_natCast]; omega
 · obtain rfl : p = t := by omega
   have e0 : (List.range p).map (fun j => if j < p then List.replicate c.length 0 else ([] : List Nat)) = (List.range p).map fun j => filled (firstR c n p j) 0 c.length 0 :=
     map_range_congr _ _ fun j hj => by rw [if_pos hj, filled_zero]
   rw [e0] at H3; refine r_lnS (i + 1) H3 (by rw [List.getElem?_cons_succ]; exact hi) ?_
   refine r_loop2 (fun x y w' => ∃ u : Nat, x = nv (blw c n u) ∧ y = nv u ∧ u ≤ c.length ∧ Same w w' ∧ Holds w' (RR ov ((List.range p).map fun j => filled (firstR c n p j) 0 c.length u) :: L)) (fun _ y _ => c.length - (RowKit.intOf y).toNat)
     ⟨0, by unfold blw; simp, rfl, Nat.zero_le _, S3, H3⟩ ?_
   clear H3 S3 hi3 h e0; rintro _ _ _ w4 ⟨u, rfl, rfl, hu, S4, H4⟩; refine r_lss (r_ifD (fun h => ?_) fun h => ?_)
   · have hlt : u < c.length := by omega
     have hcu := hcx _ (List.getElem_mem hlt); refine r_getS (i + 1) H4 (by rw [List.getElem?_cons_succ]; exact hi) (x := c.getD u 0) (by rw [List.getD_eq_getElem?_getD, List.getElem?_eq_getElem hlt]; rfl) ?_; refine mine_calc hn hn2 hnl.2 ?_; refine rr_ln 0 H4 rfl ?_; rw [List.length_map, List.length_range]
     refine r_loop1 (fun x w' => ∃ j : Nat, x = nv j ∧ j ≤ p ∧ Same w w' ∧ Holds w' (RR ov ((List.range p).map fun z => filled (firstR c n p z) 0 c.length (if z < j then u + 1 else u)) :: L)) (fun x _ => p - (RowKit.intOf x).toNat)
       ⟨0, rfl, Nat.zero_le _, S4, by simpa using H4⟩ ?_
     clear H4 S4; rintro _ _ w5 ⟨j, rfl, hj, S5, H5⟩; refine r_lss (r_ifD (fun h2 => ?_) fun h2 => ?_)
     · have hjp : j < p := by omega
       have hfg := firstR_get (n := n) (t := p) (p := j) hlt; have hfl := firstR_len c n p j
       have hnext : ∀ z, z < p → z ≠ j → filled (firstR c n p z) 0 c.length (if z < j then u + 1 else u) = filled (firstR c n p z) 0 c.length (if z < j + 1 then u + 1 else u) := fun z _ hz => by
         by_cases q : z < j
         · rw [if_pos q, if_pos (by omega)]
         · rw [if_neg q, if_neg (by omega)]
       refine r_neq (r_ifN (fun q => ?_) fun q => ?_)
       · have hfv : firstV c n p j u = 15 := by unfold firstV; rw [if_neg (by omega)]
         rw [hfv] at hfg
         have hrow : ((List.range p).map fun z => filled (firstR c n p z) 0 c.length (if z < j then u + 1 else u))[j]? = some (filled (firstR c n p j) 0 c.length u) := by
           rw [map_range_get _ hjp, if_neg (by omega)]
         obtain ⟨x, R, hld, H6, _, hback, _⟩ := rr_open 0 H5 rfl hrow; refine hld _ _ fun _ hp_ => hp_ _ ?_; refine r_setS (xs := filled (firstR c n p j) 0 c.length u) 0 H6 15 rfl (by rw [filled_len (by omega) hfl]; exact hlt) rfl fun w6 S6 H7 => ?_; rw [List.set_cons_zero, filled_set hlt hfl hfg] at H7; have H8 := hback _ [] _ H7; rw [List.nil_append, List.set_cons_zero] at H8; have e := map_range_set (fun z => filled (firstR c n p z) 0 c.length (if z < j then u + 1 else u)) (fun z => filled (firstR c n p z) 0 c.length (if z < j + 1 then u + 1 else u)) hjp hnext; simp only [Nat.lt_succ_self, if_true] at e; rw [e] at H8; refine r_add1N (by omega) (r_ke ⟨⟨j + 1, rfl, hjp, S5.trans S6, H8⟩, ?_⟩); simp only [nv, RowKit.intOf, Int.toNat_natCast]; omega
       · have hfv : firstV c n p j u = 0 := by unfold firstV; rw [if_pos (by omega)]
         rw [hfv] at hfg; have hs := filled_same hlt hfl hfg; refine r_add1N (by omega) (r_ke ⟨⟨j + 1, rfl, hjp, S5, ?_⟩, ?_⟩)
         · have e : ((List.range p).map fun z => filled (firstR c n p z) 0 c.length (if z < j then u + 1 else u)) = (List.range p).map fun z => filled (firstR c n p z) 0 c.length (if z < j + 1 then u + 1 else u) :=
             map_range_congr _ _ fun z hz => by
               by_cases g : z = j
               · subst g; rw [if_neg (by omega), if_pos (by omega)]; exact hs
               · exact hnext z hz g
           rw [← e]; exact H5
         · simp only [nv, RowKit.intOf, Int.toNat_natCast]; omega
     · obtain rfl : j = p := by omega
       have e : ((List.range j).map fun z => filled (firstR c n j z) 0 c.length (if z < j then u + 1 else u)) = (List.range j).map fun z => filled (firstR c n j z) 0 c.length (u + 1) :=
         map_range_congr _ _ fun z hz => by rw [if_pos hz]
       rw [e] at H5
       have hbl : blw c n u ≤ n := by unfold blw; omega
       have hcg : c.getD u 0 ≤ 100000000 := by rw [List.getD_eq_getElem?_getD, List.getElem?_eq_getElem hlt]; exact hcu
       refine r_addN (by omega) ?_; refine r_sub1N (by omega) (by omega) (r_min ?_); rw [show min (((blw c n u + c.getD u 0 : Nat)) : Int) (((n - 1 : Nat)) : Int) = ((min (blw c n u + c.getD u 0) (n - 1) : Nat) : Int) by omega, blw_succ hlt]; refine r_add1N (by omega) (r_ke ⟨⟨u + 1, rfl, rfl, by omega, S5, H5⟩, ?_⟩); simp only [nv, RowKit.intOf, Int.toNat_natCast]; omega
   · obtain rfl : u = c.length := by omega
     have e : ((List.range p).map fun j => filled (firstR c n p j) 0 c.length c.length) = firstL c n p :=
       map_range_congr _ _ fun z hz => filled_all (firstR_len c n p z)
     rw [e] at H4; exact k _ _ S4 H4
theorem FirstD_spec {v : Value} {c : List Nat} {n i : Nat} (H : Holds w L) (hi : L[i]? = some (SL nv tI v c)) (hc : c.length ≤ 1000000) (hcx : ∀ x ∈ c, x ≤ 100000000) (hn : 1 ≤ n) (hn2 : n ≤ 100000000)
   (k : ∀ v' w', Same w w' → Holds w' (RR v' (firstL c n (num n)) :: L) → K v' w') : Cl Tryz.prog F.balerref12_First #[v, nv n] w K := by
 refine Tie.balerref12_First ?_; unfold Vcf.balerref12_First; refine NumberD_spec ?_; have hnl := num_lim n; generalize hnt : num n = t at *
 refine r_loop2 (fun o q w' => ∃ p : Nat, q = nv p ∧ p ≤ t ∧ Same w w' ∧ Holds w' (RR o ((List.range p).map (firstR c n t)) :: L)) (fun _ q _ => t - (RowKit.intOf q).toNat)
   ⟨0, rfl, Nat.zero_le _, .refl _, rr_nil H⟩ ?_
 clear H; rintro _ ov _ w3 ⟨p, rfl, hp, S3, H3⟩; refine r_lss (r_ifD (fun h => ?_) fun h => ?_)
 · have hlt : p < t := by omega
   refine r_lnS (i + 1) H3 (by rw [List.getElem?_cons_succ]; exact hi) ?_
   refine r_loop3 (fun l x y w' => ∃ (u z : Nat), x = nv z ∧ min z (n - 1) = blw c n u ∧ z ≤ 200000000 ∧ y = nv u ∧ u ≤ c.length ∧ Same w w' ∧ Holds w' (SL nv tI l ((firstR c n t p).take u) :: RR ov ((List.range p).map (firstR c n t)) :: L)) (fun _ _ y _ => c.length - (RowKit.intOf y).toNat)
     ⟨0, 0, rfl, by unfold blw; simp, by omega, rfl, Nat.zero_le _, S3, H3.nilSL nv tI⟩ ?_
   clear H3 S3; rintro _ lv _ _ w4 ⟨u, z, rfl, hz, hzl, rfl, hu, S4, H4⟩; refine r_lss (r_ifD (fun h2 => ?_) fun h2 => ?_)
   · have hlu : u < c.length := by omega
     have hcu := hcx _ (List.getElem_mem hlu)
     have hcg : c.getD u 0 ≤ 100000000 := by rw [List.getD_eq_getElem?_getD, List.getElem?_eq_getElem hlu]; exact hcu
     refine r_getS (i + 2) H4 (by rw [List.getElem?_cons_succ, List.getElem?_cons_succ]; exact hi) (x := c.getD u 0) (by rw [List.getD_eq_getElem?_getD, List.getElem?_eq_getElem hlu]; rfl) ?_; refine r_join1 (fun x w' => w4 = w' ∧ x = nv (blw c n u)) ?_ ?_
     rotate_left
     · refine r_sub1N (by omega) (by omega) (r_gtr (r_ifD (fun q => ?_) fun q => ?_))
       · refine r_sub1N (by omega) (by omega) (r_ke ⟨rfl, ?_⟩); rw [← hz, Nat.min_eq_right (by omega)]
       · refine r_ke ⟨rfl, ?_⟩; rw [← hz, Nat.min_eq_left (by omega)]
     rintro _ _ _ ⟨rfl, rfl⟩; have hfg := firstR_get (n := n) (t := t) (p := p) hlu
     have hgo : ∀ l' w', Same w4 w' → Holds w' (SL nv tI l' ((firstR c n t p).take u ++ [firstV c n t p u]) :: RR ov ((List.range p).map (firstR c n t)) :: L) → Holds w' (SL nv tI l' ((firstR c n t p).take (u + 1)) :: RR ov ((List.range p).map (firstR c n t)) :: L) := fun l' w' _ Hx => by
       rw [List.take_add_one, hfg]; exact Hx
     refine r_join1 (fun x w' => Same w4 w' ∧ Holds w' (SL nv tI x ((firstR c n t p).take (u + 1)) :: RR ov ((List.range p).map (firstR c n t)) :: L)) ?_ ?_
     rotate_left
     · refine mine_calc hn hn2 hnl.2 (r_eql (r_ifE (fun q => ?_) fun q => ?_))
       · refine r_app1 (f := nv) H4 0 rfl 0 (fun _ => rfl) (by rw [List.length_take, firstR_len]; omega) fun v' w5 S5 H5 => ?_; rw [List.set_cons_zero] at H5; refine r_ke ⟨S5, hgo _ _ S5 ?_⟩
         have e : firstV c n t p u = 0 := by unfold firstV; rw [if_pos (by omega)]
         rw [e]; exact H5
       · refine r_app1 (f := nv) H4 0 rfl 15 (fun _ => rfl) (by rw [List.length_take, firstR_len]; omega) fun v' w5 S5 H5 => ?_; rw [List.set_cons_zero] at H5; refine r_ke ⟨S5, hgo _ _ S5 ?_⟩
         have e : firstV c n t p u = 15 := by unfold firstV; rw [if_neg (by omega)]
         rw [e]; exact H5
     rintro _ l' w5 ⟨S5, H5⟩
     have hbl : blw c n u ≤ n := by unfold blw; omega
     refine r_addN (by omega) ?_; refine r_add1N (by omega) (r_ke ⟨⟨u + 1, _, rfl, blw_succ hlu, by omega, rfl, by omega, S4.trans S5, H5⟩, ?_⟩); simp only [nv, RowKit.intOf, Int.toNat_natCast]; omega
   · rw [List.take_of_length_le (by rw [firstR_len]; omega)] at H4; refine rr_app 0 H4 rfl (by rw [List.length_map, List.length_range]; omega) fun v2 w5 S5 H5 => ?_; rw [List.set_cons_zero] at H5; refine r_add1N (by omega) (r_ke ⟨⟨p + 1, rfl, by omega, S4.trans S5, ?_⟩, ?_⟩)
     · rw [List.range_succ, List.map_append]; exact H5
     · simp only [nv, RowKit.intOf, Int.toNat_natCast]; omega
 · obtain rfl : p = t := by omega
   exact k _ _ S3 H3
def bst (c : Nat → Nat) : Nat → Nat
 | 0 => 0
 | p + 1 => if c p < c (bst c p) then p else bst c p
def pk (g : List Nat) (ts : List (List Nat)) : Nat := bst (fun p => cost g (ts.getD p [])) ts.length
theorem bst_lt (c : Nat → Nat) : ∀ n, 0 < n → bst c n < n
 | 0, h => by omega
 | n + 1, _ => by
   rw [bst]; split
   · omega
   · rcases Nat.eq_zero_or_pos n with q | q
     · subst q; exact Nat.zero_lt_one
     · have := bst_lt c n q; omega
structure Tb (size : Nat) (ts : List (List Nat)) : Prop where
 n2 : 2 ≤ ts.length
 n6 : ts.length ≤ 6
 sz : ∀ t ∈ ts, t.length = size
 le : ∀ t ∈ ts, ∀ x ∈ t, x ≤ 20
theorem row_mem {ts : List (List Nat)} {p : Nat} (h : p < ts.length) : ts.getD p [] ∈ ts := by rw [List.getD_eq_getElem?_getD, List.getElem?_eq_getElem h]; exact List.getElem_mem h
theorem row_at {ts : List (List Nat)} {p : Nat} (h : p < ts.length) : ts[p]? = some (ts.getD p []) := by rw [List.getD_eq_getElem?_getD, List.getElem?_eq_getElem h]; rfl
theorem pick_spec {v tv : Value} {g : List Nat} {ts : List (List Nat)} {size i j : Nat} (H : Holds w L) (hi : L[i]? = some (SL nv tI v g)) (hj : L[j]? = some (RR tv ts)) (hij : i ≠ j) (hT : Tb size ts) (hs : size ≤ 258) (hg : g.length ≤ 50) (hgx : ∀ x ∈ g, x < size)
   (k : K (nv (pk g ts)) w) : Cl Tryz.prog F.tables_pick #[v, tv] w K := by
 refine Tie.tables_pick ?_; unfold Vcf.tables_pick; have h6 := hT.n6; have h2 := hT.n2; refine rr_ln j H hj ?_
 have hcl : ∀ p, p < ts.length → cost g (ts.getD p []) ≤ 1000 := fun p hp => by
   have := cost_le (hT.le _ (row_mem hp)) g; omega
 refine r_loop3 (fun b l x w' => ∃ (p m : Nat), b = nv (bst (fun p => cost g (ts.getD p [])) p) ∧ l = nv m ∧ x = nv p ∧ p ≤ ts.length ∧ (if p = 0 then m = 1099511627776 else m = cost g (ts.getD (bst (fun p => cost g (ts.getD p [])) p) [])) ∧ w = w') (fun _ _ x _ => ts.length - (RowKit.intOf x).toNat)
   ⟨0, 1099511627776, rfl, rfl, rfl, Nat.zero_le _, by rw [if_pos rfl], rfl⟩ ?_
 rintro _ _ _ _ _ ⟨p, m, rfl, rfl, rfl, hp, hm, rfl⟩; refine r_lss (r_ifD (fun h => ?_) fun h => ?_)
 · have hlt : p < ts.length := by omega
   have hq : ts[p]? = some (ts.getD p []) := by rw [List.getD_eq_getElem?_getD, List.getElem?_eq_getElem hlt]; rfl
   have hmem : ts.getD p [] ∈ ts := by rw [List.getD_eq_getElem?_getD, List.getElem?_eq_getElem hlt]; exact List.getElem_mem hlt
   have htl := hT.sz _ hmem; obtain ⟨x, R, hld, H6, _, _⟩ := rr_open j H hj hq; refine hld _ _ fun _ hp_ => hp_ _ ?_; refine Cost_spec H6 (i := i + 1) (j := 0) (by rw [List.getElem?_cons_succ, List.getElem?_set_ne (Ne.symm hij)]; exact hi) rfl (by omega) (by omega) (hT.le _ hmem) (fun x hx => by rw [htl]; exact hgx x hx) ?_; refine r_ex20 (r_ex21 ?_)
   have hbs : bst (fun p => cost g (ts.getD p [])) (p + 1) = if cost g (ts.getD p []) < cost g (ts.getD (bst (fun p => cost g (ts.getD p [])) p) []) then p else bst (fun p => cost g (ts.getD p [])) p := rfl
   have hc1 := hcl p hlt; generalize hb : bst (fun p => cost g (ts.getD p [])) p = b at *; refine r_lss (r_ifD (fun q => ?_) fun q => ?_)
   · refine r_add1N (by omega) (r_ke ⟨⟨p + 1, cost g (ts.getD p []), ?_, rfl, rfl, by omega, ?_, rfl⟩, ?_⟩)
     · rw [hbs]; rcases Nat.eq_zero_or_pos p with e | e
       · subst e; have : b = 0 := hb.symm; subst this; rw [if_neg (Nat.lt_irrefl _)]
       · rw [if_neg (by omega)] at hm; rw [if_pos (by omega)]
     · rw [if_neg (by omega), hbs]; rcases Nat.eq_zero_or_pos p with e | e
       · subst e; have : b = 0 := hb.symm; subst this; rw [if_neg (Nat.lt_irrefl _)]
       · rw [if_neg (by omega)] at hm; rw [if_pos (by omega)]
     · simp only [nv, RowKit.intOf, Int.toNat_natCast]; omega
   · have hp0 : p ≠ 0 := fun e => by rw [if_pos e] at hm; omega
     rw [if_neg hp0] at hm; refine r_add1N (by omega) (r_ke ⟨⟨p + 1, m, ?_, rfl, rfl, by omega, ?_, rfl⟩, ?_⟩)
     · rw [hbs, if_neg (by omega)]
     · rw [if_neg (by omega), hbs, if_neg (by omega)]; exact hm
     · simp only [nv, RowKit.intOf, Int.toNat_natCast]; omega
 · obtain rfl : p = ts.length := by omega
   exact k
theorem pickD_spec {v tv : Value} {g : List Nat} {ts : List (List Nat)} {size i j : Nat} (H : Holds w L) (hi : L[i]? = some (SL nv tI v g)) (hj : L[j]? = some (RR tv ts)) (hij : i ≠ j) (hT : Tb size ts) (hs : size ≤ 258) (hg : g.length ≤ 50) (hgx : ∀ x ∈ g, x < size)
   (k : ∀ w', Same w w' → Holds w' L → K (nv (pk g ts)) w') : Cl Tryz.prog F.balerref12_pick #[v, tv] w K := by
 refine Tie.balerref12_pick ?_; unfold Vcf.balerref12_pick; have h6 := hT.n6; have h2 := hT.n2; refine rr_ln j H hj ?_
 refine r_loop2 (fun b x w' => ∃ (p : Nat), b = nv (bst (fun p => cost g (ts.getD p [])) p) ∧ x = nv p ∧ p ≤ ts.length ∧ Same w w' ∧ Holds w' L) (fun _ x _ => ts.length - (RowKit.intOf x).toNat)
   ⟨0, rfl, rfl, Nat.zero_le _, .refl _, H⟩ ?_
 clear H; rintro _ _ _ w1 ⟨p, rfl, rfl, hp, S1, H1⟩; refine r_lss (r_ifD (fun h => ?_) fun h => ?_)
 · have hlt : p < ts.length := by omega
   have hget : ∀ q, q < ts.length → ts[q]? = some (ts.getD q []) ∧ ts.getD q [] ∈ ts := fun q hq => ⟨by rw [List.getD_eq_getElem?_getD, List.getElem?_eq_getElem hq]; rfl, by rw [List.getD_eq_getElem?_getD, List.getElem?_eq_getElem hq]; exact List.getElem_mem hq⟩
   have hbl : bst (fun p => cost g (ts.getD p [])) p < ts.length := by
     rcases Nat.eq_zero_or_pos p with e | e
     · subst e; show 0 < _; omega
     · have := bst_lt (fun p => cost g (ts.getD p [])) p e; omega
   have hbs : bst (fun p => cost g (ts.getD p [])) (p + 1) = if cost g (ts.getD p []) < cost g (ts.getD (bst (fun p => cost g (ts.getD p [])) p) []) then p else bst (fun p => cost g (ts.getD p [])) p := rfl
   generalize hb : bst (fun p => cost g (ts.getD p [])) p = b at *; obtain ⟨x, R, hld, H6, hcl, _⟩ := rr_open j H1 hj (hget p hlt).1; refine hld _ _ fun _ hp_ => hp_ _ ?_; have H1' := hcl [] _ H6; refine r_dr H6 fun w2 S2 H7 => ?_; have hL2 : Holds w2 L := hcl [] _ H7; refine CostD_spec H7 (i := i + 1) (j := 0) (by rw [List.getElem?_cons_succ, List.getElem?_set_ne (Ne.symm hij)]; exact hi) rfl (by omega) (by have := hT.sz _ (hget p hlt).2; omega) (hT.le _ (hget p hlt).2) (fun x hx => by rw [hT.sz _ (hget p hlt).2]; exact hgx x hx) ?_; obtain ⟨y, R2, hld2, H8, hcl2, _⟩ := rr_open j hL2 hj (hget b hbl).1; refine hld2 _ _ fun _ hp_ => hp_ _ (r_rk (hp_ _ rfl) ?_); refine CostD_spec H8 (i := i + 1) (j := 0) (by rw [List.getElem?_cons_succ, List.getElem?_set_ne (Ne.symm hij)]; exact hi) rfl (by omega) (by have := hT.sz _ (hget b hbl).2; omega) (hT.le _ (hget b hbl).2) (fun x hx => by rw [hT.sz _ (hget b hbl).2]; exact hgx x hx) ?_; refine r_lss (r_ifD (fun q => ?_) fun q => ?_)
   · refine r_add1N (by omega) (r_ke ⟨⟨p + 1, by rw [hbs, if_pos (by omega)], rfl, by omega, S1.trans S2, hL2⟩, ?_⟩); simp only [nv, RowKit.intOf, Int.toNat_natCast]; omega
   · refine r_add1N (by omega) (r_ke ⟨⟨p + 1, by rw [hbs, if_neg (by omega)], rfl, by omega, S1.trans S2, hL2⟩, ?_⟩); simp only [nv, RowKit.intOf, Int.toNat_natCast]; omega
 · obtain rfl : p = ts.length := by omega
   exact k _ S1 H1
end T12
namespace S09
open Go.Mh Go.Ms
variable {w : World} {L : List HProp} {K : Value → World → Prop} {v f : Value} {W : List Nat}
theorem r_subN {a b : Nat} {K : Value → Prop} (h1 : b ≤ a) (h2 : a ≤ 1000000000000) (h : K (.int .i64 ((a - b : Nat) : Int))) : Bp .sub (.int .i64 (a : Int)) (.int .i64 (b : Int)) K :=
 r_sub (by omega) (by omega) (by rw [show (a : Int) - (b : Int) = ((a - b : Nat) : Int) by omega]; exact h)
theorem swapRange_spec {A U M V B : List Nat} {a b n : Nat} (H : Holds w (SL nv tI v (A ++ (U ++ (M ++ (V ++ B)))) :: L)) (ha : A.length = a) (hu : U.length = n) (hm : a + n + M.length = b) (hv : V.length = n) (hb : b + n ≤ 1000000000)
   (k : ∀ w', Same w w' → Holds w' (SL nv tI v (A ++ (V ++ (M ++ (U ++ B)))) :: L) → K (.tuple #[]) w') : Cl Tryz.prog F.slices_swapRangeCmpFunc_int #[v, nv a, nv b, nv n, f] w K := by
 refine Tie.slices_swapRangeCmpFunc_int ?_; unfold Vcf.slices_swapRangeCmpFunc_int
 refine r_loop1 (fun x w' => ∃ i : Nat, i ≤ n ∧ x = nv i ∧ Same w w' ∧ Holds w' (SL nv tI v (A ++ (V.take i ++ (U.drop i ++ (M ++ (U.take i ++ (V.drop i ++ B)))))) :: L)) (fun x _ => n - (RowKit.intOf x).toNat)
   ⟨0, Nat.zero_le _, rfl, .refl _, by simpa using H⟩ ?_
 clear H; rintro _ _ w1 ⟨i, hi, rfl, S1, H1⟩; refine r_lss (r_ifD (fun h => ?_) fun h => ?_)
 rotate_left
 · obtain rfl : i = n := by omega
   refine k _ S1 ?_; rw [List.take_of_length_le (by omega), List.drop_of_length_le (by omega), List.take_of_length_le (by omega), List.drop_of_length_le (by omega)] at H1; simpa using H1
 have hU : i < U.length := by omega
 have hV : i < V.length := by omega
 rw [drop_at hU, drop_at hV, show A ++ (V.take i ++ (U[i] :: U.drop (i + 1) ++ (M ++ (U.take i ++ (V[i] :: V.drop (i + 1) ++ B))))) = (A ++ V.take i) ++ U[i] :: ((U.drop (i + 1) ++ (M ++ U.take i)) ++ V[i] :: (V.drop (i + 1) ++ B)) by simp only [List.append_assoc, List.cons_append]] at H1; obtain ⟨e1, e2, e3, e4, e5⟩ := sw (P := A ++ V.take i) (Q := U.drop (i + 1) ++ (M ++ U.take i)) (R := V.drop (i + 1) ++ B) (x := U[i]) (y := V[i]) (p := a + i) (q := b + i) (by simp; omega) (by simp; omega); refine r_dr H1 fun w2 S2 H2 => ?_; refine r_addN (by omega) (r_addN (by omega) (r_addN (by omega) ?_)); refine r_getS 0 H2 rfl e2 ?_; refine r_addN (by omega) ?_; refine r_getS 0 H2 rfl e1 ?_; refine r_setS 0 H2 V[i] rfl e4 rfl fun w3 S3 H3 => ?_; refine r_setS 0 H3 U[i] rfl e5 rfl fun w4 S4 H4 => ?_; refine r_add1N (by omega) ?_; refine r_ke ⟨⟨i + 1, by omega, rfl, S1.trans (S2.trans (S3.trans S4)), ?_⟩, ?_⟩
 · replace H4 : Holds w4 (SL nv tI v (((A ++ V.take i ++ U[i] :: ((U.drop (i + 1) ++ (M ++ U.take i)) ++ V[i] :: (V.drop (i + 1) ++ B))).set (a + i) V[i]).set (b + i) U[i]) :: L) := H4; rw [e3] at H4; rw [take_at hU, take_at hV]; simpa only [List.append_assoc, List.cons_append, List.nil_append] using H4
 · simp only [nv, RowKit.intOf, Int.toNat_natCast]; omega
theorem rotate_spec {A U V B : List Nat} {a m b : Nat} (H : Holds w (SL nv tI v (A ++ (U ++ (V ++ B))) :: L)) (ha : A.length = a) (hm : a + U.length = m) (hb : m + V.length = b) (hU : U ≠ []) (hV : V ≠ []) (hbb : b ≤ 100000000)
   (k : ∀ w', Same w w' → Holds w' (SL nv tI v (A ++ (V ++ (U ++ B))) :: L) → K (.tuple #[]) w') : Cl Tryz.prog F.slices_rotateCmpFunc_int #[v, nv a, nv m, nv b, f] w K := by
 refine Tie.slices_rotateCmpFunc_int ?_; unfold Vcf.slices_rotateCmpFunc_int; have hU0 := List.length_pos_iff.2 hU; have hV0 := List.length_pos_iff.2 hV; refine r_subN (by omega) (by omega) (r_subN (by omega) (by omega) ?_)
 refine r_loop2 (fun x y w' => ∃ P U' V' S : List Nat, x = nv U'.length ∧ y = nv V'.length ∧ 0 < U'.length ∧ 0 < V'.length ∧ P.length + U'.length = U.length ∧ V'.length + S.length = V.length ∧ P ++ (V' ++ (U' ++ S)) = V ++ U ∧ Same w w' ∧
     Holds w' (SL nv tI v (A ++ (P ++ (U' ++ (V' ++ (S ++ B))))) :: L)) (fun x y _ => (RowKit.intOf x).toNat + (RowKit.intOf y).toNat)
   ⟨[], U, V, [], by rw [show m - a = U.length by omega], by rw [show b - m = V.length by omega], hU0, hV0, by simp, by simp, by simp, .refl _, by simpa using H⟩ ?_
 clear H; rintro _ _ _ w1 ⟨P, U', V', S, rfl, rfl, h1, h2, h3, h4, h5, S1, H1⟩; refine r_neq (r_ifN (fun h => ?_) fun h => ?_)
 rotate_left
 · refine r_subN (by omega) (by omega) ?_; refine swapRange_spec (A := A ++ P) (U := U') (M := []) (V := V') (B := S ++ B) (by simpa using H1) (by simp; omega) rfl (by simp; omega) (by omega) (by omega) fun w2 S2 H2 => ?_; refine k _ (S1.trans S2) ?_; rw [show A ++ (V ++ (U ++ B)) = A ++ ((V ++ U) ++ B) by simp, ← h5]; simpa using H2
 refine r_gtr (r_ifD (fun hg => ?_) fun hg => ?_)
 · obtain ⟨u1, u2, rfl, e1, e2⟩ := cut_le (D := U') (i := V'.length) (by omega); rw [List.length_append] at *; refine r_subN (by omega) (by omega) ?_; refine swapRange_spec (A := A ++ P) (U := u1) (M := u2) (V := V') (B := S ++ B) (by simpa using H1) (by simp; omega) e1 (by omega) rfl (by omega) fun w2 S2 H2 => ?_; refine r_subN (by omega) (by omega) ?_; refine r_ke ⟨⟨P ++ V', u2, u1, S, by rw [show u1.length + u2.length - V'.length = u2.length by omega], by rw [e1], by omega, by omega, by rw [List.length_append]; omega, by omega, by rw [← h5]; simp, S1.trans S2, by simpa using H2⟩, ?_⟩; simp only [nv, RowKit.intOf, Int.toNat_natCast]; omega
 · obtain ⟨v1, v2, rfl, e1, e2⟩ := cut_le (D := V') (i := V'.length - U'.length) (by omega); rw [List.length_append] at *; refine r_subN (by omega) (by omega) (r_addN (by omega) (r_subN (by omega) (by omega) ?_)); refine swapRange_spec (A := A ++ P) (U := U') (M := v1) (V := v2) (B := S ++ B) (by simpa using H1) (by simp; omega) rfl (by omega) (by omega) (by omega) fun w2 S2 H2 => ?_; refine r_subN (by omega) (by omega) ?_; refine r_ke ⟨⟨P, v2, v1, U' ++ S, by rw [show v2.length = U'.length by omega], by rw [show v1.length + v2.length - U'.length = v1.length by omega], by omega, by omega, by omega, by rw [List.length_append]; omega, by rw [← h5]; simp, S1.trans S2, by simpa using H2⟩, ?_⟩; simp only [nv, RowKit.intOf, Int.toNat_natCast]; omega
def CmpOk (W : List Nat) (v f : Value) (L : List HProp) : Prop := ∀ {D : List Nat} {w : World} {x y : Nat} {Q : Value → World → Prop}, Holds w (SL nv tI v D :: L) → x < W.length → y < W.length →
 (∀ (z : Int) w', (z < 0 ↔ W.getD x 0 < W.getD y 0) → Same w w' → Holds w' (SL nv tI v D :: L) → Q (iv z) w') → Inv Tryz.prog (do let d ← Deferred.ofValue f #[nv x, nv y]; invoke d.target d.args) w Q
theorem less_of {x y : Nat} (h : y < x) : W.getD x 0 < W.getD y 0 ↔ lt W x y := by unfold lt; omega
theorem lt_of_not {x y : Nat} (h : y < x) (hn : ¬ W.getD x 0 < W.getD y 0) : lt W y x := by unfold lt; omega
theorem insertion_spec {A X B : List Nat} {a b : Nat} (hc : CmpOk W v f L) (H : Holds w (SL nv tI v (A ++ (X ++ B)) :: L)) (ha : A.length = a) (hb : a + X.length = b) (hx : ∀ x ∈ X, x < W.length) (hn : X.Pairwise (· < ·)) (hbb : b ≤ 100000000)
   (k : ∀ Z w', Z.Perm X → Srt W Z → Same w w' → Holds w' (SL nv tI v (A ++ (Z ++ B)) :: L) → K (.tuple #[]) w') : Cl Tryz.prog F.slices_insertionSortCmpFunc_int #[v, nv a, nv b, f] w K := by
 refine Tie.slices_insertionSortCmpFunc_int ?_; unfold Vcf.slices_insertionSortCmpFunc_int; refine r_add1N (by omega) ?_
 refine r_loop1 (fun x w' => ∃ (n : Nat) (Z : List Nat), x = nv (a + 1 + n) ∧ n ≤ X.length ∧ Z.Perm (X.take (n + 1)) ∧ Srt W Z ∧ Same w w' ∧ Holds w' (SL nv tI v (A ++ (Z ++ (X.drop (n + 1) ++ B))) :: L)) (fun x _ => b - (RowKit.intOf x).toNat)
   ⟨0, X.take 1, rfl, Nat.zero_le _, .refl _, by
     cases X with
     | nil => exact List.Pairwise.nil
     | cons x l => exact List.pairwise_singleton _ _, .refl _, by rw [← List.append_assoc (X.take 1), List.take_append_drop]; exact H⟩ ?_
 clear H; rintro _ _ w1 ⟨n, Z, rfl, hnX, hp, hs, S1, H1⟩; refine r_lss (r_ifD (fun h => ?_) fun h => ?_)
 rotate_left
 · rw [List.take_of_length_le (by omega)] at hp; rw [List.drop_of_length_le (by omega)] at H1; exact k Z _ hp hs S1 H1
 have hlt : n + 1 < X.length := by omega
 have hZl : Z.length = n + 1 := by rw [hp.length_eq, List.length_take]; omega
 have hxW : X[n + 1] < W.length := hx _ (List.getElem_mem hlt)
 have hZx : ∀ z ∈ Z, z < X[n + 1] ∧ z < W.length := by
   intro z hz; have := hp.mem_iff.1 hz; refine ⟨?_, hx _ (List.mem_of_mem_take this)⟩; obtain ⟨i, hi, rfl⟩ := List.getElem_of_mem this; rw [List.length_take] at hi; rw [List.getElem_take]; exact List.pairwise_iff_getElem.1 hn i (n + 1) (by omega) hlt (by omega)
 rw [drop_at hlt] at H1
 have hpx : (X.take (n + 1 + 1)).Perm (X[n + 1] :: Z) := by
   rw [take_at hlt]; exact (List.perm_append_singleton _ _).trans (hp.symm.cons _)
 generalize X[n + 1] = x at *; generalize hT : X.drop (n + 1 + 1) = T at *
 refine r_loop1 (fun y w' => ∃ Z1 Z2 : List Nat, y = nv (a + Z1.length) ∧ Z = Z1 ++ Z2 ∧ (∀ z ∈ Z2, lt W x z) ∧ Same w w' ∧ Holds w' (SL nv tI v (A ++ (Z1 ++ (x :: (Z2 ++ (T ++ B))))) :: L)) (fun y _ => (RowKit.intOf y).toNat)
   ⟨Z, [], by rw [hZl, show a + 1 + n = a + (n + 1) by omega], by simp, by simp, S1, by simpa using H1⟩ ?_
 clear H1 S1; rintro _ _ w2 ⟨Z1, Z2, rfl, rfl, hZ2, S2, H2⟩; rw [List.length_append] at hZl; refine r_join1 (fun t w' => Same w w' ∧ Holds w' (SL nv tI v (A ++ (Z1 ++ (x :: (Z2 ++ (T ++ B))))) :: L) ∧ ((t = .bool false ∧ ∀ z ∈ Z1, lt W z x) ∨ (t = .bool true ∧ ∃ Z1' z, Z1 = Z1' ++ [z] ∧ lt W x z))) ?_ ?_
 rotate_left
 · refine r_dr H2 fun w3 S3 H3 => ?_; refine r_gtr (r_ifD (fun h => ?_) fun h => ?_)
   · have hne : Z1 ≠ [] := fun e => by rw [e, List.length_nil] at h; omega
     obtain ⟨Z1', z, rfl⟩ : ∃ Z1' z, Z1 = Z1' ++ [z] := ⟨Z1.dropLast, Z1.getLast hne, (List.dropLast_concat_getLast hne).symm⟩; have hz := hZx z (by simp); rw [List.length_append, List.length_singleton] at *
     have e1 : (A ++ (Z1' ++ [z] ++ (x :: (Z2 ++ (T ++ B)))))[a + (Z1'.length + 1)]? = some x := by
       rw [show A ++ (Z1' ++ [z] ++ (x :: (Z2 ++ (T ++ B)))) = (A ++ Z1' ++ [z]) ++ x :: (Z2 ++ (T ++ B)) by simp]; exact mid_at (by simp; omega)
     have e2 : (A ++ (Z1' ++ [z] ++ (x :: (Z2 ++ (T ++ B)))))[a + (Z1'.length + 1) - 1]? = some z := by
       rw [show A ++ (Z1' ++ [z] ++ (x :: (Z2 ++ (T ++ B)))) = (A ++ Z1') ++ z :: (x :: (Z2 ++ (T ++ B))) by simp]; exact mid_at (by simp; omega)
     refine r_getS 0 H3 rfl e1 ?_; refine r_sub1N (by omega) (by omega) ?_; refine r_getS 0 H3 rfl e2 ?_; refine hc H3 hxW hz.2 fun c w4 hcc S4 H4 => ?_; refine r_lss (r_ke ⟨S2.trans (S3.trans S4), H4, ?_⟩)
     by_cases q : c < 0
     · exact .inr ⟨by rw [decide_eq_true q], Z1', z, rfl, (less_of hz.1).1 (hcc.1 q)⟩
     · refine .inl ⟨by rw [decide_eq_false q], ?_⟩; have hl := lt_of_not hz.1 fun e => q (hcc.2 e); have h5 := (List.pairwise_append.1 hs).1; intro u hu; rcases List.mem_append.1 hu with hu | hu
       · exact lt_trans ((List.pairwise_append.1 h5).2.2 u hu z (by simp)) hl
       · rw [List.mem_singleton.1 hu]; exact hl
   · have : Z1 = [] := List.eq_nil_of_length_eq_zero (by omega); subst this; exact r_ke ⟨S2.trans S3, H3, .inl ⟨rfl, by simp⟩⟩
 rintro _ _ w3 ⟨S3, H3, ⟨rfl, hz1⟩ | ⟨rfl, Z1', z, rfl, hxz⟩⟩
 · refine r_vf ?_; refine r_add1N (by omega) ?_; refine r_ke ⟨⟨n + 1, Z1 ++ x :: Z2, by rw [show a + 1 + (n + 1) = a + 1 + n + 1 by omega], by omega, ?_, srt_ins hs hz1 hZ2, S3, ?_⟩, ?_⟩
   · exact List.perm_middle.trans hpx.symm
   · rw [hT]; simpa using H3
   · simp only [nv, RowKit.intOf, Int.toNat_natCast]; omega
 · refine r_vt ?_; rw [List.length_append, List.length_singleton] at *; rw [show A ++ (Z1' ++ [z] ++ (x :: (Z2 ++ (T ++ B)))) = (A ++ Z1') ++ z :: ([] ++ x :: (Z2 ++ (T ++ B))) by simp] at H3; obtain ⟨e1, e2, _, _, _⟩ := sw (P := A ++ Z1') (Q := []) (R := Z2 ++ (T ++ B)) (x := z) (y := x) (p := a + (Z1'.length + 1) - 1) (q := a + (Z1'.length + 1)) (by simp; omega) (by rw [List.length_nil]; omega); obtain ⟨e3, e4, e5⟩ := sw' (P := A ++ Z1') (Q := []) (R := Z2 ++ (T ++ B)) (x := z) (y := x) (p := a + (Z1'.length + 1) - 1) (q := a + (Z1'.length + 1)) (by simp; omega) (by rw [List.length_nil]; omega); refine r_dr H3 fun w4 S4 H4 => ?_; refine r_sub1N (by omega) (by omega) (r_sub1N (by omega) (by omega) ?_); refine r_getS 0 H4 rfl e1 (r_getS 0 H4 rfl e2 ?_); refine r_setS 0 H4 z rfl e4 rfl fun w5 S5 H5 => ?_; refine r_setS 0 H5 x rfl e5 rfl fun w6 S6 H6 => ?_; refine r_sub1N (by omega) (by omega) ?_; refine r_ke ⟨⟨Z1', z :: Z2, by rw [show a + (Z1'.length + 1) - 1 = a + Z1'.length by omega], by simp, ?_, S3.trans (S4.trans (S5.trans S6)), ?_⟩, ?_⟩
   · intro u hu; rcases List.mem_cons.1 hu with rfl | hu
     · exact hxz
     · exact hZ2 u hu
   · replace H6 : Holds w6 (SL nv tI v (((A ++ Z1' ++ z :: ([] ++ x :: (Z2 ++ (T ++ B)))).set (a + (Z1'.length + 1)) z).set (a + (Z1'.length + 1) - 1) x) :: L) := H6; rw [e3] at H6; simpa using H6
   · simp only [nv, RowKit.intOf, Int.toNat_natCast]; omega
theorem half_rule {s : Nat} {K : Value → Prop} (hs : s ≤ 1000000000) (h : K (nv (s / 2))) : Ci .u64 (.int .i64 (s : Int)) fun y => Bp .shr y (.int .u64 1) fun z => Ci .i64 z K := by
 refine r_ciu64 (by omega) (by omega) ?_; refine r_shrU (n := 1) (by decide) ?_; exact r_ci64 (by omega) (by omega) h
theorem symX {x : Nat} {A Y B : List Nat} {a m b : Nat} (hc : CmpOk W v f L) (H : Holds w (SL nv tI v (A ++ ([x] ++ (Y ++ B))) :: L)) (ha : A.length = a) (hm : a + 1 = m) (hb : m + Y.length = b) (hs : Srt W Y) (hxW : x < W.length) (hY : ∀ y ∈ Y, x < y ∧ y < W.length) (hbb : b ≤ 100000000)
   (k : ∀ Z w', Z.Perm (x :: Y) → Srt W Z → Same w w' → Holds w' (SL nv tI v (A ++ (Z ++ B)) :: L) → K (.tuple #[]) w') : Cl Tryz.prog F.slices_symMergeCmpFunc_int #[v, nv a, nv m, nv b, f] w K := by
 refine Tie.slices_symMergeCmpFunc_int ?_; unfold Vcf.slices_symMergeCmpFunc_int; refine r_subN (by omega) (by omega) ?_; refine r_eql (r_vtE (by omega) ?_)
 refine r_loop2 (fun i j w' => ∃ p q : Nat, i = nv (m + p) ∧ j = nv (m + q) ∧ p ≤ q ∧ q ≤ Y.length ∧ (∀ y ∈ Y.take p, lt W y x) ∧ (∀ y ∈ Y.drop q, lt W x y) ∧ Same w w' ∧ Holds w' (SL nv tI v (A ++ ([x] ++ (Y ++ B))) :: L)) (fun i j _ => (RowKit.intOf j).toNat - (RowKit.intOf i).toNat)
   ⟨0, Y.length, rfl, by rw [hb], Nat.zero_le _, Nat.le_refl _, by simp, by simp, .refl _, H⟩ ?_
 clear H; rintro _ _ _ w1 ⟨p, q, rfl, rfl, hpq, hq, h1, h2, S1, H1⟩; refine r_lss (r_ifD (fun h => ?_) fun h => ?_)
 · have hlt : p < q := by omega
   refine r_addN (by omega) (half_rule (by omega) ?_); rw [show (m + p + (m + q)) / 2 = m + (p + q) / 2 by omega]
   have hc1 : p ≤ (p + q) / 2 := by omega
   have hc2 : (p + q) / 2 < q := by omega
   generalize (p + q) / 2 = c at *
   have hcY : c < Y.length := by omega
   have hy := hY _ (List.getElem_mem hcY)
   have e1 : (A ++ ([x] ++ (Y ++ B)))[m + c]? = some Y[c] := by
     rw [← List.append_assoc A]; exact mid_in (by simp; omega) hcY
   have e2 : (A ++ ([x] ++ (Y ++ B)))[a]? = some x := mid_at ha; refine r_dr H1 fun w2 S2 H2 => ?_; refine r_getS 0 H2 rfl e1 (r_getS 0 H2 rfl e2 ?_); refine hc H2 hy.2 hxW fun z w3 hz S3 H3 => ?_; refine r_lss (r_ifD (fun hl => ?_) fun hl => ?_)
   · refine r_add1N (by omega) (r_ke ⟨⟨c + 1, q, rfl, rfl, by omega, hq, all_before hs (fun y e => ?_) hcY, h2, S1.trans (S2.trans S3), H3⟩, ?_⟩)
     · rw [List.getElem?_eq_getElem hcY] at e; cases e; exact (less_of hy.1).1 (hz.1 hl)
     · simp only [nv, RowKit.intOf, Int.toNat_natCast]; omega
   · refine r_ke ⟨⟨p, c, rfl, rfl, by omega, by omega, h1, all_behind hs fun y e => ?_, S1.trans (S2.trans S3), H3⟩, ?_⟩
     · rw [List.getElem?_eq_getElem hcY] at e; cases e; exact lt_of_not hy.1 fun e => hl (hz.2 e)
     · simp only [nv, RowKit.intOf, Int.toNat_natCast]; omega
 obtain rfl : p = q := by omega
 refine r_loop1 (fun y w' => ∃ t : Nat, y = nv (a + t) ∧ t ≤ p ∧ Same w w' ∧ Holds w' (SL nv tI v (A ++ (Y.take t ++ (x :: (Y.drop t ++ B)))) :: L)) (fun y _ => b - (RowKit.intOf y).toNat)
   ⟨0, rfl, Nat.zero_le _, S1, by simpa using H1⟩ ?_
 clear H1 S1; rintro _ _ w2 ⟨t, rfl, htp, S2, H2⟩; refine r_sub1N (by omega) (by omega) (r_lss (r_ifD (fun hl => ?_) fun hl => ?_))
 · have hlt : t < p := by omega
   have htY : t < Y.length := by omega
   rw [drop_at htY, show A ++ (Y.take t ++ (x :: (Y[t] :: Y.drop (t + 1) ++ B))) = (A ++ Y.take t) ++ x :: ([] ++ Y[t] :: (Y.drop (t + 1) ++ B)) by simp only [List.append_assoc, List.cons_append, List.nil_append]] at H2; obtain ⟨e1, e2, e3, e4, e5⟩ := sw (P := A ++ Y.take t) (Q := []) (R := Y.drop (t + 1) ++ B) (x := x) (y := Y[t]) (p := a + t) (q := a + t + 1) (by simp; omega) (by rw [List.length_nil]); refine r_dr H2 fun w3 S3 H3 => ?_; refine r_add1N (by omega) (r_add1N (by omega) ?_); refine r_getS 0 H3 rfl e2 (r_getS 0 H3 rfl e1 ?_); refine r_setS 0 H3 Y[t] rfl e4 rfl fun w4 S4 H4 => ?_; refine r_setS 0 H4 x rfl e5 rfl fun w5 S5 H5 => ?_; refine r_add1N (by omega) (r_ke ⟨⟨t + 1, rfl, by omega, S2.trans (S3.trans (S4.trans S5)), ?_⟩, ?_⟩)
   · replace H5 : Holds w5 (SL nv tI v (((A ++ Y.take t ++ x :: ([] ++ Y[t] :: (Y.drop (t + 1) ++ B))).set (a + t) Y[t]).set (a + t + 1) x) :: L) := H5; rw [e3] at H5; rw [take_at htY]; simpa only [List.append_assoc, List.cons_append, List.nil_append] using H5
   · simp only [nv, RowKit.intOf, Int.toNat_natCast]; omega
 · obtain rfl : t = p := by omega
   refine k (Y.take t ++ x :: Y.drop t) _ ?_ (srt_ins (by rw [List.take_append_drop]; exact hs) h1 h2) S2 (by simpa only [List.append_assoc, List.cons_append] using H2); refine List.perm_middle.trans ?_; rw [List.take_append_drop]
theorem symY {y : Nat} {A X B : List Nat} {a m b : Nat} (hc : CmpOk W v f L) (H : Holds w (SL nv tI v (A ++ (X ++ ([y] ++ B))) :: L)) (ha : A.length = a) (hm : a + X.length = m) (hb : m + 1 = b) (hX2 : X.length ≠ 1) (hs : Srt W X) (hyW : y < W.length) (hX : ∀ x ∈ X, x < y ∧ x < W.length) (hbb : b ≤ 100000000)
   (k : ∀ Z w', Z.Perm (X ++ [y]) → Srt W Z → Same w w' → Holds w' (SL nv tI v (A ++ (Z ++ B)) :: L) → K (.tuple #[]) w') : Cl Tryz.prog F.slices_symMergeCmpFunc_int #[v, nv a, nv m, nv b, f] w K := by
 refine Tie.slices_symMergeCmpFunc_int ?_; unfold Vcf.slices_symMergeCmpFunc_int; refine r_subN (by omega) (by omega) ?_; refine r_eql (r_vfE (by omega) ?_); refine r_subN (by omega) (by omega) ?_; refine r_eql (r_vtE (by omega) ?_)
 refine r_loop2 (fun i j w' => ∃ p q : Nat, i = nv (a + p) ∧ j = nv (a + q) ∧ p ≤ q ∧ q ≤ X.length ∧ (∀ x ∈ X.take p, lt W x y) ∧ (∀ x ∈ X.drop q, lt W y x) ∧ Same w w' ∧ Holds w' (SL nv tI v (A ++ (X ++ ([y] ++ B))) :: L)) (fun i j _ => (RowKit.intOf j).toNat - (RowKit.intOf i).toNat)
   ⟨0, X.length, rfl, by rw [hm], Nat.zero_le _, Nat.le_refl _, by simp, by simp, .refl _, H⟩ ?_
 clear H; rintro _ _ _ w1 ⟨p, q, rfl, rfl, hpq, hq, h1, h2, S1, H1⟩; refine r_lss (r_ifD (fun h => ?_) fun h => ?_)
 · have hlt : p < q := by omega
   refine r_addN (by omega) (half_rule (by omega) ?_); rw [show (a + p + (a + q)) / 2 = a + (p + q) / 2 by omega]
   have hc1 : p ≤ (p + q) / 2 := by omega
   have hc2 : (p + q) / 2 < q := by omega
   generalize (p + q) / 2 = c at *
   have hcX : c < X.length := by omega
   have hx := hX _ (List.getElem_mem hcX)
   have e1 : (A ++ (X ++ ([y] ++ B)))[a + c]? = some X[c] := by
     exact mid_in ha hcX
   have e2 : (A ++ (X ++ ([y] ++ B)))[m]? = some y := by
     rw [show A ++ (X ++ ([y] ++ B)) = (A ++ X) ++ y :: B by simp]; exact mid_at (by simp; omega)
   refine r_dr H1 fun w2 S2 H2 => ?_; refine r_getS 0 H2 rfl e2 (r_getS 0 H2 rfl e1 ?_); refine hc H2 hyW hx.2 fun z w3 hz S3 H3 => ?_; refine r_lss ?_
   by_cases hl : z < 0
   · rw [decide_eq_true hl]; refine r_notT (r_vf ?_); refine r_ke ⟨⟨p, c, rfl, rfl, by omega, by omega, h1, all_behind hs fun x e => ?_, S1.trans (S2.trans S3), H3⟩, ?_⟩
     · rw [List.getElem?_eq_getElem hcX] at e; cases e; exact (less_of hx.1).1 (hz.1 hl)
     · simp only [nv, RowKit.intOf, Int.toNat_natCast]; omega
   · rw [decide_eq_false hl]; refine r_notF (r_vt ?_); refine r_add1N (by omega) (r_ke ⟨⟨c + 1, q, rfl, rfl, by omega, hq, all_before hs (fun x e => ?_) hcX, h2, S1.trans (S2.trans S3), H3⟩, ?_⟩)
     · rw [List.getElem?_eq_getElem hcX] at e; cases e; exact lt_of_not hx.1 fun e => hl (hz.2 e)
     · simp only [nv, RowKit.intOf, Int.toNat_natCast]; omega
 obtain rfl : p = q := by omega
 refine r_loop1 (fun x w' => ∃ t : Nat, x = nv (a + t) ∧ p ≤ t ∧ t ≤ X.length ∧ Same w w' ∧ Holds w' (SL nv tI v (A ++ (X.take t ++ (y :: (X.drop t ++ B)))) :: L)) (fun x _ => (RowKit.intOf x).toNat)
   ⟨X.length, by rw [hm], hq, Nat.le_refl _, S1, by simpa using H1⟩ ?_
 clear H1 S1; rintro _ _ w2 ⟨t, rfl, htp, htX, S2, H2⟩; refine r_gtr (r_ifD (fun hl => ?_) fun hl => ?_)
 · have hlt : p < t := by omega
   obtain ⟨u, rfl⟩ : ∃ u, t = u + 1 := ⟨t - 1, by omega⟩
   have hu : u < X.length := by omega
   rw [take_at hu, show A ++ (X.take u ++ [X[u]] ++ (y :: (X.drop (u + 1) ++ B))) = (A ++ X.take u) ++ X[u] :: ([] ++ y :: (X.drop (u + 1) ++ B)) by simp only [List.append_assoc, List.cons_append, List.nil_append]] at H2; obtain ⟨e1, e2, _, _, _⟩ := sw (P := A ++ X.take u) (Q := []) (R := X.drop (u + 1) ++ B) (x := X[u]) (y := y) (p := a + (u + 1) - 1) (q := a + (u + 1)) (by simp; omega) (by rw [List.length_nil]; omega); obtain ⟨e3, e4, e5⟩ := sw' (P := A ++ X.take u) (Q := []) (R := X.drop (u + 1) ++ B) (x := X[u]) (y := y) (p := a + (u + 1) - 1) (q := a + (u + 1)) (by simp; omega) (by rw [List.length_nil]; omega); refine r_dr H2 fun w3 S3 H3 => ?_; refine r_sub1N (by omega) (by omega) (r_sub1N (by omega) (by omega) ?_); refine r_getS 0 H3 rfl e1 (r_getS 0 H3 rfl e2 ?_); refine r_setS 0 H3 X[u] rfl e4 rfl fun w4 S4 H4 => ?_; refine r_setS 0 H4 y rfl e5 rfl fun w5 S5 H5 => ?_; refine r_sub1N (by omega) (by omega) (r_ke ⟨⟨u, by rw [show a + (u + 1) - 1 = a + u by omega], by omega, by omega, S2.trans (S3.trans (S4.trans S5)), ?_⟩, ?_⟩)
   · replace H5 : Holds w5 (SL nv tI v (((A ++ X.take u ++ X[u] :: ([] ++ y :: (X.drop (u + 1) ++ B))).set (a + (u + 1)) X[u]).set (a + (u + 1) - 1) y) :: L) := H5; rw [e3] at H5; rw [drop_at hu]; simpa only [List.append_assoc, List.cons_append, List.nil_append] using H5
   · simp only [nv, RowKit.intOf, Int.toNat_natCast]; omega
 · obtain rfl : t = p := by omega
   refine k (X.take t ++ y :: X.drop t) _ ?_ (srt_ins (by rw [List.take_append_drop]; exact hs) h1 h2) S2 (by simpa only [List.append_assoc, List.cons_append] using H2); refine List.perm_middle.trans ?_; rw [List.take_append_drop]; exact (List.perm_append_singleton _ _).symm
theorem sym_spec : ∀ (N : Nat) {w : World} {K : Value → World → Prop} {A X Y B : List Nat} {a m b : Nat}, X.length + Y.length ≤ N → CmpOk W v f L → Holds w (SL nv tI v (A ++ (X ++ (Y ++ B))) :: L) → A.length = a → a + X.length = m → m + Y.length = b → X ≠ [] → Y ≠ [] →
   Srt W X → Srt W Y → (∀ x ∈ X, x < W.length) → (∀ y ∈ Y, y < W.length) → (∀ x ∈ X, ∀ y ∈ Y, x < y) → b ≤ 100000000 →
   (∀ Z w', Z.Perm (X ++ Y) → Srt W Z → Same w w' → Holds w' (SL nv tI v (A ++ (Z ++ B)) :: L) → K (.tuple #[]) w') → Cl Tryz.prog F.slices_symMergeCmpFunc_int #[v, nv a, nv m, nv b, f] w K := by
 intro N
 induction N with
 | zero =>
   intro w K A X Y B a m b hN _ _ _ _ _ hX _ _ _ _ _ _ _ _; have := List.length_pos_iff.2 hX; omega
 | succ N ih =>
   intro w K A X Y B a m b hN hc H ha hm hb hX hY hsX hsY hXW hYW hXY hbb k; have hX0 := List.length_pos_iff.2 hX; have hY0 := List.length_pos_iff.2 hY
   by_cases hX1 : X.length = 1
   · obtain ⟨x, rfl⟩ := List.length_eq_one_iff.1 hX1; exact symX hc H ha (by simpa using hm) hb hsY (hXW x (by simp)) (fun y hy => ⟨hXY x (by simp) y hy, hYW y hy⟩) hbb k
   by_cases hY1 : Y.length = 1
   · obtain ⟨y, rfl⟩ := List.length_eq_one_iff.1 hY1; exact symY hc H ha hm (by simpa using hb) hX1 hsX (hYW y (by simp)) (fun x hx => ⟨hXY x hx y (by simp), hXW x hx⟩) hbb k
   refine Tie.slices_symMergeCmpFunc_int ?_; unfold Vcf.slices_symMergeCmpFunc_int; refine r_subN (by omega) (by omega) ?_; refine r_eql (r_vfE (by omega) ?_); refine r_subN (by omega) (by omega) ?_; refine r_eql (r_vfE (by omega) ?_); refine r_addN (by omega) (half_rule (by omega) ?_); obtain ⟨h, hh⟩ : ∃ h, h = (X.length + Y.length) / 2 := ⟨_, rfl⟩; rw [show (a + b) / 2 = a + h by omega]; refine r_addN (by omega) ?_; refine r_join2 (fun s r w' => ∃ lo hi : Nat, s = nv (a + lo) ∧ r = nv (a + hi) ∧ lo ≤ hi ∧ hi ≤ h ∧ hi ≤ X.length ∧ h - lo ≤ Y.length ∧ w = w' ∧ ((lo = h - Y.length ∧ Y.length ≤ h ∧ hi = h) ∨ (lo = 0 ∧ hi = X.length))) ?_ ?_
   rotate_left
   · refine r_gtr (r_ifD (fun hg => ?_) fun hg => ?_)
     · refine r_subN (by omega) (by omega) ?_; exact r_ke ⟨h - Y.length, h, by rw [show a + h + m - b = a + (h - Y.length) by omega], rfl, by omega, by omega, by omega, by omega, rfl, .inl ⟨rfl, by omega, rfl⟩⟩
     · exact r_ke ⟨0, X.length, rfl, by rw [hm], by omega, by omega, by omega, by omega, rfl, .inr ⟨rfl, rfl⟩⟩
   rintro _ _ _ _ ⟨lo, hi, rfl, rfl, hlh, hhh, hhX, hlY, rfl, hcase⟩; refine r_sub1N (by omega) (by omega) ?_
   refine r_loop2 (fun s r w' => ∃ σ ρ : Nat, s = nv (a + σ) ∧ r = nv (a + ρ) ∧ lo ≤ σ ∧ σ ≤ ρ ∧ ρ ≤ hi ∧ (lo < σ → lt W (X.getD (σ - 1) 0) (Y.getD (h - σ) 0)) ∧ (ρ < hi → lt W (Y.getD (h - 1 - ρ) 0) (X.getD ρ 0)) ∧ Same w w' ∧ Holds w' (SL nv tI v (A ++ (X ++ (Y ++ B))) :: L)) (fun s r _ => (RowKit.intOf r).toNat - (RowKit.intOf s).toNat)
     ⟨lo, hi, rfl, rfl, Nat.le_refl _, hlh, Nat.le_refl _, fun e => absurd e (Nat.lt_irrefl _), fun e => absurd e (Nat.lt_irrefl _), .refl _, H⟩ ?_
   clear H; rintro _ _ _ w1 ⟨σ, ρ, rfl, rfl, b0, b1, b2, b3, b4, S1, H1⟩; refine r_lss (r_ifD (fun hl => ?_) fun hl => ?_)
   · have hlt : σ < ρ := by omega
     refine r_addN (by omega) (half_rule (by omega) ?_); rw [show (a + σ + (a + ρ)) / 2 = a + (σ + ρ) / 2 by omega]
     have hc1 : σ ≤ (σ + ρ) / 2 := by omega
     have hc2 : (σ + ρ) / 2 < ρ := by omega
     generalize (σ + ρ) / 2 = c at *
     have hcX : c < X.length := by omega
     have hcY : h - 1 - c < Y.length := by omega
     have e1 : (A ++ (X ++ (Y ++ B)))[a + c]? = some X[c] := mid_in ha hcX
     have e2 : (A ++ (X ++ (Y ++ B)))[a + h + m - 1 - (a + c)]? = some Y[h - 1 - c] := by
       rw [show a + h + m - 1 - (a + c) = m + (h - 1 - c) by omega, ← List.append_assoc A]; exact mid_in (by simp; omega) hcY
     have gX : X.getD c 0 = X[c] := by rw [List.getD_eq_getElem?_getD, List.getElem?_eq_getElem hcX]; rfl
     have gY : Y.getD (h - 1 - c) 0 = Y[h - 1 - c] := by rw [List.getD_eq_getElem?_getD, List.getElem?_eq_getElem hcY]; rfl
     have hxy := hXY _ (List.getElem_mem hcX) _ (List.getElem_mem hcY); refine r_dr H1 fun w2 S2 H2 => ?_; refine r_subN (by omega) (by omega) ?_; refine r_getS 0 H2 rfl e2 (r_getS 0 H2 rfl e1 ?_); refine hc H2 (hYW _ (List.getElem_mem hcY)) (hXW _ (List.getElem_mem hcX)) fun z w3 hz S3 H3 => ?_; refine r_lss ?_
     by_cases hz0 : z < 0
     · rw [decide_eq_true hz0]; refine r_notT (r_vf ?_); refine r_ke ⟨⟨σ, c, rfl, rfl, b0, by omega, by omega, b3, fun _ => ?_, S1.trans (S2.trans S3), H3⟩, ?_⟩
       · rw [gX, gY]; exact (less_of hxy).1 (hz.1 hz0)
       · simp only [nv, RowKit.intOf, Int.toNat_natCast]; omega
     · rw [decide_eq_false hz0]; refine r_notF (r_vt ?_); refine r_add1N (by omega) (r_ke ⟨⟨c + 1, ρ, rfl, rfl, by omega, by omega, b2, fun _ => ?_, b4, S1.trans (S2.trans S3), H3⟩, ?_⟩)
       · rw [show c + 1 - 1 = c by omega, show h - (c + 1) = h - 1 - c by omega, gX, gY]; exact lt_of_not hxy fun e => hz0 (hz.2 e)
       · simp only [nv, RowKit.intOf, Int.toNat_natCast]; omega
   obtain rfl : σ = ρ := by omega
   obtain ⟨c1, c2⟩ := sym_cut hsX hsY hcase b0 b2 (by omega) b3 b4 (by omega) (by omega)
   have lX1 : (X.take σ).length = σ := by rw [List.length_take]; omega
   have lX2 : (X.drop σ).length = X.length - σ := List.length_drop ..
   have lY1 : (Y.take (h - σ)).length = h - σ := by rw [List.length_take]; omega
   have lY2 : (Y.drop (h - σ)).length = Y.length - (h - σ) := List.length_drop ..; have eX : X = X.take σ ++ X.drop σ := (List.take_append_drop _ _).symm; have eY : Y = Y.take (h - σ) ++ Y.drop (h - σ) := (List.take_append_drop _ _).symm; have oX1 : ∀ x ∈ X.take σ, x ∈ X := fun x hx => List.mem_of_mem_take hx; have oX2 : ∀ x ∈ X.drop σ, x ∈ X := fun x hx => List.mem_of_mem_drop hx; have oY1 : ∀ x ∈ Y.take (h - σ), x ∈ Y := fun x hx => List.mem_of_mem_take hx; have oY2 : ∀ x ∈ Y.drop (h - σ), x ∈ Y := fun x hx => List.mem_of_mem_drop hx; have sX1 : Srt W (X.take σ) := hsX.sublist (List.take_sublist _ _); have sX2 : Srt W (X.drop σ) := hsX.sublist (List.drop_sublist _ _); have sY1 : Srt W (Y.take (h - σ)) := hsY.sublist (List.take_sublist _ _); have sY2 : Srt W (Y.drop (h - σ)) := hsY.sublist (List.drop_sublist _ _); rw [eX] at hsX; rw [eY] at hsY; have fin := fun Z1 Z2 p1 p2 s1 s2 => halves (Z1 := Z1) (Z2 := Z2) hsX hsY c1 c2 p1 p2 s1 s2; rw [← eX, ← eY] at fin
   have H1 : Holds w1 (SL nv tI v (A ++ (X.take σ ++ (X.drop σ ++ (Y.take (h - σ) ++ (Y.drop (h - σ) ++ B))))) :: L) := by
     rw [eX, eY] at H1; simpa only [List.append_assoc] using H1
   generalize X.take σ = X1 at *; generalize X.drop σ = X2 at *; generalize Y.take (h - σ) = Y1 at *; generalize Y.drop (h - σ) = Y2 at *; refine r_subN (by omega) (by omega) ?_; rw [show a + h + m - (a + σ) = m + Y1.length by omega]; refine r_join0 (fun w' => Same w w' ∧ Holds w' (SL nv tI v (A ++ (X1 ++ (Y1 ++ (X2 ++ (Y2 ++ B))))) :: L)) ?_ ?_
   rotate_left
   · refine r_join1 (fun t w' => w1 = w' ∧ t = .bool (decide (0 < X2.length ∧ 0 < Y1.length))) ?_ ?_
     rotate_left
     · refine r_lss (r_ifD (fun q => ?_) fun q => ?_)
       · refine r_lss (r_ke ⟨rfl, ?_⟩)
         congr 1
         exact decide_eq_decide.2 (by omega)
       · exact r_ke ⟨rfl, by rw [decide_eq_false (by omega)]⟩
     rintro _ _ _ ⟨rfl, rfl⟩; refine r_ifD (fun q => ?_) fun q => ?_
     · refine rotate_spec (A := A ++ X1) (U := X2) (V := Y1) (B := Y2 ++ B) (by simpa only [List.append_assoc] using H1) (by simp; omega) (by omega) rfl (List.length_pos_iff.1 q.1) (List.length_pos_iff.1 q.2) (by omega) fun w2 S2 H2 => ?_; exact r_ke ⟨S1.trans S2, by simpa only [List.append_assoc] using H2⟩
     · refine r_ke ⟨S1, ?_⟩
       by_cases q1 : X2.length = 0
       · rw [List.eq_nil_of_length_eq_zero q1] at H1 ⊢; exact H1
       · rw [List.eq_nil_of_length_eq_zero (show Y1.length = 0 by omega)] at H1 ⊢; exact H1
   clear H1 S1; rintro _ w2 ⟨S2, H2⟩; refine r_join0 (fun w' => ∃ Z1, Z1.Perm (X1 ++ Y1) ∧ Srt W Z1 ∧ Same w w' ∧ Holds w' (SL nv tI v (A ++ (Z1 ++ (X2 ++ (Y2 ++ B)))) :: L)) ?_ ?_
   rotate_left
   · refine r_join1 (fun t w' => w2 = w' ∧ t = .bool (decide (0 < X1.length ∧ 0 < Y1.length))) ?_ ?_
     rotate_left
     · refine r_lss (r_ifD (fun q => ?_) fun q => ?_)
       · refine r_lss (r_ke ⟨rfl, ?_⟩)
         congr 1
         exact decide_eq_decide.2 (by omega)
       · exact r_ke ⟨rfl, by rw [decide_eq_false (by omega)]⟩
     rintro _ _ _ ⟨rfl, rfl⟩; refine r_ifD (fun q => ?_) fun q => ?_
     · refine ih (X := X1) (Y := Y1) (B := X2 ++ (Y2 ++ B)) (by omega) hc H2 ha (by omega) (by omega) (List.length_pos_iff.1 q.1) (List.length_pos_iff.1 q.2) sX1 sY1 (fun x hx => hXW x (oX1 x hx)) (fun x hx => hYW x (oY1 x hx)) (fun x hx y hy => hXY x (oX1 x hx) y (oY1 y hy)) (by omega) fun Z w3 p3 s3 S3 H3 => ?_; exact r_ke ⟨Z, p3, s3, S2.trans S3, H3⟩
     · refine r_ke ⟨X1 ++ Y1, .refl _, ?_, S2, by simpa only [List.append_assoc] using H2⟩
       by_cases q1 : X1.length = 0
       · rw [List.eq_nil_of_length_eq_zero q1, List.nil_append]; exact sY1
       · rw [List.eq_nil_of_length_eq_zero (show Y1.length = 0 by omega), List.append_nil]; exact sX1
   clear H2 S2; rintro _ w3 ⟨Z1, p1, s1, S3, H3⟩
   have lZ1 : Z1.length = h := by rw [p1.length_eq, List.length_append]; omega
   refine r_join1 (fun t w' => w3 = w' ∧ t = .bool (decide (0 < X2.length ∧ 0 < Y2.length))) ?_ ?_
   rotate_left
   · refine r_lss (r_ifD (fun q => ?_) fun q => ?_)
     · refine r_lss (r_ke ⟨rfl, ?_⟩)
       congr 1
       exact decide_eq_decide.2 (by omega)
     · exact r_ke ⟨rfl, by rw [decide_eq_false (by omega)]⟩
   rintro _ _ _ ⟨rfl, rfl⟩; refine r_ifD (fun q => ?_) fun q => ?_
   · refine ih (A := A ++ Z1) (X := X2) (Y := Y2) (B := B) (by omega) hc (by simpa only [List.append_assoc] using H3) (by simp; omega) (by omega) (by omega) (List.length_pos_iff.1 q.1) (List.length_pos_iff.1 q.2) sX2 sY2 (fun x hx => hXW x (oX2 x hx)) (fun x hx => hYW x (oY2 x hx)) (fun x hx y hy => hXY x (oX2 x hx) y (oY2 y hy)) (by omega) fun Z w4 p4 s4 S4 H4 => ?_; obtain ⟨f1, f2⟩ := fin Z1 Z p1 p4 s1 s4; exact k _ _ f1 f2 (S3.trans S4) (by simpa only [List.append_assoc] using H4)
   · obtain ⟨f1, f2⟩ := fin Z1 (X2 ++ Y2) p1 (.refl _) s1 (by
       by_cases q1 : X2.length = 0
       · rw [List.eq_nil_of_length_eq_zero q1, List.nil_append]; exact sY2
       · rw [List.eq_nil_of_length_eq_zero (show Y2.length = 0 by omega), List.append_nil]; exact sX2)
     exact k _ _ f1 f2 S3 (by simpa only [List.append_assoc] using H3)
theorem stable_spec {n : Nat} (hc : CmpOk W v f L) (H : Holds w (SL nv tI v (List.range' 0 n) :: L)) (hW : n ≤ W.length) (hn : n ≤ 1000000)
   (k : ∀ Z w', Seg W 0 Z → Z.length = n → Same w w' → Holds w' (SL nv tI v Z :: L) → K (.tuple #[]) w') : Cl Tryz.prog F.slices_stableCmpFunc_int #[v, nv n, f] w K := by
 refine Tie.slices_stableCmpFunc_int ?_; unfold Vcf.slices_stableCmpFunc_int
 refine r_loop2 (fun x y w' => ∃ (a : Nat) (Dn : List Nat), x = nv a ∧ y = nv (a + 20) ∧ a ≤ n ∧ Dn.length = a ∧ (∀ R, Runs W 20 a R → Runs W 20 0 (Dn ++ R)) ∧ Same w w' ∧ Holds w' (SL nv tI v (Dn ++ List.range' a (n - a)) :: L)) (fun x _ _ => n - (RowKit.intOf x).toNat)
   ⟨0, [], rfl, rfl, Nat.zero_le _, rfl, fun _ r => r, .refl _, H⟩ ?_
 clear H; rintro _ _ _ w1 ⟨a, Dn, rfl, rfl, ha, hl, hr, S1, H1⟩; have hinc : ∀ lo m, (List.range' lo m).Pairwise (· < ·) := fun lo m => List.pairwise_lt_range'
 have hmem : ∀ lo m, lo + m ≤ n → ∀ x ∈ List.range' lo m, x < W.length := fun lo m h x hx => by
   have := List.mem_range'_1.1 hx; omega
 refine r_leq (r_ifD (fun h => ?_) fun h => ?_)
 · rw [range_cut a (n - a) 20 (by omega)] at H1; refine insertion_spec (A := Dn) (X := List.range' a 20) hc H1 hl (by simp) (hmem _ _ (by omega)) (hinc _ _) (by omega) fun Z w2 p s S2 H2 => ?_
   have hZ : Z.length = 20 := by rw [p.length_eq]; simp
   refine r_addN (b := 20) (by omega) (r_ke ⟨⟨a + 20, Dn ++ Z, rfl, rfl, by omega, by rw [List.length_append]; omega, fun R r => ?_, S1.trans S2, ?_⟩, ?_⟩)
   · rw [List.append_assoc]; exact hr _ (.cons ⟨by rw [hZ]; exact p, s⟩ hZ r)
   · rw [show n - (a + 20) = n - a - 20 by omega, List.append_assoc]; exact H2
   · simp only [nv, RowKit.intOf, Int.toNat_natCast]; omega
 rw [show Dn ++ List.range' a (n - a) = Dn ++ (List.range' a (n - a) ++ []) by simp] at H1; refine insertion_spec (A := Dn) (X := List.range' a (n - a)) hc H1 hl (by simp; omega) (hmem _ _ (by omega)) (hinc _ _) (by omega) fun Z w2 p s S2 H2 => ?_
 have hZ : Z.length = n - a := by rw [p.length_eq]; simp
 have hruns := hr Z (.last ⟨by rw [hZ]; exact p, s⟩ (by omega)); rw [List.append_nil] at H2
 refine r_loop1 (fun x w' => ∃ (s : Nat) (D : List Nat), x = nv s ∧ 20 ≤ s ∧ s ≤ 10000000 ∧ Runs W s 0 D ∧ D.length = n ∧ Same w w' ∧ Holds w' (SL nv tI v D :: L)) (fun x _ => n - (RowKit.intOf x).toNat)
   ⟨20, _, rfl, by omega, by omega, hruns, by rw [List.length_append]; omega, S1.trans S2, H2⟩ ?_
 clear H1 S1 H2 S2 hruns hr; rintro _ _ w3 ⟨bs, D, rfl, hs20, hsb, hru, hDl, S3, H3⟩; refine r_lss (r_ifD (fun hlt => ?_) fun hlt => ?_)
 rotate_left
 · exact k D _ (runs_whole hru (by omega) (by omega)) hDl S3 H3
 have hbn : bs < n := by omega
 refine r_mulE ((2 * bs : Nat) : Int) (by omega) (by omega) (by omega) ?_
 refine r_loop2 (fun x y w' => ∃ (a : Nat) (Dn R : List Nat), x = nv a ∧ y = nv (a + 2 * bs) ∧ Dn.length = a ∧ a + R.length = n ∧ Runs W bs a R ∧ (∀ R, Runs W (2 * bs) a R → Runs W (2 * bs) 0 (Dn ++ R)) ∧ Same w w' ∧ Holds w' (SL nv tI v (Dn ++ R) :: L)) (fun x _ _ => n - (RowKit.intOf x).toNat)
   ⟨0, [], D, rfl, by rw [Nat.zero_add], rfl, by omega, hru, fun _ r => r, S3, H3⟩ ?_
 clear H3 S3 hru hDl; rintro _ _ _ w4 ⟨a2, Dn2, R, rfl, rfl, hl2, hR, hru, hr2, S4, H4⟩; refine r_leq (r_ifD (fun h2 => ?_) fun h2 => ?_)
 · obtain ⟨X, R1, rfl, gX, lX, r1⟩ := runs_head hru (by omega); rw [List.length_append] at hR; obtain ⟨Y, R2, rfl, gY, lY, r2⟩ := runs_head r1 (by omega); rw [List.length_append] at hR; refine r_addN (by omega) ?_
   refine sym_spec _ (A := Dn2) (X := X) (Y := Y) (B := R2) (Nat.le_refl _) hc H4 hl2 (by omega) (by omega) (fun e => by rw [e, List.length_nil] at lX; omega) (fun e => by rw [e, List.length_nil] at lY; omega) gX.2 gY.2
     (fun x hx => Nat.lt_of_lt_of_le (seg_lt gX (Nat.le_refl _) x hx) (by omega)) (fun x hx => Nat.lt_of_lt_of_le (seg_lt gY (Nat.le_refl _) x hx) (by omega)) (seg_less gX lX gY) (by omega) fun Z w5 p s S5 H5 => ?_
   have lZ : Z.length = 2 * bs := by rw [p.length_eq, List.length_append]; omega
   refine r_mulE ((2 * bs : Nat) : Int) (by omega) (by omega) (by omega) ?_; refine r_addN (by omega) (r_ke ⟨⟨a2 + 2 * bs, Dn2 ++ Z, R2, rfl, rfl, by rw [List.length_append]; omega, by omega, ?_, fun Q q => ?_, S4.trans S5, ?_⟩, ?_⟩)
   · rw [show a2 + 2 * bs = a2 + bs + bs by omega]; exact r2
   · rw [List.append_assoc]; exact hr2 _ (.cons (gX.join lX gY p s) lZ q)
   · rw [List.append_assoc]; exact H5
   · simp only [nv, RowKit.intOf, Int.toNat_natCast]; omega
 refine r_addN (by omega) (r_lss (r_ifD (fun h3 => ?_) fun h3 => ?_))
 · obtain ⟨X, Y, rfl, gX, lX, r1⟩ := runs_head hru (by omega); rw [List.length_append] at hR; have gY := runs_whole r1 (by omega) (by omega); rw [show Dn2 ++ (X ++ Y) = Dn2 ++ (X ++ (Y ++ [])) by rw [List.append_nil]] at H4
   refine sym_spec _ (A := Dn2) (X := X) (Y := Y) (B := []) (Nat.le_refl _) hc H4 hl2 (by omega) (by omega) (fun e => by rw [e, List.length_nil] at lX; omega) (fun e => by rw [e, List.length_nil] at hR; omega) gX.2 gY.2
     (fun x hx => Nat.lt_of_lt_of_le (seg_lt gX (Nat.le_refl _) x hx) (by omega)) (fun x hx => Nat.lt_of_lt_of_le (seg_lt gY (Nat.le_refl _) x hx) (by omega)) (seg_less gX lX gY) (by omega) fun Z w5 p s S5 H5 => ?_
   have lZ : Z.length = bs + Y.length := by rw [p.length_eq, List.length_append]; omega
   rw [List.append_nil] at H5; refine r_mulE ((2 * bs : Nat) : Int) (by omega) (by omega) (by omega) ?_; refine r_ke ⟨⟨2 * bs, Dn2 ++ Z, rfl, by omega, by omega, hr2 Z (.last (gX.join lX gY p s) (by omega)), by rw [List.length_append]; omega, S4.trans S5, H5⟩, ?_⟩; simp only [nv, RowKit.intOf, Int.toNat_natCast]; omega
 · refine r_mulE ((2 * bs : Nat) : Int) (by omega) (by omega) (by omega) ?_; refine r_ke ⟨⟨2 * bs, Dn2 ++ R, rfl, by omega, by omega, hr2 R (.last (runs_whole hru (by omega) (by omega)) (by omega)), by rw [List.length_append]; omega, S4, H4⟩, ?_⟩; simp only [nv, RowKit.intOf, Int.toNat_natCast]; omega
theorem sort_spec {n : Nat} (hc : CmpOk W v f L) (H : Holds w (SL nv tI v (List.range' 0 n) :: L)) (hW : n ≤ W.length) (hn : n ≤ 1000000)
   (k : ∀ Z w', Seg W 0 Z → Z.length = n → Same w w' → Holds w' (SL nv tI v Z :: L) → K (.tuple #[]) w') : Cl Tryz.prog F.slices_SortStableFunc_int_int #[v, f] w K := by
 refine Tie.slices_SortStableFunc_int_int ?_; unfold Vcf.slices_SortStableFunc_int_int; refine r_lnS 0 H rfl ?_; rw [List.length_range']; refine stable_spec hc H hW hn fun Z w' g l S' H' => ?_; exact k Z w' g l S' H'
abbrev tIs : Nat := 69
def fnT (wb : Nat) : Value := .func (.func F.lens_treesOf_1) #[] #[pt wb]
theorem cmp_ok {wb i j : Nat} {wv : Value} (hi : L[i]? = some (blk wb tIs [wv])) (hj : L[j]? = some (SL nv tI wv W)) : CmpOk W v (fnT wb) L := by
 intro D w x y Q H hx hy k
 have gx : W[x]? = some (W.getD x 0) := by rw [List.getD_eq_getElem?_getD, List.getElem?_eq_getElem hx]; rfl
 have gy : W[y]? = some (W.getD y 0) := by rw [List.getD_eq_getElem?_getD, List.getElem?_eq_getElem hy]; rfl
 refine r_inv (f := F.lens_treesOf_1) (args := #[nv x, nv y, pt wb]) (by kernel_rfl) ?_; refine Tie.lens_treesOf_1 ?_; unfold Vcf.lens_treesOf_1; refine r_dr H fun w1 S1 H1 => ?_; refine r_ld (i + 1) H1 (by rw [List.getElem?_cons_succ]; exact hi) rfl ?_; refine r_getS (j + 1) H1 (by rw [List.getElem?_cons_succ]; exact hj) gx ?_; refine r_ld (i + 1) H1 (by rw [List.getElem?_cons_succ]; exact hi) rfl ?_; refine r_getS (j + 1) H1 (by rw [List.getElem?_cons_succ]; exact hj) gy ?_; generalize W.getD x 0 = p at *; generalize W.getD y 0 = q at *
 have nan : ∀ (c : Nat) {K : Value → World → Prop}, K (.bool false) w1 → Cl Tryz.prog F.cmp_isNaN_int #[nv c] w1 K := by
   intro c K h; refine Tie.cmp_isNaN_int ?_; unfold Vcf.cmp_isNaN_int; refine r_neq ?_; rw [show ((c : Int) != (c : Int)) = false by simp]; exact h
 refine r_cl (K := fun z w' => w1 = w' ∧ ∃ c : Int, z = iv c ∧ (c < 0 ↔ p < q)) ?_ ?_
 · refine Tie.cmp_Compare_int ?_; unfold Vcf.cmp_Compare_int; refine nan p (nan q (r_vf (r_vf ?_))); refine r_lss (r_ifD (fun h => ?_) fun h => ?_)
   · exact ⟨rfl, -1, rfl, by omega⟩
   · refine r_gtr (r_ifD (fun h2 => ?_) fun h2 => ?_)
     · exact ⟨rfl, 1, rfl, by omega⟩
     · exact ⟨rfl, 0, rfl, by omega⟩
 rintro _ _ ⟨rfl, c, rfl, hcc⟩; exact k c _ hcc S1 H1
end S09
end Go.Proofs.YtgaiocpkjaaphaaGreatDoor
namespace Go.Proofs.YtgaiocpkjaaphaaGreatDoor
open Go Go.Vc
theorem r_sslL {size : Nat} {a : Option Addr} {n c l : Nat} {k : IntKind} {K : Value → Prop} (h1 : l ≤ n) (h2 : n ≤ c) (hK : K (.slice (if c = l then a else a.map (·.add (l * size))) (n - l) (c - l))) :
   Ssl size (.slice a n c) (some (.int k (l : Int))) none K := ⟨a, n, c, l, n, rfl, ⟨k, rfl⟩, rfl, h1, h2, hK⟩
attribute [local irreducible] Vc.Nc Vc.Ld Vc.LdA Vc.St Vc.StA Vc.Fo Vc.Iaa Vc.Ias Vc.Ixs Vc.Ixa Vc.Fd Vc.FdA Vc.Bp Vc.Bb Vc.Bn Vc.Up Vc.Ci Vc.Lns Vc.Lnl Vc.Ex Vc.Sst Vc.Ssl Vc.New Vc.Vif Vc.VJoin Vc.VLoop Vc.KE Vc.Dr Vc.Rk Vc.Cl Vc.Cx Vc.Inv Vc.Be Vc.Cv Vc.Cw Vc.Mf Vc.Sl Vc.Lk Vc.Bd Vc.Bs Vc.Ms Vc.Mm Vc.Mu Vc.Me Vc.Es Vc.Rg Vc.Nx Vc.Ta Vc.Ap Vc.Usd Vc.Ust Vc.Cp Vc.Ln Vc.Bc Vc.Bmin Vc.Bmax Vc.Bdel Vc.Bclr Vc.Pk
namespace T09
open Go.Mh Go.Ms S09
variable {w : World} {L : List HProp} {K : Value → World → Prop} {W lf : List Nat} {tb j : Nat} {wv xv lv : Value}
abbrev tTr : Nat := 316
def fI : Option Nat → Value
 | none => iv (-1)
 | some p => nv p
theorem sg_fI (o : Option Nat) : sg (fI o) = true := by cases o <;> rfl
def LV (v : Value) (lf : List Nat) : HProp := fun h => ∃ b o c cells, (v = .slice (some ⟨b, o, none⟩) lf.length c ∧ lf.length ≤ c ∧ (cells.drop o).take lf.length = lf.map nv) ∧ blk b tI cells h
theorem LV_open (H : Holds w L) (i : Nat) {v : Value} (hi : L[i]? = some (LV v lf)) : ∃ b o c cells, v = .slice (some ⟨b, o, none⟩) lf.length c ∧ lf.length ≤ c ∧ (cells.drop o).take lf.length = lf.map nv ∧ Holds w (L.set i (blk b tI cells)) := by
 obtain ⟨g, ⟨b, o, c, cells, ⟨h1, h2, h3⟩, hg⟩, hs, hL⟩ := H.front i hi; exact ⟨b, o, c, cells, h1, h2, h3, Sat.push i hi ⟨g, hg, hs, hL⟩⟩
theorem LV_close (H : Holds w L) (i : Nat) {b o c : Nat} {cells : List Value} (hi : L[i]? = some (blk b tI cells)) (h2 : lf.length ≤ c) (h3 : (cells.drop o).take lf.length = lf.map nv) :
   Holds w (L.set i (LV (.slice (some ⟨b, o, none⟩) lf.length c) lf)) := H.at i hi fun g hg => ⟨b, o, c, cells, ⟨rfl, h2, h3⟩, hg⟩
theorem LV_of_SL {v : Value} (H : Holds w L) (i : Nat) (hi : L[i]? = some (SL nv tI v lf)) (hne : lf ≠ []) : Holds w (L.set i (LV v lf)) := by
 obtain ⟨oa, sp, rfl, H1⟩ := H.open i hi
 cases oa with
 | none =>
   obtain ⟨g, ⟨h2, _⟩, _⟩ := H1.front i (set_get hi); exact absurd h2 hne
 | some a =>
   obtain ⟨g, ⟨h2, h3, _⟩, _⟩ := H1.front i (set_get hi); obtain ⟨b, o, s⟩ := a; simp only at h2 h3; subst h2; subst h3; have H2 := H1.slb i (set_get hi); have H3 := LV_close (lf := lf) (c := lf.length + sp.length) (o := 0) H2 i (set_get (set_get hi)) (by omega) (by rw [List.drop_zero, List.take_left' (by simp)]); rw [List.set_set, List.set_set] at H3; exact H3
theorem least_spec (H : Holds w (blk tb tTr [wv, xv, lv, nv j] :: SL nv tI wv W :: LV lv lf :: L)) (hj : j ≤ W.length) (hl : ∀ x ∈ lf, x < W.length) (hne : lf ≠ [] ∨ j < W.length) (hW : W.length ≤ 1000000)
   (k : ∀ lv' w', Same w w' → Holds w' (blk tb tTr [wv, xv, lv', nv (tail2 W lf j)] :: SL nv tI wv W :: LV lv' (tail1 W lf j) :: L) → K (nv (head W lf j)) w') : Cl Tryz.prog F.lens_trees_least #[pt tb] w K := by
 refine Tie.lens_trees_least ?_; unfold Vcf.lens_trees_least; obtain ⟨b, o, c, cells, rfl, hc, hcells, H1⟩ := LV_open H 2 rfl; replace H1 : Holds w (blk tb tTr [wv, xv, .slice (some ⟨b, o, none⟩) lf.length c, nv j] :: SL nv tI wv W :: blk b tI cells :: L) := H1
 have g : ∀ x, x < W.length → W[x]? = some (W.getD x 0) := fun x hx => by rw [List.getD_eq_getElem?_getD, List.getElem?_eq_getElem hx]; rfl
 have back : ∀ {w' : World} {K' : Value → World → Prop}, j < W.length → Same w w' → Holds w' (blk tb tTr [wv, xv, .slice (some ⟨b, o, none⟩) lf.length c, nv j] :: SL nv tI wv W :: blk b tI cells :: L) →
     (∀ w2, Same w w2 → Holds w2 (blk tb tTr [wv, xv, .slice (some ⟨b, o, none⟩) lf.length c, nv (j + 1)] :: SL nv tI wv W :: LV (.slice (some ⟨b, o, none⟩) lf.length c) lf :: L) → K' (nv j) w2) →
     Nc (pt tb) (Fo 3 (pt tb) fun x_10 => Ld x_10 w' fun x_11 => Bp .add x_11 (.int .i64 1) fun x_12 => Nc (pt tb) (Fo 3 (pt tb) fun x_13 => St x_13 x_12 w' fun w3 => Nc (pt tb) (Fo 3 (pt tb) fun x_14 => Ld x_14 w3 fun x_15 => Bp .sub x_15 (.int .i64 1) fun x_16 => K' x_16 w3))) := by
   intro w' K' hlt S' H' kk; refine r_nc (r_fo0 (r_ld 0 H' rfl rfl ?_)); refine r_add1N (by omega) ?_; refine r_nc (r_fo0 (r_st 0 H' rfl (by simp) rfl fun w2 S2 H2 => ?_)); replace H2 : Holds w2 (blk tb tTr [wv, xv, .slice (some ⟨b, o, none⟩) lf.length c, nv (j + 1)] :: SL nv tI wv W :: blk b tI cells :: L) := H2; refine r_nc (r_fo0 (r_ld 0 H2 rfl rfl ?_)); refine r_sub1N (by omega) (by omega) ?_; exact kk w2 (S'.trans S2) (LV_close H2 2 rfl hc hcells)
 cases lf with
 | nil =>
   have hlt : j < W.length := by rcases hne with h | h; exact absurd rfl h; exact h
   refine r_join1 (fun t w' => Same w w' ∧ Holds w' (blk tb tTr [wv, xv, .slice (some ⟨b, o, none⟩) ([] : List Nat).length c, nv j] :: SL nv tI wv W :: blk b tI cells :: L) ∧ t = .bool false) ?_ ?_
   rotate_left
   · refine r_dr H1 fun w2 S2 H2 => ?_; refine r_nc (r_fo0 (r_ld 0 H2 rfl rfl ?_)); refine r_nc (r_fo0 (r_ld 0 H2 rfl rfl ?_)); refine r_lnS 1 H2 rfl ?_; refine r_eql (r_vfE (by omega) ?_); refine r_nc (r_fo0 (r_ld 0 H2 rfl rfl ?_)); refine r_lnl ?_; refine r_gtr (r_vfD (by simp) ?_); exact r_ke ⟨S2, H2, rfl⟩
   rintro _ _ w2 ⟨S2, H2, rfl⟩; refine r_vf (back hlt S2 H2 fun w3 S3 H3 => ?_); exact k _ _ S3 H3
 | cons x l =>
   have hxW := hl x (List.mem_cons_self ..)
   have hc0 : cells[o]? = some (nv x) := by
     have := congrArg (·[0]?) hcells; simpa using this
   refine r_join1 (fun t w' => Same w w' ∧ Holds w' (blk tb tTr [wv, xv, .slice (some ⟨b, o, none⟩) (x :: l).length c, nv j] :: SL nv tI wv W :: blk b tI cells :: L) ∧ t = .bool (decide (j = W.length ∨ W.getD x 0 ≤ W.getD j 0))) ?_ ?_
   rotate_left
   · refine r_dr H1 fun w2 S2 H2 => ?_; refine r_nc (r_fo0 (r_ld 0 H2 rfl rfl ?_)); refine r_nc (r_fo0 (r_ld 0 H2 rfl rfl ?_)); refine r_lnS 1 H2 rfl ?_; refine r_eql (r_ifE (fun h => ?_) fun h => ?_)
     · exact r_ke ⟨S2, H2, by rw [decide_eq_true (.inl (by omega))]⟩
     refine r_nc (r_fo0 (r_ld 0 H2 rfl rfl ?_)); refine r_lnl ?_; refine r_gtr (r_vtD (by rw [List.length_cons]; omega) ?_); refine r_nc (r_fo0 (r_ld 0 H2 rfl rfl ?_)); refine r_nc (r_fo0 (r_ld 0 H2 rfl rfl ?_)); refine r_ias (n := 0) (by omega) (by rw [List.length_cons]; omega) ?_; refine r_ld 2 H2 rfl (v := nv x) (by simpa using hc0) ?_; refine r_getS 1 H2 rfl (g x hxW) ?_; refine r_nc (r_fo0 (r_ld 0 H2 rfl rfl ?_)); refine r_nc (r_fo0 (r_ld 0 H2 rfl rfl ?_)); refine r_getS 1 H2 rfl (g j (by omega)) ?_; refine r_leq (r_ke ⟨S2, H2, ?_⟩)
     congr 1
     exact decide_eq_decide.2 (by omega)
   rintro _ _ w2 ⟨S2, H2, rfl⟩; refine r_ifD (fun h => ?_) fun h => ?_
   · refine r_nc (r_fo0 (r_ld 0 H2 rfl rfl ?_)); refine r_ias (n := 0) (by omega) (by rw [List.length_cons]; omega) ?_; refine r_ld 2 H2 rfl (v := nv x) (by simpa using hc0) ?_; refine r_nc (r_fo0 (r_ld 0 H2 rfl rfl ?_)); rw [List.length_cons] at hc; refine r_sslL (l := 1) (by rw [List.length_cons]; omega) (by rw [List.length_cons]; omega) ?_; refine r_nc (r_fo0 (r_st 0 H2 rfl (by simp) rfl fun w3 S3 H3 => ?_))
     obtain ⟨o', ho', hcl⟩ : ∃ o', (if c = 1 then some (⟨b, o, none⟩ : Addr) else Option.map (fun q : Addr => q.add (1 * 1)) (some (⟨b, o, none⟩ : Addr))) = some (⟨b, o', none⟩ : Addr) ∧ (cells.drop o').take l.length = l.map nv := by
       by_cases hc1 : c = 1
       · have : l = [] := List.eq_nil_of_length_eq_zero (by omega); subst this; exact ⟨o, by rw [if_pos hc1], by simp⟩
       · refine ⟨o + 1, by rw [if_neg hc1]; rfl, ?_⟩; have := congrArg (·.drop 1) hcells; simpa [List.drop_take, List.drop_drop] using this
     rw [ho'] at H3; replace H3 : Holds w3 (blk tb tTr [wv, xv, .slice (some ⟨b, o', none⟩) l.length (c - 1), nv j] :: SL nv tI wv W :: blk b tI cells :: L) := H3; have H4 := LV_close (lf := l) (c := c - 1) (o := o') H3 2 rfl (by omega) hcl; have e1 : head W (x :: l) j = x := if_pos h; have e2 : tail1 W (x :: l) j = l := if_pos h; have e3 : tail2 W (x :: l) j = j := if_pos h; have := k (.slice (some ⟨b, o', none⟩) l.length (c - 1)) w3 (S2.trans S3); rw [e1, e2, e3] at this; exact this H4
   · have e1 : head W (x :: l) j = j := if_neg h; have e2 : tail1 W (x :: l) j = x :: l := if_neg h; have e3 : tail2 W (x :: l) j = j + 1 := if_neg h; refine back (by omega) S2 H2 fun w3 S3 H3 => ?_; have := k (.slice (some ⟨b, o, none⟩) (x :: l).length c) w3 S3; rw [e1, e2, e3] at this; exact this H3
theorem join_spec {I : List (Option Nat)} {a b : Nat} (H : Holds w (blk tb tTr [wv, xv, lv, nv j] :: SL nv tI wv W :: SL fI tI xv I :: L)) (ha : a < W.length) (hb : b < W.length) (hI : I.length = W.length) (hW : W.length ≤ 1000000)
   (hs : W.getD a 0 + W.getD b 0 < 9223372036854775807)
   (k : ∀ wv' xv' w', Same w w' → Holds w' (blk tb tTr [wv', xv', lv, nv j] :: SL nv tI wv' (W ++ [W.getD a 0 + W.getD b 0]) :: SL fI tI xv' (((I.set a (some W.length)).set b (some W.length)) ++ [none]) :: L) → K (.tuple #[]) w') : Cl Tryz.prog F.lens_trees_join #[pt tb, nv a, nv b] w K := by
 refine Tie.lens_trees_join ?_; unfold Vcf.lens_trees_join
 have g : ∀ x, x < W.length → W[x]? = some (W.getD x 0) := fun x hx => by rw [List.getD_eq_getElem?_getD, List.getElem?_eq_getElem hx]; rfl
 refine r_dr H fun w1 S1 H1 => ?_; refine r_nc (r_fo0 (r_ld 0 H1 rfl rfl ?_)); refine r_nc (r_fo0 (r_ld 0 H1 rfl rfl ?_)); refine r_lnS 1 H1 rfl ?_; refine r_setS 2 H1 (f := fI) (some W.length) rfl (by omega) rfl fun w2 S2 H2 => ?_; replace H2 : Holds w2 (blk tb tTr [wv, xv, lv, nv j] :: SL nv tI wv W :: SL fI tI xv (I.set a (some W.length)) :: L) := H2; refine r_dr H2 fun w3 S3 H3 => ?_; refine r_nc (r_fo0 (r_ld 0 H3 rfl rfl ?_)); refine r_nc (r_fo0 (r_ld 0 H3 rfl rfl ?_)); refine r_lnS 1 H3 rfl ?_; refine r_setS 2 H3 (f := fI) (some W.length) rfl (by rw [List.length_set]; omega) rfl fun w4 S4 H4 => ?_; replace H4 : Holds w4 (blk tb tTr [wv, xv, lv, nv j] :: SL nv tI wv W :: SL fI tI xv ((I.set a (some W.length)).set b (some W.length)) :: L) := H4; refine r_dr H4 fun w5 S5 H5 => ?_; refine r_nc (r_fo0 (r_ld 0 H5 rfl rfl ?_)); refine r_nc (r_fo0 (r_ld 0 H5 rfl rfl ?_)); refine r_getS 1 H5 rfl (g a ha) ?_; refine r_nc (r_fo0 (r_ld 0 H5 rfl rfl ?_)); refine r_getS 1 H5 rfl (g b hb) ?_; refine r_addN hs ?_; refine r_app1K (f := nv) H5 1 (xs := W) rfl (W.getD a 0 + W.getD b 0) (fun _ => rfl) (by omega) (fun w' H' => r_ld 0 H' rfl rfl rfl) fun wv' w6 S6 H6 => ?_; replace H6 : Holds w6 (blk tb tTr [wv, xv, lv, nv j] :: SL nv tI wv' (W ++ [W.getD a 0 + W.getD b 0]) :: SL fI tI xv ((I.set a (some W.length)).set b (some W.length)) :: L) := H6; refine r_nc (r_fo0 (r_st 0 H6 rfl (by simp) (SL_sg H6 1 rfl) fun w7 S7 H7 => ?_)); replace H7 : Holds w7 (blk tb tTr [wv', xv, lv, nv j] :: SL nv tI wv' (W ++ [W.getD a 0 + W.getD b 0]) :: SL fI tI xv ((I.set a (some W.length)).set b (some W.length)) :: L) := H7; refine r_nc (r_fo0 (r_ld 0 H7 rfl rfl ?_)); refine r_app1 (f := fI) H7 2 (xs := (I.set a (some W.length)).set b (some W.length)) rfl none sg_fI (by rw [List.length_set, List.length_set]; omega) fun xv' w8 S8 H8 => ?_; replace H8 : Holds w8 (blk tb tTr [wv', xv, lv, nv j] :: SL nv tI wv' (W ++ [W.getD a 0 + W.getD b 0]) :: SL fI tI xv' (((I.set a (some W.length)).set b (some W.length)) ++ [none]) :: L) := H8; refine r_nc (r_fo0 (r_st 0 H8 rfl (by simp) (SL_sg H8 2 rfl) fun w9 S9 H9 => ?_)); exact k wv' xv' w9 (S1.trans (S2.trans (S3.trans (S4.trans (S5.trans (S6.trans (S7.trans (S8.trans S9)))))))) H9
theorem treesOf_spec {v : Value} {i : Nat} (H : Holds w L) (hi : L[i]? = some (SL nv tI v W)) (h0 : 0 < W.length) (hW : W.length ≤ 100000)
   (k : ∀ tb wv xv lv lf w', Seg W 0 lf → lf.length = W.length → Same w w' → Holds w' (blk tb tTr [wv, xv, lv, nv W.length] :: SL nv tI wv W :: SL fI tI xv (List.replicate W.length none) :: LV lv lf :: L) → K (pt tb) w') : Cl Tryz.prog F.lens_treesOf #[v] w K := by
 refine Tie.lens_treesOf ?_; unfold Vcf.lens_treesOf; obtain ⟨oa, sp, rfl, _⟩ := H.open i hi; refine r_new H fun wb w1 S1 H1 => ?_; replace H1 : Holds w1 (blk wb tIs [.slice oa W.length (W.length + sp.length)] :: L) := H1; refine r_dr H1 fun w2 S2 H2 => ?_; refine r_ld 0 H2 rfl rfl ?_; refine Clone_spec H2 (i + 1) (by rw [List.getElem?_cons_succ]; exact hi) (by omega) fun cv w3 S3 H3 => ?_; refine r_ld 1 H3 rfl rfl ?_; refine r_rk (r_ld 0 H2 rfl rfl rfl) ?_; refine r_lnl (r_rk (r_lnl rfl) ?_); obtain ⟨oa', sp', rfl, _⟩ := H3.open 0 rfl; refine r_bd (v := .agg #[.slice oa' W.length (W.length + sp'.length), .slice none 0 0, .slice none 0 0, nv W.length]) (by kernel_rfl) ?_; refine r_new H3 fun tb w4 S4 H4 => ?_; generalize hcv : Value.slice oa' W.length (W.length + sp'.length) = cv at *; generalize hv : Value.slice oa W.length (W.length + sp.length) = v at *; replace H4 : Holds w4 (blk tb tTr [cv, .slice none 0 0, .slice none 0 0, nv W.length] :: SL nv tI cv W :: blk wb tIs [v] :: L) := H4; refine r_ld 2 H4 rfl rfl ?_; rw [← hv]; refine r_lnl ?_; have H5 := ((H4.nilSL nv tI).nilSL fI tI).ord 5 [2, 3, 0, 1, 4] rfl
 refine r_loop1 (fun x w' => ∃ (n : Nat) (xv lv : Value), x = nv n ∧ n ≤ W.length ∧ Same w w' ∧ Holds w' (blk tb tTr [cv, xv, lv, nv W.length] :: SL nv tI cv W :: SL fI tI xv (List.replicate n none) :: SL nv tI lv (List.range' 0 n) :: blk wb tIs [v] :: L)) (fun x _ => W.length - (RowKit.intOf x).toNat)
   ⟨0, .slice none 0 0, .slice none 0 0, rfl, Nat.zero_le _, S1.trans (S2.trans (S3.trans S4)), H5⟩ ?_
 clear H5 H4 H3 H2 H1 S1 S2 S3 S4; rintro _ _ w5 ⟨n, xv, lv, rfl, hn, S5, H5⟩; refine r_lss (r_ifD (fun h => ?_) fun h => ?_)
 · refine r_nc (r_fo0 (r_ld 0 H5 rfl rfl ?_)); refine r_app1 (f := nv) H5 3 (xs := List.range' 0 n) rfl n (fun _ => rfl) (by simp; omega) fun lv' w6 S6 H6 => ?_; rw [show List.range' 0 n ++ [n] = List.range' 0 (n + 1) by rw [List.range'_concat]; simp] at H6; replace H6 : Holds w6 (blk tb tTr [cv, xv, lv, nv W.length] :: SL nv tI cv W :: SL fI tI xv (List.replicate n none) :: SL nv tI lv' (List.range' 0 (n + 1)) :: blk wb tIs [v] :: L) := H6; refine r_nc (r_fo0 (r_st 0 H6 rfl (by simp) (SL_sg H6 3 rfl) fun w7 S7 H7 => ?_)); replace H7 : Holds w7 (blk tb tTr [cv, xv, lv', nv W.length] :: SL nv tI cv W :: SL fI tI xv (List.replicate n none) :: SL nv tI lv' (List.range' 0 (n + 1)) :: blk wb tIs [v] :: L) := H7; refine r_nc (r_fo0 (r_ld 0 H7 rfl rfl ?_)); refine r_app1 (f := fI) H7 2 (xs := List.replicate n none) rfl none sg_fI (by simp; omega) fun xv' w8 S8 H8 => ?_; rw [← List.replicate_succ'] at H8; replace H8 : Holds w8 (blk tb tTr [cv, xv, lv', nv W.length] :: SL nv tI cv W :: SL fI tI xv' (List.replicate (n + 1) none) :: SL nv tI lv' (List.range' 0 (n + 1)) :: blk wb tIs [v] :: L) := H8; refine r_nc (r_fo0 (r_st 0 H8 rfl (by simp) (SL_sg H8 2 rfl) fun w9 S9 H9 => ?_)); replace H9 : Holds w9 (blk tb tTr [cv, xv', lv', nv W.length] :: SL nv tI cv W :: SL fI tI xv' (List.replicate (n + 1) none) :: SL nv tI lv' (List.range' 0 (n + 1)) :: blk wb tIs [v] :: L) := H9; refine r_add1N (by omega) (r_ke ⟨⟨n + 1, xv', lv', rfl, by omega, S5.trans (S6.trans (S7.trans (S8.trans S9))), H9⟩, ?_⟩); simp only [nv, RowKit.intOf, Int.toNat_natCast]; omega
 obtain rfl : n = W.length := by omega
 refine r_nc (r_fo0 (r_ld 0 H5 rfl rfl ?_)); refine r_mf (fnT wb) (by kernel_rfl) ?_; have H6 := H5.ord 5 [3, 0, 1, 2, 4] rfl; refine sort_spec (W := W) (cmp_ok (i := 3) (j := i + 4) (wb := wb) (wv := v) rfl hi) H6 (Nat.le_refl _) (by omega) fun Z w7 hZ lZ S7 H7 => ?_; have H8 := LV_of_SL H7 0 rfl (fun e => by rw [e, List.length_nil] at lZ; omega); have H9 := H8.ord 5 [1, 2, 3, 0] rfl; exact k tb cv xv lv Z w7 hZ lZ (S5.trans S7) H9
theorem r_sslTo {v : Value} {D : List Nat} {n i : Nat} {K : Value → Prop} (H : Holds w L) (hi : L[i]? = some (SL nv tI v D)) (hn : n ≤ D.length) (hD : D ≠ [])
   (k : ∀ v', Holds w (L.set i (SL nv tI v' (D.take n))) → K v') : Ssl 1 v none (some (nv n)) K := by
 obtain ⟨oa, sp, rfl, H1⟩ := H.open i hi
 cases oa with
 | none =>
   obtain ⟨g, ⟨h2, _⟩, _⟩ := H1.front i (set_get hi); exact absurd h2 hD
 | some a =>
   obtain ⟨g, ⟨h2, h3, _⟩, _⟩ := H1.front i (set_get hi); obtain ⟨b, o, s⟩ := a; simp only at h2 h3; subst h2; subst h3; refine r_ssl0 (by omega) (k _ ?_); have H2 := H1.slb i (set_get hi); rw [List.set_set] at H2; rw [show D.map nv ++ sp = (D.take n).map nv ++ ((D.drop n).map nv ++ sp) by rw [← List.append_assoc, ← List.map_append, List.take_append_drop]] at H2; have H3 := H2.slb' (xs := D.take n) (f := nv) i (set_get hi); rw [List.set_set] at H3; have H4 := H3.close i (set_get hi); rw [List.set_set] at H4
   have e1 : (D.take n).length = n := by rw [List.length_take]; omega
   have e2 : n + ((D.drop n).map nv ++ sp).length = D.length + sp.length := by simp; omega
   rw [e1, e2] at H4; exact H4
theorem depths_spec {v : Value} {i : Nat} (H : Holds w L) (hi : L[i]? = some (SL nv tI v W)) (h2 : 2 ≤ W.length) (hW : W.length ≤ 258) (hw : ∀ x ∈ W, x ≤ 1099511627776)
   (k : ∀ v' out w', Depths W out → Same w w' → Holds w' (SL nv tI v' out :: L) → K v' w') : Cl Tryz.prog F.lens_depths #[v] w K := by
 refine Tie.lens_depths ?_; unfold Vcf.lens_depths; have hT : Tot (h0 W) ≤ 258 * 1099511627776 := Nat.le_trans (tot0 hw) (Nat.mul_le_mul_right _ hW); refine treesOf_spec H hi (by omega) (by omega) fun tb wv0 xv0 lv0 lf0 w1 hS hl S1 H1 => ?_; refine r_lnS i H hi ?_; refine r_sub1N (by omega) (by omega) ?_
 refine r_loop1 (fun x w' => ∃ (q : Nat) (s : HS) (lf : List Nat) (j : Nat) (wv xv lv : Value), x = nv q ∧ q ≤ W.length - 1 ∧ Joins (h0 W) q s ∧ Queue W.length s lf j ∧ Tot s = Tot (h0 W) ∧ (0 < q → s.W.length - 1 ∈ s.V) ∧ Same w w' ∧
     Holds w' (blk tb tTr [wv, xv, lv, nv j] :: SL nv tI wv s.W :: SL fI tI xv s.I :: LV lv lf :: L)) (fun x _ => W.length - (RowKit.intOf x).toNat)
   ⟨0, h0 W, lf0, W.length, wv0, xv0, lv0, rfl, Nat.zero_le _, .start, queue0 (by rw [List.range_eq_range', ← hl]; exact hS.1) hS.2, rfl, fun e => absurd e (Nat.lt_irrefl _), S1, H1⟩ ?_
 clear H1 S1; rintro _ _ w2 ⟨q, s, lf, j, wv, xv, lv, rfl, hq, hJ, hQ, hTt, hlast, S2, H2⟩; obtain ⟨hg, hVl, hWl⟩ := joins_good hJ; refine r_lss (r_ifD (fun h => ?_) fun h => ?_)
 · have hV2 : 2 ≤ s.V.length := by omega
   obtain ⟨s', a, b, ea, eb, jn, hQ', hal, hbl, hne⟩ := queue_join hg hQ hV2; have hjn := hQ.jn; have hlen := hQ.perm.length_eq; rw [List.length_append, List.length_range'] at hlen; obtain ⟨a1, a2, a3, a4, a5⟩ := head_least hQ.jn hQ.lfn hQ.sorted hQ.mono (by intro e; have := congrArg List.length e; rw [List.length_append, List.length_range', List.length_nil] at this; omega); have hlen2 := a2.length_eq; rw [List.length_erase_of_mem a1.1, List.length_append, List.length_append, List.length_range', List.length_range'] at hlen2; have tt := tot_two jn.la.1 jn.lb.1; have H3 : Holds w2 (blk tb tTr [wv, xv, lv, nv j] :: SL nv tI wv s.W :: LV lv lf :: SL fI tI xv s.I :: L) := H2.ord 4 [0, 1, 3, 2] rfl
   refine least_spec H3 hjn.2 (fun x hx => by have := hQ.lfn x hx; omega) (by
     by_cases e : lf = []
     · right; rw [e, List.length_nil] at hlen; omega
     · exact .inl e) (by omega) fun lv1 w3 S3 H4 => ?_
   refine least_spec H4 a3.2 (fun x hx => by have := a4 x hx; omega) (by
     by_cases e : tail1 s.W lf j = []
     · right; rw [e, List.length_nil] at hlen2; omega
     · exact .inl e) (by omega) fun lv2 w4 S4 H5 => ?_
   rw [← ea, ← eb]; generalize tail1 s.W (tail1 s.W lf j) (tail2 s.W lf j) = lf2 at *; generalize tail2 s.W (tail1 s.W lf j) (tail2 s.W lf j) = j2 at *; have H6 : Holds w4 (blk tb tTr [wv, xv, lv2, nv j2] :: SL nv tI wv s.W :: SL fI tI xv s.I :: LV lv2 lf2 :: L) := H5.ord 4 [0, 1, 3, 2] rfl; refine join_spec H6 hal hbl hg.len (by omega) (by omega) fun wv' xv' w5 S5 H7 => ?_; rw [← jn.W, ← jn.I] at H7; refine r_add1N (by omega) (r_ke ⟨⟨q + 1, s', lf2, j2, wv', xv', lv2, rfl, by omega, hJ.next jn, hQ', (tot_join hg jn).trans hTt, fun _ => ?_, S2.trans (S3.trans (S4.trans S5)), H7⟩, ?_⟩)
   · rw [jn.V.mem_iff, jn.W, List.length_append, List.length_singleton, Nat.add_sub_cancel]; exact List.mem_cons_self ..
   · simp only [nv, RowKit.intOf, Int.toNat_natCast]; omega
 obtain rfl : q = W.length - 1 := by omega
 obtain ⟨r, hr⟩ := List.length_eq_one_iff.1 (show s.V.length = 1 by omega)
 have hrl : r = s.W.length - 1 := by
   have := hlast (by omega); rw [hr] at this; exact (List.mem_singleton.1 this).symm
 have hup : ∀ x p, s.I[x]? = some (some p) → x < p ∧ p < s.W.length := by
   intro x p hx
   have h1 : x < s.W.length := by have := (List.getElem?_eq_some_iff.1 hx).1; rw [hg.len] at this; exact this
   have h3 : x ∉ s.V := fun e => by rw [hg.live x e] at hx; cases hx
   obtain ⟨p', h4, h5, h6⟩ := hg.dead x h1 h3; rw [hx] at h4; cases h4; exact ⟨h5, h6⟩
 refine r_nc (r_fo0 (r_ld 0 H2 rfl rfl ?_)); refine r_lnS 1 H2 rfl ?_; obtain ⟨m, hm⟩ : ∃ m, m = s.W.length := ⟨_, rfl⟩; rw [← hm]; refine r_ms (f := nv) (x := 0) H2 rfl (by omega) (by omega) fun ob w3 S3 H3 => ?_; rw [Int.toNat_natCast] at H3 ⊢; have H4 := H3.close 0 rfl; simp only [List.set_cons_zero, List.length_replicate, List.length_nil, Nat.add_zero] at H4; generalize hv : Value.slice (some ⟨ob, 0, none⟩) m m = ov at H4 ⊢; refine r_lnS 0 H4 rfl ?_; rw [List.length_replicate]; refine r_subN (b := 2) (by omega) (by omega) ?_
 have hz : ∀ x, (List.replicate m 0).getD x 0 = 0 := fun x => by
   rw [List.getD_eq_getElem?_getD, List.getElem?_replicate]
   split <;> rfl
 refine r_loop1 (fun x w' => ∃ (t : Nat) (D : List Nat), x = iv ((t : Int) - 1) ∧ t ≤ m - 1 ∧ D.length = m ∧ D.getD (m - 1) 0 = 0 ∧ (∀ x p, t ≤ x → s.I[x]? = some (some p) → D.getD x 0 = D.getD p 0 + 1) ∧ (∀ x, D.getD x 0 ≤ m - x) ∧ Same w w' ∧
     Holds w' (SL nv tI ov D :: blk tb tTr [wv, xv, lv, nv j] :: SL nv tI wv s.W :: SL fI tI xv s.I :: LV lv lf :: L)) (fun x _ => (RowKit.intOf x + 1).toNat)
   ⟨m - 1, List.replicate m 0, by rw [show ((m - 1 : Nat) : Int) - 1 = ((m - 2 : Nat) : Int) by omega], Nat.le_refl _, List.length_replicate, hz _, fun x p h1 h3 => by have := hup x p h3; omega, fun x => by rw [hz]; omega, S2.trans S3, H4⟩ ?_
 clear H4 H3 S3 S2 H2; rintro _ _ w4 ⟨t, D, rfl, ht, hDl, hD0, hD, hDb, S4, H4⟩; refine r_geq (r_ifD (fun h => ?_) fun h => ?_)
 · obtain ⟨x, rfl⟩ : ∃ x, t = x + 1 := ⟨t - 1, by omega⟩; rw [show ((x + 1 : Nat) : Int) - 1 = (x : Int) by omega]; obtain ⟨p, hp, hxp, hpm⟩ := hg.dead x (by omega) (by rw [hr]; intro e; have := List.mem_singleton.1 e; omega); refine r_nc (r_fo0 (r_ld 1 H4 rfl rfl ?_)); refine r_getS 3 H4 (f := fI) rfl hp ?_
   have hpD : D[p]? = some (D.getD p 0) := by rw [List.getD_eq_getElem?_getD, List.getElem?_eq_getElem (by omega)]; rfl
   refine r_getS 0 H4 (j := p) rfl hpD ?_; have hb := hDb p; refine r_add1N (by omega) ?_; refine r_setS 0 H4 (D.getD p 0 + 1) rfl (by omega) rfl fun w5 S5 H5 => ?_; replace H5 : Holds w5 (SL nv tI ov (D.set x (D.getD p 0 + 1)) :: blk tb tTr [wv, xv, lv, nv j] :: SL nv tI wv s.W :: SL fI tI xv s.I :: LV lv lf :: L) := H5; refine r_sub (by omega) (by omega) ?_
   have hset : ∀ y, (D.set x (D.getD p 0 + 1)).getD y 0 = if y = x then D.getD p 0 + 1 else D.getD y 0 := by
     intro y; rw [List.getD_eq_getElem?_getD, List.getElem?_set]
     by_cases e : x = y
     · subst e; rw [if_pos rfl, if_pos (by omega), if_pos rfl]; rfl
     · rw [if_neg e, if_neg (fun e2 => e e2.symm), ← List.getD_eq_getElem?_getD]
   refine r_ke ⟨⟨x, _, rfl, by omega, by rw [List.length_set]; exact hDl, ?_, ?_, ?_, S4.trans S5, H5⟩, ?_⟩
   · rw [hset, if_neg (by omega)]; exact hD0
   · intro y p' h1 h3; have h5 := hup y p' h3; rw [hset, hset]
     by_cases e : y = x
     · subst e; rw [hp] at h3; cases h3; rw [if_pos rfl, if_neg (by omega)]
     · rw [if_neg e, if_neg (by omega)]; exact hD y p' (by omega) h3
   · intro y; rw [hset]; split
     · rename_i e; omega
     · exact hDb y
   · simp only [iv, RowKit.intOf]; omega
 obtain rfl : t = 0 := by omega
 refine r_lnS i H hi ?_
 have hDne : D ≠ [] := fun e => by rw [e, List.length_nil] at hDl; omega
 refine r_sslTo H4 (i := 0) rfl (by omega) hDne fun v' H5 => ?_; have H6 := H5.ord 5 [0] rfl; refine k v' (D.take W.length) w4 ⟨s, r, hJ, hr, by rw [List.length_take]; omega, fun x hx => ?_⟩ S4 H6
 have e1 : (D.take W.length).getD x 0 = D.getD x 0 := by rw [List.getD_eq_getElem?_getD, List.getElem?_take_of_lt hx, ← List.getD_eq_getElem?_getD]
 rw [e1]; exact depth_up hg hr (by rw [hrl, ← hm]; exact hD0) (fun a p h => hD a p (Nat.zero_le _) h) _ x (Nat.le_refl _) (by omega)
end T09
end Go.Proofs.YtgaiocpkjaaphaaGreatDoor
namespace Go.Proofs.YtgaiocpkjaaphaaGreatDoor
open Go Go.Vc
open Classical in
theorem r_loop1n {w : World} {a : Value} {body : (Nat → Value) → Cur 1 → Cur 1} (I : Nat → Value → World → Prop) (n0 : Nat) (h0 : I n0 a w)
   (h : ∀ jb n x w (k : Cur 1), I n x w → (∀ m x' w', m < n → I m x' w' → k x' w') → body jb k x w) : VLoop 1 [a] w body := by
 refine r_loop1 (fun x w' => ∃ n, I n x w') (fun x w' => if h : ∃ n, I n x w' then Classical.choose (Mh.exists_least h) else 0) ⟨n0, h0⟩ ?_; intro jb x w1 hx; have e1 := Classical.choose_spec (Mh.exists_least hx); refine h jb _ x w1 _ e1.1 fun m x' w' hm hI => ⟨⟨m, hI⟩, ?_⟩; have hx' : ∃ n, I n x' w' := ⟨m, hI⟩; have e2 := Classical.choose_spec (Mh.exists_least hx'); show dite _ _ _ < dite _ _ _; rw [dif_pos hx, dif_pos hx']; exact Nat.lt_of_le_of_lt (e2.2 m hI) hm
attribute [local irreducible] Vc.Nc Vc.Ld Vc.LdA Vc.St Vc.StA Vc.Fo Vc.Iaa Vc.Ias Vc.Ixs Vc.Ixa Vc.Fd Vc.FdA Vc.Bp Vc.Bb Vc.Bn Vc.Up Vc.Ci Vc.Lns Vc.Lnl Vc.Ex Vc.Sst Vc.Ssl Vc.New Vc.Vif Vc.VJoin Vc.VLoop Vc.KE Vc.Dr Vc.Rk Vc.Cl Vc.Cx Vc.Inv Vc.Be Vc.Cv Vc.Cw Vc.Mf Vc.Sl Vc.Lk Vc.Bd Vc.Bs Vc.Ms Vc.Mm Vc.Mu Vc.Me Vc.Es Vc.Rg Vc.Nx Vc.Ta Vc.Ap Vc.Usd Vc.Ust Vc.Cp Vc.Ln Vc.Bc Vc.Bmin Vc.Bmax Vc.Bdel Vc.Bclr Vc.Pk
namespace O09
open Go.Mh
variable {w : World} {L : List HProp} {K : Value → World → Prop}
theorem Longest_spec {v : Value} {l : List Nat} {i : Nat} (H : Holds w L) (hi : L[i]? = some (SL nv tI v l)) (hl : l.length ≤ 1000000) (k : ∀ n : Nat, (n ≤ 20 ↔ ∀ x ∈ l, x ≤ 20) → K (nv n) w) : Cl Tryz.prog F.lens_Longest #[v] w K := by
 refine Tie.lens_Longest ?_; unfold Vcf.lens_Longest; refine r_lnS i H hi ?_; refine r_loop2 (fun p q w' => ∃ n t : Nat, p = nv n ∧ q = nv t ∧ t ≤ l.length ∧ (n ≤ 20 ↔ ∀ x ∈ l.take t, x ≤ 20) ∧ w = w') (fun _ q _ => l.length - (RowKit.intOf q).toNat) ⟨0, 0, rfl, rfl, Nat.zero_le _, by simp, rfl⟩ ?_; rintro _ _ _ _ ⟨n, t, rfl, rfl, ht, hn, rfl⟩; refine r_lss (r_ifD (fun h => ?_) fun h => ?_)
 · have hlt : t < l.length := by omega
   refine r_getS i H hi (List.getElem?_eq_getElem hlt) ?_; refine r_max ?_; refine r_add1N (by omega) (r_ke ⟨⟨max n l[t], t + 1, by rw [show max (n : Int) (l[t] : Int) = ((max n l[t] : Nat) : Int) by omega], rfl, by omega, ?_, rfl⟩, ?_⟩)
   · have e : l.take (t + 1) = l.take t ++ [l[t]] := by rw [List.take_add_one, List.getElem?_eq_getElem hlt]; rfl
     rw [e]
     constructor
     · intro h1 x hx; rcases List.mem_append.1 hx with hx | hx
       · exact hn.1 (by omega) x hx
       · rw [List.mem_singleton.1 hx]; omega
     · intro h1; have h2 := hn.2 fun x hx => h1 x (List.mem_append_left _ hx); have h3 := h1 l[t] (List.mem_append_right _ (List.mem_singleton.2 rfl)); omega
   · simp only [nv, RowKit.intOf, Int.toNat_natCast]; omega
 · rw [List.take_of_length_le (by omega)] at hn; exact k n hn
theorem Halved_spec {v : Value} {l : List Nat} {i : Nat} (H : Holds w L) (hi : L[i]? = some (SL nv tI v l)) (hl : l.length ≤ 1000000) (hb : ∀ x ∈ l, x ≤ 1099511627776) (k : ∀ v' w', Same w w' → Holds w' (SL nv tI v' (halved l) :: L) → K v' w') : Cl Tryz.prog F.lens_Halved #[v] w K := by
 refine Tie.lens_Halved ?_; unfold Vcf.lens_Halved; refine r_lnS i H hi ?_; refine r_ms (f := nv) (x := 0) H rfl (by omega) (by omega) fun ob w2 S2 H2 => ?_; rw [Int.toNat_natCast] at H2 ⊢; have H3 := H2.close 0 rfl; simp only [List.set_cons_zero, List.length_replicate, List.length_nil, Nat.add_zero] at H3; generalize hv : Value.slice (some ⟨ob, 0, none⟩) l.length l.length = ov at H3 ⊢; refine r_lnS i H hi ?_; refine r_loop1 (fun q w' => ∃ (t : Nat), q = nv t ∧ t ≤ l.length ∧ Same w w' ∧ Holds w' (SL nv tI ov (halved (l.take t) ++ List.replicate (l.length - t) 0) :: L)) (fun q _ => l.length - (RowKit.intOf q).toNat) ⟨0, rfl, Nat.zero_le _, S2, H3⟩ ?_; clear H H2 H3 S2; rintro _ _ w3 ⟨t, rfl, ht, S3, H3⟩; refine r_lss (r_ifD (fun h => ?_) fun h => ?_)
 · have hlt : t < l.length := by omega
   have hx := hb _ (List.getElem_mem hlt)
   have e : l.take (t + 1) = l.take t ++ [l[t]] := by rw [List.take_add_one, List.getElem?_eq_getElem hlt]; rfl
   refine r_getS (i + 1) H3 (by rw [List.getElem?_cons_succ]; exact hi) (List.getElem?_eq_getElem hlt) ?_; generalize l[t] = x at *; refine r_max ?_; rw [show max (x : Int) 0 = (x : Int) by omega]; refine r_quo (by omega) (by omega) (by omega) ?_; rw [show (x : Int) / 2 = ((x / 2 : Nat) : Int) by omega]; refine r_add1N (by omega) ?_
   have hlen : (halved (l.take t)).length = t := by unfold halved; rw [List.length_map, List.length_take]; omega
   refine r_setS 0 H3 (x / 2 + 1) rfl (by rw [List.length_append, hlen, List.length_replicate]; omega) rfl fun w4 S4 H4 => ?_; refine r_add1N (by omega) (r_ke ⟨⟨t + 1, rfl, by omega, S3.trans S4, ?_⟩, ?_⟩)
   · replace H4 : Holds w4 (SL nv tI ov ((halved (l.take t) ++ List.replicate (l.length - t) 0).set t (x / 2 + 1)) :: L) := H4; rw [List.set_append_right _ _ (by omega), hlen, Nat.sub_self, show l.length - t = (l.length - (t + 1)) + 1 by omega, List.replicate_succ, List.set_cons_zero] at H4; rw [e]; unfold halved at *; rw [List.map_append]; simpa using H4
   · simp only [nv, RowKit.intOf, Int.toNat_natCast]; omega
 · obtain rfl : t = l.length := by omega
   rw [List.take_length, Nat.sub_self, List.replicate_zero, List.append_nil] at H3; exact k ov w3 S3 H3
def ones (c : List Nat) : List Nat := c.map fun x => max x 1
theorem Of_spec {v : Value} {c : List Nat} {i : Nat} (H : Holds w L) (hi : L[i]? = some (SL nv tI v c)) (h3 : 3 ≤ c.length) (hl : c.length ≤ 258) (hb : ∀ x ∈ c, x ≤ 1099511627776)
   (k : ∀ v' out w', LensOf (ones c) out → Same w w' → Holds w' (SL nv tI v' out :: L) → K (.tuple #[v', iv 0]) w') : Cl Tryz.prog F.lens_Of #[v] w K := by
 refine Tie.lens_Of ?_; unfold Vcf.lens_Of; refine r_join1 (fun t w' => Same w w' ∧ Holds w' L ∧ t = .bool false) ?_ ?_
 rotate_left
 · refine r_lnS i H hi (r_lss (r_vfD (by omega) ?_)); refine r_lnS i H hi (r_gtr (r_vfD (by omega) ?_)); refine r_cl (K := fun t w' => Same w w' ∧ Holds w' L ∧ t = .bool true) ?_ ?_
   · refine Tie.lens_between ?_; unfold Vcf.lens_between; refine r_new H fun lb w1 S1 H1 => ?_; replace H1 : Holds w1 (blk lb tI [iv 0] :: L) := H1; refine r_new H1 fun hb' w2 S2 H2 => ?_; replace H2 : Holds w2 (blk hb' tI [iv 1099511627776] :: blk lb tI [iv 0] :: L) := H2; refine r_mf (.func (.func F.lens_between_1) #[] #[pt lb, pt hb']) (by kernel_rfl) ?_; refine D11.none_spec H2 (i + 2) hi (by omega) (fun x hx Q hQ => ?_) ?_
     · have hx1 := hb x hx; refine r_inv (f := F.lens_between_1) (args := #[nv x, pt lb, pt hb']) (by kernel_rfl) ?_; refine Tie.lens_between_1 ?_; unfold Vcf.lens_between_1; refine r_ld 1 H2 rfl rfl ?_; refine r_lss (r_vfD (by omega) ?_); refine r_ld 0 H2 rfl rfl ?_; refine r_gtr ?_; rw [decide_eq_false (by omega)]; exact hQ
     · exact r_notF ⟨S1.trans S2, H2.drop.drop, rfl⟩
   rintro _ w1 ⟨S1, H1, rfl⟩; exact r_notT (r_ke ⟨S1, H1, rfl⟩)
 rintro _ _ w1 ⟨S1, H1, rfl⟩; refine r_vf ?_; refine r_lnS i H hi ?_; refine r_ms (f := nv) (x := 0) H1 rfl (by omega) (by omega) fun ob w2 S2 H2 => ?_; rw [Int.toNat_natCast] at H2 ⊢; have H3 := H2.close 0 rfl; simp only [List.set_cons_zero, List.length_replicate, List.length_nil, Nat.add_zero] at H3; generalize hv : Value.slice (some ⟨ob, 0, none⟩) c.length c.length = ov at H3 ⊢; refine r_lnS i H hi ?_; refine r_loop1 (fun q w' => ∃ (t : Nat), q = nv t ∧ t ≤ c.length ∧ Same w w' ∧ Holds w' (SL nv tI ov (ones (c.take t) ++ List.replicate (c.length - t) 0) :: L)) (fun q _ => c.length - (RowKit.intOf q).toNat) ⟨0, rfl, Nat.zero_le _, S1.trans S2, H3⟩ ?_; clear H1 H2 H3 S1 S2; rintro _ _ w3 ⟨t, rfl, ht, S3, H3⟩; refine r_lss (r_ifD (fun h => ?_) fun h => ?_)
 · have hlt : t < c.length := by omega
   have e : c.take (t + 1) = c.take t ++ [c[t]] := by rw [List.take_add_one, List.getElem?_eq_getElem hlt]; rfl
   refine r_getS (i + 1) H3 (by rw [List.getElem?_cons_succ]; exact hi) (List.getElem?_eq_getElem hlt) ?_; generalize c[t] = x at *; refine r_max ?_; rw [show max (x : Int) 1 = ((max x 1 : Nat) : Int) by omega]
   have hlen : (ones (c.take t)).length = t := by unfold ones; rw [List.length_map, List.length_take]; omega
   refine r_setS 0 H3 (max x 1) rfl (by rw [List.length_append, hlen, List.length_replicate]; omega) rfl fun w4 S4 H4 => ?_; refine r_add1N (by omega) (r_ke ⟨⟨t + 1, rfl, by omega, S3.trans S4, ?_⟩, ?_⟩)
   · replace H4 : Holds w4 (SL nv tI ov ((ones (c.take t) ++ List.replicate (c.length - t) 0).set t (max x 1)) :: L) := H4; rw [List.set_append_right _ _ (by omega), hlen, Nat.sub_self, show c.length - t = (c.length - (t + 1)) + 1 by omega, List.replicate_succ, List.set_cons_zero] at H4; rw [e]; unfold ones at *; rw [List.map_append]; simpa using H4
   · simp only [nv, RowKit.intOf, Int.toNat_natCast]; omega
 obtain rfl : t = c.length := by omega
 rw [List.take_length, Nat.sub_self, List.replicate_zero, List.append_nil] at H3
 refine r_loop1n (fun n x w' => ∃ u : List Nat, n = u.sum ∧ u.length = c.length ∧ (∀ x ∈ u, 1 ≤ x ∧ x ≤ 1099511627776) ∧ (∀ out, LensOf u out → LensOf (ones c) out) ∧ Same w w' ∧ Holds w' (SL nv tI x u :: L)) (ones c).sum
   ⟨ones c, rfl, by unfold ones; rw [List.length_map], fun x hx => by
     obtain ⟨y, hy, rfl⟩ := List.mem_map.1 hx; have := hb y hy
     omega, fun _ h => h, S3, H3⟩ ?_
 clear H3 S3; rintro _ _ x w4 kk ⟨u, rfl, hu, hur, hcont, S4, H4⟩ hkk; refine T09.depths_spec H4 (i := 0) rfl (by omega) (by omega) (fun x hx => (hur x hx).2) fun v' out w5 hD S5 H5 => ?_
 have hol : out.length = c.length := by
   obtain ⟨_, _, _, _, h, _⟩ := hD; omega
 refine Longest_spec H5 (i := 0) rfl (by omega) fun m hm => ?_; refine r_leq (r_ifD (fun h20 => ?_) fun h20 => ?_)
 · refine Clone_spec H5 0 rfl (by omega) fun v2 w6 S6 H6 => ?_; exact k v2 out w6 (hcont _ (.fit hD (hm.1 (by omega)))) (S4.trans (S5.trans S6)) (Holds.dropAt (Holds.dropAt H6 1) 1)
 · have hn : ¬ ∀ x ∈ out, x ≤ 20 := fun e => h20 (by have := hm.2 e; omega); refine Halved_spec H5 (i := 1) rfl (by omega) (fun x hx => (hur x hx).2) fun v2 w6 S6 H6 => ?_; refine r_ke (hkk (halved u).sum v2 w6 ?_ ⟨halved u, rfl, by unfold halved; rw [List.length_map]; exact hu, halved_in (by omega) hur, fun o ho => hcont o (.more hD hn ho), S4.trans (S5.trans S6), Holds.dropAt (Holds.dropAt H6 1) 1⟩); refine halved_lt u (fun x hx => (hur x hx).1) fun e => hn ?_; exact depths_small (fun x hx => ⟨(hur x hx).1, e x hx⟩) (by omega) hD
end O09
namespace T12
open F08 Rw Go.Mh
variable {w : World} {L : List HProp} {K : Value → World → Prop}
theorem lensOf_len {w out : List Nat} (h : LensOf w out) : out.length = w.length ∧ ∀ x ∈ out, x ≤ 20 := by
 induction h with
 | fit h hl =>
   obtain ⟨_, _, _, _, h, _⟩ := h; exact ⟨by omega, hl⟩
 | more h hl r ih =>
   unfold halved at ih; rw [List.length_map] at ih; exact ih
def catP (ts : List (List Nat)) (p : Nat) (gs : List (List Nat)) : List Nat := (gs.filter fun g => decide (pk g ts = p)).flatten
theorem catP_snoc (ts : List (List Nat)) (p : Nat) (gs : List (List Nat)) (g : List Nat) : catP ts p (gs ++ [g]) = catP ts p gs ++ if pk g ts = p then g else [] := by
 unfold catP; rw [List.filter_append, List.flatten_append]
 congr 1
 by_cases q : pk g ts = p
 · rw [if_pos q, List.filter_cons_of_pos (by simpa using q)]; simp
 · rw [if_neg q, List.filter_cons_of_neg (by simpa using q)]; rfl
structure Gp (size : Nat) (gs : List (List Nat)) : Prop where
 few : gs.length ≤ 32767
 len : ∀ g ∈ gs, g.length ≤ 50
 lt : ∀ g ∈ gs, ∀ x ∈ g, x < size
theorem catP_le {size : Nat} {ts gs : List (List Nat)} {p : Nat} (h : Gp size gs) : ∀ i, (catP ts p (gs.take i)).length ≤ i * 50
 | 0 => by simp [catP]
 | i + 1 => by
   have ih := catP_le (ts := ts) (p := p) h i; rcases Nat.lt_or_ge i gs.length with q | q
   · have e : gs.take (i + 1) = gs.take i ++ [gs[i]] := by rw [List.take_add_one, List.getElem?_eq_getElem q]; rfl
     rw [e, catP_snoc, List.length_append]; have := h.len _ (List.getElem_mem q); split
     · omega
     · simp; omega
   · rw [List.take_of_length_le (by omega), ← List.take_of_length_le (i := i) q]; omega
structure Rnd (gs : List (List Nat)) (size : Nat) (ts : List (List Nat)) (picks : List Nat) (ts' : List (List Nat)) : Prop where
 pk : picks = gs.map fun g => pk g ts
 len : ts'.length = ts.length
 lens : ∀ p, p < ts.length → LensOf (O09.ones (cnt (catP ts p gs) size)) (ts'.getD p [])
theorem Rnd.uniq {gs ts ts1 ts2 : List (List Nat)} {size : Nat} {p1 p2 : List Nat} (h : Rnd gs size ts p1 ts1) (g : Rnd gs size ts p2 ts2) : p1 = p2 ∧ ts1 = ts2 := by
 refine ⟨h.pk.trans g.pk.symm, ?_⟩; apply List.ext_getElem?; intro i; rcases Nat.lt_or_ge i ts.length with q | q
 · rw [row_at (by rw [h.len]; exact q), row_at (by rw [g.len]; exact q), (h.lens i q).uniq (g.lens i q)]
 · rw [List.getElem?_eq_none (by rw [h.len]; exact q), List.getElem?_eq_none (by rw [g.len]; exact q)]
theorem Rnd.tb {gs ts ts1 : List (List Nat)} {size : Nat} {p1 : List Nat} (h : Rnd gs size ts p1 ts1) (hT : Tb size ts) : Tb size ts1 := by
 have hm : ∀ t ∈ ts1, t.length = size ∧ ∀ x ∈ t, x ≤ 20 := by
   intro t ht; obtain ⟨i, hi, rfl⟩ := List.getElem_of_mem ht; have h1 := lensOf_len (h.lens i (by rw [← h.len]; exact hi)); rw [List.getD_eq_getElem?_getD, List.getElem?_eq_getElem hi] at h1; unfold O09.ones at h1; rw [List.length_map, cnt_len] at h1; exact h1
 exact ⟨by rw [h.len]; exact hT.n2, by rw [h.len]; exact hT.n6, fun t ht => (hm t ht).1, fun t ht => (hm t ht).2⟩
theorem Rnd.lt {gs ts ts1 : List (List Nat)} {size : Nat} {p1 : List Nat} (h : Rnd gs size ts p1 ts1) (hT : Tb size ts) : p1.length = gs.length ∧ ∀ p ∈ p1, p < ts1.length := by
 rw [h.pk]; refine ⟨by simp, fun p hp => ?_⟩; obtain ⟨g, _, rfl⟩ := List.mem_map.1 hp; have := hT.n2; rw [h.len]; exact bst_lt _ _ (by omega)
theorem round_spec {gv tv : Value} {gs ts : List (List Nat)} {size i j : Nat} (H : Holds w L) (hi : L[i]? = some (RR gv gs)) (hj : L[j]? = some (RR tv ts)) (hij : i ≠ j) (hT : Tb size ts) (hs3 : 3 ≤ size) (hs : size ≤ 258) (hG : Gp size gs)
   (k : ∀ pv ov picks ts' w', Rnd gs size ts picks ts' → Same w w' → Holds w' (RR ov ts' :: SL nv tI pv picks :: L) → K (.tuple #[pv, ov]) w') : Cl Tryz.prog F.tables_round #[gv, tv, nv size] w K := by
 refine Tie.tables_round ?_; unfold Vcf.tables_round; have hn2 := hT.n2; have hn6 := hT.n6; have hgl := hG.few; refine rr_ln j H hj ?_; refine rr_make H (by omega) fun cv w2 S2 H2 => ?_; refine rr_ln 0 H2 rfl ?_; rw [List.length_replicate]
 refine r_loop1 (fun q w' => ∃ p : Nat, q = nv p ∧ p ≤ ts.length ∧ Same w w' ∧ Holds w' (RR cv ((List.range ts.length).map fun j => if j < p then List.replicate size 0 else []) :: L)) (fun q _ => ts.length - (RowKit.intOf q).toNat)
   ⟨0, rfl, Nat.zero_le _, S2, by
     have e : (List.range ts.length).map (fun j => if j < 0 then List.replicate size 0 else ([] : List Nat)) = List.replicate ts.length [] := by
       apply List.ext_getElem?; intro j; rw [List.getElem?_replicate]; split
       · rename_i q; rw [map_range_get _ q, if_neg (by omega)]
       · rename_i q; rw [List.getElem?_eq_none (by simpa using q)]
     rw [e]; exact H2⟩ ?_
 clear H H2 S2; rintro _ _ w3 ⟨p, rfl, hp, S3, H3⟩; refine r_lss (r_ifD (fun h => ?_) fun h => ?_)
 · have hlt : p < ts.length := by omega
   refine r_ms (f := nv) (x := 0) H3 rfl (by omega) (by omega) fun nb w4 S4 H4 => ?_; rw [Int.toNat_natCast] at H4 ⊢; have H5 := H4.close 0 rfl; simp only [List.set_cons_zero, List.length_replicate, List.length_nil, Nat.add_zero] at H5; refine rr_set 0 H5 rfl (by rw [List.length_map, List.length_range]; exact hlt) fun w5 S5 H6 => ?_
   have e6 := map_range_set (fun j => if j < p then List.replicate size 0 else ([] : List Nat)) (fun j => if j < p + 1 then List.replicate size 0 else ([] : List Nat)) hlt (fun j hj hjp => by
     by_cases q : j < p
     · rw [if_pos q, if_pos (by omega)]
     · rw [if_neg q, if_neg (by omega)])
   simp only [Nat.lt_succ_self, if_true] at e6; rw [List.set_cons_zero, e6] at H6; refine r_add1N (by omega) (r_ke ⟨⟨p + 1, rfl, hlt, S3.trans (S4.trans S5), H6⟩, ?_⟩); simp only [nv, RowKit.intOf, Int.toNat_natCast]; omega
 obtain rfl : p = ts.length := by omega
 have e0 : (List.range ts.length).map (fun j => if j < ts.length then List.replicate size 0 else ([] : List Nat)) = (List.range ts.length).map fun p => cnt (catP ts p (gs.take 0)) size :=
   map_range_congr _ _ fun j hj => by rw [if_pos hj, List.take_zero]; show _ = cnt [] size; rw [cnt_nil]
 rw [e0] at H3; refine rr_ln (i + 1) H3 (by rw [List.getElem?_cons_succ]; exact hi) ?_
 refine r_loop2 (fun pv x w' => ∃ u : Nat, x = nv u ∧ u ≤ gs.length ∧ Same w w' ∧ Holds w' (SL nv tI pv ((gs.take u).map fun g => pk g ts) :: RR cv ((List.range ts.length).map fun p => cnt (catP ts p (gs.take u)) size) :: L)) (fun _ x _ => gs.length - (RowKit.intOf x).toNat)
   ⟨0, rfl, Nat.zero_le _, S3, H3.nilSL nv tI⟩ ?_
 clear H3 S3 h e0; rintro _ pv _ w4 ⟨u, rfl, hu, S4, H4⟩; refine r_lss (r_ifD (fun h => ?_) fun h => ?_)
 · have hlt : u < gs.length := by omega
   have hq := row_at hlt; have hmem := row_mem hlt
   have e : gs.take (u + 1) = gs.take u ++ [gs.getD u []] := by rw [List.take_add_one, hq]; rfl
   have hcl := fun p => catP_le (ts := ts) (p := p) hG u; generalize gs.getD u [] = g at *; have hgl50 := hG.len g hmem; have hgx := hG.lt g hmem; have hpk : pk g ts < ts.length := bst_lt _ _ (by omega); obtain ⟨x, R, hld, H5, _, _, _, hR⟩ := rr_open (i + 2) H4 (by rw [List.getElem?_cons_succ, List.getElem?_cons_succ]; exact hi) hq; refine hld _ _ fun _ hp_ => hp_ _ ?_; replace H5 : Holds w4 (SL nv tI (sw x) g :: SL nv tI pv ((gs.take u).map fun g => pk g ts) :: RR cv ((List.range ts.length).map fun p => cnt (catP ts p (gs.take u)) size) :: L.set i R) := H5; refine pick_spec H5 (i := 0) (j := j + 3) rfl (by rw [List.getElem?_cons_succ, List.getElem?_cons_succ, List.getElem?_cons_succ, List.getElem?_set_ne hij]; exact hj) (by omega) hT hs hgl50 hgx ?_; generalize hP : pk g ts = P at *; refine r_app1 (f := nv) H5 1 rfl P (fun _ => rfl) (by rw [List.length_map, List.length_take]; omega) fun pv2 w5 S5 H6 => ?_; replace H6 : Holds w5 (SL nv tI (sw x) g :: SL nv tI pv2 (((gs.take u).map fun g => T12.pk g ts) ++ [P]) :: RR cv ((List.range ts.length).map fun p => cnt (catP ts p (gs.take u)) size) :: L.set i R) := H6; refine Counts_spec H6 (i := 0) rfl hs3 hs (by omega) hgx fun av w6 S6 H7 => ?_; refine r_ex20 (r_ex21 ?_); have hrow : ((List.range ts.length).map fun p => cnt (catP ts p (gs.take u)) size)[P]? = some (cnt (catP ts P (gs.take u)) size) := map_range_get _ hpk; obtain ⟨y, R2, hld2, H8, hcl2, _, _, _⟩ := rr_open 3 H7 rfl hrow; refine hld2 _ _ fun _ hp_ => hp_ _ ?_; have hc1 := hcl P; refine Add_spec H8 (i := 0) (j := 1) rfl rfl (by rw [cnt_len]; omega) (by rw [cnt_len, cnt_len]) (fun x hx => by have := cnt_le _ _ x hx; omega) (fun x hx => by have := cnt_le _ _ x hx; omega) fun sv w7 S7 H9 => ?_; refine r_ex20 (r_ex21 ?_); have H10 := hcl2 [_] _ H9; refine rr_set 3 H10 rfl (by rw [List.length_map, List.length_range]; exact hpk) fun w8 S8 H11 => ?_; have H12 := H11.drop; replace H12 : Holds w8 (SL nv tI (sw x) g :: SL nv tI pv2 (((gs.take u).map fun g => T12.pk g ts) ++ [P]) :: RR cv (((List.range ts.length).map fun p => cnt (catP ts p (gs.take u)) size).set P (addL (cnt (catP ts P (gs.take u)) size) (cnt g size))) :: L.set i R) := H12; have H13 := rr_shut hR [] (i + 2) (by rw [List.getElem?_cons_succ, List.getElem?_cons_succ]; exact set_get hi) H12
   have eL : (L.set i R).set i (RR gv gs) = L := by
     obtain ⟨p1, p2⟩ := List.getElem?_eq_some_iff.1 hi; rw [List.set_set, ← p2, List.set_getElem_self]
   replace H13 : Holds w8 (SL nv tI pv2 (((gs.take u).map fun g => T12.pk g ts) ++ [P]) :: RR cv (((List.range ts.length).map fun p => cnt (catP ts p (gs.take u)) size).set P (addL (cnt (catP ts P (gs.take u)) size) (cnt g size))) :: (L.set i R).set i (RR gv gs)) := H13; rw [eL] at H13
   have e7 := map_range_set (fun p => cnt (catP ts p (gs.take u)) size) (fun p => cnt (catP ts p (gs.take (u + 1))) size) hpk (fun p _ hpP => by
     rw [e, catP_snoc, if_neg (by omega), List.append_nil])
   have e8 : addL (cnt (catP ts P (gs.take u)) size) (cnt g size) = cnt (catP ts P (gs.take (u + 1))) size := by
     rw [addL_cnt, e, catP_snoc, if_pos hP]
   rw [e8, e7] at H13; refine r_add1N (by omega) (r_ke ⟨⟨u + 1, rfl, hlt, S4.trans (S5.trans (S6.trans (S7.trans S8))), ?_⟩, ?_⟩)
   · rw [e, List.map_append, ← e]; simp only [List.map_cons, List.map_nil]; rw [hP]; exact H13
   · simp only [nv, RowKit.intOf, Int.toNat_natCast]; omega
 obtain rfl : u = gs.length := by omega
 rw [List.take_length] at H4; refine rr_ln 1 H4 rfl ?_; rw [List.length_map, List.length_range]
 refine r_loop2 (fun ov x w' => ∃ (q : Nat) (ts' : List (List Nat)), x = nv q ∧ q ≤ ts.length ∧ ts'.length = q ∧ (∀ p, p < q → LensOf (O09.ones (cnt (catP ts p gs) size)) (ts'.getD p [])) ∧ Same w w' ∧
     Holds w' (RR ov ts' :: SL nv tI pv (gs.map fun g => pk g ts) :: RR cv ((List.range ts.length).map fun p => cnt (catP ts p gs) size) :: L)) (fun _ x _ => ts.length - (RowKit.intOf x).toNat)
   ⟨0, [], rfl, Nat.zero_le _, rfl, fun p hp => absurd hp (Nat.not_lt_zero p), S4, rr_nil H4⟩ ?_
 clear H4 S4 h; rintro _ ov _ w5 ⟨q, ts', rfl, hq, hql, hqL, S5, H5⟩; refine r_lss (r_ifD (fun h => ?_) fun h => ?_)
 · have hlt : q < ts.length := by omega
   have hrow : ((List.range ts.length).map fun p => cnt (catP ts p gs) size)[q]? = some (cnt (catP ts q gs) size) := map_range_get _ hlt; obtain ⟨x, R, hld, H6, hcl, _, _, _⟩ := rr_open 2 H5 rfl hrow; refine hld _ _ fun _ hp_ => hp_ _ ?_; have hc1 := catP_le (ts := ts) (p := q) hG gs.length; rw [List.take_length] at hc1; refine O09.Of_spec H6 (i := 0) rfl (by rw [cnt_len]; exact hs3) (by rw [cnt_len]; exact hs) (fun x hx => by have := cnt_le _ _ x hx; omega) fun lv out w6 hL S6 H7 => ?_; refine r_ex20 (r_ex21 ?_); have H8 := hcl [_] _ H7; refine rr_app 0 H8 rfl (by omega) fun ov2 w7 S7 H9 => ?_; replace H9 : Holds w7 (RR ov2 (ts' ++ [out]) :: SL nv tI pv (gs.map fun g => T12.pk g ts) :: RR cv ((List.range ts.length).map fun p => cnt (catP ts p gs) size) :: L) := H9; refine r_add1N (by omega) (r_ke ⟨⟨q + 1, _, rfl, hlt, by rw [List.length_append, hql]; rfl, fun p hp => ?_, S5.trans (S6.trans S7), H9⟩, ?_⟩)
   · rw [List.getD_eq_getElem?_getD]; rcases Nat.lt_or_ge p q with z | z
     · rw [List.getElem?_append_left (by omega), ← List.getD_eq_getElem?_getD]; exact hqL p z
     · obtain rfl : p = q := by omega
       rw [List.getElem?_append_right (by omega), hql, Nat.sub_self]; exact hL
   · simp only [nv, RowKit.intOf, Int.toNat_natCast]; omega
 · obtain rfl : q = ts.length := by omega
   have H6 := Holds.dropAt H5 2; exact k _ _ _ _ _ ⟨rfl, hql, hqL⟩ S5 H6
end T12
namespace T12
open F08 Rw Go.Mh
variable {w : World} {L : List HProp} {K : Value → World → Prop}
def grp (l : List Nat) (g : Nat) : List Nat := (l.drop (g * 50)).take 50
def nGr (l : List Nat) : Nat := (l.length + 49) / 50
def grps (l : List Nat) : List (List Nat) := (List.range (nGr l)).map (grp l)
theorem grps_len (l : List Nat) : (grps l).length = nGr l := by simp [grps]
theorem grps_gp {l : List Nat} {size : Nat} (hl : nGr l ≤ 32767) (hx : ∀ x ∈ l, x < size) : Gp size (grps l) := by
 refine ⟨by rw [grps_len]; exact hl, fun g hg => ?_, fun g hg x hxg => ?_⟩
 · obtain ⟨i, _, rfl⟩ := List.mem_map.1 hg; unfold grp; rw [List.length_take]; omega
 · obtain ⟨i, _, rfl⟩ := List.mem_map.1 hg; exact hx x (List.mem_of_mem_drop (List.mem_of_mem_take hxg))
theorem groupsOf_spec {v : Value} {l : List Nat} {i : Nat} (H : Holds w L) (hi : L[i]? = some (SL nv tI v l)) (hl : l.length ≤ 100000000)
   (k : ∀ gv w', Same w w' → Holds w' (RR gv (grps l) :: L) → K gv w') : Cl Tryz.prog F.tables_groupsOf #[v] w K := by
 refine Tie.tables_groupsOf ?_; unfold Vcf.tables_groupsOf; refine r_lnS i H hi (Groups_spec (by omega) ?_); have hn : nGr l = (l.length + 49) / 50 := rfl; rw [← hn]
 refine r_loop2 (fun gv x w' => ∃ u : Nat, x = nv u ∧ u ≤ nGr l ∧ Same w w' ∧ Holds w' (RR gv ((List.range u).map (grp l)) :: L)) (fun _ x _ => nGr l - (RowKit.intOf x).toNat)
   ⟨0, rfl, Nat.zero_le _, .refl _, rr_nil H⟩ ?_
 clear H; rintro _ gv _ w1 ⟨u, rfl, hu, S1, H1⟩; refine r_lss (r_ifD (fun h => ?_) fun h => ?_)
 · have hlt : u < nGr l := by omega
   refine Group_spec H1 (i := i + 1) (by rw [List.getElem?_cons_succ]; exact hi) hl (by omega) fun rv w2 S2 H2 => ?_; refine r_ex20 (r_ex21 ?_); refine rr_app 0 H2 rfl (by rw [List.length_map, List.length_range]; omega) fun gv2 w3 S3 H3 => ?_; rw [List.set_cons_zero] at H3; refine r_add1N (by omega) (r_ke ⟨⟨u + 1, rfl, hlt, S1.trans (S2.trans S3), ?_⟩, ?_⟩)
   · rw [List.range_succ, List.map_append]; exact H3
   · simp only [nv, RowKit.intOf, Int.toNat_natCast]; omega
 · obtain rfl : u = nGr l := by omega
   exact k _ _ S1 H1
inductive Rnds (gs : List (List Nat)) (size : Nat) (ts0 : List (List Nat)) : Nat → List Nat → List (List Nat) → Prop
 | zero : Rnds gs size ts0 0 [] ts0
 | succ {n : Nat} {p p' : List Nat} {ts ts' : List (List Nat)} (h : Rnds gs size ts0 n p ts) (r : Rnd gs size ts p' ts') : Rnds gs size ts0 (n + 1) p' ts'
theorem Rnds.uniq {gs ts0 : List (List Nat)} {size n : Nat} {p1 : List Nat} {ts1 : List (List Nat)} (h : Rnds gs size ts0 n p1 ts1) : ∀ {p2 : List Nat} {ts2 : List (List Nat)}, Rnds gs size ts0 n p2 ts2 → p1 = p2 ∧ ts1 = ts2 := by
 induction h with
 | zero => intro p2 ts2 g; cases g; exact ⟨rfl, rfl⟩
 | succ h r ih =>
   intro p2 ts2 g
   cases g with
   | succ g r2 =>
     obtain ⟨_, rfl⟩ := ih g; exact r.uniq r2
theorem Rnds.tb {gs ts0 : List (List Nat)} {size n : Nat} {p1 : List Nat} {ts1 : List (List Nat)} (h : Rnds gs size ts0 n p1 ts1) (hT : Tb size ts0) : Tb size ts1 ∧ (1 ≤ n → p1.length = gs.length ∧ ∀ p ∈ p1, p < ts1.length) := by
 induction h with
 | zero => exact ⟨hT, fun h => by omega⟩
 | succ h r ih => exact ⟨r.tb ih.1, fun _ => r.lt ih.1⟩
def Cho (l : List Nat) (size : Nat) (picks : List Nat) (ts : List (List Nat)) : Prop := Rnds (grps l) size (firstL (cnt l size) l.length (num l.length)) 4 picks ts
theorem first_tb (l : List Nat) (size : Nat) : Tb size (firstL (cnt l size) l.length (num l.length)) := by
 have hn := num_lim l.length; refine ⟨by rw [firstL_len]; exact hn.1, by rw [firstL_len]; exact hn.2, fun t ht => ?_, fun t ht x hx => ?_⟩
 · obtain ⟨p, _, rfl⟩ := List.mem_map.1 ht; rw [firstR_len, cnt_len]
 · obtain ⟨p, _, rfl⟩ := List.mem_map.1 ht; obtain ⟨v, _, rfl⟩ := List.mem_map.1 hx; unfold firstV
   split <;> omega
theorem Cho.ok {l picks : List Nat} {size : Nat} {ts : List (List Nat)} (h : Cho l size picks ts) : Tb size ts ∧ picks.length = nGr l ∧ ∀ p ∈ picks, p < ts.length := by
 have := Rnds.tb h (first_tb l size); have h2 := this.2 (by omega); rw [grps_len] at h2; exact ⟨this.1, h2⟩
abbrev tCh : Nat := 148
theorem Of_spec {v : Value} {l : List Nat} {size i : Nat} (H : Holds w L) (hb : BndOk L) (hi : L[i]? = some (SL nv tI v l)) (h3 : 3 ≤ size) (h258 : size ≤ 258) (h0 : l ≠ []) (hl : l.length ≤ 1600000) (hx : ∀ x ∈ l, x < size)
   (k : ∀ ov pv picks ts w', Cho l size picks ts → Same w w' → Holds w' (RR ov ts :: SL nv tI pv picks :: L) → K (.tuple #[.agg #[ov, pv], iv 0]) w') : Cl Tryz.prog F.tables_Of #[v, nv size] w K := by
 refine Tie.tables_Of ?_; unfold Vcf.tables_Of
 have hz : (zeroP Tryz.prog tCh).cells.toList = [.slice none 0 0, .slice none 0 0] := by kernel_rfl
 have hl0 : 0 < l.length := List.length_pos_iff.2 h0; have hng : nGr l = (l.length + 49) / 50 := rfl; refine r_new H fun rb w1 S1 H1 => ?_; rw [hz] at H1; refine Counts_spec H1 (i := i + 1) (by rw [List.getElem?_cons_succ]; exact hi) h3 h258 (by omega) hx fun cv w2 S2 H2 => ?_; refine r_ex20 (r_ex21 ?_); refine r_join1 (fun t w' => w2 = w' ∧ t = .bool false) ?_ ?_
 rotate_left
 · refine r_neq (r_vfN (by omega) ?_); refine r_lnS (i + 2) H2 (by rw [List.getElem?_cons_succ, List.getElem?_cons_succ]; exact hi) (r_eql (r_ke ⟨rfl, by rw [show ((l.length : Int) == 0) = false from beq_eq_false_iff_ne.2 (by omega)]⟩))
 rintro _ _ _ ⟨rfl, rfl⟩; refine r_vf ?_; refine r_lnS (i + 2) H2 (by rw [List.getElem?_cons_succ, List.getElem?_cons_succ]; exact hi) (Groups_spec (by omega) ?_); refine r_gtr (r_vfD (by omega) ?_); refine groupsOf_spec H2 (i := i + 2) (by rw [List.getElem?_cons_succ, List.getElem?_cons_succ]; exact hi) (by omega) fun gv w3 S3 H3 => ?_; refine r_lnS (i + 3) H3 (by rw [List.getElem?_cons_succ, List.getElem?_cons_succ, List.getElem?_cons_succ]; exact hi) ?_; refine first_spec H3 (i := 1) hb.up.up.up rfl (by rw [cnt_len]; omega) (fun x hx => by have := cnt_le _ _ x hx; omega) (by omega) (by omega) fun fv w4 S4 H4 => ?_; obtain ⟨fx, rfl⟩ := rr_sw H4 (i := 0) rfl; refine r_bd (v := .agg #[sw fx, .slice none 0 0]) (by kernel_rfl) ?_; refine r_new H4 fun cb w5 S5 H5 => ?_; rw [hz] at H5; refine r_stA 0 H5 (vs := [sw fx, .slice none 0 0]) rfl (by decide) rfl rfl fun w6 S6 H6 => ?_; replace H6 : Holds w6 (blk cb tCh [sw fx, .slice none 0 0] :: RR (sw fx) (firstL (cnt l size) l.length (num l.length)) :: RR gv (grps l) :: SL nv tI cv (cnt l size) :: blk rb tCh [.slice none 0 0, .slice none 0 0] :: L) := H6; have H7 := H6.nilSL nv tI
 have H8 : Holds w6 (RR (sw fx) (firstL (cnt l size) l.length (num l.length)) :: SL nv tI (.slice none 0 0) [] :: blk cb tCh [sw fx, .slice none 0 0] :: RR gv (grps l) :: SL nv tI cv (cnt l size) :: blk rb tCh [.slice none 0 0, .slice none 0 0] :: L) := by have h_ := Holds.ord 3 [2, 0, 1] H7 rfl; exact h_
 refine r_loop1 (fun x w' => ∃ (m : Nat) (ov pv : Value) (picks : List Nat) (ts : List (List Nat)), x = nv m ∧ m ≤ 4 ∧ Rnds (grps l) size (firstL (cnt l size) l.length (num l.length)) m picks ts ∧ Same w w' ∧
     Holds w' (RR ov ts :: SL nv tI pv picks :: blk cb tCh [ov, pv] :: RR gv (grps l) :: SL nv tI cv (cnt l size) :: blk rb tCh [.slice none 0 0, .slice none 0 0] :: L)) (fun x _ => 4 - (RowKit.intOf x).toNat)
   ⟨0, sw fx, _, [], _, rfl, by omega, .zero, ((((S1.trans S2).trans S3).trans S4).trans S5).trans S6, H8⟩ ?_
 clear H H1 H2 H3 H4 H5 H6 H7 H8 S1 S2 S3 S4 S5 S6; rintro _ _ w7 ⟨m, ov, pv, picks, ts, rfl, hm, hR, S7, H7⟩; refine r_lss (r_ifD (fun h => ?_) fun h => ?_)
 · have hTb := (Rnds.tb hR (first_tb l size)).1; refine r_fo0 (r_ld 2 H7 rfl rfl ?_); refine round_spec H7 (i := 3) (j := 0) rfl rfl (by omega) hTb h3 h258 (grps_gp (by omega) hx) fun pv2 ov2 picks2 ts2 w8 hr S8 H8 => ?_; refine r_ex20 (r_ex21 ?_); obtain ⟨ox, rfl⟩ := rr_sw H8 (i := 0) rfl; obtain ⟨px, rfl⟩ := sl_sw H8 (i := 1) rfl; refine r_bd (v := .agg #[sw ox, sw px]) (by kernel_rfl) ?_; refine r_stA 4 H8 (vs := [sw ox, sw px]) rfl (by simp) rfl rfl fun w9 S9 H9 => ?_
   have H10 : Holds w9 (RR (sw ox) ts2 :: SL nv tI (sw px) picks2 :: blk cb tCh [sw ox, sw px] :: RR gv (grps l) :: SL nv tI cv (cnt l size) :: blk rb tCh [.slice none 0 0, .slice none 0 0] :: L) := by
     have h_ := Holds.ord 8 [0, 1, 4, 5, 6, 7] H9 rfl; exact h_
   refine r_add1N (by omega) (r_ke ⟨⟨m + 1, sw ox, sw px, picks2, ts2, rfl, by omega, .succ hR hr, S7.trans (S8.trans S9), H10⟩, ?_⟩); simp only [nv, RowKit.intOf, Int.toNat_natCast]; omega
 · obtain rfl : m = 4 := by omega
   obtain ⟨ox, rfl⟩ := rr_sw H7 (i := 0) rfl; obtain ⟨px, rfl⟩ := sl_sw H7 (i := 1) rfl; refine r_ldA 2 H7 [sw ox, sw px] rfl rfl rfl ?_; refine r_stA 5 H7 (vs := [sw ox, sw px]) rfl (by simp) rfl rfl fun w8 S8 H8 => ?_; refine r_ldA 5 H8 [sw ox, sw px] rfl rfl rfl ?_
   have H9 : Holds w8 (RR (sw ox) ts :: SL nv tI (sw px) picks :: L) := by have h_ := Holds.ord 6 [0, 1] H8 rfl; exact h_
   exact k _ _ _ _ _ hR (S7.trans S8) H9
theorem TCost_spec {v ov pv : Value} {l picks : List Nat} {ts : List (List Nat)} {size i a p : Nat} (H : Holds w L) (hi : L[i]? = some (SL nv tI v l)) (ha : L[a]? = some (RR ov ts)) (hp : L[p]? = some (SL nv tI pv picks)) (hT : Tb size ts) (hs : size ≤ 258) (hl : l.length ≤ 1600000) (hx : ∀ x ∈ l, x < size)
   (hpl : picks.length = nGr l) (hpx : ∀ q ∈ picks, q < ts.length) (k : ∀ n w', n ≤ 1099511627776 → Same w w' → Holds w' L → K (.tuple #[nv n, iv 0]) w') : Cl Tryz.prog F.tables_Cost #[v, .agg #[ov, pv]] w K := by
 refine Tie.tables_Cost ?_; unfold Vcf.tables_Cost; have hng : nGr l = (l.length + 49) / 50 := rfl; refine r_new H fun cb w1 S1 H1 => ?_; replace H1 : Holds w1 (blk cb tCh [ov, pv] :: L) := H1; refine r_dr H1 fun w2 S2 H2 => ?_
 have hi2 : ∀ A : HProp, (A :: L)[i + 1]? = some (SL nv tI v l) := fun A => by rw [List.getElem?_cons_succ]; exact hi
 have hp2 : ∀ A : HProp, (A :: L)[p + 1]? = some (SL nv tI pv picks) := fun A => by rw [List.getElem?_cons_succ]; exact hp
 have ha2 : ∀ A : HProp, (A :: L)[a + 1]? = some (RR ov ts) := fun A => by rw [List.getElem?_cons_succ]; exact ha
 refine r_fo0 (r_ld 0 H2 rfl rfl ?_); refine r_lnS (p + 1) H2 (hp2 _) ?_; refine r_lnS (i + 1) H2 (hi2 _) (Groups_spec (by omega) ?_); refine r_rk (r_lnS (p + 1) H2 (hp2 _) rfl) (r_rk (r_ld 0 H2 rfl rfl rfl) ?_); refine r_neq (r_vfN (by omega) ?_); refine r_fo0 (r_ld 0 H2 rfl rfl ?_); refine r_lnS (p + 1) H2 (hp2 _) ?_
 refine r_loop2 (fun tv x w' => ∃ u n : Nat, tv = nv n ∧ n ≤ 1099511627776 ∧ x = nv u ∧ u ≤ picks.length ∧ Same w w' ∧ Holds w' (blk cb tCh [ov, pv] :: L)) (fun _ x _ => picks.length - (RowKit.intOf x).toNat)
   ⟨0, 0, rfl, by omega, rfl, Nat.zero_le _, S1.trans S2, H2⟩ ?_
 clear H H1 H2 S1 S2; rintro _ _ _ w3 ⟨u, n, rfl, hn, rfl, hu, S3, H3⟩; refine r_lss (r_ifD (fun h => ?_) fun h => ?_)
 · have hlt : u < picks.length := by omega
   have hq := hpx _ (List.getElem_mem hlt); refine r_getS (p + 1) H3 (hp2 _) (List.getElem?_eq_getElem hlt) ?_; generalize picks[u] = q at *; refine r_join1 (fun t w' => w3 = w' ∧ t = .bool false) ?_ ?_
   rotate_left
   · refine r_lss (r_vfD (by omega) ?_); refine r_fo0 (r_ld 0 H3 rfl rfl ?_); refine rr_ln (a + 1) H3 (ha2 _) (r_geq (r_ke ⟨rfl, by rw [decide_eq_false (by omega)]⟩))
   rintro _ _ _ ⟨rfl, rfl⟩; refine r_vf ?_; refine Group_spec H3 (i := i + 1) (hi2 _) (by omega) (by omega) fun gv w4 S4 H4 => ?_; refine r_ex20 (r_ex21 ?_); refine r_fo0 (r_ld 1 H4 rfl rfl ?_); obtain ⟨x, R, hld, H5, hcl, _⟩ := rr_open (a + 2) H4 (by rw [List.getElem?_cons_succ]; exact ha2 _) (row_at hq); refine hld _ _ fun _ hp_ => hp_ _ ?_; have hm := row_mem hq
   have hgl : ((l.drop (u * 50)).take 50).length ≤ 50 := by rw [List.length_take]; omega
   have hc := cost_le (hT.le _ hm) ((l.drop (u * 50)).take 50); refine Cost_spec H5 (i := 1) (j := 0) rfl rfl (by omega) (by have := hT.sz _ hm; omega) (hT.le _ hm) (fun y hy => by rw [hT.sz _ hm]; exact hx y (List.mem_of_mem_drop (List.mem_of_mem_take hy))) ?_; refine r_ex20 (r_ex21 ?_); refine r_neq (r_vfN (by omega) ?_); refine r_addN (by omega) (r_min ?_); have H6 := hcl [] _ H5; generalize cost ((l.drop (u * 50)).take 50) (ts.getD q []) = c at *; rw [show min ((n + c : Nat) : Int) 1099511627776 = ((min (n + c) 1099511627776 : Nat) : Int) by omega]; refine r_add1N (by omega) (r_ke ⟨⟨u + 1, _, rfl, by omega, rfl, by omega, S3.trans S4, H6.drop⟩, ?_⟩); simp only [nv, RowKit.intOf, Int.toNat_natCast]; omega
 · exact k n _ hn S3 H3.drop
end T12
end Go.Proofs.YtgaiocpkjaaphaaGreatDoor
