/- A verified evaluator for closed calls, ninth part: code and functions. No program in sight. -/
import Derived.Test.YtfkakgjonffecaaGreatEU
set_option linter.unusedVariables false
set_option linter.unusedSimpArgs false
namespace Go.Ev
open Go Go.Vc
noncomputable section
variable {P : Program} {base : Bs} {w0 : World} {σ : Sg} {s : St} {w w' : World} {ρ : T X} {r : Env} {n : Nat}
def xreg (P : Program) (n : Nat) (call : FuncId → List X → St → Option (X × St)) (ops : Array Oper) (draw : Bool) (ρ : T X) (s : St) : Option (T X × St) := match draw with
  | false => xops P false call n ops.toList ops.toList 0 ρ s
  | true => (match Region.lexB .any ops, allStill ops.toList with
    | true, true => xops P true call n ops.toList ops.toList 0 ρ s
    | _, _ => (match stagedB ops ops.toList (msOf ops.toList []) ops.toList 0 with
      | true => xst P call n ops.toList (befM (msOf ops.toList [])) ops.toList 0 [] [] ρ s
      | false => xtr P call n ops ρ s))
theorem xreg_ok {call : FuncId → List X → St → Option (X × St)} (hcall : ∀ base w0, CallOk P base w0 call) {ops : Array Oper} {draw : Bool} (h : Wo P base w0 σ s w) (hE : EnvR σ ρ r) {ρ' : T X} {s' : St} (hx : xreg P n call ops draw ρ s = some (ρ', s')) {K : Env → World → Prop}
    (hK : FinE P base w0 σ ρ' s' K) : ∃ hh, vcReg P n ops draw hh r w K := by
  unfold xreg at hx
  cases draw with
  | false => exact ⟨.text, xops_ok (hcall _ _) false _ _ h hE hx hK⟩
  | true =>
    simp only at hx
    have stg : (match stagedB ops ops.toList (msOf ops.toList []) ops.toList 0 with
      | true => xst P call n ops.toList (befM (msOf ops.toList [])) ops.toList 0 [] [] ρ s
      | false => xtr P call n ops ρ s) = some (ρ', s') → ∃ hh, vcReg P n ops true hh r w K := by
      intro hx
      cases hs : stagedB ops ops.toList (msOf ops.toList []) ops.toList 0 with
      | false =>
        rw [hs] at hx
        replace hx : xtr P call n ops ρ s = some (ρ', s') := hx
        unfold xtr xtr0 xtr1 at hx
        cases ht : treeB ops ops.toList (msOf ops.toList []) (mkT ops.toList (msOf ops.toList []) (ops.toList.length + 1) 0) with
        | false => rw [ht] at hx; cases hx
        | true =>
          rw [ht] at hx
          refine ⟨.tree (msOf ops.toList []) (mkT ops.toList (msOf ops.toList []) (ops.toList.length + 1) 0), ?_⟩
          simp only [vcReg, ht]
          exact xtrM_ok hcall h.drew hE hx hK
      | true =>
        rw [hs] at hx
        refine ⟨.staged (msOf ops.toList []), ?_⟩
        simp only [vcReg, hs]
        exact xst_ok (hcall _ _) _ _ (pend := []) (past := []) (pend' := []) (past' := []) h.drew hE trivial trivial hx hK
    cases h1 : Region.lexB .any ops with
    | false => rw [h1] at hx; exact stg hx
    | true =>
      cases h2 : allStill ops.toList with
      | false => rw [h1, h2] at hx; exact stg hx
      | true =>
        rw [h1, h2] at hx
        refine ⟨.still, ?_⟩
        simp only [vcReg, h1, h2]
        exact xops_ok (hcall _ _) true _ _ h.drew hE hx hK
/-! Loops, round by round. -/
def LR (P : Program) (c : Code) (Q : Exit → Act → World → Prop) : Nat → Act → World → Prop
  | 0, _, _ => False
  | k + 1, a, w => c.wp P (Exit.then (LR P c Q k) Q) a w
theorem least_of {p : Nat → Prop} : ∀ n, p n → ∃ m, p m ∧ ∀ k, k < m → ¬ p k := by
  intro n
  induction n using Nat.strongRecOn with
  | _ n ih =>
    intro hn
    by_cases h : ∃ k, k < n ∧ p k
    · obtain ⟨k, hk, hp⟩ := h
      exact ih k hk hp
    · exact ⟨n, hn, fun k hk hp => h ⟨k, hk, hp⟩⟩
theorem wp_of_LR {c : Code} {Q : Exit → Act → World → Prop} {k : Nat} {a : Act} (h : LR P c Q k a w) : (Code.loop c).wp P Q a w := by
  classical
  have key : ∀ a w, (∃ k, LR P c Q k a w) → ∃ m, LR P c Q m a w ∧ ∀ k, k < m → ¬ LR P c Q k a w := fun a w ⟨k, hk⟩ => least_of k hk
  refine wp_loop (fun a w => ∃ k, LR P c Q k a w) (fun a w => if h : ∃ k, LR P c Q k a w then Classical.choose (key a w h) else 0) ⟨k, h⟩ ?_
  intro a1 w1 h1
  obtain ⟨hm, hmin⟩ := Classical.choose_spec (key a1 w1 h1)
  rw [dif_pos h1]
  generalize Classical.choose (key a1 w1 h1) = m at hm hmin
  cases m with
  | zero => exact hm.elim
  | succ m =>
    refine wp_mono hm fun e a2 w2 h2 => ?_
    cases e with
    | normal =>
      refine ⟨⟨m, h2⟩, ?_⟩
      have h3 : ∃ k, LR P c Q k a2 w2 := ⟨m, h2⟩
      rw [dif_pos h3]
      obtain ⟨_, g2⟩ := Classical.choose_spec (key a2 w2 h3)
      rcases Nat.lt_or_ge m (Classical.choose (key a2 w2 h3)) with h4 | h4
      · exact absurd h2 (g2 m h4)
      · omega
    | _ => exact h2
abbrev Run := Nat → Code → T X → St → Option (Exit × T X × St)
def argX (d : Nat) : List X → Nat → T X → T X
  | [], _, ρ => ρ
  | x :: l, i, ρ => argX d l (i + 1) (T.set d ρ i i x)
theorem argX_get {d : Nat} : ∀ (xs : List X) (i : Nat) (ρ : T X) (t : Nat) (x : X), (argX d xs i ρ).get t t = some x → (i ≤ t ∧ xs[t - i]? = some x) ∨ ρ.get t t = some x
  | [], i, ρ, t, x, h => .inr h
  | y :: l, i, ρ, t, x, h => by
    rcases argX_get l (i + 1) _ t x h with ⟨h1, h2⟩ | h1
    · refine .inl ⟨by omega, ?_⟩
      rw [show t - i = (t - (i + 1)) + 1 by omega, List.getElem?_cons_succ]
      exact h2
    · rcases T.get_set d ρ i i y t t x (fun e => e) h1 with ⟨rfl, rfl⟩ | ⟨_, h2⟩
      · exact .inl ⟨Nat.le_refl _, by simp⟩
      · exact .inr h2
theorem argX_ok {d : Nat} {xs : List X} {vs : List Value} (h : vls σ xs = some vs) : EnvR σ (argX d xs 0 .e) ⟨args0 vs 0, fun _ => undef⟩ := by
  intro t x ht
  rcases argX_get xs 0 .e t x ht with ⟨_, h2⟩ | h2
  · obtain ⟨v, g1, g2⟩ := vls_get h h2
    rw [g2]
    unfold Env.get
    simp only [args0_find, Nat.zero_le, if_true, g1]
  · cases h2
def xres (P : Program) (ρ : T X) (s : St) : List ResultVar → List X → Option X
  | [], [x] => some x
  | [], xs => some (.t xs.reverse)
  | .tmp t :: l, xs => (match ρ.get t t with
    | some x => xres P ρ s l (x :: xs)
    | none => none)
  | .cell x t :: l, xs => (match xval P ρ s ⟨none, .load t (.tmp x), t, "", #[], none⟩ with
    | some y => xres P ρ s l (y :: xs)
    | none => none)
theorem vls_rev {xs : List X} {vs : List Value} (h : vls σ xs = some vs) : vls σ xs.reverse = some vs.reverse := by
  induction xs generalizing vs with
  | nil => simp only [vls, Option.some.injEq] at h; subst h; rfl
  | cons x l ih =>
    obtain ⟨v, us, h1, h2, rfl⟩ := vls_cons h
    rw [List.reverse_cons, List.reverse_cons]
    exact vls_app (ih h2) (vls_mk h1 rfl)
theorem xres_ok (hM : Mem P base σ s w) (hE : EnvR σ ρ r) : ∀ {rs : List ResultVar} {xs : List X} {vs : List Value} {x : X} {R : Value → World → Prop}, xres P ρ s rs xs = some x → vls σ xs = some vs → (∀ v, vl σ x = some v → R v w) → ResK P r w R rs vs
  | [], [], vs, x, R, h, hv, hR => by
    simp only [vls, Option.some.injEq] at hv
    subst hv
    simp only [xres, Option.some.injEq] at h
    subst h
    exact hR _ rfl
  | [], [y], vs, x, R, h, hv, hR => by
    obtain ⟨v, us, h1, h2, rfl⟩ := vls_cons hv
    simp only [vls, Option.some.injEq] at h2
    subst h2
    simp only [xres, Option.some.injEq] at h
    subst h
    exact hR _ h1
  | [], y :: z :: l, vs, x, R, h, hv, hR => by
    have hr := vls_rev hv
    obtain ⟨v, us, h1, h2, rfl⟩ := vls_cons hv
    obtain ⟨v2, us2, h3, h4, rfl⟩ := vls_cons h2
    simp only [xres, Option.some.injEq] at h
    subst h
    exact hR _ (by simp only [vl, hr])
  | .tmp t :: l, xs, vs, x, R, h, hv, hR => by
    simp only [xres] at h
    cases hx : ρ.get t t with
    | none => rw [hx] at h; cases h
    | some y =>
      rw [hx] at h
      replace h : xres P ρ s l (y :: xs) = some x := h
      show ResK P r w R l (r.get t :: vs)
      exact xres_ok hM hE h (vls_mk (hE t y hx) hv) hR
  | .cell q t :: l, xs, vs, x, R, h, hv, hR => by
    simp only [xres] at h
    cases hx : xval P ρ s ⟨none, .load t (.tmp q), t, "", #[], none⟩ with
    | none => rw [hx] at h; cases h
    | some y =>
      rw [hx] at h
      replace h : xres P ρ s l (y :: xs) = some x := h
      exact xval_ok hM hE hx true fun v hvv => xres_ok hM hE h (vls_mk hvv hv) hR
/-- What is known of calls: the function, its arguments, its value; none of them has an address, and memory stays as it is. -/
abbrev Ent := FuncId × List X × X
def memo : List Ent → FuncId → List X → Option X
  | [], _, _ => none
  | e :: l, f, xs => match Nat.beq e.1 f with
    | true => (match eqXs e.2.1 xs with
      | true => some e.2.2
      | false => memo l f xs)
    | false => memo l f xs
def nsg : Sg := fun _ => none
def EntOk (P : Program) (e : Ent) : Prop := isExt P e.1 = false ∧ ∃ vs v, vls nsg e.2.1 = some vs ∧ vl nsg e.2.2 = some v ∧ ∀ (w : World) (L : List HProp) (K : Value → World → Prop), Holds w L → (∀ w', Same w w' → Holds w' L → K v w') → Cl P e.1 vs.toArray w K
def OraOk (P : Program) (M : List Ent) : Prop := ∀ e ∈ M, EntOk P e
theorem Wo.keepAll (h : Wo P base w0 σ s w) (S : Same w w') (ho : ∀ (c : Nat) (o : Obj), w.heap[c]? = some o → w'.heap[c]? = some o) : Wo P base w0 σ s w' := by
  refine ⟨⟨fun b e cs hq => ?_, h.mem.apart, fun b o hq => ?_, h.mem.mapart⟩, h.fresh, h.fram.same.trans S, fun c hc => Nat.lt_of_lt_of_le (h.fram.low c hc) S.size, fun c hc => ?_⟩
  · obtain ⟨rb, off, k, pre, vs, sp, post, g⟩ := h.mem.own b e cs hq
    exact ⟨rb, off, k, pre, vs, sp, post, g.keep (ho _)⟩
  · obtain ⟨rb, h1, h2, h3⟩ := h.mem.mown b o hq
    exact ⟨rb, h1, h2, h3.keep (ho _)⟩
  · rw [← h.fram.old c hc]
    have hlt := h.fram.low c hc
    have h2 : w.heap[c]? = some w.heap[c] := Array.getElem?_eq_getElem hlt
    rw [h2]
    exact ho c _ h2
theorem memo_ok {M : List Ent} (hM : OraOk P M) {f : FuncId} {xs : List X} {x : X} (h : memo M f xs = some x) {vs : List Value} (hw : Wo P base w0 σ s w) (hv : vls σ xs = some vs) {K : Value → World → Prop} (hK : Fin P base w0 σ x s K) : isExt P f = false ∧ Cl P f vs.toArray w K := by
  induction M with
  | nil => cases h
  | cons e l ih =>
    simp only [memo] at h
    have rest := fun h => ih (fun e he => hM e (List.mem_cons_of_mem _ he)) h
    cases hb : Nat.beq e.1 f with
    | false => rw [hb] at h; exact rest h
    | true =>
      rw [hb] at h
      simp only at h
      cases he : eqXs e.2.1 xs with
      | false => rw [he] at h; exact rest h
      | true =>
        rw [he] at h
        obtain rfl := Option.some.inj h
        obtain rfl := Nat.eq_of_beq_eq_true hb
        have he := eqXs_eq _ _ he
        obtain ⟨g1, us, v, g2, g3, g4⟩ := hM e List.mem_cons_self
        rw [he] at g2
        have hn : Ext nsg σ := fun n r hn => by cases hn
        have := vls_ext hn _ _ g2
        rw [hv] at this
        obtain rfl := Option.some.inj this
        refine ⟨g1, g4 w [Vc.whole w] K (Vc.holds_whole w) fun w' S' H' => hK σ w' v (Ext.refl _) (hw.keepAll S' fun c o hc => ?_) (vl_ext hn _ _ g3)⟩
        obtain ⟨g, hg, hgs, _⟩ := H'
        exact hgs _ _ (hg _ _ hc)
/-- A call: by what is known of the function, or through its code. -/
def callX (P : Program) (ora : List Ent) (run : Run) (f : FuncId) (xs : List X) (s : St) : Option (X × St) := match memo ora f xs with
  | some x => some (x, s)
  | none => (match P.funcs[f]? with
    | some fn => (match fn.body, fn.name == "runtime.NumGoroutine", Nat.ble xs.length fn.ntmps with
      | some c, false, true => (match run fn.ntmps c (argX (dep fn.ntmps) xs 0 .e) s with
        | some (.normal, ρ', s') | some (.ret, ρ', s') => (match xres P ρ' s' fn.results.toList [] with
          | some x => some (x, s')
          | none => none)
        | _ => none)
      | _, _, _ => none)
    | none => none)
def RunOk (P : Program) (run : Run) : Prop := ∀ (base : Bs) (w0 : World) n c ρ s e ρ' s', run n c ρ s = some (e, ρ', s') → ∀ σ w a r Q, Wo P base w0 σ s w → Fits n r a → EnvR σ ρ r →
  (∀ σ' w' a' r', Ext σ σ' → Wo P base w0 σ' s' w' → Fits n r' a' → EnvR σ' ρ' r' → Q e a' w') → c.wp P Q a w
theorem cl_of_wp {f : FuncId} {fn : Func} {c : Code} {args : List Value} {w : World} {R : Value → World → Prop} {rs : List ResultVar}
    (hf : P.funcs[f]? = some fn) (hb : fn.body = some c) (hn : (fn.name == "runtime.NumGoroutine") = false)
    (hr : fn.results = rs.toArray) (ha : Nat.ble args.length fn.ntmps = true)
    (hh : ∀ a, Fits fn.ntmps ⟨args0 args 0, fun _ => undef⟩ a → c.wp P (fun e a' w' => ∃ ρ', Fits fn.ntmps ρ' a' ∧ fin P rs R e ρ' w') a w) : Cl P f args.toArray w R := by
  refine ⟨by simp [callFunc, hf, (by simpa using hn : ¬ fn.name = "runtime.NumGoroutine"), hb], calls_of_wp hf hb ?_⟩
  have ha := Nat.le_of_ble_eq_true ha
  refine wp_mono (hh _ ⟨rfl, by simp; omega, fun t => ?_⟩) ?_
  · unfold Env.get
    simp only [args0_find, Nat.zero_le, if_true, Nat.sub_zero]
    by_cases hlt : t < args.length
    · simp [Array.getElem?_append, hlt]
    · have h1 : args[t]? = none := by simp; omega
      rw [h1]
      simp only [Array.getD_eq_getD_getElem?, Array.getElem?_append, List.size_toArray, if_neg hlt, Array.getElem?_replicate]
      split <;> rfl
  · rintro e a w ⟨ρ, hf', h'⟩
    have key : ResK P ρ w R rs [] → bodyPost P fn (fun e w' => ∃ v, e = .returned v ∧ R v w') .ret a w := fun h' => by
      obtain ⟨vs, h1, h2⟩ := resK_run hf' rs [] h'
      refine ⟨hf'.defers, _, ?_, _, rfl, resK_nil vs (by simpa using h2)⟩
      unfold results
      rw [Sem.run_bind, hr]
      have : (rs.toArray.mapM fun | .tmp t => pure (a.tmps.getD t undef) | .cell x t => do loadVar t (← asAddr (a.tmps.getD x undef)) : Sem (Array Value)) = (do pure (← rs.mapM (rv a.tmps)).toArray) := by
        rw [List.mapM_toArray]
        rfl
      erw [this]
      simp [h1, Result.andThen]
    cases e <;> simp only [fin] at h' <;> try exact h'.elim
    · exact key h'
    · exact key h'
theorem callX_ok {ora : List Ent} (hora : OraOk P ora) {run : Run} (hrun : RunOk P run) : CallOk P base w0 (callX P ora run) := by
  intro f xs s x s' hx σ w vs h hv K hK
  unfold callX at hx
  cases ho : memo ora f xs with
  | some g =>
    rw [ho] at hx
    simp only [Option.some.injEq, Prod.mk.injEq] at hx
    obtain ⟨rfl, rfl⟩ := hx
    exact memo_ok hora ho h hv hK
  | none =>
    rw [ho] at hx
    simp only at hx
    cases hf : P.funcs[f]? with
    | none => rw [hf] at hx; cases hx
    | some fn =>
      rw [hf] at hx
      simp only at hx
      split at hx
      · rename_i c hb hn hl
        have hlen := vls_len hv
        refine ⟨by simp only [isExt, hf, hb]; rfl, cl_of_wp (rs := fn.results.toList) hf hb hn (by simp) (by rw [← hlen]; exact hl) fun a ha => ?_⟩
        have res : ∀ e ρ1 s1, (e = .normal ∨ e = .ret) → run fn.ntmps c (argX (dep fn.ntmps) xs 0 .e) s = some (e, ρ1, s1) → (match xres P ρ1 s1 fn.results.toList [] with
            | some x => some (x, s1)
            | none => none) = some (x, s') → c.wp P (fun e a' w' => ∃ ρ', Fits fn.ntmps ρ' a' ∧ fin P fn.results.toList K e ρ' w') a w := by
          intro e ρ1 s1 he hr hq
          cases hxr : xres P ρ1 s1 fn.results.toList [] with
          | none => rw [hxr] at hq; cases hq
          | some y =>
            rw [hxr] at hq
            simp only [Option.some.injEq, Prod.mk.injEq] at hq
            obtain ⟨rfl, rfl⟩ := hq
            refine hrun _ _ _ _ _ _ _ _ _ hr σ w a _ _ h ha (argX_ok hv) fun σ' w' a' r' hxt hw hfit hE => ⟨r', hfit, ?_⟩
            have hk : ResK P r' w' K fn.results.toList [] := xres_ok hw.mem hE hxr rfl fun v hvv => hK σ' w' v hxt hw hvv
            rcases he with rfl | rfl
            · exact hk
            · exact hk
        split at hx
        · rename_i ρ1 s1 hr
          exact res _ _ _ (.inl rfl) hr hx
        · rename_i ρ1 s1 hr
          exact res _ _ _ (.inr rfl) hr hx
        · cases hx
      · cases hx
/-- The evaluator. -/
def ev (P : Program) (ora : List Ent) : Nat → Run
  | 0, _, _, _, _ => none
  | k + 1, n, c, ρ, s => match c with
    | .skip => some (.normal, ρ, s)
    | .label _ => some (.normal, ρ, s)
    | .region _ ops draw => (match xreg P n (callX P ora (ev P ora k)) ops draw ρ s with
      | some (ρ', s') => some (.normal, ρ', s')
      | none => none)
    | .seq x y => (match ev P ora k n x ρ s with
      | some (.normal, ρ', s') => ev P ora k n y ρ' s'
      | o => o)
    | .cond q x y => (match evX ρ q with
      | some (.b true) => ev P ora k n x ρ s
      | some (.b false) => ev P ora k n y ρ s
      | _ => none)
    | .block id x => (match ev P ora k n x ρ s with
      | some (.exit i, ρ', s') => (match Nat.beq i id with
        | true => some (.normal, ρ', s')
        | false => some (.exit i, ρ', s'))
      | o => o)
    | .loop x => (match ev P ora k n x ρ s with
      | some (.normal, ρ', s') => ev P ora k n (.loop x) ρ' s'
      | o => o)
    | .exit id => some (.exit id, ρ, s)
    | .ret => some (.ret, ρ, s)
    | _ => none
theorem ev_ok (hm : P.follows .mixedOrders = true) {ora : List Ent} (hora : OraOk P ora) :
    ∀ k, RunOk P (ev P ora k) ∧ (∀ (base : Bs) (w0 : World) n c ρ s e ρ' s', ev P ora k n (.loop c) ρ s = some (e, ρ', s') → ∀ σ w a r Q, Wo P base w0 σ s w → Fits n r a → EnvR σ ρ r →
      (∀ σ' w' a' r', Ext σ σ' → Wo P base w0 σ' s' w' → Fits n r' a' → EnvR σ' ρ' r' → Q e a' w') → LR P c Q k a w) := by
  intro k
  induction k with
  | zero =>
    refine ⟨?_, ?_⟩
    · intro base w0 n c ρ s e ρ' s' h
      simp only [ev] at h
      cases h
    · intro base w0 n c ρ s e ρ' s' h
      simp only [ev] at h
      cases h
  | succ k ih =>
    obtain ⟨ihR, ihL⟩ := ih
    have loop : ∀ (base : Bs) (w0 : World) n c ρ s e ρ' s', ev P ora (k + 1) n (.loop c) ρ s = some (e, ρ', s') → ∀ σ w a r Q, Wo P base w0 σ s w → Fits n r a → EnvR σ ρ r →
      (∀ σ' w' a' r', Ext σ σ' → Wo P base w0 σ' s' w' → Fits n r' a' → EnvR σ' ρ' r' → Q e a' w') → LR P c Q (k + 1) a w := by
      intro base w0 n c ρ s e ρ' s' h σ w a r Q hw hf hE hQ
      simp only [ev] at h
      cases hx : ev P ora k n c ρ s with
      | none => rw [hx] at h; cases h
      | some q =>
        obtain ⟨e1, ρ1, s1⟩ := q
        rw [hx] at h
        refine ihR _ _ _ _ _ _ _ _ _ hx σ w a r _ hw hf hE fun σ' w' a' r' hxt hw' hf' hE' => ?_
        cases e1 with
        | normal => exact ihL _ _ _ _ _ _ _ _ _ h σ' w' a' r' Q hw' hf' hE' fun σ2 w2 a2 r2 hxt2 hw2 hf2 hE2 => hQ σ2 w2 a2 r2 (hxt.trans hxt2) hw2 hf2 hE2
        | _ =>
          simp only [Option.some.injEq, Prod.mk.injEq] at h
          obtain ⟨rfl, rfl, rfl⟩ := h
          exact hQ σ' w' a' r' hxt hw' hf' hE'
    refine ⟨fun base w0 n c ρ s e ρ' s' h σ w a r Q hw hf hE hQ => ?_, loop⟩
    cases c with
    | skip =>
      simp only [ev, Option.some.injEq, Prod.mk.injEq] at h
      obtain ⟨rfl, rfl, rfl⟩ := h
      exact wp_skip (hQ σ w a r (Ext.refl _) hw hf hE)
    | label l =>
      simp only [ev, Option.some.injEq, Prod.mk.injEq] at h
      obtain ⟨rfl, rfl, rfl⟩ := h
      exact wp_label (hQ σ w a r (Ext.refl _) hw hf hE)
    | exit id =>
      simp only [ev, Option.some.injEq, Prod.mk.injEq] at h
      obtain ⟨rfl, rfl, rfl⟩ := h
      exact wp_exit (hQ σ w a r (Ext.refl _) hw hf hE)
    | ret =>
      simp only [ev, Option.some.injEq, Prod.mk.injEq] at h
      obtain ⟨rfl, rfl, rfl⟩ := h
      exact wp_ret (hQ σ w a r (Ext.refl _) hw hf hE)
    | region id ops draw =>
      simp only [ev] at h
      cases hx : xreg P n (callX P ora (ev P ora k)) ops draw ρ s with
      | none => rw [hx] at h; cases h
      | some q =>
        obtain ⟨ρ1, s1⟩ := q
        rw [hx] at h
        simp only [Option.some.injEq, Prod.mk.injEq] at h
        obtain ⟨rfl, rfl, rfl⟩ := h
        obtain ⟨hh, hv⟩ := xreg_ok (fun _ _ => callX_ok hora ihR) hw hE hx (K := fun r' w' => ∃ σ', Ext σ σ' ∧ Wo P base w0 σ' s1 w' ∧ EnvR σ' ρ1 r') fun σ' w' r' hxt hw' hE' => ⟨σ', hxt, hw', hE'⟩
        exact vcReg_sound hm hv hf fun r' a' w' hf' ⟨σ', hxt, hw', hE'⟩ => hQ σ' w' a' r' hxt hw' hf' hE'
    | seq x y =>
      simp only [ev] at h
      cases hx : ev P ora k n x ρ s with
      | none => rw [hx] at h; cases h
      | some q =>
        obtain ⟨e1, ρ1, s1⟩ := q
        rw [hx] at h
        refine wp_seq (ihR _ _ _ _ _ _ _ _ _ hx σ w a r _ hw hf hE fun σ' w' a' r' hxt hw' hf' hE' => ?_)
        cases e1 with
        | normal => exact ihR _ _ _ _ _ _ _ _ _ h σ' w' a' r' Q hw' hf' hE' fun σ2 w2 a2 r2 hxt2 hw2 hf2 hE2 => hQ σ2 w2 a2 r2 (hxt.trans hxt2) hw2 hf2 hE2
        | _ =>
          simp only [Option.some.injEq, Prod.mk.injEq] at h
          obtain ⟨rfl, rfl, rfl⟩ := h
          exact hQ σ' w' a' r' hxt hw' hf' hE'
    | cond q x y =>
      simp only [ev] at h
      cases hx : evX ρ q with
      | none => rw [hx] at h; cases h
      | some z =>
        rw [hx] at h
        have hz := evX_spec hE hx
        cases z with
        | b c =>
          simp only [vl, Option.some.injEq] at hz
          cases c with
          | true => exact wp_cond_true (by rw [hf.eval]; exact hz.symm) (ihR _ _ _ _ _ _ _ _ _ h σ w a r Q hw hf hE hQ)
          | false => exact wp_cond_false (by rw [hf.eval]; exact hz.symm) (ihR _ _ _ _ _ _ _ _ _ h σ w a r Q hw hf hE hQ)
        | _ => cases h
    | block id x =>
      simp only [ev] at h
      cases hx : ev P ora k n x ρ s with
      | none => rw [hx] at h; cases h
      | some q =>
        obtain ⟨e1, ρ1, s1⟩ := q
        rw [hx] at h
        refine wp_block (ihR _ _ _ _ _ _ _ _ _ hx σ w a r _ hw hf hE fun σ' w' a' r' hxt hw' hf' hE' => ?_)
        cases e1 with
        | exit i =>
          simp only at h
          cases hb : Nat.beq i id with
          | true =>
            rw [hb] at h
            simp only [Option.some.injEq, Prod.mk.injEq] at h
            obtain ⟨rfl, rfl, rfl⟩ := h
            have := Nat.eq_of_beq_eq_true hb
            subst this
            simp only [Exit.inBlock, if_true]
            exact hQ σ' w' a' r' hxt hw' hf' hE'
          | false =>
            rw [hb] at h
            simp only [Option.some.injEq, Prod.mk.injEq] at h
            obtain ⟨rfl, rfl, rfl⟩ := h
            simp only [Exit.inBlock, if_neg (Nat.ne_of_beq_eq_false hb)]
            exact hQ σ' w' a' r' hxt hw' hf' hE'
        | _ =>
          simp only [Option.some.injEq, Prod.mk.injEq] at h
          obtain ⟨rfl, rfl, rfl⟩ := h
          exact hQ σ' w' a' r' hxt hw' hf' hE'
    | loop x =>
      exact wp_of_LR (loop _ _ _ _ _ _ _ _ _ h σ w a r Q hw hf hE hQ)
    | _ => simp only [ev] at h; cases h
end
end Go.Ev
