/- Ranges over functions, and functions that hand out values to them: formulas as in Vc with three nodes more (InvR, RgF, Tk). -/
import Derived.Test.YtbhbdleffackaaaGreatDoorVc
import Derived.RangeFuncLeaves
import Derived.RangeFuncCalls
import Derived.TacticsIn
set_option linter.unusedVariables false
set_option linter.unusedSimpArgs false
namespace Go.Vc
/-- The wide fence, in a round or not. -/
abbrev RF (rd : Option Nat) : Fence := { Fence.wide with round := rd }
section
variable {P : Program} {n : Nat}
theorem calls_RF {rd : Option Nat} {m : Nat} {f : FuncId} {args : Array Value} {w : World} {R : Ending → World → Prop} (h : Calls P f args w R) : CallsIn (RF rd) m P f args w R := by
  cases rd with
  | none => exact callsIn_wide.2 h
  | some l => exact CallsIn.inRound l (callsIn_wide.2 h)
theorem EffOp.wpR {rd : Option Nat} {o : Oper} {a : Act} {w : World} {K : Value → World → Prop} {next : Act → World → Prop} {Q : Exit → Act → World → Prop} (h : EffOp P o a w K)
    (hk : ∀ v w', K v w' → next (a.put o.dst v) w') : o.wpIn (RF rd) 0 P a w next Q := by
  have hd : ∀ c, o.op ≠ .defer c := by
    intro c hc
    unfold EffOp at h
    have e : execOp a.eval o = (do pure (Next.defer (← resolve a.eval c o.type))) := by
      unfold execOp
      rw [hc]
    rw [e, Sem.run_bind] at h
    cases hr : (resolve a.eval c o.type).run P w with
    | ok d w' => rw [hr] at h; exact h
    | halt k w' => rw [hr] at h; exact h
  unfold Oper.wpIn
  refine ⟨fun _ _ => trivial, ?_⟩
  rw [Oper.semAt_eq _ _ _ hd]
  unfold EffOp at h
  split at h
  · rename_i he; rw [he]; exact hk _ _ h
  · rename_i he; rw [he]; exact hk _ _ h
  · rename_i he
    rw [he, Oper.uponIn_enter]
    refine ⟨fun hh => by simp [RF, Fence.wide] at hh, (calls_RF h).mono ?_⟩
    rintro e w' ⟨v, rfl, h⟩
    exact hk _ _ h
  · exact h.elim
/-- A call of a function's value: of a function, or of what hands out a value to a range's body. -/
def InvR (P : Program) (m : Sem Next) (w : World) (K : Value → World → Prop) : Prop :=
  Inv P m w K ∨ ∃ l fn tmps assign body, m.run P w = .ok (.round l fn tmps assign body) w ∧ RoundIn Fence.wide 0 P l fn tmps assign body w fun e w' => ∃ v, e = .returned v ∧ K v w'
def vcOpR (P : Program) (rd : Option Nat) (ev : Operand → Value) (o : Oper) (w : World) (K : Value → World → Prop) : Prop :=
  match rd with
  | some _ => vcOp P false ev o w K
  | none => (match o.op with
    | .call c => (match c.callee with
      | .value (.tmp t) => InvR P (do let d ← Deferred.ofValue (ev (.tmp t)) (amap ev c.args); invoke d.target d.args) w K
      | _ => vcOp P false ev o w K)
    | _ => vcOp P false ev o w K)
theorem vcOpR_wp {rd : Option Nat} {ev : Operand → Value} {o : Oper} {a : Act} {w : World} {K : Value → World → Prop} {next : Act → World → Prop} {Q : Exit → Act → World → Prop}
    (h : vcOpR P rd ev o w K) (he : a.eval = ev) (hk : ∀ v w', K v w' → next (a.put o.dst v) w') : o.wpIn (RF rd) 0 P a w next Q := by
  cases rd with
  | some l =>
    simp only [vcOpR] at h
    exact (vcOp_eff h he).wpR hk
  | none =>
    simp only [vcOpR] at h
    split at h
    · rename_i c ho
      split at h
      · rename_i t hc
        rcases h with h | ⟨l, fn, tmps, assign, body, h1, h2⟩
        · refine (vcOp_eff (st := false) (ev := ev) (K := K) ?_ he).wpR hk
          obtain ⟨dst, op, type, pos, after, guard⟩ := o
          obtain ⟨callee, args, ats⟩ := c
          simp only at ho hc
          subst ho hc
          exact h
        · subst he
          unfold Oper.wpIn
          refine ⟨fun _ _ => trivial, ?_⟩
          rw [Oper.semAt_none]
          have e : (execOp a.eval o).run P w = .ok (.round l fn tmps assign body) w := by
            obtain ⟨dst, op, type, pos, after, guard⟩ := o
            obtain ⟨callee, args, ats⟩ := c
            simp only at ho hc
            subst ho hc
            rw [← h1, amap_eq]
            rfl
          rw [e]
          refine ⟨fun hh => by simp [RF, Fence.wide] at hh, h2.mono ?_⟩
          rintro e w' ⟨v, rfl, h⟩
          exact hk _ _ h
      · exact (vcOp_eff h he).wpR hk
    · exact (vcOp_eff h he).wpR hk
/-- What is deferred: the blocks for the rounds' own deferred calls. -/
abbrev mkD (M : List Nat) : List Deferred := M.map fun D => { target := .collected D, args := #[] }
structure FitsM (M : List Nat) (n : Nat) (ρ : Env) (a : Act) : Prop where
  fit : Fits n ρ { a with defers := [] }
  marks : a.defers = mkD M
theorem FitsM.eval {M : List Nat} {ρ : Env} {a : Act} (h : FitsM M n ρ a) : a.eval = ρ.ev := by
  have := h.fit.eval
  rw [← this]
  funext x
  cases x <;> rfl
theorem putM_spec {M : List Nat} {ρ : Env} {a : Act} (h : FitsM M n ρ a) {dst : Option Nat} {v : Value} {K : Env → Prop} (hk : ρ.put n dst v K) : ∃ ρ', FitsM M n ρ' (a.put dst v) ∧ K ρ' := by
  obtain ⟨ρ', h1, h2⟩ := put_spec h.fit hk
  refine ⟨ρ', ⟨?_, ?_⟩, h2⟩
  · cases dst <;> exact h1
  · rw [← h.marks]
    cases dst <;> rfl
theorem FitsM.set_same {M : List Nat} {ρ : Env} {a : Act} (h : FitsM M n ρ a) {d : Nat} {v : Value} (hv : ρ.get d = v) : FitsM M n (ρ.set d v) a := ⟨h.fit.set_same hv, h.marks⟩
theorem partM_sound {M : List Nat} {ops : List Oper} {i : Nat} {dst : Option Nat} {K : Env → World → Prop} {ρ : Env} {w : World} {a : Act} {X : Prop}
    (h : parting ops i dst K ρ w) (hf : FitsM M n ρ a) (hk : ∀ ρ', FitsM M n ρ' a → K ρ' w → X) : X :=
  parting_sound h hf.fit fun ρ' h1 h2 => hk ρ' ⟨h1, hf.marks⟩ h2
def vcGR (P : Program) (rd : Option Nat) (n : Nat) (ops : List Oper) (i : Nat) (o : Oper) (ρ : Env) (w : World) (K : Env → World → Prop) : Prop :=
  match o.guard with
  | none => vcOpR P rd ρ.ev o w fun v w' => ρ.put n o.dst v fun ρ' => parting ops i o.dst K ρ' w'
  | some (j, want) => match (nth ops j).bind (·.dst) with
    | none => False
    | some d => match ρ.get d, want with
      | .bool true, true | .bool false, false => vcOpR P rd ρ.ev o w fun v w' => ρ.put n o.dst v fun ρ' => parting ops i o.dst K ρ' w'
      | .bool true, false | .bool false, true | .tuple _, _ => ρ.put n o.dst undef fun ρ' => K ρ' w
      | _, _ => False
def vcOpsR (P : Program) (rd : Option Nat) (n : Nat) (ops : List Oper) : List Oper → Nat → Env → World → (Env → World → Prop) → Prop
  | [], _, ρ, w, K => K ρ w
  | o :: r, i, ρ, w, K => vcGR P rd n ops i o ρ w fun ρ' w' => vcOpsR P rd n ops r (i + 1) ρ' w' K
theorem vcGR_sound {rd : Option Nat} {M : List Nat} {ops : List Oper} {i : Nat} {o : Oper} {ρ : Env} {w : World} {K : Env → World → Prop} {a : Act} {next : Act → World → Prop} {Q : Exit → Act → World → Prop}
    (h : vcGR P rd n ops i o ρ w K) (hf : FitsM M n ρ a) (hk : ∀ ρ' a' w', FitsM M n ρ' a' → K ρ' w' → next a' w') :
    if Region.wanted o (yielded ops.toArray a.tmps) then o.wpIn (RF rd) 0 P a w next Q else next (a.put o.dst undef) w := by
  have go : (vcOpR P rd ρ.ev o w fun v w' => ρ.put n o.dst v fun ρ' => parting ops i o.dst K ρ' w') → o.wpIn (RF rd) 0 P a w next Q := fun h =>
    vcOpR_wp h hf.eval fun v w' hv => by
      obtain ⟨ρ', hf', hs⟩ := putM_spec hf hv
      exact partM_sound hs hf' fun ρ'' hf'' hK => hk _ _ _ hf'' hK
  have skip : (ρ.put n o.dst undef fun ρ' => K ρ' w) → next (a.put o.dst undef) w := fun h => by
    obtain ⟨ρ', hf', hs⟩ := putM_spec hf h
    exact hk _ _ _ hf' hs
  unfold vcGR at h
  split at h
  · rename_i hg
    rw [if_pos (by simp [Region.wanted, hg])]
    exact go h
  · rename_i j want hg
    split at h
    · exact h.elim
    · rename_i d hd
      have hy : yielded ops.toArray a.tmps j = _ := yielded_of (a := { a with defers := [] }) hf.fit hd
      have hw : Region.wanted o (yielded ops.toArray a.tmps) = (yielded ops.toArray a.tmps j == some want) := by
        simp only [Region.wanted, hg]
      rw [hw, hy]
      split at h
      all_goals first
        | exact h.elim
        | (rename_i e; rw [e]; rw [if_pos (by decide)]; exact go h)
        | (rename_i e; rw [e]; rw [if_neg (by decide)]; exact skip h)
        | (rename_i e; rw [e]; rw [if_neg (by simp)]; exact skip h)
theorem vcOpsR_sound {rd : Option Nat} {M : List Nat} {ops : List Oper} {Q : Exit → Act → World → Prop} {K : Env → World → Prop} : ∀ (l : List Oper) (i : Nat) (ρ : Env) (w : World) (a : Act),
    vcOpsR P rd n ops l i ρ w K → FitsM M n ρ a → (∀ ρ' a' w', FitsM M n ρ' a' → K ρ' w' → Q .normal a' w') → wpListIn (RF rd) 0 P ops.toArray Q l a w
  | [], _, ρ, w, a, h, hf, hk => hk _ _ _ hf h
  | o :: r, i, ρ, w, a, h, hf, hk => by
    have := vcGR_sound (Q := Q) h hf (next := fun a' w' => wpListIn (RF rd) 0 P ops.toArray Q r a' w') fun ρ' a' w' hf' h' => vcOpsR_sound r (i + 1) ρ' w' a' h' hf' hk
    simp only [wpListIn]
    split
    · rename_i hw; rw [if_pos hw] at this; exact this
    · rename_i hw; rw [if_neg hw] at this; exact ⟨fun _ _ => trivial, this⟩
/-- The value x is handed out: its round returns b. -/
def YdTo (P : Program) (l : Nat) (x : Value) (W : World) (R : Bool → World → Prop) : Prop :=
  ∃ fn tmps assign body, (Instr.yield l #[x]).run P W = .ok (.round l fn tmps assign body) W ∧ RoundIn Fence.wide 0 P l fn tmps assign body W fun e W' => ∃ b, e = .returned (.bool b) ∧ R b W'
abbrev RoundF := Value → World → (World → (World → Prop) → Prop) → (Exit → World → Prop) → Prop
abbrev yv (l : Nat) : Value := .func (.yield l) #[] #[]
/-- A round's beginning and end, by the loop's record. -/
def Bg (l : Nat) (rc : Loop) (W : World) (K : World → Prop) : Prop := W.heap[l]? = some (.loop rc) ∧ K (W.putObj l (.loop { rc with state := .busy }))
def Ed (l : Nat) (rc : Loop) (R : Bool → World → Prop) (e : Exit) (W : World) : Prop :=
  W.heap[l]? = some (.loop { rc with state := .busy }) ∧ (match e with
    | .normal => R true (W.putObj l (.loop rc))
    | .ret => R false (W.putObj l (.loop { rc with state := .done, pending := some .ret }))
    | .exit id => R false (W.putObj l (.loop { rc with state := .done, pending := some (.exit id) }))
    | _ => False)
/-- Behind the range. -/
def Ah (l : Nat) (rc : Loop) (an ar : World → Prop) (ax : Nat → World → Prop) (W : World) : Prop :=
  (W.heap[l]? = some (.loop rc) ∧ an (W.putObj l (.loop { rc with state := .exhausted }))) ∨
  (W.heap[l]? = some (.loop { rc with state := .done, pending := some .ret }) ∧ ar (W.putObj l (.loop { rc with state := .exhausted, pending := some .ret }))) ∨
  ∃ id, W.heap[l]? = some (.loop { rc with state := .done, pending := some (.exit id) }) ∧ ax id (W.putObj l (.loop { rc with state := .exhausted, pending := some (.exit id) }))
/-- The range statement. -/
def RgF (P : Program) (g : Value) (w : World) (round : Nat → RoundF) (an ar : Nat → World → Prop) (ax : Nat → Nat → World → Prop) : Prop :=
  ∀ rc : Loop, rc.state = .ready → rc.pending = none →
    (∀ x W R, W.heap[w.heap.size + 1]? = some (.loop rc) → round (w.heap.size + 1) x W (Bg (w.heap.size + 1) rc) (Ed (w.heap.size + 1) rc R) → YdTo P (w.heap.size + 1) x W R) →
    ∃ f args, (do let d ← Deferred.ofValue g #[yv (w.heap.size + 1)]; invoke d.target d.args : Sem Next).run P ((w.alloc (.deferred (some []))).alloc (.loop rc)) = .ok (.enter f args) ((w.alloc (.deferred (some []))).alloc (.loop rc)) ∧
      Calls P f args ((w.alloc (.deferred (some []))).alloc (.loop rc)) fun e w3 => (∃ v, e = .returned v) ∧ Ah (w.heap.size + 1) rc (an w.heap.size) (ar w.heap.size) (fun id => ax id w.heap.size) w3
def vcR (P : Program) (n : Nat) : Option Nat → Code → H → Env → List Nat → World → (Exit → Env → List Nat → World → Prop) → Prop
  | _, .skip, _, ρ, M, w, Q => Q .normal ρ M w
  | _, .label _, _, ρ, M, w, Q => Q .normal ρ M w
  | rd, .region _ ops draw, h, ρ, M, w, Q => (match draw, rd, M with
    | false, _, _ => vcOpsR P rd n ops.toList ops.toList 0 ρ w fun ρ' w' => Q .normal ρ' M w'
    | true, none, [] => vcReg P n ops true (rh h) ρ w fun ρ' w' => Q .normal ρ' [] w'
    | _, _, _ => False)
  | rd, .seq x y, .s h1 h2, ρ, M, w, Q => vcR P n rd x h1 ρ M w fun e ρ' M' w' => (match e with
    | .normal => vcR P n rd y h2 ρ' M' w' Q
    | e => Q e ρ' M' w')
  | rd, .seq x y, .j S K h1 h2, ρ, M, w, Q =>
    VJoin (len S) (fun jb => cur (len S) fun vs w' => vcR P n rd y h2 ⟨appL (zipV S vs) (keepV ρ K), jb⟩ M w' Q)
      fun J => vcR P n rd x h1 ρ M w fun e ρ' M' w' => (match e with
        | .normal => M' = M ∧ KE (getV ρ' K) (getV ρ K) (J.app (len S) (getV ρ' S) w')
        | e => Q e ρ' M' w')
  | rd, .cond c x y, .i h1 h2, ρ, M, w, Q => Vif (ρ.ev c) (vcR P n rd x h1 ρ M w Q) (vcR P n rd y h2 ρ M w Q)
  | rd, .block id c, .b h, ρ, M, w, Q => vcR P n rd c h ρ M w fun e ρ' M' w' => (match e with
    | .exit k => (match Nat.beq k id with
      | true => Q .normal ρ' M' w'
      | false => Q (.exit k) ρ' M' w')
    | e => Q e ρ' M' w')
  | rd, .loop c, .l S K h, ρ, M, w, Q =>
    VLoop (len S) (getV ρ S) w fun jb cont => cur (len S) fun vs w' =>
      vcR P n rd c h ⟨appL (zipV S vs) (keepV ρ K), jb⟩ M w' fun e ρ' M' w'' => (match e with
        | .normal => M' = M ∧ KE (getV ρ' K) (getV ρ K) (cont.app (len S) (getV ρ' S) w'')
        | e => Q e ρ' M' w'')
  | _, .exit id, _, ρ, M, w, Q => Q (.exit id) ρ M w
  | _, .ret, _, ρ, M, w, Q => Q .ret ρ M w
  | none, .rangeFunc g ps assign body, .s h1 h2, ρ, M, w, Q => (match ps.toList with
    | [t] => RgF P (ρ.ev g) w (fun l x W bg ed => ρ.put n (some t) x fun ρ0 => vcR P n (some l) assign h1 ρ0 [] W fun e ρ' M' W' => (match e with
        | .normal => bg W' fun W2 => vcR P n (some l) body h2 ρ' M' W2 fun e2 _ _ W3 => ed e2 W3
        | _ => False)) (fun D w' => Q .normal ρ (D :: M) w') (fun D w' => Q .ret ρ (D :: M) w') fun id D w' => Q (.exit id) ρ (D :: M) w'
    | _ => False)
  | _, _, _, _, _, _, _ => False
theorem fitsM_cut {M : List Nat} {ρ ρ0 : Env} {a : Act} (h : FitsM M n ρ a) {S K : List Nat} (hK : getV ρ K = getV ρ0 K) :
    FitsM M n ⟨appL (zipV S (getV ρ S)) (keepV ρ0 K), ρ.get⟩ a := ⟨h.fit.cut hK, h.marks⟩
def OkM (n : Nat) (Q : Exit → Env → List Nat → World → Prop) (Q' : Exit → Act → World → Prop) : Prop := ∀ e ρ M a w, FitsM M n ρ a → Q e ρ M w → Q' e a w
theorem tmpsM_getV {M : List Nat} {ρ : Env} {a : Act} (hf : FitsM M n ρ a) (S : List Nat) : (S.map fun t => a.tmps.getD t undef) = getV ρ S := tmps_getV (a := { a with defers := [] }) hf.fit S
theorem loop_same {rc : Loop} (h1 : rc.state = .ready) (h2 : rc.pending = none) : ({ rc with state := .ready, pending := none } : Loop) = rc := by
  cases rc
  simp only at h1 h2
  subst h1 h2
  rfl
/-- One round. -/
theorem yd_of {l : Nat} {rc : Loop} {x : Value} {W : World} {R : Bool → World → Prop} {t : Nat} (hr : rc.state = .ready) (hp : rc.pending = none) (hps : rc.params.toList = [t]) (h : W.heap[l]? = some (.loop rc))
    (hb : rc.assign.wpIn (RF (some l)) 0 P (Exit.then (fun a1 w1 => Bg l rc w1 fun w2 => rc.body.wpIn (RF (some l)) 0 P (fun e _ w3 => Ed l rc R e w3) a1 w2) (fun _ _ _ => False)) { tmps := rc.tmps.setIfInBounds t x, defers := [] } W) :
    YdTo P l x W R := by
  have hpa : rc.params = #[t] := by
    cases hq : rc.params with
    | mk q => rw [hq] at hps; simp only at hps; rw [hps]
  refine ⟨_, _, _, _, run_yield h (by rw [hpa]; rfl), ?_⟩
  have ht : ((rc.params.zip #[x]).foldl (fun tmps (t, a) => tmps.setIfInBounds t a) rc.tmps) = rc.tmps.setIfInBounds t x := by
    rw [hpa]; simp
  rw [ht]
  refine roundIn_of_wpIn (F := Fence.wide) trivial ?_
  refine Code.wpIn_mono ?_ hb
  intro e a1 w1 he
  cases e with
  | normal =>
    obtain ⟨h1, h2⟩ := he
    refine ⟨_, run_beginRound h1 hr, Code.wpIn_mono ?_ h2⟩
    intro e2 a2 w3 hE
    obtain ⟨h3, h4⟩ := hE
    cases e2 with
    | normal =>
      refine ⟨_, _, run_endRound none h3, true, rfl, ?_⟩
      have := loop_same hr hp
      simp only [Option.isNone_none, if_true]
      rw [this]
      exact h4
    | ret => exact ⟨_, _, run_endRound (some .ret) h3, false, rfl, h4⟩
    | exit id => exact ⟨_, _, run_endRound (some (.exit id)) h3, false, rfl, h4⟩
    | _ => exact False.elim h4
  | _ => exact False.elim he
theorem vcR_sound (hm : P.follows .mixedOrders = true) : ∀ (c : Code) (rd : Option Nat) (h : H) (ρ : Env) (M : List Nat) (w : World) (a : Act) (Q : Exit → Env → List Nat → World → Prop) (Q' : Exit → Act → World → Prop),
    vcR P n rd c h ρ M w Q → FitsM M n ρ a → OkM n Q Q' → c.wpIn (RF rd) 0 P Q' a w := by
  intro c
  induction c with
  | skip => intro rd h ρ M w a Q Q' hh hf hk; cases rd <;> exact wpIn_skip (hk _ _ _ _ _ hf (by simpa only [vcR] using hh))
  | label l => intro rd h ρ M w a Q Q' hh hf hk; cases rd <;> exact wpIn_label (hk _ _ _ _ _ hf (by simpa only [vcR] using hh))
  | region id ops draw =>
    intro rd h ρ M w a Q Q' hh hf hk
    simp only [vcR] at hh
    split at hh
    · obtain ⟨l⟩ := ops
      exact wpIn_region_list (vcOpsR_sound l 0 ρ w a hh hf fun ρ' a' w' h1 h2 => hk _ _ _ _ _ h1 h2)
    · have hd : a.defers = [] := hf.marks
      have hf' : Fits n ρ a := by
        have := hf.fit
        rw [← hd] at this
        exact this
      refine wpIn_wide.2 (vcReg_sound hm hh hf' fun ρ' a' w' h1 h2 => hk _ _ [] _ _ ⟨?_, h1.defers⟩ h2)
      have hd' := h1.defers
      rw [← hd']
      exact h1
    · exact hh.elim
  | seq x y ihx ihy =>
    intro rd h ρ M w a Q Q' hh hf hk
    cases h <;> simp only [vcR] at hh <;> try exact hh.elim
    case s h1 h2 =>
      refine wpIn_seq (ihx rd h1 ρ M w a _ _ hh hf ?_)
      intro e ρ' M' a' w' hf' h'
      cases e <;> simp only at h' <;> simp only [Exit.then]
      · exact ihy rd h2 ρ' M' w' a' Q Q' h' hf' hk
      all_goals exact hk _ _ _ _ _ hf' h'
    case j S K h1 h2 =>
      obtain ⟨J, hJ, hh⟩ := hh
      refine wpIn_seq (ihx rd h1 ρ M w a _ _ hh hf ?_)
      intro e ρ' M' a' w' hf' h'
      cases e <;> simp only at h' <;> simp only [Exit.then]
      · obtain ⟨rfl, hK, h'⟩ := h'
        have h2' := Cur.imp_app _ (hJ ρ'.get) _ _ h'
        rw [cur_app _ _ _ (getV_len _ _)] at h2'
        exact ihy rd h2 _ _ w' a' Q Q' h2' (fitsM_cut hf' hK) hk
      all_goals exact hk _ _ _ _ _ hf' h'
  | cond c x y ihx ihy =>
    intro rd h ρ M w a Q Q' hh hf hk
    cases h <;> simp only [vcR] at hh <;> try exact hh.elim
    case i h1 h2 =>
      rcases hh.or with ⟨hc, hh⟩ | ⟨hc, hh⟩
      · exact wpIn_cond_true (by rw [hf.eval]; exact hc) (ihx rd h1 ρ M w a Q Q' hh hf hk)
      · exact wpIn_cond_false (by rw [hf.eval]; exact hc) (ihy rd h2 ρ M w a Q Q' hh hf hk)
  | block id c ih =>
    intro rd h ρ M w a Q Q' hh hf hk
    cases h <;> simp only [vcR] at hh <;> try exact hh.elim
    case b h =>
      refine wpIn_block (ih rd h ρ M w a _ _ hh hf ?_)
      intro e ρ' M' a' w' hf' h'
      cases e <;> simp only at h' <;> simp only [Exit.inBlock]
      case exit k =>
        cases hb : Nat.beq k id with
        | true =>
          rw [hb] at h'
          rw [if_pos (Nat.eq_of_beq_eq_true hb)]
          exact hk _ _ _ _ _ hf' h'
        | false =>
          rw [hb] at h'
          rw [if_neg (Nat.ne_of_beq_eq_false hb)]
          exact hk _ _ _ _ _ hf' h'
      all_goals exact hk _ _ _ _ _ hf' h'
  | loop c ih =>
    intro rd h ρ M w a Q Q' hh hf hk
    cases h <;> simp only [vcR] at hh <;> try exact hh.elim
    case l S K h =>
      obtain ⟨I, μ, h0, hround⟩ := hh
      refine wpIn_loop (fun a w => ∃ ρ1, FitsM M n ρ1 a ∧ getV ρ1 K = getV ρ K ∧ I (getV ρ1 S) w) (fun a w => μ (S.map fun t => a.tmps.getD t undef) w) ⟨ρ, hf, rfl, h0⟩ ?_
      rintro a1 w1 ⟨ρ1, hf1, hK1, hI1⟩
      have hr := hround ρ1.get (getV ρ1 S) w1 (getV_len _ _) hI1
      rw [cur_app _ _ _ (getV_len _ _)] at hr
      refine ih rd h _ M w1 a1 _ _ hr (fitsM_cut hf1 hK1) ?_
      intro e ρ' M' a' w' hf' h'
      cases e <;> simp only at h' <;> simp only [Exit.then]
      · obtain ⟨rfl, hK, h'⟩ := h'
        rw [cur_app _ _ _ (getV_len _ _)] at h'
        refine ⟨⟨ρ', hf', hK, h'.1⟩, ?_⟩
        rw [tmpsM_getV hf', tmpsM_getV hf1]
        exact h'.2
      all_goals exact hk _ _ _ _ _ hf' h'
  | exit id => intro rd h ρ M w a Q Q' hh hf hk; cases rd <;> exact wpIn_exit (hk _ _ _ _ _ hf (by simpa only [vcR] using hh))
  | ret => intro rd h ρ M w a Q Q' hh hf hk; cases rd <;> exact wpIn_ret (hk _ _ _ _ _ hf (by simpa only [vcR] using hh))
  | rangeFunc g ps assign body iha ihb =>
    intro rd h ρ M w a Q Q' hh hf hk
    cases rd with
    | some l => cases h <;> simp only [vcR] at hh
    | none =>
      cases h <;> simp only [vcR] at hh <;> try exact hh.elim
      case s h1 h2 =>
        split at hh
        · rename_i t hps
          refine wpIn_rangeFunc fun fn _ => ?_
          obtain ⟨f, args, hinv, hcall⟩ := hh { state := .ready, pending := none, fn, tmps := a.tmps, params := ps, assign, body, defers := w.heap.size } rfl rfl (by
            intro x W R hW hround
            refine yd_of rfl rfl hps hW ?_
            obtain ⟨ρ0, hf0, hround⟩ := put_spec (a := { a with defers := [] }) hf.fit hround
            refine iha (some (w.heap.size + 1)) h1 ρ0 [] W _ _ _ hround ⟨hf0, rfl⟩ ?_
            intro e ρ' M' a' w' hf' h'
            cases e <;> simp only at h' <;> simp only [Exit.then]
            · obtain ⟨hb1, hb2⟩ := h'
              exact ⟨hb1, ihb (some (w.heap.size + 1)) h2 ρ' M' _ a' _ _ hb2 hf' fun e2 ρ2 M2 a2 w2 hf2 h2' => h2'⟩)
          rw [Sem.run_bind] at hinv
          cases hr : (Deferred.ofValue (ρ.ev g) #[yv (w.heap.size + 1)]).run P ((w.alloc (.deferred (some []))).alloc (.loop { state := .ready, pending := none, fn, tmps := a.tmps, params := ps, assign, body, defers := w.heap.size })) with
          | halt k w' => rw [hr] at hinv; simp [Result.andThen] at hinv
          | ok d w' =>
            rw [hr] at hinv
            refine ⟨_, _, _, d, w', f, args, _, run_enterLoop_outer fn a.tmps ps assign body, ?_, fun _ _ => trivial, hinv, fun hh => by simp [RF, Fence.wide] at hh, ?_⟩
            · have e : resolve a.eval (rangeCall g (w.heap.size + 1)) 0 = Deferred.ofValue (a.eval g) #[yv (w.heap.size + 1)] := by
                unfold resolve
                simp
                rfl
              rw [← hr, ← hf.eval, e]
            · refine (calls_RF hcall).mono ?_
              rintro e w3 ⟨⟨v, rfl⟩, hA⟩
              have hf2 : FitsM (w.heap.size :: M) n ρ { a with defers := [{ target := .collected w.heap.size, args := #[] }] ++ a.defers } := ⟨hf.fit, by rw [hf.marks]; rfl⟩
              rcases hA with ⟨h3, h4⟩ | ⟨h3, h4⟩ | ⟨id, h3, h4⟩
              · exact ⟨_, _, run_endLoop h3 (by simp), hk _ _ _ _ _ hf2 h4⟩
              · exact ⟨_, _, run_endLoop h3 (by simp), wpIn_ret (hk _ _ _ _ _ hf2 h4)⟩
              · exact ⟨_, _, run_endLoop h3 (by simp), wpIn_exit (hk _ _ _ _ _ hf2 h4)⟩
        · exact hh.elim
  | scope => intro rd h ρ M w a Q Q' hh hf hk; cases rd <;> cases h <;> simp only [vcR] at hh
  | goto => intro rd h ρ M w a Q Q' hh hf hk; cases rd <;> cases h <;> simp only [vcR] at hh
  | refuse => intro rd h ρ M w a Q Q' hh hf hk; cases rd <;> cases h <;> simp only [vcR] at hh
/-! ### Functions -/
/-- The blocks of deferred calls are taken, each empty. -/
def TkM (w : World) (K : World → Prop) : List Nat → Prop
  | [] => K w
  | D :: M => w.heap[D]? = some (.deferred (some [])) ∧ TkM (w.putObj D (.deferred none)) K M
def finR (P : Program) (rs : List ResultVar) (R : Value → World → Prop) : Exit → Env → List Nat → World → Prop
  | .normal, ρ, M, w | .ret, ρ, M, w => TkM w (fun w' => ResK P ρ w' R rs []) M
  | _, _, _, _ => False
def vcFnR (P : Program) (n : Nat) (rs : List ResultVar) (c : Code) (h : H) (args : List Value) (w : World) (R : Value → World → Prop) : Prop :=
  vcR P n none c h ⟨args0 args 0, fun _ => undef⟩ [] w (finR P rs R)
theorem leaves_of {ρ : Env} {fn : Func} {rs : List ResultVar} {R : Value → World → Prop} (hr : fn.results = rs.toArray) {a : Act} (hf : Fits n ρ { a with defers := [] }) : ∀ (M : List Nat) (w : World), TkM w (fun w' => ResK P ρ w' R rs []) M →
    LeavesInM (RF none) 0 P fn a.tmps (fun e w' => ∃ v, e = .returned v ∧ R v w') (mkD M) .returning w
  | [], w, h => by
    obtain ⟨vs, h1, h2⟩ := resK_run hf rs [] h
    refine ⟨_, ?_, _, rfl, resK_nil vs (by simpa using h2)⟩
    unfold results
    rw [Sem.run_bind, hr]
    have : (rs.toArray.mapM fun | .tmp t => pure (a.tmps.getD t undef) | .cell x t => do loadVar t (← asAddr (a.tmps.getD x undef)) : Sem (Array Value)) = (do pure (← rs.mapM (rv a.tmps)).toArray) := by
      rw [List.mapM_toArray]
      rfl
    erw [this]
    simp [h1, Result.andThen]
  | D :: M, w, h => by
    obtain ⟨h1, h2⟩ := h
    exact ⟨by simp, .inl ⟨D, _, rfl, run_takeDeferred h1, leaves_of hr hf M _ h2⟩⟩
theorem cl_of_vcR {f : FuncId} {fn : Func} {c : Code} {args : List Value} {w : World} {h : H} {R : Value → World → Prop} {rs : List ResultVar}
    (hm : P.follows .mixedOrders = true) (hf : P.funcs[f]? = some fn) (hb : fn.body = some c) (hn : (fn.name == "runtime.NumGoroutine") = false)
    (hs : fn.ntmps = n) (hr : fn.results = rs.toArray) (ha : Nat.ble args.length n = true)
    (hh : vcFnR P n rs c h args w R) : Cl P f args.toArray w R := by
  refine ⟨by simp [callFunc, hf, (by simpa using hn : ¬ fn.name = "runtime.NumGoroutine"), hb], (callsIn_wide (n := 0)).1 (callsIn_of_wp_marks hf hb trivial ?_)⟩
  have ha := Nat.le_of_ble_eq_true ha
  refine vcR_sound hm c none h _ [] w _ _ _ hh ⟨⟨rfl, by simp [hs]; omega, fun t => ?_⟩, rfl⟩ ?_
  · unfold Env.get
    simp only [args0_find, Nat.zero_le, if_true, Nat.sub_zero]
    by_cases hlt : t < args.length
    · simp [Array.getElem?_append, hlt]
    · have h1 : args[t]? = none := by simp; omega
      rw [h1]
      simp only [Array.getD_eq_getD_getElem?, Array.getElem?_append, List.size_toArray, if_neg hlt, Array.getElem?_replicate]
      split <;> rfl
  · intro e ρ M a w hf' h'
    cases e <;> simp only [finR] at h' <;> try exact h'.elim
    · show LeavesInM _ _ _ _ _ _ _ _ _
      rw [hf'.marks]
      exact leaves_of hr hf'.fit M w h'
    · show LeavesInM _ _ _ _ _ _ _ _ _
      rw [hf'.marks]
      exact leaves_of hr hf'.fit M w h'
end
end Go.Vc
