/- A verified evaluator for closed calls, eighth part: regions. No program in sight. -/
import Derived.Test.YtbhbdleffackaaaGreatDoorE7
set_option linter.unusedVariables false
set_option linter.unusedSimpArgs false
namespace Go.Ev
open Go Go.Vc
noncomputable section
variable {P : Program} {base : Bs} {w0 : World} {σ : Sg} {s : St} {w w' : World} {ρ : T X} {r : Env} {n : Nat}
theorem EnvR.ext {σ' : Sg} (h : EnvR σ ρ r) (hx : Ext σ σ') : EnvR σ' ρ r := fun t x ht => vl_ext hx _ _ (h t x ht)
theorem EnvR.set (h : EnvR σ ρ r) {k d : Nat} {x : X} {v : Value} (hv : vl σ x = some v) : EnvR σ (T.set k ρ d d x) (r.set d v) := by
  intro t y ht
  rw [Env.get_set]
  rcases T.get_set k ρ d d x t t y (fun e => e) ht with ⟨rfl, rfl⟩ | ⟨h1, h2⟩
  · rw [if_pos rfl]; exact hv
  · rw [if_neg (fun e => h1 e.symm)]; exact h t y h2
theorem EnvR.same {d : Nat} {v : Value} (h : EnvR σ ρ r) (hv : r.get d = v) : EnvR σ ρ (r.set d v) := by
  intro t y ht
  rw [Env.get_set]
  split
  · rename_i e; subst e; rw [← hv]; exact h _ y ht
  · exact h t y ht
/-- How deep the tree of a function's temporaries is. -/
def dep (n : Nat) : Nat := Nat.succ (Nat.log2 n)
def xput (n : Nat) (ρ : T X) (dst : Option Nat) (x : X) : Option (T X) := match dst with
  | none => some ρ
  | some d => (match Nat.blt d n with
    | true => some (T.set (dep n) ρ d d x)
    | false => none)
def condOk (ops : List Oper) (i : Nat) (dst : Option Nat) (x : X) : Bool := match isCond ops i, dst, x with
  | true, some _, .b _ => true
  | true, some _, _ => false
  | _, _, _ => true
def xdone (n : Nat) (ops : List Oper) (i : Nat) (dst : Option Nat) (x : X) (ρ : T X) : Option (T X) := match condOk ops i dst x with
  | true => xput n ρ dst x
  | false => none
theorem xput_ok {dst : Option Nat} {x : X} {ρ' : T X} {v : Value} {K : Env → Prop} (h : xput n ρ dst x = some ρ') (hE : EnvR σ ρ r) (hv : vl σ x = some v) (hK : ∀ r', EnvR σ ρ' r' → (∀ d, dst = some d → r'.get d = v) → K r') : r.put n dst v K := by
  unfold xput at h
  unfold Env.put
  cases dst with
  | none => obtain rfl := Option.some.inj h; exact hK _ hE (fun d hd => by cases hd)
  | some d =>
    simp only at h ⊢
    cases hb : Nat.blt d n with
    | false => rw [hb] at h; cases h
    | true =>
      rw [hb] at h
      obtain rfl := Option.some.inj h
      exact hK _ (hE.set hv) (fun d' hd => by obtain rfl := Option.some.inj hd; rw [Env.get_set, if_pos rfl])
theorem xdone_ok {ops : List Oper} {i : Nat} {dst : Option Nat} {x : X} {ρ' : T X} {v : Value} {K : Env → World → Prop} (h : xdone n ops i dst x ρ = some ρ') (hE : EnvR σ ρ r) (hv : vl σ x = some v) (hK : ∀ r', EnvR σ ρ' r' → K r' w) :
    r.put n dst v fun r' => parting ops i dst K r' w := by
  unfold xdone at h
  cases hc : condOk ops i dst x with
  | false => rw [hc] at h; cases h
  | true =>
    rw [hc] at h
    refine xput_ok h hE hv fun r' hr hd => ?_
    unfold parting
    unfold condOk at hc
    cases hi : isCond ops i with
    | false => exact hK r' hr
    | true =>
      cases dst with
      | none => exact hK r' hr
      | some d =>
        rw [hi] at hc
        cases x with
        | b c =>
          simp only [vl, Option.some.injEq] at hv
          have hdv := hd d rfl
          simp only
          rw [hdv, ← hv]
          rw [← hv] at hdv
          cases c with
          | true => exact hK _ (hr.same hdv)
          | false => exact hK _ (hr.same hdv)
        | _ => cases hc
/-- Is the operation done, or passed by? -/
def xgd (ops : List Oper) (ρ : T X) (o : Oper) : Option Bool := match o.guard with
  | none => some true
  | some (j, want) => (match (nth ops j).bind (·.dst) with
    | none => none
    | some d => (match ρ.get d d, want with
      | some (.b true), true | some (.b false), false => some true
      | some (.b true), false | some (.b false), true | some (.t _), _ => some false
      | _, _ => none))
def xop1 (P : Program) (st : Bool) (call : FuncId → List X → St → Option (X × St)) (n : Nat) (ops : List Oper) (i : Nat) (o : Oper) (ρ : T X) (s : St) : Option (T X × St) := match xgd ops ρ o with
  | some true => (match xval P ρ s o with
    | some x => (match xdone n ops i o.dst x ρ with
      | some ρ' => some (ρ', s)
      | none => none)
    | none => (match xeff P st call ρ s o with
      | some (x, s') => (match xdone n ops i o.dst x ρ with
        | some ρ' => some (ρ', s')
        | none => none)
      | none => none))
  | some false => (match xput n ρ o.dst undX with
    | some ρ' => some (ρ', s)
    | none => none)
  | none => none
def xops (P : Program) (st : Bool) (call : FuncId → List X → St → Option (X × St)) (n : Nat) (ops : List Oper) : List Oper → Nat → T X → St → Option (T X × St)
  | [], _, ρ, s => some (ρ, s)
  | o :: l, i, ρ, s => match xop1 P st call n ops i o ρ s with
    | some (ρ', s') => xops P st call n ops l (i + 1) ρ' s'
    | none => none
/-- What is behind: in each greater numbering, memory and temporaries stand for the model's. -/
def FinE (P : Program) (base : Bs) (w0 : World) (σ : Sg) (ρ' : T X) (s' : St) (K : Env → World → Prop) : Prop := ∀ σ' w' r', Ext σ σ' → Wo P base w0 σ' s' w' → EnvR σ' ρ' r' → K r' w'
theorem xgd_ok {ops : List Oper} {o : Oper} {c : Bool} (hE : EnvR σ ρ r) (h : xgd ops ρ o = some c) {A : Prop} {B : Nat → Value → Bool → Prop}
    (hg : (o.guard = none ∧ c = true) ∨ (∃ j want d, o.guard = some (j, want) ∧ (nth ops j).bind (·.dst) = some d ∧
      ((c = true ∧ (r.get d = .bool true ∧ want = true ∨ r.get d = .bool false ∧ want = false)) ∨ (c = false ∧ (r.get d = .bool true ∧ want = false ∨ r.get d = .bool false ∧ want = true ∨ ∃ l, r.get d = .tuple l)))) → A) : A := by
  apply hg
  unfold xgd at h
  cases hgd : o.guard with
  | none => rw [hgd] at h; exact .inl ⟨rfl, (Option.some.inj h).symm⟩
  | some q =>
    obtain ⟨j, want⟩ := q
    rw [hgd] at h
    simp only at h
    cases hd : (nth ops j).bind (·.dst) with
    | none => rw [hd] at h; cases h
    | some d =>
      rw [hd] at h
      simp only at h
      refine .inr ⟨j, want, d, rfl, hd, ?_⟩
      cases hr : ρ.get d d with
      | none => rw [hr] at h; cases h
      | some x =>
        rw [hr] at h
        have hv := hE d x hr
        cases x with
        | b c' =>
          simp only [vl, Option.some.injEq] at hv
          cases c' <;> cases want <;> simp only [Option.some.injEq] at h <;> subst h
          · exact .inl ⟨rfl, .inr ⟨hv.symm, rfl⟩⟩
          · exact .inr ⟨rfl, .inr (.inl ⟨hv.symm, rfl⟩)⟩
          · exact .inr ⟨rfl, .inl ⟨hv.symm, rfl⟩⟩
          · exact .inl ⟨rfl, .inl ⟨hv.symm, rfl⟩⟩
        | t xs =>
          simp only [Option.some.injEq] at h
          subst h
          simp only [vl] at hv
          cases hs : vls σ xs with
          | none => rw [hs] at hv; cases hv
          | some vs => rw [hs] at hv; exact .inr ⟨rfl, .inr (.inr ⟨_, (Option.some.inj hv).symm⟩)⟩
        | _ => cases h
theorem xop1_ok {call : FuncId → List X → St → Option (X × St)} (hcall : CallOk P base w0 call) {ops : List Oper} {i : Nat} {o : Oper} (h : Wo P base w0 σ s w) (hE : EnvR σ ρ r) {ρ' : T X} {s' : St} (st : Bool) (hx : xop1 P st call n ops i o ρ s = some (ρ', s')) {K : Env → World → Prop}
    (hK : FinE P base w0 σ ρ' s' K) : vcG P st n ops i o r w K := by
  unfold xop1 at hx
  have run : (match xval P ρ s o with
      | some x => (match xdone n ops i o.dst x ρ with
        | some ρ' => some (ρ', s)
        | none => none)
      | none => (match xeff P st call ρ s o with
        | some (x, s') => (match xdone n ops i o.dst x ρ with
          | some ρ' => some (ρ', s')
          | none => none)
        | none => none)) = some (ρ', s') → vcOp P st r.ev o w fun v w' => r.put n o.dst v fun r' => parting ops i o.dst K r' w' := by
    intro hx
    cases hv : xval P ρ s o with
    | some x =>
      rw [hv] at hx
      simp only at hx
      cases hd : xdone n ops i o.dst x ρ with
      | none => rw [hd] at hx; cases hx
      | some ρ1 =>
        rw [hd] at hx
        simp only [Option.some.injEq, Prod.mk.injEq] at hx
        obtain ⟨rfl, rfl⟩ := hx
        exact xval_ok h.mem hE hv st fun v hvv => xdone_ok hd hE hvv fun r' hr => hK σ w r' (Ext.refl _) h hr
    | none =>
      rw [hv] at hx
      simp only at hx
      cases he : xeff P st call ρ s o with
      | none => rw [he] at hx; cases hx
      | some q =>
        obtain ⟨x, s1⟩ := q
        rw [he] at hx
        simp only at hx
        cases hd : xdone n ops i o.dst x ρ with
        | none => rw [hd] at hx; cases hx
        | some ρ1 =>
          rw [hd] at hx
          simp only [Option.some.injEq, Prod.mk.injEq] at hx
          obtain ⟨rfl, rfl⟩ := hx
          exact xeff_ok hcall h hE st he fun σ' w' v hxt hw hvv => xdone_ok hd (hE.ext hxt) hvv fun r' hr => hK σ' w' r' hxt hw hr
  have skip : (match xput n ρ o.dst undX with
      | some ρ' => some (ρ', s)
      | none => none) = some (ρ', s') → r.put n o.dst undef fun r' => K r' w := by
    intro hx
    cases hd : xput n ρ o.dst undX with
    | none => rw [hd] at hx; cases hx
    | some ρ1 =>
      rw [hd] at hx
      simp only [Option.some.injEq, Prod.mk.injEq] at hx
      obtain ⟨rfl, rfl⟩ := hx
      exact xput_ok hd hE rfl fun r' hr _ => hK σ w r' (Ext.refl _) h hr
  cases hg : xgd ops ρ o with
  | none => rw [hg] at hx; cases hx
  | some c =>
    rw [hg] at hx
    unfold vcG
    refine xgd_ok (B := fun _ _ _ => True) hE hg fun hgd => ?_
    rcases hgd with ⟨h1, rfl⟩ | ⟨j, want, d, h1, h2, h3⟩
    · rw [h1]
      exact run hx
    · rw [h1]
      simp only [h2]
      rcases h3 with ⟨rfl, ⟨h4, rfl⟩ | ⟨h4, rfl⟩⟩ | ⟨rfl, ⟨h4, rfl⟩ | ⟨h4, rfl⟩ | ⟨l, h4⟩⟩
      · rw [h4]; exact run hx
      · rw [h4]; exact run hx
      · rw [h4]; exact skip hx
      · rw [h4]; exact skip hx
      · rw [h4]; exact skip hx
theorem xops_ok {call : FuncId → List X → St → Option (X × St)} (hcall : CallOk P base w0 call) {ops : List Oper} (st : Bool) : ∀ (l : List Oper) (i : Nat) {σ : Sg} {ρ : T X} {s : St} {w : World} {r : Env} {ρ' : T X} {s' : St} {K : Env → World → Prop},
    Wo P base w0 σ s w → EnvR σ ρ r → xops P st call n ops l i ρ s = some (ρ', s') → FinE P base w0 σ ρ' s' K → vcOps P st n ops l i r w K
  | [], i, σ, ρ, s, w, r, ρ', s', K, h, hE, hx, hK => by
    simp only [xops, Option.some.injEq, Prod.mk.injEq] at hx
    obtain ⟨rfl, rfl⟩ := hx
    exact hK σ w r (Ext.refl _) h hE
  | o :: l, i, σ, ρ, s, w, r, ρ', s', K, h, hE, hx, hK => by
    simp only [xops] at hx
    cases h1 : xop1 P st call n ops i o ρ s with
    | none => rw [h1] at hx; cases hx
    | some q =>
      obtain ⟨ρ1, s1⟩ := q
      rw [h1] at hx
      refine xop1_ok hcall h hE st h1 fun σ' w' r' hxt hw hr => ?_
      exact xops_ok hcall st l (i + 1) hw hr hx fun σ2 w2 r2 hxt2 hw2 hr2 => hK σ2 w2 r2 (hxt.trans hxt2) hw2 hr2
mutual
def eqX : X → X → Bool
  | .b a, .b c => a == c
  | .i k a, .i k' c => decide (k = k') && decide (a = c)
  | .s a, .s c => decide (a = c)
  | .p a, .p c => decide (a = c)
  | .l a m c, .l a' m' c' => decide (a = a') && (Nat.beq m m' && Nat.beq c c')
  | .ni, .ni => true
  | .nf, .nf => true
  | .fc t x, .fc t' y => Nat.beq t t' && eqX x y
  | .m a, .m c => decide (a = c)
  | .f fn a c, .f fn' a' c' => decide (fn = fn') && (eqXs a a' && eqXs c c')
  | .e0 a m c, .e0 a' m' c' => Nat.beq a a' && (Nat.beq m m' && Nat.beq c c')
  | .g a, .g c => eqXs a c
  | .t a, .t c => eqXs a c
  | _, _ => false
def eqXs : List X → List X → Bool
  | [], [] => true
  | x :: a, y :: c => eqX x y && eqXs a c
  | _, _ => false
end
mutual
theorem eqX_eq : ∀ (x y : X), eqX x y = true → x = y
  | .b a, y, h => by cases y <;> simp [eqX] at h; subst h; rfl
  | .i k a, y, h => by cases y <;> simp [eqX] at h; obtain ⟨rfl, rfl⟩ := h; rfl
  | .s a, y, h => by cases y <;> simp [eqX] at h; subst h; rfl
  | .p a, y, h => by cases y <;> simp [eqX] at h; subst h; rfl
  | .l a m c, y, h => by cases y <;> simp [eqX] at h; obtain ⟨rfl, rfl, rfl⟩ := h; rfl
  | .ni, y, h => by cases y <;> simp [eqX] at h; rfl
  | .nf, y, h => by cases y <;> simp [eqX] at h; rfl
  | .fc t x, y, h => by
    cases y with
    | fc t' y =>
      simp only [eqX, Bool.and_eq_true] at h
      rw [Nat.eq_of_beq_eq_true h.1, eqX_eq x y h.2]
    | _ => simp [eqX] at h
  | .m a, y, h => by cases y <;> simp [eqX] at h; subst h; rfl
  | .e0 a m c, y, h => by cases y <;> simp [eqX] at h; obtain ⟨rfl, rfl, rfl⟩ := h; rfl
  | .f fn a c, y, h => by
    cases y with
    | f fn' a' c' =>
      simp only [eqX, Bool.and_eq_true, decide_eq_true_eq] at h
      rw [h.1, eqXs_eq a a' h.2.1, eqXs_eq c c' h.2.2]
    | _ => simp [eqX] at h
  | .g a, y, h => by
    cases y with
    | g c => simp only [eqX] at h; rw [eqXs_eq a c h]
    | _ => simp [eqX] at h
  | .t a, y, h => by
    cases y with
    | t c => simp only [eqX] at h; rw [eqXs_eq a c h]
    | _ => simp [eqX] at h
theorem eqXs_eq : ∀ (x y : List X), eqXs x y = true → x = y
  | [], y, h => by cases y <;> simp [eqXs] at h; rfl
  | x :: a, y, h => by
    cases y with
    | nil => simp [eqXs] at h
    | cons z c =>
      simp only [eqXs, Bool.and_eq_true] at h
      rw [eqX_eq x z h.1, eqXs_eq a c h.2]
end
/-- Reads that float: do they answer the same in each of these memories? -/
def pastOk (P : Program) (ρ : T X) (o : Oper) (b : Nat → Bool) (x : X) : List (Nat × St) → Bool
  | [] => true
  | (e, s) :: l => match b e with
    | true => pastOk P ρ o b x l
    | false => (match xval P ρ s o with
      | some y => (match eqX y x with
        | true => pastOk P ρ o b x l
        | false => false)
      | none => false)
def pendOk (P : Program) (s : St) (b : Nat → Bool) : List (Nat × Oper × T X × X) → Bool
  | [] => true
  | (k, o, ρ, x) :: l => match b k with
    | true => pendOk P s b l
    | false => (match xval P ρ s o with
      | some y => (match eqX y x with
        | true => pendOk P s b l
        | false => false)
      | none => false)
abbrev NodeOf (P : Program) (r : Env) (o : Oper) : Vc.Node := fun u K => vcOp P true r.ev o u fun v _ => K v
def PastR (P : Program) (base : Bs) (σ : Sg) : List (Nat × St) → List (Nat × World) → Prop
  | [], [] => True
  | (e, s) :: l, (e', w) :: l' => e = e' ∧ Mem P base σ s w ∧ PastR P base σ l l'
  | _, _ => False
def PendR (P : Program) (σ : Sg) : List (Nat × Oper × T X × X) → List (Nat × Vc.Node × Value) → Prop
  | [], [] => True
  | (k, o, ρ, x) :: l, (k', N, v) :: l' => k = k' ∧ (∃ r, EnvR σ ρ r ∧ N = NodeOf P r o ∧ vl σ x = some v) ∧ PendR P σ l l'
  | _, _ => False
theorem PastR.ext {σ' : Sg} (hx : Ext σ σ') : ∀ {l : List (Nat × St)} {l' : List (Nat × World)}, PastR P base σ l l' → PastR P base σ' l l'
  | [], [], _ => trivial
  | (e, s) :: l, (e', w) :: l', ⟨h1, h2, h3⟩ => ⟨h1, h2.ext hx, PastR.ext hx h3⟩
theorem PendR.ext {σ' : Sg} (hx : Ext σ σ') : ∀ {l : List (Nat × Oper × T X × X)} {l' : List (Nat × Vc.Node × Value)}, PendR P σ l l' → PendR P σ' l l'
  | [], [], _ => trivial
  | (k, o, ρ, x) :: l, (k', N, v) :: l', ⟨h1, ⟨r, h2, h3, h4⟩, h5⟩ => ⟨h1, ⟨r, h2.ext hx, h3, vl_ext hx _ _ h4⟩, PendR.ext hx h5⟩
theorem pks_ok {b : Nat → Bool} {o : Oper} {x : X} {v : Value} {A : Prop} (hE : EnvR σ ρ r) (hv : vl σ x = some v) (hA : A) : ∀ {l : List (Nat × St)} {l' : List (Nat × World)}, PastR P base σ l l' → pastOk P ρ o b x l = true → Pks b l' (NodeOf P r o) v A
  | [], [], _, _ => hA
  | (e, s) :: l, (e', w) :: l', ⟨h1, h2, h3⟩, h => by
    subst h1
    simp only [pastOk] at h
    simp only [Pks]
    cases hb : b e with
    | true => rw [hb] at h; exact pks_ok hE hv hA h3 h
    | false =>
      rw [hb] at h
      simp only at h ⊢
      cases hy : xval P ρ s o with
      | none => rw [hy] at h; cases h
      | some y =>
        rw [hy] at h
        simp only at h
        cases he : eqX y x with
        | false => rw [he] at h; cases h
        | true =>
          rw [he] at h
          obtain rfl := eqX_eq y x he
          refine ⟨xval_ok h2 hE hy true fun u hu => ?_, pks_ok hE hv hA h3 h⟩
          rw [hv] at hu
          exact (Option.some.inj hu).symm
theorem rks_ok {b : Nat → Bool} {A : Prop} (hM : Mem P base σ s w) (hA : A) : ∀ {l : List (Nat × Oper × T X × X)} {l' : List (Nat × Vc.Node × Value)}, PendR P σ l l' → pendOk P s b l = true → Rks b l' w A
  | [], [], _, _ => hA
  | (k, o, ρ, x) :: l, (k', N, v) :: l', ⟨h1, ⟨r, h2, h3, h4⟩, h5⟩, h => by
    subst h1; subst h3
    simp only [pendOk] at h
    simp only [Rks]
    cases hb : b k with
    | true => rw [hb] at h; exact rks_ok hM hA h5 h
    | false =>
      rw [hb] at h
      simp only at h ⊢
      cases hy : xval P ρ s o with
      | none => rw [hy] at h; cases h
      | some y =>
        rw [hy] at h
        simp only at h
        cases he : eqX y x with
        | false => rw [he] at h; cases h
        | true =>
          rw [he] at h
          obtain rfl := eqX_eq y x he
          refine ⟨xval_ok hM h2 hy true fun u hu => ?_, rks_ok hM hA h5 h⟩
          rw [h4] at hu
          exact (Option.some.inj hu).symm
/-- A drawn region: effects in the one order, reads between them. -/
def xst (P : Program) (call : FuncId → List X → St → Option (X × St)) (n : Nat) (ops : List Oper) (b : Nat → Nat → Bool) : List Oper → Nat → List (Nat × Oper × T X × X) → List (Nat × St) → T X → St → Option (T X × St)
  | [], _, _, _, ρ, s => some (ρ, s)
  | o :: l, i, pend, past, ρ, s => match xgd ops ρ o with
    | some true => (match stillOp o.op with
      | true => (match xval P ρ s o with
        | some x => (match xdone n ops i o.dst x ρ with
          | some ρ' => (match blind P o with
            | true => xst P call n ops b l (i + 1) pend past ρ' s
            | false => (match pastOk P ρ o (b i) x past with
              | true => xst P call n ops b l (i + 1) ((i, o, ρ, x) :: pend) past ρ' s
              | false => none))
          | none => none)
        | none => none)
      | false => (match xeff P false call ρ s o with
        | some (x, s') => (match pendOk P s' (b i) pend, xdone n ops i o.dst x ρ with
          | true, some ρ' => xst P call n ops b l (i + 1) pend ((i, s) :: past) ρ' s'
          | _, _ => none)
        | none => none))
    | some false => (match xput n ρ o.dst undX with
      | some ρ' => xst P call n ops b l (i + 1) pend past ρ' s
      | none => none)
    | none => none
theorem xst_ok {call : FuncId → List X → St → Option (X × St)} (hcall : CallOk P base w0 call) {ops : List Oper} {b : Nat → Nat → Bool} : ∀ (l : List Oper) (i : Nat) {pend : List (Nat × Oper × T X × X)} {past : List (Nat × St)} {pend' : List (Nat × Vc.Node × Value)} {past' : List (Nat × World)} {σ : Sg} {ρ : T X} {s : St} {w : World} {r : Env} {ρ' : T X} {s' : St} {K : Env → World → Prop},
    Wo P base w0 σ s w → EnvR σ ρ r → PendR P σ pend pend' → PastR P base σ past past' → xst P call n ops b l i pend past ρ s = some (ρ', s') → FinE P base w0 σ ρ' s' K → vcSt P n ops b l i pend' past' r w K
  | [], i, pend, past, pend', past', σ, ρ, s, w, r, ρ', s', K, h, hE, _, _, hx, hK => by
    simp only [xst, Option.some.injEq, Prod.mk.injEq] at hx
    obtain ⟨rfl, rfl⟩ := hx
    exact hK σ w r (Ext.refl _) h hE
  | o :: l, i, pend, past, pend', past', σ, ρ, s, w, r, ρ', s', K, h, hE, hP, hQ, hx, hK => by
    simp only [xst] at hx
    rw [vcSt]
    unfold stG
    cases hg : xgd ops ρ o with
    | none => rw [hg] at hx; cases hx
    | some c =>
      rw [hg] at hx
      have skip : c = false → r.put n o.dst undef fun r' => vcSt P n ops b l (i + 1) pend' past' r' w K := by
        rintro rfl
        simp only at hx
        cases hd : xput n ρ o.dst undX with
        | none => rw [hd] at hx; cases hx
        | some ρ1 =>
          rw [hd] at hx
          exact xput_ok hd hE rfl fun r' hr _ => xst_ok hcall l (i + 1) h hr hP hQ hx hK
      have exec : c = true → stEx P n ops b i o pend' past' r w fun pend' past' ρ' w' => vcSt P n ops b l (i + 1) pend' past' ρ' w' K := by
        rintro rfl
        simp only at hx
        unfold stEx
        cases hs : stillOp o.op with
        | true =>
          rw [hs] at hx
          simp only at hx ⊢
          cases hv : xval P ρ s o with
          | none => rw [hv] at hx; cases hx
          | some x =>
            rw [hv] at hx
            simp only at hx
            cases hd : xdone n ops i o.dst x ρ with
            | none => rw [hd] at hx; cases hx
            | some ρ1 =>
              rw [hd] at hx
              simp only at hx
              cases hbl : blind P o with
              | true =>
                rw [hbl] at hx
                exact xval_ok h.mem hE hv true fun v hvv => xdone_ok hd hE hvv fun r' hr => xst_ok hcall l (i + 1) h hr hP hQ hx hK
              | false =>
                rw [hbl] at hx
                simp only at hx ⊢
                cases hpo : pastOk P ρ o (b i) x past with
                | false => rw [hpo] at hx; cases hx
                | true =>
                  rw [hpo] at hx
                  refine xval_ok h.mem hE hv true fun v hvv => ?_
                  refine pks_ok (σ := σ) (x := x) hE hvv ?_ hQ hpo
                  exact xdone_ok hd hE hvv fun r' hr => xst_ok hcall l (i + 1) (pend := (i, o, ρ, x) :: pend) h hr ⟨rfl, ⟨r, hE, rfl, hvv⟩, hP⟩ hQ hx hK
        | false =>
          rw [hs] at hx
          simp only at hx ⊢
          cases he : xeff P false call ρ s o with
          | none => rw [he] at hx; cases hx
          | some q =>
            obtain ⟨x, s1⟩ := q
            rw [he] at hx
            simp only at hx
            cases hpe : pendOk P s1 (b i) pend with
            | false => rw [hpe] at hx; cases hx
            | true =>
              cases hd : xdone n ops i o.dst x ρ with
              | none => rw [hpe, hd] at hx; cases hx
              | some ρ1 =>
                rw [hpe, hd] at hx
                refine xeff_ok hcall h hE false he fun σ' w' v hxt hw hvv => ?_
                refine rks_ok hw.mem ?_ (hP.ext hxt) hpe
                exact xdone_ok hd (hE.ext hxt) hvv fun r' hr => xst_ok hcall l (i + 1) (past := (i, s) :: past) hw hr (hP.ext hxt) ⟨rfl, h.mem.ext hxt, hQ.ext hxt⟩ hx fun σ2 w2 r2 hxt2 hw2 hr2 => hK σ2 w2 r2 (hxt.trans hxt2) hw2 hr2
      refine xgd_ok (B := fun _ _ _ => True) hE hg fun hgd => ?_
      rcases hgd with ⟨h1, h2⟩ | ⟨j, want, d, h1, h2, h3⟩
      · rw [h1]
        exact exec h2
      · rw [h1]
        simp only [h2]
        rcases h3 with ⟨h5, ⟨h4, rfl⟩ | ⟨h4, rfl⟩⟩ | ⟨h5, ⟨h4, rfl⟩ | ⟨h4, rfl⟩ | ⟨l, h4⟩⟩
        · rw [h4]; exact exec h5
        · rw [h4]; exact exec h5
        · rw [h4]; exact skip h5
        · rw [h4]; exact skip h5
        · rw [h4]; exact skip h5
end
end Go.Ev
