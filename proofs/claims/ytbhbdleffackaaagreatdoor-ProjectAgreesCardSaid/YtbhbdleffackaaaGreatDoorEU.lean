/- A verified evaluator for closed calls: drawn regions in which effects may change places, and that the plan holds of each listing. No program in sight. -/
import Derived.Test.YtbhbdleffackaaaGreatDoorET
set_option linter.unusedVariables false
set_option linter.unusedSimpArgs false
namespace Go.Ev
open Go Go.Vc
noncomputable section
variable {P : Program} {base : Bs} {w0 : World} {σ σ' : Sg} {s s1 : St} {w w' : World} {ρ : T X} {r : Env} {n : Nat}
theorem Own.rebase {base' : Bs} {b e : Nat} {cs : List X} {rb off k : Nat} {pre vs sp post : List Value} (g : Own P base σ w b e cs rb off k pre vs sp post) (hb : ¬ base'.pr rb) : Own P base' σ w b e cs rb off k pre vs sp post :=
  ⟨g.sg_, g.val, g.pre_, g.sp_, g.heap, hb, g.flat, g.mul_, g.nsp⟩
theorem Own.lt {b e : Nat} {cs : List X} {rb off k : Nat} {pre vs sp post : List Value} (g : Own P base σ w b e cs rb off k pre vs sp post) : rb < w.heap.size := by
  obtain ⟨fz, h, _⟩ := g.heap
  exact (Array.getElem?_eq_some_iff.1 h).1
theorem Mem.rebase {base' : Bs} (h : Mem P base σ s w) (hb : ∀ a, base'.pr a → base.pr a) (hg : ∀ a, base.gp a → base'.gp a) : Mem P base' σ s w :=
  ⟨fun b e cs hq => let ⟨rb, off, k, pre, vs, sp, post, g⟩ := h.own b e cs hq; ⟨rb, off, k, pre, vs, sp, post, g.rebase fun ha => g.low (hb _ ha)⟩, h.apart,
    fun b o hq => let ⟨rb, h1, h2, h3⟩ := h.mown b o hq; ⟨rb, h1, fun ha => h2 (hb _ ha), h3⟩, h.mapart, fun g xs hq => let ⟨h1, r⟩ := h.glb g xs hq; ⟨hg _ h1, r⟩⟩
theorem Fram.step {bs : Bs} (h : Fram base w0 w) (g : Fram bs w w') (hb : ∀ a, base.pr a → bs.pr a) : Fram base w0 w' :=
  ⟨h.same.trans g.same, fun c hc => g.low c (hb c hc), fun c hc => (g.old c (hb c hc)).trans (h.old c hc)⟩
/-- An object is there. -/
def ObOk (P : Program) (base : Bs) (σ : Sg) (w : World) (b : Nat) : Ob → Prop
  | .c q => ∃ rb off k pre vs sp post, Own P base σ w b q.1 q.2 rb off k pre vs sp post
  | .m o => ∃ rb, σ b = some (rb, 0, 0) ∧ ¬ base.pr rb ∧ MOk σ w rb o
theorem MOk.lt {rb : Nat} {o : M} (h : MOk σ w rb o) : rb < w.heap.size := by
  rcases Nat.lt_or_ge rb w.heap.size with h4 | h4
  · exact h4
  · have := h.noC.2
    rw [Array.getElem?_eq_none h4] at this; cases this
theorem ObOk.sg {b : Nat} : ∀ {ob : Ob}, ObOk P base σ w b ob → ∃ q, σ b = some q ∧ q.1 < w.heap.size ∧ ¬ base.pr q.1
  | .c q, ⟨rb, off, k, pre, vs, sp, post, g⟩ => ⟨_, g.sg_, g.lt, g.low⟩
  | .m o, ⟨rb, h1, h2, h3⟩ => ⟨_, h1, h3.lt, h2⟩
theorem ObOk.keep {base' : Bs} {b : Nat} {q : Nat × Nat × Nat} (hq : σ b = some q) (hk : ∀ o, w.heap[q.1]? = some o → w'.heap[q.1]? = some o) (hx : Ext σ σ') (hb : ¬ base'.pr q.1) : ∀ {ob : Ob}, ObOk P base σ w b ob → ObOk P base' σ' w' b ob
  | .c c, ⟨rb, off, k, pre, vs, sp, post, g⟩ => by
    have := g.sg_
    rw [hq] at this
    obtain rfl := Option.some.inj this
    exact ⟨rb, off, k, pre, vs, sp, post, ((g.keep hk).ext hx).rebase hb⟩
  | .m o, ⟨rb, h1, h2, h3⟩ => by
    rw [hq] at h1
    obtain rfl := Option.some.inj h1
    exact ⟨rb, hx _ _ hq, hb, (h3.keep hk).ext hx⟩
theorem Mem.ob (h : Mem P base σ s w) {b : Nat} : ∀ {ob : Ob}, ObAt s b ob → ObOk P base σ w b ob
  | .c c, ho => h.own b c.1 c.2 ho
  | .m o, ho => h.mown b o ho
/-- What is kept meanwhile: the blocks of U, which are made and not yet put in; the numbers of those that are not made. -/
def bsU (base : Bs) (k0 L : Nat) (σ : Sg) (U D : List Nat) : Bs := ⟨fun a => base.pr a ∨ ∃ i, i ∈ U ∧ ∃ q, σ (k0 + i) = some q ∧ q.1 = a, fun m => base.res m ∨ ∃ j, j < L ∧ m = k0 + j ∧ j ∉ D, base.gp, fun a h => .inl (base.gpr a h)⟩
structure Br (P : Program) (base : Bs) (w0 : World) (F : List Fe) (k0 L : Nat) (σ : Sg) (s : St) (w : World) (U D : List Nat) : Prop where
  mem : Mem P (bsU base k0 L σ U D) σ s w
  fresh : Fresh (bsU base k0 L σ U D) σ s
  fram : Fram base w0 w
  uok : ∀ i, i ∈ U → ∃ f, lkF i F = some f ∧ ObOk P base σ w (k0 + i) f.ob
  uap : ∀ i j q q', i ∈ U → j ∈ U → i ≠ j → σ (k0 + i) = some q → σ (k0 + j) = some q' → q.1 ≠ q'.1
variable {F : List Fe} {k0 L : Nat} {U D : List Nat}
theorem Br.rv1 (h : Br P base w0 F k0 L σ s w U D) {i : Nat} {f : Fe} (hi : i ∈ U) (hf : lkF i F = some f) : Br P base w0 F k0 L σ (s.putO (k0 + i) f.ob) w (rmN i U) D := by
  obtain ⟨f', hf', hob⟩ := h.uok i hi
  rw [hf] at hf'
  obtain rfl := Option.some.inj hf'
  obtain ⟨q0, g1, g2, g3⟩ := hob.sg
  have hsub : ∀ a, (bsU base k0 L σ (rmN i U) D).pr a → (bsU base k0 L σ U D).pr a := by
    rintro a (h1 | ⟨j, h1, q, h2, h3⟩)
    · exact .inl h1
    · exact .inr ⟨j, (rmN_iff.1 h1).1, q, h2, h3⟩
  have hin : (bsU base k0 L σ U D).pr q0.1 := .inr ⟨i, hi, _, g1, rfl⟩
  have hout : ¬ (bsU base k0 L σ (rmN i U) D).pr q0.1 := by
    rintro (h1 | ⟨j, h1, q, h2, h3⟩)
    · exact g3 h1
    · obtain ⟨h4, h5⟩ := rmN_iff.1 h1
      exact h.uap j i q _ h4 hi h5 h2 g1 h3
  have B : Mem P (bsU base k0 L σ (rmN i U) D) σ s w := h.mem.rebase hsub fun _ h => h
  refine ⟨?_, ?_, h.fram, fun j hj => h.uok j (rmN_iff.1 hj).1, fun j j' q q' hj hj' => h.uap j j' q q' (rmN_iff.1 hj).1 (rmN_iff.1 hj').1⟩
  · have ob2 := ObOk.keep (base' := bsU base k0 L σ (rmN i U) D) (w' := w) g1 (fun o ho => ho) (Ext.refl σ) hout hob
    cases hobe : f.ob with
    | c c =>
      rw [hobe] at ob2
      obtain ⟨rb, off, k, pre, vs, sp, post, g⟩ := ob2
      have hsg := g.sg_
      rw [g1] at hsg
      obtain rfl := Option.some.inj hsg
      have apt : ∀ {c : Nat} {y : Blk} {r' : Nat × Nat × Nat}, s.blk c = some y → σ c = some r' → r'.1 ≠ rb := by
        intro c y r' h4 h2 he
        obtain ⟨e', cs'⟩ := y
        obtain ⟨rb', off', k', pre', vs', sp', post', g'⟩ := h.mem.own c e' cs' h4
        have := g'.sg_
        rw [h2] at this
        obtain rfl := Option.some.inj this
        exact g'.low ((show rb' = rb from he) ▸ hin)
      refine ⟨fun b e cs hb => ?_, fun b c x y r r' hb hc hne h1 h2 => ?_, fun b o hb => B.mown b o hb, h.mem.mapart, B.glb⟩
      · rcases blk_put hb with ⟨rfl, h2⟩ | ⟨hne, h2⟩
        · obtain rfl := Option.some.inj h2
          exact ⟨rb, off, k, pre, vs, sp, post, g⟩
        · exact B.own b e cs h2
      · rcases blk_put hb with ⟨rfl, _⟩ | ⟨hn1, h3⟩ <;> rcases blk_put hc with ⟨rfl, _⟩ | ⟨hn2, h4⟩
        · exact absurd rfl hne
        · rw [g1] at h1
          obtain rfl := Option.some.inj h1
          exact fun he => apt h4 h2 he.symm
        · rw [g1] at h2
          obtain rfl := Option.some.inj h2
          exact apt h3 h1
        · exact h.mem.apart b c x y r r' h3 h4 hne h1 h2
    | m o =>
      rw [hobe] at ob2
      obtain ⟨rb, k1, k2, k3⟩ := ob2
      have apt : ∀ {c : Nat} {y : M} {r' : Nat × Nat × Nat}, s.mo c = some y → σ c = some r' → r'.1 ≠ rb := by
        intro c y r' h4 h2 he
        obtain ⟨rb', h5, h6, _⟩ := h.mem.mown c y h4
        rw [h2] at h5
        obtain rfl := Option.some.inj h5
        rw [g1] at k1
        obtain rfl := Option.some.inj k1
        exact h6 ((show rb' = rb from he) ▸ hin)
      refine ⟨fun b e cs hb => B.own b e cs hb, h.mem.apart, fun b x hb => ?_, fun b c x y r r' hb hc hne h1 h2 => ?_, B.glb⟩
      · rcases mo_mput hb with ⟨rfl, h2⟩ | ⟨hne, h2⟩
        · obtain rfl := Option.some.inj h2
          exact ⟨rb, k1, k2, k3⟩
        · exact B.mown b x h2
      · rcases mo_mput hb with ⟨rfl, _⟩ | ⟨hn1, h3⟩ <;> rcases mo_mput hc with ⟨rfl, _⟩ | ⟨hn2, h4⟩
        · exact absurd rfl hne
        · rw [k1] at h1
          obtain rfl := Option.some.inj h1
          exact fun he => apt h4 h2 he.symm
        · rw [k1] at h2
          obtain rfl := Option.some.inj h2
          exact apt h3 h1
        · exact h.mem.mapart b c x y r r' h3 h4 hne h1 h2
  · cases hobe : f.ob with
    | c c => exact ⟨h.fresh.nx, h.fresh.lt, h.fresh.ge, h.fresh.rs⟩
    | m o => exact ⟨h.fresh.nx, h.fresh.lt, h.fresh.ge, h.fresh.rs⟩
theorem Br.rv : ∀ {l : List Nat} {U U' : List Nat} {s s' : St}, Br P base w0 F k0 L σ s w U D → rvU l U = some U' → rvS F k0 l s = some s' → Br P base w0 F k0 L σ s' w U' D
  | [], U, U', s, s', h, h1, h2 => by
    obtain rfl := Option.some.inj h1
    obtain rfl := Option.some.inj h2
    exact h
  | i :: l, U, U', s, s', h, h1, h2 => by
    simp only [rvU] at h1
    simp only [rvS] at h2
    cases hm : memN i U with
    | false => rw [hm] at h1; cases h1
    | true =>
      rw [hm] at h1
      cases hf : lkF i F with
      | none => rw [hf] at h2; cases h2
      | some f =>
        rw [hf] at h2
        exact Br.rv (h.rv1 (memN_iff.1 hm) hf) h1 h2
theorem Br.view (h : Br P base w0 F k0 L σ s w U D) : Mem P base σ (vwS F k0 U s) w := by
  unfold vwS
  split
  · rename_i U' s' h1 h2
    exact (h.rv h1 h2).mem.rebase (fun a ha => .inl ha) fun _ h => h
  · exact h.mem.rebase (fun a ha => .inl ha) fun _ h => h
theorem Br.wo (h : Br P base w0 F k0 L σ s w U D) : Wo P (bsU base k0 L σ U D) w σ s w := by
  refine ⟨h.mem, h.fresh, .refl w, ?_, fun _ _ => rfl⟩
  rintro a (h1 | ⟨i, h1, q, h2, h3⟩)
  · exact h.fram.low a h1
  · obtain ⟨f, _, g⟩ := h.uok i h1
    obtain ⟨q0, g1, g2, _⟩ := g.sg
    rw [h2] at g1
    obtain rfl := Option.some.inj g1
    exact h3 ▸ g2
theorem Br.eff (h : Br P base w0 F k0 L σ s w U D) (hx : Ext σ σ') (hw : Wo P (bsU base k0 L σ U D) w σ' s1 w') : Br P base w0 F k0 L σ' s1 w' U D := by
  have hsg : ∀ i, i ∈ U → ∃ q, σ (k0 + i) = some q ∧ σ' (k0 + i) = some q := fun i hi => by
    obtain ⟨f, _, g⟩ := h.uok i hi
    obtain ⟨q0, g1, _⟩ := g.sg
    exact ⟨q0, g1, hx _ _ g1⟩
  refine ⟨hw.mem.rebase ?_ fun _ h => h, ⟨hw.fresh.nx, hw.fresh.lt, hw.fresh.ge, hw.fresh.rs⟩, h.fram.step hw.fram fun a ha => .inl ha, fun i hi => ?_, fun i j q q' hi hj hne h1 h2 => ?_⟩
  · rintro a (h1 | ⟨i, h1, q, h2, h3⟩)
    · exact .inl h1
    · obtain ⟨q0, h4, h5⟩ := hsg i h1
      rw [h2] at h5
      obtain rfl := Option.some.inj h5
      exact .inr ⟨i, h1, q, h4, h3⟩
  · obtain ⟨f, hf, g⟩ := h.uok i hi
    obtain ⟨q0, g1, g2, g3⟩ := g.sg
    have hin : (bsU base k0 L σ U D).pr q0.1 := .inr ⟨i, hi, _, g1, rfl⟩
    exact ⟨f, hf, g.keep g1 (fun o ho => by rw [hw.fram.old q0.1 hin]; exact ho) hx g3⟩
  · obtain ⟨q0, k1, k2⟩ := hsg i hi
    obtain ⟨q1, k3, k4⟩ := hsg j hj
    rw [h1] at k2
    rw [h2] at k4
    obtain rfl := Option.some.inj k2
    obtain rfl := Option.some.inj k4
    exact h.uap i j _ _ hi hj hne k1 k3
def flB (base : Bs) (k0 L : Nat) (σ : Sg) (U D : List Nat) (w : World) (s : St) (i c : Nat) : Bs := ⟨fun a => a < w.heap.size, fun m => (bsU base k0 L σ U D).res m ∧ m ≠ k0 + i ∨ m ≠ k0 + i ∧ s.n ≤ m ∧ m < c, fun _ => False, fun _ h => h.elim⟩
theorem Br.fl0 (h : Br P base w0 F k0 L σ s w U D) {i c : Nat} (hi : i < L) (hD : i ∉ D) (hc : s.n < c) (hk : s.k = s.n + 1) : Wo P (flB base k0 L σ U D w s i c) w σ (dum (k0 + i) c) w := by
  have hr := h.fresh.rs (k0 + i) (.inr ⟨i, hi, rfl, hD⟩)
  refine ⟨⟨fun b e cs h => ?_, fun b c x y r r' h => ?_, fun b o h => ?_, fun b c x y r r' h => ?_, fun g xs h => by cases h⟩, ⟨hr.1, ?_, fun m hm => h.fresh.ge m ?_, fun m hm => ?_⟩, .refl w, fun a ha => ha, fun _ _ => rfl⟩
  · simp [St.blk, dum, T.get_e, jn] at h
  · simp [St.blk, dum, T.get_e, jn] at h
  · simp [St.mo, dum, T.get_e, jn] at h
  · simp [St.mo, dum, T.get_e, jn] at h
  · show k0 + i < c
    have := hr.2.2
    omega
  · have : c ≤ m := hm
    omega
  · show σ m = none ∧ m ≠ k0 + i ∧ m < c
    rcases hm with ⟨h1, h2⟩ | ⟨h1, h2, h3⟩
    · obtain ⟨a, b, d⟩ := h.fresh.rs m h1
      exact ⟨a, h2, by omega⟩
    · refine ⟨?_, h1, h3⟩
      rcases Nat.eq_or_lt_of_le h2 with rfl | h4
      · exact h.fresh.nx
      · exact h.fresh.ge m (by omega)
theorem Br.fl (h : Br P base w0 F k0 L σ s w U D) {i c : Nat} {f : Fe} (hi : i < L) (hD : i ∉ D) (hc : s.n < c) (hk : s.k = s.n + 1) (hres : ∀ m, base.res m → m < k0) (hx : Ext σ σ') (hw : Wo P (flB base k0 L σ U D w s i c) w σ' s1 w') (hf : lkF i F = some f)
    (hb : ObAt s1 (k0 + i) f.ob) (hn : s1.n = c) (hk1 : s1.k = c + 1) : Br P base w0 F k0 L σ' s w' (i :: U) (i :: D) := by
  have keep : ∀ a o, w.heap[a]? = some o → w'.heap[a]? = some o := fun a o ho => by rw [hw.fram.old a (Array.getElem?_eq_some_iff.1 ho).1]; exact ho
  have g := hw.mem.ob hb
  obtain ⟨q0, gsg, _, hlow⟩ := g.sg
  replace hlow : ¬ q0.1 < w.heap.size := hlow
  have hr := h.fresh.rs (k0 + i) (.inr ⟨i, hi, rfl, hD⟩)
  have npr : ∀ a, a < w.heap.size → ¬ (bsU base k0 L σ U D).pr a → ¬ (bsU base k0 L σ' (i :: U) (i :: D)).pr a := by
    rintro a ha hna (h1 | ⟨j, h1, q, h2, h3⟩)
    · exact hna (.inl h1)
    · rcases List.mem_cons.1 h1 with rfl | h1
      · rw [gsg] at h2
        obtain rfl := Option.some.inj h2
        exact hlow (h3 ▸ ha)
      · obtain ⟨f', _, g'⟩ := h.uok j h1
        obtain ⟨q1, g1, _⟩ := g'.sg
        rw [hx _ _ g1] at h2
        obtain rfl := Option.some.inj h2
        exact hna (.inr ⟨j, h1, _, g1, h3⟩)
  refine ⟨⟨fun b e cs hq => ?_, (h.mem.ext hx).apart, fun b o hq => ?_, (h.mem.ext hx).mapart, h.mem.keepG fun c o _ hc => keep c o hc⟩, ⟨?_, h.fresh.lt, fun m hm => ?_, fun m hm => ?_⟩, h.fram.step hw.fram fun a ha => h.fram.low a ha, fun j hj => ?_, fun j j' q q' hj hj' hne h1 h2 => ?_⟩
  · obtain ⟨rb', off', k', pre', vs', sp', post', g'⟩ := h.mem.own b e cs hq
    exact ⟨rb', off', k', pre', vs', sp', post', ((g'.keep (keep _)).ext hx).rebase (npr _ g'.lt g'.low)⟩
  · obtain ⟨rb', h1, h2, h3⟩ := h.mem.mown b o hq
    exact ⟨rb', hx _ _ h1, npr _ (h.mem.mbelow hq h1) h2, (h3.keep (keep _)).ext hx⟩
  · exact (hw.fresh.rs s.n (.inr ⟨fun e => hr.2.1 e.symm, Nat.le_refl _, hc⟩)).1
  · have hne : m ≠ k0 + i := by omega
    rcases Nat.lt_trichotomy m c with h1 | h1 | h1
    · exact (hw.fresh.rs m (.inr ⟨hne, by omega, h1⟩)).1
    · have := hw.fresh.nx
      rw [hn] at this
      rw [h1]; exact this
    · exact hw.fresh.ge m (by omega)
  · have ho : (bsU base k0 L σ U D).res m ∧ m ≠ k0 + i := by
      rcases hm with h1 | ⟨j, h1, h2, h3⟩
      · have := hres m h1
        exact ⟨.inl h1, by omega⟩
      · refine ⟨.inr ⟨j, h1, h2, fun hj => h3 (List.mem_cons_of_mem _ hj)⟩, fun e => h3 ?_⟩
        have : j = i := by omega
        rw [this]; exact List.mem_cons_self
    exact ⟨(hw.fresh.rs m (.inl ho)).1, (h.fresh.rs m ho.1).2⟩
  · rcases List.mem_cons.1 hj with rfl | hj
    · exact ⟨f, hf, g.keep gsg (fun o ho => ho) (Ext.refl _) fun ha => hlow (h.fram.low _ ha)⟩
    · obtain ⟨f', hf', g'⟩ := h.uok j hj
      obtain ⟨q1, g1, g2, g3⟩ := g'.sg
      exact ⟨f', hf', g'.keep g1 (keep _) hx g3⟩
  · have old : ∀ {j q}, j ∈ U → σ' (k0 + j) = some q → σ (k0 + j) = some q ∧ q.1 < w.heap.size := by
      intro j q hj h1
      obtain ⟨f', _, g'⟩ := h.uok j hj
      obtain ⟨q1, g1, g2, _⟩ := g'.sg
      rw [hx _ _ g1] at h1
      obtain rfl := Option.some.inj h1
      exact ⟨g1, g2⟩
    rcases List.mem_cons.1 hj with rfl | ha <;> rcases List.mem_cons.1 hj' with rfl | hb'
    · exact absurd rfl hne
    · rw [gsg] at h1
      obtain rfl := Option.some.inj h1
      exact fun e => hlow (e ▸ (old hb' h2).2)
    · rw [gsg] at h2
      obtain rfl := Option.some.inj h2
      exact fun e => hlow (e ▸ (old ha h1).2)
    · exact h.uap j j' q q' ha hb' hne (old ha h1).1 (old hb' h2).1
/-! Temporaries, in each listing. -/
def EnvO (σ : Sg) (ρ0 : T X) (DL : Ts) (r : Env) : Prop := ∀ t x, ρ0.get t t = some x → (∀ y, (t, y) ∉ DL) → vl σ x = some (r.get t)
theorem EnvO.ext {ρ0 : T X} {DL : Ts} (h : EnvO σ ρ0 DL r) (hx : Ext σ σ') : EnvO σ' ρ0 DL r := fun t x h1 h2 => vl_ext hx _ _ (h t x h1 h2)
theorem EnvO.step {ρ0 : T X} {DL : Ts} {r' : Env} {dst : Option Nat} (h : EnvO σ ρ0 DL r) (hD : ∀ d, dst = some d → ∃ x, (d, x) ∈ DL) (h2 : ∀ t, dst ≠ some t → r'.get t = r.get t) : EnvO σ ρ0 DL r' := fun t x h1 h3 => by
  rw [h2 t fun e => by obtain ⟨x, hx⟩ := hD t e; exact h3 x hx]
  exact h t x h1 h3
theorem xput_ok2 {dst : Option Nat} {x : X} {ρ' : T X} {v : Value} {K : Env → Prop} (h : xput n ρ dst x = some ρ') (hE : EnvR σ ρ r) (hv : vl σ x = some v) (hK : ∀ r', EnvR σ ρ' r' → (∀ d, dst = some d → r'.get d = v) → (∀ t, dst ≠ some t → r'.get t = r.get t) → K r') : r.put n dst v K := by
  unfold xput at h
  unfold Env.put
  cases dst with
  | none => obtain rfl := Option.some.inj h; exact hK _ hE (fun d hd => by cases hd) fun _ _ => rfl
  | some d =>
    simp only at h ⊢
    cases hb : Nat.blt d n with
    | false => rw [hb] at h; cases h
    | true =>
      rw [hb] at h
      obtain rfl := Option.some.inj h
      exact hK _ (hE.set hv) (fun d' hd => by obtain rfl := Option.some.inj hd; rw [Env.get_set, if_pos rfl]) fun t ht => by rw [Env.get_set, if_neg (fun e => ht (by rw [e]))]
theorem xdone_ok2 {ops : List Oper} {i : Nat} {dst : Option Nat} {x : X} {ρ' : T X} {v : Value} {K : Env → World → Prop} (h : xdone n ops i dst x ρ = some ρ') (hE : EnvR σ ρ r) (hv : vl σ x = some v) (hK : ∀ r', EnvR σ ρ' r' → (∀ t, dst ≠ some t → r'.get t = r.get t) → K r' w) :
    r.put n dst v fun r' => parting ops i dst K r' w := by
  unfold xdone at h
  cases hc : condOk ops i dst x with
  | false => rw [hc] at h; cases h
  | true =>
    rw [hc] at h
    refine xput_ok2 h hE hv fun r' hr hd ho => ?_
    unfold parting
    unfold condOk at hc
    cases hi : isCond ops i with
    | false => exact hK r' hr ho
    | true =>
      cases dst with
      | none => exact hK r' hr ho
      | some d =>
        rw [hi] at hc
        cases x with
        | b c =>
          simp only [vl, Option.some.injEq] at hv
          have hdv := hd d rfl
          have ho2 : ∀ u, ∀ t, some d ≠ some t → (r'.set d u).get t = r.get t := fun u t ht => by
            rw [Env.get_set, if_neg (fun e => ht (by rw [e]))]
            exact ho t ht
          simp only
          rw [hdv, ← hv]
          rw [← hv] at hdv
          cases c with
          | true => exact hK _ (hr.same hdv) (ho2 _)
          | false => exact hK _ (hr.same hdv) (ho2 _)
        | _ => cases hc
theorem tw_ok {call : CallT0} (hcall : ∀ base w0, CallOk P base w0 call) {ops : List Oper} {b : Nat → Nat → Bool} {c : Nat} {DL : Ts} {V : List Nat} {ρ0 : T X} {σ0 : Sg} {zf sf : St} {K : Env → World → Prop}
    (hFT : ∀ f ∈ F, FFact P call n ops k0 c f) (hres : ∀ m, base.res m → m < k0) (hDL : ∀ i o d, nth ops i = some o → o.dst = some d → ∃ x, (d, x) ∈ DL) (hsf : rvS F k0 V zf = some sf) (hK : FinE P base w0 σ0 (ofTs n DL ρ0) sf K) :
    ∀ (t : Tr) {es : List En} {U D : List Nat} {pend : List (Nat × Oper × T X × X)} {past : List (Nat × St)} {pend' : List (Nat × Vc.Node × Value)} {past' : List (Nat × World)} {σ : Sg} {ρ : T X} {s : St} {w : World} {r : Env},
      Br P base w0 F k0 ops.length σ s w U D → Ext σ0 σ → EnvR σ ρ r → EnvO σ ρ0 DL r → PendR P σ pend pend' → PastR P base σ past past' → Chain P call n ops F k0 s es zf →
      tw P n ops b k0 c F DL V t es U D pend past ρ s = true → vcStT P n ops b t pend' past' r w K
  | .dn, es, U, D, pend, past, pend', past', σ, ρ, s, w, r, hB, hX, hE, hO, hP, hQ, hC, hx => by
    simp only [tw] at hx
    cases es with
    | cons e es => cases hx
    | nil =>
      cases hU : rvU V U with
      | none => rw [hU] at hx; cases hx
      | some U' =>
        rw [hU] at hx
        obtain rfl : s = zf := hC
        have B := hB.rv hU hsf
        exact hK σ w r hX ⟨B.mem.rebase (fun a ha => .inl ha) (fun _ h => h), ⟨B.fresh.nx, B.fresh.lt, B.fresh.ge, fun m hm => B.fresh.rs m (.inl hm)⟩, B.fram⟩ (ofTs_ok hE hx hO)
  | .fk x y, es, U, D, pend, past, pend', past', σ, ρ, s, w, r, hB, hX, hE, hO, hP, hQ, hC, hx => by
    simp only [tw] at hx
    cases h1 : tw P n ops b k0 c F DL V x es U D pend past ρ s with
    | false => rw [h1] at hx; cases hx
    | true =>
      rw [h1] at hx
      exact ⟨tw_ok hcall hFT hres hDL hsf hK x hB hX hE hO hP hQ hC h1, tw_ok hcall hFT hres hDL hsf hK y hB hX hE hO hP hQ hC hx⟩
  | .op i t, es, U, D, pend, past, pend', past', σ, ρ, s, w, r, hB, hX, hE, hO, hP, hQ, hC, hx => by
    simp only [tw] at hx
    rw [vcStT]
    cases ho : nth ops i with
    | none => rw [ho] at hx; cases hx
    | some o =>
    rw [ho] at hx
    simp only at hx ⊢
    have hd : ∀ d, o.dst = some d → ∃ x, (d, x) ∈ DL := fun d => hDL i o d ho
    unfold stGT
    cases hg : xgd ops ρ o with
    | none => rw [hg] at hx; cases hx
    | some c1 =>
      rw [hg] at hx
      have skip : c1 = false → r.put n o.dst undef fun r' => vcStT P n ops b t pend' past' r' w K := by
        rintro rfl
        simp only at hx
        cases hdd : xput n ρ o.dst undX with
        | none => rw [hdd] at hx; cases hx
        | some ρ1 =>
          rw [hdd] at hx
          exact xput_ok2 hdd hE rfl fun r' hr _ hr2 => tw_ok hcall hFT hres hDL hsf hK t hB hX hr (hO.step hd hr2) hP hQ hC hx
      have exec : c1 = true → stExT P n ops b i o pend' past' r w fun pend' past' ρ' w' => vcStT P n ops b t pend' past' ρ' w' K := by
        rintro rfl
        simp only at hx
        unfold stExT
        cases hs : stillOp o.op with
        | true =>
          rw [hs] at hx
          simp only at hx ⊢
          cases hv : xval P ρ (vwS F k0 U s) o with
          | none => rw [hv] at hx; cases hx
          | some x =>
            rw [hv] at hx
            simp only at hx
            cases hdd : xdone n ops i o.dst x ρ with
            | none => rw [hdd] at hx; cases hx
            | some ρ1 =>
              rw [hdd] at hx
              simp only at hx
              cases hbl : blind P o with
              | true =>
                rw [hbl] at hx
                exact xval_ok hB.view hE hv true fun v hvv => xdone_ok2 hdd hE hvv fun r' hr hr2 => tw_ok hcall hFT hres hDL hsf hK t hB hX hr (hO.step hd hr2) hP hQ hC hx
              | false =>
                rw [hbl] at hx
                simp only at hx ⊢
                cases hpo : pastT P ρ o (b i) x past with
                | false => rw [hpo] at hx; cases hx
                | true =>
                  rw [hpo] at hx
                  refine xval_ok hB.view hE hv true fun v hvv => ?_
                  refine pksT_ok (σ := σ) (x := x) hE hvv ?_ hQ hpo
                  exact xdone_ok2 hdd hE hvv fun r' hr hr2 => tw_ok hcall hFT hres hDL hsf hK t (pend := (i, o, ρ, x) :: pend) hB hX hr (hO.step hd hr2) ⟨rfl, ⟨r, hE, rfl, hvv⟩, hP⟩ hQ hC hx
        | false =>
          rw [hs] at hx
          simp only at hx ⊢
          cases hF : lkF i F with
          | some f =>
            rw [hF] at hx
            simp only at hx
            split at hx
            · rename_i ρ1 hcnd hdd
              simp only [Bool.and_eq_true, Bool.not_eq_true'] at hcnd
              obtain ⟨c1, c2, c3, c4, c5, c6⟩ := hcnd
              obtain ⟨hfm, hfi⟩ := lkF_mem hF
              obtain ⟨o', s1, k1, k2, k3, k4, k5⟩ := hFT f hfm
              rw [hfi] at k1 k2 k3
              rw [ho] at k1
              obtain rfl := Option.some.inj k1
              have c1' : i ∉ D := fun hm => by rw [memN_iff.2 hm] at c1; cases c1
              have c2' : i < ops.length := Nat.le_of_ble_eq_true c2
              have c3' : s.n < c := Nat.le_of_ble_eq_true c3
              have c4' := Nat.eq_of_beq_eq_true c4
              refine xeff_ok (hcall _ _) (hB.fl0 c2' c1' c3' c4') (ofTs_e hE c5) false k2 fun σ' w' v hxt hw hvv => ?_
              have hB' := hB.fl c2' c1' c3' c4' hres hxt hw hF k3 k4 k5
              refine rks_ok hB'.view ?_ (hP.ext hxt) c6
              exact xdone_ok2 hdd (hE.ext hxt) hvv fun r' hr hr2 => tw_ok hcall hFT hres hDL hsf hK t (past := (i, vwS F k0 U s) :: past) hB' (hX.trans hxt) hr ((hO.ext hxt).step hd hr2) (hP.ext hxt) ⟨rfl, hB.view.ext hxt, hQ.ext hxt⟩ hC hx
            · cases hx
          | none =>
            rw [hF] at hx
            simp only at hx
            cases es with
            | nil => cases hx
            | cons e es =>
              simp only at hx
              split at hx
              · rename_i U' s' ρ1 hcnd hU hS hdd
                simp only [Bool.and_eq_true] at hcnd
                obtain ⟨c1, c2⟩ := hcnd
                obtain ⟨⟨o', s'', k1, k2, k3⟩, k4⟩ := hC
                rw [Nat.eq_of_beq_eq_true c1, ho] at k1
                obtain rfl := Option.some.inj k1
                rw [hS] at k2
                obtain rfl := Option.some.inj k2
                have hB2 := hB.rv hU hS
                split at hx
                · rename_i c3
                  refine xeff_ok (hcall _ _) hB2.wo (ofTs_e hE c2) false k3 fun σ' w' v hxt hw hvv => ?_
                  have hB' := hB2.eff hxt hw
                  refine rks_ok hB'.view ?_ (hP.ext hxt) c3
                  exact xdone_ok2 hdd (hE.ext hxt) hvv fun r' hr hr2 => tw_ok hcall hFT hres hDL hsf hK t (past := (i, vwS F k0 U s) :: past) hB' (hX.trans hxt) hr ((hO.ext hxt).step hd hr2) (hP.ext hxt) ⟨rfl, hB.view.ext hxt, hQ.ext hxt⟩ k4 hx
                · cases hx
              · cases hx
      refine xgd_ok (B := fun _ _ _ => True) hE hg fun hgd => ?_
      rcases hgd with ⟨h1, h2⟩ | ⟨j, want, d, h1, h2, h3⟩
      · rw [h1]
        exact exec h2
      · rw [h1]
        simp only [h2]
        rcases h3 with ⟨h5, ⟨h4, rfl⟩ | ⟨h4, rfl⟩⟩ | ⟨h5, ⟨h4, rfl⟩ | ⟨h4, rfl⟩ | ⟨l, h4⟩⟩
        · rw [h4]; exact exec h5
        · rw [h4]; exact exec h5
        · rw [h4]; exact skip h5
        · rw [h4]; exact skip h5
        · rw [h4]; exact skip h5
/-! The region. -/
theorem dstsL_mem : ∀ {ops : List Oper} {i : Nat} {o : Oper} {d : Nat}, nth ops i = some o → o.dst = some d → d ∈ dstsL ops
  | [], i, o, d, h, _ => by cases i <;> cases h
  | q :: l, 0, o, d, h, hd => by
    obtain rfl : q = o := Option.some.inj h
    simp only [dstsL, hd]
    exact List.mem_cons_self
  | q :: l, i + 1, o, d, h, hd => by
    have := dstsL_mem (ops := l) (i := i) h hd
    simp only [dstsL]
    split
    · exact List.mem_cons_of_mem _ this
    · exact this
theorem Wo.br (h : Wo P base w0 σ s w) (hk : s.k = s.n + 1) : Br P base w0 F s.n L σ (srT s L) w [] [] := by
  have hz : ∀ j, σ (s.n + j) = none := fun j => by
    cases j with
    | zero => exact h.fresh.nx
    | succ j => exact h.fresh.ge _ (by omega)
  refine ⟨⟨fun b e cs hq => ?_, h.mem.apart, fun b o hq => ?_, h.mem.mapart, h.mem.glb⟩, ⟨hz L, Nat.lt_succ_self _, fun m hm => ?_, fun m hm => ?_⟩, h.fram, (fun i hi => by cases hi), fun i j q q' hi => by cases hi⟩
  · obtain ⟨rb, off, k, pre, vs, sp, post, g⟩ := h.mem.own b e cs hq
    exact ⟨rb, off, k, pre, vs, sp, post, g.rebase fun ha => ha.elim g.low fun ⟨i, hi, _⟩ => by cases hi⟩
  · obtain ⟨rb, h1, h2, h3⟩ := h.mem.mown b o hq
    exact ⟨rb, h1, (fun ha => ha.elim h2 fun ⟨i, hi, _⟩ => by cases hi), h3⟩
  · have : s.n + L + 1 ≤ m := hm
    exact h.fresh.ge m (by omega)
  · show σ m = none ∧ m ≠ s.n + L ∧ m < s.n + L + 1
    rcases hm with h1 | ⟨j, h1, h2, _⟩
    · obtain ⟨a, b, c⟩ := h.fresh.rs m h1
      exact ⟨a, by omega, by omega⟩
    · subst h2
      exact ⟨hz j, by omega, by omega⟩
theorem xtrM_ok {call : CallT0} (hcall : ∀ base w0, CallOk P base w0 call) {ops : List Oper} {b : Nat → Nat → Bool} {t : Tr} (h : Wo P base w0 σ s w) (hE : EnvR σ ρ r) {ρ' : T X} {s' : St} (hx : xtrM P call n ops b t ρ s = some (ρ', s')) {K : Env → World → Prop}
    (hK : FinE P base w0 σ ρ' s' K) : vcStT P n ops b t [] [] r w K := by
  unfold xtrM at hx
  cases hk : Nat.beq s.k (s.n + 1) with
  | false => rw [hk] at hx; cases hx
  | true =>
    rw [hk] at hx
    have hk' := Nat.eq_of_beq_eq_true hk
    simp only at hx
    split at hx
    · cases hx
    · rename_i F E V z ρz hcp
      split at hx
      · rename_i DL sf hDL hsf
        split at hx
        · rename_i htw
          simp only [Option.some.injEq, Prod.mk.injEq] at hx
          obtain ⟨rfl, rfl⟩ := hx
          obtain ⟨g1, g2⟩ := cp_ok hcp
          refine tw_ok hcall g2 (fun m hm => ?_) (fun i o d ho hd => ?_) hsf hK t (pend := []) (past := []) (pend' := []) (past' := []) (h.br hk') (Ext.refl _) hE (fun t x ht _ => hE t x ht) trivial trivial g1 htw
          · obtain ⟨a, b, c⟩ := h.fresh.rs m hm
            omega
          · exact pickT_keys hDL d (dstsL_mem ho hd)
        · cases hx
      · cases hx
end
end Go.Ev
