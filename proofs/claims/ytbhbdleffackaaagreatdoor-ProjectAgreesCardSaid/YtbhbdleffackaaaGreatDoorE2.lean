/- A verified evaluator for closed calls, second part: memory that turns; operations that leave the world as it is. No program in sight. -/
import Derived.Test.YtbhbdleffackaaaGreatDoorE1
set_option linter.unusedVariables false
set_option linter.unusedSimpArgs false
namespace Go.Ev
open Go Go.Vc
noncomputable section
variable {P : Program} {base : Bs} {σ : Sg} {s : St} {w w' : World}
/-- A block's object moves to another world, where its block stands. -/
theorem Own.keep {b e : Nat} {cs : List X} {rb off k : Nat} {pre vs sp post : List Value} (g : Own P base σ w b e cs rb off k pre vs sp post) (ho : ∀ o, w.heap[rb]? = some o → w'.heap[rb]? = some o) : Own P base σ w' b e cs rb off k pre vs sp post := by
  obtain ⟨fz, h1, h2⟩ := g.heap
  exact ⟨g.sg_, g.val, g.pre_, g.sp_, ⟨fz, ho _ h1, h2⟩, g.low, g.flat, g.mul_, g.nsp⟩
/-- A block of cells is none of the other objects. -/
theorem Mem.sep (h : Mem P base σ s w) {q rb : Nat} {o : M} (hq : s.mo q = some o) (hc : ∃ c e z, w.heap[rb]? = some (.cells c e z)) : ∀ {r : Nat × Nat × Nat}, σ q = some r → r.1 ≠ rb := by
  intro r hr he
  obtain ⟨rb', h1, _, h3⟩ := h.mown q o hq
  rw [h1] at hr
  obtain rfl := Option.some.inj hr
  obtain ⟨c, e, z, hh⟩ := hc
  replace he : rb' = rb := he
  rw [he] at h3
  exact h3.noC.1 c e z hh
theorem Mem.upd (h : Mem P base σ s w) {b e : Nat} {cs cs' : List X} {rb off k : Nat} {pre vs' sp post : List Value} (hb : s.blk b = some (e, cs)) (hn : Own P base σ w' b e cs' rb off k pre vs' sp post)
    (ho : ∀ c o, c ≠ rb → w.heap[c]? = some o → w'.heap[c]? = some o) : Mem P base σ (s.put b (some (e, cs'))) w' := by
  have key : ∀ q x, (s.put b (some (e, cs'))).blk q = some x → ∃ y, s.blk q = some y := by
    intro q x hq
    rcases blk_put hq with ⟨rfl, _⟩ | ⟨_, h2⟩
    · exact ⟨_, hb⟩
    · exact ⟨_, h2⟩
  refine ⟨fun q e' cs'' hq => ?_, fun q c x y r r' hq hc hne h1 h2 => ?_, fun q o hq => ?_, fun q c x y r r' hq hc hne h1 h2 => h.mapart q c x y r r' hq hc hne h1 h2, h.keepG fun c o hc => ho c o fun e => hn.low (e ▸ hc)⟩
  · rcases blk_put hq with ⟨rfl, h2⟩ | ⟨hne, h2⟩
    · simp only [Option.some.injEq, Prod.mk.injEq] at h2
      obtain ⟨rfl, rfl⟩ := h2
      exact ⟨rb, off, k, pre, vs', sp, post, hn⟩
    · obtain ⟨rb', off', k', pre', vs, sp', post', g⟩ := h.own q e' cs'' h2
      exact ⟨rb', off', k', pre', vs, sp', post', g.keep (ho _ · (h.apart q b _ _ _ _ h2 hb hne g.sg_ hn.sg_))⟩
  · obtain ⟨x', hx'⟩ := key q x hq
    obtain ⟨y', hy'⟩ := key c y hc
    exact h.apart q c x' y' r r' hx' hy' hne h1 h2
  · replace hq : s.mo q = some o := hq
    obtain ⟨rb', h1, h2, h3⟩ := h.mown q o hq
    obtain ⟨rb0, off0, k0, pre0, vs0, sp0, post0, g0⟩ := h.own b e cs hb
    obtain ⟨fz, hh, _⟩ := g0.heap
    have hrb : rb0 = rb := by have := g0.sg_; rw [hn.sg_] at this; cases this; rfl
    subst hrb
    exact ⟨rb', h1, h2, h3.keep fun o' => ho rb' o' (h.sep hq ⟨_, _, _, hh⟩ h1)⟩
theorem Mem.del (h : Mem P base σ s w) (b : Nat) : Mem P base σ (s.put b none) w := by
  have key : ∀ q x, (s.put b none).blk q = some x → q ≠ b ∧ s.blk q = some x := by
    intro q x hq
    rcases blk_put hq with ⟨_, h2⟩ | h2
    · cases h2
    · exact h2
  exact ⟨fun q e cs hq => h.own q e cs (key q _ hq).2, fun q c x y r r' hq hc hne h1 h2 => h.apart q c x y r r' (key q x hq).2 (key c y hc).2 hne h1 h2, h.mown, h.mapart, h.glb⟩
/-- A block that is given up may turn as it will. -/
theorem Mem.lose (h : Mem P base σ s w) {b : Nat} {x : Blk} {r : Nat × Nat × Nat} (hb : s.blk b = some x) (hr : σ b = some r) (ho : ∀ c o, c ≠ r.1 → w.heap[c]? = some o → w'.heap[c]? = some o) : Mem P base σ (s.put b none) w' := by
  have key : ∀ q x, (s.put b none).blk q = some x → q ≠ b ∧ s.blk q = some x := by
    intro q x hq
    rcases blk_put hq with ⟨_, h2⟩ | h2
    · cases h2
    · exact h2
  have hlow : ¬ base.pr r.1 := by
    obtain ⟨e, cs⟩ := x
    obtain ⟨rb0, off0, k0, pre0, vs0, sp0, post0, g0⟩ := h.own b e cs hb
    have := g0.sg_
    rw [hr] at this
    obtain rfl := Option.some.inj this
    exact g0.low
  refine ⟨fun q e cs hq => ?_, fun q c x y r r' hq hc hne h1 h2 => h.apart q c x y r r' (key q x hq).2 (key c y hc).2 hne h1 h2, fun q o hq => ?_, h.mapart, h.keepG fun c o hc => ho c o fun e => hlow (e ▸ hc)⟩
  · obtain ⟨hne, hq⟩ := key q _ hq
    obtain ⟨rb', off', k', pre', vs, sp', post', g⟩ := h.own q e cs hq
    exact ⟨rb', off', k', pre', vs, sp', post', g.keep (ho _ · (h.apart q b _ _ _ _ hq hb hne g.sg_ hr))⟩
  · replace hq : s.mo q = some o := hq
    obtain ⟨rb', h1, h2, h3⟩ := h.mown q o hq
    obtain ⟨e, cs⟩ := x
    obtain ⟨rb0, off0, k0, pre0, vs0, sp0, post0, g0⟩ := h.own b e cs hb
    obtain ⟨fz, hh, _⟩ := g0.heap
    have := g0.sg_
    rw [hr] at this
    obtain rfl := Option.some.inj this
    exact ⟨rb', h1, h2, h3.keep fun o' => ho rb' o' (h.sep hq ⟨_, _, _, hh⟩ h1)⟩
/-- Another object turns. -/
theorem Mem.mupd (h : Mem P base σ s w) {b rb : Nat} {o o' : M} (hb : s.mo b = some o) (hr : σ b = some (rb, 0, 0)) (hn : MOk σ w' rb o') (ho : ∀ c x, c ≠ rb → w.heap[c]? = some x → w'.heap[c]? = some x) : Mem P base σ (s.mput b (some o')) w' := by
  have key : ∀ q x, (s.mput b (some o')).mo q = some x → ∃ y, s.mo q = some y := by
    intro q x hq
    rcases mo_mput hq with ⟨rfl, _⟩ | ⟨_, h2⟩
    · exact ⟨_, hb⟩
    · exact ⟨_, h2⟩
  obtain ⟨rb0, g1, g2, g3⟩ := h.mown b o hb
  rw [hr] at g1
  cases g1
  refine ⟨fun q e cs hq => ?_, h.apart, fun q x hq => ?_, fun q c x y r r' hq hc hne h1 h2 => ?_, h.keepG fun c o hc => ho c o fun e => g2 (e ▸ hc)⟩
  · obtain ⟨rb', off', k', pre', vs, sp', post', g⟩ := h.own q e cs hq
    refine ⟨rb', off', k', pre', vs, sp', post', g.keep fun x => ho _ x fun he => ?_⟩
    obtain ⟨fz, hh, _⟩ := g.heap
    exact g3.noC.1 _ _ _ (he ▸ hh)
  · rcases mo_mput hq with ⟨rfl, h2⟩ | ⟨hne, h2⟩
    · obtain rfl := Option.some.inj h2
      exact ⟨rb, hr, g2, hn⟩
    · obtain ⟨rb', h1, h3, h4⟩ := h.mown q x h2
      exact ⟨rb', h1, h3, h4.keep fun x => ho _ x (h.mapart q b _ _ _ _ h2 hb hne h1 hr)⟩
  · obtain ⟨x', hx'⟩ := key q x hq
    obtain ⟨y', hy'⟩ := key c y hc
    exact h.mapart q c x' y' r r' hx' hy' hne h1 h2
def sgPut (σ : Sg) (n : Nat) (r : Nat × Nat × Nat) : Sg := fun m => match Nat.beq m n with
  | true => some r
  | false => σ m
theorem sgPut_same (σ : Sg) (n : Nat) (r : Nat × Nat × Nat) : sgPut σ n r n = some r := by unfold sgPut; rw [Nat.beq_refl]
theorem sgPut_ne {σ : Sg} {n m : Nat} {r : Nat × Nat × Nat} (h : m ≠ n) : sgPut σ n r m = σ m := by
  unfold sgPut
  cases hb : Nat.beq m n with
  | true => exact absurd (Nat.eq_of_beq_eq_true hb) h
  | false => rfl
theorem sgPut_ext {σ : Sg} {n : Nat} {r : Nat × Nat × Nat} (h : σ n = none) : Ext σ (sgPut σ n r) := by
  intro m q hm
  rw [sgPut_ne]
  · exact hm
  · rintro rfl; rw [h] at hm; cases hm
def St.new (s : St) (c : Blk) : St := ⟨(s.put s.n (some c)).h, s.k, s.k + 1, s.m, s.g⟩
def St.mnew (s : St) (c : M) : St := ⟨s.h, s.k, s.k + 1, (s.mput s.n (some c)).m, s.g⟩
theorem Fresh.next {s' : St} (hf : Fresh base σ s) (r : Nat × Nat × Nat) (h1 : s'.n = s.k) (h2 : s'.k = s.k + 1) : Fresh base (sgPut σ s.n r) s' := by
  have hl := hf.lt
  refine ⟨?_, by omega, fun m hm => ?_, fun m hm => ?_⟩
  · rw [h1, sgPut_ne (by omega)]; exact hf.ge _ (Nat.le_refl _)
  · rw [sgPut_ne (by omega)]; exact hf.ge _ (by omega)
  · obtain ⟨a, b, c⟩ := hf.rs m hm
    rw [sgPut_ne b]
    exact ⟨a, by omega, by omega⟩
theorem mo_mnew {s : St} {c x : M} {q : Nat} (h : (s.mnew c).mo q = some x) : (q = s.n ∧ c = x) ∨ (q ≠ s.n ∧ s.mo q = some x) := by
  have : (s.mput s.n (some c)).mo q = some x := h
  rcases mo_mput this with ⟨h1, h2⟩ | h2
  · exact .inl ⟨h1, Option.some.inj h2⟩
  · exact .inr h2
theorem blk_new {c x : Blk} {q : Nat} (h : (s.new c).blk q = some x) : (q = s.n ∧ c = x) ∨ (q ≠ s.n ∧ s.blk q = some x) := by
  have : (s.put s.n (some c)).blk q = some x := h
  rcases blk_put this with ⟨h1, h2⟩ | h2
  · exact .inl ⟨h1, Option.some.inj h2⟩
  · exact .inr h2
/-- A new number, for a real block that no number stands for. -/
theorem Mem.fresh (h : Mem P base σ s w) (hf : Fresh base σ s) {e : TypeId} {cs : List X} {pre vs sp post : List Value} {rb k : Nat} (hv : vls σ cs = some vs) (hsp : sp.length = k * szOf P e) (hbase : ¬ base.pr rb) (hg : vs.all sg = true)
    (hh : ∃ fz : Nat × Nat, w'.heap[rb]? = some (.cells (pre ++ vs ++ sp ++ post).toArray e fz) ∧ ∀ o, o < (pre ++ vs ++ sp ++ post).length → ¬ (fz.1 ≤ o ∧ o < fz.2)) (hno : ∀ b x r, s.blk b = some x → σ b = some r → r.1 ≠ rb)
    (hnm : ∀ b x r, s.mo b = some x → σ b = some r → r.1 ≠ rb) (hml : ∃ q, pre.length = q * szOf P e) (hns : isArrB P e = true → k = 0) (ho : ∀ c o, c ≠ rb → w.heap[c]? = some o → w'.heap[c]? = some o) :
    Mem P base (sgPut σ s.n (rb, pre.length, k)) (s.new (e, cs)) w' ∧ Ext σ (sgPut σ s.n (rb, pre.length, k)) ∧ Fresh base (sgPut σ s.n (rb, pre.length, k)) (s.new (e, cs)) := by
  have hx : Ext σ (sgPut σ s.n (rb, pre.length, k)) := sgPut_ext hf.nx
  refine ⟨⟨fun q e' cs' hq => ?_, fun q c x y r r' hq hc hne h1 h2 => ?_, fun q o hq => ?_, fun q c x y r r' hq hc hne h1 h2 => ?_, h.keepG fun c o hc => ho c o fun e => hbase (e ▸ hc)⟩, hx, hf.next _ rfl rfl⟩
  · rcases blk_new hq with ⟨rfl, h2⟩ | ⟨hne, h2⟩
    · simp only [Prod.mk.injEq] at h2
      obtain ⟨rfl, rfl⟩ := h2
      exact ⟨rb, pre.length, k, pre, vs, sp, post, ⟨sgPut_same _ _ _, vls_ext hx _ _ hv, rfl, hsp, hh, hbase, hg, hml, hns⟩⟩
    · obtain ⟨rb', off', k', pre', vs', sp', post', g⟩ := h.own q e' cs' h2
      exact ⟨rb', off', k', pre', vs', sp', post', (g.keep (ho _ · (hno q _ _ h2 g.sg_))).ext hx⟩
  · have old : ∀ q x r, s.blk q = some x → sgPut σ s.n (rb, pre.length, k) q = some r → q ≠ s.n → σ q = some r := fun q x r _ h1 hne => by rw [sgPut_ne hne] at h1; exact h1
    rcases blk_new hq with ⟨rfl, h3⟩ | ⟨hn1, h3⟩ <;> rcases blk_new hc with ⟨rfl, h4⟩ | ⟨hn2, h4⟩
    · exact absurd rfl hne
    · rw [sgPut_same] at h1
      cases h1
      exact fun e => hno c y r' h4 (old c y r' h4 h2 hn2) e.symm
    · rw [sgPut_same] at h2
      cases h2
      exact hno q x r h3 (old q x r h3 h1 hn1)
    · exact h.apart q c x y r r' h3 h4 hne (old q x r h3 h1 hn1) (old c y r' h4 h2 hn2)
  · replace hq : s.mo q = some o := hq
    obtain ⟨rb', h1, h2, h3⟩ := h.mown q o hq
    exact ⟨rb', hx _ _ h1, h2, (h3.keep (ho _ · (hnm q o _ hq h1))).ext hx⟩
  · replace hq : s.mo q = some x := hq
    replace hc : s.mo c = some y := hc
    obtain ⟨_, g1, _⟩ := h.mown q x hq
    obtain ⟨_, g2, _⟩ := h.mown c y hc
    have e1 := hx _ _ g1
    have e2 := hx _ _ g2
    rw [h1] at e1; rw [h2] at e2
    rw [← e1] at g1; rw [← e2] at g2
    exact h.mapart q c x y _ _ hq hc hne g1 g2
theorem Mem.mbelow (h : Mem P base σ s w) {b : Nat} {x : M} {r : Nat × Nat × Nat} (hb : s.mo b = some x) (hr : σ b = some r) : r.1 < w.heap.size := by
  obtain ⟨rb, h1, _, h3⟩ := h.mown b x hb
  rw [h1] at hr
  obtain rfl := Option.some.inj hr
  show rb < w.heap.size
  rcases Nat.lt_or_ge rb w.heap.size with h4 | h4
  · exact h4
  · have := h3.noC.2
    rw [Array.getElem?_eq_none h4] at this; cases this
theorem Mem.below (h : Mem P base σ s w) {b : Nat} {x : Blk} {r : Nat × Nat × Nat} (hb : s.blk b = some x) (hr : σ b = some r) : r.1 < w.heap.size := by
  obtain ⟨e', cs'⟩ := x
  obtain ⟨rb, off, k, pre, vs, sp, post, g⟩ := h.own b e' cs' hb
  have := g.sg_
  rw [hr] at this
  obtain rfl := Option.some.inj this
  show rb < w.heap.size
  rcases Nat.lt_or_ge rb w.heap.size with h1 | h1
  · exact h1
  · obtain ⟨fz, this, _⟩ := g.heap
    rw [Array.getElem?_eq_none h1] at this; cases this
theorem alloc_oth {o' : Obj} : ∀ c o, c ≠ w.heap.size → w.heap[c]? = some o → (w.alloc o').heap[c]? = some o := by
  intro c o hc hco
  show (w.heap.push _)[c]? = _
  rw [Array.getElem?_push, if_neg hc]
  exact hco
theorem Fram.alloc {w0 : World} (hF : Fram base w0 w) (o : Obj) : Fram base w0 (w.alloc o) := by
  refine ⟨hF.same.trans (.alloc _ _), ?_, fun c hc => ?_⟩
  · intro c hc
    show c < (w.heap.push _).size
    have := hF.low c hc
    simp only [Array.size_push]; omega
  · have := hF.low c hc
    show (w.heap.push _)[c]? = _
    rw [Array.getElem?_push, if_neg (by omega)]
    exact hF.old c hc
theorem Fram.top {w0 : World} (hF : Fram base w0 w) : ¬ base.pr w.heap.size := fun h => Nat.lt_irrefl _ (hF.low _ h)
theorem Mem.alloc (h : Mem P base σ s w) (hf : Fresh base σ s) {w0 : World} (hF : Fram base w0 w) {e : TypeId} {cs : List X} {vs sp : List Value} {k : Nat} (hv : vls σ cs = some vs) (hsp : sp.length = k * szOf P e) (hg : vs.all sg = true) (hns : isArrB P e = true → k = 0) :
    Mem P base (sgPut σ s.n (w.heap.size, 0, k)) (s.new (e, cs)) (w.alloc (.cells (vs ++ sp).toArray e)) ∧ Ext σ (sgPut σ s.n (w.heap.size, 0, k)) ∧ Fresh base (sgPut σ s.n (w.heap.size, 0, k)) (s.new (e, cs)) :=
  h.fresh (w' := w.alloc (.cells (vs ++ sp).toArray e)) (e := e) (pre := []) (post := []) (sp := sp) (rb := w.heap.size) (k := k) hf hv hsp hF.top hg ⟨(0, 0), by show (w.heap.push _)[w.heap.size]? = _; simp, fun o _ hz => by have := hz.2; exact absurd this (Nat.not_lt_zero _)⟩
    (fun b x r hb hr he => by have := h.below hb hr; omega) (fun b x r hb hr he => by have := h.mbelow hb hr; omega) ⟨0, by simp⟩ hns alloc_oth
theorem alloc_at (o : Obj) : (w.alloc o).heap[w.heap.size]? = some o := by show (w.heap.push _)[w.heap.size]? = _; simp
/-- A new object that is no block of cells. -/
theorem Mem.mnew (h : Mem P base σ s w) (hf : Fresh base σ s) {w0 : World} (hF : Fram base w0 w) {o : M} {ob : Obj} (hn : ∀ w', w'.heap[w.heap.size]? = some ob → MOk σ w' w.heap.size o) :
    Mem P base (sgPut σ s.n (w.heap.size, 0, 0)) (s.mnew o) (w.alloc ob) ∧ Ext σ (sgPut σ s.n (w.heap.size, 0, 0)) ∧ Fresh base (sgPut σ s.n (w.heap.size, 0, 0)) (s.mnew o) := by
  have hx : Ext σ (sgPut σ s.n (w.heap.size, 0, 0)) := sgPut_ext hf.nx
  have low : ∀ {b : Nat} {x : Obj}, w.heap[b]? = some x → b ≠ w.heap.size := fun {b x} hb he => by
    rw [Array.getElem?_eq_none (by omega)] at hb; cases hb
  refine ⟨⟨fun q e cs hq => ?_, fun q c x y r r' hq hc hne h1 h2 => ?_, fun q x hq => ?_, fun q c x y r r' hq hc hne h1 h2 => ?_, h.keepG fun c o _ hco => alloc_oth c o (low hco) hco⟩, hx, hf.next _ rfl rfl⟩
  · replace hq : s.blk q = some (e, cs) := hq
    obtain ⟨rb', off', k', pre', vs', sp', post', g⟩ := h.own q e cs hq
    exact ⟨rb', off', k', pre', vs', sp', post', (g.keep fun o ho => alloc_oth _ _ (low ho) ho).ext hx⟩
  · replace hq : s.blk q = some x := hq
    replace hc : s.blk c = some y := hc
    exact (h.ext hx).apart q c x y r r' hq hc hne h1 h2
  · rcases mo_mnew hq with ⟨rfl, rfl⟩ | ⟨hne, h2⟩
    · exact ⟨w.heap.size, sgPut_same _ _ _, hF.top, (hn _ (alloc_at ob)).ext hx⟩
    · obtain ⟨rb', h1, h3, h4⟩ := h.mown q x h2
      exact ⟨rb', hx _ _ h1, h3, (h4.keep fun o ho => alloc_oth _ _ (low ho) ho).ext hx⟩
  · have old : ∀ q x r, s.mo q = some x → sgPut σ s.n (w.heap.size, 0, 0) q = some r → q ≠ s.n → σ q = some r := fun q x r _ h1 hne => by rw [sgPut_ne hne] at h1; exact h1
    rcases mo_mnew hq with ⟨rfl, h3⟩ | ⟨hn1, h3⟩ <;> rcases mo_mnew hc with ⟨rfl, h4⟩ | ⟨hn2, h4⟩
    · exact absurd rfl hne
    · rw [sgPut_same] at h1
      cases h1
      exact fun e => by have := h.mbelow h4 (old c y r' h4 h2 hn2); omega
    · rw [sgPut_same] at h2
      cases h2
      exact fun e => by have := h.mbelow h3 (old q x r h3 h1 hn1); omega
    · exact h.mapart q c x y r r' h3 h4 hne (old q x r h3 h1 hn1) (old c y r' h4 h2 hn2)
/-- All but one block. -/
def oth (w : World) (rb : Nat) : HProp := fun h => ∀ c o, c ≠ rb → w.heap[c]? = some o → h c = some o
theorem holds_oth {rb : Nat} {o : Obj} (h : w.heap[rb]? = some o) : Holds w [blkO rb o, oth w rb] := by
  refine ⟨fun c => if c = rb then some o else none, by simp [blkO], fun c o' hc => ?_, ?_⟩
  · by_cases e : c = rb
    · subst e; simp at hc; subst hc; exact h
    · simp [e] at hc
  · refine ⟨fun c => if c = rb then none else w.heap[c]?, fun c o' hne hc => by simp [hne, hc], fun c o' hc => ?_, trivial⟩
    by_cases e : c = rb
    · simp [e] at hc
    · simp only [e, if_false] at hc
      unfold Hp.minus
      simp only [e, if_false, Option.isSome_none, Bool.false_eq_true]
      exact hc
theorem oth_out {rb : Nat} {o' : Obj} (H : Holds w' [blkO rb o', oth w rb]) : w'.heap[rb]? = some o' ∧ ∀ c o, c ≠ rb → w.heap[c]? = some o → w'.heap[c]? = some o := by
  refine ⟨H.obj 0 rfl, fun c o hc hco => ?_⟩
  obtain ⟨g, hg, hs, _⟩ := H.front 1 rfl
  exact hs c o (hg c o hc hco)
theorem Fram.upd {w0 : World} {rb : Nat} (hF : Fram base w0 w) (hS : Same w w') (hb : ¬ base.pr rb) (ho : ∀ c o, c ≠ rb → w.heap[c]? = some o → w'.heap[c]? = some o) : Fram base w0 w' := by
  refine ⟨hF.same.trans hS, fun c hc => Nat.lt_of_lt_of_le (hF.low c hc) hS.size, fun c hc => ?_⟩
  have h1 : c < w.heap.size := hF.low c hc
  rw [← hF.old c hc]
  have h2 : w.heap[c]? = some w.heap[c] := Array.getElem?_eq_getElem h1
  rw [h2]
  exact ho c _ (fun e => hb (e ▸ hc)) h2
theorem Fram.drew {w0 : World} (hF : Fram base w0 w) : Fram base w0 w.drew := ⟨hF.same.trans (.drew _), hF.low, hF.old⟩
theorem Mem.drew (h : Mem P base σ s w) : Mem P base σ s w.drew :=
  ⟨fun b e cs hb => let ⟨rb, off, k, pre, vs, sp, post, g⟩ := h.own b e cs hb; ⟨rb, off, k, pre, vs, sp, post, g.keep fun _ ho => ho⟩, h.apart, fun b o hb => let ⟨rb, h1, h2, h3⟩ := h.mown b o hb; ⟨rb, h1, h2, h3.keep fun _ ho => ho⟩, h.mapart, h.glb⟩
/-- What a value of the model is, where it has no address. -/
def ofV : Value → Option X
  | .bool b => some (.b b)
  | .int k n => some (.i k n)
  | .string s => some (.s (s.data.toList.map UInt8.toNat))
  | .pointer none => some (.p none)
  | .slice none n c => some (.l none n c)
  | .nilIface => some .ni
  | .nilFunc => some .nf
  | .map none => some (.m none)
  | _ => none
theorem str_toNat (s : ByteArray) : str (s.data.toList.map UInt8.toNat) = s := by
  apply ba_ext
  simp only [str, List.map_map]
  rw [show (UInt8.ofNat ∘ UInt8.toNat) = id by funext x; simp, List.map_id]
theorem vl_ofV {v : Value} {x : X} (h : ofV v = some x) : vl σ x = some v := by
  cases v with
  | bool b => simp only [ofV, Option.some.injEq] at h; subst h; rfl
  | int k n => simp only [ofV, Option.some.injEq] at h; subst h; rfl
  | string s => simp only [ofV, Option.some.injEq] at h; subst h; simp only [vl, str_toNat]
  | pointer a =>
    cases a with
    | none => simp only [ofV, Option.some.injEq] at h; subst h; rfl
    | some a => cases h
  | slice a n c =>
    cases a with
    | none => simp only [ofV, Option.some.injEq] at h; subst h; rfl
    | some a => cases h
  | nilIface => simp only [ofV, Option.some.injEq] at h; subst h; rfl
  | nilFunc => simp only [ofV, Option.some.injEq] at h; subst h; rfl
  | map a =>
    cases a with
    | none => simp only [ofV, Option.some.injEq] at h; subst h; rfl
    | some a => cases h
  | _ => cases h
def ofVs : List Value → Option (List X)
  | [] => some []
  | v :: r => match ofV v, ofVs r with
    | some x, some xs => some (x :: xs)
    | _, _ => none
theorem vls_ofVs : ∀ {vs : List Value} {xs : List X}, ofVs vs = some xs → vls σ xs = some vs
  | [], xs, h => by simp only [ofVs, Option.some.injEq] at h; subst h; rfl
  | v :: r, xs, h => by
    simp only [ofVs] at h
    cases hx : ofV v with
    | none => rw [hx] at h; cases h
    | some x =>
      cases hr : ofVs r with
      | none => rw [hx, hr] at h; cases h
      | some ys =>
        rw [hx, hr] at h
        obtain rfl := Option.some.inj h
        exact vls_mk (vl_ofV hx) (vls_ofVs hr)
/-! Arithmetic and comparison. -/
def eqN : List Nat → List Nat → Bool
  | [], [] => true
  | x :: a, y :: b => match Nat.beq (x % 256) (y % 256) with
    | true => eqN a b
    | false => false
  | _, _ => false
theorem eqN_spec : ∀ (a b : List Nat), eqN a b = decide (str a = str b)
  | [], [] => by simp [eqN]
  | [], y :: b => by
    have : ¬ str [] = str (y :: b) := by intro h; have := congrArg ByteArray.size h; simp [str, ByteArray.size] at this
    simp [eqN, this]
  | x :: a, [] => by
    have : ¬ str (x :: a) = str [] := by intro h; have := congrArg ByteArray.size h; simp [str, ByteArray.size] at this
    simp [eqN, this]
  | x :: a, y :: b => by
    have h1 : str (x :: a) = str (y :: b) ↔ x % 256 = y % 256 ∧ str a = str b := by
      constructor
      · intro h
        have := congrArg (fun s : ByteArray => s.data.toList) h
        simp only [str, List.map_cons, List.cons.injEq] at this
        refine ⟨?_, ba_ext (by simpa [str] using this.2)⟩
        have := congrArg UInt8.toNat this.1
        simpa using this
      · rintro ⟨h1, h2⟩
        have h3 := congrArg (fun s : ByteArray => s.data.toList) h2
        apply ba_ext
        simp only [str, List.map_cons] at h3 ⊢
        rw [h3]
        congr 1
        apply UInt8.toNat_inj.1
        simpa using h1
    simp only [eqN]
    cases hb : Nat.beq (x % 256) (y % 256) with
    | true =>
      have := Nat.eq_of_beq_eq_true hb
      simp only
      rw [eqN_spec a b, decide_eq_decide, h1]
      simp [this]
    | false =>
      have := Nat.ne_of_beq_eq_false hb
      symm
      rw [decide_eq_false_iff_not, h1]
      exact fun e => this e.1
theorem str_app (a b : List Nat) : str (a ++ b) = str a ++ str b := by
  apply ba_ext
  simp [str]
theorem str_size (a : List Nat) : (str a).size = a.length := by simp [str, ByteArray.size]
def bpV (op : BinOp) (u v : Value) : Option X := match bp op u v with
  | some r => ofV r
  | none => none
theorem bpV_spec {op : BinOp} {u v : Value} {z : X} (h : bpV op u v = some z) : ∃ r, bp op u v = some r ∧ vl σ z = some r := by
  unfold bpV at h
  cases hr : bp op u v with
  | none => rw [hr] at h; cases h
  | some r => rw [hr] at h; exact ⟨r, rfl, vl_ofV h⟩
def bpS (op : BinOp) (a b : List Nat) : Option X := match op with
  | .add => (match Nat.ble (a.length + b.length) 9223372036854775807 with
    | true => some (.s (a ++ b))
    | false => none)
  | .eql => some (.b (eqN a b))
  | .neq => some (.b !(eqN a b))
  | op => bpV op (.string (str a)) (.string (str b))
theorem bpS_spec {op : BinOp} {a b : List Nat} {z : X} (h : bpS op a b = some z) : ∃ r, bp op (.string (str a)) (.string (str b)) = some r ∧ vl σ z = some r := by
  unfold bpS at h
  split at h
  · split at h
    · rename_i hl
      obtain rfl := Option.some.inj h
      have hl2 := Nat.le_of_ble_eq_true hl
      refine ⟨.string (str a ++ str b), ?_, by simp only [vl, str_app]⟩
      simp only [bp]
      rw [if_neg]
      rw [str_size, str_size]
      show ¬ _ > (9223372036854775807 : Int)
      omega
    · cases h
  · obtain rfl := Option.some.inj h
    exact ⟨_, rfl, by simp only [vl, eqN_spec, seq_eq]⟩
  · obtain rfl := Option.some.inj h
    exact ⟨_, rfl, by simp only [vl, eqN_spec, seq_eq]⟩
  · exact bpV_spec h
/-- Whole numbers from 0 on: the common roads. -/
def bp64 (op : BinOp) (m n : Nat) : Option X := match op with
  | .add => @Bool.rec (fun _ => Option X) (bpV .add (.int .i64 (.ofNat m)) (.int .i64 (.ofNat n))) (some (.i .i64 (.ofNat (Nat.add m n)))) (Nat.blt (Nat.add m n) 9223372036854775808)
  | .sub => @Bool.rec (fun _ => Option X) (bpV .sub (.int .i64 (.ofNat m)) (.int .i64 (.ofNat n))) (@Bool.rec (fun _ => Option X) (bpV .sub (.int .i64 (.ofNat m)) (.int .i64 (.ofNat n))) (some (.i .i64 (.ofNat (Nat.sub m n)))) (Nat.blt m 9223372036854775808)) (Nat.ble n m)
  | .mul => @Bool.rec (fun _ => Option X) (bpV .mul (.int .i64 (.ofNat m)) (.int .i64 (.ofNat n))) (some (.i .i64 (.ofNat (Nat.mul m n)))) (Nat.blt (Nat.mul m n) 9223372036854775808)
  | .lss => some (.b (Nat.blt m n))
  | .leq => some (.b (Nat.ble m n))
  | .gtr => some (.b (Nat.blt n m))
  | .geq => some (.b (Nat.ble n m))
  | .eql => some (.b (Nat.beq m n))
  | .neq => some (.b (Bool.not (Nat.beq m n)))
  | op => bpV op (.int .i64 (.ofNat m)) (.int .i64 (.ofNat n))
theorem bool_rec {α : Type} (a b : α) (c : Bool) : @Bool.rec (fun _ => α) a b c = if c = true then b else a := by cases c <;> rfl
theorem bp64_spec {op : BinOp} {m n : Nat} {z : X} (h : bp64 op m n = some z) : ∃ r, bp op (.int .i64 (m : Int)) (.int .i64 (n : Int)) = some r ∧ vl σ z = some r := by
  have w : ∀ k : Int, 0 ≤ k → k < 9223372036854775808 → IntKind.i64.wrap k = k := fun k h1 h2 => wrap64 (by omega) (by omega)
  unfold bp64 at h
  split at h
  · rw [bool_rec] at h
    split at h
    · rename_i hb
      have hb := Nat.le_of_ble_eq_true hb
      obtain rfl := Option.some.inj h
      refine ⟨_, rfl, ?_⟩
      simp only [vl]
      rw [w _ (by omega) (by have : Nat.add m n = m + n := rfl; omega)]
      rfl
    · exact bpV_spec h
  · rw [bool_rec] at h
    split at h
    · rename_i hb
      rw [bool_rec] at h
      split at h
      · rename_i hb2
        have hb := Nat.le_of_ble_eq_true hb
        have hb2 := Nat.le_of_ble_eq_true hb2
        obtain rfl := Option.some.inj h
        refine ⟨_, rfl, ?_⟩
        simp only [vl]
        rw [w _ (by omega) (by omega)]
        congr 2
        show ((m - n : Nat) : Int) = (m : Int) - (n : Int)
        omega
      · exact bpV_spec h
    · exact bpV_spec h
  · rw [bool_rec] at h
    split at h
    · rename_i hb
      have hb := Nat.le_of_ble_eq_true hb
      obtain rfl := Option.some.inj h
      refine ⟨_, rfl, ?_⟩
      simp only [vl]
      have e : (m : Int) * (n : Int) = ((m * n : Nat) : Int) := by simp
      have e2 : Nat.mul m n = m * n := rfl
      rw [e, w _ (by omega) (by omega)]
      rfl
    · exact bpV_spec h
  · obtain rfl := Option.some.inj h
    refine ⟨_, rfl, ?_⟩
    simp only [vl]
    congr 2
    rw [Bool.eq_iff_iff, decide_eq_true_iff]
    exact ⟨fun h => by have := Nat.le_of_ble_eq_true h; show (m : Int) < n; omega, fun h => Nat.ble_eq_true_of_le (by have : (m : Int) < n := h; omega)⟩
  · obtain rfl := Option.some.inj h
    refine ⟨_, rfl, ?_⟩
    simp only [vl]
    congr 2
    rw [Bool.eq_iff_iff, decide_eq_true_iff]
    exact ⟨fun h => by have := Nat.le_of_ble_eq_true h; show (m : Int) ≤ n; omega, fun h => Nat.ble_eq_true_of_le (by have : (m : Int) ≤ n := h; omega)⟩
  · obtain rfl := Option.some.inj h
    refine ⟨_, rfl, ?_⟩
    simp only [vl]
    congr 2
    rw [Bool.eq_iff_iff, decide_eq_true_iff]
    exact ⟨fun h => by have := Nat.le_of_ble_eq_true h; show (n : Int) < m; omega, fun h => Nat.ble_eq_true_of_le (by have : (n : Int) < m := h; omega)⟩
  · obtain rfl := Option.some.inj h
    refine ⟨_, rfl, ?_⟩
    simp only [vl]
    congr 2
    rw [Bool.eq_iff_iff, decide_eq_true_iff]
    exact ⟨fun h => by have := Nat.le_of_ble_eq_true h; show (n : Int) ≤ m; omega, fun h => Nat.ble_eq_true_of_le (by have : (n : Int) ≤ m := h; omega)⟩
  · obtain rfl := Option.some.inj h
    refine ⟨_, rfl, ?_⟩
    simp only [vl]
    congr 2
    rw [Bool.eq_iff_iff, beq_iff_eq]
    constructor
    · intro h; rw [Nat.eq_of_beq_eq_true h]
    · intro h
      have : m = n := by omega
      subst this; exact Nat.beq_refl _
  · obtain rfl := Option.some.inj h
    refine ⟨_, rfl, ?_⟩
    simp only [vl]
    congr 2
    have : Nat.beq m n = ((m : Int) == (n : Int)) := by
      rw [Bool.eq_iff_iff, beq_iff_eq]
      constructor
      · intro h; rw [Nat.eq_of_beq_eq_true h]
      · intro h
        have : m = n := by omega
        subst this; exact Nat.beq_refl _
    rw [this]
    rfl
  · exact bpV_spec h
def bpI (op : BinOp) (k : IntKind) (a : Int) (k' : IntKind) (b : Int) : Option X := match k, k', a, b with
  | .i64, .i64, .ofNat m, .ofNat n => bp64 op m n
  | k, k', a, b => bpV op (.int k a) (.int k' b)
theorem bpI_spec {op : BinOp} {k k' : IntKind} {a b : Int} {z : X} (h : bpI op k a k' b = some z) : ∃ r, bp op (.int k a) (.int k' b) = some r ∧ vl σ z = some r := by
  unfold bpI at h
  split at h
  · exact bp64_spec h
  · exact bpV_spec h
def bpX (op : BinOp) (x y : X) : Option X := match x, y with
  | .i k a, .i k' b => bpI op k a k' b
  | .s a, .s b => bpS op a b
  | _, _ => none
theorem bpX_spec {op : BinOp} {x y z : X} {u v : Value} (h : bpX op x y = some z) (hx : vl σ x = some u) (hy : vl σ y = some v) : ∃ r, bp op u v = some r ∧ vl σ z = some r := by
  unfold bpX at h
  split at h
  · simp only [vl, Option.some.injEq] at hx hy
    subst hx; subst hy
    exact bpI_spec h
  · simp only [vl, Option.some.injEq] at hx hy
    subst hx; subst hy
    exact bpS_spec h
  · cases h
/-! ### Operations that leave the world as it is -/
def evX (ρ : T X) : Operand → Option X
  | .tmp t => ρ.get t t
  | .const v => ofV v
  | .func f => some (.f (.func f) [] [])
  | _ => none
/-- The temporaries stand for what the frame holds. -/
def EnvR (σ : Sg) (ρ : T X) (r : Env) : Prop := ∀ t x, ρ.get t t = some x → vl σ x = some (r.get t)
theorem evX_spec {ρ : T X} {r : Env} (h : EnvR σ ρ r) {o : Operand} {x : X} (hx : evX ρ o = some x) : vl σ x = some (r.ev o) := by
  cases o with
  | tmp t => exact h t x hx
  | const v => exact vl_ofV hx
  | global g => cases hx
  | func f => obtain rfl := Option.some.inj hx; rfl
def isAg (P : Program) (t : TypeId) : Option Bool := match P.underlying t with
  | some (.struct _) | some (.array _ _) => some true
  | some _ => some false
  | none => none
def ldX (s : St) (b o : Nat) : Option X := match s.blk b with
  | some c => c.2[o]?
  | none => none
def ldAX (s : St) (b o n : Nat) : Option X := match s.blk b with
  | some c => match Nat.beq ((c.2.drop o).take n).length n with
    | true => some (.g ((c.2.drop o).take n))
    | false => none
  | none => none
theorem Own.cell {b e : Nat} {cs : List X} {rb off k : Nat} {pre vs sp post : List Value} (h : Own P base σ w b e cs rb off k pre vs sp post) {o : Nat} (ho : o < vs.length) : w.cell? ⟨rb, off + o, none⟩ = vs[o]? := by
  obtain ⟨fz, hh, _⟩ := h.heap
  have : w.cell? ⟨rb, off + o, none⟩ = (pre ++ vs ++ sp ++ post)[off + o]? := by simp [World.cell?, hh]
  have hp := h.pre_
  rw [this, List.append_assoc, List.append_assoc, List.getElem?_append_right (by omega), List.getElem?_append_left (by omega)]
  congr 1
  omega
theorem Own.any {b e : Nat} {cs : List X} {rb off k : Nat} {pre vs sp post : List Value} (h : Own P base σ w b e cs rb off k pre vs sp post) (o : Nat) : w.cell? ⟨rb, o, none⟩ = (pre ++ vs ++ sp ++ post)[o]? := by
  obtain ⟨fz, hh, _⟩ := h.heap
  simp [World.cell?, hh]
theorem Own.nofz {b e : Nat} {cs : List X} {rb off k : Nat} {pre vs sp post : List Value} (h : Own P base σ w b e cs rb off k pre vs sp post) {o : Nat} (ho : o < (pre ++ vs ++ sp ++ post).length) : w.frozen? ⟨rb, o, none⟩ = false := by
  obtain ⟨fz, hh, hz⟩ := h.heap
  have := hz o ho
  obtain ⟨lo, hi⟩ := fz
  simp only [World.frozen?, hh]
  simp only at this
  rw [Bool.and_eq_false_iff, decide_eq_false_iff_not, decide_eq_false_iff_not]
  omega
theorem ldX_spec (h : Mem P base σ s w) {b o : Nat} {x : X} (hx : ldX s b o = some x) : ∃ r v, σ b = some r ∧ vl σ x = some v ∧ w.cell? ⟨r.1, r.2.1 + o, none⟩ = some v := by
  unfold ldX at hx
  cases hb : s.blk b with
  | none => rw [hb] at hx; cases hx
  | some c =>
    rw [hb] at hx
    obtain ⟨e, cs⟩ := c
    obtain ⟨rb, off, k, pre, vs, sp, post, g⟩ := h.own b e cs hb
    obtain ⟨v, g1, g2⟩ := vls_get g.val hx
    exact ⟨_, v, g.sg_, g2, by rw [g.cell (List.getElem?_eq_some_iff.1 g1).1, g1]⟩
theorem ldAX_spec (h : Mem P base σ s w) {b o n : Nat} {x : X} (hx : ldAX s b o n = some x) : ∃ (r : Nat × Nat × Nat) (vs : List Value), σ b = some r ∧ vl σ x = some (.agg vs.toArray) ∧ vs.length = n ∧ ∀ i v, vs[i]? = some v → w.cell? ((⟨r.1, r.2.1 + o, none⟩ : Addr).add i) = some v := by
  unfold ldAX at hx
  cases hb : s.blk b with
  | none => rw [hb] at hx; cases hx
  | some c =>
    rw [hb] at hx
    obtain ⟨e, cs⟩ := c
    simp only at hx
    cases hl : Nat.beq ((cs.drop o).take n).length n with
    | false => rw [hl] at hx; cases hx
    | true =>
      rw [hl] at hx
      obtain rfl := Option.some.inj hx
      obtain ⟨rb, off, k, pre, vs, sp, post, g⟩ := h.own b e cs hb
      have h3 := vls_take n (vls_drop o g.val)
      have h5 := Nat.eq_of_beq_eq_true hl
      rw [vls_len h3] at h5
      refine ⟨_, _, g.sg_, by simp only [vl, h3], h5, fun i v hi => ?_⟩
      rw [add_off]
      have hi2 := hi
      rw [List.getElem?_take_of_lt (by have := (List.getElem?_eq_some_iff.1 hi).1; omega), List.getElem?_drop] at hi2
      rw [show off + o + i = off + (o + i) by omega, g.cell (List.getElem?_eq_some_iff.1 hi2).1, hi2]
end
end Go.Ev
