/- Openers: what views and answers hold in memory. -/
import Derived.Test.YtbhbdleffackaaaGreatDoorP46
import Derived.Lib.LaidU8T
import Derived.LaidMore
import Derived.Deep.Slices
import Derived.WideShapes
set_option maxRecDepth 1000000
set_option linter.unusedVariables false
set_option linter.unusedSimpArgs false
namespace Go.Proofs.YtbhbdleffackaaaGreatDoor
open Go Go.Vc
attribute [local irreducible] Go.Vc.Nc Go.Vc.Ld Go.Vc.LdA Go.Vc.St Go.Vc.StA Go.Vc.Fo Go.Vc.Iaa Go.Vc.Ias Go.Vc.Ixs Go.Vc.Ixa Go.Vc.Fd Go.Vc.FdA Go.Vc.Bp Go.Vc.Bb Go.Vc.Bn Go.Vc.Up Go.Vc.Ci Go.Vc.Lns Go.Vc.Lnl Go.Vc.Ex Go.Vc.Sst Go.Vc.Ssl Go.Vc.New Go.Vc.Vif Go.Vc.VJoin Go.Vc.VLoop Go.Vc.KE Go.Vc.Dr Go.Vc.Rk Go.Vc.Cl Go.Vc.Cx Go.Vc.Inv Go.Vc.Be Go.Vc.Cv Go.Vc.Cw Go.Vc.Mf Go.Vc.Sl Go.Vc.Lk Go.Vc.Bd Go.Vc.Bs Go.Vc.Ms Go.Vc.Mm Go.Vc.Mu Go.Vc.Me Go.Vc.Es Go.Vc.Rg Go.Vc.Nx Go.Vc.Ta Go.Vc.Ap Go.Vc.Usd Go.Vc.Ust Go.Vc.Cp Go.Vc.Ln Go.Vc.Bc Go.Vc.Bmin Go.Vc.Bmax Go.Vc.Bdel Go.Vc.Bclr Go.Vc.Pk
namespace O46
open S4r P46
variable {w : World} {L : List HProp} {K : Value → World → Prop}
theorem seg_of {H : Type} {enc : TypeId × Value → H} {P : Program} {w : World} {base : Nat} {spare : Nat → Bool} {held : Bool} {t : TypeId} {fs : Array Field} {fuel : Nat} {cs : List Value} {x : DataW H × List MemPlace}
    (ht : P.underlying t = some (.struct fs)) (h : DataW.trod enc P w base spare held fuel t cs = some x) (i : Nat) (f : Field) (hi : fs[i]? = some f) :
    ∃ y n, DataW.trod enc P w base spare held n f.type ((cs.drop f.offset).take (P.cellsOf f.type)) = some y := by
  obtain ⟨xs, n, _, _, hlen, hxl, hf⟩ := DataW.trod_struct ht h
  have h1 := hf i f hi
  have hlt : i < xs.length := by
    rw [hxl]; exact (Array.getElem?_eq_some_iff.1 hi).1
  rw [List.getElem?_eq_getElem hlt] at h1
  exact ⟨_, _, h1⟩
theorem cell_of {H : Type} {enc : TypeId × Value → H} {P : Program} {w : World} {base : Nat} {spare : Nat → Bool} {held : Bool} {t : TypeId} {fs : Array Field} {fuel : Nat} {cs : List Value} {x : DataW H × List MemPlace}
    (ht : P.underlying t = some (.struct fs)) (h : DataW.trod enc P w base spare held fuel t cs = some x) (i : Nat) (f : Field) (hi : fs[i]? = some f) (o : Nat) (ho : f.offset = o) (hc : P.cellsOf f.type = 1) (hl : o < P.cellsOf t) :
    ∃ c y n, cs[o]? = some c ∧ DataW.trod enc P w base spare held n f.type [c] = some y := by
  obtain ⟨xs, n, _, _, hlen, hxl, hf⟩ := DataW.trod_struct ht h
  obtain ⟨y, n', h1⟩ := seg_of ht h i f hi
  rw [ho, hc] at h1
  have hcl : o < cs.length := by omega
  refine ⟨cs[o], y, n', List.getElem?_eq_getElem hcl, ?_⟩
  rw [← h1]
  congr 1
  rw [List.drop_eq_getElem_cons hcl]
  rfl
theorem slice_open {α : Type} [Inhabited α] (F : α → List Value) (k : Nat) {H : Type} {enc : TypeId × Value → H} {P : Program} {W : World} {tS tE : TypeId} (hu : P.underlying tS = some (.slice tE)) (hk : P.cellsOf tE = k) (hF : ∀ x, (F x).length = k)
    (el : ∀ {spare : Nat → Bool} {held : Bool} {fuel : Nat} {cs : List Value} {x : DataW H × List MemPlace}, DataW.trod enc P W 0 spare held fuel tE cs = some x → ∃ a, cs = F a)
    {n0 : Nat} {c0 : Value} {y : DataW H × List MemPlace} (h0 : DataW.trod enc P W 0 (fun _ => true) true n0 tS [c0] = some y) :
    ∃ (a : Option Addr) (xs : List α) (c : Nat), c0 = .slice a xs.length c ∧ xs.length ≤ c ∧ InG F k [whole W] a xs := by
  rcases Deep.open_slice hu h0 with ⟨g0, _⟩ | ⟨a, len, cap, m, n, D, Pl, g0, _, hlc, _, hm, _, hall⟩
  · simp only [List.cons.injEq, and_true] at g0
    refine ⟨none, [], 0, g0, Nat.le_refl _, ?_⟩
    intro w' H' i t hi
    simp at hi
  · simp only [List.cons.injEq, and_true] at g0
    have hlm : len ≤ m := by rw [hm]; split <;> omega
    have each : ∀ i, i < m → ∃ t : α, ∀ j v, (F t)[j]? = some v → W.cell? ((a.add (i * k)).add j) = some v := by
      intro i hi
      obtain ⟨cs', hc1, hc2⟩ := hall i hi
      obtain ⟨t, rfl⟩ := el hc2
      rw [hk] at hc1
      obtain ⟨_, _, hc3⟩ := World.cells?_some hc1
      refine ⟨t, fun j v hj => ?_⟩
      have hj5 : j < k := by have := (List.getElem?_eq_some_iff.1 hj).1; rw [hF] at this; exact this
      rw [hc3 j hj5, hj]
    obtain ⟨f, hf⟩ := Deep.choose_lt each
    refine ⟨some a, (List.range len).map f, cap, by rw [g0]; simp, by simpa using hlc, ?_⟩
    intro w' H' i t hi
    rw [List.getElem?_map] at hi
    by_cases hil : i < len
    · rw [List.getElem?_range hil] at hi
      simp only [Option.map_some, Option.some.injEq] at hi
      subst hi
      refine ⟨a, rfl, fun j v hj => ?_⟩
      have h7 := hf i (by omega) j v hj
      obtain ⟨g, hg, hgs, _⟩ := H'
      unfold World.cell? at h7 ⊢
      cases hb : W.heap[((a.add (i * k)).add j).block]? with
      | none => rw [hb] at h7; cases h7
      | some o =>
        rw [hb] at h7
        have := hgs _ _ (hg _ _ hb)
        rw [show w'.heap[((a.add (i * k)).add j).block]? = some o from this]
        exact h7
    · rw [List.getElem?_eq_none (by simpa using hil)] at hi
      cases hi
theorem list4 {α : Type} {l : List α} {a b c d : α} (hl : l.length = 4) (h0 : l[0]? = some a) (h1 : l[1]? = some b) (h2 : l[2]? = some c) (h3 : l[3]? = some d) : l = [a, b, c, d] := by
  match l, hl with
  | [x0, x1, x2, x3], _ => simp at h0 h1 h2 h3; simp [h0, h1, h2, h3]
theorem list2 {α : Type} {l : List α} {a b : α} (hl : l.length = 2) (h0 : l[0]? = some a) (h1 : l[1]? = some b) : l = [a, b] := by
  match l, hl with
  | [x0, x1], _ => simp at h0 h1; simp [h0, h1]
section
variable {H : Type} {enc : TypeId × Value → H} {W : World} {base : Nat} {spare : Nat → Bool} {held : Bool} {fuel : Nat} {cs : List Value} {x : DataW H × List MemPlace}
abbrev tEn : Nat := 56
abbrev tAn : Nat := 28
abbrev tVi : Nat := 25
theorem end_open (h : DataW.trod enc Tryz.prog W base spare held fuel tEn cs = some x) : ∃ e : En, cs = cellsEn e := by
  have hu := Tryz.underlying56
  obtain ⟨_, _, _, _, hlen, _, _⟩ := DataW.trod_struct hu h
  obtain ⟨c0, y0, n0, e0, h0⟩ := cell_of hu h 0 _ rfl 0 rfl (by kernel_rfl) (of_decide_eq_true (by kernel_rfl))
  obtain ⟨c1, y1, n1, e1, h1⟩ := cell_of hu h 1 _ rfl 1 rfl (by kernel_rfl) (of_decide_eq_true (by kernel_rfl))
  obtain ⟨c2, y2, n2, e2, h2⟩ := cell_of hu h 2 _ rfl 2 rfl (by kernel_rfl) (of_decide_eq_true (by kernel_rfl))
  obtain ⟨c3, y3, n3, e3, h3⟩ := cell_of hu h 3 _ rfl 3 rfl (by kernel_rfl) (of_decide_eq_true (by kernel_rfl))
  obtain ⟨z0, g0, _⟩ := DataW.trod_int Tryz.underlying3 h0
  obtain ⟨z1, g1, _⟩ := DataW.trod_bool Tryz.underlying4 h1
  obtain ⟨z2, g2, _⟩ := DataW.trod_string Tryz.underlying9 h2
  obtain ⟨z3, g3, _⟩ := DataW.trod_int Tryz.underlying26 h3
  simp only [List.cons.injEq, and_true] at g0 g1 g2 g3
  subst g0 g1 g2 g3
  exact ⟨⟨z0, z1, z2, z3⟩, list4 (hlen.trans (by kernel_rfl)) e0 e1 e2 e3⟩
theorem ans_open (h : DataW.trod enc Tryz.prog W base spare held fuel tAn cs = some x) : ∃ e : An, cs = cellsAn e := by
  have hu := Tryz.underlying28
  obtain ⟨_, _, _, _, hlen, _, _⟩ := DataW.trod_struct hu h
  obtain ⟨c0, y0, n0, e0, h0⟩ := cell_of hu h 0 _ rfl 0 rfl (by kernel_rfl) (of_decide_eq_true (by kernel_rfl))
  obtain ⟨c1, y1, n1, e1, h1⟩ := cell_of hu h 1 _ rfl 1 rfl (by kernel_rfl) (of_decide_eq_true (by kernel_rfl))
  obtain ⟨c2, y2, n2, e2, h2⟩ := cell_of hu h 2 _ rfl 2 rfl (by kernel_rfl) (of_decide_eq_true (by kernel_rfl))
  obtain ⟨c3, y3, n3, e3, h3⟩ := cell_of hu h 3 _ rfl 3 rfl (by kernel_rfl) (of_decide_eq_true (by kernel_rfl))
  obtain ⟨z0, g0, _⟩ := DataW.trod_int Tryz.underlying3 h0
  obtain ⟨z1, g1, _⟩ := DataW.trod_int Tryz.underlying3 h1
  obtain ⟨z2, g2, _⟩ := DataW.trod_string Tryz.underlying9 h2
  obtain ⟨z3, g3, _⟩ := DataW.trod_int Tryz.underlying26 h3
  simp only [List.cons.injEq, and_true] at g0 g1 g2 g3
  subst g0 g1 g2 g3
  exact ⟨⟨z0, z1, z2, z3⟩, list4 (hlen.trans (by kernel_rfl)) e0 e1 e2 e3⟩
end
instance : Inhabited En := ⟨⟨0, false, ⟨#[]⟩, 0⟩⟩
instance : Inhabited An := ⟨⟨0, 0, ⟨#[]⟩, 0⟩⟩
def cellsV (a : Option Addr) (l c : Nat) (b : Option Addr) (l2 c2 : Nat) : List Value := [.slice a l c, .slice b l2 c2]
abbrev EnIn := InG cellsEn 4
abbrev AnIn := InG cellsAn 4
theorem view_open {H : Type} {enc : TypeId × Value → H} {W : World} {base : Nat} {v : Value} {d : DataW H} {ps : List MemPlace} (hval : Value.okWide Tryz.prog W .any base tVi v)
    (h : DataW.Trod enc Tryz.prog W 0 (fun _ => true) true tVi v d ps) : ∃ (a : Option Addr) (xs : List En) (c : Nat) (b : Option Addr) (ys : List An) (c2 : Nat), v = .agg (cellsV a xs.length c b ys.length c2).toArray ∧ (EnIn [whole W] a xs ∧ xs.length ≤ c) ∧ AnIn [whole W] b ys ∧ ys.length ≤ c2 := by
  have hu := Tryz.underlying25
  obtain ⟨⟨cs⟩, rfl, hsz⟩ := WideShapes.okWide_struct hu hval
  obtain ⟨fuel, h⟩ := h
  replace h : DataW.trod enc Tryz.prog W 0 (fun _ => true) true fuel tVi cs = some (d, ps) := h
  obtain ⟨_, _, _, _, hlen, _, _⟩ := DataW.trod_struct hu h
  obtain ⟨c0, y0, n0, e0, h0⟩ := cell_of hu h 0 _ rfl 0 rfl (by kernel_rfl) (of_decide_eq_true (by kernel_rfl))
  obtain ⟨c1, y1, n1, e1, h1⟩ := cell_of hu h 1 _ rfl 1 rfl (by kernel_rfl) (of_decide_eq_true (by kernel_rfl))
  obtain ⟨a, xs, q, g0, hq, hin⟩ := slice_open cellsEn 4 Tryz.underlying22 (by kernel_rfl) (fun _ => rfl) (fun h => end_open h) h0
  obtain ⟨b, ys, q2, g1, hq2, hin2⟩ := slice_open cellsAn 4 Tryz.underlying23 (by kernel_rfl) (fun _ => rfl) (fun h => ans_open h) h1
  subst g0 g1
  exact ⟨a, xs, q, b, ys, q2, by rw [list2 (hlen.trans (by kernel_rfl)) e0 e1]; rfl, ⟨hin, hq⟩, hin2, hq2⟩
theorem ans_open2 {H : Type} {enc : TypeId × Value → H} {W : World} {base : Nat} {v : Value} {d : DataW H} {ps : List MemPlace} (hval : Value.okWide Tryz.prog W .any base tAn v)
    (h : DataW.Trod enc Tryz.prog W 0 (fun _ => true) true tAn v d ps) : ∃ m : An, v = .agg (cellsAn m).toArray ∧ True := by
  have hu := Tryz.underlying28
  obtain ⟨⟨cs⟩, rfl, hsz⟩ := WideShapes.okWide_struct hu hval
  obtain ⟨fuel, h⟩ := h
  replace h : DataW.trod enc Tryz.prog W 0 (fun _ => true) true fuel tAn cs = some (d, ps) := h
  obtain ⟨m, rfl⟩ := ans_open h
  exact ⟨m, rfl, trivial⟩
end O46
end Go.Proofs.YtbhbdleffackaaaGreatDoor
