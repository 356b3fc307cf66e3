/- Chapter 46: whether two views agree, by both sides. -/
import Derived.Test.YtbhbdleffackaaaGreatDoorO46
set_option linter.unusedVariables false
set_option linter.unusedSimpArgs false
namespace Go.Proofs.YtbhbdleffackaaaGreatDoor
open Go Go.Vc
namespace A46
open S4r P46 O46
theorem exists_least {p : Nat → Prop} (h : ∃ n, p n) : ∃ n, p n ∧ ∀ m, p m → n ≤ m := by
  obtain ⟨n, hn⟩ := h
  induction n using Nat.strongRecOn with
  | _ n ih =>
    by_cases hm : ∃ m, m < n ∧ p m
    · obtain ⟨m, h1, h2⟩ := hm
      exact ih m h1 h2
    · exact ⟨n, hn, fun m h2 => Nat.le_of_not_lt fun h1 => hm ⟨m, h1, h2⟩⟩
open Classical in
theorem r_loopM {w : World} {a : Value} {body : (Nat → Value) → Cur 1 → Cur 1} (I : Nat → Value → World → Prop) (n0 : Nat) (h0 : I n0 a w)
    (h : ∀ jb n x w (k : Cur 1), I n x w → (∀ m x' w', m < n → I m x' w' → k x' w') → body jb k x w) : VLoop 1 [a] w body := by
  refine r_loop1 (fun x w' => ∃ n, I n x w') (fun x w' => if h : ∃ n, I n x w' then Classical.choose (exists_least h) else 0) ⟨n0, h0⟩ ?_
  intro jb x w1 hx
  have e1 := Classical.choose_spec (exists_least hx)
  refine h jb _ x w1 _ e1.1 fun m x' w' hm hI => ⟨⟨m, hI⟩, ?_⟩
  have hx' : ∃ n, I n x' w' := ⟨m, hI⟩
  have e2 := Classical.choose_spec (exists_least hx')
  show dite _ _ _ < dite _ _ _
  rw [dif_pos hx, dif_pos hx']
  exact Nat.lt_of_le_of_lt (e2.2 m hI) hm
attribute [local irreducible] Go.Vc.Nc Go.Vc.Ld Go.Vc.LdA Go.Vc.St Go.Vc.StA Go.Vc.Fo Go.Vc.Iaa Go.Vc.Ias Go.Vc.Ixs Go.Vc.Ixa Go.Vc.Fd Go.Vc.FdA Go.Vc.Bp Go.Vc.Bb Go.Vc.Bn Go.Vc.Up Go.Vc.Ci Go.Vc.Lns Go.Vc.Lnl Go.Vc.Ex Go.Vc.Sst Go.Vc.Ssl Go.Vc.New Go.Vc.Vif Go.Vc.VJoin Go.Vc.VLoop Go.Vc.KE Go.Vc.Dr Go.Vc.Rk Go.Vc.Cl Go.Vc.Cx Go.Vc.Inv Go.Vc.Be Go.Vc.Cv Go.Vc.Cw Go.Vc.Mf Go.Vc.Sl Go.Vc.Lk Go.Vc.Bd Go.Vc.Bs Go.Vc.Ms Go.Vc.Mm Go.Vc.Mu Go.Vc.Me Go.Vc.Es Go.Vc.Rg Go.Vc.Nx Go.Vc.Ta Go.Vc.Ap Go.Vc.Usd Go.Vc.Ust Go.Vc.Cp Go.Vc.Ln Go.Vc.Bc Go.Vc.Bmin Go.Vc.Bmax Go.Vc.Bdel Go.Vc.Bclr Go.Vc.Pk
abbrev pt (b : Nat) : Value := .pointer (some ⟨b, 0, none⟩)
def fldsOf (P : Program) (t : Nat) : List Field := match P.underlying t with
  | some (.struct fs) => fs.toList
  | _ => []
def opV (i : Nat) (u v : Value) : Operand → Value
  | .tmp n => if n = i then u else v
  | _ => v
variable {w : World} {L : List HProp} {K : Value → World → Prop}
/-- Two structs of four cells are compared. -/
theorem be4 {P : Program} {tS i j : Nat} {x0 x1 x2 x3 y0 y1 y2 y3 : Ev.X} {u v : Value} {b0 b1 b2 b3 : Bool} {k0 k1 k2 k3 : TypeDesc} {K : Value → Prop} (hij : j ≠ i)
    (hl : (fldsOf P tS).length = 4) (hu : P.underlying tS = some (.struct (fldsOf P tS).toArray)) (ho : (fldsOf P tS).map (·.offset) = [0, 1, 2, 3]) (hn : (fldsOf P tS).map (fun f => f.name == "_") = [false, false, false, false])
    (ht : (fldsOf P tS).map (fun f => P.underlying f.type) = [some k0, some k1, some k2, some k3])
    (hp : ∀ (k : TypeDesc) (l : List Ev.X) (n : Nat), k = k0 ∨ k = k1 ∨ k = k2 ∨ k = k3 → (match k with | .struct _ => false | .array _ _ => false | _ => true) = true)
    (hst : P.stoodInHeld tS = false) (hg : P.eqGuardType P.depth tS = false)
    (e0 : Ev.eq1 k0 x0 y0 = some b0) (e1 : Ev.eq1 k1 x1 y1 = some b1) (e2 : Ev.eq1 k2 x2 y2 = some b2) (e3 : Ev.eq1 k3 x3 y3 = some b3)
    (hx : Ev.vl (fun _ => none) (.g [x0, x1, x2, x3]) = some u) (hy : Ev.vl (fun _ => none) (.g [y0, y1, y2, y3]) = some v)
    (h : K (.bool (!(b0 && (b1 && (b2 && b3)))))) : Be P .neq tS (.tmp i) (.tmp j) u v w K := by
  obtain ⟨f0, f1, f2, f3, hfs⟩ : ∃ f0 f1 f2 f3, fldsOf P tS = [f0, f1, f2, f3] := by
    match hq : fldsOf P tS, hl with
    | [a, b, c, d], _ => exact ⟨a, b, c, d, rfl⟩
  rw [hfs] at ho hn ht hu
  simp only [List.map_cons, List.map_nil, List.cons.injEq, and_true] at ho hn ht
  obtain ⟨t0, t1, t2, t3⟩ := ht
  have hk : ∀ (k : TypeDesc) (f : Field), (k = k0 ∨ k = k1 ∨ k = k2 ∨ k = k3) → P.underlying f.type = some k → (∀ (l : List Ev.X) (n : Nat), Ev.partX P f.type l n = l[n]?) ∧ ∀ x y, Ev.eqT P 19 f.type x y = Ev.eq1 k x y := by
    intro k f hk hf
    have := hp k [] 0 hk
    constructor
    · intro l n
      unfold Ev.partX
      rw [hf]
      cases k <;> first | rfl | (simp at this)
    · intro x y
      rw [Ev.eqT, hf]
      cases k <;> first | rfl | (simp at this)
  obtain ⟨p0, q0⟩ := hk k0 f0 (.inl rfl) t0
  obtain ⟨p1, q1⟩ := hk k1 f1 (.inr (.inl rfl)) t1
  obtain ⟨p2, q2⟩ := hk k2 f2 (.inr (.inr (.inl rfl))) t2
  obtain ⟨p3, q3⟩ := hk k3 f3 (.inr (.inr (.inr rfl))) t3
  have he : Ev.eqT P 20 tS (.g [x0, x1, x2, x3]) (.g [y0, y1, y2, y3]) = some (b0 && (b1 && (b2 && b3))) := by
    rw [Ev.eqT, hu]
    simp only [hst]
    exact eq4 ho hn (fun l => ⟨p0 l 0, p1 l 1, p2 l 2, p3 l 3⟩) (by rw [q0]; exact e0) (by rw [q1]; exact e1) (by rw [q2]; exact e2) (by rw [q3]; exact e3)
  have hgd : Ev.gdE P tS (.tmp i) (.tmp j) (.g [x0, x1, x2, x3]) (.g [y0, y1, y2, y3]) = true := by
    simp only [Ev.gdE, hg]
  have hb : Ev.beX P .neq tS (.tmp i) (.tmp j) (some (.g [x0, x1, x2, x3])) (some (.g [y0, y1, y2, y3])) = some (.b (!(b0 && (b1 && (b2 && b3))))) := by
    unfold Ev.beX
    simp only [hgd, he]
  have hfa : opV i u v (.tmp i) = u := if_pos rfl
  have hfb : opV i u v (.tmp j) = v := if_neg hij
  have := Ev.beX_ok (P := P) (σ := fun _ => none) (t := tS) (A := .tmp i) (B := .tmp j) (f := opV i u v) (w := w) (K := K)
    hu (fun k h => by cases h) (fun h => by cases h) (fun h => by cases h) (fun e h => by cases h) hb (fun a ha => by cases ha; rw [hfa]; exact hx) (fun a ha => by cases ha; rw [hfb]; exact hy) fun v hv => by
      obtain rfl := Option.some.inj hv
      exact h
  rw [hfa, hfb] at this
  exact this
theorem kinds_ok {k0 k1 k2 k3 : TypeDesc} (h : ([k0, k1, k2, k3].all fun k => match k with | .struct _ => false | .array _ _ => false | _ => true) = true) :
    ∀ (k : TypeDesc) (l : List Ev.X) (n : Nat), k = k0 ∨ k = k1 ∨ k = k2 ∨ k = k3 → (match k with | .struct _ => false | .array _ _ => false | _ => true) = true := by
  intro k l n hk
  simp only [List.all_cons, List.all_nil, Bool.and_true, Bool.and_eq_true] at h
  rcases hk with rfl | rfl | rfl | rfl
  · exact h.1
  · exact h.2.1
  · exact h.2.2.1
  · exact h.2.2.2
theorem eqEn_b (a b : En) : ((a.id == b.id) && ((a.dn == b.dn) && (Ev.eqN (a.tx.data.toList.map (·.toNat)) (b.tx.data.toList.map (·.toNat)) && (a.er == b.er)))) = decide (a = b) := by
  rw [xs_eq, Bool.eq_iff_iff]
  cases a; cases b
  simp only [Bool.and_eq_true, beq_iff_eq, decide_eq_true_iff, En.mk.injEq]
theorem eqAn_b (a b : An) : ((a.ty == b.ty) && ((a.jb == b.jb) && (Ev.eqN (a.tx.data.toList.map (·.toNat)) (b.tx.data.toList.map (·.toNat)) && (a.er == b.er)))) = decide (a = b) := by
  rw [xs_eq, Bool.eq_iff_iff]
  cases a; cases b
  simp only [Bool.and_eq_true, beq_iff_eq, decide_eq_true_iff, An.mk.injEq]
abbrev tRE : Nat := 61
abbrev tRA : Nat := 64
abbrev tRV : Nat := 35
theorem beE {tS i j : Nat} {a b : En} {K : Value → Prop} (hij : j ≠ i) (ht : tS = tEn ∨ tS = tRE) (h : K (.bool (!decide (a = b)))) : Be Tryz.prog .neq tS (.tmp i) (.tmp j) (.agg (cellsEn a).toArray) (.agg (cellsEn b).toArray) w K := by
  rw [← eqEn_b] at h
  rcases ht with rfl | rfl
  · exact be4 (k0 := .int .i64) (k1 := .bool) (k2 := .string) (k3 := .int .i64) hij (by kernel_rfl) (by kernel_rfl) (by kernel_rfl) (by kernel_rfl) (by kernel_rfl) (kinds_ok rfl) (by kernel_rfl) (by kernel_rfl)
      (by simp only [Ev.eq1, decide_true]) rfl rfl (by simp only [Ev.eq1, decide_true]) (xEn_vl a) (xEn_vl b) h
  · exact be4 (k0 := .int .i64) (k1 := .bool) (k2 := .string) (k3 := .int .i64) hij (by kernel_rfl) (by kernel_rfl) (by kernel_rfl) (by kernel_rfl) (by kernel_rfl) (kinds_ok rfl) (by kernel_rfl) (by kernel_rfl)
      (by simp only [Ev.eq1, decide_true]) rfl rfl (by simp only [Ev.eq1, decide_true]) (xEn_vl a) (xEn_vl b) h
theorem beA {tS i j : Nat} {a b : An} {K : Value → Prop} (hij : j ≠ i) (ht : tS = tAn ∨ tS = tRA) (h : K (.bool (!decide (a = b)))) : Be Tryz.prog .neq tS (.tmp i) (.tmp j) (.agg (cellsAn a).toArray) (.agg (cellsAn b).toArray) w K := by
  rw [← eqAn_b] at h
  rcases ht with rfl | rfl
  · exact be4 (k0 := .int .i64) (k1 := .int .i64) (k2 := .string) (k3 := .int .i64) hij (by kernel_rfl) (by kernel_rfl) (by kernel_rfl) (by kernel_rfl) (by kernel_rfl) (kinds_ok rfl) (by kernel_rfl) (by kernel_rfl)
      (by simp only [Ev.eq1, decide_true]) (by simp only [Ev.eq1, decide_true]) rfl (by simp only [Ev.eq1, decide_true]) (xAn_vl a) (xAn_vl b) h
  · exact be4 (k0 := .int .i64) (k1 := .int .i64) (k2 := .string) (k3 := .int .i64) hij (by kernel_rfl) (by kernel_rfl) (by kernel_rfl) (by kernel_rfl) (by kernel_rfl) (kinds_ok rfl) (by kernel_rfl) (by kernel_rfl)
      (by simp only [Ev.eq1, decide_true]) (by simp only [Ev.eq1, decide_true]) rfl (by simp only [Ev.eq1, decide_true]) (xAn_vl a) (xAn_vl b) h
end A46
end Go.Proofs.YtbhbdleffackaaaGreatDoor
