/- Chapter 32: the document's answer on configurations, exactly. -/
import Derived.Test.YtbhbdleffackaaaGreatDoorJ31
set_option linter.unusedVariables false
set_option linter.unusedSimpArgs false
namespace Go.Proofs.YtbhbdleffackaaaGreatDoor
open Go Go.Vc
attribute [local irreducible] Go.Vc.Nc Go.Vc.Ld Go.Vc.LdA Go.Vc.St Go.Vc.StA Go.Vc.Fo Go.Vc.Iaa Go.Vc.Ias Go.Vc.Ixs Go.Vc.Ixa Go.Vc.Fd Go.Vc.FdA Go.Vc.Bp Go.Vc.Bb Go.Vc.Bn Go.Vc.Up Go.Vc.Ci Go.Vc.Lns Go.Vc.Lnl Go.Vc.Ex Go.Vc.Sst Go.Vc.Ssl Go.Vc.New Go.Vc.Vif Go.Vc.VJoin Go.Vc.VLoop Go.Vc.KE Go.Vc.Dr Go.Vc.Rk Go.Vc.Cl Go.Vc.Cx Go.Vc.Inv Go.Vc.Be Go.Vc.Cv Go.Vc.Cw Go.Vc.Mf Go.Vc.Sl Go.Vc.Lk Go.Vc.Bd Go.Vc.Bs Go.Vc.Ms Go.Vc.Mm Go.Vc.Mu Go.Vc.Me Go.Vc.Es Go.Vc.Rg Go.Vc.Nx Go.Vc.Ta Go.Vc.Ap Go.Vc.Usd Go.Vc.Ust Go.Vc.Cp Go.Vc.Ln Go.Vc.Bc Go.Vc.Bmin Go.Vc.Bmax Go.Vc.Bdel Go.Vc.Bclr Go.Vc.Pk
namespace J32
open Go.M31 J31
variable {w : World} {L : List HProp} {K : Value → World → Prop}
/-- A tenant, and what it holds in memory. -/
structure Tn where
  nm : ByteArray
  tk : ByteArray
  me : Int
  st : Int
  qu : Int
def cellsT (t : Tn) : List Value := [.string t.nm, .string t.tk, iv t.me, iv t.st, iv t.qu]
def TsIn (L : List HProp) (a : Option Addr) (ts : List Tn) : Prop :=
  ∀ w', Holds w' L → ∀ i t, ts[i]? = some t → ∃ p : Addr, a = some p ∧ ∀ j v, (cellsT t)[j]? = some v → w'.cell? ((p.add (i * 5)).add j) = some v
theorem TsIn.up {a : Option Addr} {ts : List Tn} {Q : HProp} (h : TsIn L a ts) : TsIn (Q :: L) a ts := fun w' H => h w' H.drop
theorem r_ldT {a : Option Addr} {ts : List Tn} {t : Tn} {i l c : Nat} {k : IntKind} {K : Value → Prop} (hT : TsIn L a ts) (H : Holds w L) (ht : ts[i]? = some t) (hi : i < l) (h : K (.agg (cellsT t).toArray)) :
    Ias 5 (.slice a l c) (.int k (i : Int)) fun y => LdA 5 y w K := by
  obtain ⟨p, rfl, hc⟩ := hT w H i t ht
  refine r_iasP hi ?_
  refine r_ldAP (cs := (cellsT t).toArray) rfl (fun j v hv => hc j v (by simpa using hv)) h
theorem cellsT_sg (t : Tn) : (cellsT t).all sg = true := rfl
def okT (t : Tn) : Prop := word t.nm.data.toList ∧ word t.tk.data.toList ∧ 0 ≤ t.me ∧ t.me ≤ 1099511627776 ∧ 1 ≤ t.st ∧ t.st ≤ 1099511627776 ∧ 1 ≤ t.qu ∧ t.qu ≤ 1099511627776
def szT (t : Tn) : Prop := t.nm.size ≤ 1000 ∧ t.tk.size ≤ 1000
def apartT (t u : Tn) : Prop := ¬ t.nm = u.nm ∧ ¬ t.tk = u.tk
def goodTs (ts : List Tn) : Prop := (∀ (i : Nat) t, ts[i]? = some t → okT t) ∧ (∀ (i : Nat) t (j : Nat) u, ts[i]? = some t → ts[j]? = some u → j < i → apartT u t) ∧ 0 < ts.length ∧ ts.length ≤ 16
/-- All is well with the first of them. -/
def okTo (ts : List Tn) (i : Nat) : Prop := (∀ q t, q < i → ts[q]? = some t → okT t) ∧ (∀ q t j u, q < i → ts[q]? = some t → ts[j]? = some u → j < q → apartT u t)
/-- Which error a table has. -/
def Chk (ts : List Tn) (e : Int) : Prop :=
  (ts.length = 0 ∧ e = 6) ∨ (16 < ts.length ∧ e = 2) ∨ (0 < ts.length ∧ ts.length ≤ 16 ∧ ∃ i t, ts[i]? = some t ∧ okTo ts i ∧ ((¬ okT t ∧ e = 1) ∨ (okT t ∧ (∃ j u, j < i ∧ ts[j]? = some u ∧ ¬ apartT u t) ∧ e = 8))) ∨ (goodTs ts ∧ e = 0)
theorem Chk_at {ts : List Tn} {i i' : Nat} {t t' : Tn} (h1 : ts[i]? = some t) (h2 : ts[i']? = some t') (h3 : okTo ts i') (hlt : i < i') (h4 : ¬ okT t ∨ ∃ j u, j < i ∧ ts[j]? = some u ∧ ¬ apartT u t) : False := by
  rcases h4 with h4 | ⟨j, u, hj, hu, ha⟩
  · exact h4 (h3.1 i t hlt h1)
  · exact ha (h3.2 i t j u hlt h1 hu hj)
theorem Chk_one {ts : List Tn} {e e' : Int} (h : Chk ts e) (h' : Chk ts e') : e = e' := by
  rcases h with ⟨a1, a2⟩ | ⟨a1, a2⟩ | ⟨a0, a1, i, t, a2, a3, a4⟩ | ⟨⟨g1, g2, g3, g4⟩, a2⟩ <;>
    rcases h' with ⟨b1, b2⟩ | ⟨b1, b2⟩ | ⟨b0, b1, i', t', b2, b3, b4⟩ | ⟨⟨k1, k2, k3, k4⟩, b2⟩ <;> try omega
  · have w1 : ¬ okT t ∨ ∃ j u, j < i ∧ ts[j]? = some u ∧ ¬ apartT u t := by
      rcases a4 with a4 | a4
      · exact .inl a4.1
      · exact .inr a4.2.1
    have w2 : ¬ okT t' ∨ ∃ j u, j < i' ∧ ts[j]? = some u ∧ ¬ apartT u t' := by
      rcases b4 with b4 | b4
      · exact .inl b4.1
      · exact .inr b4.2.1
    rcases Nat.lt_trichotomy i i' with hlt | rfl | hlt
    · exact (Chk_at a2 b2 b3 hlt w1).elim
    · rw [a2] at b2
      obtain rfl := Option.some.inj b2
      rcases a4 with a4 | a4 <;> rcases b4 with b4 | b4
      · omega
      · exact (a4.1 b4.1).elim
      · exact (b4.1 a4.1).elim
      · omega
    · exact (Chk_at b2 a2 a3 hlt w2).elim
  · rcases a4 with a4 | ⟨a4, ⟨j, u, hj, hu, ha⟩, _⟩
    · exact (a4.1 (k1 i t a2)).elim
    · exact (ha (k2 i t j u a2 hu hj)).elim
  · rcases b4 with b4 | ⟨b4, ⟨j, u, hj, hu, ha⟩, _⟩
    · exact (b4.1 (g1 i' t' b2)).elim
    · exact (ha (g2 i' t' j u b2 hu hj)).elim
structure Cn where
  un : Int
  wi : Int
  bu : Int
  sp : Int
  jo : Int
  ch : Int
def cellsC (a : Option Addr) (l c : Nat) (n : Cn) : List Value := [.slice a l c, iv n.un, iv n.wi, iv n.bu, iv n.sp, iv n.jo, iv n.ch]
def okC (n : Cn) : Prop := 24 ≤ n.un ∧ n.un ≤ 100000 ∧ 64 ≤ n.wi ∧ n.wi ≤ 1048576 ∧ 1 ≤ n.bu ∧ n.bu ≤ 1099511627776 ∧ 1 ≤ n.sp ∧ n.sp ≤ 1048576 ∧ 1 ≤ n.jo ∧ n.jo ≤ 64 ∧ 1 ≤ n.ch ∧ n.ch ≤ 4096
/-- Which error a configuration has. -/
def ChkC (ts : List Tn) (n : Cn) (e : Int) : Prop := (Chk ts e ∧ e ≠ 0) ∨ (Chk ts 0 ∧ ¬ okC n ∧ e = 1) ∨ (Chk ts 0 ∧ okC n ∧ e = 0)
theorem ChkC_one {ts : List Tn} {n : Cn} {e e' : Int} (h : ChkC ts n e) (h' : ChkC ts n e') : e = e' := by
  rcases h with ⟨a1, a2⟩ | ⟨a1, a2, a3⟩ | ⟨a1, a2, a3⟩ <;> rcases h' with ⟨b1, b2⟩ | ⟨b1, b2, b3⟩ | ⟨b1, b2, b3⟩
  · exact Chk_one a1 b1
  · exact (a2 (Chk_one a1 b1)).elim
  · exact (a2 (Chk_one a1 b1)).elim
  · exact (b2 (Chk_one b1 a1)).elim
  · omega
  · exact (a2 b2).elim
  · exact (b2 (Chk_one b1 a1)).elim
  · exact (b2 a2).elim
  · omega
theorem ChkC_zero {ts : List Tn} {n : Cn} (h : ChkC ts n 0) : goodTs ts ∧ okC n := by
  rcases h with ⟨a1, a2⟩ | ⟨a1, a2, a3⟩ | ⟨a1, a2, a3⟩
  · exact absurd rfl a2
  · cases a3
  · rcases a1 with ⟨_, b2⟩ | ⟨_, b2⟩ | ⟨_, _, i, t, _, _, b4⟩ | ⟨g, _⟩
    · cases b2
    · cases b2
    · rcases b4 with ⟨_, b4⟩ | ⟨_, _, b4⟩ <;> cases b4
    · exact ⟨g, a2⟩
end J32
end Go.Proofs.YtbhbdleffackaaaGreatDoor
