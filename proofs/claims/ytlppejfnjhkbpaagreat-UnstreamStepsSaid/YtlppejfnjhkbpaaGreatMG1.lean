/- Several texts in one: Mk, Q20, Q21, Q22, Q23, M18, E1, E2, N18, U05, B20, B21, W02, M03, M20, Q24, Q25, M3d, U22. -/
import Derived.Test.YtlppejfnjhkbpaaGreatMG0
import Derived.WalkKit
import Derived.Test.YtlppejfnjhkbpaaGreatFm
set_option linter.unusedVariables false
set_option linter.unusedSimpArgs false
namespace Go.Mk
open Go.M01 Go.Mb Go.Mp Go.M10 Go.Mc Go.Mz
structure RS where
 code : CS
 zeros : ZS
 list : List UInt8
 due : Nat
 place : Nat
structure BS where
 room : Nat
 head : Bool
 sum : Nat
 frm : Nat
 row : Option RS
 last : List UInt8
 done : Bool
def b0 (room : Nat) : BS := ⟨room, false, 0, 0, none, [], false⟩
def rowOf (T : Nat → Bool) (room : Nat) : RS := ⟨c0 ((listed T).length + 2), z0 (listed T).length room, listed T, 0, 0⟩
def RS.waits (r : RS) : Bool := decide (0 < r.due) || decide (0 < r.place)
def RS.at_ (r : RS) : Nat := if 0 < r.due then 0 else r.place
def RS.next (r : RS) : RS := ⟨r.code, r.zeros, frontB r.list r.at_, r.due - 1, if 0 < r.due then r.place else 0⟩
def RS.byte (r : RS) : UInt8 := r.list.getD r.at_ 0
def bend (b : BS) (k : Nat) : Res BS :=
 match b.row with
 | none => .ok b k
 | some r => if r.code.done = false ∨ r.waits = true then .ok b k
   else if b.last.length ≤ b.frm then .bad 23
   else .ok ⟨b.room, b.head, b.sum, b.frm, b.row, b.last, true⟩ k
def btold (b : BS) (r : RS) (c : CS) (s k : Nat) : Res BS :=
 match zput r.zeros s with
 | none => .bad 25
 | some (z, d, p) => bend ⟨b.room, b.head, b.sum, b.frm, some ⟨c, z, r.list, d, p.toNat⟩, b.last, b.done⟩ k
def bsym (b : BS) (r : RS) : Res (CS × Option Nat) → Res BS
 | .short => .short
 | .bad e => .bad e
 | .ok (c, none) k => bend ⟨b.room, b.head, b.sum, b.frm, some ⟨c, r.zeros, r.list, r.due, r.place⟩, b.last, b.done⟩ k
 | .ok (c, some s) k => btold b r c s k
def buse (b : BS) : Res (Nat → Bool) → Res BS
 | .short => .short
 | .bad e => .bad e
 | .ok T k => bend ⟨b.room, b.head, b.sum, b.frm, some (rowOf T b.room), b.last, b.done⟩ k
def bhead (b : BS) (l : List Bool) : Res BS :=
 if l.length < 57 then .short
 else if valB ((l.drop 32).take 1) = 1 then .bad 25
 else bend ⟨b.room, true, valB (l.take 32), valB ((l.drop 33).take 24), b.row, b.last, b.done⟩ 57
def bnext (b : BS) (r : RS) : Res BS := bend ⟨b.room, b.head, b.sum, b.frm, some r.next, b.last ++ [r.byte], b.done⟩ 0
def bstep (b : BS) (l : List Bool) : Res BS :=
 if b.head = false then bhead b l
 else match b.row with
   | none => buse b (uread l)
   | some r => if r.waits = true then bnext b r else bsym b r (cstep r.code l)
structure RS.Ok (r : RS) : Prop where
 code : r.code.Ok
 zeros : r.zeros.Ok
 zd : r.zeros.done = r.code.done
 size : r.code.size = r.zeros.n + 2
 list : r.list.length = r.zeros.n
 place : r.place < r.zeros.n
structure BS.Ok (b : BS) : Prop where
 room : b.room ≤ 900000
 sum : b.sum < 4294967296
 frm : b.frm < 16777216
 none_ : b.row = none → b.last = [] ∧ b.done = false
 some_ : ∀ r, b.row = some r → b.head = true ∧ r.Ok ∧ r.zeros.most = b.room ∧ b.last.length + r.due + (if 0 < r.place then 1 else 0) = r.zeros.told ∧ (b.done = false → r.code.done = true → r.waits = true)
theorem b0_ok {n : Nat} (h : n ≤ 900000) : (b0 n).Ok := ⟨h, by simp [b0], by simp [b0], fun _ => ⟨rfl, rfl⟩, fun r h => by simp [b0] at h⟩
theorem rowOf_ok {T : Nat → Bool} {room : Nat} (hT : listed T ≠ []) (hr : room ≤ 900000) : (rowOf T room).Ok := by
 have h1 := listed_len T; have h2 : 0 < (listed T).length := List.length_pos_iff.2 hT; exact ⟨c0_ok (by omega) (by omega), z0_ok (by omega) h1 hr, rfl, rfl, rfl, h2⟩
structure Pre (b : BS) : Prop where
 room : b.room ≤ 900000
 sum : b.sum < 4294967296
 frm : b.frm < 16777216
 none_ : b.row = none → b.last = []
 some_ : ∀ r, b.row = some r → b.head = true ∧ r.Ok ∧ r.zeros.most = b.room ∧ b.last.length + r.due + (if 0 < r.place then 1 else 0) = r.zeros.told
 done : b.done = false
theorem bend_ok {b b' : BS} {k k' : Nat} (hp : Pre b) (h : bend b k = .ok b' k') : b'.Ok ∧ k' = k := by
 unfold bend at h; split at h
 · rename_i hr; cases h; exact ⟨⟨hp.room, hp.sum, hp.frm, fun h => ⟨hp.none_ h, hp.done⟩, fun r h => (by rw [hr] at h; cases h)⟩, rfl⟩
 · rename_i r hr; have hs := hp.some_ r hr; split at h
   · rename_i hc; cases h; refine ⟨⟨hp.room, hp.sum, hp.frm, fun h => (by rw [hr] at h; cases h), fun r' h => ?_⟩, rfl⟩; rw [hr] at h; cases h; refine ⟨hs.1, hs.2.1, hs.2.2.1, hs.2.2.2, fun _ h2 => ?_⟩; rcases hc with h3 | h3
     · rw [h2] at h3; cases h3
     · exact h3
   · split at h
     · cases h
     · cases h; refine ⟨⟨hp.room, hp.sum, hp.frm, fun h => (by simp only [hr] at h; cases h), fun r' h => ?_⟩, rfl⟩; simp only [hr] at h; cases h; exact ⟨hs.1, hs.2.1, hs.2.2.1, hs.2.2.2, fun h => by cases h⟩
theorem next_pre {b : BS} {r : RS} (hb : b.Ok) (hd : b.done = false) (hr : b.row = some r) (hw : r.waits = true) : Pre ⟨b.room, b.head, b.sum, b.frm, some r.next, b.last ++ [r.byte], b.done⟩ := by
 obtain ⟨h1, h2, h3, h4, h5⟩ := hb.some_ r hr; refine ⟨hb.room, hb.sum, hb.frm, fun h => (by cases h), fun r' h => ?_, hd⟩; cases h; have hp := h2.place
 have hat : r.at_ < r.list.length := by
   have := h2.list; unfold RS.at_
   split <;> omega
 refine ⟨h1, ⟨h2.code, h2.zeros, h2.zd, h2.size, by rw [RS.next, frontB_len hat]; exact h2.list, ?_⟩, h3, ?_⟩
 · simp only [RS.next]; split <;> omega
 · unfold RS.waits at hw; simp only [Bool.or_eq_true, decide_eq_true_iff] at hw; show (b.last ++ [r.byte]).length + (r.due - 1) + (if 0 < r.next.place then 1 else 0) = r.zeros.told; rw [List.length_append, List.length_singleton]
   by_cases h0 : 0 < r.due
   · have e : r.next.place = r.place := by simp [RS.next, h0]
     simp only [e]; omega
   · have hpl : 0 < r.place := by omega
     have e : r.next.place = 0 := by simp [RS.next, h0]
     rw [if_pos hpl] at h4; simp only [e, Nat.lt_irrefl, if_false]; omega
theorem told_pre {b : BS} {r : RS} {c : CS} {z : ZS} {s d k : Nat} {p : Int} {l : List Bool} (hb : b.Ok) (hd : b.done = false) (hr : b.row = some r) (hw : r.waits = false)
   (hc : cstep r.code l = .ok (c, some s) k) (hz : zput r.zeros s = some (z, d, p)) : Pre ⟨b.room, b.head, b.sum, b.frm, some ⟨c, z, r.list, d, p.toNat⟩, b.last, b.done⟩ := by
 obtain ⟨h1, h2, h3, h4, h5⟩ := hb.some_ r hr; have hco := cstep_ok hc h2.code; have hzo := zput_ok h2.zeros hz; have hsz := h2.size; have hs := hco.2.2 s rfl
 have hcd : c.done = decide (s = r.code.size - 1) := by
   unfold cstep at hc; split at hc
   · unfold withPicks at hc
     split at hc <;> cases hc
   · split at hc
     · unfold withLens at hc
       repeat' split at hc
       all_goals cases hc
     · split at hc
       · cases hc
       · unfold withSymbol at hc; split at hc
         · cases hc
         · cases hc; rfl
 unfold RS.waits at hw; simp only [Bool.or_eq_false_iff, decide_eq_false_iff_not] at hw; rw [if_neg hw.2] at h4; refine ⟨hb.room, hb.sum, hb.frm, fun h => (by cases h), fun r' h => ?_, hd⟩; cases h; unfold zput at hz; have hn1 := h2.zeros.n1; split at hz
 · rename_i hc1; split at hz
   · cases hz
   · cases hz; refine ⟨h1, ⟨hco.1, hzo, ?_, by rw [hco.2.1]; exact hsz, h2.list, by simp only; omega⟩, h3, ?_⟩
     · rw [hcd]; simp only; exact (decide_eq_false (by omega)).symm
     · simp only [show ((-1 : Int)).toNat = 0 from rfl, Nat.lt_irrefl, if_false]; omega
 · rename_i hc1; split at hz
   · rename_i hc2; cases hz; refine ⟨h1, ⟨hco.1, hzo, ?_, by rw [hco.2.1]; exact hsz, h2.list, by simp only; omega⟩, h3, ?_⟩
     · rw [hcd]; simp only; exact (decide_eq_true (by omega)).symm
     · simp only [show ((-1 : Int)).toNat = 0 from rfl, Nat.lt_irrefl, if_false]; omega
   · rename_i hc2; split at hz
     · cases hz
     · cases hz; refine ⟨h1, ⟨hco.1, hzo, ?_, by rw [hco.2.1]; exact hsz, h2.list, by simp only; omega⟩, h3, ?_⟩
       · rw [hcd]; simp only; exact (decide_eq_false (by omega)).symm
       · simp only; rw [if_pos (by omega)]; omega
theorem code_none {c c' : CS} {l : List Bool} {k : Nat} (h : cstep c l = .ok (c', none) k) : c'.done = c.done := by
 unfold cstep at h; split at h
 · unfold withPicks at h
   split at h <;> cases h
   rfl
 · split at h
   · unfold withLens at h
     repeat' split at h
     all_goals cases h
     all_goals rfl
   · split at h
     · cases h
     · unfold withSymbol at h
       split at h <;> cases h
theorem sym_pre {b : BS} {r : RS} {c : CS} {k : Nat} {l : List Bool} (hb : b.Ok) (hd : b.done = false) (hr : b.row = some r) (hc : cstep r.code l = .ok (c, none) k) :
   Pre ⟨b.room, b.head, b.sum, b.frm, some ⟨c, r.zeros, r.list, r.due, r.place⟩, b.last, b.done⟩ := by
 obtain ⟨h1, h2, h3, h4, h5⟩ := hb.some_ r hr; have hco := cstep_ok hc h2.code; refine ⟨hb.room, hb.sum, hb.frm, fun h => (by cases h), fun r' h => ?_, hd⟩; cases h; exact ⟨h1, ⟨hco.1, h2.zeros, by rw [code_none hc]; exact h2.zd, by rw [hco.2.1]; exact h2.size, h2.list, h2.place⟩, h3, h4⟩
theorem use_pre {b : BS} {T : Nat → Bool} (hb : b.Ok) (hh : b.head = true) (hr : b.row = none) (hT : listed T ≠ []) : Pre ⟨b.room, b.head, b.sum, b.frm, some (rowOf T b.room), b.last, b.done⟩ := by
 have hn := hb.none_ hr; refine ⟨hb.room, hb.sum, hb.frm, fun h => (by cases h), fun r' h => ?_, hn.2⟩; cases h; exact ⟨hh, rowOf_ok hT hb.room, rfl, by rw [hn.1]; rfl⟩
theorem head_pre {b : BS} {s f : Nat} (hb : b.Ok) (hh : b.head = false) (hs : s < 4294967296) (hf : f < 16777216) : b.row = none ∧ Pre ⟨b.room, true, s, f, b.row, b.last, b.done⟩ := by
 have hr : b.row = none := by
   cases hr : b.row with
   | none => rfl
   | some r => have := (hb.some_ r hr).1; rw [hh] at this; cases this
 have hn := hb.none_ hr; exact ⟨hr, hb.room, hs, hf, fun _ => hn.1, fun r h => (by simp only at h; rw [hr] at h; cases h), hn.2⟩
theorem waits_or {b : BS} {r : RS} (hb : b.Ok) (hd : b.done = false) (hr : b.row = some r) (hw : r.waits = false) : r.code.done = false := by
 cases hc : r.code.done with
 | false => rfl
 | true =>
   have := (hb.some_ r hr).2.2.2.2 hd hc; rw [hw] at this; cases this
theorem bend_bad {b : BS} {k e : Nat} (h : bend b k = .bad e) : e = 23 := by
 unfold bend at h; split at h
 · cases h
 · split at h
   · cases h
   · split at h
     · cases h; rfl
     · cases h
theorem bstep_bad {b : BS} {l : List Bool} {e : Nat} (h : bstep b l = .bad e) : e = 22 ∨ e = 23 ∨ e = 25 := by
 unfold bstep at h; split at h
 · unfold bhead at h; split at h
   · cases h
   · split at h
     · cases h; exact .inr (.inr rfl)
     · exact .inr (.inl (bend_bad h))
 · split at h
   · unfold buse at h; split at h
     · cases h
     · rename_i hu; cases h; exact .inr (.inr (uread_bad hu))
     · exact .inr (.inl (bend_bad h))
   · split at h
     · exact .inr (.inl (bend_bad h))
     · unfold bsym at h; split at h
       · cases h
       · rename_i hu; cases h; rcases cstep_bad hu with h | h
         · exact .inl h
         · exact .inr (.inr h)
       · exact .inr (.inl (bend_bad h))
       · unfold btold at h; split at h
         · cases h; exact .inr (.inr rfl)
         · exact .inr (.inl (bend_bad h))
theorem bstep_more {b : BS} {l : List Bool} (m : List Bool) (hb : b.Ok) (h : bstep b l ≠ .short) : bstep b (l ++ m) = bstep b l := by
 unfold bstep at h ⊢
 by_cases hh : b.head = false
 · simp only [if_pos hh] at h ⊢; unfold bhead at h ⊢
   by_cases h1 : l.length < 57
   · rw [if_pos h1] at h; exact absurd rfl h
   · rw [if_neg h1, if_neg (by simp; omega), List.drop_append_of_le_length (by omega), List.drop_append_of_le_length (by omega), take_app (by first | omega | (rw [List.length_drop]; omega)), take_app (by first | omega | (rw [List.length_drop]; omega)), take_app (by first | omega | (rw [List.length_drop]; omega))]
 · simp only [if_neg hh] at h ⊢
   cases hr : b.row with
   | none =>
     rw [hr] at h; simp only at h ⊢; rw [uread_more m]; intro e; rw [e] at h; exact h rfl
   | some r =>
     rw [hr] at h; simp only at h ⊢
     by_cases hw : r.waits = true
     · simp only [if_pos hw]
     · simp only [if_neg hw] at h ⊢; rw [cstep_more m (hb.some_ r hr).2.1.code]; intro e; rw [e] at h; exact h rfl
end Go.Mk
namespace Go.Q20
open Go.M01 Go.Mb Go.Mp Go.M10 Go.Mc Go.Mz Go.Mk
section
variable {σ : Type} {step : σ → List Bool → Res σ} {done : σ → Bool} {s0 : σ} {l : List Bool}
inductive RunN (step : σ → List Bool → Res σ) (done : σ → Bool) (s0 : σ) (l : List Bool) : Nat → σ → Nat → Prop
 | start : RunN step done s0 l 0 s0 0
 | next {i : Nat} {s s' : σ} {k n : Nat} (h : RunN step done s0 l i s k) (hd : done s = false) (hs : step s (l.drop k) = .ok s' n) : RunN step done s0 l (i + 1) s' (k + n)
def Run (step : σ → List Bool → Res σ) (done : σ → Bool) (s0 : σ) (l : List Bool) (s : σ) (k : Nat) : Prop := ∃ i, RunN step done s0 l i s k
theorem Run.start : Run step done s0 l s0 0 := ⟨0, .start⟩
theorem Run.next {s s' : σ} {k n : Nat} (h : Run step done s0 l s k) (hd : done s = false) (hs : step s (l.drop k) = .ok s' n) : Run step done s0 l s' (k + n) := by
 obtain ⟨i, h⟩ := h; exact ⟨i + 1, .next h hd hs⟩
def Stop (step : σ → List Bool → Res σ) (done : σ → Bool) (l : List Bool) (s : σ) (k : Nat) : Prop := done s = false → ∀ s' n, step s (l.drop k) ≠ .ok s' n
theorem RunN.det {i : Nat} {s : σ} {k : Nat} (h : RunN step done s0 l i s k) : ∀ {s2 : σ} {k2 : Nat}, RunN step done s0 l i s2 k2 → s = s2 ∧ k = k2 := by
 induction h with
 | start => intro s2 k2 h2; cases h2; exact ⟨rfl, rfl⟩
 | next h hd hs ih =>
   intro s2 k2 h2
   cases h2 with
   | next h' hd' hs' =>
     obtain ⟨rfl, rfl⟩ := ih h'; rw [hs] at hs'; cases hs'; exact ⟨rfl, rfl⟩
theorem RunN.prefix_ {m : Nat} {s : σ} {k : Nat} (h : RunN step done s0 l m s k) : ∀ {i : Nat}, i < m → ∃ s1 k1, RunN step done s0 l i s1 k1 ∧ ¬ Stop step done l s1 k1 := by
 induction h with
 | start => intro i hi; omega
 | next h hd hs ih =>
   rename_i j s s' k n; intro i hi; rcases Nat.lt_or_ge i j with h1 | h1
   · exact ih h1
   · have : i = j := by omega
     subst this; exact ⟨s, k, h, fun hst => hst hd _ _ hs⟩
theorem RunN.stop_eq {i m : Nat} {s s2 : σ} {k k2 : Nat} (h : RunN step done s0 l i s k) (hs : Stop step done l s k) (h2 : RunN step done s0 l m s2 k2) (hs2 : Stop step done l s2 k2) : i = m ∧ s = s2 ∧ k = k2 := by
 rcases Nat.lt_trichotomy i m with h1 | h1 | h1
 · obtain ⟨s1, k1, h3, h4⟩ := h2.prefix_ h1; obtain ⟨rfl, rfl⟩ := h.det h3; exact absurd hs h4
 · subst h1; exact ⟨rfl, h.det h2⟩
 · obtain ⟨s1, k1, h3, h4⟩ := h.prefix_ h1; obtain ⟨rfl, rfl⟩ := h2.det h3; exact absurd hs2 h4
theorem Run.stop_eq {s s2 : σ} {k k2 : Nat} (h : Run step done s0 l s k) (hs : Stop step done l s k) (h2 : Run step done s0 l s2 k2) (hs2 : Stop step done l s2 k2) : s = s2 ∧ k = k2 := by
 obtain ⟨i, h⟩ := h; obtain ⟨m, h2⟩ := h2; exact (h.stop_eq hs h2 hs2).2
theorem stop_done {s : σ} {k : Nat} (h : done s = true) : Stop step done l s k := fun h2 => by rw [h] at h2; cases h2
theorem stop_short {s : σ} {k : Nat} (h : step s (l.drop k) = .short) : Stop step done l s k := fun _ s' n h2 => by rw [h] at h2; cases h2
theorem stop_bad {s : σ} {k e : Nat} (h : step s (l.drop k) = .bad e) : Stop step done l s k := fun _ s' n h2 => by rw [h] at h2; cases h2
theorem Run.trans {s : σ} {k : Nat} (h : Run step done s0 l s k) : ∀ {s2 : σ} {k2 : Nat}, Run step done s (l.drop k) s2 k2 → Run step done s0 l s2 (k + k2) := by
 rintro s2 k2 ⟨i, h2⟩
 induction h2 with
 | start => exact h
 | next h2 hd hs ih =>
   rw [List.drop_drop] at hs; have := Run.next ih hd hs; rw [Nat.add_assoc] at this; exact this
end
inductive Out where
 | bad (e : Nat)
 | got (last : List UInt8) (origin sum bits held : Nat)
def BS.held (b : BS) : Nat := match b.row with
 | none => b.last.length
 | some r => r.code.picks.picks.length + r.code.size * r.code.codes.length + b.last.length
def Comes (room : Nat) (l : List Bool) (o : Out) : Prop :=
 ∃ b k, Run bstep BS.done (b0 room) l b k ∧
   ((b.done = true ∧ o = .got b.last b.frm b.sum k (BS.held b)) ∨ (b.done = false ∧ bstep b (l.drop k) = .short ∧ o = .bad 3) ∨ ∃ e, b.done = false ∧ bstep b (l.drop k) = .bad e ∧ o = .bad e)
theorem Comes.det {room : Nat} {l : List Bool} {o o2 : Out} (h : Comes room l o) (h2 : Comes room l o2) : o = o2 := by
 obtain ⟨b, k, hr, h⟩ := h; obtain ⟨b2, k2, hr2, h2⟩ := h2
 have hs : Stop bstep BS.done l b k := by
   rcases h with h | h | ⟨e, h⟩
   · exact stop_done h.1
   · exact stop_short h.2.1
   · exact stop_bad h.2.1
 have hs2 : Stop bstep BS.done l b2 k2 := by
   rcases h2 with h | h | ⟨e, h⟩
   · exact stop_done h.1
   · exact stop_short h.2.1
   · exact stop_bad h.2.1
 obtain ⟨rfl, rfl⟩ := hr.stop_eq hs hr2 hs2
 rcases h with ⟨h1, rfl⟩ | ⟨h1, h3, rfl⟩ | ⟨e, h1, h3, rfl⟩ <;> rcases h2 with ⟨h4, rfl⟩ | ⟨h4, h6, rfl⟩ | ⟨e2, h4, h6, rfl⟩
 · rfl
 · rw [h1] at h4; cases h4
 · rw [h1] at h4; cases h4
 · rw [h1] at h4; cases h4
 · rfl
 · rw [h3] at h6; cases h6
 · rw [h1] at h4; cases h4
 · rw [h3] at h6; cases h6
 · rw [h3] at h6; cases h6; rfl
def cstepL (x : CS × List Nat) (l : List Bool) : Res (CS × List Nat) := match cstep x.1 l with
 | .short => .short
 | .bad e => .bad e
 | .ok (c, o) n => .ok (c, x.2 ++ o.toList) n
def cdone (x : CS × List Nat) : Bool := x.1.done
abbrev CRun (size : Nat) (l : List Bool) (c : CS) (L : List Nat) (k : Nat) : Prop := Run cstepL cdone (c0 size, []) l (c, L) k
def zone (d : Nat) (p : Int) : List Nat := List.replicate d 0 ++ if 0 < p then [p.toNat] else []
def zstep : Option (ZS × List Nat) → Nat → Option (ZS × List Nat)
 | none, _ => none
 | some (z, pl), s => match zput z s with
   | none => none
   | some (z', d, p) => some (z', pl ++ zone d p)
def zall (z : ZS) (L : List Nat) : Option (ZS × List Nat) := L.foldl zstep (some (z, []))
theorem zall_snoc (z : ZS) (L : List Nat) (s : Nat) : zall z (L ++ [s]) = zstep (zall z L) s := by simp [zall]
def mstep (x : List UInt8 × List UInt8) (p : Nat) : List UInt8 × List UInt8 := (frontB x.1 p, x.2 ++ [x.1.getD p 0])
def mall (o : List UInt8) (pl : List Nat) : List UInt8 × List UInt8 := pl.foldl mstep (o, [])
theorem mall_snoc (o : List UInt8) (pl : List Nat) (p : Nat) : mall o (pl ++ [p]) = mstep (mall o pl) p := by simp [mall]
inductive Says (room : Nat) (l : List Bool) : Out → Prop
 | few (h : l.length < 57) : Says room l (.bad 3)
 | bit (h : ¬ l.length < 57) (hb : l.getD 32 false = true) : Says room l (.bad 25)
 | ushort (h : ¬ l.length < 57) (hb : l.getD 32 false = false) (hu : uread (l.drop 57) = .short) : Says room l (.bad 3)
 | ubad {e : Nat} (h : ¬ l.length < 57) (hb : l.getD 32 false = false) (hu : uread (l.drop 57) = .bad e) : Says room l (.bad e)
 | codes {T : Nat → Bool} {n k : Nat} {c : CS} {L : List Nat} (h : ¬ l.length < 57) (hb : l.getD 32 false = false) (hu : uread (l.drop 57) = .ok T n)
     (hr : CRun ((listed T).length + 2) (l.drop (57 + n)) c L k) (hs : Stop cstepL cdone (l.drop (57 + n)) (c, L) k) (hz : zall (z0 (listed T).length room) L = none) : Says room l (.bad 25)
 | cshort {T : Nat → Bool} {n k : Nat} {c : CS} {L : List Nat} (h : ¬ l.length < 57) (hb : l.getD 32 false = false) (hu : uread (l.drop 57) = .ok T n)
     (hr : CRun ((listed T).length + 2) (l.drop (57 + n)) c L k) (hd : c.done = false) (hs : cstep c ((l.drop (57 + n)).drop k) = .short) (hz : zall (z0 (listed T).length room) L ≠ none) : Says room l (.bad 3)
 | cbad {T : Nat → Bool} {n k e : Nat} {c : CS} {L : List Nat} (h : ¬ l.length < 57) (hb : l.getD 32 false = false) (hu : uread (l.drop 57) = .ok T n)
     (hr : CRun ((listed T).length + 2) (l.drop (57 + n)) c L k) (hd : c.done = false) (hs : cstep c ((l.drop (57 + n)).drop k) = .bad e) (hz : zall (z0 (listed T).length room) L ≠ none) : Says room l (.bad e)
 | orig {T : Nat → Bool} {n k : Nat} {c : CS} {L : List Nat} {z : ZS} {pl : List Nat} (h : ¬ l.length < 57) (hb : l.getD 32 false = false) (hu : uread (l.drop 57) = .ok T n)
     (hr : CRun ((listed T).length + 2) (l.drop (57 + n)) c L k) (hd : c.done = true) (hz : zall (z0 (listed T).length room) L = some (z, pl))
     (ho : (mall (listed T) pl).2.length ≤ valB ((l.drop 33).take 24)) : Says room l (.bad 23)
 | got {T : Nat → Bool} {n k : Nat} {c : CS} {L : List Nat} {z : ZS} {pl : List Nat} (h : ¬ l.length < 57) (hb : l.getD 32 false = false) (hu : uread (l.drop 57) = .ok T n)
     (hr : CRun ((listed T).length + 2) (l.drop (57 + n)) c L k) (hd : c.done = true) (hz : zall (z0 (listed T).length room) L = some (z, pl))
     (ho : ¬ (mall (listed T) pl).2.length ≤ valB ((l.drop 33).take 24)) :
     Says room l (.got (mall (listed T) pl).2 (valB ((l.drop 33).take 24)) (valB (l.take 32)) (57 + n + k) (c.picks.picks.length + c.size * c.codes.length + (mall (listed T) pl).2.length))
section
variable {room sum frm : Nat} {l : List Bool}
abbrev BRun (room : Nat) (l : List Bool) (b : BS) (k : Nat) : Prop := Run bstep BS.done (b0 room) l b k
def mid (room sum frm : Nat) (c : CS) (z : ZS) (ol : List UInt8 × List UInt8) (due place : Nat) (done : Bool) : BS := ⟨room, true, sum, frm, some ⟨c, z, ol.1, due, place⟩, ol.2, done⟩
def Fin (room sum frm : Nat) (l : List Bool) (c : CS) (z : ZS) (ol : List UInt8 × List UInt8) (k : Nat) : Prop :=
 if c.done = true then
   if ol.2.length ≤ frm then ∃ b k', BRun room l b k' ∧ b.done = false ∧ bstep b (l.drop k') = .bad 23
   else BRun room l (mid room sum frm c z ol 0 0 true) k
 else BRun room l (mid room sum frm c z ol 0 0 false) k
theorem fin_end {b : BS} {c : CS} {z : ZS} {ol : List UInt8 × List UInt8} {k n : Nat} (hr : BRun room l b k) (hd : b.done = false) (he : bstep b (l.drop k) = bend (mid room sum frm c z ol 0 0 false) n) :
   Fin room sum frm l c z ol (k + n) := by
 have hw : RS.waits ⟨c, z, ol.1, 0, 0⟩ = false := rfl; unfold Fin; unfold bend mid at he; simp only [hw, Bool.false_eq_true, or_false] at he
 by_cases hc : c.done = true
 · rw [if_pos hc]; rw [if_neg (by simp [hc])] at he
   by_cases ho : ol.2.length ≤ frm
   · rw [if_pos ho]; rw [if_pos ho] at he; exact ⟨b, k, hr, hd, he⟩
   · rw [if_neg ho]; rw [if_neg ho] at he; exact hr.next hd he
 · rw [if_neg hc]; rw [if_pos (by simpa using hc)] at he; exact hr.next hd he
theorem mid_next {b : BS} {c : CS} {z : ZS} {ol : List UInt8 × List UInt8} {k n d p : Nat} (hw : 0 < d ∨ 0 < p) (hr : BRun room l b k) (hd : b.done = false) (he : bstep b (l.drop k) = bend (mid room sum frm c z ol d p false) n) :
   BRun room l (mid room sum frm c z ol d p false) (k + n) := by
 refine hr.next hd ?_; rw [he]; unfold bend mid
 have : RS.waits ⟨c, z, ol.1, d, p⟩ = true := by unfold RS.waits; simp; exact hw
 simp only [this, or_true, if_true]
theorem mid_place {c : CS} {z : ZS} {ol : List UInt8 × List UInt8} {k p : Nat} (hp : 0 < p) (hr : BRun room l (mid room sum frm c z ol 0 p false) k) :
   Fin room sum frm l c z (mstep ol p) k := by
 refine fin_end (n := 0) hr rfl ?_; unfold bstep mid
 have hw : RS.waits ⟨c, z, ol.1, 0, p⟩ = true := by unfold RS.waits; simp; omega
 simp only [hw, if_true, bnext, RS.next, RS.byte, RS.at_, Nat.lt_irrefl, if_false, mstep, Bool.true_eq_false]
theorem mid_due {c : CS} {z : ZS} {k d p : Nat} : ∀ {ol : List UInt8 × List UInt8}, BRun room l (mid room sum frm c z ol (d + 1) p false) k →
   if 0 < p then BRun room l (mid room sum frm c z ((List.replicate (d + 1) 0).foldl mstep ol) 0 p false) k else Fin room sum frm l c z ((List.replicate (d + 1) 0).foldl mstep ol) k := by
 induction d with
 | zero =>
   intro ol hr
   have hw : RS.waits ⟨c, z, ol.1, 0 + 1, p⟩ = true := by unfold RS.waits; simp
   have he : bstep (mid room sum frm c z ol (0 + 1) p false) (l.drop k) = bend (mid room sum frm c z (mstep ol 0) 0 p false) 0 := by
     conv => lhs; unfold bstep mid
     simp only [hw, if_true, bnext, RS.next, RS.byte, RS.at_, Nat.zero_add, Nat.lt_irrefl, if_false, mstep, Bool.true_eq_false, Nat.zero_lt_one, Nat.sub_self]; rfl
   split
   · rename_i hp; exact mid_next (.inr hp) hr rfl he
   · rename_i hp
     have : p = 0 := by omega
     subst this; exact fin_end hr rfl he
 | succ d ih =>
   intro ol hr
   have hw : RS.waits ⟨c, z, ol.1, d + 1 + 1, p⟩ = true := by unfold RS.waits; simp
   have he : bstep (mid room sum frm c z ol (d + 1 + 1) p false) (l.drop k) = bend (mid room sum frm c z (mstep ol 0) (d + 1) p false) 0 := by
     conv => lhs; unfold bstep mid
     simp only [hw, if_true, bnext, RS.next, RS.byte, RS.at_, mstep, Bool.true_eq_false, if_false, Nat.zero_lt_succ, Nat.add_sub_cancel]; rfl
   have := ih (mid_next (.inl (Nat.succ_pos _)) hr rfl he); rw [List.replicate_succ, List.foldl_cons]; exact this
theorem told_fin {b : BS} {c : CS} {z : ZS} {ol : List UInt8 × List UInt8} {k n d : Nat} {p : Int} (hr : BRun room l b k) (hd : b.done = false) (he : bstep b (l.drop k) = bend (mid room sum frm c z ol d p.toNat false) n) :
   Fin room sum frm l c z ((zone d p).foldl mstep ol) (k + n) := by
 unfold zone; rw [List.foldl_append]
 cases d with
 | zero =>
   rw [List.replicate_zero, List.foldl_nil]
   by_cases hp : 0 < p
   · rw [if_pos hp]; have h := mid_next (d := 0) (p := p.toNat) (.inr (by omega)) hr hd he; exact mid_place (by omega) h
   · rw [if_neg hp]
     have : p.toNat = 0 := by omega
     rw [this] at he; exact fin_end hr hd he
 | succ d =>
   have h := mid_next (.inl (Nat.succ_pos d)) hr hd he; have h2 := mid_due h
   by_cases hp : 0 < p
   · rw [if_pos hp]; rw [if_pos (by omega)] at h2; exact mid_place (by omega) h2
   · rw [if_neg hp]; rw [if_neg (by omega)] at h2; exact h2
def Link (room sum frm : Nat) (l : List Bool) (syms : List UInt8) (at_ : Nat) (c : CS) (L : List Nat) (k : Nat) : Prop :=
 match zall (z0 syms.length room) L with
 | none => ∃ b k', BRun room l b k' ∧ b.done = false ∧ bstep b (l.drop k') = .bad 25
 | some (z, pl) => Fin room sum frm l c z (mall syms pl) (at_ + k)
theorem link_run {syms : List UInt8} {at_ size : Nat} (h0 : BRun room l (mid room sum frm (c0 size) (z0 syms.length room) (syms, []) 0 0 false) at_) :
   ∀ {i : Nat} {x : CS × List Nat} {k : Nat}, RunN cstepL cdone (c0 size, []) (l.drop at_) i x k → Link room sum frm l syms at_ x.1 x.2 k := by
 intro i x k h
 induction h with
 | start => exact h0
 | next h hd hs ih =>
   rename_i j x x' k n; obtain ⟨c, L⟩ := x; unfold Link at ih ⊢; simp only at ih ⊢; unfold cdone at hd; simp only at hd; unfold cstepL at hs; simp only at hs
   cases hc : cstep c ((l.drop at_).drop k) with
   | short => rw [hc] at hs; cases hs
   | bad e => rw [hc] at hs; cases hs
   | ok y n' =>
     obtain ⟨c', o⟩ := y; rw [hc] at hs; cases hs
     cases hz : zall (z0 syms.length room) L with
     | none =>
       rw [hz] at ih; simp only at ih
       cases o with
       | none => simp only [Option.toList_none, List.append_nil, hz]; exact ih
       | some s => simp only [Option.toList_some, zall_snoc, hz, zstep]; exact ih
     | some zp =>
       obtain ⟨z, pl⟩ := zp; rw [hz] at ih; simp only at ih; unfold Fin at ih; rw [if_neg (by rw [hd]; simp)] at ih
       have hb : bstep (mid room sum frm c z (mall syms pl) 0 0 false) (l.drop (at_ + k)) = bsym (mid room sum frm c z (mall syms pl) 0 0 false) ⟨c, z, (mall syms pl).1, 0, 0⟩ (.ok (c', o) n) := by
         rw [← hc, List.drop_drop]
         conv => lhs; unfold bstep mid
         simp only [show RS.waits ⟨c, z, (mall syms pl).1, 0, 0⟩ = false from rfl, Bool.true_eq_false, Bool.false_eq_true, if_false]; rfl
       cases o with
       | none =>
         simp only [Option.toList_none, List.append_nil, hz]; have := fin_end (n := n) ih rfl hb; rw [Nat.add_assoc] at this; exact this
       | some s =>
         simp only [Option.toList_some, zall_snoc, hz, zstep]
         cases hp : zput z s with
         | none =>
           simp only; refine ⟨_, _, ih, rfl, ?_⟩; rw [hb]; simp only [bsym, btold, hp]
         | some y =>
           obtain ⟨z', d, p⟩ := y; simp only
           have he : bstep (mid room sum frm c z (mall syms pl) 0 0 false) (l.drop (at_ + k)) = bend (mid room sum frm c' z' (mall syms pl) d p.toNat false) n := by
             rw [hb]; simp only [bsym, btold, hp]; rfl
           have := told_fin ih rfl he; rw [Nat.add_assoc] at this; unfold mall; rw [List.foldl_append]; exact this
theorem says_comes {o : Out} (h : Says room l o) : Comes room l o := by
 have hb0 : (b0 room).done = false := rfl
 have few : ∀ {n : Nat}, ¬ l.length < 57 → l.getD 32 false = false → BRun room l ⟨room, true, valB (l.take 32), valB ((l.drop 33).take 24), none, [], false⟩ 57 := by
   intro n h hb
   have h1 : bstep (b0 room) (l.drop 0) = .ok ⟨room, true, valB (l.take 32), valB ((l.drop 33).take 24), none, [], false⟩ 57 := by
     unfold bstep b0 bhead; rw [List.drop_zero]; simp only [if_true]; rw [if_neg h]
     have e : valB ((l.drop 32).take 1) = 0 := by
       have hg : (l.drop 32)[0]? = some false := by
         rw [List.getElem?_drop, Nat.add_zero, List.getElem?_eq_getElem (by omega)]; rw [List.getD_eq_getElem?_getD, List.getElem?_eq_getElem (by omega)] at hb; simpa using hb
       rw [take_snoc (n := 0) hg, List.take_zero, List.nil_append, valB_one]; rfl
     rw [e, if_neg (by decide)]; rfl
   have := Run.start.next (step := bstep) (done := BS.done) hb0 h1; simpa using this
 have uses : ∀ {T : Nat → Bool} {n : Nat}, ¬ l.length < 57 → l.getD 32 false = false → uread (l.drop 57) = .ok T n →
     BRun room l (mid room (valB (l.take 32)) (valB ((l.drop 33).take 24)) (c0 ((listed T).length + 2)) (z0 (listed T).length room) (listed T, []) 0 0 false) (57 + n) := by
   intro T n h hb hu; refine (few (n := n) h hb).next rfl ?_; unfold bstep; simp only [Bool.true_eq_false, if_false, hu, buse]; rfl
 have linked : ∀ {T : Nat → Bool} {n k : Nat} {c : CS} {L : List Nat}, ¬ l.length < 57 → l.getD 32 false = false → uread (l.drop 57) = .ok T n → CRun ((listed T).length + 2) (l.drop (57 + n)) c L k →
     Link room (valB (l.take 32)) (valB ((l.drop 33).take 24)) l (listed T) (57 + n) c L k := by
   intro T n k c L h hb hu hr; obtain ⟨i, hr⟩ := hr; exact link_run (uses h hb hu) hr
 have waits : ∀ {c : CS} {z : ZS} {ol : List UInt8 × List UInt8} {k sum frm : Nat}, bstep (mid room sum frm c z ol 0 0 false) (l.drop k) = bsym (mid room sum frm c z ol 0 0 false) ⟨c, z, ol.1, 0, 0⟩ (cstep c (l.drop k)) := by
   intro c z ol k sum frm
   conv => lhs; unfold bstep mid
   simp only [show RS.waits ⟨c, z, ol.1, 0, 0⟩ = false from rfl, Bool.true_eq_false, Bool.false_eq_true, if_false]; rfl
 cases h with
 | few h =>
   refine ⟨b0 room, 0, .start, .inr (.inl ⟨rfl, ?_, rfl⟩)⟩; unfold bstep b0 bhead; simp only [List.drop_zero, if_true, if_pos h]
 | bit h hb =>
   refine ⟨b0 room, 0, .start, .inr (.inr ⟨25, rfl, ?_, rfl⟩)⟩; unfold bstep b0 bhead; simp only [List.drop_zero, if_true, if_neg h]
   have e : valB ((l.drop 32).take 1) = 1 := by
     have hg : (l.drop 32)[0]? = some true := by
       rw [List.getElem?_drop, Nat.add_zero, List.getElem?_eq_getElem (by omega)]; rw [List.getD_eq_getElem?_getD, List.getElem?_eq_getElem (by omega)] at hb; simpa using hb
     rw [take_snoc (n := 0) hg, List.take_zero, List.nil_append, valB_one]; rfl
   rw [e, if_pos rfl]
 | ushort h hb hu =>
   refine ⟨_, _, few (n := 0) h hb, .inr (.inl ⟨rfl, ?_, rfl⟩)⟩; unfold bstep; simp only [Bool.true_eq_false, if_false, hu, buse]
 | ubad h hb hu =>
   refine ⟨_, _, few (n := 0) h hb, .inr (.inr ⟨_, rfl, ?_, rfl⟩)⟩; unfold bstep; simp only [Bool.true_eq_false, if_false, hu, buse]
 | codes h hb hu hr hs hz =>
   have := linked h hb hu hr; unfold Link at this; rw [hz] at this; obtain ⟨b, k', h1, h2, h3⟩ := this; exact ⟨b, k', h1, .inr (.inr ⟨25, h2, h3, rfl⟩)⟩
 | cshort h hb hu hr hd hs hz =>
   have := linked h hb hu hr; unfold Link at this
   revert this
   cases hq : zall _ _ with
   | none => exact absurd hq hz
   | some y =>
     obtain ⟨z, pl⟩ := y; simp only; intro this; unfold Fin at this; rw [if_neg (by rw [hd]; simp)] at this; refine ⟨_, _, this, .inr (.inl ⟨rfl, ?_, rfl⟩)⟩; rw [waits, ← List.drop_drop, hs]; rfl
 | cbad h hb hu hr hd hs hz =>
   have := linked h hb hu hr; unfold Link at this
   revert this
   cases hq : zall _ _ with
   | none => exact absurd hq hz
   | some y =>
     obtain ⟨z, pl⟩ := y; simp only; intro this; unfold Fin at this; rw [if_neg (by rw [hd]; simp)] at this; refine ⟨_, _, this, .inr (.inr ⟨_, rfl, ?_, rfl⟩)⟩; rw [waits, ← List.drop_drop, hs]; rfl
 | orig h hb hu hr hd hz ho =>
   have := linked h hb hu hr; unfold Link at this; rw [hz] at this; simp only at this; unfold Fin at this; rw [if_pos hd, if_pos ho] at this; obtain ⟨b, k', h1, h2, h3⟩ := this; exact ⟨b, k', h1, .inr (.inr ⟨23, h2, h3, rfl⟩)⟩
 | got h hb hu hr hd hz ho =>
   have := linked h hb hu hr; unfold Link at this; rw [hz] at this; simp only at this; unfold Fin at this; rw [if_pos hd, if_neg ho] at this; exact ⟨_, _, this, .inl ⟨rfl, rfl⟩⟩
end
end Go.Q20
namespace Go.Q21
open Go.M01 Go.Mb Go.Mp Go.M10 Go.Mc Go.Mz Go.Mk Go.Q20
theorem foldl_val (l : List Bool) : ∀ a : Nat, l.foldl (fun a b => 2 * a + b.toNat) a = a * 2 ^ l.length + valB l := by
 induction l with
 | nil => intro a; simp [valB]
 | cons b l ih =>
   intro a; have h1 := ih (2 * a + b.toNat); have h2 := ih (2 * 0 + b.toNat); unfold valB; rw [List.foldl_cons, List.foldl_cons, h1, h2, List.length_cons, Nat.pow_succ, Nat.add_mul, Nat.add_mul, Nat.mul_comm 2 a, Nat.mul_assoc, Nat.mul_comm 2 (2 ^ l.length)]; omega
theorem valB_app (a b : List Bool) : valB (a ++ b) = valB a * 2 ^ b.length + valB b := by
 have := foldl_val b (valB a); unfold valB at this ⊢; rw [List.foldl_append]; exact this
theorem valB_cons (b : Bool) (l : List Bool) : valB (b :: l) = b.toNat * 2 ^ l.length + valB l := by
 have := valB_app [b] l
 rwa [valB_one] at this
theorem valB_18 {l : List Bool} (h : 18 ≤ l.length) : valB (l.take 18) / 32768 = valB (l.take 3) ∧ valB (l.take 18) % 32768 = valB ((l.drop 3).take 15) := by
 have e : l.take 18 = l.take 3 ++ (l.drop 3).take 15 := by rw [← List.take_add]
 have hl : ((l.drop 3).take 15).length = 15 := by simp; omega
 have hv := valB_lt ((l.drop 3).take 15); rw [hl] at hv; rw [e, valB_app, hl]; omega
theorem bitsOf_succ (v j : Nat) : bitsOf v (j + 1) = v.testBit j :: bitsOf v j := by
 apply List.ext_getElem?; intro i
 cases i with
 | zero => rw [Mb.bitsOf_get _ _ _ (by omega)]; simp
 | succ i =>
   rw [List.getElem?_cons_succ]; rcases Nat.lt_or_ge i j with h | h
   · rw [Mb.bitsOf_get _ _ _ (by omega), Mb.bitsOf_get _ _ _ h]
     congr 2; omega
   · rw [List.getElem?_eq_none (by rw [bitsOf_len]; omega), List.getElem?_eq_none (by rw [bitsOf_len]; omega)]
theorem bitsOf_val {l : List Bool} {v n : Nat} (hl : l.length = n) (hv : valB l = v) : l = bitsOf v n := by
 subst hl hv; exact valB_inj (n := l.length) rfl (bitsOf_len _ _) (valB_bitsOf _ _ (valB_lt l)).symm
def inc : List Bool → List Bool × Bool
 | [] => ([], true)
 | b :: s => ((b != (inc s).2) :: (inc s).1, (inc s).2 && b)
theorem inc_len : ∀ s : List Bool, (inc s).1.length = s.length
 | [] => rfl
 | b :: s => by simp [inc, inc_len s]
theorem inc_val : ∀ s : List Bool, valB (inc s).1 + (inc s).2.toNat * 2 ^ s.length = valB s + 1
 | [] => rfl
 | b :: s => by
   have ih := inc_val s; have hl := inc_len s; simp only [inc, valB_cons, List.length_cons, hl]; rw [Nat.pow_succ]; generalize 2 ^ s.length = p at *; generalize (inc s).2 = c at *; generalize valB (inc s).1 = x at *
   cases b <;> cases c <;> simp at * <;> omega
theorem inc_bits {s : List Bool} {v : Nat} (h : s = bitsOf v s.length) (hv : v + 1 < 2 ^ s.length) : (inc s).1 = bitsOf (v + 1) s.length := by
 have h1 := inc_val s; have h2 := inc_len s
 have e : valB s = v := by
   have := congrArg valB h; rw [valB_bitsOf _ _ (by omega)] at this; exact this
 have hlt := valB_lt (inc s).1; rw [h2] at hlt; refine bitsOf_val h2 ?_
 cases hc : (inc s).2 with
 | false => rw [hc] at h1; simp at h1; omega
 | true => rw [hc] at h1; simp at h1; omega
theorem bits_pad (v n : Nat) : ∀ k, bitsOf v n ++ List.replicate k false = bitsOf (v * 2 ^ k) (n + k) := by
 intro k; apply List.ext_getElem?; intro i; rcases Nat.lt_or_ge i n with h | h
 · rw [List.getElem?_append_left (by rw [bitsOf_len]; exact h), Mb.bitsOf_get _ _ _ h, Mb.bitsOf_get _ _ _ (by omega)]
   congr 1
   rw [Nat.mul_comm v, Nat.testBit_two_pow_mul]; rw [decide_eq_true (by omega), Bool.true_and]
   congr 1; omega
 · rw [List.getElem?_append_right (by rw [bitsOf_len]; exact h), bitsOf_len]; rcases Nat.lt_or_ge i (n + k) with h2 | h2
   · rw [List.getElem?_replicate, if_pos (by omega), Mb.bitsOf_get _ _ _ h2]; rw [Nat.mul_comm v, Nat.testBit_two_pow_mul, decide_eq_false (by omega), Bool.false_and]
   · rw [List.getElem?_replicate, if_neg (by omega), List.getElem?_eq_none (by rw [bitsOf_len]; omega)]
def LastC (code : List Bool) (n next : Nat) : Prop := (code = [] ∧ next = 0) ∨ ∃ v m, 1 ≤ m ∧ m ≤ n ∧ code = bitsOf v m ∧ (v + 1) * 2 ^ (n - m) = next
theorem LastC.up {code : List Bool} {n next : Nat} (h : LastC code n next) : LastC code (n + 1) (2 * next) := by
 rcases h with ⟨h1, h2⟩ | ⟨v, m, h1, h2, h3, h4⟩
 · exact .inl ⟨h1, by omega⟩
 · refine .inr ⟨v, m, h1, by omega, h3, ?_⟩; rw [show n + 1 - m = (n - m) + 1 by omega, Nat.pow_succ, ← Nat.mul_assoc, h4]; omega
def nextB (code : List Bool) (n : Nat) : List Bool := if code = [] then List.replicate n false else (inc code).1 ++ List.replicate (n - code.length) false
theorem LastC.next {code : List Bool} {n next : Nat} (h : LastC code n next) (hn : 1 ≤ n) (hlt : next < 2 ^ n) : nextB code n = bitsOf next n ∧ LastC (nextB code n) n (next + 1) := by
 have key : nextB code n = bitsOf next n := by
   unfold nextB; rcases h with ⟨rfl, rfl⟩ | ⟨v, m, h1, h2, h3, h4⟩
   · rw [if_pos rfl]; have := bits_pad 0 0 n; simpa [bitsOf] using this
   · have hl : code.length = m := by rw [h3, bitsOf_len]
     rw [if_neg (by rintro rfl; simp at hl; omega)]
     have hv : v + 1 < 2 ^ m := by
       have hp : 2 ^ n = 2 ^ m * 2 ^ (n - m) := by rw [← Nat.pow_add]; congr 1; omega
       rw [← h4, hp] at hlt; exact Nat.lt_of_mul_lt_mul_right hlt
     have e := inc_bits (s := code) (v := v) (by rw [hl]; exact h3) (by rw [hl]; exact hv); rw [e, hl, bits_pad, h4]
     congr 1; omega
 refine ⟨key, .inr ⟨next, n, hn, Nat.le_refl _, key, by simp⟩⟩
theorem code_lt {lens : List Nat} (hw : Whole lens) {i : Nat} (hi : i < lens.length) : codeN lens i < 2 ^ lens.getD i 0 := by
 have hx : 1 ≤ lens.getD i 0 ∧ lens.getD i 0 ≤ 20 := by
   rw [List.getD_eq_getElem?_getD, List.getElem?_eq_getElem hi]; exact hw.sized _ (List.getElem_mem hi)
 exact Nat.lt_of_lt_of_le (codeN_lt hi hx.1) (nx_le hw _ hx.2)
def begins (lens : List Nat) (l : List Bool) (i : Nat) : Bool := decide (lens.getD i 0 ≤ l.length ∧ l.take (lens.getD i 0) = codeB lens i)
theorem begins_get {lens : List Nat} {l : List Bool} {i : Nat} (hw : Whole lens) (hi : i < lens.length) (h : begins lens l i = true) : getC lens l = some (i, lens.getD i 0) := by
 unfold begins at h; rw [decide_eq_true_iff] at h; exact get_code hw hi h.1 h.2
theorem begins_none {lens : List Nat} {l : List Bool} (hw : Whole lens) (h : ∀ i, i < lens.length → begins lens l i = false) : getC lens l = none := by
 cases hg : getC lens l with
 | none => rfl
 | some x =>
   obtain ⟨i, n⟩ := x; obtain ⟨h1, h2, h3, h4, h5, h6⟩ := code_get hw hg; have := h i h1; unfold begins at this; rw [decide_eq_false_iff_not, h2] at this; exact absurd ⟨h5, h6⟩ this
theorem usedT_range (f : Nat → Bool) (l : List Bool) (b : Nat) : ∀ j, usedT ((List.range j).filter f) l b = (decide (b / 16 < j) && f (b / 16) && l.getD (16 * ((List.range (b / 16)).filter f).length + b % 16) false) := by
 intro j
 induction j with
 | zero => simp [usedT]
 | succ j ih =>
   rw [List.range_succ, List.filter_append]
   by_cases hf : f j = true
   · rw [List.filter_cons, if_pos hf, List.filter_nil, usedT_snoc, ih]; rcases Nat.lt_trichotomy (b / 16) j with h | h | h
     · rw [decide_eq_true h, decide_eq_true (show b / 16 < j + 1 by omega), decide_eq_false (show ¬ b / 16 = j by omega)]; simp
     · rw [decide_eq_false (show ¬ b / 16 < j by omega), decide_eq_true (show b / 16 < j + 1 by omega), decide_eq_true h, h, hf]; simp [List.getD_eq_getElem?_getD, List.getElem?_drop]
     · rw [decide_eq_false (show ¬ b / 16 < j by omega), decide_eq_false (show ¬ b / 16 < j + 1 by omega), decide_eq_false (show ¬ b / 16 = j by omega)]; simp
   · rw [List.filter_cons, if_neg hf, List.filter_nil, List.append_nil, ih]; rcases Nat.lt_trichotomy (b / 16) j with h | h | h
     · rw [decide_eq_true h, decide_eq_true (show b / 16 < j + 1 by omega)]
     · rw [h, show f j = false by simpa using hf]; simp
     · rw [decide_eq_false (show ¬ b / 16 < j by omega), decide_eq_false (show ¬ b / 16 < j + 1 by omega)]
def cnt (q : List Bool) (i : Nat) : Nat := ((List.range i).filter fun i => q.getD i false).length
theorem cnt_succ (q : List Bool) (i : Nat) : cnt q (i + 1) = cnt q i + (q.getD i false).toNat := by
 unfold cnt; rw [List.range_succ, List.filter_append, List.length_append]
 congr 1
 rw [List.filter_cons]
 cases q.getD i false <;> rfl
theorem cnt_le (q : List Bool) : ∀ i, i ≤ 16 → cnt q i ≤ (marksL q).length := by
 have mono : ∀ i k, cnt q i ≤ cnt q (i + k) := by
   intro i k
   induction k with
   | zero => exact Nat.le_refl _
   | succ k ih => rw [← Nat.add_assoc, cnt_succ]; omega
 intro i hi; have := mono i (16 - i)
 rwa [show i + (16 - i) = 16 by omega] at this
theorem cnt_16 (q : List Bool) : cnt q 16 = (marksL q).length := rfl
def usedOf (l : List Bool) : Nat → Bool := usedT (marksL (l.take 16)) (l.drop 16)
theorem used_at {l : List Bool} {i k : Nat} (hi : i < 16) (hk : k < 16) (hl : 16 ≤ l.length) : usedOf l (16 * i + k) = (l.getD i false && l.getD (16 + 16 * cnt (l.take 16) i + k) false) := by
 unfold usedOf marksL; rw [usedT_range, show (16 * i + k) / 16 = i by omega, show (16 * i + k) % 16 = k by omega, decide_eq_true hi, Bool.true_and]
 congr 1
 · simp [List.getD_eq_getElem?_getD, List.getElem?_take, hi]
 · simp [List.getD_eq_getElem?_getD, List.getElem?_drop, cnt, Nat.add_assoc]
def below (T : Nat → Bool) (b : Nat) : List UInt8 := ((List.range b).filter T).map UInt8.ofNat
theorem below_succ (T : Nat → Bool) (b : Nat) : below T (b + 1) = below T b ++ if T b = true then [UInt8.ofNat b] else [] := by
 unfold below; rw [List.range_succ, List.filter_append, List.map_append]
 congr 1
 rw [List.filter_cons]
 split <;> rfl
theorem below_256 (T : Nat → Bool) : below T 256 = listed T := rfl
theorem below_len (T : Nat → Bool) (b : Nat) : (below T b).length ≤ b := by
 unfold below; rw [List.length_map]; exact Nat.le_trans (List.length_filter_le _ _) (by simp)
theorem below_none {T : Nat → Bool} {b : Nat} : ∀ {n : Nat}, (∀ k, k < n → T (b + k) = false) → below T (b + n) = below T b := by
 intro n
 induction n with
 | zero => intro _; rfl
 | succ n ih =>
   intro h; rw [← Nat.add_assoc, below_succ, h n (by omega), ih fun k hk => h k (by omega)]; simp
theorem mem_listed {T : Nat → Bool} {b : Nat} (hb : b < 256) : UInt8.ofNat b ∈ listed T ↔ T b = true := by
 unfold listed; rw [List.mem_map]
 constructor
 · rintro ⟨x, hx, he⟩; rw [List.mem_filter, List.mem_range] at hx
   have : x = b := by
     have := congrArg UInt8.toNat he
     rwa [UInt8.toNat_ofNat_of_lt' (by simpa using hx.1), UInt8.toNat_ofNat_of_lt' (by simpa using hb)] at this
   subst this; exact hx.2
 · intro h; exact ⟨b, by rw [List.mem_filter, List.mem_range]; exact ⟨hb, h⟩, rfl⟩
theorem listed_listed (T : Nat → Bool) : listed (fun b => decide (UInt8.ofNat b ∈ listed T)) = listed T := by
 generalize hS : (fun b => decide (UInt8.ofNat b ∈ listed T)) = S; unfold listed
 congr 1
 apply List.filter_congr; intro b hb; rw [List.mem_range] at hb; have := mem_listed (T := T) hb; rw [← hS]; simp only
 cases hT : T b with
 | true => rw [decide_eq_true (this.2 hT)]
 | false => rw [decide_eq_false (fun h => by rw [this.1 h] at hT; cases hT)]
def valR (row : List Nat) : Nat × Nat := row.foldl (fun x c => (x.1 + x.2 * 2 ^ c, 2 * x.2)) (0, 1)
theorem valR_snoc (row : List Nat) (c : Nat) : valR (row ++ [c]) = ((valR row).1 + (valR row).2 * 2 ^ c, 2 * (valR row).2) := by simp [valR]
theorem snocRec {motive : List Nat → Prop} (l : List Nat) (nil : motive []) (snoc : ∀ t c, motive t → motive (t ++ [c])) : motive l := by
 have : ∀ n (l : List Nat), l.length = n → motive l := by
   intro n
   induction n with
   | zero => intro l h; rw [List.length_eq_zero_iff.1 h]; exact nil
   | succ n ih =>
     intro l h
     have hne : l ≠ [] := by rintro rfl; simp at h
     rw [← List.dropLast_concat_getLast hne]; exact snoc _ _ (ih _ (by simp [h]))
 exact this _ l rfl
theorem valR_mono (row : List Nat) (t : List Nat) : (valR row).1 ≤ (valR (row ++ t)).1 ∧ (valR row).2 ≤ (valR (row ++ t)).2 := by
 refine snocRec (motive := fun t => (valR row).1 ≤ (valR (row ++ t)).1 ∧ (valR row).2 ≤ (valR (row ++ t)).2) t ?_ fun t c ih => ?_
 · simp
 · rw [← List.append_assoc, valR_snoc]
   constructor
   · exact Nat.le_trans ih.1 (Nat.le_add_right _ _)
   · simp only; omega
theorem valR_take (row : List Nat) (j : Nat) : (valR (row.take j)).1 ≤ (valR row).1 ∧ (valR (row.take j)).2 ≤ (valR row).2 := by
 have := valR_mono (row.take j) (row.drop j)
 rwa [List.take_append_drop] at this
theorem valR_pos (row : List Nat) : 1 ≤ (valR row).2 := by
 refine snocRec (motive := fun t => 1 ≤ (valR t).2) row (by simp [valR]) fun t c ih => ?_; rw [valR_snoc]; simp only; omega
theorem valR_len (row : List Nat) : row.length ≤ (valR row).1 := by
 refine snocRec (motive := fun row => row.length ≤ (valR row).1) row (by simp [valR]) fun t c ih => ?_; rw [valR_snoc, List.length_append, List.length_singleton]; have h2 : 1 ≤ (valR t).2 * 2 ^ c := Nat.mul_pos (valR_pos t) (Nat.two_pow_pos _); simp only; omega
structure ZRow (z : ZS) (row : List Nat) : Prop where
 zeros : z.zeros = (valR row).1
 weight : z.weight = (valR row).2
 two : ∀ c ∈ row, c ≤ 1
theorem z0_row (n most : Nat) : ZRow (z0 n most) [] := ⟨rfl, rfl, fun c h => by cases h⟩
abbrev DRun (size : Nat) (l : List Bool) (d : DS) (k : Nat) : Prop := Run dstep DS.done (d0 size) l d k
abbrev PRun (l : List Bool) (p : PS) (k : Nat) : Prop := Run pstep PS.done p0 l p k
theorem DRun.ok {size : Nat} {l : List Bool} {d : DS} {k : Nat} (h : DRun size l d k) : d.Ok ∧ d.size = size := by
 obtain ⟨i, h⟩ := h
 induction h with
 | start => exact ⟨d0_ok size, rfl⟩
 | next h hd hs ih =>
   refine ⟨dstep_ok hs ih.1 hd, ?_⟩; rw [← ih.2]; unfold dstep turn at hs
   repeat' split at hs
   all_goals first
     | (cases hs; rfl)
     | cases hs
theorem PRun.ok {l : List Bool} {p : PS} {k : Nat} (h : PRun l p k) : p.Ok := by
 obtain ⟨i, h⟩ := h
 induction h with
 | start => exact p0_ok
 | next h hd hs ih => exact pstep_ok hs ih hd
theorem CRun.ok {size : Nat} {l : List Bool} {c : CS} {L : List Nat} {k : Nat} (h1 : 3 ≤ size) (h2 : size ≤ 258) (h : CRun size l c L k) : c.Ok ∧ c.size = size ∧ (∀ x ∈ L, x < size) := by
 obtain ⟨i, h⟩ := h
 have : ∀ {i : Nat} {x : CS × List Nat} {k : Nat}, RunN cstepL cdone (c0 size, []) l i x k → x.1.Ok ∧ x.1.size = size ∧ (∀ y ∈ x.2, y < size) := by
   intro i x k h
   induction h with
   | start => exact ⟨c0_ok h1 h2, rfl, fun y hy => by cases hy⟩
   | next h hd hs ih =>
     rename_i j x x' k n; obtain ⟨c, L⟩ := x; unfold cstepL at hs; simp only at hs ih
     cases hc : cstep c (l.drop k) with
     | short => rw [hc] at hs; cases hs
     | bad e => rw [hc] at hs; cases hs
     | ok y n' =>
       obtain ⟨c', o⟩ := y; rw [hc] at hs; cases hs; have h3 := cstep_ok hc ih.1; refine ⟨h3.1, h3.2.1.trans ih.2.1, ?_⟩; intro y hy; simp only at hy; rcases List.mem_append.1 hy with h4 | h4
       · exact ih.2.2 y h4
       · cases o with
         | none => cases h4
         | some s =>
           simp at h4; subst h4; have := h3.2.2 y rfl; rw [ih.2.1] at this; exact this
 exact this h
theorem picks_lift {size : Nat} {l : List Bool} {p : PS} {k : Nat} (h : PRun l p k) : CRun size l ⟨size, p, d0 size, [], 0, false⟩ [] k := by
 obtain ⟨i, h⟩ := h
 induction h with
 | start => exact .start
 | next h hd hs ih =>
   refine ih.next rfl ?_; unfold cstepL cstep; simp only [if_pos hd, hs, withPicks, Option.toList_none, List.append_nil]
theorem picks_stop {size : Nat} {l : List Bool} {p : PS} {k : Nat} (hd : p.done = false) : cstep ⟨size, p, d0 size, [], 0, false⟩ (l.drop k) = withPicks ⟨size, p, d0 size, [], 0, false⟩ (pstep p (l.drop k)) := by
 unfold cstep; rw [if_pos hd]
def withL (c : CS) (d : DS) : CS := ⟨c.size, c.picks, d, c.codes, c.count, c.done⟩
def addC (c : CS) (t : List Nat) : CS := ⟨c.size, c.picks, d0 c.size, c.codes ++ [t], c.count, c.done⟩
theorem lens_step {c : CS} {d : DS} {q : List Bool} (hp : c.picks.done = true) (ht : c.codes.length < c.picks.t) : cstep (withL c d) q = withLens (withL c d) (dstep d q) := by
 unfold cstep withL; simp only [hp, ht, if_true, Bool.true_eq_false, if_false]
theorem lens_lift {size : Nat} {l : List Bool} {c : CS} {L : List Nat} {k : Nat} (hp : c.picks.done = true) (ht : c.codes.length < c.picks.t) (hl : c.lens = d0 c.size) (hdn : c.done = false) (hsz : 3 ≤ c.size)
   (hr : CRun size l c L k) {d : DS} {k2 : Nat} (h : DRun c.size (l.drop k) d k2) :
   if d.done = true then
     if share d.lens = 1048576 then CRun size l (addC c d.lens) L (k + k2) else ∃ c' k', CRun size l c' L k' ∧ c'.done = false ∧ cstep c' (l.drop k') = .bad 22
   else CRun size l (withL c d) L (k + k2) := by
 obtain ⟨i, h⟩ := h
 induction h with
 | start =>
   rw [if_neg (by rw [d0_nd hsz]; simp)]
   have : withL c (d0 c.size) = c := by rw [← hl]; rfl
   rw [this]; exact hr
 | next h hd hs ih =>
   rename_i j s s' k2 n; rw [if_neg (by rw [hd]; simp)] at ih; rw [List.drop_drop] at hs; have hst := lens_step (q := l.drop (k + k2)) (d := s) hp ht; rw [hs] at hst; unfold withLens at hst
   by_cases hd' : s'.done = true
   · rw [if_pos hd']; simp only [hd', if_true] at hst
     by_cases hsh : share s'.lens = 1048576
     · rw [if_pos hsh]; rw [if_pos hsh] at hst; rw [← Nat.add_assoc]; refine ih.next (step := cstepL) (done := cdone) hdn ?_; unfold cstepL; simp only [hst, Option.toList_none, List.append_nil]; rfl
     · rw [if_neg hsh]; rw [if_neg hsh] at hst; exact ⟨_, _, ih, hdn, hst⟩
   · rw [if_neg hd']; simp only [show s'.done = false by simpa using hd', Bool.false_eq_true, if_false] at hst; rw [← Nat.add_assoc]; refine ih.next (step := cstepL) (done := cdone) hdn ?_; unfold cstepL; simp only [hst, Option.toList_none, List.append_nil]; rfl
theorem lens_stop {l : List Bool} {c : CS} {k k2 : Nat} {d : DS} (hp : c.picks.done = true) (ht : c.codes.length < c.picks.t) (hs : dstep d ((l.drop k).drop k2) = .short) : cstep (withL c d) (l.drop (k + k2)) = .short := by
 rw [lens_step hp ht, ← List.drop_drop, hs]; rfl
theorem lens_bad {l : List Bool} {c : CS} {k k2 e : Nat} {d : DS} (hp : c.picks.done = true) (ht : c.codes.length < c.picks.t) (hs : dstep d ((l.drop k).drop k2) = .bad e) : cstep (withL c d) (l.drop (k + k2)) = .bad e := by
 rw [lens_step hp ht, ← List.drop_drop, hs]; rfl
def readC (c : CS) (s : Nat) : CS := ⟨c.size, c.picks, c.lens, c.codes, c.count + 1, decide (s = c.size - 1)⟩
theorem sym_step {c : CS} {q : List Bool} (hp : c.picks.done = true) (ht : ¬ c.codes.length < c.picks.t) : cstep c q = if c.picks.picks.length ≤ c.count / 50 then .bad 25 else withSymbol c (getC c.table q) := by
 unfold cstep; rw [if_neg (by rw [hp]; simp), if_neg ht]
theorem sym_next {size : Nat} {l : List Bool} {c : CS} {L : List Nat} {k s n : Nat} (hp : c.picks.done = true) (ht : ¬ c.codes.length < c.picks.t) (hdn : c.done = false) (hg : ¬ c.picks.picks.length ≤ c.count / 50)
   (hr : CRun size l c L k) (hs : getC c.table (l.drop k) = some (s, n)) : CRun size l (readC c s) (L ++ [s]) (k + n) := by
 refine hr.next (step := cstepL) (done := cdone) hdn ?_; unfold cstepL; simp only [sym_step hp ht, if_neg hg, hs, withSymbol, Option.toList_some]; rfl
def Ends (size : Nat) (l : List Bool) (L : List Nat) (r : Res (Nat × List Nat)) : Prop :=
 ∃ c k, CRun size l c L k ∧ ((c.done = true ∧ r = .ok (c.picks.picks.length + c.size * c.codes.length, L) k) ∨ (c.done = false ∧ cstep c (l.drop k) = .short ∧ r = .short) ∨ ∃ e, c.done = false ∧ cstep c (l.drop k) = .bad e ∧ r = .bad e)
theorem cl_short {c : CS} {L : List Nat} {q : List Bool} (h : cstep c q = .short) : cstepL (c, L) q = .short := by unfold cstepL; simp only [h]
theorem cl_bad {c : CS} {L : List Nat} {q : List Bool} {e : Nat} (h : cstep c q = .bad e) : cstepL (c, L) q = .bad e := by unfold cstepL; simp only [h]
theorem ends_stop {l : List Bool} {c : CS} {L : List Nat} {k : Nat} {r : Res (Nat × List Nat)}
   (h : (c.done = true ∧ r = .ok (c.picks.picks.length + c.size * c.codes.length, L) k) ∨ (c.done = false ∧ cstep c (l.drop k) = .short ∧ r = .short) ∨ ∃ e, c.done = false ∧ cstep c (l.drop k) = .bad e ∧ r = .bad e) : Stop cstepL cdone l (c, L) k := by
 rcases h with h | h | ⟨e, h⟩
 · exact stop_done h.1
 · exact stop_short (cl_short h.2.1)
 · exact stop_bad (cl_bad h.2.1)
theorem Ends.det {size : Nat} {l : List Bool} {L L2 : List Nat} {r r2 : Res (Nat × List Nat)} (h : Ends size l L r) (h2 : Ends size l L2 r2) : L = L2 ∧ r = r2 := by
 obtain ⟨c, k, hr, h⟩ := h; obtain ⟨c2, k2, hr2, h2⟩ := h2; obtain ⟨he, rfl⟩ := hr.stop_eq (ends_stop h) hr2 (ends_stop h2); cases he; refine ⟨rfl, ?_⟩
 rcases h with ⟨h1, rfl⟩ | ⟨h1, h3, rfl⟩ | ⟨e, h1, h3, rfl⟩ <;> rcases h2 with ⟨h4, rfl⟩ | ⟨h4, h6, rfl⟩ | ⟨e2, h4, h6, rfl⟩
 · rfl
 · rw [h1] at h4; cases h4
 · rw [h1] at h4; cases h4
 · rw [h1] at h4; cases h4
 · rfl
 · rw [h3] at h6; cases h6
 · rw [h1] at h4; cases h4
 · rw [h3] at h6; cases h6
 · rw [h3] at h6; cases h6; rfl
end Go.Q21
namespace Go.Q22
open Go.M01 Go.Mb Go.Mp Go.M10 Go.Mc Go.Mz Go.Mk Go.Q20 Go.Q21
structure Row1 (size : Nat) (done : Bool) (L : List Nat) : Prop where
 lt : ∀ x ∈ L, x < size
 ne : ∀ j, j + 1 < L.length → L[j]? ≠ some (size - 1)
 last : done = false → ∀ x ∈ L, x ≠ size - 1
 done : done = true → L[L.length - 1]? = some (size - 1) ∧ 0 < L.length
theorem row_of {size : Nat} {l : List Bool} {c : CS} {L : List Nat} {k : Nat} (h1 : 3 ≤ size) (h2 : size ≤ 258) (h : CRun size l c L k) : Row1 size c.done L := by
 obtain ⟨i, h⟩ := h
 have : ∀ {i : Nat} {x : CS × List Nat} {k : Nat}, RunN cstepL cdone (c0 size, []) l i x k → Row1 size x.1.done x.2 := by
   intro i x k h
   induction h with
   | start => exact ⟨fun x h => (by cases h), fun j h => (by simp at h), fun _ x h => (by cases h), fun h => (by cases h)⟩
   | next h hd hs ih =>
     rename_i j x x' k n; have hok := CRun.ok h1 h2 ⟨j, (show RunN cstepL cdone (c0 size, []) l j (x.1, x.2) k from h)⟩; obtain ⟨c, L⟩ := x; unfold cdone at hd; unfold cstepL at hs; simp only at hs ih hok hd
     cases hc : cstep c (l.drop k) with
     | short => rw [hc] at hs; cases hs
     | bad e => rw [hc] at hs; cases hs
     | ok y n' =>
       obtain ⟨c', o⟩ := y; rw [hc] at hs; cases hs
       cases o with
       | none =>
         simp only [Option.toList_none, List.append_nil]; rw [code_none hc]; exact ih
       | some s =>
         have h3 := (cstep_ok hc hok.1).2.2 s rfl; rw [hok.2.1] at h3
         have hcd : c'.done = decide (s = size - 1) := by
           rw [← hok.2.1]; unfold cstep at hc; split at hc
           · unfold withPicks at hc
             split at hc <;> cases hc
           · split at hc
             · unfold withLens at hc
               repeat' split at hc
               all_goals cases hc
             · split at hc
               · cases hc
               · unfold withSymbol at hc; split at hc
                 · cases hc
                 · cases hc; rfl
         simp only [Option.toList_some]; rw [hcd]; have hall := ih.last hd; refine ⟨fun x hx => ?_, fun j hj => ?_, fun hf x hx => ?_, fun ht => ?_⟩
         · rcases List.mem_append.1 hx with h | h
           · exact ih.lt x h
           · rw [List.mem_singleton] at h; subst h; exact h3
         · rw [List.length_append, List.length_singleton] at hj; rw [List.getElem?_append_left (by omega)]; intro he; exact hall _ (List.mem_of_getElem? he) rfl
         · rcases List.mem_append.1 hx with h | h
           · exact hall x h
           · rw [List.mem_singleton] at h; subst h; simpa using hf
         · have : s = size - 1 := by simpa using ht
           refine ⟨?_, by simp⟩; rw [List.length_append, List.length_singleton, Nat.add_sub_cancel, List.getElem?_append_right (Nat.le_refl _), Nat.sub_self, this]; rfl
 exact this h
structure ZAll (n room : Nat) (z : ZS) (pl : List Nat) : Prop where
 ok : z.Ok
 en : z.n = n
 em : z.most = room
 lt : ∀ p ∈ pl, p < n
 len : pl.length = z.told
theorem zput_all {n room c d : Nat} {p : Int} {z z' : ZS} {pl : List Nat} (hz : ZAll n room z pl) (hc : c ≤ n + 1) (h : zput z c = some (z', d, p)) : ZAll n room z' (pl ++ zone d p) ∧ z'.done = decide (c = n + 1) ∧ d ≤ room ∧ (p = -1 ∨ 1 ≤ p) := by
 have hok := zput_ok hz.ok h; have hn := hz.en; have hm := hz.em; have h1 := hz.ok.n1; have hsum := hz.ok.sum; have hlen := hz.len; unfold zput at h; split at h
 · split at h
   · cases h
   · cases h; refine ⟨⟨hok, hn, hm, fun q hq => ?_, ?_⟩, (decide_eq_false (by omega)).symm, by omega, .inl rfl⟩
     · simp [zone] at hq; exact hz.lt q hq
     · simp [zone]; exact hlen
 · split at h
   · rename_i hc2; cases h; refine ⟨⟨hok, hn, hm, fun q hq => ?_, ?_⟩, (decide_eq_true (by omega)).symm, by omega, .inl rfl⟩
     · rcases List.mem_append.1 hq with h | h
       · exact hz.lt q h
       · simp [zone] at h; omega
     · simp [zone]; omega
   · split at h
     · cases h
     · cases h; rename_i hc1 hc2 hc3
       have hp : (0 : Int) < (c : Int) - 1 := by omega
       refine ⟨⟨hok, hn, hm, fun q hq => ?_, ?_⟩, (decide_eq_false (by omega)).symm, by omega, .inr (by omega)⟩
       · rcases List.mem_append.1 hq with h | h
         · exact hz.lt q h
         · rw [zone, if_pos hp] at h; rcases List.mem_append.1 h with h | h
           · rw [List.mem_replicate] at h; omega
           · rw [List.mem_singleton] at h; omega
       · rw [zone, if_pos hp]; simp only [List.length_append, List.length_replicate, List.length_singleton]; omega
theorem z0_all {n room : Nat} (h1 : 1 ≤ n) (h2 : n ≤ 256) (h3 : room ≤ 900000) : ZAll n room (z0 n room) [] := ⟨z0_ok h1 h2 h3, rfl, rfl, fun p h => (by cases h), rfl⟩
structure Upto (n room : Nat) (L : List Nat) (i : Nat) (z : ZS) (pl : List Nat) : Prop where
 all : ZAll n room z pl
 eq : zall (z0 n room) (L.take i) = some (z, pl)
 done : z.done = true ↔ 0 < i ∧ L[i - 1]? = some (n + 1)
theorem upto0 {n room : Nat} (L : List Nat) (h1 : 1 ≤ n) (h2 : n ≤ 256) (h3 : room ≤ 900000) : Upto n room L 0 (z0 n room) [] := ⟨z0_all h1 h2 h3, by simp [zall], ⟨fun h => (by cases h), fun h => absurd h.1 (Nat.lt_irrefl 0)⟩⟩
theorem upto_next {n room i c d : Nat} {p : Int} {L : List Nat} {z z' : ZS} {pl : List Nat} (h : Upto n room L i z pl) (hc : L[i]? = some c) (hl : c ≤ n + 1) (hz : zput z c = some (z', d, p)) : Upto n room L (i + 1) z' (pl ++ zone d p) := by
 have h1 := zput_all h.all hl hz; refine ⟨h1.1, ?_, ?_⟩
 · rw [take_snoc hc, zall_snoc, h.eq]; simp only [zstep, hz]
 · rw [h1.2.1, Nat.add_sub_cancel, hc, decide_eq_true_iff]; exact ⟨fun h => ⟨by omega, by rw [h]⟩, fun h => by simpa using h.2⟩
theorem zall_none {n room : Nat} {z : ZS} {L : List Nat} {i : Nat} : zall z (L.take i) = none → zall z L = none := by
 intro h
 have : ∀ t : List Nat, t.foldl zstep none = none := by
   intro t
   induction t with
   | nil => rfl
   | cons x t ih => rw [List.foldl_cons]; exact ih
 unfold zall at h ⊢; rw [← List.take_append_drop i L, List.foldl_append, h, this]
theorem upto_bad {n room i c : Nat} {L : List Nat} {z : ZS} {pl : List Nat} (h : Upto n room L i z pl) (hc : L[i]? = some c) (hz : zput z c = none) : zall (z0 n room) L = none := by
 refine zall_none (n := n) (room := room) (i := i + 1) ?_; rw [take_snoc hc, zall_snoc, h.eq]; simp only [zstep, hz]
theorem upto_all {n room : Nat} {L : List Nat} {z : ZS} {pl : List Nat} (h : Upto n room L L.length z pl) : zall (z0 n room) L = some (z, pl) := by
 have := h.eq
 rwa [List.take_length] at this
theorem upto_nd {n room i : Nat} {L : List Nat} {z : ZS} {pl : List Nat} {done : Bool} (h : Upto n room L i z pl) (hr : Row1 (n + 2) done L) (hi : i < L.length) : z.done = false := by
 cases hd : z.done with
 | false => rfl
 | true =>
   have := h.done.1 hd; exact absurd this.2 (hr.ne (i - 1) (by omega))
theorem zput_row {z : ZS} {row : List Nat} {c : Nat} (hr : ZRow z row) (hc : c ≤ 1) : zput z c = if z.most < z.told + (valR (row ++ [c])).1 then none else some (⟨z.n, z.most, z.told, (valR (row ++ [c])).1, (valR (row ++ [c])).2, false⟩, 0, -1) := by
 unfold zput; rw [if_pos hc, hr.zeros, hr.weight, valR_snoc, Nat.mul_comm (valR row).2 2, Nat.add_assoc]
theorem row_snoc {z : ZS} {row : List Nat} {c : Nat} (hr : ZRow z row) (hc : c ≤ 1) (n most told : Nat) (done : Bool) : ZRow ⟨n, most, told, (valR (row ++ [c])).1, (valR (row ++ [c])).2, done⟩ (row ++ [c]) :=
 ⟨rfl, rfl, fun x hx => by
   rcases List.mem_append.1 hx with h | h
   · exact hr.two x h
   · rw [List.mem_singleton] at h; omega⟩
theorem mall_len {o : List UInt8} : ∀ (pl : List Nat), (∀ p ∈ pl, p < o.length) → (mall o pl).1.length = o.length ∧ (mall o pl).2.length = pl.length := by
 intro pl; refine snocRec (motive := fun pl => (∀ p ∈ pl, p < o.length) → (mall o pl).1.length = o.length ∧ (mall o pl).2.length = pl.length) pl (fun _ => ⟨rfl, rfl⟩) fun t c ih h => ?_; have h1 := ih fun x hx => h x (List.mem_append_left _ hx); have h2 := h c (by simp); rw [mall_snoc, mstep]; refine ⟨?_, ?_⟩
 · rw [frontB_len (by omega)]; exact h1.1
 · simp [h1.2]
end Go.Q22
namespace Go.Q23
open Go.M01 Go.Mb Go.Mp Go.M10 Go.Mc Go.Mz Go.Mk Go.Q20 Go.Q21 Go.Q22
theorem pstep_pos {p p' : PS} {l : List Bool} {n : Nat} (h : pstep p l = .ok p' n) : 1 ≤ n := by
 unfold pstep at h
 repeat' split at h
 all_goals first
   | (cases h; omega)
   | cases h
theorem dstep_pos {p p' : DS} {l : List Bool} {n : Nat} (h : dstep p l = .ok p' n) : 1 ≤ n := by
 unfold dstep turn at h
 repeat' split at h
 all_goals first
   | (cases h; omega)
   | cases h
theorem cstep_pos {c c' : CS} {l : List Bool} {o : Option Nat} {n : Nat} (hc : c.Ok) (h : cstep c l = .ok (c', o) n) : 1 ≤ n := by
 unfold cstep at h; split at h
 · unfold withPicks at h; split at h
   · cases h
   · cases h
   · rename_i p k hp; cases h; exact pstep_pos hp
 · rename_i hd; split at h
   · unfold withLens at h; split at h
     · cases h
     · cases h
     · rename_i d k hdl
       repeat' split at h
       all_goals first
         | (cases h; exact dstep_pos hdl)
         | cases h
   · rename_i hlt; split at h
     · cases h
     · rename_i hg; unfold withSymbol at h; split at h
       · cases h
       · rename_i s k hs; cases h; obtain ⟨x, h1, h2, h3, h4, h5⟩ := pick_lt hc (by simpa using hd) hlt hg; exact (code_get h4 hs).2.2.1
theorem uread_pos {l : List Bool} {T : Nat → Bool} {n : Nat} (h : uread l = .ok T n) : 1 ≤ n ∧ n ≤ l.length ∧ listed T ≠ [] := by
 unfold uread at h; split at h
 · cases h
 · split at h
   · cases h
   · split at h
     · cases h
     · cases h; exact ⟨by omega, by omega, by assumption⟩
theorem bend_last {b b' : BS} {k k' : Nat} (h : bend b k = .ok b' k') : k' = k ∧ b'.last = b.last ∧ b'.room = b.room := by
 unfold bend at h
 repeat' split at h
 all_goals first
   | (cases h; exact ⟨rfl, rfl, rfl⟩)
   | cases h
theorem bstep_prog {b b' : BS} {l : List Bool} {n : Nat} (hb : b.Ok) (h : bstep b l = .ok b' n) : b'.room = b.room ∧ ((1 ≤ n ∧ b'.last = b.last) ∨ (n = 0 ∧ b'.last.length = b.last.length + 1)) := by
 unfold bstep at h; split at h
 · unfold bhead at h; split at h
   · cases h
   · split at h
     · cases h
     · have := bend_last h; exact ⟨this.2.2, .inl ⟨by omega, this.2.1⟩⟩
 · split at h
   · unfold buse at h; split at h
     · cases h
     · cases h
     · rename_i T k hu; have := bend_last h; exact ⟨this.2.2, .inl ⟨by have := uread_pos hu; omega, this.2.1⟩⟩
   · rename_i r hr; split at h
     · unfold bnext at h; have := bend_last h; exact ⟨this.2.2, .inr ⟨this.1, by rw [this.2.1]; simp⟩⟩
     · unfold bsym at h; have hco := (hb.some_ r hr).2.1.code; split at h
       · cases h
       · cases h
       · rename_i c k hc; have := bend_last h; exact ⟨this.2.2, .inl ⟨by have := cstep_pos hco hc; omega, this.2.1⟩⟩
       · rename_i c s k hc; unfold btold at h; split at h
         · cases h
         · have := bend_last h; exact ⟨this.2.2, .inl ⟨by have := cstep_pos hco hc; omega, this.2.1⟩⟩
theorem last_room {b : BS} (hb : b.Ok) : b.last.length ≤ b.room := by
 cases hr : b.row with
 | none => rw [(hb.none_ hr).1]; exact Nat.zero_le _
 | some r =>
   obtain ⟨h1, h2, h3, h4, h5⟩ := hb.some_ r hr; have := h2.zeros.sum; omega
section
variable {room : Nat} {l : List Bool}
theorem says_none {T : Nat → Bool} {n : Nat} {L : List Nat} {r : Res (Nat × List Nat)} (h : ¬ l.length < 57) (hb : l.getD 32 false = false) (hu : uread (l.drop 57) = .ok T n)
   (he : Q21.Ends ((listed T).length + 2) (l.drop (57 + n)) L r) (hz : zall (z0 (listed T).length room) L = none) : Says room l (.bad 25) := by
 obtain ⟨c, k, hr, he⟩ := he; exact .codes h hb hu hr (ends_stop he) hz
theorem says_short {T : Nat → Bool} {n : Nat} {L : List Nat} (h : ¬ l.length < 57) (hb : l.getD 32 false = false) (hu : uread (l.drop 57) = .ok T n)
   (he : Q21.Ends ((listed T).length + 2) (l.drop (57 + n)) L .short) (hz : zall (z0 (listed T).length room) L ≠ none) : Says room l (.bad 3) := by
 obtain ⟨c, k, hr, he | he | ⟨e, he⟩⟩ := he
 · cases he.2
 · exact .cshort h hb hu hr he.1 he.2.1 hz
 · cases he.2.2
theorem says_bad {T : Nat → Bool} {n e : Nat} {L : List Nat} (h : ¬ l.length < 57) (hb : l.getD 32 false = false) (hu : uread (l.drop 57) = .ok T n)
   (he : Q21.Ends ((listed T).length + 2) (l.drop (57 + n)) L (.bad e)) (hz : zall (z0 (listed T).length room) L ≠ none) : Says room l (.bad e) := by
 obtain ⟨c, k, hr, he | he | ⟨e', he⟩⟩ := he
 · cases he.2
 · cases he.2.2
 · cases he.2.2; exact .cbad h hb hu hr he.1 he.2.1 hz
theorem says_orig {T : Nat → Bool} {n k held : Nat} {L pl : List Nat} {z : ZS} (h : ¬ l.length < 57) (hb : l.getD 32 false = false) (hu : uread (l.drop 57) = .ok T n)
   (he : Q21.Ends ((listed T).length + 2) (l.drop (57 + n)) L (.ok (held, L) k)) (hz : zall (z0 (listed T).length room) L = some (z, pl)) (ho : (mall (listed T) pl).2.length ≤ valB ((l.drop 33).take 24)) : Says room l (.bad 23) := by
 obtain ⟨c, k, hr, he | he | ⟨e', he⟩⟩ := he
 · exact .orig h hb hu hr he.1 hz ho
 · cases he.2.2
 · cases he.2.2
theorem says_got {T : Nat → Bool} {n k held : Nat} {L pl : List Nat} {z : ZS} (h : ¬ l.length < 57) (hb : l.getD 32 false = false) (hu : uread (l.drop 57) = .ok T n)
   (he : Q21.Ends ((listed T).length + 2) (l.drop (57 + n)) L (.ok (held, L) k)) (hz : zall (z0 (listed T).length room) L = some (z, pl)) (ho : ¬ (mall (listed T) pl).2.length ≤ valB ((l.drop 33).take 24)) :
   Says room l (.got (mall (listed T) pl).2 (valB ((l.drop 33).take 24)) (valB (l.take 32)) (57 + n + k) (held + (mall (listed T) pl).2.length)) := by
 obtain ⟨c, k', hr, he | he | ⟨e', he⟩⟩ := he
 · obtain ⟨h1, h2⟩ := he; cases h2; exact .got h hb hu hr h1 hz ho
 · cases he.2.2
 · cases he.2.2
theorem ends_row {size : Nat} {L : List Nat} {r : Res (Nat × List Nat)} (h1 : 3 ≤ size) (h2 : size ≤ 258) (he : Q21.Ends size l L r) : ∃ d, Row1 size d L := by
 obtain ⟨c, k, hr, he⟩ := he; exact ⟨_, row_of h1 h2 hr⟩
theorem ends_done {size k held : Nat} {L : List Nat} (h1 : 3 ≤ size) (h2 : size ≤ 258) (he : Q21.Ends size l L (.ok (held, L) k)) : Row1 size true L := by
 obtain ⟨c, k', hr, he | he | ⟨e', he⟩⟩ := he
 · have := row_of h1 h2 hr
   rwa [he.1] at this
 · cases he.2.2
 · cases he.2.2
theorem zall_lt {n : Nat} {done : Bool} {L : List Nat} {z : ZS} {pl : List Nat} (hr : Row1 (n + 2) done L) (h1 : 1 ≤ n) (h2 : n ≤ 256) (h3 : room ≤ 900000) (hz : zall (z0 n room) L = some (z, pl)) : ZAll n room z pl := by
 have key : ∀ i, i ≤ L.length → ∃ z' pl', Upto n room L i z' pl' := by
   intro i
   induction i with
   | zero => exact fun _ => ⟨_, _, upto0 L h1 h2 h3⟩
   | succ i ih =>
     intro hi; obtain ⟨z', pl', hu⟩ := ih (by omega)
     have hlt : i < L.length := by omega
     have hg : L[i]? = some L[i] := List.getElem?_eq_getElem hlt; have hc := hr.lt _ (List.getElem_mem hlt)
     cases hp : zput z' L[i] with
     | none => rw [upto_bad hu hg hp] at hz; cases hz
     | some y =>
       obtain ⟨z2, d, p⟩ := y; exact ⟨_, _, upto_next hu hg (by omega) hp⟩
 obtain ⟨z', pl', hu⟩ := key L.length (Nat.le_refl _); have := upto_all hu; rw [hz] at this; cases this; exact hu.all
end
end Go.Q23
namespace Go.M18
def blw (l : List UInt8) (b : Nat) : Nat := l.countP fun c => decide (c.toNat < b)
def cntB (l : List UInt8) (b : Nat) : Nat := l.countP fun c => c.toNat == b
def nx (l : List UInt8) (s : Nat) (b : Nat) : Nat := if s < l.length then cntB (l.take s) b else blw l b + cntB (l.take (s - l.length)) b
def nxL (l : List UInt8) (s : Nat) : List Nat := (List.range 256).map (nx l s)
def pos (l : List UInt8) (j : Nat) : Nat := blw l (l.getD j 0).toNat + cntB (l.take j) (l.getD j 0).toNat
def lnk (l : List UInt8) : Nat → List Nat
 | 0 => List.replicate l.length 0
 | i + 1 => (lnk l i).set (pos l i) i
def lnS (l : List UInt8) (s : Nat) : List Nat := lnk l (min (s - l.length) l.length)
def links (l : List UInt8) : List Nat := lnk l l.length
def atK (l : List UInt8) (o : Nat) : Nat → Nat
 | 0 => o
 | k + 1 => (links l).getD (atK l o k) 0
def outK (l : List UInt8) (o : Nat) : Nat → List UInt8
 | 0 => []
 | k + 1 => outK l o k ++ [l.getD (atK l o (k + 1)) 0]
def text (l : List UInt8) (o : Nat) : List UInt8 := outK l o l.length
def exB (f : Nat → Nat) : Nat → Nat
 | 0 => 0
 | b + 1 => exB f b + f b
theorem blw_le (l : List UInt8) (b : Nat) : blw l b ≤ l.length := List.countP_le_length
theorem cnt_le (l : List UInt8) (b : Nat) : cntB l b ≤ l.length := List.countP_le_length
theorem blw_succ (l : List UInt8) (b : Nat) : blw l (b + 1) = blw l b + cntB l b := by
 unfold blw cntB
 induction l with
 | nil => rfl
 | cons c l ih =>
   simp only [List.countP_cons, ih]
   by_cases h1 : c.toNat < b
   · have h2 : ¬ c.toNat = b := by omega
     have h3 : c.toNat < b + 1 := by omega
     simp [h1, h2, h3]; omega
   · by_cases h2 : c.toNat = b
     · have h3 : c.toNat < b + 1 := by omega
       simp [h1, h2, h3]; omega
     · have h3 : ¬ c.toNat < b + 1 := by omega
       simp [h1, h2, h3]
theorem blw_zero (l : List UInt8) : blw l 0 = 0 := by
 unfold blw; rw [List.countP_eq_zero]; intro c _; simp
theorem take_succ' (l : List UInt8) (i : Nat) (h : i < l.length) : l.take (i + 1) = l.take i ++ [l.getD i 0] := by
 rw [List.take_add_one, List.getElem?_eq_getElem h]; simp [List.getD, h]
theorem cnt_take_succ (l : List UInt8) (i b : Nat) (h : i < l.length) : cntB (l.take (i + 1)) b = cntB (l.take i) b + if (l.getD i 0).toNat = b then 1 else 0 := by
 rw [take_succ' l i h]; unfold cntB; rw [List.countP_append]
 congr 1
 simp [List.countP_cons]
theorem cnt_take_le (l : List UInt8) (i b : Nat) : cntB (l.take i) b ≤ cntB l b := by
 unfold cntB; exact List.Sublist.countP_le (List.take_sublist i l)
theorem cnt_take_lt (l : List UInt8) (i : Nat) (h : i < l.length) : cntB (l.take i) (l.getD i 0).toNat < cntB l (l.getD i 0).toNat := by
 have h1 := cnt_take_succ l i (l.getD i 0).toNat h; have h2 := cnt_take_le l (i + 1) (l.getD i 0).toNat; simp at h1; simp at h2; simp only [List.getD] at *; omega
theorem pos_lt (l : List UInt8) (i : Nat) (h : i < l.length) : pos l i < l.length := by
 unfold pos; have h1 := cnt_take_lt l i h; have h2 := blw_le l ((l.getD i 0).toNat + 1); rw [blw_succ] at h2; omega
theorem lnk_len (l : List UInt8) (i : Nat) : (lnk l i).length = l.length := by
 induction i with
 | zero => simp [lnk]
 | succ i ih => simp [lnk, ih]
theorem lnk_lt (l : List UInt8) : ∀ (i : Nat), i ≤ l.length → ∀ x ∈ lnk l i, x < max l.length 1
 | 0, _, x, hx => by simp [lnk] at hx; omega
 | i + 1, h, x, hx => by
   rcases List.mem_or_eq_of_mem_set hx with h1 | h1
   · exact lnk_lt l i (by omega) x h1
   · omega
theorem links_lt (l : List UInt8) (a : Nat) (h : 0 < l.length) : (links l).getD a 0 < l.length := by
 rcases Nat.lt_or_ge a (links l).length with ha | ha
 · have := lnk_lt l l.length (Nat.le_refl _) ((links l)[a]) (List.getElem_mem ha); simp [List.getD, ha]; omega
 · simp [List.getD, List.getElem?_eq_none ha]; exact h
theorem atK_lt (l : List UInt8) (o : Nat) (ho : o < l.length) : ∀ k, atK l o k < l.length
 | 0 => ho
 | k + 1 => links_lt l _ (by omega)
theorem outK_len (l : List UInt8) (o : Nat) (k : Nat) : (outK l o k).length = k := by
 induction k with
 | zero => rfl
 | succ k ih => simp [outK, ih]
theorem nxL_len (l : List UInt8) (s : Nat) : (nxL l s).length = 256 := by simp [nxL]
theorem nxL_get (l : List UInt8) (s b : Nat) (h : b < 256) : (nxL l s)[b]? = some (nx l s b) := by simp [nxL, h]
theorem nx_le (l : List UInt8) (s b : Nat) : nx l s b ≤ 2 * l.length := by
 unfold nx; split
 · have := cnt_le (l.take s) b; simp at this; omega
 · have := blw_le l b; have := cnt_le (l.take (s - l.length)) b; simp at this; omega
theorem byte_lt (l : List UInt8) (i : Nat) : (l.getD i 0).toNat < 256 := UInt8.toNat_lt _
theorem nx_lo {l : List UInt8} {s b : Nat} (h : s < l.length) : nx l s b = cntB (l.take s) b := if_pos h
theorem nx_hi {l : List UInt8} {s b : Nat} (h : l.length ≤ s) : nx l s b = blw l b + cntB (l.take (s - l.length)) b := if_neg (by omega)
theorem nxL_count (l : List UInt8) (s : Nat) (h : s + 1 < l.length) : (nxL l s).set (l.getD s 0).toNat (nx l s (l.getD s 0).toNat + 1) = nxL l (s + 1) := by
 have hb := byte_lt l s; apply List.ext_getElem?; intro j; rw [List.getElem?_set, nxL_len]
 by_cases hj : j < 256
 · rw [nxL_get _ _ _ hj, nxL_get _ _ _ hj, nx_lo (by omega), nx_lo (by omega), nx_lo (by omega), cnt_take_succ l s j (by omega)]
   by_cases e : (l.getD s 0).toNat = j
   · rw [e, if_pos rfl, if_pos hj, if_pos rfl]
   · rw [if_neg e, if_neg e, Nat.add_zero]
 · have h1 : (l.getD s 0).toNat ≠ j := by omega
   rw [if_neg h1, List.getElem?_eq_none (by rw [nxL_len]; omega), List.getElem?_eq_none (by rw [nxL_len]; omega)]
theorem nxL_begin (l : List UInt8) (s : Nat) (h : s + 1 = l.length) :
   (List.range 256).map (exB fun b => ((nxL l s).set (l.getD s 0).toNat (nx l s (l.getD s 0).toNat + 1)).getD b 0) = nxL l (s + 1) := by
 have hc : ∀ b, b < 256 → ((nxL l s).set (l.getD s 0).toNat (nx l s (l.getD s 0).toNat + 1)).getD b 0 = cntB l b := by
   intro b hb
   have ht : cntB l b = cntB (l.take (s + 1)) b := by rw [h, List.take_length]
   have hg : ((nxL l s).set (l.getD s 0).toNat (nx l s (l.getD s 0).toNat + 1))[b]? = some (cntB (l.take (s + 1)) b) := by
     rw [List.getElem?_set, nxL_len, nxL_get _ _ _ hb, nx_lo (by omega), nx_lo (by omega), cnt_take_succ l s b (by omega)]
     by_cases e : (l.getD s 0).toNat = b
     · rw [e, if_pos rfl, if_pos hb, if_pos rfl]
     · rw [if_neg e, if_neg e, Nat.add_zero]
   rw [ht]; rw [List.getD_eq_getElem?_getD, hg]; rfl
 have he : ∀ b, b ≤ 256 → exB (fun b => ((nxL l s).set (l.getD s 0).toNat (nx l s (l.getD s 0).toNat + 1)).getD b 0) b = blw l b := by
   intro b
   induction b with
   | zero => intro _; exact (blw_zero l).symm
   | succ b ih => intro hb; rw [exB, ih (by omega), hc b (by omega), blw_succ]
 show _ = (List.range 256).map (nx l (s + 1)); apply List.map_congr_left; intro b hb; rw [List.mem_range] at hb; rw [he b (by omega), nx_hi (by omega), show s + 1 - l.length = 0 by omega]; simp [cntB]
theorem nxL_link (l : List UInt8) (s : Nat) (h1 : l.length ≤ s) (h2 : s < 2 * l.length) :
   (nxL l s).set (l.getD (s - l.length) 0).toNat (nx l s (l.getD (s - l.length) 0).toNat + 1) = nxL l (s + 1) := by
 apply List.ext_getElem?; intro j; rw [List.getElem?_set, nxL_len]
 by_cases hj : j < 256
 · rw [nxL_get _ _ _ hj, nxL_get _ _ _ hj, nx_hi (by omega), nx_hi (by omega), nx_hi (by omega), show s + 1 - l.length = (s - l.length) + 1 by omega, cnt_take_succ l _ j (by omega)]
   by_cases e : (l.getD (s - l.length) 0).toNat = j
   · rw [e, if_pos rfl, if_pos hj, if_pos rfl, Nat.add_assoc]
   · rw [if_neg e, if_neg e, Nat.add_zero]
 · have h3 : (l.getD (s - l.length) 0).toNat ≠ j := by have := byte_lt l (s - l.length); omega
   rw [if_neg h3, List.getElem?_eq_none (by rw [nxL_len]; omega), List.getElem?_eq_none (by rw [nxL_len]; omega)]
theorem nx_pos (l : List UInt8) (s : Nat) (h1 : l.length ≤ s) : nx l s (l.getD (s - l.length) 0).toNat = pos l (s - l.length) := by
 rw [nx_hi h1]; rfl
theorem lnS_link (l : List UInt8) (s : Nat) (h1 : l.length ≤ s) (h2 : s < 2 * l.length) : (lnS l s).set (pos l (s - l.length)) (s - l.length) = lnS l (s + 1) := by
 unfold lnS; rw [Nat.min_eq_left (by omega), Nat.min_eq_left (by omega), show s + 1 - l.length = (s - l.length) + 1 by omega]; rfl
theorem lnS_low (l : List UInt8) (s : Nat) (h : s < l.length) : lnS l s = lnS l (s + 1) := by
 unfold lnS; rw [show s - l.length = 0 by omega, show s + 1 - l.length = 0 by omega]
theorem lnS_high (l : List UInt8) (s : Nat) (h : 2 * l.length ≤ s) : lnS l s = links l := by
 unfold lnS links; rw [Nat.min_eq_right (by omega)]
theorem nxL_high (l : List UInt8) (s : Nat) (h : 2 * l.length ≤ s) : nxL l s = nxL l (s + 1) := by
 unfold nxL; apply List.map_congr_left; intro b _; rcases Nat.lt_or_ge s l.length with h3 | h3
 · omega
 · rw [nx_hi h3, nx_hi (by omega), List.take_of_length_le (by omega), List.take_of_length_le (by omega)]
theorem lnS_len (l : List UInt8) (s : Nat) : (lnS l s).length = l.length := lnk_len _ _
theorem set_mid {α : Type} (f : Nat → α) (l : List α) (j : Nat) (h : j < l.length) : ((List.range j).map f ++ l.drop j).set j (f j) = (List.range (j + 1)).map f ++ l.drop (j + 1) := by
 have hl0 : ((List.range j).map f).length = j := by simp
 rw [List.set_append_right _ _ (by omega), hl0, Nat.sub_self, List.drop_eq_getElem_cons h, List.set_cons_zero, List.range_succ, List.map_append, List.append_assoc]; rfl
def cnL (l : List UInt8) (i : Nat) : List Nat := (List.range 256).map (cntB (l.take i))
theorem cnt_take_le2 (l : List UInt8) (i b : Nat) : cntB (l.take i) b ≤ l.length := Nat.le_trans (cnt_take_le l i b) (cnt_le l b)
end Go.M18
namespace Go.Ev
open Go Go.Vc
inductive X where
 | b (v : Bool)
 | i (k : IntKind) (n : Int)
 | s (l : List Nat)
 | p (a : Option (Nat × Nat))
 | l (a : Option (Nat × Nat)) (n c : Nat)
 | ni
 | nf
 | fc (t : TypeId) (x : X)
 | g (xs : List X)
 | t (xs : List X)
 | f (fn : Fn) (a c : List X)
 | m (a : Option Nat)
 | e0 (b o q : Nat)
abbrev Sg := Nat → Option (Nat × Nat × Nat)
def str (l : List Nat) : ByteArray := ⟨(l.map UInt8.ofNat).toArray⟩
mutual
def vl (σ : Sg) : X → Option Value
 | .b v => some (.bool v)
 | .i k n => some (.int k n)
 | .s l => some (.string (str l))
 | .p none => some (.pointer none)
 | .p (some a) => match σ a.1 with
   | some r => some (.pointer (some ⟨r.1, r.2.1 + a.2, none⟩))
   | none => none
 | .l none n c => some (.slice none n c)
 | .l (some a) n c => match σ a.1 with
   | some r => some (.slice (some ⟨r.1, r.2.1 + a.2, none⟩) n (c + r.2.2))
   | none => none
 | .ni => some .nilIface
 | .nf => some .nilFunc
 | .fc t x => match vl σ x with
   | some v => some (.iface t v)
   | none => none
 | .g xs => match vls σ xs with
   | some vs => some (.agg vs.toArray)
   | none => none
 | .t xs => match vls σ xs with
   | some vs => some (.tuple vs.toArray)
   | none => none
 | .f fn a c => match vls σ a, vls σ c with
   | some us, some vs => some (.func fn us.toArray vs.toArray)
   | _, _ => none
 | .m none => some (.map none)
 | .m (some b) => match σ b with
   | some r => some (.map (some r.1))
   | none => none
 | .e0 b o q => match σ b with
   | some r => some (.slice (some ⟨r.1, r.2.1 + (if r.2.2 = 0 then o else q), none⟩) 0 r.2.2)
   | none => none
def vls (σ : Sg) : List X → Option (List Value)
 | [] => some []
 | x :: r => match vl σ x, vls σ r with
   | some v, some vs => some (v :: vs)
   | _, _ => none
end
def Ext (σ σ' : Sg) : Prop := ∀ n r, σ n = some r → σ' n = some r
theorem Ext.refl (σ : Sg) : Ext σ σ := fun _ _ h => h
theorem Ext.trans {a b c : Sg} (h : Ext a b) (k : Ext b c) : Ext a c := fun n r e => k n r (h n r e)
mutual
theorem vl_ext {σ σ' : Sg} (h : Ext σ σ') : ∀ (x : X) (v : Value), vl σ x = some v → vl σ' x = some v
 | .b _, _, e => e
 | .i _ _, _, e => e
 | .s _, _, e => e
 | .p none, _, e => e
 | .p (some a), v, e => by
   simp only [vl] at e ⊢
   cases hs : σ a.1 with
   | none => rw [hs] at e; cases e
   | some r => rw [hs] at e; rw [h _ _ hs]; exact e
 | .l none _ _, _, e => e
 | .l (some a) n c, v, e => by
   simp only [vl] at e ⊢
   cases hs : σ a.1 with
   | none => rw [hs] at e; cases e
   | some r => rw [hs] at e; rw [h _ _ hs]; exact e
 | .ni, _, e => e
 | .nf, _, e => e
 | .fc t x, v, e => by
   simp only [vl] at e ⊢
   cases hs : vl σ x with
   | none => rw [hs] at e; cases e
   | some u => rw [hs] at e; rw [vl_ext h x u hs]; exact e
 | .g xs, v, e => by
   simp only [vl] at e ⊢
   cases hs : vls σ xs with
   | none => rw [hs] at e; cases e
   | some u => rw [hs] at e; rw [vls_ext h xs u hs]; exact e
 | .t xs, v, e => by
   simp only [vl] at e ⊢
   cases hs : vls σ xs with
   | none => rw [hs] at e; cases e
   | some u => rw [hs] at e; rw [vls_ext h xs u hs]; exact e
 | .f fn a c, v, e => by
   simp only [vl] at e ⊢
   cases hs : vls σ a with
   | none => rw [hs] at e; cases e
   | some u =>
     cases hc : vls σ c with
     | none => rw [hs, hc] at e; cases e
     | some u' => rw [hs, hc] at e; rw [vls_ext h a u hs, vls_ext h c u' hc]; exact e
 | .m none, _, e => e
 | .m (some b), v, e => by
   simp only [vl] at e ⊢
   cases hs : σ b with
   | none => rw [hs] at e; cases e
   | some r => rw [hs] at e; rw [h _ _ hs]; exact e
 | .e0 b o q, v, e => by
   simp only [vl] at e ⊢
   cases hs : σ b with
   | none => rw [hs] at e; cases e
   | some r => rw [hs] at e; rw [h _ _ hs]; exact e
theorem vls_ext {σ σ' : Sg} (h : Ext σ σ') : ∀ (xs : List X) (vs : List Value), vls σ xs = some vs → vls σ' xs = some vs
 | [], _, e => e
 | x :: r, vs, e => by
   simp only [vls] at e ⊢
   cases hx : vl σ x with
   | none => rw [hx] at e; cases e
   | some u =>
     cases hr : vls σ r with
     | none => rw [hx, hr] at e; cases e
     | some us => rw [hx, hr] at e; rw [vl_ext h x u hx, vls_ext h r us hr]; exact e
end
theorem vls_cons {σ : Sg} {x : X} {r : List X} {vs : List Value} (h : vls σ (x :: r) = some vs) : ∃ v us, vl σ x = some v ∧ vls σ r = some us ∧ vs = v :: us := by
 simp only [vls] at h
 cases hx : vl σ x with
 | none => rw [hx] at h; cases h
 | some u =>
   cases hr : vls σ r with
   | none => rw [hx, hr] at h; cases h
   | some us => rw [hx, hr] at h; exact ⟨u, us, rfl, rfl, (Option.some.inj h).symm⟩
theorem vls_mk {σ : Sg} {x : X} {r : List X} {v : Value} {us : List Value} (h1 : vl σ x = some v) (h2 : vls σ r = some us) : vls σ (x :: r) = some (v :: us) := by
 simp only [vls, h1, h2]
theorem vls_len {σ : Sg} : ∀ {xs : List X} {vs : List Value}, vls σ xs = some vs → xs.length = vs.length
 | [], vs, h => by simp only [vls, Option.some.injEq] at h; subst h; rfl
 | x :: r, vs, h => by
   obtain ⟨v, us, _, h2, rfl⟩ := vls_cons h; simp [vls_len h2]
theorem vls_app {σ : Sg} : ∀ {xs ys : List X} {us vs : List Value}, vls σ xs = some us → vls σ ys = some vs → vls σ (xs ++ ys) = some (us ++ vs)
 | [], ys, us, vs, h, k => by simp only [vls, Option.some.injEq] at h; subst h; exact k
 | x :: r, ys, us, vs, h, k => by
   obtain ⟨v, us', h1, h2, rfl⟩ := vls_cons h; exact vls_mk h1 (vls_app h2 k)
theorem vls_get {σ : Sg} : ∀ {xs : List X} {vs : List Value} {i : Nat} {x : X}, vls σ xs = some vs → xs[i]? = some x → ∃ v, vs[i]? = some v ∧ vl σ x = some v
 | y :: r, vs, 0, x, h, e => by
   obtain ⟨v, us, h1, h2, rfl⟩ := vls_cons h; simp at e; subst e; exact ⟨v, rfl, h1⟩
 | y :: r, vs, i + 1, x, h, e => by
   obtain ⟨v, us, h1, h2, rfl⟩ := vls_cons h; obtain ⟨u, e1, e2⟩ := vls_get h2 (by simpa using e); exact ⟨u, by simpa using e1, e2⟩
theorem vls_set {σ : Sg} : ∀ {xs : List X} {vs : List Value} (i : Nat) {x : X} {v : Value}, vls σ xs = some vs → vl σ x = some v → vls σ (xs.set i x) = some (vs.set i v)
 | [], vs, i, x, v, h, k => by simp only [vls, Option.some.injEq] at h; subst h; rfl
 | y :: r, vs, 0, x, v, h, k => by
   obtain ⟨u, us, h1, h2, rfl⟩ := vls_cons h; exact vls_mk k h2
 | y :: r, vs, i + 1, x, v, h, k => by
   obtain ⟨u, us, h1, h2, rfl⟩ := vls_cons h; exact vls_mk h1 (vls_set i h2 k)
theorem vls_drop {σ : Sg} : ∀ {xs : List X} {vs : List Value} (n : Nat), vls σ xs = some vs → vls σ (xs.drop n) = some (vs.drop n)
 | xs, vs, 0, h => by simpa using h
 | [], vs, n + 1, h => by simp only [vls, Option.some.injEq] at h; subst h; rfl
 | y :: r, vs, n + 1, h => by
   obtain ⟨u, us, h1, h2, rfl⟩ := vls_cons h; simpa using vls_drop n h2
theorem vls_take {σ : Sg} : ∀ {xs : List X} {vs : List Value} (n : Nat), vls σ xs = some vs → vls σ (xs.take n) = some (vs.take n)
 | xs, vs, 0, h => by simp [vls]
 | [], vs, n + 1, h => by simp only [vls, Option.some.injEq] at h; subst h; rfl
 | y :: r, vs, n + 1, h => by
   obtain ⟨u, us, h1, h2, rfl⟩ := vls_cons h; simpa using vls_mk h1 (vls_take n h2)
noncomputable section
inductive T (α : Type) where
 | e
 | lf (k : Nat) (v : α)
 | nd (a b : T α)
def T.get {α : Type} (t : T α) : Nat → Nat → Option α :=
 @T.rec α (fun _ => Nat → Nat → Option α) (fun _ _ => none) (fun k v _ q => @Bool.rec (fun _ => Option α) none (some v) (Nat.beq k q))
   (fun _ _ ga gb i q => @Nat.rec (fun _ => Option α) (ga (Nat.div i 2) q) (fun _ _ => gb (Nat.div i 2) q) (Nat.mod i 2)) t
def T.set {α : Type} (d : Nat) : T α → Nat → Nat → α → T α :=
 @Nat.rec (fun _ => T α → Nat → Nat → α → T α) (fun _ _ k v => .lf k v)
   (fun _ ih t i k v => @T.rec α (fun _ => T α) (@Nat.rec (fun _ => T α) (.nd (ih .e (Nat.div i 2) k v) .e) (fun _ _ => .nd .e (ih .e (Nat.div i 2) k v)) (Nat.mod i 2))
     (fun _ _ => @Nat.rec (fun _ => T α) (.nd (ih .e (Nat.div i 2) k v) .e) (fun _ _ => .nd .e (ih .e (Nat.div i 2) k v)) (Nat.mod i 2))
     (fun a b _ _ => @Nat.rec (fun _ => T α) (.nd (ih a (Nat.div i 2) k v) b) (fun _ _ => .nd a (ih b (Nat.div i 2) k v)) (Nat.mod i 2)) t) d
theorem T.get_e {α : Type} (i q : Nat) : (T.e : T α).get i q = none := rfl
theorem T.get_lf {α : Type} (k : Nat) (v : α) (i q : Nat) : (T.lf k v).get i q = match Nat.beq k q with | true => some v | false => none := by
 show @Bool.rec (fun _ => Option α) none (some v) (Nat.beq k q) = _
 cases Nat.beq k q <;> rfl
theorem T.get_nd {α : Type} (a b : T α) (i q : Nat) : (T.nd a b).get i q = match i % 2 with | 0 => a.get (i / 2) q | _ + 1 => b.get (i / 2) q := by
 show @Nat.rec (fun _ => Option α) (a.get (i / 2) q) (fun _ _ => b.get (i / 2) q) (i % 2) = _
 cases i % 2 <;> rfl
theorem T.set_0 {α : Type} (t : T α) (i k : Nat) (v : α) : T.set 0 t i k v = .lf k v := rfl
theorem T.set_nd {α : Type} (d : Nat) (a b : T α) (i k : Nat) (v : α) : T.set (d + 1) (.nd a b) i k v = match i % 2 with | 0 => .nd (T.set d a (i / 2) k v) b | _ + 1 => .nd a (T.set d b (i / 2) k v) := by
 show @Nat.rec (fun _ => T α) (.nd (T.set d a (i / 2) k v) b) (fun _ _ => .nd a (T.set d b (i / 2) k v)) (i % 2) = _
 cases i % 2 <;> rfl
theorem T.set_e {α : Type} (d : Nat) (i k : Nat) (v : α) : T.set (d + 1) .e i k v = match i % 2 with | 0 => .nd (T.set d .e (i / 2) k v) .e | _ + 1 => .nd .e (T.set d .e (i / 2) k v) := by
 show @Nat.rec (fun _ => T α) (.nd (T.set d .e (i / 2) k v) .e) (fun _ _ => .nd .e (T.set d .e (i / 2) k v)) (i % 2) = _
 cases i % 2 <;> rfl
theorem T.set_lf {α : Type} (d : Nat) (k' : Nat) (v' : α) (i k : Nat) (v : α) : T.set (d + 1) (.lf k' v') i k v = match i % 2 with | 0 => .nd (T.set d .e (i / 2) k v) .e | _ + 1 => .nd .e (T.set d .e (i / 2) k v) := by
 show @Nat.rec (fun _ => T α) (.nd (T.set d .e (i / 2) k v) .e) (fun _ _ => .nd .e (T.set d .e (i / 2) k v)) (i % 2) = _
 cases i % 2 <;> rfl
theorem T.get_set {α : Type} : ∀ (d : Nat) (t : T α) (i k : Nat) (v : α) (j q : Nat) (x : α), (q = k → j = i) → (T.set d t i k v).get j q = some x → (q = k ∧ x = v) ∨ (q ≠ k ∧ t.get j q = some x)
 | 0, t, i, k, v, j, q, x, hj, h => by
   rw [T.set_0, T.get_lf] at h
   cases hb : Nat.beq k q with
   | true => rw [hb] at h; exact .inl ⟨(Nat.eq_of_beq_eq_true hb).symm, (Option.some.inj h).symm⟩
   | false => rw [hb] at h; cases h
 | d + 1, .nd a b, i, k, v, j, q, x, hj, h => by
   rw [T.set_nd] at h
   have hj2 : q = k → j / 2 = i / 2 := fun e => by rw [hj e]
   cases hi : i % 2 with
   | zero =>
     rw [hi] at h; simp only [T.get_nd] at h ⊢
     cases hm : j % 2 with
     | zero =>
       rw [hm] at h; exact T.get_set d a _ k v _ q x hj2 h
     | succ m =>
       rw [hm] at h; exact .inr ⟨fun e => by have := hj e; subst this; omega, h⟩
   | succ n =>
     rw [hi] at h; simp only [T.get_nd] at h ⊢
     cases hm : j % 2 with
     | zero =>
       rw [hm] at h; exact .inr ⟨fun e => by have := hj e; subst this; omega, h⟩
     | succ m =>
       rw [hm] at h; exact T.get_set d b _ k v _ q x hj2 h
 | d + 1, .e, i, k, v, j, q, x, hj, h => by
   rw [T.set_e] at h
   have hj2 : q = k → j / 2 = i / 2 := fun e => by rw [hj e]
   cases hi : i % 2 with
   | zero =>
     rw [hi] at h; simp only [T.get_nd] at h
     cases hm : j % 2 with
     | zero =>
       rw [hm] at h; rcases T.get_set d .e _ k v _ q x hj2 h with h1 | ⟨h1, h2⟩
       · exact .inl h1
       · cases h2
     | succ m => rw [hm] at h; cases h
   | succ n =>
     rw [hi] at h; simp only [T.get_nd] at h
     cases hm : j % 2 with
     | zero => rw [hm] at h; cases h
     | succ m =>
       rw [hm] at h; rcases T.get_set d .e _ k v _ q x hj2 h with h1 | ⟨h1, h2⟩
       · exact .inl h1
       · cases h2
 | d + 1, .lf k' v', i, k, v, j, q, x, hj, h => by
   rw [T.set_lf] at h
   have hj2 : q = k → j / 2 = i / 2 := fun e => by rw [hj e]
   cases hi : i % 2 with
   | zero =>
     rw [hi] at h; simp only [T.get_nd] at h
     cases hm : j % 2 with
     | zero =>
       rw [hm] at h; rcases T.get_set d .e _ k v _ q x hj2 h with h1 | ⟨h1, h2⟩
       · exact .inl h1
       · cases h2
     | succ m => rw [hm] at h; cases h
   | succ n =>
     rw [hi] at h; simp only [T.get_nd] at h
     cases hm : j % 2 with
     | zero => rw [hm] at h; cases h
     | succ m =>
       rw [hm] at h; rcases T.get_set d .e _ k v _ q x hj2 h with h1 | ⟨h1, h2⟩
       · exact .inl h1
       · cases h2
abbrev Blk := TypeId × List X
inductive M where
 | mp (es : List (X × X))
 | it (s : List Nat) (pos : Nat)
structure St where
 h : T (Option Blk)
 n : Nat
 k : Nat
 m : T (Option M)
 g : List (Nat × List X)
def jn {α : Type} : Option (Option α) → Option α
 | some (some c) => some c
 | _ => none
def St.blk (s : St) (b : Nat) : Option Blk := jn (s.h.get b b)
def St.mo (s : St) (b : Nat) : Option M := jn (s.m.get b b)
def St.put (s : St) (b : Nat) (c : Option Blk) : St := ⟨T.set 14 s.h b b c, s.n, s.k, s.m, s.g⟩
def St.mput (s : St) (b : Nat) (c : Option M) : St := ⟨s.h, s.n, s.k, T.set 14 s.m b b c, s.g⟩
theorem tree_put {α : Type} {t : T (Option α)} {b q : Nat} {c : Option α} {x : α} (h : jn ((T.set 14 t b b c).get q q) = some x) : (q = b ∧ c = some x) ∨ (q ≠ b ∧ jn (t.get q q) = some x) := by
 cases hg : T.get (T.set 14 t b b c) q q with
 | none => rw [hg] at h; cases h
 | some y =>
   rw [hg] at h
   cases y with
   | none => cases h
   | some z =>
     obtain rfl : z = x := Option.some.inj h; rcases T.get_set 14 t b b c q q _ (fun e => e) hg with ⟨h1, h2⟩ | ⟨h1, h2⟩
     · exact .inl ⟨h1, h2.symm⟩
     · refine .inr ⟨h1, ?_⟩; rw [h2]; rfl
theorem blk_put {s : St} {b q : Nat} {c : Option Blk} {x : Blk} (h : (s.put b c).blk q = some x) : (q = b ∧ c = some x) ∨ (q ≠ b ∧ s.blk q = some x) := tree_put h
theorem mo_mput {s : St} {b q : Nat} {c : Option M} {x : M} (h : (s.mput b c).mo q = some x) : (q = b ∧ c = some x) ∨ (q ≠ b ∧ s.mo q = some x) := tree_put h
def szOf (P : Program) (e : TypeId) : Nat := match P.info? e with
 | some i => i.size
 | none => 0
def isArrB (P : Program) (e : TypeId) : Bool := match P.underlying e with
 | some (.array _ _) => true
 | _ => false
structure Bs where
 pr : Nat → Prop
 res : Nat → Prop
 gp : Nat → Prop
 gpr : ∀ a, gp a → pr a
def lkG : List (Nat × List X) → Nat → Option (List X)
 | [], _ => none
 | p :: l, g => match Nat.beq p.1 g with
   | true => some p.2
   | false => lkG l g
structure Own (P : Program) (base : Bs) (σ : Sg) (w : World) (b e : Nat) (cs : List X) (rb off k : Nat) (pre vs sp post : List Value) : Prop where
 sg_ : σ b = some (rb, off, k)
 val : vls σ cs = some vs
 pre_ : pre.length = off
 sp_ : sp.length = k * szOf P e
 heap : ∃ fz : Nat × Nat, w.heap[rb]? = some (.cells (pre ++ vs ++ sp ++ post).toArray e fz) ∧ ∀ o, o < (pre ++ vs ++ sp ++ post).length → ¬ (fz.1 ≤ o ∧ o < fz.2)
 low : ¬ base.pr rb
 flat : vs.all sg = true
 mul_ : ∃ q, off = q * szOf P e
 nsp : isArrB P e = true → k = 0
def EsR (σ : Sg) : List (X × X) → List MapEntry → Prop
 | [], [] => True
 | (k, v) :: l, e :: l' => vl σ k = some e.key ∧ vl σ v = some e.val ∧ EsR σ l l'
 | _, _ => False
theorem EsR.ext {σ σ' : Sg} (hx : Ext σ σ') : ∀ {l : List (X × X)} {l' : List MapEntry}, EsR σ l l' → EsR σ' l l'
 | [], [], _ => trivial
 | (k, v) :: l, e :: l', ⟨h1, h2, h3⟩ => ⟨vl_ext hx _ _ h1, vl_ext hx _ _ h2, EsR.ext hx h3⟩
def MOk (σ : Sg) (w : World) (rb : Nat) : M → Prop
 | .mp es => ∃ (l : List MapEntry) (clock : Nat), w.heap[rb]? = some (.map l.toArray clock) ∧ EsR σ es l
 | .it s p => w.heap[rb]? = some (.stringIter (str s) p)
theorem MOk.ext {σ σ' : Sg} {w : World} {rb : Nat} (hx : Ext σ σ') : ∀ {o : M}, MOk σ w rb o → MOk σ' w rb o
 | .mp es, ⟨l, c, h1, h2⟩ => ⟨l, c, h1, h2.ext hx⟩
 | .it s p, h => h
def NoC (w : World) (rb : Nat) : Prop := ∀ c e z, w.heap[rb]? ≠ some (.cells c e z)
theorem MOk.noC {σ : Sg} {w : World} {rb : Nat} : ∀ {o : M}, MOk σ w rb o → NoC w rb ∧ (w.heap[rb]?).isSome = true
 | .mp es, ⟨l, c, h1, _⟩ => ⟨(fun _ _ _ h => by rw [h1] at h; cases h), (by rw [h1]; rfl)⟩
 | .it s p, h => ⟨(fun _ _ _ h' => by rw [show w.heap[rb]? = _ from h] at h'; cases h'), (by rw [show w.heap[rb]? = _ from h]; rfl)⟩
theorem MOk.keep {σ : Sg} {w w' : World} {rb : Nat} (hk : ∀ o, w.heap[rb]? = some o → w'.heap[rb]? = some o) : ∀ {o : M}, MOk σ w rb o → MOk σ w' rb o
 | .mp es, ⟨l, c, h1, h2⟩ => ⟨l, c, hk _ h1, h2⟩
 | .it s p, h => hk _ h
structure Mem (P : Program) (base : Bs) (σ : Sg) (s : St) (w : World) : Prop where
 own : ∀ b e cs, s.blk b = some (e, cs) → ∃ rb off k pre vs sp post, Own P base σ w b e cs rb off k pre vs sp post
 apart : ∀ b c x y r r', s.blk b = some x → s.blk c = some y → b ≠ c → σ b = some r → σ c = some r' → r.1 ≠ r'.1
 mown : ∀ b o, s.mo b = some o → ∃ rb, σ b = some (rb, 0, 0) ∧ ¬ base.pr rb ∧ MOk σ w rb o
 mapart : ∀ b c x y r r', s.mo b = some x → s.mo c = some y → b ≠ c → σ b = some r → σ c = some r' → r.1 ≠ r'.1
 glb : ∀ g xs, lkG s.g g = some xs → base.gp g ∧ ∃ e fz vs, vls (fun _ => none) xs = some vs ∧ w.heap[g]? = some (.cells vs.toArray e fz)
theorem Mem.keepG {P : Program} {base : Bs} {σ : Sg} {s : St} {w w' : World} (h : Mem P base σ s w) (ho : ∀ (c : Nat) (o : Obj), base.pr c → w.heap[c]? = some o → w'.heap[c]? = some o) :
   ∀ g xs, lkG s.g g = some xs → base.gp g ∧ ∃ e fz vs, vls (fun _ => none) xs = some vs ∧ w'.heap[g]? = some (.cells vs.toArray e fz) := fun g xs hg => by
 obtain ⟨h1, e, fz, vs, h2, h3⟩ := h.glb g xs hg; exact ⟨h1, e, fz, vs, h2, ho g _ (base.gpr g h1) h3⟩
theorem Own.ext {P : Program} {base : Bs} {σ σ' : Sg} {w : World} {b e : Nat} {cs : List X} {rb off k : Nat} {pre vs sp post : List Value} (h : Own P base σ w b e cs rb off k pre vs sp post) (hx : Ext σ σ') : Own P base σ' w b e cs rb off k pre vs sp post :=
 ⟨hx _ _ h.sg_, vls_ext hx _ _ h.val, h.pre_, h.sp_, h.heap, h.low, h.flat, h.mul_, h.nsp⟩
theorem Mem.ext {P : Program} {base : Bs} {σ σ' : Sg} {s : St} {w : World} (h : Mem P base σ s w) (hx : Ext σ σ') : Mem P base σ' s w := by
 refine ⟨fun b e cs hb => ?_, fun b c x y r r' hb hc hne h1 h2 => ?_, fun b o hb => ?_, fun b c x y r r' hb hc hne h1 h2 => ?_, h.glb⟩
 · obtain ⟨rb, off, k, pre, vs, sp, post, h1⟩ := h.own b e cs hb; exact ⟨rb, off, k, pre, vs, sp, post, h1.ext hx⟩
 · obtain ⟨e, cs⟩ := x; obtain ⟨e', cs'⟩ := y; obtain ⟨_, _, _, _, _, _, _, g1⟩ := h.own b e cs hb; obtain ⟨_, _, _, _, _, _, _, g2⟩ := h.own c e' cs' hc; have e1 := hx _ _ g1.sg_; have e2 := hx _ _ g2.sg_; rw [h1] at e1; rw [h2] at e2; have f1 := g1.sg_; have f2 := g2.sg_; rw [← e1] at f1; rw [← e2] at f2; exact h.apart b c _ _ _ _ hb hc hne f1 f2
 · obtain ⟨rb, h1, h2, h3⟩ := h.mown b o hb; exact ⟨rb, hx _ _ h1, h2, h3.ext hx⟩
 · obtain ⟨_, g1, _⟩ := h.mown b x hb; obtain ⟨_, g2, _⟩ := h.mown c y hc; have e1 := hx _ _ g1; have e2 := hx _ _ g2; rw [h1] at e1; rw [h2] at e2; rw [← e1] at g1; rw [← e2] at g2; exact h.mapart b c _ _ _ _ hb hc hne g1 g2
structure Fram (base : Bs) (w0 w : World) : Prop where
 same : Same w0 w
 low : ∀ c, base.pr c → c < w.heap.size
 old : ∀ c, base.pr c → w.heap[c]? = w0.heap[c]?
structure FreshN (base : Bs) (σ : Sg) (n k : Nat) : Prop where
 nx : σ n = none
 lt : n < k
 ge : ∀ m, k ≤ m → σ m = none
 rs : ∀ m, base.res m → σ m = none ∧ m ≠ n ∧ m < k
abbrev Fresh (base : Bs) (σ : Sg) (s : St) : Prop := FreshN base σ s.n s.k
end
end Go.Ev
namespace Go.Ev
open Go Go.Vc
noncomputable section
variable {P : Program} {base : Bs} {σ : Sg} {s : St} {w w' : World}
theorem Own.keep {b e : Nat} {cs : List X} {rb off k : Nat} {pre vs sp post : List Value} (g : Own P base σ w b e cs rb off k pre vs sp post) (ho : ∀ o, w.heap[rb]? = some o → w'.heap[rb]? = some o) : Own P base σ w' b e cs rb off k pre vs sp post := by
 obtain ⟨fz, h1, h2⟩ := g.heap; exact ⟨g.sg_, g.val, g.pre_, g.sp_, ⟨fz, ho _ h1, h2⟩, g.low, g.flat, g.mul_, g.nsp⟩
theorem Mem.sep (h : Mem P base σ s w) {q rb : Nat} {o : M} (hq : s.mo q = some o) (hc : ∃ c e z, w.heap[rb]? = some (.cells c e z)) : ∀ {r : Nat × Nat × Nat}, σ q = some r → r.1 ≠ rb := by
 intro r hr he; obtain ⟨rb', h1, _, h3⟩ := h.mown q o hq; rw [h1] at hr; obtain rfl := Option.some.inj hr; obtain ⟨c, e, z, hh⟩ := hc; replace he : rb' = rb := he; rw [he] at h3; exact h3.noC.1 c e z hh
theorem Mem.upd (h : Mem P base σ s w) {b e : Nat} {cs cs' : List X} {rb off k : Nat} {pre vs' sp post : List Value} (hb : s.blk b = some (e, cs)) (hn : Own P base σ w' b e cs' rb off k pre vs' sp post)
   (ho : ∀ c o, c ≠ rb → w.heap[c]? = some o → w'.heap[c]? = some o) : Mem P base σ (s.put b (some (e, cs'))) w' := by
 have key : ∀ q x, (s.put b (some (e, cs'))).blk q = some x → ∃ y, s.blk q = some y := by
   intro q x hq; rcases blk_put hq with ⟨rfl, _⟩ | ⟨_, h2⟩
   · exact ⟨_, hb⟩
   · exact ⟨_, h2⟩
 refine ⟨fun q e' cs'' hq => ?_, fun q c x y r r' hq hc hne h1 h2 => ?_, fun q o hq => ?_, fun q c x y r r' hq hc hne h1 h2 => h.mapart q c x y r r' hq hc hne h1 h2, h.keepG fun c o hc => ho c o fun e => hn.low (e ▸ hc)⟩
 · rcases blk_put hq with ⟨rfl, h2⟩ | ⟨hne, h2⟩
   · simp only [Option.some.injEq, Prod.mk.injEq] at h2; obtain ⟨rfl, rfl⟩ := h2; exact ⟨rb, off, k, pre, vs', sp, post, hn⟩
   · obtain ⟨rb', off', k', pre', vs, sp', post', g⟩ := h.own q e' cs'' h2; exact ⟨rb', off', k', pre', vs, sp', post', g.keep (ho _ · (h.apart q b _ _ _ _ h2 hb hne g.sg_ hn.sg_))⟩
 · obtain ⟨x', hx'⟩ := key q x hq; obtain ⟨y', hy'⟩ := key c y hc; exact h.apart q c x' y' r r' hx' hy' hne h1 h2
 · replace hq : s.mo q = some o := hq; obtain ⟨rb', h1, h2, h3⟩ := h.mown q o hq; obtain ⟨rb0, off0, k0, pre0, vs0, sp0, post0, g0⟩ := h.own b e cs hb; obtain ⟨fz, hh, _⟩ := g0.heap
   have hrb : rb0 = rb := by have := g0.sg_; rw [hn.sg_] at this; cases this; rfl
   subst hrb; exact ⟨rb', h1, h2, h3.keep fun o' => ho rb' o' (h.sep hq ⟨_, _, _, hh⟩ h1)⟩
theorem Mem.del (h : Mem P base σ s w) (b : Nat) : Mem P base σ (s.put b none) w := by
 have key : ∀ q x, (s.put b none).blk q = some x → q ≠ b ∧ s.blk q = some x := by
   intro q x hq; rcases blk_put hq with ⟨_, h2⟩ | h2
   · cases h2
   · exact h2
 exact ⟨fun q e cs hq => h.own q e cs (key q _ hq).2, fun q c x y r r' hq hc hne h1 h2 => h.apart q c x y r r' (key q x hq).2 (key c y hc).2 hne h1 h2, h.mown, h.mapart, h.glb⟩
theorem Mem.lose (h : Mem P base σ s w) {b : Nat} {x : Blk} {r : Nat × Nat × Nat} (hb : s.blk b = some x) (hr : σ b = some r) (ho : ∀ c o, c ≠ r.1 → w.heap[c]? = some o → w'.heap[c]? = some o) : Mem P base σ (s.put b none) w' := by
 have key : ∀ q x, (s.put b none).blk q = some x → q ≠ b ∧ s.blk q = some x := by
   intro q x hq; rcases blk_put hq with ⟨_, h2⟩ | h2
   · cases h2
   · exact h2
 have hlow : ¬ base.pr r.1 := by
   obtain ⟨e, cs⟩ := x; obtain ⟨rb0, off0, k0, pre0, vs0, sp0, post0, g0⟩ := h.own b e cs hb; have := g0.sg_; rw [hr] at this; obtain rfl := Option.some.inj this; exact g0.low
 refine ⟨fun q e cs hq => ?_, fun q c x y r r' hq hc hne h1 h2 => h.apart q c x y r r' (key q x hq).2 (key c y hc).2 hne h1 h2, fun q o hq => ?_, h.mapart, h.keepG fun c o hc => ho c o fun e => hlow (e ▸ hc)⟩
 · obtain ⟨hne, hq⟩ := key q _ hq; obtain ⟨rb', off', k', pre', vs, sp', post', g⟩ := h.own q e cs hq; exact ⟨rb', off', k', pre', vs, sp', post', g.keep (ho _ · (h.apart q b _ _ _ _ hq hb hne g.sg_ hr))⟩
 · replace hq : s.mo q = some o := hq; obtain ⟨rb', h1, h2, h3⟩ := h.mown q o hq; obtain ⟨e, cs⟩ := x; obtain ⟨rb0, off0, k0, pre0, vs0, sp0, post0, g0⟩ := h.own b e cs hb; obtain ⟨fz, hh, _⟩ := g0.heap; have := g0.sg_; rw [hr] at this; obtain rfl := Option.some.inj this; exact ⟨rb', h1, h2, h3.keep fun o' => ho rb' o' (h.sep hq ⟨_, _, _, hh⟩ h1)⟩
theorem Mem.mupd (h : Mem P base σ s w) {b rb : Nat} {o o' : M} (hb : s.mo b = some o) (hr : σ b = some (rb, 0, 0)) (hn : MOk σ w' rb o') (ho : ∀ c x, c ≠ rb → w.heap[c]? = some x → w'.heap[c]? = some x) : Mem P base σ (s.mput b (some o')) w' := by
 have key : ∀ q x, (s.mput b (some o')).mo q = some x → ∃ y, s.mo q = some y := by
   intro q x hq; rcases mo_mput hq with ⟨rfl, _⟩ | ⟨_, h2⟩
   · exact ⟨_, hb⟩
   · exact ⟨_, h2⟩
 obtain ⟨rb0, g1, g2, g3⟩ := h.mown b o hb; rw [hr] at g1; cases g1; refine ⟨fun q e cs hq => ?_, h.apart, fun q x hq => ?_, fun q c x y r r' hq hc hne h1 h2 => ?_, h.keepG fun c o hc => ho c o fun e => g2 (e ▸ hc)⟩
 · obtain ⟨rb', off', k', pre', vs, sp', post', g⟩ := h.own q e cs hq; refine ⟨rb', off', k', pre', vs, sp', post', g.keep fun x => ho _ x fun he => ?_⟩; obtain ⟨fz, hh, _⟩ := g.heap; exact g3.noC.1 _ _ _ (he ▸ hh)
 · rcases mo_mput hq with ⟨rfl, h2⟩ | ⟨hne, h2⟩
   · obtain rfl := Option.some.inj h2; exact ⟨rb, hr, g2, hn⟩
   · obtain ⟨rb', h1, h3, h4⟩ := h.mown q x h2; exact ⟨rb', h1, h3, h4.keep fun x => ho _ x (h.mapart q b _ _ _ _ h2 hb hne h1 hr)⟩
 · obtain ⟨x', hx'⟩ := key q x hq; obtain ⟨y', hy'⟩ := key c y hc; exact h.mapart q c x' y' r r' hx' hy' hne h1 h2
def sgPut (σ : Sg) (n : Nat) (r : Nat × Nat × Nat) : Sg := fun m => match Nat.beq m n with
 | true => some r
 | false => σ m
theorem sgPut_same (σ : Sg) (n : Nat) (r : Nat × Nat × Nat) : sgPut σ n r n = some r := by unfold sgPut; rw [Nat.beq_refl]
theorem sgPut_ne {σ : Sg} {n m : Nat} {r : Nat × Nat × Nat} (h : m ≠ n) : sgPut σ n r m = σ m := by
 unfold sgPut
 cases hb : Nat.beq m n with
 | true => exact absurd (Nat.eq_of_beq_eq_true hb) h
 | false => rfl
theorem sgPut_ext {σ : Sg} {n : Nat} {r : Nat × Nat × Nat} (h : σ n = none) : Ext σ (sgPut σ n r) := by
 intro m q hm; rw [sgPut_ne]
 · exact hm
 · rintro rfl; rw [h] at hm; cases hm
def St.new (s : St) (c : Blk) : St := ⟨(s.put s.n (some c)).h, s.k, s.k + 1, s.m, s.g⟩
def St.mnew (s : St) (c : M) : St := ⟨s.h, s.k, s.k + 1, (s.mput s.n (some c)).m, s.g⟩
theorem Fresh.next {s' : St} (hf : Fresh base σ s) (r : Nat × Nat × Nat) (h1 : s'.n = s.k) (h2 : s'.k = s.k + 1) : Fresh base (sgPut σ s.n r) s' := by
 have hl := hf.lt; refine ⟨?_, by omega, fun m hm => ?_, fun m hm => ?_⟩
 · rw [h1, sgPut_ne (by omega)]; exact hf.ge _ (Nat.le_refl _)
 · rw [sgPut_ne (by omega)]; exact hf.ge _ (by omega)
 · obtain ⟨a, b, c⟩ := hf.rs m hm; rw [sgPut_ne b]; exact ⟨a, by omega, by omega⟩
theorem mo_mnew {s : St} {c x : M} {q : Nat} (h : (s.mnew c).mo q = some x) : (q = s.n ∧ c = x) ∨ (q ≠ s.n ∧ s.mo q = some x) := by
 have : (s.mput s.n (some c)).mo q = some x := h; rcases mo_mput this with ⟨h1, h2⟩ | h2
 · exact .inl ⟨h1, Option.some.inj h2⟩
 · exact .inr h2
theorem blk_new {c x : Blk} {q : Nat} (h : (s.new c).blk q = some x) : (q = s.n ∧ c = x) ∨ (q ≠ s.n ∧ s.blk q = some x) := by
 have : (s.put s.n (some c)).blk q = some x := h; rcases blk_put this with ⟨h1, h2⟩ | h2
 · exact .inl ⟨h1, Option.some.inj h2⟩
 · exact .inr h2
theorem Mem.fresh (h : Mem P base σ s w) (hf : Fresh base σ s) {e : TypeId} {cs : List X} {pre vs sp post : List Value} {rb k : Nat} (hv : vls σ cs = some vs) (hsp : sp.length = k * szOf P e) (hbase : ¬ base.pr rb) (hg : vs.all sg = true)
   (hh : ∃ fz : Nat × Nat, w'.heap[rb]? = some (.cells (pre ++ vs ++ sp ++ post).toArray e fz) ∧ ∀ o, o < (pre ++ vs ++ sp ++ post).length → ¬ (fz.1 ≤ o ∧ o < fz.2)) (hno : ∀ b x r, s.blk b = some x → σ b = some r → r.1 ≠ rb)
   (hnm : ∀ b x r, s.mo b = some x → σ b = some r → r.1 ≠ rb) (hml : ∃ q, pre.length = q * szOf P e) (hns : isArrB P e = true → k = 0) (ho : ∀ c o, c ≠ rb → w.heap[c]? = some o → w'.heap[c]? = some o) :
   Mem P base (sgPut σ s.n (rb, pre.length, k)) (s.new (e, cs)) w' ∧ Ext σ (sgPut σ s.n (rb, pre.length, k)) ∧ Fresh base (sgPut σ s.n (rb, pre.length, k)) (s.new (e, cs)) := by
 have hx : Ext σ (sgPut σ s.n (rb, pre.length, k)) := sgPut_ext hf.nx; refine ⟨⟨fun q e' cs' hq => ?_, fun q c x y r r' hq hc hne h1 h2 => ?_, fun q o hq => ?_, fun q c x y r r' hq hc hne h1 h2 => ?_, h.keepG fun c o hc => ho c o fun e => hbase (e ▸ hc)⟩, hx, hf.next _ rfl rfl⟩
 · rcases blk_new hq with ⟨rfl, h2⟩ | ⟨hne, h2⟩
   · simp only [Prod.mk.injEq] at h2; obtain ⟨rfl, rfl⟩ := h2; exact ⟨rb, pre.length, k, pre, vs, sp, post, ⟨sgPut_same _ _ _, vls_ext hx _ _ hv, rfl, hsp, hh, hbase, hg, hml, hns⟩⟩
   · obtain ⟨rb', off', k', pre', vs', sp', post', g⟩ := h.own q e' cs' h2; exact ⟨rb', off', k', pre', vs', sp', post', (g.keep (ho _ · (hno q _ _ h2 g.sg_))).ext hx⟩
 · have old : ∀ q x r, s.blk q = some x → sgPut σ s.n (rb, pre.length, k) q = some r → q ≠ s.n → σ q = some r := fun q x r _ h1 hne => by rw [sgPut_ne hne] at h1; exact h1
   rcases blk_new hq with ⟨rfl, h3⟩ | ⟨hn1, h3⟩ <;> rcases blk_new hc with ⟨rfl, h4⟩ | ⟨hn2, h4⟩
   · exact absurd rfl hne
   · rw [sgPut_same] at h1; cases h1; exact fun e => hno c y r' h4 (old c y r' h4 h2 hn2) e.symm
   · rw [sgPut_same] at h2; cases h2; exact hno q x r h3 (old q x r h3 h1 hn1)
   · exact h.apart q c x y r r' h3 h4 hne (old q x r h3 h1 hn1) (old c y r' h4 h2 hn2)
 · replace hq : s.mo q = some o := hq; obtain ⟨rb', h1, h2, h3⟩ := h.mown q o hq; exact ⟨rb', hx _ _ h1, h2, (h3.keep (ho _ · (hnm q o _ hq h1))).ext hx⟩
 · replace hq : s.mo q = some x := hq; replace hc : s.mo c = some y := hc; obtain ⟨_, g1, _⟩ := h.mown q x hq; obtain ⟨_, g2, _⟩ := h.mown c y hc; have e1 := hx _ _ g1; have e2 := hx _ _ g2; rw [h1] at e1; rw [h2] at e2; rw [← e1] at g1; rw [← e2] at g2; exact h.mapart q c x y _ _ hq hc hne g1 g2
theorem Mem.mbelow (h : Mem P base σ s w) {b : Nat} {x : M} {r : Nat × Nat × Nat} (hb : s.mo b = some x) (hr : σ b = some r) : r.1 < w.heap.size := by
 obtain ⟨rb, h1, _, h3⟩ := h.mown b x hb; rw [h1] at hr; obtain rfl := Option.some.inj hr; show rb < w.heap.size; rcases Nat.lt_or_ge rb w.heap.size with h4 | h4
 · exact h4
 · have := h3.noC.2; rw [Array.getElem?_eq_none h4] at this; cases this
theorem Mem.below (h : Mem P base σ s w) {b : Nat} {x : Blk} {r : Nat × Nat × Nat} (hb : s.blk b = some x) (hr : σ b = some r) : r.1 < w.heap.size := by
 obtain ⟨e', cs'⟩ := x; obtain ⟨rb, off, k, pre, vs, sp, post, g⟩ := h.own b e' cs' hb; have := g.sg_; rw [hr] at this; obtain rfl := Option.some.inj this; show rb < w.heap.size; rcases Nat.lt_or_ge rb w.heap.size with h1 | h1
 · exact h1
 · obtain ⟨fz, this, _⟩ := g.heap; rw [Array.getElem?_eq_none h1] at this; cases this
theorem alloc_oth {o' : Obj} : ∀ c o, c ≠ w.heap.size → w.heap[c]? = some o → (w.alloc o').heap[c]? = some o := by
 intro c o hc hco; show (w.heap.push _)[c]? = _; rw [Array.getElem?_push, if_neg hc]; exact hco
theorem Fram.alloc {w0 : World} (hF : Fram base w0 w) (o : Obj) : Fram base w0 (w.alloc o) := by
 refine ⟨hF.same.trans (.alloc _ _), ?_, fun c hc => ?_⟩
 · intro c hc; show c < (w.heap.push _).size; have := hF.low c hc; simp only [Array.size_push]; omega
 · have := hF.low c hc; show (w.heap.push _)[c]? = _; rw [Array.getElem?_push, if_neg (by omega)]; exact hF.old c hc
theorem Fram.top {w0 : World} (hF : Fram base w0 w) : ¬ base.pr w.heap.size := fun h => Nat.lt_irrefl _ (hF.low _ h)
theorem Mem.alloc (h : Mem P base σ s w) (hf : Fresh base σ s) {w0 : World} (hF : Fram base w0 w) {e : TypeId} {cs : List X} {vs sp : List Value} {k : Nat} (hv : vls σ cs = some vs) (hsp : sp.length = k * szOf P e) (hg : vs.all sg = true) (hns : isArrB P e = true → k = 0) :
   Mem P base (sgPut σ s.n (w.heap.size, 0, k)) (s.new (e, cs)) (w.alloc (.cells (vs ++ sp).toArray e)) ∧ Ext σ (sgPut σ s.n (w.heap.size, 0, k)) ∧ Fresh base (sgPut σ s.n (w.heap.size, 0, k)) (s.new (e, cs)) :=
 h.fresh (w' := w.alloc (.cells (vs ++ sp).toArray e)) (e := e) (pre := []) (post := []) (sp := sp) (rb := w.heap.size) (k := k) hf hv hsp hF.top hg ⟨(0, 0), by show (w.heap.push _)[w.heap.size]? = _; simp, fun o _ hz => by have := hz.2; exact absurd this (Nat.not_lt_zero _)⟩
   (fun b x r hb hr he => by have := h.below hb hr; omega) (fun b x r hb hr he => by have := h.mbelow hb hr; omega) ⟨0, by simp⟩ hns alloc_oth
theorem alloc_at (o : Obj) : (w.alloc o).heap[w.heap.size]? = some o := by show (w.heap.push _)[w.heap.size]? = _; simp
theorem Mem.mnew (h : Mem P base σ s w) (hf : Fresh base σ s) {w0 : World} (hF : Fram base w0 w) {o : M} {ob : Obj} (hn : ∀ w', w'.heap[w.heap.size]? = some ob → MOk σ w' w.heap.size o) :
   Mem P base (sgPut σ s.n (w.heap.size, 0, 0)) (s.mnew o) (w.alloc ob) ∧ Ext σ (sgPut σ s.n (w.heap.size, 0, 0)) ∧ Fresh base (sgPut σ s.n (w.heap.size, 0, 0)) (s.mnew o) := by
 have hx : Ext σ (sgPut σ s.n (w.heap.size, 0, 0)) := sgPut_ext hf.nx
 have low : ∀ {b : Nat} {x : Obj}, w.heap[b]? = some x → b ≠ w.heap.size := fun {b x} hb he => by
   rw [Array.getElem?_eq_none (by omega)] at hb; cases hb
 refine ⟨⟨fun q e cs hq => ?_, fun q c x y r r' hq hc hne h1 h2 => ?_, fun q x hq => ?_, fun q c x y r r' hq hc hne h1 h2 => ?_, h.keepG fun c o _ hco => alloc_oth c o (low hco) hco⟩, hx, hf.next _ rfl rfl⟩
 · replace hq : s.blk q = some (e, cs) := hq; obtain ⟨rb', off', k', pre', vs', sp', post', g⟩ := h.own q e cs hq; exact ⟨rb', off', k', pre', vs', sp', post', (g.keep fun o ho => alloc_oth _ _ (low ho) ho).ext hx⟩
 · replace hq : s.blk q = some x := hq; replace hc : s.blk c = some y := hc; exact (h.ext hx).apart q c x y r r' hq hc hne h1 h2
 · rcases mo_mnew hq with ⟨rfl, rfl⟩ | ⟨hne, h2⟩
   · exact ⟨w.heap.size, sgPut_same _ _ _, hF.top, (hn _ (alloc_at ob)).ext hx⟩
   · obtain ⟨rb', h1, h3, h4⟩ := h.mown q x h2; exact ⟨rb', hx _ _ h1, h3, (h4.keep fun o ho => alloc_oth _ _ (low ho) ho).ext hx⟩
 · have old : ∀ q x r, s.mo q = some x → sgPut σ s.n (w.heap.size, 0, 0) q = some r → q ≠ s.n → σ q = some r := fun q x r _ h1 hne => by rw [sgPut_ne hne] at h1; exact h1
   rcases mo_mnew hq with ⟨rfl, h3⟩ | ⟨hn1, h3⟩ <;> rcases mo_mnew hc with ⟨rfl, h4⟩ | ⟨hn2, h4⟩
   · exact absurd rfl hne
   · rw [sgPut_same] at h1; cases h1
     exact fun e => by have := h.mbelow h4 (old c y r' h4 h2 hn2); omega
   · rw [sgPut_same] at h2; cases h2
     exact fun e => by have := h.mbelow h3 (old q x r h3 h1 hn1); omega
   · exact h.mapart q c x y r r' h3 h4 hne (old q x r h3 h1 hn1) (old c y r' h4 h2 hn2)
def oth (w : World) (rb : Nat) : HProp := fun h => ∀ c o, c ≠ rb → w.heap[c]? = some o → h c = some o
theorem Fram.upd {w0 : World} {rb : Nat} (hF : Fram base w0 w) (hS : Same w w') (hb : ¬ base.pr rb) (ho : ∀ c o, c ≠ rb → w.heap[c]? = some o → w'.heap[c]? = some o) : Fram base w0 w' := by
 refine ⟨hF.same.trans hS, fun c hc => Nat.lt_of_lt_of_le (hF.low c hc) hS.size, fun c hc => ?_⟩; have h1 : c < w.heap.size := hF.low c hc; rw [← hF.old c hc]; have h2 : w.heap[c]? = some w.heap[c] := Array.getElem?_eq_getElem h1; rw [h2]; exact ho c _ (fun e => hb (e ▸ hc)) h2
theorem Fram.drew {w0 : World} (hF : Fram base w0 w) : Fram base w0 w.drew := ⟨hF.same.trans (.drew _), hF.low, hF.old⟩
theorem Mem.drew (h : Mem P base σ s w) : Mem P base σ s w.drew :=
 ⟨fun b e cs hb => let ⟨rb, off, k, pre, vs, sp, post, g⟩ := h.own b e cs hb; ⟨rb, off, k, pre, vs, sp, post, g.keep fun _ ho => ho⟩, h.apart, fun b o hb => let ⟨rb, h1, h2, h3⟩ := h.mown b o hb; ⟨rb, h1, h2, h3.keep fun _ ho => ho⟩, h.mapart, h.glb⟩
def ofV : Value → Option X
 | .bool b => some (.b b)
 | .int k n => some (.i k n)
 | .string s => some (.s (s.data.toList.map UInt8.toNat))
 | .pointer none => some (.p none)
 | .slice none n c => some (.l none n c)
 | .nilIface => some .ni
 | .nilFunc => some .nf
 | .map none => some (.m none)
 | _ => none
theorem str_toNat (s : ByteArray) : str (s.data.toList.map UInt8.toNat) = s := by
 apply ba_ext; simp only [str, List.map_map]; rw [show (UInt8.ofNat ∘ UInt8.toNat) = id by funext x; simp, List.map_id]
theorem vl_ofV {v : Value} {x : X} (h : ofV v = some x) : vl σ x = some v := by
 cases v with
 | bool b => simp only [ofV, Option.some.injEq] at h; subst h; rfl
 | int k n => simp only [ofV, Option.some.injEq] at h; subst h; rfl
 | string s => simp only [ofV, Option.some.injEq] at h; subst h; simp only [vl, str_toNat]
 | pointer a =>
   cases a with
   | none => simp only [ofV, Option.some.injEq] at h; subst h; rfl
   | some a => cases h
 | slice a n c =>
   cases a with
   | none => simp only [ofV, Option.some.injEq] at h; subst h; rfl
   | some a => cases h
 | nilIface => simp only [ofV, Option.some.injEq] at h; subst h; rfl
 | nilFunc => simp only [ofV, Option.some.injEq] at h; subst h; rfl
 | map a =>
   cases a with
   | none => simp only [ofV, Option.some.injEq] at h; subst h; rfl
   | some a => cases h
 | _ => cases h
def ofVs : List Value → Option (List X)
 | [] => some []
 | v :: r => match ofV v, ofVs r with
   | some x, some xs => some (x :: xs)
   | _, _ => none
theorem vls_ofVs : ∀ {vs : List Value} {xs : List X}, ofVs vs = some xs → vls σ xs = some vs
 | [], xs, h => by simp only [ofVs, Option.some.injEq] at h; subst h; rfl
 | v :: r, xs, h => by
   simp only [ofVs] at h
   cases hx : ofV v with
   | none => rw [hx] at h; cases h
   | some x =>
     cases hr : ofVs r with
     | none => rw [hx, hr] at h; cases h
     | some ys =>
       rw [hx, hr] at h; obtain rfl := Option.some.inj h; exact vls_mk (vl_ofV hx) (vls_ofVs hr)
def eqN : List Nat → List Nat → Bool
 | [], [] => true
 | x :: a, y :: b => match Nat.beq (x % 256) (y % 256) with
   | true => eqN a b
   | false => false
 | _, _ => false
theorem eqN_spec : ∀ (a b : List Nat), eqN a b = decide (str a = str b)
 | [], [] => by simp [eqN]
 | [], y :: b => by
   have : ¬ str [] = str (y :: b) := by intro h; have := congrArg ByteArray.size h; simp [str, ByteArray.size] at this
   simp [eqN, this]
 | x :: a, [] => by
   have : ¬ str (x :: a) = str [] := by intro h; have := congrArg ByteArray.size h; simp [str, ByteArray.size] at this
   simp [eqN, this]
 | x :: a, y :: b => by
   have h1 : str (x :: a) = str (y :: b) ↔ x % 256 = y % 256 ∧ str a = str b := by
     constructor
     · intro h; have := congrArg (fun s : ByteArray => s.data.toList) h; simp only [str, List.map_cons, List.cons.injEq] at this; refine ⟨?_, ba_ext (by simpa [str] using this.2)⟩; have := congrArg UInt8.toNat this.1; simpa using this
     · rintro ⟨h1, h2⟩; have h3 := congrArg (fun s : ByteArray => s.data.toList) h2; apply ba_ext; simp only [str, List.map_cons] at h3 ⊢; rw [h3]
       congr 1
       apply UInt8.toNat_inj.1; simpa using h1
   simp only [eqN]
   cases hb : Nat.beq (x % 256) (y % 256) with
   | true =>
     have := Nat.eq_of_beq_eq_true hb; simp only; rw [eqN_spec a b, decide_eq_decide, h1]; simp [this]
   | false =>
     have := Nat.ne_of_beq_eq_false hb
     symm
     rw [decide_eq_false_iff_not, h1]; exact fun e => this e.1
theorem str_app (a b : List Nat) : str (a ++ b) = str a ++ str b := by
 apply ba_ext; simp [str]
theorem str_size (a : List Nat) : (str a).size = a.length := by simp [str, ByteArray.size]
def bpV (op : BinOp) (u v : Value) : Option X := match bp op u v with
 | some r => ofV r
 | none => none
theorem bpV_spec {op : BinOp} {u v : Value} {z : X} (h : bpV op u v = some z) : ∃ r, bp op u v = some r ∧ vl σ z = some r := by
 unfold bpV at h
 cases hr : bp op u v with
 | none => rw [hr] at h; cases h
 | some r => rw [hr] at h; exact ⟨r, rfl, vl_ofV h⟩
def bpS (op : BinOp) (a b : List Nat) : Option X := match op with
 | .add => (match Nat.ble (a.length + b.length) 9223372036854775807 with
   | true => some (.s (a ++ b))
   | false => none)
 | .eql => some (.b (eqN a b))
 | .neq => some (.b !(eqN a b))
 | op => bpV op (.string (str a)) (.string (str b))
theorem bpS_spec {op : BinOp} {a b : List Nat} {z : X} (h : bpS op a b = some z) : ∃ r, bp op (.string (str a)) (.string (str b)) = some r ∧ vl σ z = some r := by
 unfold bpS at h; split at h
 · split at h
   · rename_i hl; obtain rfl := Option.some.inj h; have hl2 := Nat.le_of_ble_eq_true hl; refine ⟨.string (str a ++ str b), ?_, by simp only [vl, str_app]⟩; simp only [bp]; rw [if_neg]; rw [str_size, str_size]; show ¬ _ > (9223372036854775807 : Int); omega
   · cases h
 · obtain rfl := Option.some.inj h; exact ⟨_, rfl, by simp only [vl, eqN_spec, seq_eq]⟩
 · obtain rfl := Option.some.inj h; exact ⟨_, rfl, by simp only [vl, eqN_spec, seq_eq]⟩
 · exact bpV_spec h
def bp64 (op : BinOp) (m n : Nat) : Option X := match op with
 | .add => @Bool.rec (fun _ => Option X) (bpV .add (.int .i64 (.ofNat m)) (.int .i64 (.ofNat n))) (some (.i .i64 (.ofNat (Nat.add m n)))) (Nat.blt (Nat.add m n) 9223372036854775808)
 | .sub => @Bool.rec (fun _ => Option X) (bpV .sub (.int .i64 (.ofNat m)) (.int .i64 (.ofNat n))) (@Bool.rec (fun _ => Option X) (bpV .sub (.int .i64 (.ofNat m)) (.int .i64 (.ofNat n))) (some (.i .i64 (.ofNat (Nat.sub m n)))) (Nat.blt m 9223372036854775808)) (Nat.ble n m)
 | .mul => @Bool.rec (fun _ => Option X) (bpV .mul (.int .i64 (.ofNat m)) (.int .i64 (.ofNat n))) (some (.i .i64 (.ofNat (Nat.mul m n)))) (Nat.blt (Nat.mul m n) 9223372036854775808)
 | .lss => some (.b (Nat.blt m n))
 | .leq => some (.b (Nat.ble m n))
 | .gtr => some (.b (Nat.blt n m))
 | .geq => some (.b (Nat.ble n m))
 | .eql => some (.b (Nat.beq m n))
 | .neq => some (.b (Bool.not (Nat.beq m n)))
 | op => bpV op (.int .i64 (.ofNat m)) (.int .i64 (.ofNat n))
theorem bool_rec {α : Type} (a b : α) (c : Bool) : @Bool.rec (fun _ => α) a b c = if c = true then b else a := by cases c <;> rfl
theorem bp64_spec {op : BinOp} {m n : Nat} {z : X} (h : bp64 op m n = some z) : ∃ r, bp op (.int .i64 (m : Int)) (.int .i64 (n : Int)) = some r ∧ vl σ z = some r := by
 have w : ∀ k : Int, 0 ≤ k → k < 9223372036854775808 → IntKind.i64.wrap k = k := fun k h1 h2 => wrap64 (by omega) (by omega); unfold bp64 at h; split at h
 · rw [bool_rec] at h; split at h
   · rename_i hb; have hb := Nat.le_of_ble_eq_true hb; obtain rfl := Option.some.inj h; refine ⟨_, rfl, ?_⟩; simp only [vl]; rw [w _ (by omega) (by have : Nat.add m n = m + n := rfl; omega)]; rfl
   · exact bpV_spec h
 · rw [bool_rec] at h; split at h
   · rename_i hb; rw [bool_rec] at h; split at h
     · rename_i hb2; have hb := Nat.le_of_ble_eq_true hb; have hb2 := Nat.le_of_ble_eq_true hb2; obtain rfl := Option.some.inj h; refine ⟨_, rfl, ?_⟩; simp only [vl]; rw [w _ (by omega) (by omega)]
       congr 2
       show ((m - n : Nat) : Int) = (m : Int) - (n : Int); omega
     · exact bpV_spec h
   · exact bpV_spec h
 · rw [bool_rec] at h; split at h
   · rename_i hb; have hb := Nat.le_of_ble_eq_true hb; obtain rfl := Option.some.inj h; refine ⟨_, rfl, ?_⟩; simp only [vl]
     have e : (m : Int) * (n : Int) = ((m * n : Nat) : Int) := by simp
     have e2 : Nat.mul m n = m * n := rfl; rw [e, w _ (by omega) (by omega)]; rfl
   · exact bpV_spec h
 · obtain rfl := Option.some.inj h; refine ⟨_, rfl, ?_⟩; simp only [vl]
   congr 2
   rw [Bool.eq_iff_iff, decide_eq_true_iff]; exact ⟨fun h => by have := Nat.le_of_ble_eq_true h; show (m : Int) < n; omega, fun h => Nat.ble_eq_true_of_le (by have : (m : Int) < n := h; omega)⟩
 · obtain rfl := Option.some.inj h; refine ⟨_, rfl, ?_⟩; simp only [vl]
   congr 2
   rw [Bool.eq_iff_iff, decide_eq_true_iff]; exact ⟨fun h => by have := Nat.le_of_ble_eq_true h; show (m : Int) ≤ n; omega, fun h => Nat.ble_eq_true_of_le (by have : (m : Int) ≤ n := h; omega)⟩
 · obtain rfl := Option.some.inj h; refine ⟨_, rfl, ?_⟩; simp only [vl]
   congr 2
   rw [Bool.eq_iff_iff, decide_eq_true_iff]; exact ⟨fun h => by have := Nat.le_of_ble_eq_true h; show (n : Int) < m; omega, fun h => Nat.ble_eq_true_of_le (by have : (n : Int) < m := h; omega)⟩
 · obtain rfl := Option.some.inj h; refine ⟨_, rfl, ?_⟩; simp only [vl]
   congr 2
   rw [Bool.eq_iff_iff, decide_eq_true_iff]; exact ⟨fun h => by have := Nat.le_of_ble_eq_true h; show (n : Int) ≤ m; omega, fun h => Nat.ble_eq_true_of_le (by have : (n : Int) ≤ m := h; omega)⟩
 · obtain rfl := Option.some.inj h; refine ⟨_, rfl, ?_⟩; simp only [vl]
   congr 2
   rw [Bool.eq_iff_iff, beq_iff_eq]
   constructor
   · intro h; rw [Nat.eq_of_beq_eq_true h]
   · intro h
     have : m = n := by omega
     subst this; exact Nat.beq_refl _
 · obtain rfl := Option.some.inj h; refine ⟨_, rfl, ?_⟩; simp only [vl]
   congr 2
   have : Nat.beq m n = ((m : Int) == (n : Int)) := by
     rw [Bool.eq_iff_iff, beq_iff_eq]
     constructor
     · intro h; rw [Nat.eq_of_beq_eq_true h]
     · intro h
       have : m = n := by omega
       subst this; exact Nat.beq_refl _
   rw [this]; rfl
 · exact bpV_spec h
def bpI (op : BinOp) (k : IntKind) (a : Int) (k' : IntKind) (b : Int) : Option X := match k, k', a, b with
 | .i64, .i64, .ofNat m, .ofNat n => bp64 op m n
 | k, k', a, b => bpV op (.int k a) (.int k' b)
theorem bpI_spec {op : BinOp} {k k' : IntKind} {a b : Int} {z : X} (h : bpI op k a k' b = some z) : ∃ r, bp op (.int k a) (.int k' b) = some r ∧ vl σ z = some r := by
 unfold bpI at h; split at h
 · exact bp64_spec h
 · exact bpV_spec h
def bpX (op : BinOp) (x y : X) : Option X := match x, y with
 | .i k a, .i k' b => bpI op k a k' b
 | .s a, .s b => bpS op a b
 | _, _ => none
theorem bpX_spec {op : BinOp} {x y z : X} {u v : Value} (h : bpX op x y = some z) (hx : vl σ x = some u) (hy : vl σ y = some v) : ∃ r, bp op u v = some r ∧ vl σ z = some r := by
 unfold bpX at h; split at h
 · simp only [vl, Option.some.injEq] at hx hy; subst hx; subst hy; exact bpI_spec h
 · simp only [vl, Option.some.injEq] at hx hy; subst hx; subst hy; exact bpS_spec h
 · cases h
def evX (ρ : T X) : Operand → Option X
 | .tmp t => ρ.get t t
 | .const v => ofV v
 | .func f => some (.f (.func f) [] [])
 | _ => none
def EnvR (σ : Sg) (ρ : T X) (r : Env) : Prop := ∀ t x, ρ.get t t = some x → vl σ x = some (r.get t)
theorem evX_spec {ρ : T X} {r : Env} (h : EnvR σ ρ r) {o : Operand} {x : X} (hx : evX ρ o = some x) : vl σ x = some (r.ev o) := by
 cases o with
 | tmp t => exact h t x hx
 | const v => exact vl_ofV hx
 | global g => cases hx
 | func f => obtain rfl := Option.some.inj hx; rfl
def isAg (P : Program) (t : TypeId) : Option Bool := match P.underlying t with
 | some (.struct _) | some (.array _ _) => some true
 | some _ => some false
 | none => none
def ldX (s : St) (b o : Nat) : Option X := match s.blk b with
 | some c => c.2[o]?
 | none => none
def ldAX (s : St) (b o n : Nat) : Option X := match s.blk b with
 | some c => match Nat.beq ((c.2.drop o).take n).length n with
   | true => some (.g ((c.2.drop o).take n))
   | false => none
 | none => none
theorem Own.cell {b e : Nat} {cs : List X} {rb off k : Nat} {pre vs sp post : List Value} (h : Own P base σ w b e cs rb off k pre vs sp post) {o : Nat} (ho : o < vs.length) : w.cell? ⟨rb, off + o, none⟩ = vs[o]? := by
 obtain ⟨fz, hh, _⟩ := h.heap
 have : w.cell? ⟨rb, off + o, none⟩ = (pre ++ vs ++ sp ++ post)[off + o]? := by simp [World.cell?, hh]
 have hp := h.pre_; rw [this, List.append_assoc, List.append_assoc, List.getElem?_append_right (by omega), List.getElem?_append_left (by omega)]
 congr 1
 omega
theorem Own.any {b e : Nat} {cs : List X} {rb off k : Nat} {pre vs sp post : List Value} (h : Own P base σ w b e cs rb off k pre vs sp post) (o : Nat) : w.cell? ⟨rb, o, none⟩ = (pre ++ vs ++ sp ++ post)[o]? := by
 obtain ⟨fz, hh, _⟩ := h.heap; simp [World.cell?, hh]
theorem Own.nofz {b e : Nat} {cs : List X} {rb off k : Nat} {pre vs sp post : List Value} (h : Own P base σ w b e cs rb off k pre vs sp post) {o : Nat} (ho : o < (pre ++ vs ++ sp ++ post).length) : w.frozen? ⟨rb, o, none⟩ = false := by
 obtain ⟨fz, hh, hz⟩ := h.heap; have := hz o ho; obtain ⟨lo, hi⟩ := fz; simp only [World.frozen?, hh]; simp only at this; rw [Bool.and_eq_false_iff, decide_eq_false_iff_not, decide_eq_false_iff_not]; omega
theorem ldX_spec (h : Mem P base σ s w) {b o : Nat} {x : X} (hx : ldX s b o = some x) : ∃ r v, σ b = some r ∧ vl σ x = some v ∧ w.cell? ⟨r.1, r.2.1 + o, none⟩ = some v := by
 unfold ldX at hx
 cases hb : s.blk b with
 | none => rw [hb] at hx; cases hx
 | some c =>
   rw [hb] at hx; obtain ⟨e, cs⟩ := c; obtain ⟨rb, off, k, pre, vs, sp, post, g⟩ := h.own b e cs hb; obtain ⟨v, g1, g2⟩ := vls_get g.val hx; exact ⟨_, v, g.sg_, g2, by rw [g.cell (List.getElem?_eq_some_iff.1 g1).1, g1]⟩
theorem add_off {b o n : Nat} : (⟨b, o, none⟩ : Addr).add n = ⟨b, o + n, none⟩ := by
 unfold Addr.add; split
 · rename_i h; rw [h]; rfl
 · rfl
theorem ldAX_spec (h : Mem P base σ s w) {b o n : Nat} {x : X} (hx : ldAX s b o n = some x) : ∃ (r : Nat × Nat × Nat) (vs : List Value), σ b = some r ∧ vl σ x = some (.agg vs.toArray) ∧ vs.length = n ∧ ∀ i v, vs[i]? = some v → w.cell? ((⟨r.1, r.2.1 + o, none⟩ : Addr).add i) = some v := by
 unfold ldAX at hx
 cases hb : s.blk b with
 | none => rw [hb] at hx; cases hx
 | some c =>
   rw [hb] at hx; obtain ⟨e, cs⟩ := c; simp only at hx
   cases hl : Nat.beq ((cs.drop o).take n).length n with
   | false => rw [hl] at hx; cases hx
   | true =>
     rw [hl] at hx; obtain rfl := Option.some.inj hx; obtain ⟨rb, off, k, pre, vs, sp, post, g⟩ := h.own b e cs hb; have h3 := vls_take n (vls_drop o g.val); have h5 := Nat.eq_of_beq_eq_true hl; rw [vls_len h3] at h5; refine ⟨_, _, g.sg_, by simp only [vl, h3], h5, fun i v hi => ?_⟩; rw [add_off]; have hi2 := hi; rw [List.getElem?_take_of_lt (by have := (List.getElem?_eq_some_iff.1 hi).1; omega), List.getElem?_drop] at hi2; rw [show off + o + i = off + (o + i) by omega, g.cell (List.getElem?_eq_some_iff.1 hi2).1, hi2]
end
end Go.Ev
namespace Go.M18
def refBi (l : List UInt8) (b i : Nat) : List Nat := (List.range i).filter fun k => decide ((l.getD k 0).toNat = b)
def refL (l : List UInt8) : Nat → List Nat
 | 0 => []
 | b + 1 => refL l b ++ refBi l b l.length
theorem refBi_succ (l : List UInt8) (b i : Nat) : refBi l b (i + 1) = refBi l b i ++ if (l.getD i 0).toNat = b then [i] else [] := by
 unfold refBi; rw [List.range_succ, List.filter_append]
 congr 1
 by_cases h : (l.getD i 0).toNat = b
 · rw [if_pos h, List.filter_cons_of_pos (by simpa using h), List.filter_nil]
 · rw [if_neg h, List.filter_cons_of_neg (by simpa using h), List.filter_nil]
theorem refBi_len (l : List UInt8) (b : Nat) : ∀ i, i ≤ l.length → (refBi l b i).length = cntB (l.take i) b
 | 0, _ => by simp [refBi, cntB]
 | i + 1, h => by
   rw [refBi_succ, List.length_append, refBi_len l b i (by omega), cnt_take_succ l i b (by omega)]
   split <;> simp
theorem refL_len (l : List UInt8) : ∀ b, (refL l b).length = blw l b
 | 0 => by rw [blw_zero]; rfl
 | b + 1 => by rw [refL, List.length_append, refL_len l b, refBi_len l b _ (Nat.le_refl _), List.take_length, blw_succ]
theorem blw_all (l : List UInt8) : blw l 256 = l.length := by
 unfold blw; rw [List.countP_eq_length]; intro a _; simpa using UInt8.toNat_lt a
theorem refL_pre (l : List UInt8) (c : Nat) : ∀ d, ∃ r, refL l (c + d) = refL l c ++ r
 | 0 => ⟨[], by simp⟩
 | d + 1 => by
   obtain ⟨r, h⟩ := refL_pre l c d; exact ⟨r ++ refBi l (c + d) l.length, by rw [← Nat.add_assoc, refL, h, List.append_assoc]⟩
theorem refBi_pre (l : List UInt8) (b i : Nat) : ∀ d, ∃ r, refBi l b (i + d) = refBi l b i ++ r
 | 0 => ⟨[], by simp⟩
 | d + 1 => by
   obtain ⟨r, h⟩ := refBi_pre l b i d; exact ⟨_, by rw [← Nat.add_assoc, refBi_succ, h, List.append_assoc]⟩
theorem refL_pos (l : List UInt8) (i : Nat) (h : i < l.length) : (refL l 256)[pos l i]? = some i := by
 have hb := byte_lt l i; obtain ⟨r, hr⟩ := refL_pre l ((l.getD i 0).toNat + 1) (256 - ((l.getD i 0).toNat + 1)); rw [show (l.getD i 0).toNat + 1 + (256 - ((l.getD i 0).toNat + 1)) = 256 by omega] at hr; obtain ⟨r2, hr2⟩ := refBi_pre l (l.getD i 0).toNat (i + 1) (l.length - (i + 1)); rw [show i + 1 + (l.length - (i + 1)) = l.length by omega, refBi_succ, if_pos rfl] at hr2; rw [hr, refL, hr2]
 have e : pos l i = (refL l (l.getD i 0).toNat).length + (refBi l (l.getD i 0).toNat i).length := by
   rw [refL_len, refBi_len _ _ _ (by omega)]; rfl
 rw [e, List.append_assoc, List.getElem?_append_right (by omega), Nat.add_sub_cancel_left, List.append_assoc, List.append_assoc, List.getElem?_append_right (by omega), Nat.sub_self]; rfl
theorem pos_inj (l : List UInt8) (i j : Nat) (hi : i < l.length) (hj : j < l.length) (h : pos l i = pos l j) : i = j := by
 have h1 := refL_pos l i hi; rw [h, refL_pos l j hj] at h1; injection h1 with h1; exact h1.symm
theorem lnk_pos (l : List UInt8) : ∀ m, m ≤ l.length → ∀ i, i < m → (lnk l m)[pos l i]? = some i
 | 0, _, i, hi => by omega
 | m + 1, hm, i, hi => by
   rw [lnk, List.getElem?_set, lnk_len]
   by_cases e : pos l m = pos l i
   · rw [if_pos e, if_pos (pos_lt l m (by omega)), pos_inj l m i (by omega) (by omega) e]
   · rw [if_neg e]; have : i ≠ m := fun h => e (by rw [h]); exact lnk_pos l m (by omega) i (by omega)
theorem refBi_mem (l : List UInt8) (b i x : Nat) : x ∈ refBi l b i ↔ x < i ∧ (l.getD x 0).toNat = b := by
 unfold refBi; rw [List.mem_filter, List.mem_range, decide_eq_true_iff]
theorem refL_mem (l : List UInt8) : ∀ b x, x ∈ refL l b ↔ x < l.length ∧ (l.getD x 0).toNat < b
 | 0, x => by simp [refL]
 | b + 1, x => by
   rw [refL, List.mem_append, refL_mem l b x, refBi_mem]; omega
theorem refL_nodup (l : List UInt8) : ∀ b, (refL l b).Nodup
 | 0 => by simp [refL]
 | b + 1 => by
   rw [refL, List.nodup_append]; refine ⟨refL_nodup l b, List.Nodup.sublist (List.filter_sublist) List.nodup_range, ?_⟩; intro x hx y hy e; subst e; rw [refL_mem] at hx; rw [refBi_mem] at hy; omega
theorem pos_refL (l : List UInt8) (a v : Nat) (h : (refL l 256)[a]? = some v) : v < l.length ∧ pos l v = a := by
 have hv : v < l.length := ((refL_mem l 256 v).1 (List.mem_of_getElem? h)).1; refine ⟨hv, ?_⟩; have h1 := refL_pos l v hv; have hn := refL_nodup l 256; obtain ⟨ha, ha2⟩ := List.getElem?_eq_some_iff.1 h; obtain ⟨hp, hp2⟩ := List.getElem?_eq_some_iff.1 h1; exact (List.getElem_inj hn).1 (hp2.trans ha2.symm)
theorem links_ref (l : List UInt8) : links l = refL l 256 := by
 have hl : (links l).length = l.length := lnk_len _ _; have hr : (refL l 256).length = l.length := (refL_len l 256).trans (blw_all l); apply List.ext_getElem?; intro a; rcases Nat.lt_or_ge a l.length with ha | ha
 · obtain ⟨v, h⟩ : ∃ v, (refL l 256)[a]? = some v := ⟨_, List.getElem?_eq_getElem (by rw [hr]; exact ha)⟩; obtain ⟨hv, hp⟩ := pos_refL l a _ h; have := lnk_pos l l.length (Nat.le_refl _) _ hv; rw [hp] at this; rw [h, ← this]; rfl
 · rw [List.getElem?_eq_none (by omega), List.getElem?_eq_none (by omega)]
theorem links_len (l : List UInt8) : (links l).length = l.length := lnk_len _ _
end Go.M18
namespace Go.Proofs.YtlppejfnjhkbpaaGreat
open Go Go.Vc
attribute [local irreducible] Vc.Nc Vc.Ld Vc.LdA Vc.St Vc.StA Vc.Fo Vc.Iaa Vc.Ias Vc.Ixs Vc.Ixa Vc.Fd Vc.FdA Vc.Bp Vc.Bb Vc.Bn Vc.Up Vc.Ci Vc.Lns Vc.Lnl Vc.Ex Vc.Sst Vc.Ssl Vc.New Vc.Vif Vc.VJoin Vc.VLoop Vc.KE Vc.Dr Vc.Rk Vc.Cl Vc.Cx Vc.Inv Vc.Be Vc.Cv Vc.Cw Vc.Mf Vc.Sl Vc.Lk Vc.Bd Vc.Bs Vc.Ms Vc.Mm Vc.Mu Vc.Me Vc.Es Vc.Rg Vc.Nx Vc.Ta Vc.Ap Vc.Usd Vc.Ust Vc.Cp Vc.Ln Vc.Bc Vc.Bmin Vc.Bmax Vc.Bdel Vc.Bclr Vc.Pk
namespace U05
open Go.M01 Go.Mb Go.Mp Go.Mz Rb
variable {w : World} {L : List HProp} {K : Value → World → Prop} {b r : Nat} {B : List UInt8} {d at_ n : Nat}
abbrev tT : Nat := 231
theorem bv_ofNat {j : Nat} (h : j < 256) : (Value.int .u8 (j : Int)) = bv (UInt8.ofNat j) := by
 unfold bv; rw [UInt8.toNat_ofNat_of_lt' (by simpa using h)]
theorem sg_bv (c : UInt8) : sg (bv c) = true := rfl
theorem range_filter {p : Nat → Bool} {j : Nat} : (List.range (j + 1)).filter p = (List.range j).filter p ++ if p j then [j] else [] := by
 rw [List.range_succ, List.filter_append, List.filter_cons, List.filter_nil]
theorem valB_bit {q : List Bool} {n i : Nat} (hq : q.length = n) (hi : i < n) : (valB q).testBit (n - 1 - i) = q.getD i false := by
 have h1 : bitsOf (valB q) n = q := M10.valB_inj (n := n) (bitsOf_len _ _) hq (M10.valB_bitsOf _ _ (by rw [← hq]; exact valB_lt q)); have h2 := Mb.bitsOf_get (valB q) n i hi; rw [h1] at h2; rw [List.getD_eq_getElem?_getD, h2]; rfl
theorem marks_spec {q : List Bool} (H : Holds w L) (hq : q.length = 16) (k : ∀ v w', Same w w' → Holds w' (SL nv tI v (marksL q) :: L) → K v w') : Cl Tryz.prog F.used_marks #[uv (valB q)] w K := by
 refine Tie.used_marks ?_; unfold Vcf.used_marks
 have hv : valB q < 65536 := by have := valB_lt q; rw [hq] at this; exact this
 refine r_loop2 (fun o x w' => ∃ i : Nat, i ≤ 16 ∧ x = nv i ∧ Same w w' ∧ Holds w' (SL nv tI o ((List.range i).filter fun i => q.getD i false) :: L)) (fun _ x _ => 16 - (RowKit.intOf x).toNat) ⟨0, by omega, rfl, .refl w, H.nilSL nv tI⟩ ?_; clear H; rintro _ o _ w1 ⟨i, hi, rfl, S, H⟩
 repeat (refine r_lss ?_)
 refine r_ifD (fun h => ?_) fun h => ?_
 · have hlt : i < 16 := by omega
   have hfl : ((List.range i).filter fun i => q.getD i false).length ≤ 16 := Nat.le_trans (List.length_filter_le _ _) (by simp; omega)
   repeat (refine r_sub (by omega) (by omega) ?_)
   rw [show (15 : Int) - (i : Int) = ((15 - i : Nat) : Int) by omega]; refine r_shrU (show 15 - i ≤ 32 by omega) ?_; have hd : valB q / 2 ^ (15 - i) ≤ valB q := Nat.div_le_self _ _; refine r_andU32 (t := 1) (by omega) (by omega) ?_; have hb := valB_bit hq hlt; rw [show 16 - 1 - i = 15 - i by omega] at hb; rw [bit_at, hb]
   cases hc : q.getD i false with
   | true =>
     refine r_eql (r_vtE rfl ?_); refine r_app1 H 0 rfl i sg_nv (by omega) fun v' w2 S2 H2 => ?_; rw [List.set_cons_zero] at H2
     repeat (first | refine r_ke ?_ | (refine r_add1N (by omega) ?_))
     refine ⟨⟨i + 1, by omega, rfl, S.trans S2, ?_⟩, ?_⟩
     · rw [range_filter, hc]; exact H2
     · simp [nv, RowKit.intOf]; omega
   | false =>
     refine r_eql (r_vfE (by decide) ?_)
     repeat (first | refine r_ke ?_ | (refine r_add1N (by omega) ?_))
     refine ⟨⟨i + 1, by omega, rfl, S, ?_⟩, ?_⟩
     · rw [range_filter, hc]; simp only [Bool.false_eq_true, if_false, List.append_nil]; exact H
     · simp [nv, RowKit.intOf]; omega
 · obtain rfl : i = 16 := by omega
   exact k _ _ S H
theorem listed_spec {T : Nat → Bool} (H : Holds w L) (k : ∀ w', Same w w' → Holds w' L → K (S_ (listed T)) w') : Cl Tryz.prog F.used_listed #[.agg ((boolsT T).map Value.bool).toArray] w K := by
 refine Tie.used_listed ?_; unfold Vcf.used_listed; refine r_new H fun b1 w1 S1 H1 => ?_
 have hlen : ((boolsT T).map Value.bool).length = 256 := by rw [List.length_map, boolsT_len]
 have hcells : (Value.agg ((boolsT T).map Value.bool).toArray).cells.toList = (boolsT T).map Value.bool := by simp [Value.cells]
 rw [hcells] at H1; refine r_ldA 0 H1 ((boolsT T).map Value.bool) rfl (by rw [List.drop_zero, List.take_of_length_le (by omega)]) hlen ?_; refine r_loop2 (fun o x w' => ∃ i : Nat, i ≤ 256 ∧ x = nv i ∧ Same w w' ∧ Holds w' (SL bv tB o (((List.range i).filter T).map UInt8.ofNat) :: L)) (fun _ x _ => 256 - (RowKit.intOf x).toNat) ⟨0, by omega, rfl, S1, (H1.drop).nilSL bv tB⟩ ?_; clear H H1 S1; rintro _ o _ w1 ⟨i, hi, rfl, S, H⟩
 repeat (refine r_lss ?_)
 refine r_ifD (fun h => ?_) fun h => ?_
 · have hlt : i < 256 := by omega
   have hfl : (((List.range i).filter T).map UInt8.ofNat).length ≤ 256 := by
     rw [List.length_map]; exact Nat.le_trans (List.length_filter_le _ _) (by simp; omega)
   refine r_ixa1 (.bool (T i)) (by omega) (by omega) (by rw [Int.toNat_natCast, List.getElem?_map, boolsT_get T hlt]; rfl) ?_
   cases hc : T i with
   | true =>
     refine r_vt ?_
     repeat (refine r_ciu8 (by omega) (by omega) ?_)
     rw [bv_ofNat hlt]; refine r_app1 H 0 rfl (UInt8.ofNat i) sg_bv (by omega) fun v' w2 S2 H2 => ?_; rw [List.set_cons_zero] at H2
     repeat (first | refine r_ke ?_ | (refine r_add1N (by omega) ?_))
     refine ⟨⟨i + 1, by omega, rfl, S.trans S2, ?_⟩, ?_⟩
     · rw [range_filter, hc, if_pos rfl, List.map_append]; exact H2
     · simp [nv, RowKit.intOf]; omega
   | false =>
     refine r_vf ?_
     repeat (first | refine r_ke ?_ | (refine r_add1N (by omega) ?_))
     refine ⟨⟨i + 1, by omega, rfl, S, ?_⟩, ?_⟩
     · rw [range_filter, hc]; simp only [Bool.false_eq_true, if_false, List.append_nil]; exact H
     · simp [nv, RowKit.intOf]; omega
 · obtain rfl : i = 256 := by omega
   obtain ⟨oa, sp, rfl, H2⟩ := H.open 0 rfl; refine r_cbs H2 0 rfl rfl ?_; exact k _ S H.drop
theorem read_spec (H : Holds w (RdR r B d at_ :: L))
   (ks : uread (rest B at_) = .short → ∀ q w', Same w w' → Holds w' (RdR r B d q :: L) → K (.tuple #[S_ [], iv 3]) w')
   (kb : uread (rest B at_) = .bad 25 → ∀ q w', Same w w' → Holds w' (RdR r B d q :: L) → K (.tuple #[S_ [], iv 25]) w')
   (k : ∀ T n, uread (rest B at_) = .ok T n → listed T ≠ [] → ∀ w', Same w w' → Holds w' (RdR r B d (at_ + n) :: L) → K (.tuple #[S_ (listed T), iv 0]) w') : Cl Tryz.prog F.used_read #[pt r] w K := by
 refine Tie.used_read ?_; unfold Vcf.used_read; refine Get_spec (n := 16) H (by omega) (fun hs w2 S2 H2 => ?_) fun hs w2 S2 H2 => ?_
 · repeat (first | refine r_neq ?_ | (with_reducible refine r_ex20 ?_) | (with_reducible refine r_ex21 ?_) | ((with_reducible refine r_vtN ?h ?_); (case h => omega)))
   exact ks (by unfold uread; rw [if_pos hs]) _ _ S2 H2
 clear H
 have S := S2; have H := H2; clear S2 H2
 repeat (first | refine r_neq ?_ | (with_reducible refine r_ex20 ?_) | (with_reducible refine r_ex21 ?_) | ((with_reducible refine r_vfN ?h ?_); (case h => omega)))
 have hz : (zeroP Tryz.prog tT).cells.toList = (boolsT fun _ => false).map Value.bool := by rw [boolsT_false]; kernel_rfl
 refine r_new H fun bt w3 S3 H3 => ?_; rw [hz] at H3; replace S := S.trans S3; clear H; have H := H3; clear H3 S3
 have hq : ((rest B at_).take 16).length = 16 := by rw [List.length_take]; omega
 refine marks_spec H hq fun mv w3 S3 H3 => ?_; replace S := S.trans S3; clear H; have H := H3; clear H3 S3; refine r_lnS 0 H rfl ?_; have hml := marksL_len ((rest B at_).take 16); have hm16 := fun i (h : i ∈ marksL ((rest B at_).take 16)) => marksL_lt h
 have e0 : uread (rest B at_) = if (rest B at_).length < 16 + 16 * (marksL ((rest B at_).take 16)).length then .short
     else if listed (usedT (marksL ((rest B at_).take 16)) ((rest B at_).drop 16)) = [] then .bad 25
     else .ok (usedT (marksL ((rest B at_).take 16)) ((rest B at_).drop 16)) (16 + 16 * (marksL ((rest B at_).take 16)).length) := by
   unfold uread; rw [if_neg (by omega)]
 generalize marksL ((rest B at_).take 16) = ms at *
 refine r_loop1 (fun x w' => ∃ j : Nat, j ≤ ms.length ∧ x = nv j ∧ 16 + 16 * j ≤ (rest B at_).length ∧ Same w w' ∧ Holds w' (SL nv tI mv ms :: blk bt tT ([] ++ ((boolsT (usedT (ms.take j) ((rest B at_).drop 16))).map Value.bool ++ [])) :: RdR r B d (at_ + 16 + 16 * j) :: L))
   (fun x _ => ms.length - (RowKit.intOf x).toNat) ⟨0, by omega, rfl, by omega, S, ?_⟩ ?_
 · rw [List.append_nil, List.nil_append]; exact H
 clear H S; rintro _ _ w4 ⟨j, hj, rfl, hlen, S, H⟩
 repeat (refine r_lss ?_)
 refine r_ifD (fun h => ?_) fun h => ?_
 · have hlt : j < ms.length := by omega
   have hgj : ms[j]? = some ms[j] := List.getElem?_eq_getElem hlt; have hi16 := hm16 _ (List.getElem_mem hlt); refine r_getS 0 H rfl hgj ?_; generalize hmi : ms[j] = i at *; have hrl := rest_len B at_; have hrl2 := rest_len B (at_ + 16 + 16 * j); refine Get_spec (n := 16) (Holds.front H 2 rfl) (by omega) (fun hs w5 S5 H5 => ?_) fun hs w5 S5 H5 => ?_
   · repeat (first | refine r_neq ?_ | (with_reducible refine r_ex20 ?_) | (with_reducible refine r_ex21 ?_) | ((with_reducible refine r_vtN ?h ?_); (case h => omega)))
     refine ks ?_ _ _ (S.trans S5) (Holds.front H5 0 rfl |>.dropAt 1 |>.dropAt 1); rw [e0, if_pos (by omega)]
   · replace S := S.trans S5; clear H; have H := H5; clear H5 S5
     repeat (first | refine r_neq ?_ | (with_reducible refine r_ex20 ?_) | (with_reducible refine r_ex21 ?_) | ((with_reducible refine r_vfN ?h ?_); (case h => omega)))
     have hq2 : ((rest B (at_ + 16 + 16 * j)).take 16).length = 16 := by rw [List.length_take]; omega
     refine marks_spec H hq2 fun mv2 w5 S5 H5 => ?_; replace S := S.trans S5; clear H; have H := H5; clear H5 S5; refine r_lnS 0 H rfl ?_; have hml2 := marksL_len ((rest B (at_ + 16 + 16 * j)).take 16)
     have hmm : ∀ b, ((rest B at_).drop 16 |>.drop (16 * j)).getD (b % 16) false = decide (b % 16 ∈ marksL ((rest B (at_ + 16 + 16 * j)).take 16)) := fun b => by
       have hb : b % 16 < 16 := Nat.mod_lt _ (by decide); rw [rest_drop, rest_drop, Bool.eq_iff_iff, decide_eq_true_iff, marksL_mem, List.getD_eq_getElem?_getD, List.getD_eq_getElem?_getD, List.getElem?_take_of_lt hb]; exact ⟨fun h => ⟨hb, h⟩, fun h => h.2⟩
     generalize hm2 : marksL ((rest B (at_ + 16 + 16 * j)).take 16) = ks2 at *; have hk16 : ∀ x ∈ ks2, x < 16 := fun x hx => marksL_lt (by rw [hm2]; exact hx)
     refine r_loop1 (fun x w' => ∃ m : Nat, m ≤ ks2.length ∧ x = nv m ∧ Same w w' ∧ Holds w' (SL nv tI mv2 ks2 :: RdR r B d (at_ + 16 + 16 * j + 16) :: SL nv tI mv ms ::
       blk bt tT ([] ++ ((boolsT fun b => usedT (ms.take j) ((rest B at_).drop 16) b || (decide (b / 16 = i) && decide (b % 16 ∈ ks2.take m))).map Value.bool ++ [])) :: L)) (fun x _ => ks2.length - (RowKit.intOf x).toNat) ⟨0, by omega, rfl, S, ?_⟩ ?_
     · have : (fun b => usedT (ms.take j) ((rest B at_).drop 16) b || (decide (b / 16 = i) && decide (b % 16 ∈ ks2.take 0))) = usedT (ms.take j) ((rest B at_).drop 16) := by
         funext b; simp
       rw [this]; exact H
     clear H S; rintro _ _ w6 ⟨m, hm, rfl, S, H⟩
     repeat (refine r_lss ?_)
     refine r_ifD (fun h => ?_) fun h => ?_
     · have hlt2 : m < ks2.length := by omega
       have hgm : ks2[m]? = some ks2[m] := List.getElem?_eq_getElem hlt2; have hk := hk16 _ (List.getElem_mem hlt2); refine r_getS 0 H rfl hgm ?_; generalize hmk : ks2[m] = kk at *
       repeat (first | refine r_mulE ((16 * i : Nat) : Int) (by omega) (by omega) (by omega) ?_ | (refine r_addN (by omega) ?_) | (refine r_iaaN (by omega) ?_))
       refine r_st 3 H rfl (by simp [boolsT_len]; omega) rfl fun w7 S7 H7 => ?_; have e := mid_set (f := Value.bool) (xs := boolsT fun b => usedT (ms.take j) ((rest B at_).drop 16) b || (decide (b / 16 = i) && decide (b % 16 ∈ ks2.take m))) (post := []) (j := 16 * i + kk) [] true (by rw [boolsT_len]; omega); rw [List.length_nil, boolsT_set] at e; rw [List.set_cons_succ, List.set_cons_succ, List.set_cons_succ, List.set_cons_zero, e] at H7
       have ef : (fun b => (usedT (ms.take j) ((rest B at_).drop 16) b || (decide (b / 16 = i) && decide (b % 16 ∈ ks2.take m))) || decide (b = 16 * i + kk)) = fun b => usedT (ms.take j) ((rest B at_).drop 16) b || (decide (b / 16 = i) && decide (b % 16 ∈ ks2.take (m + 1))) := by
         funext b
         rw [Bool.or_assoc]; refine congrArg (fun z => usedT (ms.take j) ((rest B at_).drop 16) b || z) ?_; rw [Bool.eq_iff_iff]; simp only [Bool.or_eq_true, Bool.and_eq_true, decide_eq_true_iff]; rw [take_snoc hgm, List.mem_append, List.mem_singleton]
         constructor
         · rintro (⟨h1, h2⟩ | h)
           · exact ⟨h1, .inl h2⟩
           · exact ⟨by omega, .inr (by omega)⟩
         · rintro ⟨h1, h2 | h2⟩
           · exact .inl ⟨h1, h2⟩
           · exact .inr (by omega)
       rw [ef] at H7
       repeat (first | refine r_ke ?_ | (refine r_add1N (by omega) ?_))
       refine ⟨⟨m + 1, by omega, rfl, S.trans S7, H7⟩, ?_⟩; simp [nv, RowKit.intOf]; omega
     · obtain rfl : m = ks2.length := by omega
       repeat (first | refine r_ke ?_ | (refine r_add1N (by omega) ?_))
       refine ⟨⟨j + 1, by omega, rfl, by omega, S, ?_⟩, ?_⟩
       · have ef : usedT (ms.take (j + 1)) ((rest B at_).drop 16) = fun b => usedT (ms.take j) ((rest B at_).drop 16) b || (decide (b / 16 = i) && decide (b % 16 ∈ ks2.take ks2.length)) := by
           funext b
           rw [take_snoc hgj, usedT_snoc, List.length_take, Nat.min_eq_left hj, hmm, List.take_length]
         rw [ef, show at_ + 16 + 16 * (j + 1) = at_ + 16 + 16 * j + 16 by omega]; exact (H.drop.front 2 rfl).front 2 rfl
       · simp [nv, RowKit.intOf]; omega
 · obtain rfl : j = ms.length := by omega
   rw [if_neg (by omega)] at e0; rw [List.take_length] at H; generalize usedT ms ((rest B at_).drop 16) = T at *
   have hlenT : ((boolsT T).map Value.bool).length = 256 := by rw [List.length_map, boolsT_len]
   rw [List.append_nil, List.nil_append] at H; refine r_ldA 1 H ((boolsT T).map Value.bool) rfl (by rw [List.drop_zero, List.take_of_length_le (by omega)]) hlenT ?_; refine listed_spec H fun w5 S5 H5 => ?_; have H6 : Holds w5 (RdR r B d (at_ + 16 + 16 * ms.length) :: L) := H5.drop.drop; rw [Nat.add_assoc] at H6; replace S := S.trans S5
   have hsz : (⟨(listed T).toArray⟩ : ByteArray).size = (listed T).length := by show (listed T).toArray.size = _; simp
   repeat (refine r_seq0 ?_)
   by_cases hT : listed T = []
   · rw [if_pos hT] at e0; rw [decide_eq_true (by rw [hsz, hT]; rfl)]; exact r_vt (kb e0 _ _ S H6)
   · rw [if_neg hT] at e0; rw [decide_eq_false (by rw [hsz]; exact fun h => hT (List.eq_nil_of_length_eq_zero h))]; exact r_vf (k _ _ e0 hT _ S H6)
theorem Read_spec (H : Holds w (RdR r B d at_ :: L))
   (ks : uread (rest B at_) = .short → ∀ w', Same w w' → Holds w' (RdR r B d at_ :: L) → K (.tuple #[S_ [], iv 3]) w')
   (kb : uread (rest B at_) = .bad 25 → ∀ w', Same w w' → Holds w' (RdR r B d at_ :: L) → K (.tuple #[S_ [], iv 25]) w')
   (k : ∀ T n, uread (rest B at_) = .ok T n → listed T ≠ [] → ∀ w', Same w w' → Holds w' (RdR r B d (at_ + n) :: L) → K (.tuple #[S_ (listed T), iv 0]) w') : Cl Tryz.prog F.used_Read #[pt r] w K := by
 refine Tie.used_Read ?_; unfold Vcf.used_Read; have hf := (RdR_open H).1; refine At_spec H ?_; refine read_spec H (fun hs q w2 S2 H2 => ?_) (fun hs q w2 S2 H2 => ?_) fun T n hs hT w2 S2 H2 => ?_
 · repeat (first | refine r_neq ?_ | (with_reducible refine r_ex20 ?_) | (with_reducible refine r_ex21 ?_) | ((with_reducible refine r_vtN ?h ?_); (case h => omega)))
   refine Seek_spec H2 hf.1 hf.2.1 fun w3 S3 H3 => ?_; exact ks hs _ (S2.trans S3) H3
 · repeat (first | refine r_neq ?_ | (with_reducible refine r_ex20 ?_) | (with_reducible refine r_ex21 ?_) | ((with_reducible refine r_vtN ?h ?_); (case h => omega)))
   refine Seek_spec H2 hf.1 hf.2.1 fun w3 S3 H3 => ?_; exact kb hs _ (S2.trans S3) H3
 · repeat (first | refine r_neq ?_ | (with_reducible refine r_ex20 ?_) | (with_reducible refine r_ex21 ?_) | ((with_reducible refine r_vfN ?h ?_); (case h => omega)))
   exact k T n hs hT _ S2 H2
end U05
namespace B20
open Go.M01 Go.Mb Go.Mp Go.M10 Go.Mc Go.Mz Go.Mk Rb
variable {w : World} {L : List HProp} {K : Value → World → Prop} {b rb cb zb mb r : Nat} {B : List UInt8} {d at_ n k : Nat} {s : BS} {x : RS} {lv : Value}
abbrev tBk : Nat := 96
abbrev tRw : Nat := 101
def bkC (rv lv : Value) (s : BS) : List Value := [rv, nv s.room, .bool s.head, uv s.sum, nv s.frm, lv, .bool s.done, iv 0]
def rwC (cb zb mb : Nat) (x : RS) : List Value := [pt cb, pt zb, pt mb, nv x.due, nv x.place]
def rawN (b : Nat) (s : BS) (lv : Value) : List HProp := [blk b tBk (bkC (.pointer none) lv s), SL bv tB lv s.last]
def rawS (b : Nat) (s : BS) (x : RS) (rb cb zb mb : Nat) (lv : Value) : List HProp :=
 [blk b tBk (bkC (pt rb) lv s), SL bv tB lv s.last, blk rb tRw (rwC cb zb mb x), C14.CdR cb x.code, Z07.ZrR zb x.zeros, F06.MtR mb x.list]
def RawR (b : Nat) (s : BS) : HProp := match s.row with
 | none => fun h => ∃ lv, Sat (rawN b s lv) h
 | some x => fun h => ∃ rb cb zb mb lv, Sat (rawS b s x rb cb zb mb lv) h
def BkR (b : Nat) (s : BS) : HProp := fun h => s.Ok ∧ RawR b s h
theorem BkR_open (H : Holds w (BkR b s :: L)) : s.Ok ∧ Holds w (RawR b s :: L) := Holds.pure H
theorem BkR_close (h : s.Ok) (H : Holds w (RawR b s :: L)) : Holds w (BkR b s :: L) := Holds.imp H fun _ hh => ⟨h, hh⟩
theorem Raw_openN (hr : s.row = none) (H : Holds w (RawR b s :: L)) : ∃ lv, Holds w (rawN b s lv ++ L) := by
 unfold RawR at H; rw [hr] at H; obtain ⟨lv, H⟩ := Holds.ex H; exact ⟨lv, Holds.unpack H⟩
theorem Raw_closeN (hr : s.row = none) (H : Holds w (rawN b s lv ++ L)) : Holds w (RawR b s :: L) := by
 unfold RawR; rw [hr]; exact Holds.imp (Holds.pack H) fun _ hh => ⟨lv, hh⟩
theorem Raw_openS (hr : s.row = some x) (H : Holds w (RawR b s :: L)) : ∃ rb cb zb mb lv, Holds w (rawS b s x rb cb zb mb lv ++ L) := by
 unfold RawR at H; rw [hr] at H; obtain ⟨rb, H⟩ := Holds.ex H; obtain ⟨cb, H⟩ := Holds.ex H; obtain ⟨zb, H⟩ := Holds.ex H; obtain ⟨mb, H⟩ := Holds.ex H; obtain ⟨lv, H⟩ := Holds.ex H; exact ⟨rb, cb, zb, mb, lv, Holds.unpack H⟩
theorem Raw_closeS (hr : s.row = some x) (H : Holds w (rawS b s x rb cb zb mb lv ++ L)) : Holds w (RawR b s :: L) := by
 unfold RawR; rw [hr]; exact Holds.imp (Holds.pack H) fun _ hh => ⟨rb, cb, zb, mb, lv, hh⟩
def AfterB (y : Res BS) (b : Nat) (s : BS) (r : Nat) (B : List UInt8) (d at_ : Nat) (L : List HProp) (e : Int) (w : World) : Prop :=
 match y with
 | .short => e = 3 ∧ Holds w (BkR b s :: RdR r B d at_ :: L)
 | .bad c => e = (c : Int) ∧ ∃ q v1 v2 v3 v4 v5 v6, Holds w (blk b tBk [v1, v2, v3, v4, v5, v6, .bool false, iv 0] :: RdR r B d q :: L)
 | .ok s' n => e = 0 ∧ Holds w (BkR b s' :: RdR r B d (at_ + n) :: L)
theorem szT (T : Nat → Bool) : (⟨(listed T).toArray⟩ : ByteArray).size = (listed T).length := by show (listed T).toArray.size = _; simp
theorem rowOf_spec {T : Nat → Bool} {room : Nat} (H : Holds w L) (hT : listed T ≠ []) (hr : room ≤ 900000)
   (k : ∀ rb cb zb mb w', Same w w' → Holds w' (blk rb tRw (rwC cb zb mb (rowOf T room)) :: C14.CdR cb (rowOf T room).code :: Z07.ZrR zb (rowOf T room).zeros :: F06.MtR mb (rowOf T room).list :: L) → K (pt rb) w') : Cl Tryz.prog F.block_rowOf #[S_ (listed T), nv room] w K := by
 refine Tie.block_rowOf ?_; unfold Vcf.block_rowOf; have hl := listed_len T; have hl0 : 0 < (listed T).length := List.length_pos_iff.2 hT; refine r_lns ?_; rw [szT]; refine r_addN (b := 2) (by omega) ?_; refine C14.NewReader_spec H (by omega) (by omega) fun cb w1 S1 H1 => ?_; refine r_ex20 (r_ex21 (r_lns ?_)); rw [szT]; refine Z07.NewReader_spec H1 hl0 hl hr fun zb w2 S2 H2 => ?_; refine r_ex20 (r_ex21 ?_); refine F06.New_spec H2 hT fun mb w3 S3 H3 => ?_; refine r_ex20 (r_ex21 ?_); refine r_bd (v := .agg #[pt cb, pt zb, pt mb, nv 0, nv 0]) (by kernel_rfl) ?_; refine r_new H3 fun rb w4 S4 H4 => ?_; replace H4 : Holds w4 (blk rb tRw [pt cb, pt zb, pt mb, nv 0, nv 0] :: F06.MtR mb (listed T) :: Z07.ZrR zb (z0 (listed T).length room) :: C14.CdR cb (c0 ((listed T).length + 2)) :: L) := H4; exact k rb cb zb mb _ (((S1.trans S2).trans S3).trans S4) (by have h_ := Holds.ord 4 [0, 3, 2, 1] H4 rfl; exact h_)
theorem waits_spec (H : Holds w L) (i : Nat) (hi : L[i]? = some (blk rb tRw (rwC cb zb mb x))) (k : K (.bool x.waits) w) : Cl Tryz.prog F.block_row_waits #[pt rb] w K := by
 refine Tie.block_row_waits ?_; unfold Vcf.block_row_waits; refine r_bnST (r_vt ?_); refine r_nc (r_fo0 ?_); refine r_ld i H hi rfl ?_; refine r_gtr (r_ifD (fun h => ?_) fun h => ?_)
 · have e : x.waits = true := by unfold RS.waits; simp; left; omega
   rw [e] at k; exact k
 · refine r_nc (r_fo0 ?_); refine r_ld i H hi rfl ?_; refine r_gtr ?_
   have e : x.waits = decide ((0 : Int) < (x.place : Int)) := by
     unfold RS.waits; rw [decide_eq_false (by omega), Bool.false_or, Bool.eq_iff_iff, decide_eq_true_iff, decide_eq_true_iff]; omega
   rw [e] at k; exact k
theorem told_spec {c : CS} {sy : Nat} (H : Holds w (blk rb tRw (rwC cb zb mb x) :: Z07.ZrR zb x.zeros :: L)) (hs : sy ≤ x.zeros.n + 1) (hd : x.zeros.done = false)
   (kb : zput x.zeros sy = none → ∀ w', Same w w' → Holds w' L → K (iv 25) w')
   (k : ∀ z d p, zput x.zeros sy = some (z, d, p) → ∀ w', Same w w' → Holds w' (blk rb tRw (rwC cb zb mb ⟨c, z, x.list, d, p.toNat⟩) :: Z07.ZrR zb z :: L) → K (iv 0) w') : Cl Tryz.prog F.block_row_told #[pt rb, nv sy] w K := by
 refine Tie.block_row_told ?_; unfold Vcf.block_row_told; refine r_nc (r_fo0 (r_ld 0 H rfl rfl ?_)); refine Z07.Put_spec H.swap hs hd (fun hn e w2 he S2 H2 => ?_) fun z d p hz w2 S2 H2 => ?_
 · refine r_ex30 (r_ex31 (r_ex32 ?_)); refine r_neq (r_vtN he ?_); exact kb hn _ S2 H2.drop
 · refine r_ex30 (r_ex31 (r_ex32 ?_)); refine r_neq (r_vfN rfl ?_); have S := S2; have H := H2.swap; clear H2 S2
   repeat (first | refine r_nc ?_ | refine r_fo0 ?_)
   refine r_st 0 H rfl (by simp [rwC]) rfl fun w3 S3 H3 => ?_; replace H3 : Holds w3 (blk rb tRw [pt cb, pt zb, pt mb, nv d, nv x.place] :: Z07.ZrR zb z :: L) := H3; refine r_max ?_; rw [show max p 0 = ((p.toNat : Nat) : Int) by omega]
   repeat (first | refine r_nc ?_ | refine r_fo0 ?_)
   refine r_st 0 H3 rfl (by simp) rfl fun w4 S4 H4 => ?_; exact k z d p hz _ ((S.trans S3).trans S4) H4
theorem next_spec (H : Holds w (blk rb tRw (rwC cb zb mb x) :: F06.MtR mb x.list :: L)) (hat : x.at_ < x.list.length) (hdue : x.due ≤ 900000)
   (k : ∀ w', Same w w' → Holds w' (blk rb tRw (rwC cb zb mb x.next) :: F06.MtR mb x.next.list :: L) → K (bv x.byte) w') : Cl Tryz.prog F.block_row_next #[pt rb] w K := by
 refine Tie.block_row_next ?_; unfold Vcf.block_row_next; have S := Same.refl w; refine r_join1 (fun y w' => y = nv x.at_ ∧ Same w w' ∧ Holds w' (blk rb tRw (rwC cb zb mb x.next) :: F06.MtR mb x.list :: L)) ?_ ?_
 · clear H S; rintro _ _ w1 ⟨rfl, S, H⟩; refine r_nc (r_fo0 (r_ld 0 H rfl rfl ?_)); refine F06.At_spec H.swap hat fun w2 S2 H2 => ?_; refine r_ex20 (r_ex21 ?_); exact k _ (S.trans S2) H2.swap
 · refine r_nc (r_fo0 (r_ld 0 H rfl rfl ?_)); refine r_gtr (r_ifD (fun h => ?_) fun h => ?_)
   · refine r_nc (r_fo0 (r_ld 0 H rfl rfl ?_))
     repeat (first | refine r_nc ?_ | refine r_fo0 ?_ | (refine r_sub1N (by omega) (by omega) ?_))
     refine r_st 0 H rfl (by simp [rwC]) rfl fun w3 S3 H3 => ?_
     repeat (refine r_ke ?_)
     have h0 : 0 < x.due := by omega
     refine ⟨by unfold RS.at_; rw [if_pos h0]; rfl, S.trans S3, ?_⟩; rw [rwC, RS.next, if_pos h0]; exact H3
   · refine r_nc (r_fo0 (r_ld 0 H rfl rfl ?_)); refine r_nc (r_fo0 ?_); refine r_st 0 H rfl (by simp [rwC]) rfl fun w3 S3 H3 => ?_
     repeat (refine r_ke ?_)
     have h0 : ¬ 0 < x.due := by omega
     refine ⟨by unfold RS.at_; rw [if_neg h0], S.trans S3, ?_⟩; rw [rwC, RS.next, if_neg h0, show x.due - 1 = x.due by omega]; exact H3
theorem NewReader_spec {room : Nat} (H : Holds w L) (h1 : 5 ≤ room) (h2 : room ≤ 900000) (k : ∀ b w', Same w w' → Holds w' (BkR b (b0 room) :: L) → K (.tuple #[pt b, iv 0]) w') : Cl Tryz.prog F.block_NewReader #[nv room] w K := by
 refine Tie.block_NewReader ?_; unfold Vcf.block_NewReader; refine r_join1 (fun x w' => w = w' ∧ x = .bool false) ?_ ?_
 · rintro _ _ _ ⟨rfl, rfl⟩; refine r_vf ?_; refine r_bd (v := .agg #[.pointer none, nv room, .bool false, uv 0, nv 0, .slice none 0 0, .bool false, iv 0]) (by kernel_rfl) ?_; refine r_new H fun b w2 S2 H2 => ?_; refine k b _ S2 (BkR_close (b0_ok h2) (Raw_closeN (lv := .slice none 0 0) rfl ?_)); exact (H2.nilSL bv tB).swap
 · repeat (first | refine r_ke ?_ | refine r_lss ?_ | refine r_gtr ?_ | ((with_reducible refine r_vfD ?h ?_); (case h => omega)))
   exact ⟨rfl, by rw [decide_eq_false (by omega)]⟩
theorem end_spec (H : Holds w (RawR b s :: RdR r B d (at_ + n) :: L)) (hp : Pre s) (s0 : BS) (post : ∀ e w', Same w w' → AfterB (bend s n) b s0 r B d at_ L e w' → K (iv e) w') : Cl Tryz.prog F.block_Reader_end #[pt b] w K := by
 refine Tie.block_Reader_end ?_; unfold Vcf.block_Reader_end; have S := Same.refl w; have hok := fun s' k' (h : bend s n = .ok s' k') => (bend_ok hp h).1
 cases hr : s.row with
 | none =>
   have e0 : bend s n = .ok s n := by unfold bend; rw [hr]
   rw [e0] at post hok; obtain ⟨lv, H⟩ := Raw_openN hr H; refine r_join1 (fun y w' => w = w' ∧ y = .bool true) ?_ ?_
   · rintro _ _ _ ⟨rfl, rfl⟩; refine r_vt ?_; exact post 0 _ S ⟨rfl, BkR_close (hok _ _ rfl) (Raw_closeN hr H)⟩
   · unfold rawN at H
     repeat (first | refine r_nc ?_ | refine r_fo0 ?_ | refine r_ke ?_ | (with_reducible refine r_bnNT ?_) | (with_reducible refine r_vt ?_) | refine r_ld 0 H rfl rfl ?_)
     exact ⟨rfl, rfl⟩
 | some x =>
   obtain ⟨rb, cb, zb, mb, lv, H⟩ := Raw_openS hr H
   have e0 : bend s n = if x.code.done = false ∨ x.waits = true then .ok s n else if s.last.length ≤ s.frm then .bad 23 else .ok ⟨s.room, s.head, s.sum, s.frm, s.row, s.last, true⟩ n := by
     unfold bend; rw [hr]
   rw [e0] at post hok; unfold rawS at H; have hf := hp.frm; refine r_join1 (fun y w' => w = w' ∧ y = .bool (!x.code.done || x.waits)) ?_ ?_
   · rintro _ _ _ ⟨rfl, rfl⟩
     by_cases hc : x.code.done = false ∨ x.waits = true
     · rw [if_pos hc] at post hok
       have : (!x.code.done || x.waits) = true := by
         rcases hc with h | h
         · rw [h]; rfl
         · rw [h]; simp
       rw [this]; refine r_vt ?_; exact post 0 _ S ⟨rfl, BkR_close (hok _ _ rfl) (Raw_closeS hr H)⟩
     · rw [if_neg hc] at post hok
       have : (!x.code.done || x.waits) = false := by
         rw [Bool.or_eq_false_iff]
         constructor
         · cases h : x.code.done with
           | false => exact absurd (.inl h) hc
           | true => rfl
         · cases h : x.waits with
           | false => rfl
           | true => exact absurd (.inr h) hc
       rw [this]; refine r_vf ?_
       repeat (first | refine r_nc ?_ | refine r_fo0 ?_ | (refine r_dr H ?_; clear H; intro _ S_ H; replace S := S.trans S_; clear S_) | refine r_ld 0 H rfl rfl ?_)
       refine r_lnS 1 H rfl ?_
       repeat (refine r_geq ?_)
       refine r_ifD (fun h => ?_) fun h => ?_
       · rw [if_pos (by omega)] at post; have H9 := (by have h_ := Holds.ord 7 [0, 6] H rfl; exact h_); rw [bkC, hp.done] at H9; exact post 23 _ S ⟨rfl, at_ + n, _, _, _, _, _, _, H9⟩
       · rw [if_neg (by omega)] at post hok
         repeat (first | refine r_nc ?_ | refine r_fo0 ?_)
         refine r_st 0 H rfl (by simp [bkC]) rfl fun w3 S3 H3 => ?_; exact post 0 _ (S.trans S3) ⟨rfl, BkR_close (hok _ _ rfl) (Raw_closeS (s := ⟨s.room, s.head, s.sum, s.frm, s.row, s.last, true⟩) hr H3)⟩
   · repeat (first | refine r_nc ?_ | refine r_fo0 ?_ | (with_reducible refine r_bnSF ?_) | (with_reducible refine r_vf ?_) | refine r_ld 0 H rfl rfl ?_ | refine r_ld 2 H rfl rfl ?_)
     have H2 : Holds w (C14.CdR cb x.code :: blk b tBk (bkC (pt rb) lv s) :: SL bv tB lv s.last :: blk rb tRw (rwC cb zb mb x) :: Z07.ZrR zb x.zeros :: F06.MtR mb x.list :: RdR r B d (at_ + n) :: L) := (by have h_ := Holds.ord 7 [3, 0, 1, 2, 4, 5, 6] H rfl; exact h_); refine C14.Done_spec H2 ?_
     cases hcd : x.code.done with
     | false =>
       refine r_notF (r_vt ?_)
       repeat (refine r_ke ?_)
       exact ⟨rfl, rfl⟩
     | true =>
       refine r_notT (r_vf ?_)
       repeat (first | refine r_nc ?_ | refine r_fo0 ?_ | refine r_ld 0 H rfl rfl ?_)
       refine waits_spec H 2 rfl ?_
       repeat (refine r_ke ?_)
       exact ⟨rfl, by simp⟩
def Mid (y : Res BS) (b : Nat) (s : BS) (r : Nat) (B : List UInt8) (d at_ : Nat) (L : List HProp) (v : Value) (w : World) : Prop :=
 (∃ e : Int, v = iv e ∧ e ≠ 0 ∧ AfterB y b s r B d at_ L e w) ∨ (v = iv 0 ∧ ∃ s' n, y = bend s' n ∧ Pre s' ∧ Holds w (RawR b s' :: RdR r B d (at_ + n) :: L))
theorem begin_spec (H : Holds w (BkR b s :: RdR r B d at_ :: L)) (hh : s.head = false) (post : ∀ v w', Same w w' → Mid (bstep s (rest B at_)) b s r B d at_ L v w' → K v w') :
   Cl Tryz.prog F.block_Reader_begin #[pt b, pt r] w K := by
 refine Tie.block_Reader_begin ?_; unfold Vcf.block_Reader_begin; obtain ⟨hs, H⟩ := BkR_open H; have hrow := (head_pre (s := 0) (f := 0) hs hh (by omega) (by omega)).1; obtain ⟨lv, H⟩ := Raw_openN hrow H
 have e0 : bstep s (rest B at_) = bhead s (rest B at_) := by unfold bstep; rw [if_pos hh]
 rw [e0] at post; have hrl := rest_len B at_; have H1 : Holds w (RdR r B d at_ :: blk b tBk (bkC (.pointer none) lv s) :: SL bv tB lv s.last :: L) := (by have h_ := Holds.ord 3 [2, 0, 1] H rfl; exact h_); clear H; refine Left_spec H1 fun w2 S2 H2 => ?_; have S := S2; have H := H2; clear H1 H2 S2; refine r_lss (r_ifD (fun h => ?_) fun h => ?_)
 · refine post _ _ S (.inl ⟨3, rfl, by decide, ?_⟩); unfold bhead; rw [if_pos (by omega)]; exact ⟨rfl, BkR_close hs (Raw_closeN hrow (by have h_ := Holds.ord 3 [1, 2, 0] H rfl; exact h_))⟩
 · have h57 : ¬ (rest B at_).length < 57 := by omega
   have h32 := rest_len B (at_ + 32); have h33 := rest_len B (at_ + 32 + 1); refine Get_spec (n := 32) H (by omega) (fun hx => absurd hx (by omega)) fun _ w3 S3 H3 => ?_; refine r_ex20 (r_ex21 ?_); refine Get1_spec H3 (fun hx => ?_) fun c hc w4 S4 H4 => ?_
   · have := (List.getElem?_eq_none_iff.1 hx); omega
   refine r_ex20 (r_ex21 ?_); refine Get_spec (n := 24) H4 (by omega) (fun hx => absurd hx (by omega)) fun _ w5 S5 H5 => ?_; refine r_ex20 (r_ex21 ?_); replace S := ((S.trans S3).trans S4).trans S5; clear H H3 H4; have H := H5; clear H5; have hv1 := valB_take_lt (rest B at_) 32; have hv2 := valB_take_lt (rest B (at_ + 32 + 1)) 24; have e1 : (rest B at_).drop 33 = rest B (at_ + 32 + 1) := rest_drop B at_ 33
   have e2 : valB (((rest B at_).drop 32).take 1) = c.toNat := by
     rw [rest_drop, take_snoc (n := 0) hc, List.take_zero, List.nil_append, valB_one]
   have eh : bhead s (rest B at_) = if c.toNat = 1 then .bad 25 else bend ⟨s.room, true, valB ((rest B at_).take 32), valB ((rest B (at_ + 32 + 1)).take 24), s.row, s.last, s.done⟩ 57 := by
     unfold bhead; rw [if_neg h57, e1, e2]
   rw [eh] at post; have hpre := (head_pre (s := valB ((rest B at_).take 32)) (f := valB ((rest B (at_ + 32 + 1)).take 24)) hs hh (by omega) (by omega)).2; generalize valB ((rest B at_).take 32) = sm at *; generalize valB ((rest B (at_ + 32 + 1)).take 24) = fm at *; refine r_nc (r_fo0 ?_); refine r_st 1 H rfl (by simp [bkC]) rfl fun w3 S3 H3 => ?_; replace H3 : Holds w3 (RdR r B d (at_ + 32 + 1 + 24) :: blk b tBk [.pointer none, nv s.room, .bool true, uv s.sum, nv s.frm, lv, .bool s.done, iv 0] :: SL bv tB lv s.last :: L) := H3; refine r_nc (r_fo0 ?_); refine r_st 1 H3 rfl (by simp) rfl fun w4 S4 H4 => ?_; replace H4 : Holds w4 (RdR r B d (at_ + 32 + 1 + 24) :: blk b tBk [.pointer none, nv s.room, .bool true, uv sm, nv s.frm, lv, .bool s.done, iv 0] :: SL bv tB lv s.last :: L) := H4; refine r_ci64 (by omega) (by omega) ?_; refine r_nc (r_fo0 ?_); refine r_st 1 H4 rfl (by simp) rfl fun w5 S5 H5 => ?_; replace H5 : Holds w5 (RdR r B d (at_ + 32 + 1 + 24) :: blk b tBk [.pointer none, nv s.room, .bool true, uv sm, nv fm, lv, .bool s.done, iv 0] :: SL bv tB lv s.last :: L) := H5; replace S := ((S.trans S3).trans S4).trans S5; refine r_eql (r_ifE (fun h => ?_) fun h => ?_)
   · rw [if_pos (by omega)] at post; rw [(hs.none_ hrow).2] at H5; exact post _ _ S (.inl ⟨25, rfl, by decide, rfl, _, _, _, _, _, _, _, (by have h_ := Holds.ord 3 [1, 0] H5 rfl; exact h_)⟩)
   · rw [if_neg (by omega)] at post; exact post _ _ S (.inr ⟨rfl, _, _, rfl, hpre, Raw_closeN hrow (by have h_ := Holds.ord 3 [1, 2, 0] H5 rfl; exact h_)⟩)
theorem symbols_spec (H : Holds w (BkR b s :: RdR r B d at_ :: L)) (hh : s.head = true) (hrow : s.row = none) (post : ∀ v w', Same w w' → Mid (bstep s (rest B at_)) b s r B d at_ L v w' → K v w') :
   Cl Tryz.prog F.block_Reader_symbols #[pt b, pt r] w K := by
 refine Tie.block_Reader_symbols ?_; unfold Vcf.block_Reader_symbols; obtain ⟨hs, H⟩ := BkR_open H; obtain ⟨lv, H⟩ := Raw_openN hrow H
 have e0 : bstep s (rest B at_) = buse s (uread (rest B at_)) := by unfold bstep; rw [if_neg (by rw [hh]; decide), hrow]
 rw [e0] at post; have H1 : Holds w (RdR r B d at_ :: blk b tBk (bkC (.pointer none) lv s) :: SL bv tB lv s.last :: L) := (by have h_ := Holds.ord 3 [2, 0, 1] H rfl; exact h_); clear H; have hroom := hs.room; refine U05.Read_spec H1 (fun hx w2 S2 H2 => ?_) (fun hx w2 S2 H2 => ?_) fun T n hx hT w2 S2 H2 => ?_
 · rw [hx] at post; refine r_ex20 (r_ex21 (r_eql (r_vfE (by decide) ?_))); exact post _ _ S2 (.inl ⟨3, rfl, by decide, rfl, BkR_close hs (Raw_closeN hrow (by have h_ := Holds.ord 3 [1, 2, 0] H2 rfl; exact h_))⟩)
 · rw [hx] at post; refine r_ex20 (r_ex21 (r_eql (r_vfE (by decide) ?_))); rw [bkC, (hs.none_ hrow).2] at H2; exact post _ _ S2 (.inl ⟨25, rfl, by decide, rfl, _, _, _, _, _, _, _, (by have h_ := Holds.ord 3 [1, 0] H2 rfl; exact h_)⟩)
 · rw [hx] at post; refine r_ex20 (r_ex21 (r_eql (r_vtE rfl ?_))); refine r_nc (r_fo0 (r_ld 1 H2 rfl rfl ?_)); refine rowOf_spec H2 hT hroom fun rb cb zb mb w3 S3 H3 => ?_; refine r_nc (r_fo0 ?_); refine r_st 5 H3 rfl (by simp [bkC]) rfl fun w4 S4 H4 => ?_; replace H4 : Holds w4 (blk rb tRw (rwC cb zb mb (rowOf T s.room)) :: C14.CdR cb (rowOf T s.room).code :: Z07.ZrR zb (rowOf T s.room).zeros :: F06.MtR mb (rowOf T s.room).list :: RdR r B d (at_ + n) :: blk b tBk (bkC (pt rb) lv s) :: SL bv tB lv s.last :: L) := H4; refine post _ _ ((S2.trans S3).trans S4) (.inr ⟨rfl, _, _, rfl, use_pre hs hh hrow hT, Raw_closeS (rb := rb) (cb := cb) (zb := zb) (mb := mb) (lv := lv) rfl ?_⟩); exact (by have h_ := Holds.ord 7 [5, 6, 0, 1, 2, 3, 4] H4 rfl; exact h_)
theorem symbol_spec (H : Holds w (BkR b s :: RdR r B d at_ :: L)) (hd : s.done = false) (hh : s.head = true) (hrow : s.row = some x) (hw : x.waits = false) (post : ∀ v w', Same w w' → Mid (bstep s (rest B at_)) b s r B d at_ L v w' → K v w') :
   Cl Tryz.prog F.block_Reader_symbol #[pt b, pt r] w K := by
 refine Tie.block_Reader_symbol ?_; unfold Vcf.block_Reader_symbol; obtain ⟨hs, H⟩ := BkR_open H; obtain ⟨rb, cb, zb, mb, lv, H⟩ := Raw_openS hrow H
 have e0 : bstep s (rest B at_) = bsym s x (cstep x.code (rest B at_)) := by unfold bstep; rw [if_neg (by rw [hh]; decide), hrow]; simp only; rw [if_neg (by rw [hw]; decide)]
 rw [e0] at post; have hcd := waits_or hs hd hrow hw; obtain ⟨g1, g2, g3, g4, g5⟩ := hs.some_ x hrow; unfold rawS at H; refine r_nc (r_fo0 (r_ld 0 H rfl rfl ?_)); refine r_nc (r_fo0 (r_ld 2 H rfl rfl ?_)); have H1 : Holds w (C14.CdR cb x.code :: RdR r B d at_ :: blk b tBk (bkC (pt rb) lv s) :: SL bv tB lv s.last :: blk rb tRw (rwC cb zb mb x) :: Z07.ZrR zb x.zeros :: F06.MtR mb x.list :: L) := (by have h_ := Holds.ord 7 [3, 6, 0, 1, 2, 4, 5] H rfl; exact h_); refine C14.Step_spec H1 hcd fun v w2 S2 hA => ?_; clear H1 H
 cases hx : cstep x.code (rest B at_) with
 | short =>
   rw [hx] at hA post; obtain ⟨rfl, H⟩ := hA; refine r_ex20 (r_ex21 ?_); refine r_join1 (fun y w' => w2 = w' ∧ y = .bool true) ?_ ?_
   · rintro _ _ _ ⟨rfl, rfl⟩; refine r_vt ?_; exact post _ _ S2 (.inl ⟨3, rfl, by decide, rfl, BkR_close hs (Raw_closeS (rb := rb) (cb := cb) (zb := zb) (mb := mb) (lv := lv) hrow (by have h_ := Holds.ord 7 [2, 3, 4, 0, 5, 6, 1] H rfl; exact h_))⟩)
   · refine r_neq (r_vtN (by decide) ?_)
     repeat (refine r_ke ?_)
     exact ⟨rfl, rfl⟩
 | bad c =>
   have hcb := cstep_bad hx
   have hc0 : (c : Int) ≠ 0 := by omega
   rw [hx] at hA post; obtain ⟨rfl, q, H⟩ := hA; refine r_ex20 (r_ex21 ?_); refine r_join1 (fun y w' => w2 = w' ∧ y = .bool true) ?_ ?_
   · rintro _ _ _ ⟨rfl, rfl⟩; refine r_vt ?_; rw [bkC, hd] at H; exact post _ _ S2 (.inl ⟨c, rfl, hc0, rfl, q, _, _, _, _, _, _, (by have h_ := Holds.ord 6 [1, 0] H rfl; exact h_)⟩)
   · refine r_neq (r_vtN hc0 ?_)
     repeat (refine r_ke ?_)
     exact ⟨rfl, rfl⟩
 | ok y k =>
   obtain ⟨c, o⟩ := y; rw [hx] at hA post; obtain ⟨rfl, H⟩ := hA; refine r_ex20 (r_ex21 ?_)
   cases o with
   | none =>
     refine r_join1 (fun y w' => w2 = w' ∧ y = .bool true) ?_ ?_
     · rintro _ _ _ ⟨rfl, rfl⟩; refine r_vt ?_; refine post _ _ S2 (.inr ⟨rfl, _, _, rfl, sym_pre hs hd hrow hx, Raw_closeS (rb := rb) (cb := cb) (zb := zb) (mb := mb) (lv := lv) rfl ?_⟩); exact (by have h_ := Holds.ord 7 [2, 3, 4, 0, 5, 6, 1] H rfl; exact h_)
     · refine r_neq (r_vfN rfl ?_); refine r_lss (r_ke ?_); exact ⟨rfl, rfl⟩
   | some sy =>
     have hsy := (cstep_ok hx g2.code).2.2 sy rfl; have hsz := g2.size; refine r_join1 (fun y w' => w2 = w' ∧ y = .bool false) ?_ ?_
     · rintro _ _ _ ⟨rfl, rfl⟩; refine r_vf ?_; refine r_nc (r_fo0 (r_ld 2 H rfl rfl ?_)); have H1 : Holds w2 (blk rb tRw (rwC cb zb mb x) :: Z07.ZrR zb x.zeros :: C14.CdR cb c :: RdR r B d (at_ + k) :: blk b tBk (bkC (pt rb) lv s) :: SL bv tB lv s.last :: F06.MtR mb x.list :: L) := (by have h_ := Holds.ord 7 [4, 5, 0, 1, 2, 3, 6] H rfl; exact h_); refine told_spec (c := c) H1 (by omega) (by rw [g2.zd]; exact hcd) (fun hn w3 S3 H3 => ?_) fun z dd p hz w3 S3 H3 => ?_
       · have e1 : bsym s x (.ok (c, some sy) k) = .bad 25 := by show btold s x c sy k = _; unfold btold; rw [hn]
         rw [e1] at post; rw [bkC, hd] at H3; exact post _ _ (S2.trans S3) (.inl ⟨25, rfl, by decide, rfl, _, _, _, _, _, _, _, (by have h_ := Holds.ord 5 [2, 1] H3 rfl; exact h_)⟩)
       · refine post _ _ (S2.trans S3) (.inr ⟨rfl, ⟨s.room, s.head, s.sum, s.frm, some ⟨c, z, x.list, dd, p.toNat⟩, s.last, s.done⟩, k, ?_, told_pre hs hd hrow hw hx hz, Raw_closeS (rb := rb) (cb := cb) (zb := zb) (mb := mb) (lv := lv) rfl ?_⟩)
         · show btold s x c sy k = _; unfold btold; rw [hz]
         · exact (by have h_ := Holds.ord 7 [4, 5, 0, 2, 1, 6, 3] H3 rfl; exact h_)
     · refine r_neq (r_vfN rfl ?_); refine r_lss (r_ke ?_); exact ⟨rfl, by rw [decide_eq_false (by omega)]⟩
theorem step_spec (H : Holds w (BkR b s :: RdR r B d at_ :: L)) (hd : s.done = false) (post : ∀ e w', Same w w' → AfterB (bstep s (rest B at_)) b s r B d at_ L e w' → K (iv e) w') :
   Cl Tryz.prog F.block_Reader_step #[pt b, pt r] w K := by
 refine Tie.block_Reader_step ?_; unfold Vcf.block_Reader_step; refine r_join1 (fun v w' => Same w w' ∧ Mid (bstep s (rest B at_)) b s r B d at_ L v w') ?_ ?_
 · rintro _ v w1 ⟨S, ⟨e, rfl, he, hA⟩ | ⟨rfl, s', n, hy, hp, H'⟩⟩
   · refine r_neq (r_vtN he ?_); exact post e _ S hA
   · refine r_neq (r_vfN rfl ?_); rw [hy] at post; exact end_spec H' hp s fun e w' S' hA => post e w' (S.trans S') hA
 clear post; have S := Same.refl w; have hs := (BkR_open H).1; have hraw := (BkR_open H).2
 cases hh : s.head with
 | false =>
   have hrow := (head_pre (s := 0) (f := 0) hs hh (by omega) (by omega)).1; obtain ⟨lv, H0⟩ := Raw_openN hrow hraw; refine r_nc (r_fo0 (r_ld 0 H0 rfl rfl ?_)); rw [hh]; refine r_notF (r_vt ?_); refine begin_spec H hh fun v w' S' hA => ?_
   repeat (refine r_ke ?_)
   exact ⟨S', hA⟩
 | true =>
   cases hrow : s.row with
   | none =>
     obtain ⟨lv, H0⟩ := Raw_openN hrow hraw; refine r_nc (r_fo0 (r_ld 0 H0 rfl rfl ?_)); rw [hh]; refine r_notT (r_vf ?_); refine r_nc (r_fo0 (r_ld 0 H0 rfl rfl ?_)); refine r_bnNT (r_vt ?_); refine symbols_spec H hh hrow fun v w' S' hA => ?_
     repeat (refine r_ke ?_)
     exact ⟨S', hA⟩
   | some x =>
     obtain ⟨rb, cb, zb, mb, lv, H0⟩ := Raw_openS hrow hraw; refine r_nc (r_fo0 (r_ld 0 H0 rfl rfl ?_)); rw [hh]; refine r_notT (r_vf ?_); refine r_nc (r_fo0 (r_ld 0 H0 rfl rfl ?_)); refine r_bnSF (r_vf ?_); refine r_nc (r_fo0 (r_ld 0 H0 rfl rfl ?_)); refine waits_spec H0 2 rfl ?_
     cases hw : x.waits with
     | false =>
       refine r_vf ?_; refine symbol_spec H hd hh hrow hw fun v w' S' hA => ?_
       repeat (refine r_ke ?_)
       exact ⟨S', hA⟩
     | true =>
       refine r_vt ?_; obtain ⟨g1, g2, g3, g4, g5⟩ := hs.some_ x hrow; have hzs := g2.zeros.sum; have hzm := g2.zeros.most
       have hat : x.at_ < x.list.length := by
         have := g2.list; have := g2.place; unfold RS.at_
         split <;> omega
       have hpre := next_pre hs hd hrow hw
       have eb : bstep s (rest B at_) = bnext s x := by unfold bstep; rw [if_neg (by rw [hh]; decide), hrow]; simp only; rw [if_pos hw]
       clear H hraw; have H := H0; clear H0; unfold rawS at H
       repeat (first | refine r_nc ?_ | refine r_fo0 ?_ | (refine r_dr H ?_; clear H; intro _ S_ H; replace S := S.trans S_; clear S_) | refine r_ld 0 H rfl rfl ?_)
       have H1 : Holds _ (blk rb tRw (rwC cb zb mb x) :: F06.MtR mb x.list :: blk b tBk (bkC (pt rb) lv s) :: SL bv tB lv s.last :: C14.CdR cb x.code :: Z07.ZrR zb x.zeros :: RdR r B d at_ :: L) := (by have h_ := Holds.ord 7 [2, 5, 0, 1, 3, 4, 6] H rfl; exact h_); refine next_spec H1 hat (by omega) fun w3 S3 H3 => ?_; refine r_rk (r_ld 2 H3 rfl rfl rfl) ?_; refine r_app1K H3 3 (f := bv) (xs := s.last) rfl x.byte (fun _ => rfl) (by omega) (fun w' H' => r_ld 2 H' rfl rfl rfl) fun lv' w4 S4 H4 => ?_; replace H4 : Holds w4 (blk rb tRw (rwC cb zb mb x.next) :: F06.MtR mb x.next.list :: blk b tBk (bkC (pt rb) lv s) :: SL bv tB lv' (s.last ++ [x.byte]) :: C14.CdR cb x.code :: Z07.ZrR zb x.zeros :: RdR r B d at_ :: L) := H4; refine r_nc (r_fo0 ?_); refine r_st 2 H4 rfl (by simp [bkC]) (SL_sg H4 3 rfl) fun w5 S5 H5 => ?_; replace H5 : Holds w5 (blk rb tRw (rwC cb zb mb x.next) :: F06.MtR mb x.next.list :: blk b tBk (bkC (pt rb) lv' s) :: SL bv tB lv' (s.last ++ [x.byte]) :: C14.CdR cb x.code :: Z07.ZrR zb x.zeros :: RdR r B d at_ :: L) := H5
       repeat (refine r_ke ?_)
       refine ⟨((S.trans S3).trans S4).trans S5, .inr ⟨rfl, ⟨s.room, s.head, s.sum, s.frm, some x.next, s.last ++ [x.byte], s.done⟩, 0, by rw [eb]; rfl, hpre, Raw_closeS (rb := rb) (cb := cb) (zb := zb) (mb := mb) (lv := lv') rfl ?_⟩⟩; exact (by have h_ := Holds.ord 7 [2, 3, 0, 4, 5, 1, 6] H5 rfl; exact h_)
def BadB (b e : Nat) : HProp := fun h => ∃ v1 v2 v3 v4 v5 v6, blk b tBk [v1, v2, v3, v4, v5, v6, .bool false, nv e] h
theorem BadB_open {e : Nat} (H : Holds w (BadB b e :: L)) : ∃ v1 v2 v3 v4 v5 v6, Holds w (blk b tBk [v1, v2, v3, v4, v5, v6, .bool false, nv e] :: L) := by
 obtain ⟨v1, H⟩ := Holds.ex H; obtain ⟨v2, H⟩ := Holds.ex H; obtain ⟨v3, H⟩ := Holds.ex H; obtain ⟨v4, H⟩ := Holds.ex H; obtain ⟨v5, H⟩ := Holds.ex H; obtain ⟨v6, H⟩ := Holds.ex H; exact ⟨v1, v2, v3, v4, v5, v6, H⟩
def AfterBS (y : Res BS) (b : Nat) (s : BS) (r : Nat) (B : List UInt8) (d at_ : Nat) (L : List HProp) (e : Int) (w : World) : Prop :=
 match y with
 | .short => e = 3 ∧ Holds w (BkR b s :: RdR r B d at_ :: L)
 | .bad c => e = (c : Int) ∧ ∃ q, Holds w (BadB b c :: RdR r B d q :: L)
 | .ok s' n => e = 0 ∧ Holds w (BkR b s' :: RdR r B d (at_ + n) :: L)
theorem Raw_cells (H : Holds w (BkR b s :: L)) : ∃ rv lv L', Holds w (blk b tBk (bkC rv lv s) :: L') ∧ ∀ w' v, Holds w' (blk b tBk ((bkC rv lv s).set 7 v) :: L') → v = iv 0 → Holds w' (BkR b s :: L) := by
 obtain ⟨hs, H⟩ := BkR_open H
 cases hrow : s.row with
 | none =>
   obtain ⟨lv, H⟩ := Raw_openN hrow H; exact ⟨_, lv, _, H, fun w' v H' hv => by subst hv; exact BkR_close hs (Raw_closeN hrow H')⟩
 | some x =>
   obtain ⟨rb, cb, zb, mb, lv, H⟩ := Raw_openS hrow H; exact ⟨_, lv, _, H, fun w' v H' hv => by subst hv; exact BkR_close hs (Raw_closeS hrow H')⟩
theorem Step_spec (H : Holds w (BkR b s :: RdR r B d at_ :: L)) (hd : s.done = false) (post : ∀ e w', Same w w' → AfterBS (bstep s (rest B at_)) b s r B d at_ L e w' → K (iv e) w') :
   Cl Tryz.prog F.block_Reader_Step #[pt b, pt r] w K := by
 refine Tie.block_Reader_Step ?_; unfold Vcf.block_Reader_Step; obtain ⟨rv, lv, L', H0, hback⟩ := Raw_cells H; refine r_join1 (fun y w' => w = w' ∧ y = .bool false) ?_ ?_
 · rintro _ _ _ ⟨rfl, rfl⟩; refine r_vf ?_; refine r_nc (r_fo0 (r_ld 0 H0 rfl rfl ?_)); refine r_neq (r_vfN rfl ?_); refine step_spec H hd fun e w2 S2 hA => ?_
   cases hx : bstep s (rest B at_) with
   | short =>
     rw [hx] at hA post; obtain ⟨rfl, H'⟩ := hA; refine r_neq (r_vfN rfl ?_); exact post _ _ S2 ⟨rfl, H'⟩
   | bad c =>
     have hcb := bstep_bad hx; rw [hx] at hA post; obtain ⟨rfl, q, v1, v2, v3, v4, v5, v6, H'⟩ := hA; refine r_neq (r_vtN (by omega) ?_); refine r_nc (r_fo0 ?_); refine r_st 0 H' rfl (by simp) rfl fun w5 S5 H5 => ?_; exact post _ _ (S2.trans S5) ⟨rfl, q, Holds.imp H5 fun _ hh => ⟨v1, v2, v3, v4, v5, v6, hh⟩⟩
   | ok s' k =>
     rw [hx] at hA post; obtain ⟨rfl, H'⟩ := hA; refine r_neq (r_vtN (by decide) ?_); obtain ⟨rv, lv, L', H1, hback⟩ := Raw_cells H'; refine r_nc (r_fo0 ?_); refine r_st 0 H1 rfl (by simp [bkC]) rfl fun w5 S5 H5 => ?_; exact post _ _ (S2.trans S5) ⟨rfl, hback _ _ H5 rfl⟩
 · repeat (first | refine r_ld 0 H0 rfl rfl ?_ | refine r_nc ?_ | refine r_fo0 ?_ | refine r_ke ?_ | (with_reducible refine r_bnSF ?_) | (with_reducible refine r_vf ?_))
   exact ⟨rfl, by rw [hd]⟩
theorem Done_spec (H : Holds w (BkR b s :: L)) (k : K (.bool s.done) w) : Cl Tryz.prog F.block_Reader_Done #[pt b] w K := by
 refine Tie.block_Reader_Done ?_; unfold Vcf.block_Reader_Done; obtain ⟨rv, lv, L', H0, _⟩ := Raw_cells H
 repeat (first | refine r_ld 0 H0 rfl rfl ?_ | refine r_nc ?_ | refine r_fo0 ?_ | (with_reducible refine r_bnST ?_) | (with_reducible refine r_vt ?_))
 exact k
theorem StepBad_spec {e : Nat} (H : Holds w (BadB b e :: L)) (he : e ≠ 0) (k : K (nv e) w) : Cl Tryz.prog F.block_Reader_Step #[pt b, pt r] w K := by
 refine Tie.block_Reader_Step ?_; unfold Vcf.block_Reader_Step; obtain ⟨v1, v2, v3, v4, v5, v6, H0⟩ := BadB_open H; refine r_join1 (fun y w' => w = w' ∧ y = .bool false) ?_ ?_
 · rintro _ _ _ ⟨rfl, rfl⟩; refine r_vf ?_; refine r_nc (r_fo0 (r_ld 0 H0 rfl rfl ?_)); refine r_neq (r_vtN (by omega) ?_); refine r_nc (r_fo0 (r_ld 0 H0 rfl rfl ?_)); exact k
 · repeat (first | refine r_ld 0 H0 rfl rfl ?_ | refine r_nc ?_ | refine r_fo0 ?_ | refine r_ke ?_ | (with_reducible refine r_bnSF ?_) | (with_reducible refine r_vf ?_))
   exact ⟨rfl, rfl⟩
end B20
namespace B20
open Go.M01 Go.Mb Go.Mp Go.M10 Go.Mc Go.Mz Go.Mk Go.Q20 Go.Q23 Rb
variable {w : World} {L : List HProp} {K : Value → World → Prop} {b rb cb zb mb r : Nat} {B : List UInt8} {d at_ n k : Nat} {s : BS} {x : RS} {lv : Value}
abbrev tGt : Nat := 40
abbrev gotV (t : List UInt8) (o u : Nat) : List Value := [S_ t, nv o, uv u]
theorem got_zero : (zeroP Tryz.prog tGt).cells.toList = gotV [] 0 0 := by kernel_rfl
theorem r_cvb {t e d : TypeId} [hr : Bytes Tryz.prog t e d] (H : Holds w L) (i : Nat) {oa : Option Addr} {xs : List UInt8} {sp : List Value} {l c : Nat} {K : Value → Prop}
   (hi : L[i]? = some (slb bv e oa xs sp)) (hl : l = xs.length) (h : K (.string ⟨xs.toArray⟩)) : Cv Tryz.prog t d (.slice oa l c) w K := by
 have h0 : Cw Tryz.prog t d (.slice oa l c) w (fun v w' => v = .string ⟨xs.toArray⟩ ∧ w' = w) := r_cbs H i hi hl ⟨rfl, rfl⟩; unfold Cw at h0; obtain ⟨v, w', hr, rfl, rfl⟩ := h0; unfold Cv; exact ⟨_, hr, h⟩
theorem raw_cells2 (H : Holds w (BkR b s :: L)) : ∃ rv oa c L' sp, Holds w (blk b tBk (bkC rv (.slice oa s.last.length c) s) :: slb bv tB oa s.last sp :: L') ∧ (∀ w', Holds w' (blk b tBk (bkC rv (.slice oa s.last.length c) s) :: slb bv tB oa s.last sp :: L') → Holds w' (BkR b s :: L)) := by
 obtain ⟨hs, H⟩ := BkR_open H
 have back : ∀ {oa : Option Addr} {sp : List Value} {w' : World} {rv lv : Value} {L' : List HProp}, lv = .slice oa s.last.length (s.last.length + sp.length) → Holds w' (blk b tBk (bkC rv lv s) :: slb bv tB oa s.last sp :: L') → Holds w' (blk b tBk (bkC rv lv s) :: SL bv tB lv s.last :: L') := by
   intro oa sp w' rv lv L' he H'; subst he; exact H'.close 1 rfl
 cases hrow : s.row with
 | none =>
   obtain ⟨lv, H⟩ := Raw_openN hrow H; obtain ⟨oa, sp, rfl, H1⟩ := H.open 1 rfl; exact ⟨_, oa, _, L, sp, H1, fun w' H' => BkR_close hs (Raw_closeN hrow (back rfl H'))⟩
 | some x =>
   obtain ⟨rb, cb, zb, mb, lv, H⟩ := Raw_openS hrow H; obtain ⟨oa, sp, rfl, H1⟩ := H.open 1 rfl; exact ⟨_, oa, _, _, sp, H1, fun w' H' => BkR_close hs (Raw_closeS hrow (back rfl H'))⟩
theorem Got_done (H : Holds w (BkR b s :: L)) (hd : s.done = true) (k : ∀ w', Same w w' → Holds w' (BkR b s :: L) → K (.agg (gotV s.last s.frm s.sum).toArray) w') : Cl Tryz.prog F.block_Reader_Got #[pt b] w K := by
 refine Tie.block_Reader_Got ?_; unfold Vcf.block_Reader_Got; refine r_new H fun gb w1 S1 H1 => ?_; rw [got_zero] at H1; refine Done_spec H1.swap ?_; rw [hd]; refine r_notT (r_vf ?_); refine r_dr H1 fun w2 S2 H2 => ?_; obtain ⟨rv, oa, c, L', sp, H3, hback⟩ := raw_cells2 H2.swap; refine r_nc (r_fo0 (r_ld 0 H3 rfl rfl ?_)); refine r_cvb H3 1 rfl rfl ?_; refine r_nc (r_fo0 (r_ld 0 H3 rfl rfl ?_)); refine r_nc (r_fo0 (r_ld 0 H3 rfl rfl ?_)); refine r_bd (v := .agg (gotV s.last s.frm s.sum).toArray) (by kernel_rfl) ?_; refine r_stA 0 H2 (vs := gotV s.last s.frm s.sum) rfl (Nat.le_refl 3) rfl rfl fun w4 S4 H4 => ?_; replace H4 : Holds w4 (blk gb tGt (gotV s.last s.frm s.sum) :: BkR b s :: L) := H4; refine r_ldA 0 H4 (gotV s.last s.frm s.sum) rfl rfl rfl ?_; exact k _ ((S1.trans S2).trans S4) H4.drop
def cellN (w : World) (b i : Nat) : Nat := match w.cell? ⟨b, i, none⟩ with
 | some (.int _ n) => n.toNat
 | some (.slice _ l _) => l
 | _ => 0
end B20
end Go.Proofs.YtlppejfnjhkbpaaGreat
namespace Go.M02
def crcStep (s : Nat) : Nat := (s * 2 % 4294967296) ^^^ (s / 2147483648 * 79764919)
def crcN (s : Nat) : Nat → Nat
 | 0 => s
 | k + 1 => crcStep (crcN s k)
def crcTab (b : Nat) : Nat := crcN (b * 16777216) 8
def tabL : List Nat := (List.range 256).map crcTab
theorem crcStep_lt (s : Nat) (h : s < 4294967296) : crcStep s < 4294967296 := by
 unfold crcStep
 have h1 : s / 2147483648 ≤ 1 := by omega
 have h2 : s / 2147483648 * 79764919 ≤ 1 * 79764919 := Nat.mul_le_mul_right _ h1; exact Nat.xor_lt_two_pow (n := 32) (by omega) (by omega)
theorem crcN_lt (s : Nat) (h : s < 4294967296) : ∀ k, crcN s k < 4294967296
 | 0 => h
 | k + 1 => crcStep_lt _ (crcN_lt s h k)
theorem tabL_len : tabL.length = 256 := by simp [tabL]
theorem tabL_get (i : Nat) (h : i < 256) : tabL[i]? = some (crcTab i) := by simp [tabL, h]
end Go.M02
namespace Go.Proofs.YtlppejfnjhkbpaaGreat
open Go Go.Vc
attribute [local irreducible] Vc.Nc Vc.Ld Vc.LdA Vc.St Vc.StA Vc.Fo Vc.Iaa Vc.Ias Vc.Ixs Vc.Ixa Vc.Fd Vc.FdA Vc.Bp Vc.Bb Vc.Bn Vc.Up Vc.Ci Vc.Lns Vc.Lnl Vc.Ex Vc.Sst Vc.Ssl Vc.New Vc.Vif Vc.VJoin Vc.VLoop Vc.KE Vc.Dr Vc.Rk Vc.Cl Vc.Cx Vc.Inv Vc.Be Vc.Cv Vc.Cw Vc.Mf Vc.Sl Vc.Lk Vc.Bd Vc.Bs Vc.Ms Vc.Mm Vc.Mu Vc.Me Vc.Es Vc.Rg Vc.Nx Vc.Ta Vc.Ap Vc.Usd Vc.Ust Vc.Cp Vc.Ln Vc.Bc Vc.Bmin Vc.Bmax Vc.Bdel Vc.Bclr Vc.Pk
namespace W02
open Go.M02
variable {w : World} {L : List HProp} {K : Value → World → Prop}
abbrev tTab : Nat := 158
theorem Table_spec (H : Holds w L) (post : ∀ w', Same w w' → Holds w' L → K (.agg (tabL.map uv).toArray) w') : Cl Tryz.prog F.crc_Table #[] w K := by
 refine Tie.crc_Table ?_; unfold Vcf.crc_Table
 have hz : (zeroP Tryz.prog tTab).cells.toList = (List.replicate 256 0).map uv := by kernel_rfl
 refine r_new H fun b1 w1 S1 H1 => ?_; rw [hz] at H1; refine r_new H1 fun b2 w2 S2 H2 => ?_; rw [hz] at H2
 refine r_loop1 (fun x w' => ∃ i : Nat, i ≤ 256 ∧ x = nv i ∧ Same w w' ∧ Holds w' (blk b2 tTab ((filled tabL 0 256 i).map uv) :: blk b1 tTab ((List.replicate 256 0).map uv) :: L))
   (fun x _ => 256 - (RowKit.intOf x).toNat) ⟨0, by omega, rfl, S1.trans S2, by rw [filled_zero]; exact H2⟩ ?_
 clear H H1 H2 S1 S2; rintro _ _ w3 ⟨i, hi, rfl, S, H⟩
 repeat (refine r_lss ?_)
 refine r_ifD (fun h => ?_) fun h => ?_
 · have hlt : i < 256 := by omega
   refine r_ciu32 (by omega) (by omega) ?_; refine r_shlU32 (n := 24) (by omega) ?_; rw [show i * 2 ^ 24 % 4294967296 = crcN (i * 16777216) 0 by show _ = i * 16777216; omega]; refine r_loop2 (fun s x w' => w3 = w' ∧ ∃ j : Nat, j ≤ 8 ∧ x = nv j ∧ s = uv (crcN (i * 16777216) j)) (fun _ x _ => 8 - (RowKit.intOf x).toNat) ⟨rfl, 0, by omega, rfl, rfl⟩ ?_; rintro _ _ _ _ ⟨rfl, j, hj, rfl, rfl⟩; have hc := crcN_lt (i * 16777216) (by omega) j
   repeat (refine r_lss ?_)
   refine r_ifD (fun h2 => ?_) fun h2 => ?_
   · have h3 : crcN (i * 16777216) j / 2147483648 ≤ 1 := by omega
     have h4 : crcN (i * 16777216) j / 2147483648 * 79764919 ≤ 1 * 79764919 := Nat.mul_le_mul_right _ h3; refine r_shrU (n := 31) (by decide) ?_; refine r_shlU32 (n := 1) (by omega) ?_; refine r_mulU32 (t := 79764919) (by omega) ?_; refine r_xorU32 (by omega) (by omega) ?_
     repeat (first | refine r_ke ?_ | (refine r_add1N (by omega) ?_))
     refine ⟨⟨rfl, j + 1, by omega, rfl, rfl⟩, ?_⟩; simp [nv, RowKit.intOf]; omega
   · obtain rfl : j = 8 := by omega
     repeat (refine r_iaaN (by omega) ?_)
     refine r_st 0 H rfl (by rw [List.length_map, filled_len (by omega) tabL_len]; omega) rfl fun w4 S4 H4 => ?_
     have hset : ((filled tabL 0 256 i).map uv).set (0 + i) (uv (crcN (i * 16777216) 8)) = (filled tabL 0 256 (i + 1)).map uv := by
       rw [Nat.zero_add, ← List.map_set]; exact congrArg (List.map uv) (filled_set (z := 0) hlt tabL_len (tabL_get i hlt))
     rw [List.set_cons_zero, hset] at H4
     repeat (first | refine r_ke ?_ | (refine r_add1N (by omega) ?_))
     refine ⟨⟨i + 1, by omega, rfl, S.trans S4, H4⟩, ?_⟩; simp [nv, RowKit.intOf]; omega
 · obtain rfl : i = 256 := by omega
   rw [filled_all tabL_len] at H
   have hl : (tabL.map uv).length = 256 := by simp [tabL_len]
   refine r_ldA 0 H (tabL.map uv) rfl (by rw [List.drop_zero, List.take_of_length_le (by omega)]) hl ?_; refine r_stA 1 H (vs := tabL.map uv) rfl (Nat.le_of_eq (by rw [List.length_map, List.length_replicate])) hl (by kernel_rfl) fun w4 S4 H4 => ?_
   have hset : setL ((List.replicate 256 0).map uv) 0 (tabL.map uv) = tabL.map uv := by kernel_rfl
   rw [List.set_cons_succ, List.set_cons_zero, hset] at H4; refine r_ldA 1 H4 (tabL.map uv) rfl (by rw [List.drop_zero, List.take_of_length_le (by omega)]) hl ?_; exact post _ (S.trans S4) H4.drop.drop
end W02
end Go.Proofs.YtlppejfnjhkbpaaGreat
namespace Go.M02
theorem bit_mul {p q k : Nat} (hp : p ≤ 1) (hq : q ≤ 1) : (p ^^^ q) * k = p * k ^^^ q * k := by
 have h1 : p = 0 ∨ p = 1 := by omega
 have h2 : q = 0 ∨ q = 1 := by omega
 rcases h1 with rfl | rfl <;> rcases h2 with rfl | rfl <;> simp
theorem xor4 (w x y z : Nat) : (w ^^^ x) ^^^ (y ^^^ z) = (w ^^^ y) ^^^ (x ^^^ z) := by
 rw [Nat.xor_assoc, Nat.xor_assoc]; refine congrArg (fun q => w ^^^ q) ?_; rw [← Nat.xor_assoc, Nat.xor_comm x y, Nat.xor_assoc]
theorem crcStep_xor {a b : Nat} (ha : a < 4294967296) (hb : b < 4294967296) : crcStep (a ^^^ b) = crcStep a ^^^ crcStep b := by
 have h1 : (a ^^^ b) * 2 % 4294967296 = (a * 2 % 4294967296) ^^^ (b * 2 % 4294967296) := by
   have e1 : (a ^^^ b) * 2 = (a * 2) ^^^ (b * 2) := by
     have := Nat.shiftLeft_xor_distrib (i := 1) (a := a) (b := b); simpa [Nat.shiftLeft_eq] using this
   rw [e1]; exact Nat.xor_mod_two_pow (n := 32)
 have h2 : (a ^^^ b) / 2147483648 = (a / 2147483648) ^^^ (b / 2147483648) := Nat.xor_div_two_pow (n := 31); unfold crcStep; rw [h1, h2, bit_mul (by omega) (by omega)]; exact xor4 _ _ _ _
theorem crcN_xor {a b : Nat} (ha : a < 4294967296) (hb : b < 4294967296) : ∀ k, crcN (a ^^^ b) k = crcN a k ^^^ crcN b k
 | 0 => rfl
 | k + 1 => by rw [crcN, crcN_xor ha hb k, crcStep_xor (crcN_lt a ha k) (crcN_lt b hb k)]; rfl
theorem crcN_low {a : Nat} (ha : a < 16777216) : ∀ k, k ≤ 8 → crcN a k = a * 2 ^ k
 | 0, _ => by simp [crcN]
 | k + 1, hk => by
   have h2 : 2 ^ k ≤ 2 ^ 7 := Nat.pow_le_pow_right (by decide) (by omega); have h3 : a * 2 ^ k ≤ 16777215 * 128 := Nat.mul_le_mul (by omega) h2; rw [crcN, crcN_low ha k (by omega), Nat.pow_succ, ← Nat.mul_assoc]; generalize a * 2 ^ k = y at *; unfold crcStep; rw [Nat.div_eq_of_lt (by omega), Nat.zero_mul, Nat.xor_zero, Nat.mod_eq_of_lt (by omega)]
theorem split24 (x : Nat) : x = (x % 16777216) ^^^ (x / 16777216 * 16777216) := by
 apply Nat.eq_of_testBit_eq; intro i; rw [Nat.testBit_xor]; have h1 : (x % 16777216).testBit i = (decide (i < 24) && x.testBit i) := Nat.testBit_mod_two_pow x 24 i
 have h2 : (x / 16777216 * 16777216).testBit i = (decide (24 ≤ i) && x.testBit i) := by
   have h3 : x / 16777216 * 16777216 = (x >>> 24) <<< 24 := by rw [Nat.shiftLeft_eq, Nat.shiftRight_eq_div_pow]
   rw [h3, Nat.testBit_shiftLeft, Nat.testBit_shiftRight]
   by_cases h : 24 ≤ i
   · simp [h]
   · simp [h]
 rw [h1, h2]
 by_cases h : i < 24
 · simp [h, show ¬ 24 ≤ i by omega]
 · simp [h, show 24 ≤ i by omega]
def crcB (s : Nat) (c : UInt8) : Nat := crcN (s ^^^ c.toNat * 16777216) 8
theorem crcB_lt {s : Nat} (h : s < 4294967296) (c : UInt8) : crcB s c < 4294967296 := by
 have hc := c.toNat_lt; exact crcN_lt _ (Nat.xor_lt_two_pow (n := 32) (by omega) (by omega)) 8
theorem crcB_tab {s : Nat} (h : s < 4294967296) (c : UInt8) : (s * 2 ^ 8 % 4294967296) ^^^ crcTab (s / 16777216 ^^^ c.toNat) = crcB s c := by
 have hc := c.toNat_lt; have hx : s ^^^ c.toNat * 16777216 < 4294967296 := Nat.xor_lt_two_pow (n := 32) (by omega) (by omega)
 have hlo : (s ^^^ c.toNat * 16777216) % 16777216 = s % 16777216 := by
   have := Nat.xor_mod_two_pow (a := s) (b := c.toNat * 16777216) (n := 24); rw [show (2 : Nat) ^ 24 = 16777216 from rfl] at this; rw [this, Nat.mul_mod_left, Nat.xor_zero]
 have hhi : (s ^^^ c.toNat * 16777216) / 16777216 = s / 16777216 ^^^ c.toNat := by
   have := Nat.xor_div_two_pow (a := s) (b := c.toNat * 16777216) (n := 24); rw [show (2 : Nat) ^ 24 = 16777216 from rfl] at this; rw [this, Nat.mul_div_cancel _ (by decide)]
 have hh : s / 16777216 ^^^ c.toNat < 256 := Nat.xor_lt_two_pow (n := 8) (by omega) (by omega); unfold crcB; rw [split24 (s ^^^ c.toNat * 16777216), hlo, hhi, crcN_xor (by omega) (by omega), crcN_low (by omega) 8 (by omega), crcTab]; refine congrArg (fun q => q ^^^ crcN ((s / 16777216 ^^^ c.toNat) * 16777216) 8) ?_; omega
def crcF (s : Nat) (l : List UInt8) : Nat := l.foldl crcB s
theorem crcF_snoc (s : Nat) (l : List UInt8) (c : UInt8) : crcF s (l ++ [c]) = crcB (crcF s l) c := by simp [crcF]
theorem crcF_lt : ∀ (l : List UInt8) {s : Nat}, s < 4294967296 → crcF s l < 4294967296
 | [], _, h => h
 | c :: l, _, h => crcF_lt l (crcB_lt h c)
def crcOf (l : List UInt8) : Nat := 4294967295 - crcF 4294967295 l
def comb (t b : Nat) : Nat := (t * 2 % 4294967296) ^^^ (t / 2147483648) ^^^ b
theorem comb_lt {t b : Nat} (ht : t < 4294967296) (hb : b < 4294967296) : comb t b < 4294967296 := by
 unfold comb; exact Nat.xor_lt_two_pow (n := 32) (Nat.xor_lt_two_pow (n := 32) (by omega) (by omega)) (by omega)
end Go.M02
namespace Go.M03
def rleA : List UInt8 → Nat → UInt8 → List UInt8 → Option (List UInt8)
 | out, run, p, [] => if run = 4 then none else some out
 | out, run, p, c :: s =>
   if run = 4 then
     if 251 < c.toNat then none else rleA (out ++ List.replicate c.toNat p) 0 c s
   else if 0 < run ∧ c = p then rleA (out ++ [c]) (run + 1) c s
   else rleA (out ++ [c]) 1 c s
theorem rleA_len : ∀ (s out : List UInt8) (run : Nat) (p : UInt8) (t : List UInt8), rleA out run p s = some t → t.length ≤ out.length + 255 * s.length
 | [], out, run, p, t, h => by
   unfold rleA at h; split at h
   · cases h
   · cases h; simp
 | c :: s, out, run, p, t, h => by
   unfold rleA at h; rw [List.length_cons]; split at h
   · split at h
     · cases h
     · have := rleA_len s _ _ _ _ h; rw [List.length_append, List.length_replicate] at this; omega
   · split at h
     · have := rleA_len s _ _ _ _ h; rw [List.length_append, List.length_singleton] at this; omega
     · have := rleA_len s _ _ _ _ h; rw [List.length_append, List.length_singleton] at this; omega
def rle (s : List UInt8) : Option (List UInt8) := rleA [] 0 0 s
end Go.M03
namespace Go.M20
open Go.M02 Go.M03 Go.M18
def opnR (s : Int) : Option (List UInt8) → List UInt8 × Int
 | none => ([], 25)
 | some t => if ((crcOf t : Nat) : Int) = s then (t, 0) else ([], 21)
def opn (l : List UInt8) (o s : Int) : List UInt8 × Int :=
 if l.length = 0 then ([], 1) else if o < 0 ∨ (l.length : Int) ≤ o then ([], 23) else
   opnR s (rle (text l o.toNat))
theorem text_len (l : List UInt8) (o : Nat) : (text l o).length = l.length := outK_len _ _ _
theorem opn_len (l : List UInt8) (o s : Int) : (opn l o s).1.length ≤ 255 * l.length := by
 unfold opn; split
 · exact Nat.zero_le _
 · split
   · exact Nat.zero_le _
   · cases ht : rle (text l o.toNat) with
     | none => exact Nat.zero_le _
     | some t =>
       unfold opnR; simp only; split
       · have := rleA_len _ _ _ _ _ ht; rw [text_len] at this; simpa using this
       · exact Nat.zero_le _
theorem opn_err (l : List UInt8) (o s : Int) : (opn l o s).2 = 0 ∨ ((opn l o s).1 = [] ∧ ((opn l o s).2 = 1 ∨ (opn l o s).2 = 23 ∨ (opn l o s).2 = 25 ∨ (opn l o s).2 = 21)) := by
 unfold opn; split
 · exact .inr ⟨rfl, .inl rfl⟩
 · split
   · exact .inr ⟨rfl, .inr (.inl rfl)⟩
   · cases ht : rle (text l o.toNat) with
     | none => exact .inr ⟨rfl, .inr (.inr (.inl rfl))⟩
     | some t =>
       unfold opnR; simp only; split
       · exact .inl rfl
       · exact .inr ⟨rfl, .inr (.inr (.inr rfl))⟩
end Go.M20
namespace Go.Q24
open Go.M01 Go.Mb Go.Mp Go.M10 Go.Mc Go.Mz Go.Mk Go.Q20 Go.M02 Go.M03 Go.M20
structure US where
 unit : Nat
 due : Nat
 at_ : Nat
 level : Nat
 blk : Option BS
 last : List UInt8
 frm : Nat
 sum : Nat
 total : Nat
 ended : Bool
def u0 (unit : Nat) : US := ⟨unit, 0, 0, 0, none, [], 0, 0, 0, false⟩
def US.mayEnd (u : US) : Bool := u.ended && decide (u.due = 0) && decide (u.at_ = 0)
def letters : List Nat := [66, 90, 104]
def uletter (u : US) (l : List Bool) : Res (US × Nat) :=
 if l.length < 8 then .short
 else if u.at_ < 3 then
   if valB (l.take 8) = letters.getD u.at_ 0 then .ok (⟨u.unit, u.due, u.at_ + 1, u.level, u.blk, u.last, u.frm, u.sum, u.total, u.ended⟩, 0) 8 else .bad 20
 else if valB (l.take 8) < 49 ∨ 57 < valB (l.take 8) then .bad 20
 else .ok (⟨u.unit, 1, 0, valB (l.take 8) - 48, u.blk, u.last, u.frm, u.sum, 0, u.ended⟩, 0) 8
def umagic (u : US) (l : List Bool) : Res (US × Nat) :=
 if l.length < 48 then .short
 else if valB (l.take 48) = 54156738319193 then .ok (⟨u.unit, 2, u.at_, u.level, some (b0 (u.level * u.unit)), u.last, u.frm, u.sum, u.total, u.ended⟩, 0) 48
 else if valB (l.take 48) = 25779555029136 then .ok (⟨u.unit, 3, u.at_, u.level, u.blk, u.last, u.frm, u.sum, u.total, u.ended⟩, 0) 48
 else .bad 20
def uwith (u : US) : Res BS → Res (US × Nat)
 | .short => .short
 | .bad e => .bad e
 | .ok b n => if b.done = true then .ok (⟨u.unit, 1, u.at_, u.level, none, b.last, b.frm, b.sum, comb u.total b.sum, u.ended⟩, 1) n
   else .ok (⟨u.unit, u.due, u.at_, u.level, some b, u.last, u.frm, u.sum, u.total, u.ended⟩, 0) n
def ubody (u : US) (l : List Bool) : Res (US × Nat) := match u.blk with
 | none => .bad 7
 | some b => uwith u (bstep b l)
def usum (u : US) (l : List Bool) : Res (US × Nat) :=
 if l.length < 32 then .short
 else if valB (l.take 32) = u.total then .ok (⟨u.unit, 0, u.at_, u.level, u.blk, u.last, u.frm, u.sum, u.total, true⟩, 2) (32 + (l.length - 32) % 8)
 else .bad 21
def ustep (u : US) (l : List Bool) : Res (US × Nat) :=
 if u.due = 0 then uletter u l else if u.due = 1 then umagic u l else if u.due = 2 then ubody u l else usum u l
structure US.Ok (u : US) : Prop where
 unit : 24 ≤ u.unit ∧ u.unit ≤ 100000
 due : u.due ≤ 3
 at_ : u.at_ ≤ 3
 at0 : u.due ≠ 0 → u.at_ = 0
 lev : u.level ≤ 9
 lev1 : u.due ≠ 0 → 1 ≤ u.level
 blk : ∀ b, u.blk = some b → u.due = 2 ∧ b.Ok ∧ b.done = false ∧ b.room = u.level * u.unit
 body : u.due = 2 → u.blk ≠ none
 last : u.last.length ≤ 900000
 frm : u.frm < 16777216
 sum : u.sum < 4294967296
 total : u.total < 4294967296
theorem u0_ok {unit : Nat} (h : 24 ≤ unit ∧ unit ≤ 100000) : (u0 unit).Ok :=
 ⟨h, by simp [u0], by simp [u0], fun _ => rfl, by simp [u0], fun h => absurd rfl h, fun b h => by simp [u0] at h, fun h => by simp [u0] at h, by simp [u0], by simp [u0], by simp [u0], by simp [u0]⟩
theorem US.Ok.none_ {u : US} (h : u.Ok) (hd : u.due ≠ 2) : u.blk = none := by
 cases hb : u.blk with
 | none => rfl
 | some b => exact absurd (h.blk b hb).1 hd
theorem bstep_okB {b b' : BS} {l : List Bool} {n : Nat} (hb : b.Ok) (hd : b.done = false) (h : bstep b l = .ok b' n) : b'.Ok := by
 unfold bstep at h; split at h
 · rename_i hh; unfold bhead at h; split at h
   · cases h
   · split at h
     · cases h
     · have h1 := valB_take_lt l 32; have h2 := valB_take_lt (l.drop 33) 24; exact (bend_ok (head_pre hb hh (by omega) (by omega)).2 h).1
 · rename_i hh; split at h
   · rename_i hr; unfold buse at h; split at h
     · cases h
     · cases h
     · rename_i T k hu; exact (bend_ok (use_pre hb (by simpa using hh) hr (Q23.uread_pos hu).2.2) h).1
   · rename_i r hr; split at h
     · rename_i hw; exact (bend_ok (next_pre hb hd hr hw) h).1
     · rename_i hw; unfold bsym at h; split at h
       · cases h
       · cases h
       · rename_i c k hc; exact (bend_ok (sym_pre hb hd hr hc) h).1
       · rename_i c s k hc; unfold btold at h; split at h
         · cases h
         · rename_i z d p hz; exact (bend_ok (told_pre hb hd hr (by simpa using hw) hc hz) h).1
theorem ustep_ok {u u' : US} {l : List Bool} {n w : Nat} (hu : u.Ok) (h : ustep u l = .ok (u', w) n) : u'.Ok ∧ u'.unit = u.unit := by
 have hun := hu.unit; have hlev := hu.lev; unfold ustep at h; split at h
 · rename_i hd; have hbn := hu.none_ (by omega); unfold uletter at h; split at h
   · cases h
   · split at h
     · split at h
       · cases h; exact ⟨⟨hun, hu.due, by show u.at_ + 1 ≤ 3; omega, fun h => absurd hd h, hlev, hu.lev1, fun b hb => (by rw [hbn] at hb; cases hb), hu.body, hu.last, hu.frm, hu.sum, hu.total⟩, rfl⟩
       · cases h
     · split at h
       · cases h
       · cases h; exact ⟨⟨hun, by show 1 ≤ 3; omega, Nat.zero_le _, fun _ => rfl, by show valB (l.take 8) - 48 ≤ 9; omega, fun _ => by show 1 ≤ valB (l.take 8) - 48; omega, fun b hb => (by rw [hbn] at hb; cases hb), fun h => (by cases h), hu.last, hu.frm, hu.sum, by show 0 < 4294967296; omega⟩, rfl⟩
 · rename_i hd0; have hat := hu.at0 hd0; have hl1 := hu.lev1 hd0; split at h
   · rename_i hd; have hbn := hu.none_ (by omega); unfold umagic at h; split at h
     · cases h
     · split at h
       · cases h; refine ⟨⟨hun, by show 2 ≤ 3; omega, hu.at_, fun _ => hat, hlev, fun _ => hl1, fun b hb => ?_, fun _ h => (by cases h), hu.last, hu.frm, hu.sum, hu.total⟩, rfl⟩; cases hb; refine ⟨rfl, b0_ok ?_, rfl, rfl⟩; exact Nat.le_trans (Nat.mul_le_mul hlev hun.2) (by omega)
       · split at h
         · cases h; exact ⟨⟨hun, by show 3 ≤ 3; omega, hu.at_, fun _ => hat, hlev, fun _ => hl1, fun b hb => (by rw [hbn] at hb; cases hb), fun h => (by cases h), hu.last, hu.frm, hu.sum, hu.total⟩, rfl⟩
         · cases h
   · split at h
     · rename_i hd; unfold ubody at h; split at h
       · cases h
       · rename_i b hb; obtain ⟨_, hbo, hbd, hbr⟩ := hu.blk b hb; unfold uwith at h; split at h
         · cases h
         · cases h
         · rename_i b' n' hs; have hok := bstep_okB hbo hbd hs; have hrm := (Q23.bstep_prog hbo hs).1; split at h
           · cases h; have := Q23.last_room hok; have := hok.room; exact ⟨⟨hun, by show 1 ≤ 3; omega, hu.at_, fun _ => hat, hlev, fun _ => hl1, fun b hb => (by cases hb), fun h => (by cases h), by show b'.last.length ≤ 900000; omega, hok.frm, hok.sum, comb_lt hu.total hok.sum⟩, rfl⟩
           · rename_i hnd; cases h; refine ⟨⟨hun, hu.due, hu.at_, hu.at0, hlev, hu.lev1, fun b2 hb2 => ?_, fun _ h => (by cases h), hu.last, hu.frm, hu.sum, hu.total⟩, rfl⟩; cases hb2; exact ⟨hd, hok, by simpa using hnd, by rw [hrm]; exact hbr⟩
     · rename_i hd1 hd2
       have hd3 : u.due = 3 := by have := hu.due; omega
       have hbn := hu.none_ (by omega); unfold usum at h; split at h
       · cases h
       · split at h
         · cases h; exact ⟨⟨hun, Nat.zero_le _, hu.at_, fun h => absurd rfl h, hlev, fun h => absurd rfl h, fun b hb => (by rw [hbn] at hb; cases hb), fun h => (by cases h), hu.last, hu.frm, hu.sum, hu.total⟩, rfl⟩
         · cases h
theorem ustep_more {u : US} {l : List Bool} (m : List Bool) (hm : m.length % 8 = 0) (hu : u.Ok) (h : ustep u l ≠ .short) : ustep u (l ++ m) = ustep u l := by
 unfold ustep at h ⊢
 by_cases h0 : u.due = 0
 · simp only [if_pos h0] at h ⊢; unfold uletter at h ⊢
   by_cases h1 : l.length < 8
   · rw [if_pos h1] at h; exact absurd rfl h
   · rw [if_neg h1, if_neg (by simp; omega), take_app (by omega)]
 · simp only [if_neg h0] at h ⊢
   by_cases h1 : u.due = 1
   · simp only [if_pos h1] at h ⊢; unfold umagic at h ⊢
     by_cases h2 : l.length < 48
     · rw [if_pos h2] at h; exact absurd rfl h
     · rw [if_neg h2, if_neg (by simp; omega), take_app (by omega)]
   · simp only [if_neg h1] at h ⊢
     by_cases h2 : u.due = 2
     · simp only [if_pos h2] at h ⊢; unfold ubody at h ⊢
       cases hb : u.blk with
       | none => rfl
       | some b =>
         rw [hb] at h; simp only at h ⊢; rw [bstep_more m (hu.blk b hb).2.1]; intro e; rw [e] at h; exact h rfl
     · simp only [if_neg h2] at h ⊢; unfold usum at h ⊢
       by_cases h3 : l.length < 32
       · rw [if_pos h3] at h; exact absurd rfl h
       · rw [if_neg h3, if_neg (by simp; omega), take_app (by omega), show ((l ++ m).length - 32) % 8 = (l.length - 32) % 8 by rw [List.length_append]; omega]
theorem ustep_bad {u : US} {l : List Bool} {e : Nat} (hu : u.Ok) (h : ustep u l = .bad e) : e = 20 ∨ e = 21 ∨ e = 22 ∨ e = 23 ∨ e = 25 := by
 unfold ustep at h; split at h
 · unfold uletter at h
   repeat' split at h
   all_goals first
     | (cases h; omega)
     | cases h
 · split at h
   · unfold umagic at h
     repeat' split at h
     all_goals first
       | (cases h; omega)
       | cases h
   · split at h
     · rename_i hd; unfold ubody at h; split at h
       · rename_i hb; exact absurd hb (hu.body hd)
       · unfold uwith at h; split at h
         · cases h
         · rename_i hb; cases h
           rcases bstep_bad hb with h | h | h <;> omega
         · split at h <;> cases h
     · unfold usum at h
       repeat' split at h
       all_goals first
         | (cases h; omega)
         | cases h
def tnext (t : List UInt8) : Res (US × Nat) → Res (US × List UInt8)
 | .short => .short
 | .bad e => .bad e
 | .ok (u, w) n => if w = 1 then (if (opn u.last u.frm u.sum).2 = 0 then .ok (u, t ++ (opn u.last u.frm u.sum).1) n else .bad (opn u.last u.frm u.sum).2.toNat) else .ok (u, t) n
def tstep (x : US × List UInt8) (l : List Bool) : Res (US × List UInt8) :=
 if x.1.mayEnd = true ∧ l = [] then .bad 0 else tnext x.2 (ustep x.1 l)
def nod (x : US × List UInt8) : Bool := false
abbrev TRun (x0 : US × List UInt8) (l : List Bool) (x : US × List UInt8) (k : Nat) : Prop := Run tstep nod x0 l x k
inductive TOut where
 | bad (e : Nat)
 | got (t : List UInt8)
def Last (x : US × List UInt8) (l : List Bool) (o : TOut) : Prop :=
 (tstep x l = .short ∧ o = .bad 24) ∨ (tstep x l = .bad 0 ∧ o = .got x.2) ∨ ∃ e, e ≠ 0 ∧ tstep x l = .bad e ∧ o = .bad e
def TComes (x0 : US × List UInt8) (l : List Bool) (o : TOut) : Prop := ∃ x k, TRun x0 l x k ∧ Last x (l.drop k) o
theorem Last.stop {x : US × List UInt8} {l : List Bool} {k : Nat} {o : TOut} (h : Last x (l.drop k) o) : Stop tstep nod l x k := by
 rcases h with ⟨h, _⟩ | ⟨h, _⟩ | ⟨e, _, h, _⟩
 · exact stop_short h
 · exact stop_bad h
 · exact stop_bad h
theorem Last.det {x : US × List UInt8} {l : List Bool} {o o2 : TOut} (h : Last x l o) (h2 : Last x l o2) : o = o2 := by
 rcases h with ⟨h, rfl⟩ | ⟨h, rfl⟩ | ⟨e, he, h, rfl⟩ <;> rcases h2 with ⟨h3, rfl⟩ | ⟨h3, rfl⟩ | ⟨e2, he2, h3, rfl⟩ <;> rw [h] at h3 <;> first
   | rfl
   | (cases h3 <;> first
     | rfl
     | (exact absurd rfl he2)
     | (exact absurd rfl he))
theorem TComes.det {x0 : US × List UInt8} {l : List Bool} {o o2 : TOut} (h : TComes x0 l o) (h2 : TComes x0 l o2) : o = o2 := by
 obtain ⟨x, k, hr, hl⟩ := h; obtain ⟨x2, k2, hr2, hl2⟩ := h2; obtain ⟨rfl, rfl⟩ := hr.stop_eq hl.stop hr2 hl2.stop; exact hl.det hl2
theorem TComes.after {x0 x : US × List UInt8} {l : List Bool} {k : Nat} {o : TOut} (h : TRun x0 l x k) (h2 : TComes x (l.drop k) o) : TComes x0 l o := by
 obtain ⟨x2, k2, hr, hl⟩ := h2; rw [List.drop_drop] at hl; exact ⟨x2, k + k2, h.trans hr, hl⟩
theorem TComes.here {x : US × List UInt8} {l : List Bool} {o : TOut} (h : Last x l o) : TComes x l o := ⟨x, 0, .start, h⟩
theorem tstep_due {x : US × List UInt8} {l : List Bool} (h : x.1.due ≠ 0 ∨ x.1.at_ ≠ 0 ∨ l ≠ []) : tstep x l = tnext x.2 (ustep x.1 l) := by
 unfold tstep; rw [if_neg]; rintro ⟨h1, h2⟩; unfold US.mayEnd at h1; simp only [Bool.and_eq_true, decide_eq_true_eq] at h1; rcases h with h | h | h
 · exact h h1.1.2
 · exact h h1.2
 · exact h h2
def inB (unit level : Nat) (last : List UInt8) (frm sum total : Nat) (en : Bool) (b : BS) : US := ⟨unit, 2, 0, level, some b, last, frm, sum, total, en⟩
section
variable {unit level frm sum total : Nat} {last t : List UInt8} {en : Bool}
theorem in_step {b : BS} {l : List Bool} : tstep (inB unit level last frm sum total en b, t) l = tnext t (uwith (inB unit level last frm sum total en b) (bstep b l)) := by
 rw [tstep_due (.inl (by simp [inB]))]; unfold ustep inB; simp only [if_neg (show ¬ (2 = 0) by omega), if_neg (show ¬ (2 = 1) by omega), if_true, ubody]
theorem in_run {b0 : BS} {l : List Bool} (h0 : b0.done = false) : ∀ {i : Nat} {b : BS} {k : Nat}, RunN bstep BS.done b0 l i b k →
   if b.done = true then ∃ b1 k1 n, TRun (inB unit level last frm sum total en b0, t) l (inB unit level last frm sum total en b1, t) k1 ∧ bstep b1 (l.drop k1) = .ok b n ∧ k = k1 + n
   else TRun (inB unit level last frm sum total en b0, t) l (inB unit level last frm sum total en b, t) k := by
 intro i b k h
 induction h with
 | start => rw [if_neg (by rw [h0]; decide)]; exact .start
 | next h hd hs ih =>
   rename_i j b b' k n; rw [if_neg (by rw [hd]; decide)] at ih
   by_cases hb : b'.done = true
   · rw [if_pos hb]; exact ⟨b, k, n, ih, hs, rfl⟩
   · rw [if_neg hb]; refine ih.next rfl ?_; rw [in_step, hs]; simp only [uwith, if_neg hb, tnext, if_neg (show ¬ (0 = 1) by omega)]; rfl
theorem in_bad {e : Nat} {l : List Bool} {room : Nat} (h : Q20.Comes room l (.bad e)) (he : e ≠ 0) : TComes (inB unit level last frm sum total en (b0 room), t) l (.bad (if e = 3 then 24 else e)) := by
 obtain ⟨b, k, ⟨i, hr⟩, h⟩ := h; have hin := in_run (unit := unit) (level := level) (last := last) (frm := frm) (sum := sum) (total := total) (en := en) (t := t) (b0 := b0 room) rfl hr; rcases h with ⟨_, h⟩ | ⟨hd, hs, h⟩ | ⟨e', hd, hs, h⟩
 · cases h
 · cases h; rw [if_neg (by rw [hd]; decide)] at hin; refine ⟨_, _, hin, .inl ⟨?_, rfl⟩⟩; rw [in_step, hs]; rfl
 · cases h; rw [if_neg (by rw [hd]; decide)] at hin
   have hne : e ≠ 3 := by rcases bstep_bad hs with h | h | h <;> omega
   rw [if_neg hne]; refine ⟨_, _, hin, .inr (.inr ⟨e, he, ?_, rfl⟩)⟩; rw [in_step, hs]; rfl
theorem in_got {room o u n held : Nat} {l : List Bool} {lst : List UInt8} (h : Q20.Comes room l (.got lst o u n held)) :
   if (opn lst o u).2 = 0 then TRun (inB unit level last frm sum total en (b0 room), t) l (⟨unit, 1, 0, level, none, lst, o, u, comb total u, en⟩, t ++ (opn lst o u).1) n
   else TComes (inB unit level last frm sum total en (b0 room), t) l (.bad (opn lst o u).2.toNat) := by
 obtain ⟨b, k, ⟨i, hr⟩, h⟩ := h; have hin := in_run (unit := unit) (level := level) (last := last) (frm := frm) (sum := sum) (total := total) (en := en) (t := t) (b0 := b0 room) rfl hr; rcases h with ⟨hd, h⟩ | ⟨_, _, h⟩ | ⟨_, _, _, h⟩
 · cases h; rw [if_pos hd] at hin; obtain ⟨b1, k1, n, hrun, hs, rfl⟩ := hin
   have hst : tstep (inB unit level last frm sum total en b1, t) (l.drop k1) = tnext t (.ok (⟨unit, 1, 0, level, none, b.last, b.frm, b.sum, comb total b.sum, en⟩, 1) n) := by
     rw [in_step, hs]; simp only [uwith, if_pos hd, inB]
   simp only [tnext, if_true] at hst; split
   · rename_i h0; rw [if_pos h0] at hst; exact hrun.next rfl hst
   · rename_i h0; rw [if_neg h0] at hst; refine ⟨_, _, hrun, .inr (.inr ⟨_, ?_, hst, rfl⟩)⟩; rcases opn_err b.last b.frm b.sum with h | ⟨_, h⟩
     · exact absurd h h0
     · omega
 · cases h
 · cases h
end
def atL (u : US) (i : Nat) : US := ⟨u.unit, 0, i, u.level, u.blk, u.last, u.frm, u.sum, u.total, u.ended⟩
theorem let_short {u : US} {i : Nat} {l : List Bool} {t : List UInt8} (h : l.length < 8) (hl : i ≠ 0 ∨ l ≠ [] ∨ u.ended = false) : TComes (atL u i, t) l (.bad 24) := by
 refine .here (.inl ⟨?_, rfl⟩)
 have hs : ustep (atL u i) l = .short := by
   unfold ustep uletter atL; simp only [if_true, if_pos h]
 unfold tstep; rw [if_neg, hs]
 · rfl
 · rintro ⟨h1, h2⟩; unfold US.mayEnd atL at h1; simp only [Bool.and_eq_true, decide_eq_true_eq] at h1; rcases hl with h | h | h
   · exact h h1.2
   · exact h h2
   · rw [h] at h1; exact Bool.noConfusion h1.1.1
theorem ne_nil {l : List Bool} (h : ¬ l.length < 8) : l ≠ [] := by rintro rfl; exact h (by simp)
theorem let_wrong {u : US} {i : Nat} {l : List Bool} {t : List UInt8} (h : ¬ l.length < 8) (hi : i < 3) (hv : valB (l.take 8) ≠ letters.getD i 0) : TComes (atL u i, t) l (.bad 20) := by
 refine .here (.inr (.inr ⟨20, by omega, ?_, rfl⟩)); rw [tstep_due (.inr (.inr (ne_nil h)))]; unfold ustep uletter atL; simp only [if_true, if_neg h, if_pos hi, if_neg hv, tnext]
theorem let_next {u : US} {i : Nat} {l : List Bool} {t : List UInt8} (h : ¬ l.length < 8) (hi : i < 3) (hv : valB (l.take 8) = letters.getD i 0) : tstep (atL u i, t) l = .ok (atL u (i + 1), t) 8 := by
 rw [tstep_due (.inr (.inr (ne_nil h)))]; unfold ustep uletter atL; simp only [if_true, if_neg h, if_pos hi, if_pos hv, tnext, if_neg (show ¬ (0 = 1) by omega)]
theorem lev_wrong {u : US} {l : List Bool} {t : List UInt8} (h : ¬ l.length < 8) (hv : valB (l.take 8) < 49 ∨ 57 < valB (l.take 8)) : TComes (atL u 3, t) l (.bad 20) := by
 refine .here (.inr (.inr ⟨20, by omega, ?_, rfl⟩)); rw [tstep_due (.inr (.inr (ne_nil h)))]; unfold ustep uletter atL; simp only [if_true, if_neg h, if_neg (show ¬ (3 < 3) by omega), if_pos hv, tnext]
def atM (u : US) (level total : Nat) (blk : Option BS) : US := ⟨u.unit, 1, 0, level, blk, u.last, u.frm, u.sum, total, u.ended⟩
theorem lev_next {u : US} {l : List Bool} {t : List UInt8} (h : ¬ l.length < 8) (hv : ¬ (valB (l.take 8) < 49 ∨ 57 < valB (l.take 8))) : tstep (atL u 3, t) l = .ok (atM u (valB (l.take 8) - 48) 0 u.blk, t) 8 := by
 rw [tstep_due (.inr (.inr (ne_nil h)))]; unfold ustep uletter atL atM; simp only [if_true, if_neg h, if_neg (show ¬ (3 < 3) by omega), if_neg hv, tnext, if_neg (show ¬ (0 = 1) by omega)]
theorem mag_step {u : US} (hd : u.due = 1) {l : List Bool} {t : List UInt8} : tstep (u, t) l = tnext t (umagic u l) := by
 rw [tstep_due (.inl (by show u.due ≠ 0; omega))]; unfold ustep; simp only [hd, if_neg (show ¬ (1 = 0) by omega), if_true]
theorem mag_short {u : US} (hd : u.due = 1) {l : List Bool} {t : List UInt8} (h : l.length < 48) : TComes (u, t) l (.bad 24) := by
 refine .here (.inl ⟨?_, rfl⟩); rw [mag_step hd, umagic, if_pos h]; rfl
theorem mag_wrong {u : US} (hd : u.due = 1) {l : List Bool} {t : List UInt8} (h : ¬ l.length < 48) (h1 : valB (l.take 48) ≠ 54156738319193) (h2 : valB (l.take 48) ≠ 25779555029136) : TComes (u, t) l (.bad 20) := by
 refine .here (.inr (.inr ⟨20, by omega, ?_, rfl⟩)); rw [mag_step hd, umagic, if_neg h, if_neg h1, if_neg h2]; rfl
theorem mag_block {u : US} (hd : u.due = 1) (ha : u.at_ = 0) {l : List Bool} {t : List UInt8} (h : ¬ l.length < 48) (h1 : valB (l.take 48) = 54156738319193) :
   tstep (u, t) l = .ok (inB u.unit u.level u.last u.frm u.sum u.total u.ended (b0 (u.level * u.unit)), t) 48 := by
 rw [mag_step hd, umagic, if_neg h, if_pos h1]; simp only [tnext, if_neg (show ¬ (0 = 1) by omega), inB, ha]
theorem mag_end {u : US} (hd : u.due = 1) {l : List Bool} {t : List UInt8} (h : ¬ l.length < 48) (h1 : valB (l.take 48) = 25779555029136) :
   tstep (u, t) l = .ok (⟨u.unit, 3, u.at_, u.level, u.blk, u.last, u.frm, u.sum, u.total, u.ended⟩, t) 48 := by
 rw [mag_step hd, umagic, if_neg h, if_neg (by rw [h1]; decide), if_pos h1]; simp only [tnext, if_neg (show ¬ (0 = 1) by omega)]
theorem sum_step {u : US} (hd : u.due = 3) {l : List Bool} {t : List UInt8} : tstep (u, t) l = tnext t (usum u l) := by
 rw [tstep_due (.inl (by show u.due ≠ 0; omega))]; unfold ustep; simp only [hd, if_neg (show ¬ (3 = 0) by omega), if_neg (show ¬ (3 = 1) by omega), if_neg (show ¬ (3 = 2) by omega)]
theorem sum_short {u : US} (hd : u.due = 3) {l : List Bool} {t : List UInt8} (h : l.length < 32) : TComes (u, t) l (.bad 24) := by
 refine .here (.inl ⟨?_, rfl⟩); rw [sum_step hd, usum, if_pos h]; rfl
theorem sum_wrong {u : US} (hd : u.due = 3) {l : List Bool} {t : List UInt8} (h : ¬ l.length < 32) (h1 : valB (l.take 32) ≠ u.total) : TComes (u, t) l (.bad 21) := by
 refine .here (.inr (.inr ⟨21, by omega, ?_, rfl⟩)); rw [sum_step hd, usum, if_neg h, if_neg h1]; rfl
theorem sum_next {u : US} (hd : u.due = 3) {l : List Bool} {t : List UInt8} (h : ¬ l.length < 32) (h1 : valB (l.take 32) = u.total) :
   tstep (u, t) l = .ok (⟨u.unit, 0, u.at_, u.level, u.blk, u.last, u.frm, u.sum, u.total, true⟩, t) (32 + (l.length - 32) % 8) := by
 rw [sum_step hd, usum, if_neg h, if_pos h1]; simp only [tnext, if_neg (show ¬ (2 = 1) by omega)]
theorem foldl_val (l : List Bool) : ∀ a : Nat, l.foldl (fun a b => 2 * a + b.toNat) a = a * 2 ^ l.length + valB l := by
 induction l with
 | nil => intro a; simp [valB]
 | cons x l ih =>
   intro a; have h0 := ih x.toNat
   have e : valB (x :: l) = x.toNat * 2 ^ l.length + valB l := by
     rw [← h0]; simp [valB]
   rw [e, List.foldl_cons, ih, List.length_cons, Nat.pow_succ, Nat.add_mul]
   have : 2 * a * 2 ^ l.length = a * (2 ^ l.length * 2) := by
     rw [Nat.mul_comm 2 a, Nat.mul_assoc, Nat.mul_comm 2]
   omega
theorem valB_cons (x : Bool) (l : List Bool) : valB (x :: l) = x.toNat * 2 ^ l.length + valB l := by
 have := foldl_val l x.toNat; rw [← this]; simp [valB]
theorem valB_inj : ∀ {a b : List Bool}, a.length = b.length → valB a = valB b → a = b
 | [], [], _, _ => rfl
 | [], _ :: _, h, _ => by simp at h
 | _ :: _, [], h, _ => by simp at h
 | x :: a, y :: b, h, hv => by
   have hl : a.length = b.length := by simpa using h
   rw [valB_cons, valB_cons, hl] at hv; have h1 := valB_lt a; have h2 := valB_lt b; rw [hl] at h1
   have hx : x = y ∧ valB a = valB b := by
     cases x <;> cases y <;> simp only [Bool.toNat_true, Bool.toNat_false, Nat.one_mul, Nat.zero_mul, Nat.zero_add] at hv
     · exact ⟨rfl, hv⟩
     · omega
     · omega
     · exact ⟨rfl, by omega⟩
   rw [hx.1, valB_inj hl hx.2]
theorem valB_app (a b : List Bool) : valB (a ++ b) = valB a * 2 ^ b.length + valB b := by
 have := foldl_val b (valB a); rw [← this]; simp [valB]
end Go.Q24
namespace Go.Q25
open Go.M01 Go.Mb Go.Mp Go.M10 Go.Mc Go.Mz Go.Mk Go.Q20 Go.Q24
def ccost (c : CS) : Nat := (if 0 < c.picks.count then 18 else 0) + c.size * c.codes.length + c.lens.lens.length
def CJ (c : CS) : Prop := c.done = true → 0 < c.picks.count ∧ 2 ≤ c.codes.length
theorem pstep_cnt {p p' : PS} {l : List Bool} {n : Nat} (h : pstep p l = .ok p' n) : (0 < p.count → 0 < p'.count) ∧ (if 0 < p'.count then 18 else 0) ≤ (if 0 < p.count then 18 else 0) + n := by
 unfold pstep at h; split at h
 · rename_i h0; split at h
   · cases h
   · split at h
     · cases h
     · cases h; refine ⟨fun h => by omega, ?_⟩
       split <;> split <;> omega
 · rename_i h0
   repeat' split at h
   all_goals first
     | (cases h; exact ⟨fun h => h, Nat.le_add_right _ _⟩)
     | cases h
theorem dstep_cnt {d d' : DS} {l : List Bool} {n : Nat} (h : dstep d l = .ok d' n) : d'.size = d.size ∧ d'.lens.length ≤ d.lens.length + 1 := by
 unfold dstep turn at h
 repeat' split at h
 all_goals first
   | (cases h; refine ⟨rfl, ?_⟩; simp)
   | cases h
theorem cstep_cnt {c c' : CS} {l : List Bool} {o : Option Nat} {n : Nat} (hc : c.Ok) (hj : CJ c) (h : cstep c l = .ok (c', o) n) : CJ c' ∧ ccost c' ≤ ccost c + n ∧ c'.size = c.size := by
 have hpos := Q23.cstep_pos hc h; unfold cstep at h; split at h
 · unfold withPicks at h; split at h
   · cases h
   · cases h
   · rename_i p k hp; cases h; have := pstep_cnt hp; refine ⟨fun hd => ⟨this.1 (hj hd).1, (hj hd).2⟩, ?_, rfl⟩; unfold ccost; simp only; omega
 · rename_i hpd; split at h
   · unfold withLens at h; split at h
     · cases h
     · cases h
     · rename_i d k hd; have h1 := dstep_cnt hd; have h2 := hc.ds; split at h
       · rename_i hdn; split at h
         · cases h; refine ⟨fun hd => ⟨(hj hd).1, ?_⟩, ?_, rfl⟩
           · have := (hj hd).2; simp only [List.length_append, List.length_singleton]; omega
           · unfold ccost
             have hdl : d.lens.length = c.size := by
               unfold DS.done at hdn; rw [decide_eq_true_eq] at hdn; omega
             simp only [List.length_append, List.length_singleton, Nat.mul_add, Nat.mul_one, d0, List.length_nil]; omega
         · cases h
       · cases h; refine ⟨hj, ?_, rfl⟩; unfold ccost; simp only; omega
   · rename_i hlt; split at h
     · cases h
     · unfold withSymbol at h; split at h
       · cases h
       · cases h
         have hpd2 : c.picks.done = true := by simpa using hpd
         unfold PS.done at hpd2; rw [decide_eq_true_eq] at hpd2; have := hc.pk.tbl hpd2.1; refine ⟨fun _ => ⟨hpd2.1, by show 2 ≤ c.codes.length; omega⟩, ?_, rfl⟩; unfold ccost; simp only; omega
def bcost (b : BS) : Nat := (if b.head = true then 57 else 0) + match b.row with
 | none => 0
 | some r => 32 + ccost r.code
def BJ (b : BS) : Prop := ∀ r, b.row = some r → CJ r.code
theorem bend_cnt {b b' : BS} {k n : Nat} (h : bend b k = .ok b' n) : n = k ∧ b'.row = b.row ∧ b'.head = b.head ∧ (b'.done = true → b.done = true ∨ ∃ r, b.row = some r ∧ r.code.done = true) := by
 unfold bend at h; split at h
 · cases h; exact ⟨rfl, rfl, rfl, fun h => .inl h⟩
 · rename_i r hr; split at h
   · cases h; exact ⟨rfl, rfl, rfl, fun h => .inl h⟩
   · rename_i hn; split at h
     · cases h
     · cases h; refine ⟨rfl, rfl, rfl, fun _ => .inr ⟨r, hr, ?_⟩⟩
       cases hd : r.code.done with
       | true => rfl
       | false => exact absurd (.inl hd) hn
theorem usedT_nil (l : List Bool) : usedT [] l = fun _ => false := by
 funext b; rfl
theorem uread_32 {l : List Bool} {T : Nat → Bool} {n : Nat} (h : uread l = .ok T n) : 32 ≤ n := by
 unfold uread at h; split at h
 · cases h
 · split at h
   · cases h
   · split at h
     · cases h
     · rename_i hne; cases h; rcases hm : marksL (l.take 16) with _ | ⟨a, t⟩
       · rw [hm] at hne; exfalso; apply hne; unfold listed; rw [usedT_nil]; simp
       · simp only [List.length_cons]; omega
theorem bstep_cnt {b b' : BS} {l : List Bool} {n : Nat} (hb : b.Ok) (hj : BJ b) (hd : b.done = false) (h : bstep b l = .ok b' n) :
   BJ b' ∧ bcost b' ≤ bcost b + n ∧ (b'.done = true → 112 ≤ bcost b') := by
 have hok := bstep_okB hb hd h
 have fin : (BJ b' ∧ bcost b' ≤ bcost b + n ∧ (b'.done = true → ∃ r, b'.row = some r ∧ r.code.done = true)) → BJ b' ∧ bcost b' ≤ bcost b + n ∧ (b'.done = true → 112 ≤ bcost b') := by
   rintro ⟨h1, h2, h3⟩; refine ⟨h1, h2, fun hdn => ?_⟩; obtain ⟨r, hr, hrd⟩ := h3 hdn; obtain ⟨g1, g2, _⟩ := hok.some_ r hr; have := h1 r hr hrd; have hs := g2.code.s1; unfold bcost ccost; rw [g1, hr, if_pos rfl]; simp only [if_pos this.1]; have : 3 * 2 ≤ r.code.size * r.code.codes.length := Nat.mul_le_mul hs this.2; omega
 apply fin; unfold bstep at h; split at h
 · rename_i hh; unfold bhead at h; split at h
   · cases h
   · split at h
     · cases h
     · have hrn := (head_pre (s := 0) (f := 0) hb hh (by omega) (by omega)).1; obtain ⟨rfl, h1, h2, h3⟩ := bend_cnt h; simp only at h1 h2 h3; refine ⟨fun r hr => (by rw [h1, hrn] at hr; cases hr), ?_, fun hdn => ?_⟩
       · unfold bcost; rw [h1, h2, hrn, hh]; simp
       · rcases h3 hdn with h | ⟨r, hr, _⟩
         · rw [hd] at h; cases h
         · rw [hrn] at hr; cases hr
 · rename_i hh
   have hh2 : b.head = true := by simpa using hh
   split at h
   · rename_i hrn; unfold buse at h; split at h
     · cases h
     · cases h
     · rename_i T k hu; obtain ⟨rfl, h1, h2, h3⟩ := bend_cnt h; simp only at h1 h2 h3; have h32 := uread_32 hu; refine ⟨fun r hr => ?_, ?_, fun hdn => ?_⟩
       · rw [h1] at hr; cases hr; intro hx; cases hx
       · unfold bcost; rw [h1, h2, hrn, hh2]; simp only [rowOf, ccost, c0, p0, d0, List.length_nil, Nat.mul_zero, Nat.lt_irrefl, if_false, if_true]; omega
       · rcases h3 hdn with h | ⟨r, hr, hx⟩
         · rw [hd] at h; cases h
         · cases hr; cases hx
   · rename_i r hr; have hjr := hj r hr; split at h
     · unfold bnext at h; obtain ⟨rfl, h1, h2, h3⟩ := bend_cnt h; simp only at h1 h2 h3; refine ⟨fun r' hr' => ?_, ?_, fun hdn => ?_⟩
       · rw [h1] at hr'; cases hr'; exact hjr
       · unfold bcost; rw [h1, h2, hr]; simp only [RS.next]; omega
       · rcases h3 hdn with h | ⟨r', hr', hx⟩
         · rw [hd] at h; cases h
         · exact ⟨r', by rw [h1]; exact hr', hx⟩
     · have hco := (hb.some_ r hr).2.1.code; unfold bsym at h; split at h
       · cases h
       · cases h
       · rename_i c k hc; have hcc := cstep_cnt hco hjr hc; obtain ⟨rfl, h1, h2, h3⟩ := bend_cnt h; simp only at h1 h2 h3; refine ⟨fun r' hr' => ?_, ?_, fun hdn => ?_⟩
         · rw [h1] at hr'; cases hr'; exact hcc.1
         · unfold bcost; rw [h1, h2, hr]; simp only; omega
         · rcases h3 hdn with h | ⟨r', hr', hx⟩
           · rw [hd] at h; cases h
           · exact ⟨r', by rw [h1]; exact hr', hx⟩
       · rename_i c s k hc; have hcc := cstep_cnt hco hjr hc; unfold btold at h; split at h
         · cases h
         · rename_i z d p hz; obtain ⟨rfl, h1, h2, h3⟩ := bend_cnt h; simp only at h1 h2 h3; refine ⟨fun r' hr' => ?_, ?_, fun hdn => ?_⟩
           · rw [h1] at hr'; cases hr'; exact hcc.1
           · unfold bcost; rw [h1, h2, hr]; simp only; omega
           · rcases h3 hdn with h | ⟨r', hr', hx⟩
             · rw [hd] at h; cases h
             · exact ⟨r', by rw [h1]; exact hr', hx⟩
def bkL : Option BS → Nat
 | none => 0
 | some b => b.last.length
def bkC : Option BS → Nat
 | none => 0
 | some b => 48 + bcost b
structure Cnt (u : US) (q i m : Nat) : Prop where
 bits : bkC u.blk + 160 * m ≤ q
 steps : i ≤ q + 9 * u.unit * m + bkL u.blk
 bj : ∀ b, u.blk = some b → BJ b
theorem cnt0 (unit : Nat) : Cnt (u0 unit) 0 0 0 := ⟨by simp [u0, bkC], by simp, fun b h => by simp [u0] at h⟩
theorem ustep_cnt {u u' : US} {l : List Bool} {n w q i m : Nat} (hu : u.Ok) (hc : Cnt u q i m) (h : ustep u l = .ok (u', w) n) : Cnt u' (q + n) (i + 1) (m + if w = 1 then 1 else 0) := by
 have hlev := hu.lev; have h1 := hc.bits; have h2 := hc.steps; unfold ustep at h; split at h
 · rename_i hd; have hbn := hu.none_ (by omega); rw [hbn] at h1 h2; unfold uletter at h
   repeat' split at h
   all_goals first
     | (cases h
        refine ⟨?_, ?_, fun b hb => (by rw [hbn] at hb; cases hb)⟩
        · show bkC u.blk + 160 * m ≤ q + 8; rw [hbn]; omega
        · show i + 1 ≤ q + 8 + 9 * u.unit * m + bkL u.blk
          rw [hbn]; omega)
     | cases h
 · split at h
   · rename_i hd; have hbn := hu.none_ (by omega); rw [hbn] at h1 h2; simp only [bkC, bkL] at h1 h2; unfold umagic at h; split at h
     · cases h
     · split at h
       · cases h; refine ⟨?_, ?_, fun b hb => ?_⟩
         · show bkC (some (b0 (u.level * u.unit))) + 160 * m ≤ q + 48; simp only [bkC, bcost, b0]; simp; omega
         · show i + 1 ≤ q + 48 + 9 * u.unit * m + bkL (some (b0 (u.level * u.unit))); omega
         · cases hb; intro r hr; simp [b0] at hr
       · split at h
         · cases h; refine ⟨?_, ?_, fun b hb => (by rw [hbn] at hb; cases hb)⟩
           · show bkC u.blk + 160 * m ≤ q + 48; rw [hbn]; simp only [bkC]; omega
           · show i + 1 ≤ q + 48 + 9 * u.unit * m + bkL u.blk; omega
         · cases h
   · split at h
     · rename_i hd; unfold ubody at h; split at h
       · cases h
       · rename_i b hb; obtain ⟨_, hbo, hbd, hbr⟩ := hu.blk b hb; rw [hb] at h1 h2; simp only [bkC, bkL] at h1 h2; unfold uwith at h; split at h
         · cases h
         · cases h
         · rename_i b' n' hs; obtain ⟨c1, c2, c3⟩ := bstep_cnt hbo (hc.bj b hb) hbd hs; have hok := bstep_okB hbo hbd hs; have hpg := Q23.bstep_prog hbo hs; have hlr := Q23.last_room hok; have hle : u.level * u.unit ≤ 9 * u.unit := Nat.mul_le_mul_right _ hlev; split at h
           · rename_i hdn; cases h; have := c3 hdn; refine ⟨?_, ?_, fun b hb => (by cases hb)⟩
             · show bkC none + 160 * (m + 1) ≤ q + n; simp only [bkC]; omega
             · show i + 1 ≤ q + n + 9 * u.unit * (m + 1) + bkL none; rw [Nat.mul_add, Nat.mul_one]; simp only [bkL]; rcases hpg.2 with ⟨h3, h4⟩ | ⟨h3, h4⟩
               · rw [h4] at hlr; omega
               · omega
           · cases h; refine ⟨?_, ?_, fun b2 hb2 => (by cases hb2; exact c1)⟩
             · show bkC (some b') + 160 * m ≤ q + n; simp only [bkC]; omega
             · show i + 1 ≤ q + n + 9 * u.unit * m + bkL (some b'); simp only [bkL]; rcases hpg.2 with ⟨h3, h4⟩ | ⟨h3, h4⟩
               · rw [h4]; omega
               · omega
     · rename_i hd1 hd2; have hbn := hu.none_ hd2; rw [hbn] at h1 h2; simp only [bkC, bkL] at h1 h2; unfold usum at h; split at h
       · cases h
       · split at h
         · cases h; refine ⟨?_, ?_, fun b hb => (by rw [hbn] at hb; cases hb)⟩
           · show bkC u.blk + 160 * m ≤ q + (32 + (l.length - 32) % 8); rw [hbn]; simp only [bkC]; omega
           · show i + 1 ≤ q + (32 + (l.length - 32) % 8) + 9 * u.unit * m + bkL u.blk; omega
         · cases h
theorem bkL_le {u : US} (hu : u.Ok) : bkL u.blk ≤ 9 * u.unit := by
 cases hb : u.blk with
 | none => exact Nat.zero_le _
 | some b =>
   obtain ⟨_, hbo, _, hbr⟩ := hu.blk b hb; have hlr := Q23.last_room hbo; have hle : u.level * u.unit ≤ 9 * u.unit := Nat.mul_le_mul_right _ hu.lev; show b.last.length ≤ _; omega
theorem cnt_lt {u : US} {q i m n : Nat} (hu : u.Ok) (hc : Cnt u q i m) (hq : q ≤ 8 * n) : i + 2 < 8 * n + 10 * u.unit * (n / 20 + 2) := by
 have h1 := hc.bits; have h2 := hc.steps; have h3 := bkL_le hu; have h4 := hu.unit
 have hm : m ≤ n / 20 := by omega
 have h5 : 9 * u.unit * m ≤ 9 * u.unit * (n / 20) := Nat.mul_le_mul_left _ hm; have h6 : 9 * u.unit * (n / 20) ≤ 10 * u.unit * (n / 20) := Nat.mul_le_mul_right _ (by omega); rw [Nat.mul_add]; omega
theorem pstep_le {p p' : PS} {l : List Bool} {n : Nat} (h : pstep p l = .ok p' n) : n ≤ l.length := by
 have hle := lead_le l; unfold pstep at h
 repeat' split at h
 all_goals first
   | (cases h; omega)
   | cases h
theorem dstep_le {p p' : DS} {l : List Bool} {n : Nat} (h : dstep p l = .ok p' n) : n ≤ l.length := by
 unfold dstep turn at h
 repeat' split at h
 all_goals first
   | (cases h; simp only [List.length_cons]; omega)
   | (cases h; omega)
   | cases h
theorem cstep_le {c c' : CS} {l : List Bool} {o : Option Nat} {n : Nat} (hc : c.Ok) (h : cstep c l = .ok (c', o) n) : n ≤ l.length := by
 unfold cstep at h; split at h
 · unfold withPicks at h; split at h
   · cases h
   · cases h
   · rename_i p k hp; cases h; exact pstep_le hp
 · rename_i hd; split at h
   · unfold withLens at h; split at h
     · cases h
     · cases h
     · rename_i d k hdl
       repeat' split at h
       all_goals first
         | (cases h; exact dstep_le hdl)
         | cases h
   · rename_i hlt; split at h
     · cases h
     · rename_i hg; unfold withSymbol at h; split at h
       · cases h
       · rename_i s k hs; cases h; obtain ⟨x, h1, h2, h3, h4, h5⟩ := pick_lt hc (by simpa using hd) hlt hg; exact (code_get h4 hs).2.2.2.2.1
theorem bstep_le {b b' : BS} {l : List Bool} {n : Nat} (hb : b.Ok) (h : bstep b l = .ok b' n) : n ≤ l.length := by
 unfold bstep at h; split at h
 · unfold bhead at h; split at h
   · cases h
   · split at h
     · cases h
     · have := Q23.bend_last h; omega
 · split at h
   · unfold buse at h; split at h
     · cases h
     · cases h
     · rename_i T k hu; have := Q23.bend_last h; have := Q23.uread_pos hu; omega
   · rename_i r hr; split at h
     · unfold bnext at h; have := Q23.bend_last h; omega
     · unfold bsym at h; have hco := (hb.some_ r hr).2.1.code; split at h
       · cases h
       · cases h
       · rename_i c k hc; have := Q23.bend_last h; have := cstep_le hco hc; omega
       · rename_i c s k hc; unfold btold at h; split at h
         · cases h
         · have := Q23.bend_last h; have := cstep_le hco hc; omega
theorem brun_ok {room : Nat} {l : List Bool} (hr : room ≤ 900000) : ∀ {i : Nat} {b : BS} {k : Nat}, RunN bstep BS.done (b0 room) l i b k → b.Ok ∧ b.room = room := by
 intro i b k h
 induction h with
 | start => exact ⟨b0_ok hr, rfl⟩
 | next h hd hs ih => exact ⟨bstep_okB ih.1 hd hs, by rw [(Q23.bstep_prog ih.1 hs).1]; exact ih.2⟩
theorem brun_le {room : Nat} {l : List Bool} (hr : room ≤ 900000) : ∀ {i : Nat} {b : BS} {k : Nat}, RunN bstep BS.done (b0 room) l i b k → k ≤ l.length := by
 intro i b k h
 induction h with
 | start => exact Nat.zero_le _
 | next h hd hs ih =>
   have := bstep_le (brun_ok hr h).1 hs; rw [List.length_drop] at this; omega
theorem comes_got {room o u n held : Nat} {l : List Bool} {last : List UInt8} (hr : room ≤ 900000) (h : Q20.Comes room l (.got last o u n held)) : last.length ≤ 900000 ∧ u < 4294967296 ∧ n ≤ l.length := by
 obtain ⟨b, k, ⟨i, hrun⟩, h⟩ := h; obtain ⟨h1, h2⟩ := brun_ok hr hrun; rcases h with ⟨_, h⟩ | ⟨_, _, h⟩ | ⟨_, _, _, h⟩
 · cases h; have := Q23.last_room h1; exact ⟨by omega, h1.sum, brun_le hr hrun⟩
 · cases h
 · cases h
theorem comes_ne {room e : Nat} {l : List Bool} (h : Q20.Comes room l (.bad e)) : e ≠ 0 := by
 obtain ⟨b, k, _, h⟩ := h; rcases h with ⟨_, h⟩ | ⟨_, _, h⟩ | ⟨e', _, hs, h⟩
 · cases h
 · cases h; decide
 · cases h
   rcases bstep_bad hs with h | h | h <;> omega
end Go.Q25
namespace Go.M3d
open Go.M02 Go.M03
theorem rleA_p (out s : List UInt8) (p q : UInt8) : rleA out 0 p s = rleA out 0 q s := by
 cases s <;> simp [rleA]
theorem rleA_32 (o : List UInt8) (a : UInt8) (u : List UInt8) (h : ¬ (1 ≤ u.length ∧ u.getD 0 0 = a)) : rleA o 3 a u = rleA o 2 a u := by
 cases u with
 | nil => simp [rleA]
 | cons d v =>
   have hd : ¬ d = a := fun e => h ⟨by simp, e⟩; simp [rleA, hd]
theorem rleA_21 (o : List UInt8) (a : UInt8) (u : List UInt8) (h : ¬ (2 ≤ u.length ∧ u.getD 0 0 = a ∧ u.getD 1 0 = a)) : rleA o 2 a u = rleA o 1 a u := by
 cases u with
 | nil => simp [rleA]
 | cons d v =>
   by_cases hd : d = a
   · subst hd; simp only [rleA]; simp only [show ¬ (2 : Nat) = 4 by omega, show ¬ (1 : Nat) = 4 by omega, if_false, show (0 : Nat) < 2 by omega, show (0 : Nat) < 1 by omega, true_and, if_true]; exact rleA_32 _ _ _ fun hv => h ⟨by rw [List.length_cons]; omega, rfl, hv.2⟩
   · simp [rleA, hd]
theorem rleA_one (out : List UInt8) (a p : UInt8) (s : List UInt8) (h : ¬ (3 ≤ s.length ∧ s.getD 0 0 = a ∧ s.getD 1 0 = a ∧ s.getD 2 0 = a)) : rleA out 0 p (a :: s) = rleA (out ++ [a]) 0 p s := by
 have e : rleA out 0 p (a :: s) = rleA (out ++ [a]) 1 a s := by simp [rleA]
 rw [e]
 cases s with
 | nil => simp [rleA]
 | cons b t =>
   by_cases hd : b = a
   · subst hd
     have e2 : rleA (out ++ [b]) 0 p (b :: t) = rleA (out ++ [b] ++ [b]) 1 b t := by simp [rleA]
     have e1 : rleA (out ++ [b]) 1 b (b :: t) = rleA (out ++ [b] ++ [b]) 2 b t := by simp [rleA]
     rw [e1, e2]; exact rleA_21 _ _ _ fun hv => h ⟨by rw [List.length_cons]; omega, rfl, hv.2.1, hv.2.2⟩
   · simp [rleA, hd]
theorem rleA_four (out : List UInt8) (a p : UInt8) (r : List UInt8) : rleA out 0 p (a :: a :: a :: a :: r) = rleA (out ++ [a] ++ [a] ++ [a] ++ [a]) 4 a r := by
 simp [rleA]
theorem rleA_end (out : List UInt8) (a p : UInt8) : rleA out 0 p [a, a, a, a] = none := by
 rw [rleA_four]; simp [rleA]
theorem rleA_bad (out : List UInt8) (a c p : UInt8) (r : List UInt8) (h : 251 < c.toNat) : rleA out 0 p (a :: a :: a :: a :: c :: r) = none := by
 rw [rleA_four]; simp [rleA, h]
theorem rleA_run (out : List UInt8) (a c p : UInt8) (r : List UInt8) (h : ¬ 251 < c.toNat) : rleA out 0 p (a :: a :: a :: a :: c :: r) = rleA (out ++ List.replicate (4 + c.toNat) a) 0 p r := by
 rw [rleA_four]
 have e : rleA (out ++ [a] ++ [a] ++ [a] ++ [a]) 4 a (c :: r) = rleA (out ++ [a] ++ [a] ++ [a] ++ [a] ++ List.replicate c.toNat a) 0 c r := by
   simp only [rleA, if_true, if_neg h]
 rw [e, rleA_p _ _ c p]
 congr 1
 rw [Nat.add_comm, show List.replicate (c.toNat + 4) a = [a, a, a, a] ++ List.replicate c.toNat a from rfl]; simp
def four (s : List UInt8) : Prop := 4 ≤ s.length ∧ s.getD 0 0 = s.getD 1 0 ∧ s.getD 1 0 = s.getD 2 0 ∧ s.getD 2 0 = s.getD 3 0
theorem four_form {s : List UInt8} (h : four s) : ∃ a r, s = a :: a :: a :: a :: r := by
 obtain ⟨h0, h1, h2, h3⟩ := h
 match s, h0 with
 | a :: b :: c :: d :: r, _ =>
   simp only [List.getD_cons_zero, List.getD_cons_succ] at h1 h2 h3; subst h1; subst h2; subst h3; exact ⟨a, r, rfl⟩
theorem rleA_step {out : List UInt8} {p a : UInt8} {s : List UInt8} (h : ¬ four (a :: s)) : rleA out 0 p (a :: s) = rleA (out ++ [a]) 0 p s := by
 refine rleA_one _ _ _ _ fun ⟨h0, h1, h2, h3⟩ => h ⟨by rw [List.length_cons]; omega, ?_, ?_, ?_⟩
 · simp only [List.getD_cons_zero, List.getD_cons_succ]; exact h1.symm
 · simp only [List.getD_cons_succ]; rw [h1, h2]
 · simp only [List.getD_cons_succ]; rw [h2, h3]
theorem crcStep_high {x : Nat} (h : 2147483648 ≤ x) (hx : x < 4294967296) : ((x - 2147483648) * 2) ^^^ 79764919 = crcStep x := by
 unfold crcStep; rw [show x / 2147483648 = 1 by omega, Nat.one_mul, show x * 2 % 4294967296 = (x - 2147483648) * 2 by omega]
theorem crcStep_low {x : Nat} (h : x < 2147483648) : x * 2 = crcStep x := by
 unfold crcStep; rw [show x / 2147483648 = 0 by omega, Nat.zero_mul, Nat.xor_zero, show x * 2 % 4294967296 = x * 2 by omega]
theorem crcStep_lt {x : Nat} : crcStep x < 4294967296 ∨ 4294967296 ≤ x := by
 by_cases h : x < 4294967296
 · left; unfold crcStep; refine Nat.xor_lt_two_pow (n := 32) (by omega) ?_
   have : x / 2147483648 < 2 := by omega
   have : x / 2147483648 * 79764919 ≤ 1 * 79764919 := Nat.mul_le_mul_right _ (by omega); omega
 · right; omega
theorem crcN_snoc (s k : Nat) : crcN s (k + 1) = crcStep (crcN s k) := rfl
theorem crcN_lt {s : Nat} (h : s < 4294967296) : ∀ k, crcN s k < 4294967296
 | 0 => h
 | k + 1 => by
   rw [crcN_snoc]; rcases crcStep_lt (x := crcN s k) with h1 | h1
   · exact h1
   · have := crcN_lt h k; omega
end Go.M3d
namespace Go.Proofs.YtlppejfnjhkbpaaGreat
open Go Go.Vc
attribute [local irreducible] Vc.Nc Vc.Ld Vc.LdA Vc.St Vc.StA Vc.Fo Vc.Iaa Vc.Ias Vc.Ixs Vc.Ixa Vc.Fd Vc.FdA Vc.Bp Vc.Bb Vc.Bn Vc.Up Vc.Ci Vc.Lns Vc.Lnl Vc.Ex Vc.Sst Vc.Ssl Vc.New Vc.Vif Vc.VJoin Vc.VLoop Vc.KE Vc.Dr Vc.Rk Vc.Cl Vc.Cx Vc.Inv Vc.Be Vc.Cv Vc.Cw Vc.Mf Vc.Sl Vc.Lk Vc.Bd Vc.Bs Vc.Ms Vc.Mm Vc.Mu Vc.Me Vc.Es Vc.Rg Vc.Nx Vc.Ta Vc.Ap Vc.Usd Vc.Ust Vc.Cp Vc.Ln Vc.Bc Vc.Bmin Vc.Bmax Vc.Bdel Vc.Bclr Vc.Pk
namespace U22
open Go.M01 Go.Mb Go.Mp Go.M10 Go.Mc Go.Mz Go.Mk Go.Q20 Go.M02 Go.M03 Go.Q24 Rb
variable {w : World} {L : List HProp} {K : Value → World → Prop} {b r : Nat} {B : List UInt8} {d at_ : Nat} {u : US}
abbrev tUs : Nat := 73
def usC (p : Value) (u : US) (e : Nat) : List Value := [nv u.unit, nv u.due, nv u.at_, nv u.level, p, S_ u.last, nv u.frm, uv u.sum, uv u.total, .bool u.ended, nv e]
def RawU (b : Nat) (u : US) : HProp := match u.blk with
 | none => blk b tUs (usC (.pointer none) u 0)
 | some s => fun h => ∃ q, Sat [blk b tUs (usC (pt q) u 0), B20.BkR q s] h
def UsR (b : Nat) (u : US) : HProp := fun h => u.Ok ∧ RawU b u h
theorem UsR_open (H : Holds w (UsR b u :: L)) : u.Ok ∧ Holds w (RawU b u :: L) := Holds.pure H
theorem UsR_close (h : u.Ok) (H : Holds w (RawU b u :: L)) : Holds w (UsR b u :: L) := Holds.imp H fun _ hh => ⟨h, hh⟩
theorem Raw_openN (hr : u.blk = none) (H : Holds w (RawU b u :: L)) : Holds w (blk b tUs (usC (.pointer none) u 0) :: L) := by
 unfold RawU at H; rw [hr] at H; exact H
theorem Raw_closeN (hr : u.blk = none) (H : Holds w (blk b tUs (usC (.pointer none) u 0) :: L)) : Holds w (RawU b u :: L) := by
 unfold RawU; rw [hr]; exact H
theorem Raw_openS {s : BS} (hr : u.blk = some s) (H : Holds w (RawU b u :: L)) : ∃ q, Holds w (blk b tUs (usC (pt q) u 0) :: B20.BkR q s :: L) := by
 unfold RawU at H; rw [hr] at H; obtain ⟨q, H⟩ := Holds.ex H; exact ⟨q, Holds.unpack H⟩
theorem Raw_closeS {s : BS} {q : Nat} (hr : u.blk = some s) (H : Holds w (blk b tUs (usC (pt q) u 0) :: B20.BkR q s :: L)) : Holds w (RawU b u :: L) := by
 unfold RawU; rw [hr]; exact Holds.imp (Holds.pack (A := [blk b tUs (usC (pt q) u 0), B20.BkR q s]) H) fun _ hh => ⟨q, hh⟩
def BadU (b e : Nat) : HProp := fun h => ∃ p u, blk b tUs (usC p u e) h
theorem BadU_open {e : Nat} (H : Holds w (BadU b e :: L)) : ∃ p u, Holds w (blk b tUs (usC p u e) :: L) := by
 obtain ⟨p, H⟩ := Holds.ex H; obtain ⟨u, H⟩ := Holds.ex H; exact ⟨p, u, H⟩
def AfterU (y : Res (US × Nat)) (b : Nat) (u : US) (r : Nat) (B : List UInt8) (d at_ : Nat) (L : List HProp) (wt e : Int) (w : World) : Prop :=
 match y with
 | .short => wt = 0 ∧ e = 3 ∧ Holds w (UsR b u :: RdR r B d at_ :: L)
 | .bad c => wt = 0 ∧ e = (c : Int) ∧ ∃ q, Holds w (BadU b 0 :: RdR r B d q :: L)
 | .ok (u', k) n => wt = (k : Int) ∧ e = 0 ∧ Holds w (UsR b u' :: RdR r B d (at_ + n) :: L)
theorem letter_spec (H : Holds w (UsR b u :: RdR r B d at_ :: L)) (hd : u.due = 0) (post : ∀ e w', Same w w' → AfterU (uletter u (rest B at_)) b u r B d at_ L 0 e w' → K (iv e) w') :
   Cl Tryz.prog F.unstream_Reader_letter #[pt b, pt r] w K := by
 refine Tie.unstream_Reader_letter ?_; unfold Vcf.unstream_Reader_letter; obtain ⟨hu, H⟩ := UsR_open H; have hbn := hu.none_ (by omega); have hok : ∀ u' k n, uletter u (rest B at_) = .ok (u', k) n → u'.Ok := fun u' k n h => (ustep_ok hu (by unfold ustep; rw [if_pos hd]; exact h)).1; have H1 := (Raw_openN hbn H).swap; clear H; refine Rb.Get_spec (n := 8) H1 (by omega) (fun h w2 S2 H2 => ?_) fun h w2 S2 H2 => ?_
 · refine r_ex20 (r_ex21 ?_); refine r_neq (r_vtN (by decide) ?_); refine post _ _ S2 ?_; unfold uletter; rw [if_pos h]; exact ⟨rfl, rfl, UsR_close hu (Raw_closeN hbn H2.swap)⟩
 refine r_ex20 (r_ex21 ?_); refine r_neq (r_vfN rfl ?_); have hv := valB_take_lt (rest B at_) 8
 have h8 : ¬ (rest B at_).length < 8 := by omega
 unfold uletter at post hok; rw [if_neg h8] at post; simp only [if_neg h8] at hok; generalize valB ((rest B at_).take 8) = c at *; have ha := hu.at_; have hbad : Holds w2 (BadU b 0 :: RdR r B d (at_ + 8) :: L) := Holds.imp H2.swap fun _ hh => ⟨_, u, hh⟩; refine r_nc (r_fo0 (r_ld 1 H2 rfl rfl ?_)); refine r_lss (r_ifD (fun h3 => ?_) fun h3 => ?_)
 · have h3' : u.at_ < 3 := by omega
   rw [if_pos h3'] at post; simp only [if_pos h3'] at hok; refine r_nc (r_fo0 (r_ld 1 H2 rfl rfl ?_)); refine r_ixs (n := (u.at_ : Int)) (by omega) (by show (u.at_ : Int) < ((3 : Nat) : Int); omega) ?_; rw [Int.toNat_natCast]
   have hl : (((⟨#[66, 90, 104]⟩ : ByteArray).data.toList.getD u.at_ 0).toNat : Int) = ((letters.getD u.at_ 0 : Nat) : Int) := by
     rcases (show u.at_ = 0 ∨ u.at_ = 1 ∨ u.at_ = 2 by omega) with h | h | h <;> rw [h] <;> rfl
   rw [hl]
   have hl2 : letters.getD u.at_ 0 < 256 := by
     rcases (show u.at_ = 0 ∨ u.at_ = 1 ∨ u.at_ = 2 by omega) with h | h | h <;> rw [h] <;> decide
   refine r_ciu32 (by omega) (by omega) ?_; refine r_neq (r_ifN (fun h4 => ?_) fun h4 => ?_)
   · rw [if_neg (by omega)] at post; exact post _ _ S2 ⟨rfl, rfl, _, hbad⟩
   · rw [if_pos (by omega)] at post; simp only [if_pos (show c = letters.getD u.at_ 0 by omega)] at hok; refine r_nc (r_fo0 (r_ld 1 H2 rfl rfl ?_)); refine r_add1N (by omega) ?_; refine r_nc (r_fo0 ?_); refine r_st 1 H2 rfl (by simp [usC]) rfl fun w3 S3 H3 => ?_; exact post _ _ (S2.trans S3) ⟨rfl, rfl, UsR_close (hok _ _ _ rfl) (Raw_closeN hbn H3.swap)⟩
 · have h3' : ¬ u.at_ < 3 := by omega
   rw [if_neg h3'] at post; simp only [if_neg h3'] at hok; refine r_join1 (fun x w' => w2 = w' ∧ x = .bool (decide (c < 49 ∨ 57 < c))) ?_ ?_
   rotate_left
   · refine r_lss (r_ifD (fun h => ?_) fun h => ?_)
     · exact r_ke ⟨rfl, by rw [decide_eq_true (by omega)]⟩
     · exact r_gtr (r_ke ⟨rfl, congrArg Value.bool (by rw [Bool.eq_iff_iff, decide_eq_true_iff, decide_eq_true_iff]; omega)⟩)
   rintro _ _ _ ⟨rfl, rfl⟩; refine r_ifD (fun h => ?_) fun h => ?_
   · rw [if_pos h] at post; exact post _ _ S2 ⟨rfl, rfl, _, hbad⟩
   · rw [if_neg h] at post; simp only [if_neg h] at hok; refine r_subU32 (s := c) (t := 48) (by omega) (by omega) ?_; refine r_ci64 (by omega) (by omega) ?_; refine r_nc (r_fo0 ?_); refine r_st 1 H2 rfl (by simp [usC]) rfl fun w3 S3 H3 => ?_; refine r_nc (r_fo0 ?_); refine r_st 1 H3 rfl (by simp [usC]) rfl fun w4 S4 H4 => ?_; refine r_nc (r_fo0 ?_); refine r_st 1 H4 rfl (by simp [usC]) rfl fun w5 S5 H5 => ?_; refine r_nc (r_fo0 ?_); refine r_st 1 H5 rfl (by simp [usC]) rfl fun w6 S6 H6 => ?_; exact post _ _ ((((S2.trans S3).trans S4).trans S5).trans S6) ⟨rfl, rfl, UsR_close (hok _ _ _ rfl) (Raw_closeN hbn H6.swap)⟩
theorem Combine_spec {a c : Nat} (ha : a < 4294967296) (hc : c < 4294967296) (k : K (uv (comb a c)) w) : Cl Tryz.prog F.crc_Combine #[uv a, uv c] w K := by
 refine Tie.crc_Combine ?_; unfold Vcf.crc_Combine; refine r_shlU32 (n := 1) (by omega) ?_; refine r_shrU (n := 31) (by decide) ?_; have h31 : a / 2 ^ 31 = a / 2147483648 := rfl; rw [h31]; refine r_xorU32 (by omega) (by omega) ?_; have hx : (a * 2 ^ 1 % 4294967296) ^^^ (a / 2147483648) < 2 ^ 32 := Nat.xor_lt_two_pow (n := 32) (by omega) (by omega); refine r_xorU32 hx hc ?_; exact k
theorem shl24 {hi : Nat} (h : hi < 2 ^ 24) : bp .shl (.int .u64 (hi : Int)) (.int .u64 24) = some (.int .u64 ((hi * 16777216 : Nat) : Int)) := by
 have hb : IntKind.u64.bits = 64 := rfl; show bp .shl (.int .u64 (hi : Int)) (.int .u64 ((24 : Nat) : Int)) = _; simp only [bp]; rw [if_neg (by omega), Int.toNat_natCast, hb, Nat.min_eq_left (by decide)]
 have e : (hi : Int) * 2 ^ 24 = ((hi * 16777216 : Nat) : Int) := by
   rw [Int.natCast_mul]; rfl
 rw [e]
 have hw : IntKind.u64.wrap ((hi * 16777216 : Nat) : Int) = ((hi * 16777216 : Nat) : Int) := by
   show ((hi * 16777216 : Nat) : Int) % 18446744073709551616 = _; omega
 rw [hw]
theorem or24 {hi lo : Nat} (h : hi < 2 ^ 24) (h2 : lo < 2 ^ 24) : bp .or (.int .u64 ((hi * 16777216 : Nat) : Int)) (.int .u64 (lo : Int)) = some (.int .u64 ((hi * 16777216 + lo : Nat) : Int)) := by
 have hb : IntKind.u64.bits = 64 := rfl; simp only [bp, if_true]; rw [hb, BitVec.toNat_or, BitVec.toNat_ofInt, BitVec.toNat_ofInt]
 have e1 : (((hi * 16777216 : Nat) : Int) % ((2 ^ 64 : Nat) : Int)).toNat = hi * 16777216 := by omega
 have e2 : ((lo : Int) % ((2 ^ 64 : Nat) : Int)).toNat = lo := by omega
 have e3 : hi * 16777216 ||| lo = hi * 16777216 + lo := by
   have := Nat.two_pow_add_eq_or_of_lt (i := 24) h2 hi; rw [Nat.mul_comm hi, show (16777216 : Nat) = 2 ^ 24 by rfl]; exact this.symm
 rw [e1, e2, e3]
 have hw : IntKind.u64.wrap ((hi * 16777216 + lo : Nat) : Int) = ((hi * 16777216 + lo : Nat) : Int) := by
   show ((hi * 16777216 + lo : Nat) : Int) % 18446744073709551616 = _; omega
 rw [hw]
theorem magic_spec (H : Holds w (UsR b u :: RdR r B d at_ :: L)) (hd : u.due = 1) (post : ∀ e w', Same w w' → AfterU (umagic u (rest B at_)) b u r B d at_ L 0 e w' → K (iv e) w') :
   Cl Tryz.prog F.unstream_Reader_magic #[pt b, pt r] w K := by
 refine Tie.unstream_Reader_magic ?_; unfold Vcf.unstream_Reader_magic; obtain ⟨hu, H⟩ := UsR_open H; have hbn := hu.none_ (by omega); have hok : ∀ u' k n, umagic u (rest B at_) = .ok (u', k) n → u'.Ok := fun u' k n h => (ustep_ok hu (by unfold ustep; rw [if_neg (by omega), if_pos hd]; exact h)).1; have H1 := (Raw_openN hbn H).swap; clear H; have hrl := rest_len B at_; have hr2 := rest_len B (at_ + 24); refine Rb.Left_spec H1 fun w2 S2 H2 => ?_; unfold umagic at post hok; refine r_lss (r_ifD (fun h => ?_) fun h => ?_)
 · rw [if_pos (by omega)] at post; exact post _ _ S2 ⟨rfl, rfl, UsR_close hu (Raw_closeN hbn H2.swap)⟩
 have h48 : ¬ (rest B at_).length < 48 := by omega
 rw [if_neg h48] at post; simp only [if_neg h48] at hok; refine Rb.Get_spec (n := 24) H2 (by omega) (fun h w3 S3 H3 => by omega) fun h w3 S3 H3 => ?_; refine r_ex20 (r_ex21 ?_); refine Rb.Get_spec (n := 24) H3 (by omega) (fun h w4 S4 H4 => by omega) fun h w4 S4 H4 => ?_; refine r_ex20 (r_ex21 ?_); have hv1 := valB_take_lt (rest B at_) 24; have hv2 := valB_take_lt (rest B (at_ + 24)) 24
 have hval : valB ((rest B at_).take 48) = valB ((rest B at_).take 24) * 16777216 + valB ((rest B (at_ + 24)).take 24) := by
   have e : (rest B at_).take 48 = (rest B at_).take 24 ++ (rest B (at_ + 24)).take 24 := by
     rw [← rest_drop, show 48 = 24 + 24 by rfl, List.take_add]
   rw [e, valB_app, List.length_take, Nat.min_eq_left (by omega)]
 rw [hval] at post; rw [hval] at hok; generalize valB ((rest B at_).take 24) = hi at *; generalize valB ((rest B (at_ + 24)).take 24) = lo at *; replace S2 := (S2.trans S3).trans S4
 replace H4 : Holds w4 (RdR r B d (at_ + 48) :: blk b tUs (usC (.pointer none) u 0) :: L) := by rw [show at_ + 48 = at_ + 24 + 24 by omega]; exact H4
 clear H1 H2 H3 S3 S4; refine r_ciu64 (by omega) (by omega) ?_; refine r_bpK (.int .u64 ((hi * 16777216 : Nat) : Int)) (shl24 hv1) ?_; refine r_ciu64 (by omega) (by omega) ?_; refine r_bpK (.int .u64 ((hi * 16777216 + lo : Nat) : Int)) (or24 hv1 hv2) ?_; refine r_eql (r_ifE (fun h1 => ?_) fun h1 => ?_)
 · have h1' : hi * 16777216 + lo = 54156738319193 := by omega
   rw [if_pos h1'] at post; simp only [if_pos h1'] at hok; refine r_dr H4 fun w5 S5 H5 => ?_; refine r_nc (r_fo0 (r_ld 1 H5 rfl rfl ?_)); refine r_nc (r_fo0 (r_ld 1 H5 rfl rfl ?_)); have hl1 := hu.lev1 (by omega); have hl9 := hu.lev; have hun := hu.unit; have hm1 : u.level * u.unit ≤ 9 * 100000 := Nat.mul_le_mul hl9 hun.2; have hm2 : 1 * 24 ≤ u.level * u.unit := Nat.mul_le_mul hl1 hun.1; refine r_mulE ((u.level * u.unit : Nat) : Int) (by simp) (by omega) (by omega) ?_; refine B20.NewReader_spec H5 (by omega) (by omega) fun q w6 S6 H6 => ?_; refine r_ex20 (r_ex21 ?_); refine r_nc (r_fo0 ?_); refine r_st 2 H6 rfl (by simp [usC]) rfl fun w7 S7 H7 => ?_; refine r_nc (r_fo0 ?_); refine r_st 2 H7 rfl (by simp [usC]) rfl fun w8 S8 H8 => ?_; replace H8 : Holds w8 (B20.BkR q (b0 (u.level * u.unit)) :: RdR r B d (at_ + 48) :: blk b tUs (usC (pt q) ⟨u.unit, 2, u.at_, u.level, some (b0 (u.level * u.unit)), u.last, u.frm, u.sum, u.total, u.ended⟩ 0) :: L) := H8; exact post _ _ ((((S2.trans S5).trans S6).trans S7).trans S8) ⟨rfl, rfl, UsR_close (hok _ _ _ rfl) (Raw_closeS (s := b0 (u.level * u.unit)) rfl (by have h_ := Holds.ord 3 [2, 0, 1] H8 rfl; exact h_))⟩
 · have h1' : ¬ hi * 16777216 + lo = 54156738319193 := by omega
   rw [if_neg h1'] at post; simp only [if_neg h1'] at hok; refine r_eql (r_ifE (fun h2 => ?_) fun h2 => ?_)
   · have h2' : hi * 16777216 + lo = 25779555029136 := by omega
     rw [if_pos h2'] at post; simp only [if_pos h2'] at hok; refine r_nc (r_fo0 ?_); refine r_st 1 H4 rfl (by simp [usC]) rfl fun w5 S5 H5 => ?_; exact post _ _ (S2.trans S5) ⟨rfl, rfl, UsR_close (hok _ _ _ rfl) (Raw_closeN hbn H5.swap)⟩
   · rw [if_neg (by omega)] at post; exact post _ _ S2 ⟨rfl, rfl, _, Holds.imp H4.swap fun _ hh => ⟨_, u, hh⟩⟩
theorem body_spec {s : BS} (H : Holds w (UsR b u :: RdR r B d at_ :: L)) (hb : u.blk = some s) (post : ∀ wt e w', Same w w' → AfterU (ubody u (rest B at_)) b u r B d at_ L wt e w' → K (.tuple #[iv wt, iv e]) w') :
   Cl Tryz.prog F.unstream_Reader_body #[pt b, pt r] w K := by
 refine Tie.unstream_Reader_body ?_; unfold Vcf.unstream_Reader_body; obtain ⟨hu, H⟩ := UsR_open H; obtain ⟨hd, hbo, hbd, hbr⟩ := hu.blk s hb; have hok : ∀ u' k n, ubody u (rest B at_) = .ok (u', k) n → u'.Ok := fun u' k n h => (ustep_ok hu (by unfold ustep; rw [if_neg (by omega), if_neg (by omega), if_pos hd]; exact h)).1
 have e0 : ubody u (rest B at_) = uwith u (bstep s (rest B at_)) := by unfold ubody; rw [hb]
 rw [e0] at post hok; obtain ⟨q, H0⟩ := Raw_openS hb H; have H1 : Holds w (B20.BkR q s :: RdR r B d at_ :: blk b tUs (usC (pt q) u 0) :: L) := (by have h_ := Holds.ord 3 [1, 2, 0] H0 rfl; exact h_); clear H H0; refine r_nc (r_fo0 (r_ld 2 H1 rfl rfl ?_)); refine B20.Step_spec H1 hbd fun e w2 S2 hA => ?_
 cases hx : bstep s (rest B at_) with
 | short =>
   rw [hx] at hA post; obtain ⟨rfl, H2⟩ := hA; refine r_join1 (fun x w' => w2 = w' ∧ x = .bool true) ?_ ?_
   · rintro _ _ _ ⟨rfl, rfl⟩; refine r_vt ?_; exact post 0 3 _ S2 ⟨rfl, rfl, UsR_close hu (Raw_closeS hb (by have h_ := Holds.ord 3 [2, 0, 1] H2 rfl; exact h_))⟩
   · refine r_neq (r_vtN (by decide) ?_); exact r_ke ⟨rfl, rfl⟩
 | bad c =>
   have hcb := bstep_bad hx; rw [hx] at hA post; obtain ⟨rfl, q', H2⟩ := hA; refine r_join1 (fun x w' => w2 = w' ∧ x = .bool true) ?_ ?_
   · rintro _ _ _ ⟨rfl, rfl⟩; refine r_vt ?_; exact post 0 c _ S2 ⟨rfl, rfl, q', Holds.imp (show Holds w2 (blk b tUs (usC (pt q) u 0) :: RdR r B d q' :: L) from (by have h_ := Holds.ord 3 [2, 1] H2 rfl; exact h_)) fun _ hh => ⟨_, u, hh⟩⟩
   · refine r_neq (r_vtN (by omega) ?_); exact r_ke ⟨rfl, rfl⟩
 | ok s' n =>
   rw [hx] at hA post hok; obtain ⟨rfl, H2⟩ := hA; refine r_join1 (fun x w' => w2 = w' ∧ x = .bool (!s'.done)) ?_ ?_
   rotate_left
   · refine r_neq (r_vfN rfl ?_); refine r_nc (r_fo0 (r_ld 2 H2 rfl rfl ?_)); refine B20.Done_spec H2 ?_; exact r_not (r_ke ⟨rfl, rfl⟩)
   rintro _ _ _ ⟨rfl, rfl⟩; unfold uwith at post hok
   cases hsd : s'.done with
   | false =>
     refine r_vt ?_; simp only [hsd, Bool.false_eq_true, if_false] at post hok; exact post 0 0 _ S2 ⟨rfl, rfl, UsR_close (hok _ _ _ rfl) (Raw_closeS (s := s') (q := q) rfl (by have h_ := Holds.ord 3 [2, 0, 1] H2 rfl; exact h_))⟩
   | true =>
     refine r_vf ?_; simp only [hsd, if_true] at post hok; have hok' := (B20.BkR_open H2).1; refine r_nc (r_fo0 (r_ld 2 H2 rfl rfl ?_)); refine B20.Got_done H2 hsd fun w3 S3 H3 => ?_; refine r_nc (r_fo0 ?_); refine r_stA 2 H3 (vs := [S_ s'.last, nv s'.frm, uv s'.sum]) rfl (by simp [usC]) rfl rfl fun w4 S4 H4 => ?_; refine r_nc (r_fo0 ?_); refine r_st 2 H4 rfl (by simp [usC, setL]) rfl fun w5 S5 H5 => ?_; refine r_dr H5 fun w6 S6 H6 => ?_; replace H6 : Holds w6 (B20.BkR q s' :: RdR r B d (at_ + n) :: blk b tUs [nv u.unit, nv u.due, nv u.at_, nv u.level, .pointer none, S_ s'.last, nv s'.frm, uv s'.sum, uv u.total, .bool u.ended, nv 0] :: L) := H6; refine r_nc (r_fo0 (r_ld 2 H6 rfl rfl ?_)); refine r_nc (r_fo0 (r_fo (r_ld 2 H6 rfl rfl ?_))); refine Combine_spec hu.total hok'.sum ?_; refine r_nc (r_fo0 ?_); refine r_st 2 H6 rfl (by simp) rfl fun w7 S7 H7 => ?_; refine r_nc (r_fo0 ?_); refine r_st 2 H7 rfl (by simp) rfl fun w8 S8 H8 => ?_; replace H8 : Holds w8 (B20.BkR q s' :: RdR r B d (at_ + n) :: blk b tUs (usC (.pointer none) ⟨u.unit, 1, u.at_, u.level, none, s'.last, s'.frm, s'.sum, comb u.total s'.sum, u.ended⟩ 0) :: L) := H8; exact post 1 0 _ ((((((S2.trans S3).trans S4).trans S5).trans S6).trans S7).trans S8) ⟨rfl, rfl, UsR_close (hok _ _ _ rfl) (Raw_closeN rfl (by have h_ := Holds.ord 3 [2, 1] H8 rfl; exact h_))⟩
theorem sum_spec (H : Holds w (UsR b u :: RdR r B d at_ :: L)) (hd : u.due = 3) (post : ∀ wt e w', Same w w' → AfterU (usum u (rest B at_)) b u r B d at_ L wt e w' → K (.tuple #[iv wt, iv e]) w') :
   Cl Tryz.prog F.unstream_Reader_sum #[pt b, pt r] w K := by
 refine Tie.unstream_Reader_sum ?_; unfold Vcf.unstream_Reader_sum; obtain ⟨hu, H⟩ := UsR_open H; have hbn := hu.none_ (by omega); have hok : ∀ u' k n, usum u (rest B at_) = .ok (u', k) n → u'.Ok := fun u' k n h => (ustep_ok hu (by unfold ustep; rw [if_neg (by omega), if_neg (by omega), if_neg (by omega)]; exact h)).1; have H1 := (Raw_openN hbn H).swap; clear H; have hrl := rest_len B at_; unfold usum at post hok; refine Rb.Get_spec (n := 32) H1 (by omega) (fun h w2 S2 H2 => ?_) fun h w2 S2 H2 => ?_
 · refine r_ex20 (r_ex21 ?_); refine r_neq (r_vtN (by decide) ?_); rw [if_pos h] at post; exact post 0 3 _ S2 ⟨rfl, rfl, UsR_close hu (Raw_closeN hbn H2.swap)⟩
 refine r_ex20 (r_ex21 ?_); refine r_neq (r_vfN rfl ?_)
 have h32 : ¬ (rest B at_).length < 32 := by omega
 rw [if_neg h32] at post; simp only [if_neg h32] at hok; refine r_nc (r_fo0 (r_ld 1 H2 rfl rfl ?_)); refine r_neq (r_ifN (fun h1 => ?_) fun h1 => ?_)
 · rw [if_neg (by omega)] at post; exact post 0 21 _ S2 ⟨rfl, rfl, _, Holds.imp H2.swap fun _ hh => ⟨_, u, hh⟩⟩
 · have h1' : valB ((rest B at_).take 32) = u.total := by omega
   rw [if_pos h1'] at post; simp only [if_pos h1'] at hok; refine Rb.Align_spec H2 fun w3 S3 H3 => ?_
   have ea : at_ + 32 + (8 * B.length - (at_ + 32)) % 8 = at_ + (32 + ((rest B at_).length - 32) % 8) := by rw [hrl]; omega
   rw [ea] at H3; refine r_nc (r_fo0 ?_); refine r_st 1 H3 rfl (by simp [usC]) rfl fun w4 S4 H4 => ?_; refine r_nc (r_fo0 ?_); refine r_st 1 H4 rfl (by simp [usC]) rfl fun w5 S5 H5 => ?_; exact post 2 0 _ (((S2.trans S3).trans S4).trans S5) ⟨rfl, rfl, UsR_close (hok _ _ _ rfl) (Raw_closeN hbn H5.swap)⟩
theorem step_spec (H : Holds w (UsR b u :: RdR r B d at_ :: L)) (post : ∀ wt e w', Same w w' → AfterU (ustep u (rest B at_)) b u r B d at_ L wt e w' → K (.tuple #[iv wt, iv e]) w') :
   Cl Tryz.prog F.unstream_Reader_step #[pt b, pt r] w K := by
 refine Tie.unstream_Reader_step ?_; unfold Vcf.unstream_Reader_step; have hu := (UsR_open H).1; have hd3 := hu.due; have H0 := (UsR_open H).2
 have hc : ∃ p L', Holds w (blk b tUs (usC p u 0) :: L') := by
   cases hb : u.blk with
   | none => exact ⟨_, _, Raw_openN hb H0⟩
   | some s =>
     obtain ⟨q, h⟩ := Raw_openS hb H0; exact ⟨_, _, h⟩
 obtain ⟨p, L', H1⟩ := hc; unfold ustep at post; refine r_nc (r_fo0 (r_ld 0 H1 rfl rfl ?_)); refine r_eql (r_ifE (fun h => ?_) fun h => ?_)
 · rw [if_pos (by omega)] at post; exact letter_spec H (by omega) fun e w' S' hA => post 0 e w' S' hA
 rw [if_neg (by omega)] at post; refine r_eql (r_ifE (fun h1 => ?_) fun h1 => ?_)
 · rw [if_pos (by omega)] at post; exact magic_spec H (by omega) fun e w' S' hA => post 0 e w' S' hA
 rw [if_neg (by omega)] at post; refine r_eql (r_ifE (fun h2 => ?_) fun h2 => ?_)
 · rw [if_pos (by omega)] at post
   cases hb : u.blk with
   | none => exact absurd hb (hu.body (by omega))
   | some s =>
     refine body_spec H hb fun wt e w' S' hA => ?_; refine r_ex20 (r_ex21 ?_); exact post wt e w' S' hA
 · rw [if_neg (by omega)] at post; refine sum_spec H (by omega) fun wt e w' S' hA => ?_; refine r_ex20 (r_ex21 ?_); exact post wt e w' S' hA
def AfterUS (y : Res (US × Nat)) (b : Nat) (u : US) (r : Nat) (B : List UInt8) (d at_ : Nat) (L : List HProp) (wt e : Int) (w : World) : Prop :=
 match y with
 | .short => wt = 0 ∧ e = 3 ∧ Holds w (UsR b u :: RdR r B d at_ :: L)
 | .bad c => wt = 0 ∧ e = (c : Int) ∧ ∃ q, Holds w (BadU b c :: RdR r B d q :: L)
 | .ok (u', k) n => wt = (k : Int) ∧ e = 0 ∧ Holds w (UsR b u' :: RdR r B d (at_ + n) :: L)
theorem Us_cells (H : Holds w (UsR b u :: L)) : ∃ p L', Holds w (blk b tUs (usC p u 0) :: L') ∧ ∀ w', Holds w' (blk b tUs (usC p u 0) :: L') → Holds w' (UsR b u :: L) := by
 obtain ⟨hu, H0⟩ := UsR_open H
 cases hb : u.blk with
 | none => exact ⟨_, _, Raw_openN hb H0, fun w' H' => UsR_close hu (Raw_closeN hb H')⟩
 | some s =>
   obtain ⟨q, h⟩ := Raw_openS hb H0; exact ⟨_, _, h, fun w' H' => UsR_close hu (Raw_closeS hb H')⟩
theorem Step_spec (H : Holds w (UsR b u :: RdR r B d at_ :: L)) (post : ∀ wt e w', Same w w' → AfterUS (ustep u (rest B at_)) b u r B d at_ L wt e w' → K (.tuple #[iv wt, iv e]) w') :
   Cl Tryz.prog F.unstream_Reader_Step #[pt b, pt r] w K := by
 refine Tie.unstream_Reader_Step ?_; unfold Vcf.unstream_Reader_Step; have hu := (UsR_open H).1; obtain ⟨p, L', H1, _⟩ := Us_cells H; refine r_join1 (fun x w' => w = w' ∧ x = .bool false) ?_ ?_
 rotate_left
 · refine r_bnSF (r_vf ?_); refine r_bnSF ?_; exact r_ke ⟨rfl, rfl⟩
 rintro _ _ _ ⟨rfl, rfl⟩; refine r_vf ?_; refine r_nc (r_fo0 (r_ld 0 H1 rfl rfl ?_)); refine r_neq (r_vfN rfl ?_); refine step_spec H fun wt e w2 S2 hA => ?_; refine r_ex20 (r_ex21 ?_)
 cases hx : ustep u (rest B at_) with
 | short =>
   rw [hx] at hA post; obtain ⟨rfl, rfl, H2⟩ := hA; refine r_neq (r_vfN rfl ?_); exact post _ _ _ S2 ⟨rfl, rfl, H2⟩
 | bad c =>
   have hcb := ustep_bad hu hx; rw [hx] at hA post; obtain ⟨rfl, rfl, q, H2⟩ := hA; refine r_neq (r_vtN (by omega) ?_); obtain ⟨p2, u2, H3⟩ := BadU_open H2; refine r_nc (r_fo0 ?_); refine r_st 0 H3 rfl (by simp [usC]) rfl fun w4 S4 H4 => ?_; exact post _ _ _ (S2.trans S4) ⟨rfl, rfl, q, Holds.imp H4 fun _ hh => ⟨p2, u2, hh⟩⟩
 | ok y n =>
   obtain ⟨u', k⟩ := y; rw [hx] at hA post; obtain ⟨rfl, rfl, H2⟩ := hA; refine r_neq (r_vtN (by decide) ?_); obtain ⟨p2, L2, H3, hback⟩ := Us_cells H2; refine r_nc (r_fo0 ?_); refine r_st 0 H3 rfl (by simp [usC]) rfl fun w4 S4 H4 => ?_; exact post _ _ _ (S2.trans S4) ⟨rfl, rfl, hback _ H4⟩
theorem StepBad_spec {e : Nat} (H : Holds w (BadU b e :: L)) (he : e ≠ 0) (k : ∀ w', Same w w' → Holds w' (BadU b e :: L) → K (.tuple #[iv 0, nv e]) w') : Cl Tryz.prog F.unstream_Reader_Step #[pt b, pt r] w K := by
 refine Tie.unstream_Reader_Step ?_; unfold Vcf.unstream_Reader_Step; obtain ⟨p, u, H1⟩ := BadU_open H; refine r_join1 (fun x w' => w = w' ∧ x = .bool false) ?_ ?_
 rotate_left
 · refine r_bnSF (r_vf ?_); refine r_bnSF ?_; exact r_ke ⟨rfl, rfl⟩
 rintro _ _ _ ⟨rfl, rfl⟩; refine r_vf ?_; refine r_nc (r_fo0 (r_ld 0 H1 rfl rfl ?_)); refine r_neq (r_vtN (by omega) ?_); refine r_dr H1 fun w2 S2 H2 => ?_; refine r_nc (r_fo0 (r_ld 0 H2 rfl rfl ?_)); exact k _ S2 (Holds.imp H2 fun _ hh => ⟨p, u, hh⟩)
theorem MayEnd_spec (H : Holds w (UsR b u :: L)) (k : K (.bool u.mayEnd) w) : Cl Tryz.prog F.unstream_Reader_MayEnd #[pt b] w K := by
 refine Tie.unstream_Reader_MayEnd ?_; unfold Vcf.unstream_Reader_MayEnd; obtain ⟨p, L', H1, _⟩ := Us_cells H; unfold US.mayEnd at k; refine r_bnST (r_vt ?_); refine r_nc (r_fo0 (r_ld 0 H1 rfl rfl ?_))
 cases he : u.ended with
 | false =>
   rw [he] at k; refine r_vf ?_; exact k
 | true =>
   rw [he] at k; refine r_vt ?_; refine r_nc (r_fo0 (r_ld 0 H1 rfl rfl ?_)); refine r_eql (r_ifE (fun h => ?_) fun h => ?_)
   · refine r_nc (r_fo0 (r_ld 0 H1 rfl rfl ?_)); refine r_eql (r_ifE (fun h2 => ?_) fun h2 => ?_)
     · refine r_nc (r_fo0 (r_ld 0 H1 rfl rfl ?_)); refine r_eql ?_; rw [decide_eq_true (by omega), decide_eq_true (by omega)] at k; exact k
     · rw [decide_eq_false (p := u.at_ = 0) (by omega), Bool.and_false] at k; exact k
   · rw [decide_eq_false (p := u.due = 0) (by omega), Bool.and_false, Bool.false_and] at k; exact k
theorem MayEndBad_spec {e : Nat} (H : Holds w (BadU b e :: L)) (he : e ≠ 0) (k : K (.bool false) w) : Cl Tryz.prog F.unstream_Reader_MayEnd #[pt b] w K := by
 refine Tie.unstream_Reader_MayEnd ?_; unfold Vcf.unstream_Reader_MayEnd; obtain ⟨p, u, H1⟩ := BadU_open H; refine r_bnST (r_vt ?_); refine r_nc (r_fo0 (r_ld 0 H1 rfl rfl ?_))
 cases u.ended with
 | false =>
   refine r_vf ?_; exact k
 | true =>
   refine r_vt ?_; refine r_nc (r_fo0 (r_ld 0 H1 rfl rfl ?_)); refine r_eql (r_ifE (fun h => ?_) fun h => ?_)
   · refine r_nc (r_fo0 (r_ld 0 H1 rfl rfl ?_)); refine r_eql (r_ifE (fun h2 => ?_) fun h2 => ?_)
     · refine r_nc (r_fo0 (r_ld 0 H1 rfl rfl ?_)); refine r_eql ?_; rw [show ((e : Int) == 0) = false from beq_eq_false_iff_ne.2 (by omega)]; exact k
     · exact k
   · exact k
theorem Got_spec (H : Holds w (UsR b u :: L)) (k : ∀ w', Same w w' → Holds w' (UsR b u :: L) → K (.agg (B20.gotV u.last u.frm u.sum).toArray) w') : Cl Tryz.prog F.unstream_Reader_Got #[pt b] w K := by
 refine Tie.unstream_Reader_Got ?_; unfold Vcf.unstream_Reader_Got; refine r_new H fun gb w1 S1 H1 => ?_; rw [B20.got_zero] at H1; obtain ⟨p, L', H2, hback⟩ := Us_cells H1.swap; refine r_bnSF (r_vf ?_); refine r_nc (r_fo0 ?_); refine r_ldA 0 H2 (B20.gotV u.last u.frm u.sum) rfl rfl rfl ?_; refine r_stA 0 H1 (vs := B20.gotV u.last u.frm u.sum) rfl (Nat.le_refl 3) rfl rfl fun w4 S4 H4 => ?_; replace H4 : Holds w4 (blk gb B20.tGt (B20.gotV u.last u.frm u.sum) :: UsR b u :: L) := H4; refine r_ldA 0 H4 (B20.gotV u.last u.frm u.sum) rfl rfl rfl ?_; exact k _ (S1.trans S4) H4.drop
theorem Held_none (H : Holds w (UsR b u :: L)) (hb : u.blk = none) (k : K (iv 0) w) : Cl Tryz.prog F.unstream_Reader_Held #[pt b] w K := by
 refine Tie.unstream_Reader_Held ?_; unfold Vcf.unstream_Reader_Held; have H1 := Raw_openN hb (UsR_open H).2; refine r_bnSF (r_vf ?_); refine r_nc (r_fo0 (r_ld 0 H1 rfl rfl ?_)); refine Tie.block_Reader_Held ?_; unfold Vcf.block_Reader_Held; refine r_bnNT (r_vt ?_); exact k
theorem Room_spec {n : Int} (kb : n < 24 ∨ 100000 < n → K (.tuple #[iv 0, iv 1]) w) (k : ∀ v, 24 ≤ n → n ≤ 100000 → K (.tuple #[v, iv 0]) w) : Cl Tryz.prog F.split_Room #[iv 1, iv n] w K := by
 refine Tie.split_Room ?_; unfold Vcf.split_Room; refine r_join1 (fun x w' => w = w' ∧ x = .bool (decide (n < 24 ∨ 100000 < n))) ?_ ?_
 rotate_left
 · refine r_lss (r_vfD (by omega) ?_); refine r_gtr (r_vfD (by omega) ?_); refine r_lss (r_ifD (fun h => ?_) fun h => ?_)
   · exact r_ke ⟨rfl, by rw [decide_eq_true (by omega)]⟩
   · exact r_gtr (r_ke ⟨rfl, congrArg Value.bool (by rw [Bool.eq_iff_iff, decide_eq_true_iff, decide_eq_true_iff]; omega)⟩)
 rintro _ _ _ ⟨rfl, rfl⟩; refine r_ifD (fun h => ?_) fun h => ?_
 · exact kb h
 · refine r_mulE n (by omega) (by omega) (by omega) ?_; refine r_sub (by omega) (by omega) ?_; exact k _ (by omega) (by omega)
theorem New_spec {n : Nat} (H : Holds w L) (h1 : 24 ≤ n) (h2 : n ≤ 100000) (k : ∀ b w', Same w w' → Holds w' (UsR b (u0 n) :: L) → K (.tuple #[pt b, iv 0]) w') : Cl Tryz.prog F.unstream_New #[nv n] w K := by
 refine Tie.unstream_New ?_; unfold Vcf.unstream_New; refine Room_spec (fun h => by omega) fun v _ _ => ?_; refine r_ex20 (r_ex21 ?_); refine r_neq (r_vfN rfl ?_); refine r_bd (v := .agg (usC (.pointer none) (u0 n) 0).toArray) (by kernel_rfl) ?_; refine r_new H fun b w1 S1 H1 => ?_; exact k b _ S1 (UsR_close (u0_ok ⟨h1, h2⟩) (Raw_closeN rfl H1))
end U22
end Go.Proofs.YtlppejfnjhkbpaaGreat
