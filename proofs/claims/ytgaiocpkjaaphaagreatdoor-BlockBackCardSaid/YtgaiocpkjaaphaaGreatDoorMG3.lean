/- Several texts in one: Mk, Q20, Q21, Q22, Q23, Ma, W20, W17, U18, K18, L18, B18, A18, P36, P37, P20, P32, P2l, P34, P24, P25, P14, P33, P38, W2w, Y20, W02, B20, B21, B2r, M03, M3d, Me, M20. -/
import Derived.Test.YtgaiocpkjaaphaaGreatDoorMG0
import Derived.Test.YtgaiocpkjaaphaaGreatDoorMG2
import Derived.Test.YtgaiocpkjaaphaaGreatDoorMG1
import Derived.Test.YtgaiocpkjaaphaaGreatDoorFm
import Derived.DataShut
set_option linter.unusedVariables false
set_option linter.unusedSimpArgs false
namespace Go.Mk
open Go.M01 Go.Mb Go.Mp Go.M10 Go.Mc Go.Mz
structure RS where
 code : CS
 zeros : ZS
 list : List UInt8
 due : Nat
 place : Nat
structure BS where
 room : Nat
 head : Bool
 sum : Nat
 frm : Nat
 row : Option RS
 last : List UInt8
 done : Bool
def b0 (room : Nat) : BS := ⟨room, false, 0, 0, none, [], false⟩
def rowOf (T : Nat -> Bool) (room : Nat) : RS := ⟨c0 ((listed T).length + 2), z0 (listed T).length room, listed T, 0, 0⟩
def RS.waits (r : RS) : Bool := decide (0 < r.due) || decide (0 < r.place)
def RS.at_ (r : RS) : Nat := if 0 < r.due then 0 else r.place
def RS.next (r : RS) : RS := ⟨r.code, r.zeros, frontB r.list r.at_, r.due - 1, if 0 < r.due then r.place else 0⟩
def RS.byte (r : RS) : UInt8 := r.list.getD r.at_ 0
def bend (b : BS) (k : Nat) : Res BS :=
 match b.row with
 | none => .ok b k
 | some r => if r.code.done = false \/ r.waits = true then .ok b k
  else if b.last.length <= b.frm then .bad 23
  else .ok ⟨b.room, b.head, b.sum, b.frm, b.row, b.last, true⟩ k
def btold (b : BS) (r : RS) (c : CS) (s k : Nat) : Res BS :=
 match zput r.zeros s with
 | none => .bad 25
 | some (z, d, p) => bend ⟨b.room, b.head, b.sum, b.frm, some ⟨c, z, r.list, d, p.toNat⟩, b.last, b.done⟩ k
def bsym (b : BS) (r : RS) : Res (CS × Option Nat) -> Res BS
 | .short => .short
 | .bad e => .bad e
 | .ok (c, none) k => bend ⟨b.room, b.head, b.sum, b.frm, some ⟨c, r.zeros, r.list, r.due, r.place⟩, b.last, b.done⟩ k
 | .ok (c, some s) k => btold b r c s k
def buse (b : BS) : Res (Nat -> Bool) -> Res BS
 | .short => .short
 | .bad e => .bad e
 | .ok T k => bend ⟨b.room, b.head, b.sum, b.frm, some (rowOf T b.room), b.last, b.done⟩ k
def bhead (b : BS) (l : List Bool) : Res BS :=
 if l.length < 57 then .short
 else if valB ((l.drop 32).take 1) = 1 then .bad 25
 else bend ⟨b.room, true, valB (l.take 32), valB ((l.drop 33).take 24), b.row, b.last, b.done⟩ 57
def bnext (b : BS) (r : RS) : Res BS := bend ⟨b.room, b.head, b.sum, b.frm, some r.next, b.last ++ [r.byte], b.done⟩ 0
def bstep (b : BS) (l : List Bool) : Res BS :=
 if b.head = false then bhead b l
 else match b.row with
  | none => buse b (uread l)
  | some r => if r.waits = true then bnext b r else bsym b r (cstep r.code l)
structure RS.Ok (r : RS) : Prop where
 code : r.code.Ok
 zeros : r.zeros.Ok
 zd : r.zeros.done = r.code.done
 size : r.code.size = r.zeros.n + 2
 list : r.list.length = r.zeros.n
 place : r.place < r.zeros.n
structure BS.Ok (b : BS) : Prop where
 room : b.room <= 900000
 sum : b.sum < 4294967296
 frm : b.frm < 16777216
 none_ : b.row = none -> b.last = [] /\ b.done = false
 some_ : ∀ r, b.row = some r -> b.head = true /\ r.Ok /\ r.zeros.most = b.room /\ b.last.length + r.due + (if 0 < r.place then 1 else 0) = r.zeros.told /\ (b.done = false -> r.code.done = true -> r.waits = true)
theorem b0_ok {n : Nat} (h : n <= 900000) : (b0 n).Ok := ⟨h, by simp [b0], by simp [b0], fun _ => ⟨rfl, rfl⟩, fun r h => by simp [b0] at h⟩
theorem rowOf_ok {T : Nat -> Bool} {room : Nat} (hT : listed T ≠ []) (hr : room <= 900000) : (rowOf T room).Ok := by
 have h1 := listed_len T; have h2 : 0 < (listed T).length := List.length_pos_iff.2 hT; exact ⟨c0_ok (by omega) (by omega), z0_ok (by omega) h1 hr, rfl, rfl, rfl, h2⟩
structure Pre (b : BS) : Prop where
 room : b.room <= 900000
 sum : b.sum < 4294967296
 frm : b.frm < 16777216
 none_ : b.row = none -> b.last = []
 some_ : ∀ r, b.row = some r -> b.head = true /\ r.Ok /\ r.zeros.most = b.room /\ b.last.length + r.due + (if 0 < r.place then 1 else 0) = r.zeros.told
 done : b.done = false
theorem bend_ok {b b' : BS} {k k' : Nat} (hp : Pre b) (h : bend b k = .ok b' k') : b'.Ok /\ k' = k := by
 unfold bend at h; split at h
 ·rename_i hr; cases h; exact ⟨⟨hp.room, hp.sum, hp.frm, fun h => ⟨hp.none_ h, hp.done⟩, fun r h => (by rw [hr] at h; cases h)⟩, rfl⟩
 ·rename_i r hr; have hs := hp.some_ r hr; split at h
  ·rename_i hc; cases h; refine ⟨⟨hp.room, hp.sum, hp.frm, fun h => (by rw [hr] at h; cases h), fun r' h => ?_⟩, rfl⟩; rw [hr] at h; cases h; refine ⟨hs.1, hs.2.1, hs.2.2.1, hs.2.2.2, fun _ h2 => ?_⟩; rcases hc with h3 | h3
   ·rw [h2] at h3; cases h3
   ·exact h3
  ·split at h
   ·cases h
   ·cases h; refine ⟨⟨hp.room, hp.sum, hp.frm, fun h => (by simp only [hr] at h; cases h), fun r' h => ?_⟩, rfl⟩; simp only [hr] at h; cases h; exact ⟨hs.1, hs.2.1, hs.2.2.1, hs.2.2.2, fun h => by cases h⟩
theorem next_pre {b : BS} {r : RS} (hb : b.Ok) (hd : b.done = false) (hr : b.row = some r) (hw : r.waits = true) : Pre ⟨b.room, b.head, b.sum, b.frm, some r.next, b.last ++ [r.byte], b.done⟩ := by
 obtain ⟨h1, h2, h3, h4, h5⟩ := hb.some_ r hr; refine ⟨hb.room, hb.sum, hb.frm, fun h => (by cases h), fun r' h => ?_, hd⟩; cases h; have hp := h2.place
 have hat : r.at_ < r.list.length := by
  have := h2.list; unfold RS.at_
  split <;> omega
 refine ⟨h1, ⟨h2.code, h2.zeros, h2.zd, h2.size, by rw [RS.next, frontB_len hat]; exact h2.list, ?_⟩, h3, ?_⟩
 ·simp only [RS.next]; split <;> omega
 ·unfold RS.waits at hw; simp only [Bool.or_eq_true, decide_eq_true_iff] at hw; show (b.last ++ [r.byte]).length + (r.due - 1) + (if 0 < r.next.place then 1 else 0) = r.zeros.told; rw [List.length_append, List.length_singleton]
  by_cases h0 : 0 < r.due
  ·have e : r.next.place = r.place := by simp [RS.next, h0]
   simp only [e]; omega
  ·have hpl : 0 < r.place := by omega
   have e : r.next.place = 0 := by simp [RS.next, h0]
   rw [if_pos hpl] at h4; simp only [e, Nat.lt_irrefl, if_false]; omega
theorem told_pre {b : BS} {r : RS} {c : CS} {z : ZS} {s d k : Nat} {p : Int} {l : List Bool} (hb : b.Ok) (hd : b.done = false) (hr : b.row = some r) (hw : r.waits = false)
  (hc : cstep r.code l = .ok (c, some s) k) (hz : zput r.zeros s = some (z, d, p)) : Pre ⟨b.room, b.head, b.sum, b.frm, some ⟨c, z, r.list, d, p.toNat⟩, b.last, b.done⟩ := by
 obtain ⟨h1, h2, h3, h4, h5⟩ := hb.some_ r hr; have hco := cstep_ok hc h2.code; have hzo := zput_ok h2.zeros hz; have hsz := h2.size; have hs := hco.2.2 s rfl
 have hcd : c.done = decide (s = r.code.size - 1) := by
  unfold cstep at hc; split at hc
  ·unfold withPicks at hc
   split at hc <;> cases hc
  ·split at hc
   ·unfold withLens at hc
    repeat' split at hc
    all_goals cases hc
   ·split at hc
    ·cases hc
    ·unfold withSymbol at hc; split at hc
     ·cases hc
     ·cases hc; rfl
 unfold RS.waits at hw; simp only [Bool.or_eq_false_iff, decide_eq_false_iff_not] at hw; rw [if_neg hw.2] at h4; refine ⟨hb.room, hb.sum, hb.frm, fun h => (by cases h), fun r' h => ?_, hd⟩; cases h; unfold zput at hz; have hn1 := h2.zeros.n1; split at hz
 ·rename_i hc1; split at hz
  ·cases hz
  ·cases hz; refine ⟨h1, ⟨hco.1, hzo, ?_, by rw [hco.2.1]; exact hsz, h2.list, by simp only; omega⟩, h3, ?_⟩
   ·rw [hcd]; simp only; exact (decide_eq_false (by omega)).symm
   ·simp only [show ((-1 : Int)).toNat = 0 from rfl, Nat.lt_irrefl, if_false]; omega
 ·rename_i hc1; split at hz
  ·rename_i hc2; cases hz; refine ⟨h1, ⟨hco.1, hzo, ?_, by rw [hco.2.1]; exact hsz, h2.list, by simp only; omega⟩, h3, ?_⟩
   ·rw [hcd]; simp only; exact (decide_eq_true (by omega)).symm
   ·simp only [show ((-1 : Int)).toNat = 0 from rfl, Nat.lt_irrefl, if_false]; omega
  ·rename_i hc2; split at hz
   ·cases hz
   ·cases hz; refine ⟨h1, ⟨hco.1, hzo, ?_, by rw [hco.2.1]; exact hsz, h2.list, by simp only; omega⟩, h3, ?_⟩
    ·rw [hcd]; simp only; exact (decide_eq_false (by omega)).symm
    ·simp only; rw [if_pos (by omega)]; omega
theorem code_none {c c' : CS} {l : List Bool} {k : Nat} (h : cstep c l = .ok (c', none) k) : c'.done = c.done := by
 unfold cstep at h; split at h
 ·unfold withPicks at h
  split at h <;> cases h
  rfl
 ·split at h
  ·unfold withLens at h
   repeat' split at h
   all_goals cases h
   all_goals rfl
  ·split at h
   ·cases h
   ·unfold withSymbol at h
    split at h <;> cases h
theorem sym_pre {b : BS} {r : RS} {c : CS} {k : Nat} {l : List Bool} (hb : b.Ok) (hd : b.done = false) (hr : b.row = some r) (hc : cstep r.code l = .ok (c, none) k) :
  Pre ⟨b.room, b.head, b.sum, b.frm, some ⟨c, r.zeros, r.list, r.due, r.place⟩, b.last, b.done⟩ := by
 obtain ⟨h1, h2, h3, h4, h5⟩ := hb.some_ r hr; have hco := cstep_ok hc h2.code; refine ⟨hb.room, hb.sum, hb.frm, fun h => (by cases h), fun r' h => ?_, hd⟩; cases h; exact ⟨h1, ⟨hco.1, h2.zeros, by rw [code_none hc]; exact h2.zd, by rw [hco.2.1]; exact h2.size, h2.list, h2.place⟩, h3, h4⟩
theorem use_pre {b : BS} {T : Nat -> Bool} (hb : b.Ok) (hh : b.head = true) (hr : b.row = none) (hT : listed T ≠ []) : Pre ⟨b.room, b.head, b.sum, b.frm, some (rowOf T b.room), b.last, b.done⟩ := by
 have hn := hb.none_ hr; refine ⟨hb.room, hb.sum, hb.frm, fun h => (by cases h), fun r' h => ?_, hn.2⟩; cases h; exact ⟨hh, rowOf_ok hT hb.room, rfl, by rw [hn.1]; rfl⟩
theorem head_pre {b : BS} {s f : Nat} (hb : b.Ok) (hh : b.head = false) (hs : s < 4294967296) (hf : f < 16777216) : b.row = none /\ Pre ⟨b.room, true, s, f, b.row, b.last, b.done⟩ := by
 have hr : b.row = none := by
  cases hr : b.row with
  | none => rfl
  | some r => have := (hb.some_ r hr).1; rw [hh] at this; cases this
 have hn := hb.none_ hr; exact ⟨hr, hb.room, hs, hf, fun _ => hn.1, fun r h => (by simp only at h; rw [hr] at h; cases h), hn.2⟩
theorem waits_or {b : BS} {r : RS} (hb : b.Ok) (hd : b.done = false) (hr : b.row = some r) (hw : r.waits = false) : r.code.done = false := by
 cases hc : r.code.done with
 | false => rfl
 | true =>
  have := (hb.some_ r hr).2.2.2.2 hd hc; rw [hw] at this; cases this
theorem bend_bad {b : BS} {k e : Nat} (h : bend b k = .bad e) : e = 23 := by
 unfold bend at h; split at h
 ·cases h
 ·split at h
  ·cases h
  ·split at h
   ·cases h; rfl
   ·cases h
theorem bstep_bad {b : BS} {l : List Bool} {e : Nat} (h : bstep b l = .bad e) : e = 22 \/ e = 23 \/ e = 25 := by
 unfold bstep at h; split at h
 ·unfold bhead at h; split at h
  ·cases h
  ·split at h
   ·cases h; exact .inr (.inr rfl)
   ·exact .inr (.inl (bend_bad h))
 ·split at h
  ·unfold buse at h; split at h
   ·cases h
   ·rename_i hu; cases h; exact .inr (.inr (uread_bad hu))
   ·exact .inr (.inl (bend_bad h))
  ·split at h
   ·exact .inr (.inl (bend_bad h))
   ·unfold bsym at h; split at h
    ·cases h
    ·rename_i hu; cases h; rcases cstep_bad hu with h | h
     ·exact .inl h
     ·exact .inr (.inr h)
    ·exact .inr (.inl (bend_bad h))
    ·unfold btold at h; split at h
     ·cases h; exact .inr (.inr rfl)
     ·exact .inr (.inl (bend_bad h))
end Go.Mk
namespace Go.Q20
open Go.M01 Go.Mb Go.Mp Go.M10 Go.Mc Go.Mz Go.Mk
section
variable {σ : Type} {step : σ -> List Bool -> Res σ} {done : σ -> Bool} {s0 : σ} {l : List Bool}
inductive RunN (step : σ -> List Bool -> Res σ) (done : σ -> Bool) (s0 : σ) (l : List Bool) : Nat -> σ -> Nat -> Prop
 | start : RunN step done s0 l 0 s0 0
 | next {i : Nat} {s s' : σ} {k n : Nat} (h : RunN step done s0 l i s k) (hd : done s = false) (hs : step s (l.drop k) = .ok s' n) : RunN step done s0 l (i + 1) s' (k + n)
def Run (step : σ -> List Bool -> Res σ) (done : σ -> Bool) (s0 : σ) (l : List Bool) (s : σ) (k : Nat) : Prop := ∃ i, RunN step done s0 l i s k
theorem Run.start : Run step done s0 l s0 0 := ⟨0, .start⟩
theorem Run.next {s s' : σ} {k n : Nat} (h : Run step done s0 l s k) (hd : done s = false) (hs : step s (l.drop k) = .ok s' n) : Run step done s0 l s' (k + n) := by
 obtain ⟨i, h⟩ := h; exact ⟨i + 1, .next h hd hs⟩
def Stop (step : σ -> List Bool -> Res σ) (done : σ -> Bool) (l : List Bool) (s : σ) (k : Nat) : Prop := done s = false -> ∀ s' n, step s (l.drop k) ≠ .ok s' n
theorem RunN.det {i : Nat} {s : σ} {k : Nat} (h : RunN step done s0 l i s k) : ∀ {s2 : σ} {k2 : Nat}, RunN step done s0 l i s2 k2 -> s = s2 /\ k = k2 := by
 induction h with
 | start => intro s2 k2 h2; cases h2; exact ⟨rfl, rfl⟩
 | next h hd hs ih =>
  intro s2 k2 h2
  cases h2 with
  | next h' hd' hs' =>
   obtain ⟨rfl, rfl⟩ := ih h'; rw [hs] at hs'; cases hs'; exact ⟨rfl, rfl⟩
theorem RunN.prefix_ {m : Nat} {s : σ} {k : Nat} (h : RunN step done s0 l m s k) : ∀ {i : Nat}, i < m -> ∃ s1 k1, RunN step done s0 l i s1 k1 /\ ¬ Stop step done l s1 k1 := by
 induction h with
 | start => intro i hi; omega
 | next h hd hs ih =>
  rename_i j s s' k n; intro i hi; rcases Nat.lt_or_ge i j with h1 | h1
  ·exact ih h1
  ·have : i = j := by omega
   subst this; exact ⟨s, k, h, fun hst => hst hd _ _ hs⟩
theorem RunN.stop_eq {i m : Nat} {s s2 : σ} {k k2 : Nat} (h : RunN step done s0 l i s k) (hs : Stop step done l s k) (h2 : RunN step done s0 l m s2 k2) (hs2 : Stop step done l s2 k2) : i = m /\ s = s2 /\ k = k2 := by
 rcases Nat.lt_trichotomy i m with h1 | h1 | h1
 ·obtain ⟨s1, k1, h3, h4⟩ := h2.prefix_ h1; obtain ⟨rfl, rfl⟩ := h.det h3; exact absurd hs h4
 ·subst h1; exact ⟨rfl, h.det h2⟩
 ·obtain ⟨s1, k1, h3, h4⟩ := h.prefix_ h1; obtain ⟨rfl, rfl⟩ := h2.det h3; exact absurd hs2 h4
theorem Run.stop_eq {s s2 : σ} {k k2 : Nat} (h : Run step done s0 l s k) (hs : Stop step done l s k) (h2 : Run step done s0 l s2 k2) (hs2 : Stop step done l s2 k2) : s = s2 /\ k = k2 := by
 obtain ⟨i, h⟩ := h; obtain ⟨m, h2⟩ := h2; exact (h.stop_eq hs h2 hs2).2
theorem stop_done {s : σ} {k : Nat} (h : done s = true) : Stop step done l s k := fun h2 => by rw [h] at h2; cases h2
theorem stop_short {s : σ} {k : Nat} (h : step s (l.drop k) = .short) : Stop step done l s k := fun _ s' n h2 => by rw [h] at h2; cases h2
theorem stop_bad {s : σ} {k e : Nat} (h : step s (l.drop k) = .bad e) : Stop step done l s k := fun _ s' n h2 => by rw [h] at h2; cases h2
theorem Run.trans {s : σ} {k : Nat} (h : Run step done s0 l s k) : ∀ {s2 : σ} {k2 : Nat}, Run step done s (l.drop k) s2 k2 -> Run step done s0 l s2 (k + k2) := by
 rintro s2 k2 ⟨i, h2⟩
 induction h2 with
 | start => exact h
 | next h2 hd hs ih =>
  rw [List.drop_drop] at hs; have := Run.next ih hd hs; rw [Nat.add_assoc] at this; exact this
end
inductive Out where
 | bad (e : Nat)
 | got (last : List UInt8) (origin sum bits held : Nat)
def BS.held (b : BS) : Nat := match b.row with
 | none => b.last.length
 | some r => r.code.picks.picks.length + r.code.size * r.code.codes.length + b.last.length
def Comes (room : Nat) (l : List Bool) (o : Out) : Prop :=
 ∃ b k, Run bstep BS.done (b0 room) l b k /\
  ((b.done = true /\ o = .got b.last b.frm b.sum k (BS.held b)) \/ (b.done = false /\ bstep b (l.drop k) = .short /\ o = .bad 3) \/ ∃ e, b.done = false /\ bstep b (l.drop k) = .bad e /\ o = .bad e)
theorem Comes.det {room : Nat} {l : List Bool} {o o2 : Out} (h : Comes room l o) (h2 : Comes room l o2) : o = o2 := by
 obtain ⟨b, k, hr, h⟩ := h; obtain ⟨b2, k2, hr2, h2⟩ := h2
 have hs : Stop bstep BS.done l b k := by
  rcases h with h | h | ⟨e, h⟩
  ·exact stop_done h.1
  ·exact stop_short h.2.1
  ·exact stop_bad h.2.1
 have hs2 : Stop bstep BS.done l b2 k2 := by
  rcases h2 with h | h | ⟨e, h⟩
  ·exact stop_done h.1
  ·exact stop_short h.2.1
  ·exact stop_bad h.2.1
 obtain ⟨rfl, rfl⟩ := hr.stop_eq hs hr2 hs2
 rcases h with ⟨h1, rfl⟩ | ⟨h1, h3, rfl⟩ | ⟨e, h1, h3, rfl⟩ <;> rcases h2 with ⟨h4, rfl⟩ | ⟨h4, h6, rfl⟩ | ⟨e2, h4, h6, rfl⟩
 ·rfl
 ·rw [h1] at h4; cases h4
 ·rw [h1] at h4; cases h4
 ·rw [h1] at h4; cases h4
 ·rfl
 ·rw [h3] at h6; cases h6
 ·rw [h1] at h4; cases h4
 ·rw [h3] at h6; cases h6
 ·rw [h3] at h6; cases h6; rfl
def cstepL (x : CS × List Nat) (l : List Bool) : Res (CS × List Nat) := match cstep x.1 l with
 | .short => .short
 | .bad e => .bad e
 | .ok (c, o) n => .ok (c, x.2 ++ o.toList) n
def cdone (x : CS × List Nat) : Bool := x.1.done
abbrev CRun (size : Nat) (l : List Bool) (c : CS) (L : List Nat) (k : Nat) : Prop := Run cstepL cdone (c0 size, []) l (c, L) k
def zone (d : Nat) (p : Int) : List Nat := List.replicate d 0 ++ if 0 < p then [p.toNat] else []
def zstep : Option (ZS × List Nat) -> Nat -> Option (ZS × List Nat)
 | none, _ => none
 | some (z, pl), s => match zput z s with
  | none => none
  | some (z', d, p) => some (z', pl ++ zone d p)
def zall (z : ZS) (L : List Nat) : Option (ZS × List Nat) := L.foldl zstep (some (z, []))
theorem zall_snoc (z : ZS) (L : List Nat) (s : Nat) : zall z (L ++ [s]) = zstep (zall z L) s := by simp [zall]
def mstep (x : List UInt8 × List UInt8) (p : Nat) : List UInt8 × List UInt8 := (frontB x.1 p, x.2 ++ [x.1.getD p 0])
def mall (o : List UInt8) (pl : List Nat) : List UInt8 × List UInt8 := pl.foldl mstep (o, [])
theorem mall_snoc (o : List UInt8) (pl : List Nat) (p : Nat) : mall o (pl ++ [p]) = mstep (mall o pl) p := by simp [mall]
inductive Says (room : Nat) (l : List Bool) : Out -> Prop
 | few (h : l.length < 57) : Says room l (.bad 3)
 | bit (h : ¬ l.length < 57) (hb : l.getD 32 false = true) : Says room l (.bad 25)
 | ushort (h : ¬ l.length < 57) (hb : l.getD 32 false = false) (hu : uread (l.drop 57) = .short) : Says room l (.bad 3)
 | ubad {e : Nat} (h : ¬ l.length < 57) (hb : l.getD 32 false = false) (hu : uread (l.drop 57) = .bad e) : Says room l (.bad e)
 | codes {T : Nat -> Bool} {n k : Nat} {c : CS} {L : List Nat} (h : ¬ l.length < 57) (hb : l.getD 32 false = false) (hu : uread (l.drop 57) = .ok T n)
   (hr : CRun ((listed T).length + 2) (l.drop (57 + n)) c L k) (hs : Stop cstepL cdone (l.drop (57 + n)) (c, L) k) (hz : zall (z0 (listed T).length room) L = none) : Says room l (.bad 25)
 | cshort {T : Nat -> Bool} {n k : Nat} {c : CS} {L : List Nat} (h : ¬ l.length < 57) (hb : l.getD 32 false = false) (hu : uread (l.drop 57) = .ok T n)
   (hr : CRun ((listed T).length + 2) (l.drop (57 + n)) c L k) (hd : c.done = false) (hs : cstep c ((l.drop (57 + n)).drop k) = .short) (hz : zall (z0 (listed T).length room) L ≠ none) : Says room l (.bad 3)
 | cbad {T : Nat -> Bool} {n k e : Nat} {c : CS} {L : List Nat} (h : ¬ l.length < 57) (hb : l.getD 32 false = false) (hu : uread (l.drop 57) = .ok T n)
   (hr : CRun ((listed T).length + 2) (l.drop (57 + n)) c L k) (hd : c.done = false) (hs : cstep c ((l.drop (57 + n)).drop k) = .bad e) (hz : zall (z0 (listed T).length room) L ≠ none) : Says room l (.bad e)
 | orig {T : Nat -> Bool} {n k : Nat} {c : CS} {L : List Nat} {z : ZS} {pl : List Nat} (h : ¬ l.length < 57) (hb : l.getD 32 false = false) (hu : uread (l.drop 57) = .ok T n)
   (hr : CRun ((listed T).length + 2) (l.drop (57 + n)) c L k) (hd : c.done = true) (hz : zall (z0 (listed T).length room) L = some (z, pl))
   (ho : (mall (listed T) pl).2.length <= valB ((l.drop 33).take 24)) : Says room l (.bad 23)
 | got {T : Nat -> Bool} {n k : Nat} {c : CS} {L : List Nat} {z : ZS} {pl : List Nat} (h : ¬ l.length < 57) (hb : l.getD 32 false = false) (hu : uread (l.drop 57) = .ok T n)
   (hr : CRun ((listed T).length + 2) (l.drop (57 + n)) c L k) (hd : c.done = true) (hz : zall (z0 (listed T).length room) L = some (z, pl))
   (ho : ¬ (mall (listed T) pl).2.length <= valB ((l.drop 33).take 24)) :
   Says room l (.got (mall (listed T) pl).2 (valB ((l.drop 33).take 24)) (valB (l.take 32)) (57 + n + k) (c.picks.picks.length + c.size * c.codes.length + (mall (listed T) pl).2.length))
section
variable {room sum frm : Nat} {l : List Bool}
abbrev BRun (room : Nat) (l : List Bool) (b : BS) (k : Nat) : Prop := Run bstep BS.done (b0 room) l b k
def mid (room sum frm : Nat) (c : CS) (z : ZS) (ol : List UInt8 × List UInt8) (due place : Nat) (done : Bool) : BS := ⟨room, true, sum, frm, some ⟨c, z, ol.1, due, place⟩, ol.2, done⟩
def Fin (room sum frm : Nat) (l : List Bool) (c : CS) (z : ZS) (ol : List UInt8 × List UInt8) (k : Nat) : Prop :=
 if c.done = true then
  if ol.2.length <= frm then ∃ b k', BRun room l b k' /\ b.done = false /\ bstep b (l.drop k') = .bad 23
  else BRun room l (mid room sum frm c z ol 0 0 true) k
 else BRun room l (mid room sum frm c z ol 0 0 false) k
theorem fin_end {b : BS} {c : CS} {z : ZS} {ol : List UInt8 × List UInt8} {k n : Nat} (hr : BRun room l b k) (hd : b.done = false) (he : bstep b (l.drop k) = bend (mid room sum frm c z ol 0 0 false) n) :
  Fin room sum frm l c z ol (k + n) := by
 have hw : RS.waits ⟨c, z, ol.1, 0, 0⟩ = false := rfl; unfold Fin; unfold bend mid at he; simp only [hw, Bool.false_eq_true, or_false] at he
 by_cases hc : c.done = true
 ·rw [if_pos hc]; rw [if_neg (by simp [hc])] at he
  by_cases ho : ol.2.length <= frm
  ·rw [if_pos ho]; rw [if_pos ho] at he; exact ⟨b, k, hr, hd, he⟩
  ·rw [if_neg ho]; rw [if_neg ho] at he; exact hr.next hd he
 ·rw [if_neg hc]; rw [if_pos (by simpa using hc)] at he; exact hr.next hd he
theorem mid_next {b : BS} {c : CS} {z : ZS} {ol : List UInt8 × List UInt8} {k n d p : Nat} (hw : 0 < d \/ 0 < p) (hr : BRun room l b k) (hd : b.done = false) (he : bstep b (l.drop k) = bend (mid room sum frm c z ol d p false) n) :
  BRun room l (mid room sum frm c z ol d p false) (k + n) := by
 refine hr.next hd ?_; rw [he]; unfold bend mid
 have : RS.waits ⟨c, z, ol.1, d, p⟩ = true := by unfold RS.waits; simp; exact hw
 simp only [this, or_true, if_true]
theorem mid_place {c : CS} {z : ZS} {ol : List UInt8 × List UInt8} {k p : Nat} (hp : 0 < p) (hr : BRun room l (mid room sum frm c z ol 0 p false) k) :
  Fin room sum frm l c z (mstep ol p) k := by
 refine fin_end (n := 0) hr rfl ?_; unfold bstep mid
 have hw : RS.waits ⟨c, z, ol.1, 0, p⟩ = true := by unfold RS.waits; simp; omega
 simp only [hw, if_true, bnext, RS.next, RS.byte, RS.at_, Nat.lt_irrefl, if_false, mstep, Bool.true_eq_false]
theorem mid_due {c : CS} {z : ZS} {k d p : Nat} : ∀ {ol : List UInt8 × List UInt8}, BRun room l (mid room sum frm c z ol (d + 1) p false) k ->
  if 0 < p then BRun room l (mid room sum frm c z ((List.replicate (d + 1) 0).foldl mstep ol) 0 p false) k else Fin room sum frm l c z ((List.replicate (d + 1) 0).foldl mstep ol) k := by
 induction d with
 | zero =>
  intro ol hr
  have hw : RS.waits ⟨c, z, ol.1, 0 + 1, p⟩ = true := by unfold RS.waits; simp
  have he : bstep (mid room sum frm c z ol (0 + 1) p false) (l.drop k) = bend (mid room sum frm c z (mstep ol 0) 0 p false) 0 := by
   conv => lhs; unfold bstep mid
   simp only [hw, if_true, bnext, RS.next, RS.byte, RS.at_, Nat.zero_add, Nat.lt_irrefl, if_false, mstep, Bool.true_eq_false, Nat.zero_lt_one, Nat.sub_self]; rfl
  split
  ·rename_i hp; exact mid_next (.inr hp) hr rfl he
  ·rename_i hp
   have : p = 0 := by omega
   subst this; exact fin_end hr rfl he
 | succ d ih =>
  intro ol hr
  have hw : RS.waits ⟨c, z, ol.1, d + 1 + 1, p⟩ = true := by unfold RS.waits; simp
  have he : bstep (mid room sum frm c z ol (d + 1 + 1) p false) (l.drop k) = bend (mid room sum frm c z (mstep ol 0) (d + 1) p false) 0 := by
   conv => lhs; unfold bstep mid
   simp only [hw, if_true, bnext, RS.next, RS.byte, RS.at_, mstep, Bool.true_eq_false, if_false, Nat.zero_lt_succ, Nat.add_sub_cancel]; rfl
  have := ih (mid_next (.inl (Nat.succ_pos _)) hr rfl he); rw [List.replicate_succ, List.foldl_cons]; exact this
theorem told_fin {b : BS} {c : CS} {z : ZS} {ol : List UInt8 × List UInt8} {k n d : Nat} {p : Int} (hr : BRun room l b k) (hd : b.done = false) (he : bstep b (l.drop k) = bend (mid room sum frm c z ol d p.toNat false) n) :
  Fin room sum frm l c z ((zone d p).foldl mstep ol) (k + n) := by
 unfold zone; rw [List.foldl_append]
 cases d with
 | zero =>
  rw [List.replicate_zero, List.foldl_nil]
  by_cases hp : 0 < p
  ·rw [if_pos hp]; have h := mid_next (d := 0) (p := p.toNat) (.inr (by omega)) hr hd he; exact mid_place (by omega) h
  ·rw [if_neg hp]
   have : p.toNat = 0 := by omega
   rw [this] at he; exact fin_end hr hd he
 | succ d =>
  have h := mid_next (.inl (Nat.succ_pos d)) hr hd he; have h2 := mid_due h
  by_cases hp : 0 < p
  ·rw [if_pos hp]; rw [if_pos (by omega)] at h2; exact mid_place (by omega) h2
  ·rw [if_neg hp]; rw [if_neg (by omega)] at h2; exact h2
def Link (room sum frm : Nat) (l : List Bool) (syms : List UInt8) (at_ : Nat) (c : CS) (L : List Nat) (k : Nat) : Prop :=
 match zall (z0 syms.length room) L with
 | none => ∃ b k', BRun room l b k' /\ b.done = false /\ bstep b (l.drop k') = .bad 25
 | some (z, pl) => Fin room sum frm l c z (mall syms pl) (at_ + k)
theorem link_run {syms : List UInt8} {at_ size : Nat} (h0 : BRun room l (mid room sum frm (c0 size) (z0 syms.length room) (syms, []) 0 0 false) at_) :
  ∀ {i : Nat} {x : CS × List Nat} {k : Nat}, RunN cstepL cdone (c0 size, []) (l.drop at_) i x k -> Link room sum frm l syms at_ x.1 x.2 k := by
 intro i x k h
 induction h with
 | start => exact h0
 | next h hd hs ih =>
  rename_i j x x' k n; obtain ⟨c, L⟩ := x; unfold Link at ih ⊢; simp only at ih ⊢; unfold cdone at hd; simp only at hd; unfold cstepL at hs; simp only at hs
  cases hc : cstep c ((l.drop at_).drop k) with
  | short => rw [hc] at hs; cases hs
  | bad e => rw [hc] at hs; cases hs
  | ok y n' =>
   obtain ⟨c', o⟩ := y; rw [hc] at hs; cases hs
   cases hz : zall (z0 syms.length room) L with
   | none =>
    rw [hz] at ih; simp only at ih
    cases o with
    | none => simp only [Option.toList_none, List.append_nil, hz]; exact ih
    | some s => simp only [Option.toList_some, zall_snoc, hz, zstep]; exact ih
   | some zp =>
    obtain ⟨z, pl⟩ := zp; rw [hz] at ih; simp only at ih; unfold Fin at ih; rw [if_neg (by rw [hd]; simp)] at ih
    have hb : bstep (mid room sum frm c z (mall syms pl) 0 0 false) (l.drop (at_ + k)) = bsym (mid room sum frm c z (mall syms pl) 0 0 false) ⟨c, z, (mall syms pl).1, 0, 0⟩ (.ok (c', o) n) := by
     rw [<- hc, List.drop_drop]
     conv => lhs; unfold bstep mid
     simp only [show RS.waits ⟨c, z, (mall syms pl).1, 0, 0⟩ = false from rfl, Bool.true_eq_false, Bool.false_eq_true, if_false]; rfl
    cases o with
    | none =>
     simp only [Option.toList_none, List.append_nil, hz]; have := fin_end (n := n) ih rfl hb; rw [Nat.add_assoc] at this; exact this
    | some s =>
     simp only [Option.toList_some, zall_snoc, hz, zstep]
     cases hp : zput z s with
     | none =>
      simp only; refine ⟨_, _, ih, rfl, ?_⟩; rw [hb]; simp only [bsym, btold, hp]
     | some y =>
      obtain ⟨z', d, p⟩ := y; simp only
      have he : bstep (mid room sum frm c z (mall syms pl) 0 0 false) (l.drop (at_ + k)) = bend (mid room sum frm c' z' (mall syms pl) d p.toNat false) n := by
       rw [hb]; simp only [bsym, btold, hp]; rfl
      have := told_fin ih rfl he; rw [Nat.add_assoc] at this; unfold mall; rw [List.foldl_append]; exact this
theorem says_comes {o : Out} (h : Says room l o) : Comes room l o := by
 have hb0 : (b0 room).done = false := rfl
 have few : ∀ {n : Nat}, ¬ l.length < 57 -> l.getD 32 false = false -> BRun room l ⟨room, true, valB (l.take 32), valB ((l.drop 33).take 24), none, [], false⟩ 57 := by
  intro n h hb
  have h1 : bstep (b0 room) (l.drop 0) = .ok ⟨room, true, valB (l.take 32), valB ((l.drop 33).take 24), none, [], false⟩ 57 := by
   unfold bstep b0 bhead; rw [List.drop_zero]; simp only [if_true]; rw [if_neg h]
   have e : valB ((l.drop 32).take 1) = 0 := by
    have hg : (l.drop 32)[0]? = some false := by
     rw [List.getElem?_drop, Nat.add_zero, List.getElem?_eq_getElem (by omega)]; rw [List.getD_eq_getElem?_getD, List.getElem?_eq_getElem (by omega)] at hb; simpa using hb
    rw [take_snoc (n := 0) hg, List.take_zero, List.nil_append, valB_one]; rfl
   rw [e, if_neg (by decide)]; rfl
  have := Run.start.next (step := bstep) (done := BS.done) hb0 h1; simpa using this
 have uses : ∀ {T : Nat -> Bool} {n : Nat}, ¬ l.length < 57 -> l.getD 32 false = false -> uread (l.drop 57) = .ok T n ->
   BRun room l (mid room (valB (l.take 32)) (valB ((l.drop 33).take 24)) (c0 ((listed T).length + 2)) (z0 (listed T).length room) (listed T, []) 0 0 false) (57 + n) := by
  intro T n h hb hu; refine (few (n := n) h hb).next rfl ?_; unfold bstep; simp only [Bool.true_eq_false, if_false, hu, buse]; rfl
 have linked : ∀ {T : Nat -> Bool} {n k : Nat} {c : CS} {L : List Nat}, ¬ l.length < 57 -> l.getD 32 false = false -> uread (l.drop 57) = .ok T n -> CRun ((listed T).length + 2) (l.drop (57 + n)) c L k ->
   Link room (valB (l.take 32)) (valB ((l.drop 33).take 24)) l (listed T) (57 + n) c L k := by
  intro T n k c L h hb hu hr; obtain ⟨i, hr⟩ := hr; exact link_run (uses h hb hu) hr
 have waits : ∀ {c : CS} {z : ZS} {ol : List UInt8 × List UInt8} {k sum frm : Nat}, bstep (mid room sum frm c z ol 0 0 false) (l.drop k) = bsym (mid room sum frm c z ol 0 0 false) ⟨c, z, ol.1, 0, 0⟩ (cstep c (l.drop k)) := by
  intro c z ol k sum frm
  conv => lhs; unfold bstep mid
  simp only [show RS.waits ⟨c, z, ol.1, 0, 0⟩ = false from rfl, Bool.true_eq_false, Bool.false_eq_true, if_false]; rfl
 cases h with
 | few h =>
  refine ⟨b0 room, 0, .start, .inr (.inl ⟨rfl, ?_, rfl⟩)⟩; unfold bstep b0 bhead; simp only [List.drop_zero, if_true, if_pos h]
 | bit h hb =>
  refine ⟨b0 room, 0, .start, .inr (.inr ⟨25, rfl, ?_, rfl⟩)⟩; unfold bstep b0 bhead; simp only [List.drop_zero, if_true, if_neg h]
  have e : valB ((l.drop 32).take 1) = 1 := by
   have hg : (l.drop 32)[0]? = some true := by
    rw [List.getElem?_drop, Nat.add_zero, List.getElem?_eq_getElem (by omega)]; rw [List.getD_eq_getElem?_getD, List.getElem?_eq_getElem (by omega)] at hb; simpa using hb
   rw [take_snoc (n := 0) hg, List.take_zero, List.nil_append, valB_one]; rfl
  rw [e, if_pos rfl]
 | ushort h hb hu =>
  refine ⟨_, _, few (n := 0) h hb, .inr (.inl ⟨rfl, ?_, rfl⟩)⟩; unfold bstep; simp only [Bool.true_eq_false, if_false, hu, buse]
 | ubad h hb hu =>
  refine ⟨_, _, few (n := 0) h hb, .inr (.inr ⟨_, rfl, ?_, rfl⟩)⟩; unfold bstep; simp only [Bool.true_eq_false, if_false, hu, buse]
 | codes h hb hu hr hs hz =>
  have := linked h hb hu hr; unfold Link at this; rw [hz] at this; obtain ⟨b, k', h1, h2, h3⟩ := this; exact ⟨b, k', h1, .inr (.inr ⟨25, h2, h3, rfl⟩)⟩
 | cshort h hb hu hr hd hs hz =>
  have := linked h hb hu hr; unfold Link at this
  revert this
  cases hq : zall _ _ with
  | none => exact absurd hq hz
  | some y =>
   obtain ⟨z, pl⟩ := y; simp only; intro this; unfold Fin at this; rw [if_neg (by rw [hd]; simp)] at this; refine ⟨_, _, this, .inr (.inl ⟨rfl, ?_, rfl⟩)⟩; rw [waits, <- List.drop_drop, hs]; rfl
 | cbad h hb hu hr hd hs hz =>
  have := linked h hb hu hr; unfold Link at this
  revert this
  cases hq : zall _ _ with
  | none => exact absurd hq hz
  | some y =>
   obtain ⟨z, pl⟩ := y; simp only; intro this; unfold Fin at this; rw [if_neg (by rw [hd]; simp)] at this; refine ⟨_, _, this, .inr (.inr ⟨_, rfl, ?_, rfl⟩)⟩; rw [waits, <- List.drop_drop, hs]; rfl
 | orig h hb hu hr hd hz ho =>
  have := linked h hb hu hr; unfold Link at this; rw [hz] at this; simp only at this; unfold Fin at this; rw [if_pos hd, if_pos ho] at this; obtain ⟨b, k', h1, h2, h3⟩ := this; exact ⟨b, k', h1, .inr (.inr ⟨23, h2, h3, rfl⟩)⟩
 | got h hb hu hr hd hz ho =>
  have := linked h hb hu hr; unfold Link at this; rw [hz] at this; simp only at this; unfold Fin at this; rw [if_pos hd, if_neg ho] at this; exact ⟨_, _, this, .inl ⟨rfl, rfl⟩⟩
end
end Go.Q20
namespace Go.Q21
open Go.M01 Go.Mb Go.Mp Go.M10 Go.Mc Go.Mz Go.Mk Go.Q20
theorem foldl_val (l : List Bool) : ∀ a : Nat, l.foldl (fun a b => 2 * a + b.toNat) a = a * 2 ^ l.length + valB l := by
 induction l with
 | nil => intro a; simp [valB]
 | cons b l ih =>
  intro a; have h1 := ih (2 * a + b.toNat); have h2 := ih (2 * 0 + b.toNat); unfold valB; rw [List.foldl_cons, List.foldl_cons, h1, h2, List.length_cons, Nat.pow_succ, Nat.add_mul, Nat.add_mul, Nat.mul_comm 2 a, Nat.mul_assoc, Nat.mul_comm 2 (2 ^ l.length)]; omega
theorem valB_app (a b : List Bool) : valB (a ++ b) = valB a * 2 ^ b.length + valB b := by
 have := foldl_val b (valB a); unfold valB at this ⊢; rw [List.foldl_append]; exact this
theorem valB_cons (b : Bool) (l : List Bool) : valB (b :: l) = b.toNat * 2 ^ l.length + valB l := by
 have := valB_app [b] l
 rwa [valB_one] at this
theorem valB_18 {l : List Bool} (h : 18 <= l.length) : valB (l.take 18) / 32768 = valB (l.take 3) /\ valB (l.take 18) % 32768 = valB ((l.drop 3).take 15) := by
 have e : l.take 18 = l.take 3 ++ (l.drop 3).take 15 := by rw [<- List.take_add]
 have hl : ((l.drop 3).take 15).length = 15 := by simp; omega
 have hv := valB_lt ((l.drop 3).take 15); rw [hl] at hv; rw [e, valB_app, hl]; omega
theorem bitsOf_succ (v j : Nat) : bitsOf v (j + 1) = v.testBit j :: bitsOf v j := by
 apply List.ext_getElem?; intro i
 cases i with
 | zero => rw [Mb.bitsOf_get _ _ _ (by omega)]; simp
 | succ i =>
  rw [List.getElem?_cons_succ]; rcases Nat.lt_or_ge i j with h | h
  ·rw [Mb.bitsOf_get _ _ _ (by omega), Mb.bitsOf_get _ _ _ h]
   congr 2; omega
  ·rw [List.getElem?_eq_none (by rw [bitsOf_len]; omega), List.getElem?_eq_none (by rw [bitsOf_len]; omega)]
theorem bitsOf_val {l : List Bool} {v n : Nat} (hl : l.length = n) (hv : valB l = v) : l = bitsOf v n := by
 subst hl hv; exact valB_inj (n := l.length) rfl (bitsOf_len _ _) (valB_bitsOf _ _ (valB_lt l)).symm
def inc : List Bool -> List Bool × Bool
 | [] => ([], true)
 | b :: s => ((b != (inc s).2) :: (inc s).1, (inc s).2 && b)
theorem inc_len : ∀ s : List Bool, (inc s).1.length = s.length
 | [] => rfl
 | b :: s => by simp [inc, inc_len s]
theorem inc_val : ∀ s : List Bool, valB (inc s).1 + (inc s).2.toNat * 2 ^ s.length = valB s + 1
 | [] => rfl
 | b :: s => by
  have ih := inc_val s; have hl := inc_len s; simp only [inc, valB_cons, List.length_cons, hl]; rw [Nat.pow_succ]; generalize 2 ^ s.length = p at *; generalize (inc s).2 = c at *; generalize valB (inc s).1 = x at *
  cases b <;> cases c <;> simp at * <;> omega
theorem inc_bits {s : List Bool} {v : Nat} (h : s = bitsOf v s.length) (hv : v + 1 < 2 ^ s.length) : (inc s).1 = bitsOf (v + 1) s.length := by
 have h1 := inc_val s; have h2 := inc_len s
 have e : valB s = v := by
  have := congrArg valB h; rw [valB_bitsOf _ _ (by omega)] at this; exact this
 have hlt := valB_lt (inc s).1; rw [h2] at hlt; refine bitsOf_val h2 ?_
 cases hc : (inc s).2 with
 | false => rw [hc] at h1; simp at h1; omega
 | true => rw [hc] at h1; simp at h1; omega
theorem bits_pad (v n : Nat) : ∀ k, bitsOf v n ++ List.replicate k false = bitsOf (v * 2 ^ k) (n + k) := by
 intro k; apply List.ext_getElem?; intro i; rcases Nat.lt_or_ge i n with h | h
 ·rw [List.getElem?_append_left (by rw [bitsOf_len]; exact h), Mb.bitsOf_get _ _ _ h, Mb.bitsOf_get _ _ _ (by omega)]
  congr 1
  rw [Nat.mul_comm v, Nat.testBit_two_pow_mul]; rw [decide_eq_true (by omega), Bool.true_and]
  congr 1; omega
 ·rw [List.getElem?_append_right (by rw [bitsOf_len]; exact h), bitsOf_len]; rcases Nat.lt_or_ge i (n + k) with h2 | h2
  ·rw [List.getElem?_replicate, if_pos (by omega), Mb.bitsOf_get _ _ _ h2]; rw [Nat.mul_comm v, Nat.testBit_two_pow_mul, decide_eq_false (by omega), Bool.false_and]
  ·rw [List.getElem?_replicate, if_neg (by omega), List.getElem?_eq_none (by rw [bitsOf_len]; omega)]
def LastC (code : List Bool) (n next : Nat) : Prop := (code = [] /\ next = 0) \/ ∃ v m, 1 <= m /\ m <= n /\ code = bitsOf v m /\ (v + 1) * 2 ^ (n - m) = next
theorem LastC.up {code : List Bool} {n next : Nat} (h : LastC code n next) : LastC code (n + 1) (2 * next) := by
 rcases h with ⟨h1, h2⟩ | ⟨v, m, h1, h2, h3, h4⟩
 ·exact .inl ⟨h1, by omega⟩
 ·refine .inr ⟨v, m, h1, by omega, h3, ?_⟩; rw [show n + 1 - m = (n - m) + 1 by omega, Nat.pow_succ, <- Nat.mul_assoc, h4]; omega
def nextB (code : List Bool) (n : Nat) : List Bool := if code = [] then List.replicate n false else (inc code).1 ++ List.replicate (n - code.length) false
theorem LastC.next {code : List Bool} {n next : Nat} (h : LastC code n next) (hn : 1 <= n) (hlt : next < 2 ^ n) : nextB code n = bitsOf next n /\ LastC (nextB code n) n (next + 1) := by
 have key : nextB code n = bitsOf next n := by
  unfold nextB; rcases h with ⟨rfl, rfl⟩ | ⟨v, m, h1, h2, h3, h4⟩
  ·rw [if_pos rfl]; have := bits_pad 0 0 n; simpa [bitsOf] using this
  ·have hl : code.length = m := by rw [h3, bitsOf_len]
   rw [if_neg (by rintro rfl; simp at hl; omega)]
   have hv : v + 1 < 2 ^ m := by
    have hp : 2 ^ n = 2 ^ m * 2 ^ (n - m) := by rw [<- Nat.pow_add]; congr 1; omega
    rw [<- h4, hp] at hlt; exact Nat.lt_of_mul_lt_mul_right hlt
   have e := inc_bits (s := code) (v := v) (by rw [hl]; exact h3) (by rw [hl]; exact hv); rw [e, hl, bits_pad, h4]
   congr 1; omega
 refine ⟨key, .inr ⟨next, n, hn, Nat.le_refl _, key, by simp⟩⟩
def begins (lens : List Nat) (l : List Bool) (i : Nat) : Bool := decide (lens.getD i 0 <= l.length /\ l.take (lens.getD i 0) = codeB lens i)
theorem usedT_range (f : Nat -> Bool) (l : List Bool) (b : Nat) : ∀ j, usedT ((List.range j).filter f) l b = (decide (b / 16 < j) && f (b / 16) && l.getD (16 * ((List.range (b / 16)).filter f).length + b % 16) false) := by
 intro j
 induction j with
 | zero => simp [usedT]
 | succ j ih =>
  rw [List.range_succ, List.filter_append]
  by_cases hf : f j = true
  ·rw [List.filter_cons, if_pos hf, List.filter_nil, usedT_snoc, ih]; rcases Nat.lt_trichotomy (b / 16) j with h | h | h
   ·rw [decide_eq_true h, decide_eq_true (show b / 16 < j + 1 by omega), decide_eq_false (show ¬ b / 16 = j by omega)]; simp
   ·rw [decide_eq_false (show ¬ b / 16 < j by omega), decide_eq_true (show b / 16 < j + 1 by omega), decide_eq_true h, h, hf]; simp [List.getD_eq_getElem?_getD, List.getElem?_drop]
   ·rw [decide_eq_false (show ¬ b / 16 < j by omega), decide_eq_false (show ¬ b / 16 < j + 1 by omega), decide_eq_false (show ¬ b / 16 = j by omega)]; simp
  ·rw [List.filter_cons, if_neg hf, List.filter_nil, List.append_nil, ih]; rcases Nat.lt_trichotomy (b / 16) j with h | h | h
   ·rw [decide_eq_true h, decide_eq_true (show b / 16 < j + 1 by omega)]
   ·rw [h, show f j = false by simpa using hf]; simp
   ·rw [decide_eq_false (show ¬ b / 16 < j by omega), decide_eq_false (show ¬ b / 16 < j + 1 by omega)]
def cnt (q : List Bool) (i : Nat) : Nat := ((List.range i).filter fun i => q.getD i false).length
theorem cnt_succ (q : List Bool) (i : Nat) : cnt q (i + 1) = cnt q i + (q.getD i false).toNat := by
 unfold cnt; rw [List.range_succ, List.filter_append, List.length_append]
 congr 1
 rw [List.filter_cons]
 cases q.getD i false <;> rfl
theorem cnt_le (q : List Bool) : ∀ i, i <= 16 -> cnt q i <= (marksL q).length := by
 have mono : ∀ i k, cnt q i <= cnt q (i + k) := by
  intro i k
  induction k with
  | zero => exact Nat.le_refl _
  | succ k ih => rw [<- Nat.add_assoc, cnt_succ]; omega
 intro i hi; have := mono i (16 - i)
 rwa [show i + (16 - i) = 16 by omega] at this
def usedOf (l : List Bool) : Nat -> Bool := usedT (marksL (l.take 16)) (l.drop 16)
theorem used_at {l : List Bool} {i k : Nat} (hi : i < 16) (hk : k < 16) (hl : 16 <= l.length) : usedOf l (16 * i + k) = (l.getD i false && l.getD (16 + 16 * cnt (l.take 16) i + k) false) := by
 unfold usedOf marksL; rw [usedT_range, show (16 * i + k) / 16 = i by omega, show (16 * i + k) % 16 = k by omega, decide_eq_true hi, Bool.true_and]
 congr 1
 ·simp [List.getD_eq_getElem?_getD, List.getElem?_take, hi]
 ·simp [List.getD_eq_getElem?_getD, List.getElem?_drop, cnt, Nat.add_assoc]
def below (T : Nat -> Bool) (b : Nat) : List UInt8 := ((List.range b).filter T).map UInt8.ofNat
theorem below_succ (T : Nat -> Bool) (b : Nat) : below T (b + 1) = below T b ++ if T b = true then [UInt8.ofNat b] else [] := by
 unfold below; rw [List.range_succ, List.filter_append, List.map_append]
 congr 1
 rw [List.filter_cons]
 split <;> rfl
theorem below_len (T : Nat -> Bool) (b : Nat) : (below T b).length <= b := by
 unfold below; rw [List.length_map]; exact Nat.le_trans (List.length_filter_le _ _) (by simp)
theorem mem_listed {T : Nat -> Bool} {b : Nat} (hb : b < 256) : UInt8.ofNat b ∈ listed T ↔ T b = true := by
 unfold listed; rw [List.mem_map]
 constructor
 ·rintro ⟨x, hx, he⟩; rw [List.mem_filter, List.mem_range] at hx
  have : x = b := by
   have := congrArg UInt8.toNat he
   rwa [UInt8.toNat_ofNat_of_lt' (by simpa using hx.1), UInt8.toNat_ofNat_of_lt' (by simpa using hb)] at this
  subst this; exact hx.2
 ·intro h; exact ⟨b, by rw [List.mem_filter, List.mem_range]; exact ⟨hb, h⟩, rfl⟩
theorem listed_listed (T : Nat -> Bool) : listed (fun b => decide (UInt8.ofNat b ∈ listed T)) = listed T := by
 generalize hS : (fun b => decide (UInt8.ofNat b ∈ listed T)) = S; unfold listed
 congr 1
 apply List.filter_congr; intro b hb; rw [List.mem_range] at hb; have := mem_listed (T := T) hb; rw [<- hS]; simp only
 cases hT : T b with
 | true => rw [decide_eq_true (this.2 hT)]
 | false => rw [decide_eq_false (fun h => by rw [this.1 h] at hT; cases hT)]
def valR (row : List Nat) : Nat × Nat := row.foldl (fun x c => (x.1 + x.2 * 2 ^ c, 2 * x.2)) (0, 1)
theorem valR_snoc (row : List Nat) (c : Nat) : valR (row ++ [c]) = ((valR row).1 + (valR row).2 * 2 ^ c, 2 * (valR row).2) := by simp [valR]
theorem snocRec {motive : List Nat -> Prop} (l : List Nat) (nil : motive []) (snoc : ∀ t c, motive t -> motive (t ++ [c])) : motive l := by
 have : ∀ n (l : List Nat), l.length = n -> motive l := by
  intro n
  induction n with
  | zero => intro l h; rw [List.length_eq_zero_iff.1 h]; exact nil
  | succ n ih =>
   intro l h
   have hne : l ≠ [] := by rintro rfl; simp at h
   rw [<- List.dropLast_concat_getLast hne]; exact snoc _ _ (ih _ (by simp [h]))
 exact this _ l rfl
theorem valR_mono (row : List Nat) (t : List Nat) : (valR row).1 <= (valR (row ++ t)).1 /\ (valR row).2 <= (valR (row ++ t)).2 := by
 refine snocRec (motive := fun t => (valR row).1 <= (valR (row ++ t)).1 /\ (valR row).2 <= (valR (row ++ t)).2) t ?_ fun t c ih => ?_
 ·simp
 ·rw [<- List.append_assoc, valR_snoc]
  constructor
  ·exact Nat.le_trans ih.1 (Nat.le_add_right _ _)
  ·simp only; omega
structure ZRow (z : ZS) (row : List Nat) : Prop where
 zeros : z.zeros = (valR row).1
 weight : z.weight = (valR row).2
 two : ∀ c ∈ row, c <= 1
abbrev DRun (size : Nat) (l : List Bool) (d : DS) (k : Nat) : Prop := Run dstep DS.done (d0 size) l d k
abbrev PRun (l : List Bool) (p : PS) (k : Nat) : Prop := Run pstep PS.done p0 l p k
theorem DRun.ok {size : Nat} {l : List Bool} {d : DS} {k : Nat} (h : DRun size l d k) : d.Ok /\ d.size = size := by
 obtain ⟨i, h⟩ := h
 induction h with
 | start => exact ⟨d0_ok size, rfl⟩
 | next h hd hs ih =>
  refine ⟨dstep_ok hs ih.1 hd, ?_⟩; rw [<- ih.2]; unfold dstep turn at hs
  repeat' split at hs
  all_goals first
   | (cases hs; rfl)
   | cases hs
theorem PRun.ok {l : List Bool} {p : PS} {k : Nat} (h : PRun l p k) : p.Ok := by
 obtain ⟨i, h⟩ := h
 induction h with
 | start => exact p0_ok
 | next h hd hs ih => exact pstep_ok hs ih hd
theorem CRun.ok {size : Nat} {l : List Bool} {c : CS} {L : List Nat} {k : Nat} (h1 : 3 <= size) (h2 : size <= 258) (h : CRun size l c L k) : c.Ok /\ c.size = size /\ (∀ x ∈ L, x < size) := by
 obtain ⟨i, h⟩ := h
 have : ∀ {i : Nat} {x : CS × List Nat} {k : Nat}, RunN cstepL cdone (c0 size, []) l i x k -> x.1.Ok /\ x.1.size = size /\ (∀ y ∈ x.2, y < size) := by
  intro i x k h
  induction h with
  | start => exact ⟨c0_ok h1 h2, rfl, fun y hy => by cases hy⟩
  | next h hd hs ih =>
   rename_i j x x' k n; obtain ⟨c, L⟩ := x; unfold cstepL at hs; simp only at hs ih
   cases hc : cstep c (l.drop k) with
   | short => rw [hc] at hs; cases hs
   | bad e => rw [hc] at hs; cases hs
   | ok y n' =>
    obtain ⟨c', o⟩ := y; rw [hc] at hs; cases hs; have h3 := cstep_ok hc ih.1; refine ⟨h3.1, h3.2.1.trans ih.2.1, ?_⟩; intro y hy; simp only at hy; rcases List.mem_append.1 hy with h4 | h4
    ·exact ih.2.2 y h4
    ·cases o with
     | none => cases h4
     | some s =>
      simp at h4; subst h4; have := h3.2.2 y rfl; rw [ih.2.1] at this; exact this
 exact this h
theorem picks_lift {size : Nat} {l : List Bool} {p : PS} {k : Nat} (h : PRun l p k) : CRun size l ⟨size, p, d0 size, [], 0, false⟩ [] k := by
 obtain ⟨i, h⟩ := h
 induction h with
 | start => exact .start
 | next h hd hs ih =>
  refine ih.next rfl ?_; unfold cstepL cstep; simp only [if_pos hd, hs, withPicks, Option.toList_none, List.append_nil]
def withL (c : CS) (d : DS) : CS := ⟨c.size, c.picks, d, c.codes, c.count, c.done⟩
def addC (c : CS) (t : List Nat) : CS := ⟨c.size, c.picks, d0 c.size, c.codes ++ [t], c.count, c.done⟩
theorem lens_step {c : CS} {d : DS} {q : List Bool} (hp : c.picks.done = true) (ht : c.codes.length < c.picks.t) : cstep (withL c d) q = withLens (withL c d) (dstep d q) := by
 unfold cstep withL; simp only [hp, ht, if_true, Bool.true_eq_false, if_false]
theorem lens_lift {size : Nat} {l : List Bool} {c : CS} {L : List Nat} {k : Nat} (hp : c.picks.done = true) (ht : c.codes.length < c.picks.t) (hl : c.lens = d0 c.size) (hdn : c.done = false) (hsz : 3 <= c.size)
  (hr : CRun size l c L k) {d : DS} {k2 : Nat} (h : DRun c.size (l.drop k) d k2) :
  if d.done = true then
   if share d.lens = 1048576 then CRun size l (addC c d.lens) L (k + k2) else ∃ c' k', CRun size l c' L k' /\ c'.done = false /\ cstep c' (l.drop k') = .bad 22
  else CRun size l (withL c d) L (k + k2) := by
 obtain ⟨i, h⟩ := h
 induction h with
 | start =>
  rw [if_neg (by rw [d0_nd hsz]; simp)]
  have : withL c (d0 c.size) = c := by rw [<- hl]; rfl
  rw [this]; exact hr
 | next h hd hs ih =>
  rename_i j s s' k2 n; rw [if_neg (by rw [hd]; simp)] at ih; rw [List.drop_drop] at hs; have hst := lens_step (q := l.drop (k + k2)) (d := s) hp ht; rw [hs] at hst; unfold withLens at hst
  by_cases hd' : s'.done = true
  ·rw [if_pos hd']; simp only [hd', if_true] at hst
   by_cases hsh : share s'.lens = 1048576
   ·rw [if_pos hsh]; rw [if_pos hsh] at hst; rw [<- Nat.add_assoc]; refine ih.next (step := cstepL) (done := cdone) hdn ?_; unfold cstepL; simp only [hst, Option.toList_none, List.append_nil]; rfl
   ·rw [if_neg hsh]; rw [if_neg hsh] at hst; exact ⟨_, _, ih, hdn, hst⟩
  ·rw [if_neg hd']; simp only [show s'.done = false by simpa using hd', Bool.false_eq_true, if_false] at hst; rw [<- Nat.add_assoc]; refine ih.next (step := cstepL) (done := cdone) hdn ?_; unfold cstepL; simp only [hst, Option.toList_none, List.append_nil]; rfl
def readC (c : CS) (s : Nat) : CS := ⟨c.size, c.picks, c.lens, c.codes, c.count + 1, decide (s = c.size - 1)⟩
theorem sym_step {c : CS} {q : List Bool} (hp : c.picks.done = true) (ht : ¬ c.codes.length < c.picks.t) : cstep c q = if c.picks.picks.length <= c.count / 50 then .bad 25 else withSymbol c (getC c.table q) := by
 unfold cstep; rw [if_neg (by rw [hp]; simp), if_neg ht]
theorem sym_next {size : Nat} {l : List Bool} {c : CS} {L : List Nat} {k s n : Nat} (hp : c.picks.done = true) (ht : ¬ c.codes.length < c.picks.t) (hdn : c.done = false) (hg : ¬ c.picks.picks.length <= c.count / 50)
  (hr : CRun size l c L k) (hs : getC c.table (l.drop k) = some (s, n)) : CRun size l (readC c s) (L ++ [s]) (k + n) := by
 refine hr.next (step := cstepL) (done := cdone) hdn ?_; unfold cstepL; simp only [sym_step hp ht, if_neg hg, hs, withSymbol, Option.toList_some]; rfl
def Ends (size : Nat) (l : List Bool) (L : List Nat) (r : Res (Nat × List Nat)) : Prop :=
 ∃ c k, CRun size l c L k /\ ((c.done = true /\ r = .ok (c.picks.picks.length + c.size * c.codes.length, L) k) \/ (c.done = false /\ cstep c (l.drop k) = .short /\ r = .short) \/ ∃ e, c.done = false /\ cstep c (l.drop k) = .bad e /\ r = .bad e)
theorem cl_short {c : CS} {L : List Nat} {q : List Bool} (h : cstep c q = .short) : cstepL (c, L) q = .short := by unfold cstepL; simp only [h]
theorem cl_bad {c : CS} {L : List Nat} {q : List Bool} {e : Nat} (h : cstep c q = .bad e) : cstepL (c, L) q = .bad e := by unfold cstepL; simp only [h]
theorem ends_stop {l : List Bool} {c : CS} {L : List Nat} {k : Nat} {r : Res (Nat × List Nat)}
  (h : (c.done = true /\ r = .ok (c.picks.picks.length + c.size * c.codes.length, L) k) \/ (c.done = false /\ cstep c (l.drop k) = .short /\ r = .short) \/ ∃ e, c.done = false /\ cstep c (l.drop k) = .bad e /\ r = .bad e) : Stop cstepL cdone l (c, L) k := by
 rcases h with h | h | ⟨e, h⟩
 ·exact stop_done h.1
 ·exact stop_short (cl_short h.2.1)
 ·exact stop_bad (cl_bad h.2.1)
theorem Ends.det {size : Nat} {l : List Bool} {L L2 : List Nat} {r r2 : Res (Nat × List Nat)} (h : Ends size l L r) (h2 : Ends size l L2 r2) : L = L2 /\ r = r2 := by
 obtain ⟨c, k, hr, h⟩ := h; obtain ⟨c2, k2, hr2, h2⟩ := h2; obtain ⟨he, rfl⟩ := hr.stop_eq (ends_stop h) hr2 (ends_stop h2); cases he; refine ⟨rfl, ?_⟩
 rcases h with ⟨h1, rfl⟩ | ⟨h1, h3, rfl⟩ | ⟨e, h1, h3, rfl⟩ <;> rcases h2 with ⟨h4, rfl⟩ | ⟨h4, h6, rfl⟩ | ⟨e2, h4, h6, rfl⟩
 ·rfl
 ·rw [h1] at h4; cases h4
 ·rw [h1] at h4; cases h4
 ·rw [h1] at h4; cases h4
 ·rfl
 ·rw [h3] at h6; cases h6
 ·rw [h1] at h4; cases h4
 ·rw [h3] at h6; cases h6
 ·rw [h3] at h6; cases h6; rfl
end Go.Q21
namespace Go.Q22
open Go.M01 Go.Mb Go.Mp Go.M10 Go.Mc Go.Mz Go.Mk Go.Q20 Go.Q21
structure Row1 (size : Nat) (done : Bool) (L : List Nat) : Prop where
 lt : ∀ x ∈ L, x < size
 ne : ∀ j, j + 1 < L.length -> L[j]? ≠ some (size - 1)
 last : done = false -> ∀ x ∈ L, x ≠ size - 1
 done : done = true -> L[L.length - 1]? = some (size - 1) /\ 0 < L.length
structure ZAll (n room : Nat) (z : ZS) (pl : List Nat) : Prop where
 ok : z.Ok
 en : z.n = n
 em : z.most = room
 lt : ∀ p ∈ pl, p < n
 len : pl.length = z.told
structure Upto (n room : Nat) (L : List Nat) (i : Nat) (z : ZS) (pl : List Nat) : Prop where
 all : ZAll n room z pl
 eq : zall (z0 n room) (L.take i) = some (z, pl)
 done : z.done = true ↔ 0 < i /\ L[i - 1]? = some (n + 1)
end Go.Q22
namespace Go.Q23
open Go.M01 Go.Mb Go.Mp Go.M10 Go.Mc Go.Mz Go.Mk Go.Q20 Go.Q21 Go.Q22
theorem pstep_pos {p p' : PS} {l : List Bool} {n : Nat} (h : pstep p l = .ok p' n) : 1 <= n := by
 unfold pstep at h
 repeat' split at h
 all_goals first
  | (cases h; omega)
  | cases h
theorem dstep_pos {p p' : DS} {l : List Bool} {n : Nat} (h : dstep p l = .ok p' n) : 1 <= n := by
 unfold dstep turn at h
 repeat' split at h
 all_goals first
  | (cases h; omega)
  | cases h
theorem cstep_pos {c c' : CS} {l : List Bool} {o : Option Nat} {n : Nat} (hc : c.Ok) (h : cstep c l = .ok (c', o) n) : 1 <= n := by
 unfold cstep at h; split at h
 ·unfold withPicks at h; split at h
  ·cases h
  ·cases h
  ·rename_i p k hp; cases h; exact pstep_pos hp
 ·rename_i hd; split at h
  ·unfold withLens at h; split at h
   ·cases h
   ·cases h
   ·rename_i d k hdl
    repeat' split at h
    all_goals first
     | (cases h; exact dstep_pos hdl)
     | cases h
  ·rename_i hlt; split at h
   ·cases h
   ·rename_i hg; unfold withSymbol at h; split at h
    ·cases h
    ·rename_i s k hs; cases h; obtain ⟨x, h1, h2, h3, h4, h5⟩ := pick_lt hc (by simpa using hd) hlt hg; exact (code_get h4 hs).2.2.1
theorem uread_pos {l : List Bool} {T : Nat -> Bool} {n : Nat} (h : uread l = .ok T n) : 1 <= n /\ n <= l.length /\ listed T ≠ [] := by
 unfold uread at h; split at h
 ·cases h
 ·split at h
  ·cases h
  ·split at h
   ·cases h
   ·cases h; exact ⟨by omega, by omega, by assumption⟩
theorem bend_last {b b' : BS} {k k' : Nat} (h : bend b k = .ok b' k') : k' = k /\ b'.last = b.last /\ b'.room = b.room := by
 unfold bend at h
 repeat' split at h
 all_goals first
  | (cases h; exact ⟨rfl, rfl, rfl⟩)
  | cases h
theorem bstep_prog {b b' : BS} {l : List Bool} {n : Nat} (hb : b.Ok) (h : bstep b l = .ok b' n) : b'.room = b.room /\ ((1 <= n /\ b'.last = b.last) \/ (n = 0 /\ b'.last.length = b.last.length + 1)) := by
 unfold bstep at h; split at h
 ·unfold bhead at h; split at h
  ·cases h
  ·split at h
   ·cases h
   ·have := bend_last h; exact ⟨this.2.2, .inl ⟨by omega, this.2.1⟩⟩
 ·split at h
  ·unfold buse at h; split at h
   ·cases h
   ·cases h
   ·rename_i T k hu; have := bend_last h; exact ⟨this.2.2, .inl ⟨by have := uread_pos hu; omega, this.2.1⟩⟩
  ·rename_i r hr; split at h
   ·unfold bnext at h; have := bend_last h; exact ⟨this.2.2, .inr ⟨this.1, by rw [this.2.1]; simp⟩⟩
   ·unfold bsym at h; have hco := (hb.some_ r hr).2.1.code; split at h
    ·cases h
    ·cases h
    ·rename_i c k hc; have := bend_last h; exact ⟨this.2.2, .inl ⟨by have := cstep_pos hco hc; omega, this.2.1⟩⟩
    ·rename_i c s k hc; unfold btold at h; split at h
     ·cases h
     ·have := bend_last h; exact ⟨this.2.2, .inl ⟨by have := cstep_pos hco hc; omega, this.2.1⟩⟩
theorem last_room {b : BS} (hb : b.Ok) : b.last.length <= b.room := by
 cases hr : b.row with
 | none => rw [(hb.none_ hr).1]; exact Nat.zero_le _
 | some r =>
  obtain ⟨h1, h2, h3, h4, h5⟩ := hb.some_ r hr; have := h2.zeros.sum; omega
section
variable {room : Nat} {l : List Bool}
end
end Go.Q23
namespace Go.Ma
open Go.M01 Go.Mb Go.Mp Go.M10 Go.Mc Go.Mz Go.Mk Go.Q20 Go.Q21 Go.Q22 Go.Mw Go.Mx Go.Mv
theorem some_of {T : Nat -> Bool} {i k : Nat} (hk : k < 16) (h : T (16 * i + k) = true) : someB T i = true := by
 unfold someB; rw [List.any_eq_true]; exact ⟨k, List.mem_range.2 hk, h⟩
theorem whichB_at {T : Nat -> Bool} {i : Nat} (h : i < 16) : (whichB T 16).getD i false = someB T i := by
 rw [whichB_get T 16 i h, decide_eq_true h, Bool.true_and]
theorem marks_which (T : Nat -> Bool) : marksL (whichB T 16) = (List.range 16).filter (someB T) := by
 unfold marksL; exact List.filter_congr fun i hi => whichB_at (List.mem_range.1 hi)
theorem cnt_which {T : Nat -> Bool} {i : Nat} (h : i <= 16) : Q21.cnt (whichB T 16) i = ((List.range i).filter (someB T)).length := by
 unfold Q21.cnt
 congr 1
 exact List.filter_congr fun j hj => whichB_at (by have := List.mem_range.1 hj; omega)
theorem rowsB_len16 (T : Nat -> Bool) : ∀ j, (rowsB T j).length = 16 * ((List.range j).filter (someB T)).length
 | 0 => rfl
 | j + 1 => by
  rw [rowsB, List.length_append, rowsB_len16 T j, List.range_succ, List.filter_append, List.length_append]
  cases h : someB T j with
  | true => rw [if_pos rfl, bitR_len, List.filter_cons_of_pos h]; simp; omega
  | false => rw [if_neg (by simp), List.filter_cons_of_neg (by simp [h])]; simp
theorem rowsB_pre (T : Nat -> Bool) (j : Nat) : ∀ d, ∃ r, rowsB T (j + d) = rowsB T j ++ r
 | 0 => ⟨[], by simp⟩
 | d + 1 => by
  obtain ⟨r, hr⟩ := rowsB_pre T j d; exact ⟨r ++ _, by rw [<- Nat.add_assoc, rowsB, hr, List.append_assoc]⟩
theorem usedB_len16 (T : Nat -> Bool) : (usedB T).length = 16 + 16 * ((List.range 16).filter (someB T)).length := by
 unfold usedB; rw [List.length_append, whichB_len, rowsB_len16]
theorem used_back (T : Nat -> Bool) (rest : List Bool) (hne : listed T ≠ []) : ∃ T', uread (usedB T ++ rest) = .ok T' (usedB T).length /\ listed T' = listed T := by
 have hl := usedB_len16 T
 have ht : (usedB T ++ rest).take 16 = whichB T 16 := by
  unfold usedB; rw [List.append_assoc, List.take_append_of_le_length (by rw [whichB_len]; exact Nat.le_refl _), List.take_of_length_le (by rw [whichB_len]; exact Nat.le_refl _)]
 have hT : ∀ b, b < 256 -> usedOf (usedB T ++ rest) b = T b := by
  intro b hb
  have hi : b / 16 < 16 := by omega
  have hk : b % 16 < 16 := Nat.mod_lt _ (by decide); have h1 := used_at (l := usedB T ++ rest) hi hk (by rw [List.length_append, hl]; omega); rw [show 16 * (b / 16) + b % 16 = b by omega, ht, cnt_which (by omega)] at h1; rw [h1]
  have h2 : (usedB T ++ rest).getD (b / 16) false = someB T (b / 16) := by
   rw [<- whichB_at hi]; unfold usedB; rw [List.append_assoc, List.getD_eq_getElem?_getD, List.getD_eq_getElem?_getD, List.getElem?_append_left (by rw [whichB_len]; exact hi)]
  rw [h2]
  cases hs : someB T (b / 16) with
  | false =>
   rw [Bool.false_and]
   cases hb2 : T b with
   | false => rfl
   | true =>
    have := some_of (T := T) (i := b / 16) hk (by rw [show 16 * (b / 16) + b % 16 = b by omega]; exact hb2); rw [hs] at this; cases this
  | true =>
   rw [Bool.true_and]; obtain ⟨r, hr⟩ := rowsB_pre T (b / 16 + 1) (15 - b / 16)
   have hr2 : rowsB T (b / 16 + 1) = rowsB T (b / 16) ++ bitR T (b / 16) := by rw [rowsB, hs, if_pos rfl]
   rw [show b / 16 + 1 + (15 - b / 16) = 16 by omega, hr2] at hr
   have h3 : (usedB T ++ rest) = whichB T 16 ++ (rowsB T (b / 16) ++ (bitR T (b / 16) ++ (r ++ rest))) := by
    unfold usedB; rw [hr]; simp only [List.append_assoc]
   have h4 := rowsB_len16 T (b / 16)
   rw [h3, List.getD_eq_getElem?_getD, List.getElem?_append_right (by rw [whichB_len]; omega), whichB_len, List.getElem?_append_right (by omega), h4,
    show 16 + 16 * ((List.range (b / 16)).filter (someB T)).length + b % 16 - 16 - 16 * ((List.range (b / 16)).filter (someB T)).length = b % 16 by omega,
    List.getElem?_append_left (by rw [bitR_len]; exact hk), <- List.getD_eq_getElem?_getD, bitR_get _ _ _ hk]
   congr 1
   omega
 have hL : listed (usedOf (usedB T ++ rest)) = listed T := by
  unfold listed
  congr 1
  exact List.filter_congr fun b hb => hT b (List.mem_range.1 hb)
 refine ⟨usedOf (usedB T ++ rest), ?_, hL⟩; unfold uread; rw [ht, marks_which, if_neg (by rw [List.length_append, hl]; omega), if_neg (by rw [List.length_append, hl]; omega), hl]
 have e : usedT ((List.range 16).filter (someB T)) ((usedB T ++ rest).drop 16) = usedOf (usedB T ++ rest) := by
  unfold usedOf; rw [ht, marks_which]
 rw [e, if_neg (by rw [hL]; exact hne)]
theorem mtf_back (o : List UInt8) (s : List UInt8) (hs : ∀ c ∈ s, c ∈ o) : mall o (mtfE o s).2 = ((mtfE o s).1, s) := by
 have key : ∀ i, i <= s.length -> mall o (mtfE o (s.take i)).2 = ((mtfE o (s.take i)).1, s.take i) := by
  intro i
  induction i with
  | zero => intro _; rfl
  | succ i ih =>
   intro hi
   have e : s.take (i + 1) = s.take i ++ [s[i]] := by rw [List.take_add_one, List.getElem?_eq_getElem (by omega)]; rfl
   have hm := (mtfE_inv (o := o) (s := s.take i) fun c hc => hs c (List.mem_of_mem_take hc)).1; have hc : s[i] ∈ (mtfE o (s.take i)).1 := (hm _).2 (hs _ (List.getElem_mem _)); rw [e, mtfE_snoc]; unfold mE; simp only; rw [mall_snoc, ih (by omega)]; unfold mstep; simp only; rw [idx_at hc]
 have := key s.length (Nat.le_refl _); rw [List.take_length] at this; exact this
def zfold (x : Option (ZS × List Nat)) (L : List Nat) : Option (ZS × List Nat) := L.foldl zstep x
theorem zfold_one (x : Option (ZS × List Nat)) (c : Nat) : zfold x [c] = zstep x c := rfl
theorem zfold_app (x : Option (ZS × List Nat)) (A B : List Nat) : zfold x (A ++ B) = zfold (zfold x A) B := by simp [zfold]
theorem foldl_valR : ∀ (r : List Nat) (a w : Nat), r.foldl (fun x c => (x.1 + x.2 * 2 ^ c, 2 * x.2)) (a, w) = (a + w * (valR r).1, w * (valR r).2)
 | [], a, w => by simp [valR]
 | c :: r, a, w => by
  have h1 := foldl_valR r (a + w * 2 ^ c) (2 * w); have h2 := foldl_valR r (0 + 1 * 2 ^ c) (2 * 1)
  have e : valR (c :: r) = (0 + 1 * 2 ^ c + 2 * 1 * (valR r).1, 2 * 1 * (valR r).2) := by rw [<- h2]; rfl
  rw [List.foldl_cons, h1, e]; refine Prod.ext ?_ ?_
  ·show a + w * 2 ^ c + 2 * w * (valR r).1 = a + w * (0 + 1 * 2 ^ c + 2 * 1 * (valR r).1); rw [Nat.mul_add, Nat.zero_add, Nat.one_mul, Nat.mul_one, <- Nat.mul_assoc, Nat.mul_comm w 2, Nat.add_assoc]
  ·show 2 * w * (valR r).2 = w * (2 * 1 * (valR r).2); rw [Nat.mul_one, <- Nat.mul_assoc, Nat.mul_comm w 2]
theorem valR_cons (c : Nat) (r : List Nat) : (valR (c :: r)).1 = 2 ^ c + 2 * (valR r).1 := by
 have h2 := foldl_valR r (0 + 1 * 2 ^ c) (2 * 1)
 have e : valR (c :: r) = (0 + 1 * 2 ^ c + 2 * 1 * (valR r).1, 2 * 1 * (valR r).2) := by rw [<- h2]; rfl
 rw [e]; simp
theorem valR_rowZ : ∀ (n m : Nat), m <= n -> (valR (rowZ m)).1 = m
 | 0, m, h => by
  rw [show m = 0 by omega, rowZ_zero]; rfl
 | n + 1, m, h => by
  by_cases hm : m = 0
  ·subst hm; rw [rowZ_zero]; rfl
  ·rw [rowZ_pos hm, valR_cons, valR_rowZ n _ (by omega)]; split
   ·simp; omega
   ·simp; omega
theorem zrow_run (n most told : Nat) (pl : List Nat) (hd : Bool) : ∀ (row : List Nat), (∀ c ∈ row, c <= 1) -> told + (valR row).1 <= most ->
  zfold (some (⟨n, most, told, 0, 1, hd⟩, pl)) row = some (⟨n, most, told, (valR row).1, (valR row).2, if row = [] then hd else false⟩, pl) := by
 intro row; refine snocRec (motive := fun row => (∀ c ∈ row, c <= 1) -> told + (valR row).1 <= most -> zfold (some (⟨n, most, told, 0, 1, hd⟩, pl)) row = some (⟨n, most, told, (valR row).1, (valR row).2, if row = [] then hd else false⟩, pl)) row ?_ ?_
 ·intro _ _; rfl
 ·intro t c ih hc hm; have h1 := (valR_mono t [c]).1; rw [zfold_app, ih (fun x hx => hc x (List.mem_append_left _ hx)) (by omega)]; rw [zfold_one]; have hc1 := hc c (by simp); rw [valR_snoc] at hm ⊢; simp only at hm; unfold zstep zput; simp only; rw [if_pos hc1, if_neg (by omega)]
  have e1 : ¬ t ++ [c] = [] := by simp
  simp only [if_neg e1, zone]; simp [Nat.mul_comm]
theorem zeros_back {n room : Nat} {l : List Nat} (hn : 1 <= n) (hp : ∀ p ∈ l, p < n) (hl : l.length <= room) : ∃ z, zall (z0 n room) (rowE l n) = some (z, l) := by
 have key : ∀ i, i <= l.length -> ∃ hd, zfold (some (z0 n room, [])) (zenc (l.take i)).1 = some (⟨n, room, i - (zenc (l.take i)).2, 0, 1, hd⟩, (l.take i).take (i - (zenc (l.take i)).2)) /\
   (zenc (l.take i)).2 <= i /\ l.take i = (l.take i).take (i - (zenc (l.take i)).2) ++ List.replicate (zenc (l.take i)).2 0 := by
  intro i
  induction i with
  | zero => intro _; exact ⟨false, rfl, Nat.le_refl _, by simp [zenc]⟩
  | succ i ih =>
   intro hi; obtain ⟨hd, h1, h2, h3⟩ := ih (by omega)
   have e : l.take (i + 1) = l.take i ++ [l[i]] := by rw [List.take_add_one, List.getElem?_eq_getElem (by omega)]; rfl
   have hpi := hp _ (List.getElem_mem (show i < l.length by omega))
   have hlen : (l.take i).length = i := by rw [List.length_take]; omega
   rw [e, zenc_snoc]; generalize hq : l[i] = p at *; generalize hz : zenc (l.take i) = x at *; obtain ⟨A, m⟩ := x; simp only at h1 h2 h3; unfold zE
   by_cases h0 : p = 0
   ·rw [if_pos h0]; simp only; refine ⟨hd, ?_, by omega, ?_⟩
    ·rw [h1, show i + 1 - (m + 1) = i - m by omega, List.take_append_of_le_length (by omega)]
    ·rw [show i + 1 - (m + 1) = i - m by omega, List.take_append_of_le_length (by omega), List.replicate_succ', <- List.append_assoc, <- h3, h0]
   ·rw [if_neg h0]; simp only; have hlr : (l.take i).take (i - m) ++ List.replicate m 0 = l.take i := h3.symm; refine ⟨false, ?_, Nat.zero_le _, by rw [Nat.sub_zero, List.take_of_length_le (i := i + 1) (l := l.take i ++ [p]) (by rw [List.length_append, hlen]; exact Nat.le_refl _)]; simp⟩; rw [zfold_app, zfold_app, h1, zrow_run n room (i - m) _ hd (rowZ m) (rowZ_le m) (by rw [valR_rowZ m m (Nat.le_refl _)]; omega), valR_rowZ m m (Nat.le_refl _)]; rw [zfold_one]; unfold zstep zput; simp only; rw [if_neg (by omega), if_neg (by omega), if_neg (by omega)]; simp only [zone]; rw [if_pos (by omega), show i - m + 1 + m = i + 1 by omega, Nat.sub_zero]
    have e3 : (((p + 1 : Nat) : Int) - 1).toNat = p := by omega
    rw [e3, <- List.append_assoc, hlr, List.take_of_length_le (i := i + 1) (l := l.take i ++ [p]) (by rw [List.length_append, hlen]; exact Nat.le_refl _)]
 obtain ⟨hd, h1, h2, h3⟩ := key l.length (Nat.le_refl _); rw [List.take_length] at h1 h2 h3; generalize hz : zenc l = x at *; obtain ⟨A, m⟩ := x; simp only at h1 h2 h3
 have hrow : rowE l n = A ++ rowZ m ++ [n + 1] := by unfold rowE; rw [hz]
 refine ⟨⟨n, room, l.length - m + m, 0, 1, true⟩, ?_⟩; show zfold (some (z0 n room, [])) (rowE l n) = _; rw [hrow, zfold_app, zfold_app, h1, zrow_run n room (l.length - m) _ hd (rowZ m) (rowZ_le m) (by rw [valR_rowZ m m (Nat.le_refl _)]; omega), valR_rowZ m m (Nat.le_refl _)]; rw [zfold_one]; unfold zstep zput; simp only; rw [if_neg (by omega), if_pos trivial]; simp only [zone]; rw [if_neg (by omega), List.append_nil, <- h3]
theorem lead_rep (a : Nat) (rest : List Bool) : lead (List.replicate a true ++ (false :: rest)) = a := by
 induction a with
 | zero => rfl
 | succ a ih => rw [List.replicate_succ, List.cons_append, lead, ih]
theorem front_take {o : List Nat} {i t : Nat} (hi : i < t) (ht : t <= o.length) (p : Nat) : p ∈ (front o i).take t ↔ p ∈ o.take t := by
 have h1 : o.take t = o.take i ++ o.getD i 0 :: (o.drop (i + 1)).take (t - 1 - i) := by
  rw [show t = i + (1 + (t - 1 - i)) by omega, List.take_add, List.drop_eq_getElem_cons (by omega), Nat.add_comm 1, List.take_succ_cons, List.getD_eq_getElem?_getD, List.getElem?_eq_getElem (by omega)]; simp
 have h2 : (front o i).take t = o.getD i 0 :: (o.take i ++ (o.drop (i + 1)).take (t - 1 - i)) := by
  unfold front; obtain ⟨u, hu⟩ : ∃ u, t = u + 1 := ⟨t - 1, by omega⟩; subst hu
  have hl : (o.take i).length = i := by rw [List.length_take]; omega
  rw [List.take_succ_cons, List.take_append, hl, List.take_of_length_le (by omega), show u + 1 - 1 - i = u - i by omega]
 rw [h1, h2]; simp only [List.mem_cons, List.mem_append]
 constructor
 ·rintro (h | h | h)
  ·exact .inr (.inl h)
  ·exact .inl h
  ·exact .inr (.inr h)
 ·rintro (h | h | h)
  ·exact .inr (.inl h)
  ·exact .inl h
  ·exact .inr (.inr h)
theorem idx_take {o : List Nat} {t p : Nat} (h : p ∈ o.take t) : o.idxOf p < t := by
 have e : o = o.take t ++ o.drop t := (List.take_append_drop t o).symm
 have h1 : o.idxOf p = (o.take t).idxOf p := by
  conv => lhs; rw [e]
  rw [List.idxOf_append, if_pos h]
 rw [h1]; have := List.idxOf_lt_length_of_mem h; rw [List.length_take] at this; omega
theorem picks_back {picks : List Nat} {t : Nat} (ht : 2 <= t /\ t <= 6) (h0 : picks ≠ []) (hl : picks.length <= 32767) (hp : ∀ p ∈ picks, p < t) (rest : List Bool) :
  ∃ p, PRun (picksB picks t ++ rest) p (picksB picks t).length /\ p.t = t /\ p.picks = picks /\ p.done = true := by
 have hpos := List.length_pos_iff.2 h0; have h3 : (bitsOf t 3).length = 3 := bitsOf_len _ _; have h15 : (bitsOf picks.length 15).length = 15 := bitsOf_len _ _; generalize hl0 : picksB picks t ++ rest = l
 have hl1 : l = bitsOf t 3 ++ (bitsOf picks.length 15 ++ (onesB (pickE [0, 1, 2, 3, 4, 5] picks).2 ++ rest)) := by rw [<- hl0]; unfold picksB; simp only [List.append_assoc]
 have hlen18 : 18 <= l.length := by rw [hl1]; simp only [List.length_append]; omega
 have hv := valB_18 hlen18
 have e3 : l.take 3 = bitsOf t 3 := by rw [hl1, List.take_append_of_le_length (by omega), List.take_of_length_le (by omega)]
 have e15 : (l.drop 3).take 15 = bitsOf picks.length 15 := by
  rw [hl1, List.drop_append_of_le_length (by omega), List.drop_of_length_le (by omega), List.nil_append, List.take_append_of_le_length (by omega), List.take_of_length_le (by omega)]
 rw [e3, e15, valB_bitsOf _ _ (show t < 2 ^ 3 by omega), valB_bitsOf _ _ (show picks.length < 2 ^ 15 by omega)] at hv
 have hstart : PRun l ⟨t, picks.length, [0, 1, 2, 3, 4, 5], []⟩ (0 + 18) := by
  refine Run.next .start rfl ?_; rw [List.drop_zero]; unfold pstep; rw [if_pos (show p0.count = 0 from rfl), if_neg (by omega), hv.1, hv.2, if_neg (by omega)]; rfl
 have key : ∀ i, i <= picks.length -> PRun l ⟨t, picks.length, (pickE [0, 1, 2, 3, 4, 5] (picks.take i)).1, picks.take i⟩ (18 + (onesB (pickE [0, 1, 2, 3, 4, 5] (picks.take i)).2).length) /\
   (∀ p, p < t -> p ∈ (pickE [0, 1, 2, 3, 4, 5] (picks.take i)).1.take t) /\ (pickE [0, 1, 2, 3, 4, 5] (picks.take i)).1.length = 6 := by
  intro i
  induction i with
  | zero =>
   intro _; refine ⟨hstart, fun p hp => ?_, rfl⟩; show p ∈ ([0, 1, 2, 3, 4, 5] : List Nat).take t; have ht2 := ht.2
   have e : ([0, 1, 2, 3, 4, 5] : List Nat).take t = List.range t := by
    rcases (show t = 2 \/ t = 3 \/ t = 4 \/ t = 5 \/ t = 6 by omega) with h | h | h | h | h <;> subst h <;> rfl
   rw [e]; exact List.mem_range.2 hp
  | succ i ih =>
   intro hi; obtain ⟨hr, hm, h6⟩ := ih (by omega)
   have e : picks.take (i + 1) = picks.take i ++ [picks[i]] := by rw [List.take_add_one, List.getElem?_eq_getElem (by omega)]; rfl
   have hpi := hp _ (List.getElem_mem (show i < picks.length by omega))
   have hsplit : (pickE [0, 1, 2, 3, 4, 5] picks).2 = (pickE [0, 1, 2, 3, 4, 5] (picks.take (i + 1))).2 ++ ((pickE [0, 1, 2, 3, 4, 5] picks).2).drop (i + 1) := by
    have hpre : ∀ d, ∃ r, (pickE [0, 1, 2, 3, 4, 5] (picks.take (i + 1 + d))).2 = (pickE [0, 1, 2, 3, 4, 5] (picks.take (i + 1))).2 ++ r := by
     intro d
     induction d with
     | zero => exact ⟨[], by simp⟩
     | succ d ihd =>
      obtain ⟨r, hr⟩ := ihd; rcases Nat.lt_or_ge (i + 1 + d) picks.length with q | q
      ·have e5 : picks.take (i + 1 + (d + 1)) = picks.take (i + 1 + d) ++ [picks[i + 1 + d]] := by rw [<- Nat.add_assoc, List.take_add_one, List.getElem?_eq_getElem q]; rfl
       rw [e5, pickE_snoc]; unfold pE; simp only; exact ⟨r ++ _, by rw [hr, List.append_assoc]⟩
      ·have e5 : picks.take (i + 1 + (d + 1)) = picks.take (i + 1 + d) := by rw [List.take_of_length_le (i := i + 1 + (d + 1)) (by omega), List.take_of_length_le (i := i + 1 + d) (by omega)]
       rw [e5]; exact ⟨r, hr⟩
    obtain ⟨r, hr⟩ := hpre (picks.length - (i + 1)); rw [show i + 1 + (picks.length - (i + 1)) = picks.length by omega, List.take_length] at hr
    have hlen : (pickE [0, 1, 2, 3, 4, 5] (picks.take (i + 1))).2.length = i + 1 := by
     have := (pickE_inv (o := [0, 1, 2, 3, 4, 5]) (l := picks.take (i + 1)) fun c hc => by
      have := hp c (List.mem_of_mem_take hc)
      rcases (show c = 0 \/ c = 1 \/ c = 2 \/ c = 3 \/ c = 4 \/ c = 5 by omega) with h | h | h | h | h | h <;> rw [h] <;> simp).2.2.1
     rw [this, List.length_take]; omega
    rw [hr, List.drop_append_of_le_length (by omega), List.drop_of_length_le (by omega), List.nil_append]
   rw [e, pickE_snoc] at hsplit ⊢; generalize hx : pickE [0, 1, 2, 3, 4, 5] (picks.take i) = x at *; obtain ⟨O, A⟩ := x; unfold pE at hsplit ⊢; simp only at hr hm h6 hsplit ⊢; have hc := hm _ hpi; have ha := idx_take hc; have hcm : picks[i] ∈ O := List.mem_of_mem_take hc; generalize hq : picks[i] = c at *
   have hdrop : l.drop (18 + (onesB A).length) = List.replicate (O.idxOf c) true ++ (false :: (onesB (((pickE [0, 1, 2, 3, 4, 5] picks).2).drop (i + 1)) ++ rest)) := by
    rw [hl1]
    have e6 : onesB (pickE [0, 1, 2, 3, 4, 5] picks).2 = onesB A ++ (List.replicate (O.idxOf c) true ++ [false]) ++ onesB (((pickE [0, 1, 2, 3, 4, 5] picks).2).drop (i + 1)) := by
     conv => lhs; rw [hsplit]
     simp only [onesB, List.flatMap_append, List.flatMap_cons, List.flatMap_nil, List.append_nil]
    rw [e6]
    have e7 : bitsOf t 3 ++ (bitsOf picks.length 15 ++ (onesB A ++ (List.replicate (O.idxOf c) true ++ [false]) ++ onesB (((pickE [0, 1, 2, 3, 4, 5] picks).2).drop (i + 1)) ++ rest)) =
      (bitsOf t 3 ++ bitsOf picks.length 15 ++ onesB A) ++ (List.replicate (O.idxOf c) true ++ (false :: (onesB (((pickE [0, 1, 2, 3, 4, 5] picks).2).drop (i + 1)) ++ rest))) := by
     simp only [List.append_assoc, List.cons_append, List.nil_append]
    rw [e7, List.drop_append_of_le_length (by simp only [List.length_append]; omega), List.drop_of_length_le (by simp only [List.length_append]; omega), List.nil_append]
   have hlead : lead (l.drop (18 + (onesB A).length)) = O.idxOf c := by rw [hdrop, lead_rep]
   refine ⟨?_, fun p hp => (front_take ha (by omega) p).2 (hm p hp), by rw [front_len (List.idxOf_lt_length_of_mem hcm)]; exact h6⟩
   have hstep := Run.next (n := O.idxOf c + 1) (s' := ⟨t, picks.length, front O (O.idxOf c), picks.take i ++ [c]⟩) hr (by
    unfold PS.done
    exact decide_eq_false (by simp only [List.length_take]; omega)) (by
    unfold pstep; simp only
    rw [if_neg (by omega), hlead, if_neg (by omega), if_neg (by rw [hdrop, List.length_append, List.length_replicate, List.length_cons]; omega), idxN_at hcm])
   rw [onesB_snoc, List.length_append, List.length_append, List.length_replicate, List.length_singleton, <- Nat.add_assoc]; exact hstep
 obtain ⟨hr, _, _⟩ := key picks.length (Nat.le_refl _); rw [List.take_length] at hr
 have hlb : (picksB picks t).length = 18 + (onesB (pickE [0, 1, 2, 3, 4, 5] picks).2).length := by
  unfold picksB; rw [List.length_append, List.length_append, h3, h15]
 rw [hlb]; refine ⟨_, hr, rfl, rfl, ?_⟩; unfold PS.done; exact decide_eq_true ⟨hpos, rfl⟩
theorem turn_ok {d : DS} {n : Nat} {k : Nat} (h : 1 <= n /\ n <= 20) : turn d (n : Int) k = .ok ⟨d.size, n, d.lens⟩ k := by
 unfold turn; rw [if_neg (by omega)]; rfl
theorem flat_rep (j : Nat) (x y : Bool) : (List.replicate j [x, y]).flatten.length = 2 * j := by
 induction j with
 | zero => rfl
 | succ j ih => rw [List.replicate_succ, List.flatten_cons, List.length_append, ih]; simp; omega
theorem ups {size : Nat} {l rest : List Bool} {lens : List Nat} {a : Nat} (hd : lens.length < size) (ha : 1 <= a) : ∀ (j k : Nat), a + j <= 20 -> DRun size l ⟨size, a, lens⟩ k -> l.drop k = (List.replicate j [true, false]).flatten ++ rest -> DRun size l ⟨size, a + j, lens⟩ (k + 2 * j) /\ l.drop (k + 2 * j) = rest
 | 0, k, _, hr, he => ⟨hr, by rw [Nat.mul_zero, Nat.add_zero, he]; rfl⟩
 | j + 1, k, hj, hr, he => by
  rw [List.replicate_succ', List.flatten_append] at he
  have he2 : l.drop k = (List.replicate j [true, false]).flatten ++ ([true, false] ++ rest) := by rw [he]; simp
  have ih := ups (rest := [true, false] ++ rest) hd ha j k (by omega) hr he2
  have hs := Run.next (n := 2) (s' := ⟨size, a + (j + 1), lens⟩) ih.1 (by unfold DS.done; exact decide_eq_false (by simp only; omega)) (by
   rw [ih.2]; unfold dstep; simp only; rw [if_neg (by omega)]; show turn _ (((a + j : Nat) : Int) + 1 - 2 * ((false.toNat : Nat) : Int)) 2 = _; rw [show ((a + j : Nat) : Int) + 1 - 2 * ((false.toNat : Nat) : Int) = ((a + (j + 1) : Nat) : Int) by simp; omega]
   exact turn_ok (by omega))
  refine ⟨by rw [show k + 2 * (j + 1) = k + 2 * j + 2 by omega]; exact hs, ?_⟩; rw [show k + 2 * (j + 1) = k + 2 * j + 2 by omega, <- List.drop_drop, ih.2]; rfl
theorem downs {size : Nat} {l rest : List Bool} {lens : List Nat} {a : Nat} (hd : lens.length < size) (ha : a <= 20) : ∀ (j k : Nat), j + 1 <= a -> DRun size l ⟨size, a, lens⟩ k -> l.drop k = (List.replicate j [true, true]).flatten ++ rest -> DRun size l ⟨size, a - j, lens⟩ (k + 2 * j) /\ l.drop (k + 2 * j) = rest
 | 0, k, _, hr, he => ⟨hr, by rw [Nat.mul_zero, Nat.add_zero, he]; rfl⟩
 | j + 1, k, hj, hr, he => by
  rw [List.replicate_succ', List.flatten_append] at he
  have he2 : l.drop k = (List.replicate j [true, true]).flatten ++ ([true, true] ++ rest) := by rw [he]; simp
  have ih := downs (rest := [true, true] ++ rest) hd ha j k (by omega) hr he2
  have hs := Run.next (n := 2) (s' := ⟨size, a - (j + 1), lens⟩) ih.1 (by unfold DS.done; exact decide_eq_false (by simp only; omega)) (by
   rw [ih.2]; unfold dstep; simp only; rw [if_neg (by omega)]; show turn _ (((a - j : Nat) : Int) + 1 - 2 * ((true.toNat : Nat) : Int)) 2 = _; rw [show ((a - j : Nat) : Int) + 1 - 2 * ((true.toNat : Nat) : Int) = ((a - (j + 1) : Nat) : Int) by simp; omega]
   exact turn_ok (by omega))
  refine ⟨by rw [show k + 2 * (j + 1) = k + 2 * j + 2 by omega]; exact hs, ?_⟩; rw [show k + 2 * (j + 1) = k + 2 * j + 2 by omega, <- List.drop_drop, ih.2]; rfl
theorem stepsB_run {size : Nat} {l rest : List Bool} : ∀ (xs lens : List Nat) (a k : Nat), lens.length + xs.length <= size -> 1 <= a /\ a <= 20 -> (∀ x ∈ xs, 1 <= x /\ x <= 20) -> DRun size l ⟨size, a, lens⟩ k -> l.drop k = stepsB a xs ++ rest ->
  ∃ b, DRun size l ⟨size, b, lens ++ xs⟩ (k + (stepsB a xs).length) /\ l.drop (k + (stepsB a xs).length) = rest
 | [], lens, a, k, _, _, _, hr, he => ⟨a, by rw [List.append_nil]; exact hr, he⟩
 | x :: xs, lens, a, k, hs, ha, hx, hr, he => by
  have hx0 := hx x (List.mem_cons_self ..); simp only [List.length_cons] at hs
  have e : stepsB a (x :: xs) = moves a x ++ [false] ++ stepsB x xs := by rfl
  rw [e] at he ⊢
  have he1 : l.drop k = (List.replicate (x - a) [true, false]).flatten ++ ((List.replicate (a - x) [true, true]).flatten ++ ([false] ++ (stepsB x xs ++ rest))) := by
   rw [he]; unfold moves; simp only [List.append_assoc]
  obtain ⟨r1, d1⟩ := ups (by omega) ha.1 (x - a) k (by omega) hr he1; have h2 : DRun size l ⟨size, a + (x - a) - (a - x), lens⟩ (k + 2 * (x - a) + 2 * (a - x)) /\ l.drop (k + 2 * (x - a) + 2 * (a - x)) = [false] ++ (stepsB x xs ++ rest) := downs (by omega) (by omega) (a - x) _ (by omega) r1 d1; rw [show a + (x - a) - (a - x) = x by omega] at h2; obtain ⟨r2, d2⟩ := h2
  have r3 := Run.next (n := 1) (s' := ⟨size, x, lens ++ [x]⟩) r2 (by unfold DS.done; exact decide_eq_false (by simp only; omega)) (by
   rw [d2]; unfold dstep; simp only; rw [if_neg (by omega)]
   rfl)
  have d3 : l.drop (k + 2 * (x - a) + 2 * (a - x) + 1) = stepsB x xs ++ rest := by rw [<- List.drop_drop, d2]; rfl
  have hml : (moves a x).length = 2 * (x - a) + 2 * (a - x) := by unfold moves; rw [List.length_append, flat_rep, flat_rep]
  obtain ⟨b, r4, d4⟩ := stepsB_run xs (lens ++ [x]) x _ (by rw [List.length_append, List.length_singleton]; omega) hx0 (fun y hy => hx y (List.mem_cons_of_mem _ hy)) r3 d3; refine ⟨b, ?_, ?_⟩
  ·rw [List.length_append, List.length_append, List.length_singleton, hml, show k + (2 * (x - a) + 2 * (a - x) + 1 + (stepsB x xs).length) = k + 2 * (x - a) + 2 * (a - x) + 1 + (stepsB x xs).length by omega]; rw [List.append_assoc] at r4; exact r4
  ·rw [List.length_append, List.length_append, List.length_singleton, hml, show k + (2 * (x - a) + 2 * (a - x) + 1 + (stepsB x xs).length) = k + 2 * (x - a) + 2 * (a - x) + 1 + (stepsB x xs).length by omega]; exact d4
theorem lens_back {lens : List Nat} (hne : lens ≠ []) (hs : Sized lens) (rest : List Bool) : ∃ d, DRun lens.length (lensB lens ++ rest) d (lensB lens).length /\ d.lens = lens /\ d.done = true := by
 have hpos := List.length_pos_iff.2 hne
 have h0 : 1 <= lens.getD 0 0 /\ lens.getD 0 0 <= 20 := by
  rw [List.getD_eq_getElem?_getD, List.getElem?_eq_getElem hpos]; exact hs _ (List.getElem_mem hpos)
 have h5 : (bitsOf (lens.getD 0 0) 5).length = 5 := bitsOf_len _ _; generalize ha : lens.getD 0 0 = a at *
 have hl : lensB lens ++ rest = bitsOf a 5 ++ (stepsB a lens ++ rest) := by unfold lensB; rw [ha, List.append_assoc]
 have hstart : DRun lens.length (lensB lens ++ rest) ⟨lens.length, a, []⟩ (0 + 5) := by
  refine Run.next .start (by unfold DS.done d0; exact decide_eq_false (by simp only [List.length_nil]; omega)) ?_; rw [List.drop_zero, hl]; unfold dstep d0; simp only; rw [if_pos trivial, if_neg (by simp only [List.length_append]; omega), List.take_append_of_le_length (by omega), List.take_of_length_le (by omega), valB_bitsOf _ _ (show a < 2 ^ 5 by omega)]; exact turn_ok h0
 have hdrop : (lensB lens ++ rest).drop (0 + 5) = stepsB a lens ++ rest := by
  rw [hl, List.drop_append_of_le_length (by omega), List.drop_of_length_le (by omega), List.nil_append]
 obtain ⟨b, hr, _⟩ := stepsB_run lens [] a _ (by simp) h0 hs hstart hdrop
 have e : (lensB lens).length = 0 + 5 + (stepsB a lens).length := by unfold lensB; rw [ha, List.length_append, h5]
 refine ⟨_, by rw [e]; exact hr, rfl, ?_⟩; unfold DS.done; exact decide_eq_true (by simp)
end Go.Ma
namespace Go.Proofs.YtgaiocpkjaaphaaGreatDoor
open Go Go.Vc
attribute [local irreducible] Vc.Nc Vc.Ld Vc.LdA Vc.St Vc.StA Vc.Fo Vc.Iaa Vc.Ias Vc.Ixs Vc.Ixa Vc.Fd Vc.FdA Vc.Bp Vc.Bb Vc.Bn Vc.Up Vc.Ci Vc.Lns Vc.Lnl Vc.Ex Vc.Sst Vc.Ssl Vc.New Vc.Vif Vc.VJoin Vc.VLoop Vc.KE Vc.Dr Vc.Rk Vc.Cl Vc.Cx Vc.Inv Vc.Be Vc.Cv Vc.Cw Vc.Mf Vc.Sl Vc.Lk Vc.Bd Vc.Bs Vc.Ms Vc.Mm Vc.Mu Vc.Me Vc.Es Vc.Rg Vc.Nx Vc.Ta Vc.Ap Vc.Usd Vc.Ust Vc.Cp Vc.Ln Vc.Bc Vc.Bmin Vc.Bmax Vc.Bdel Vc.Bclr Vc.Pk
namespace W20
open Go.M01 Go.Mb Go.M10 Go.Mz Go.Mw Go.Mx Go.Mv Go.Mh F08 Rw T12 W14
variable {w : World} {L : List HProp} {K : Value -> World -> Prop} {wb n : Nat} {bs : List Bool}
def symsOf (s : List UInt8) : List UInt8 := listed (upT s)
def rowOf (s : List UInt8) : List Nat := rowE (mtfE (symsOf s) s).2 (symsOf s).length
theorem mem_syms {s : List UInt8} {c : UInt8} (h : c ∈ s) : c ∈ symsOf s := by
 have h1 : c.toNat < 256 := c.toNat_lt
 have h2 : UInt8.ofNat c.toNat = c := by simp
 unfold symsOf listed; refine List.mem_map.2 ⟨c.toNat, List.mem_filter.2 ⟨List.mem_range.2 h1, ?_⟩, h2⟩; unfold upT; rw [h2]; exact decide_eq_true h
theorem syms_len {s : List UInt8} (h : s ≠ []) : 1 <= (symsOf s).length /\ (symsOf s).length <= 256 := by
 refine ⟨?_, listed_len _⟩
 cases s with
 | nil => exact absurd rfl h
 | cons c r => exact List.length_pos_of_mem (mem_syms (List.mem_cons_self ..))
theorem places_ok (s : List UInt8) : (mtfE (symsOf s) s).2.length = s.length /\ ∀ p ∈ (mtfE (symsOf s) s).2, p < (symsOf s).length := by
 have := mtfE_inv (o := symsOf s) (s := s) fun c hc => mem_syms hc; exact ⟨this.2.2.1, this.2.2.2⟩
theorem row_ok {s : List UInt8} (h : s ≠ []) (hl : s.length <= 1000000) : W14.Row (rowOf s) ((symsOf s).length + 2) := by
 obtain ⟨h1, h2⟩ := syms_len h; obtain ⟨p1, p2⟩ := places_ok s; generalize hn : (symsOf s).length = n at *; have hrl := rowE_len (mtfE (symsOf s) s).2 n
 have hne : rowOf s = (zenc (mtfE (symsOf s) s).2).1 ++ rowZ (zenc (mtfE (symsOf s) s).2).2 ++ [n + 1] := by unfold rowOf rowE; rw [hn]
 have hro : rowOf s = rowE (mtfE (symsOf s) s).2 n := by unfold rowOf; rw [hn]
 refine ⟨by omega, by omega, by rw [hne]; simp, by rw [hro]; omega, fun x hx => by have := rowE_lt p2 h1 x (by rw [<- hro]; exact hx); omega, fun i hi => ?_⟩
 have hA : ∀ x ∈ (zenc (mtfE (symsOf s) s).2).1 ++ rowZ (zenc (mtfE (symsOf s) s).2).2, x <= n := by
  intro x hx; rcases List.mem_append.1 hx with hx | hx
  ·have := zenc_lt p2 x hx; omega
  ·have := rowZ_le _ x hx; omega
 rw [hne] at hi ⊢; generalize (zenc (mtfE (symsOf s) s).2).1 ++ rowZ (zenc (mtfE (symsOf s) s).2).2 = A at *; rw [List.length_append, List.length_singleton] at hi ⊢; rw [List.getD_eq_getElem?_getD]; rcases Nat.lt_or_ge i A.length with q | q
 ·rw [List.getElem?_append_left q, List.getElem?_eq_getElem q]; have := hA _ (List.getElem_mem q); show A[i] = n + 2 - 1 ↔ _; omega
 ·rw [List.getElem?_append_right q, show i - A.length = 0 by omega]; show n + 1 = n + 2 - 1 ↔ _; omega
def blockBits (s : List UInt8) (origin sum : Nat) (picks : List Nat) (ts : List (List Nat)) : List Bool := bitsOf sum 32 ++ [false] ++ bitsOf origin 24 ++ usedB (upT s) ++ codeBits (rowOf s) picks ts
theorem usedB_len (T : Nat -> Bool) : (usedB T).length <= 272 := by
 unfold usedB; rw [List.length_append, whichB_len]; have := rowsB_len T 16; omega
theorem blockBits_len {s : List UInt8} {origin sum : Nat} {picks : List Nat} {ts : List (List Nat)} (h : s ≠ []) (hl : s.length <= 1000000) (hC : Cho (rowOf s) ((symsOf s).length + 2) picks ts) : (blockBits s origin sum picks ts).length <= 200000 + 30 * s.length := by
 obtain ⟨hT, hpl, hpx⟩ := hC.ok; have hR := row_ok h hl; have h1 := codeBits_len (l := rowOf s) hT hR.s258 hpx; have h2 := usedB_len (upT s)
 have h3 : (rowOf s).length <= s.length + 1 := by
  have := rowE_len (mtfE (symsOf s) s).2 (symsOf s).length; rw [(places_ok s).1] at this; exact this
 have h4 : nGr (rowOf s) = ((rowOf s).length + 49) / 50 := rfl; unfold blockBits; simp only [List.length_append, bitsOf_len, List.length_singleton]; omega
theorem Turned_spec {s : List UInt8} {origin sum : Nat} (H : Holds w (W01.WrR wb bs n :: L)) (hb : BndOk L) (h0 : s ≠ []) (hl : s.length <= 900000) (ho : origin < s.length) (hs : sum < 4294967296) (hbl : bs.length <= 8000000000) (hn : n <= bs.length / 8)
  (k : ∀ picks ts w', Cho (rowOf s) ((symsOf s).length + 2) picks ts -> Same w w' -> Holds w' (W01.WrR wb (bs ++ blockBits s origin sum picks ts) n :: L) -> K (iv 0) w') : Cl Tryz.prog 16 #[pt wb, .string ⟨s.toArray⟩, nv origin, uv sum] w K := by
 refine Tz16 ?_; unfold Vz16; have hpos := List.length_pos_iff.2 h0
 have hsz : (⟨s.toArray⟩ : ByteArray).size = s.length := by simp [ByteArray.size]
 have hR := row_ok h0 (by omega); have hsy := syms_len h0; refine r_bnSF (r_vf ?_); refine r_join1 (fun t w' => w = w' /\ t = .bool false) ?_ ?_
 rotate_left
 ·refine r_seq0 (r_vfD (by rw [hsz]; omega) ?_)
  refine r_lns (by
   rw [hsz]; refine r_gtr (r_vfD (by omega) ?_); refine r_lss (r_vfD (by omega) ?_); refine r_lns ?_; rw [hsz]
   exact r_geq (r_ke ⟨rfl, by rw [decide_eq_false (by omega)]⟩))
 rintro _ _ _ ⟨rfl, rfl⟩; refine r_vf ?_; refine U05.Symbols_spec H (by omega) fun w1 S1 H1 => ?_; refine F06.Encode_spec (T := upT s) H1 (fun e => by have := hsy.1; unfold symsOf at this; rw [e] at this; simp at this) (fun c hc => mem_syms hc) (by omega) fun pv w2 S2 H2 => ?_; refine r_ex20 (r_ex21 ?_)
 have hsz2 : (⟨(listed (upT s)).toArray⟩ : ByteArray).size = (symsOf s).length := by simp [ByteArray.size, symsOf]
 refine r_lns ?_; rw [hsz2]; refine Z07.Encode_spec H2 hsy.1 hsy.2 (by have := (places_ok s).1; unfold symsOf at this; omega) (places_ok s).2 fun rv w3 S3 H3 => ?_; refine r_ex20 (r_ex21 ?_); replace H3 : Holds w3 (SL nv tI rv (rowOf s) :: SL nv tI pv (mtfE (symsOf s) s).2 :: W01.WrR wb bs n :: L) := H3; refine r_lns ?_; rw [hsz2]; refine r_addN (a := (symsOf s).length) (b := 2) (by omega) ?_; refine W14.Bits_spec H3 (i := 0) hb.up.up.up rfl hR fun T w4 S4 H4 => ?_; refine r_ex20 (r_ex21 ?_); refine r_neq (r_vfN rfl ?_)
 have H5 : Holds w4 (W01.WrR wb bs n :: SL nv tI rv (rowOf s) :: L) := by have h_ := Holds.ord 3 [2, 0] H4 rfl; exact h_
 refine W01.Put_spec (v := sum) (n := 32) H5 (by omega) hn (by omega) (by omega) fun w5 S5 H6 => ?_; refine W01.Put_spec (v := 0) (n := 1) H6 (by rw [List.length_append, bitsOf_len]; omega) (by rw [List.length_append]; omega) (by omega) (by omega) fun w6 S6 H7 => ?_; refine r_ciu32 (by omega) (by omega) ?_; refine W01.Put_spec (v := origin) (n := 24) H7 (by rw [List.length_append, List.length_append, bitsOf_len, bitsOf_len]; omega) (by rw [List.length_append, List.length_append]; omega) (by omega) (by omega) fun w7 S7 H8 => ?_
 have e1 : bitsOf 0 1 = [false] := by decide
 rw [e1] at H8; refine U05.Write_spec H8 (fun e => by have := hsy.1; unfold symsOf at this; rw [e] at this; simp at this) (by simp only [List.length_append, bitsOf_len, List.length_singleton]; omega) (by simp only [List.length_append]; omega) fun w8 S8 H9 => ?_; refine r_lns ?_; rw [hsz2]; refine r_addN (a := (symsOf s).length) (b := 2) (by omega) ?_; have hu := usedB_len (upT s); refine W14.Write_spec H9 (i := 0) hb.up rfl hR (by simp only [List.length_append, bitsOf_len, List.length_singleton]; omega) (by simp only [List.length_append]; omega) fun picks ts w9 hC S9 H10 => ?_; refine k picks ts _ hC (S1.trans (S2.trans (S3.trans (S4.trans (S5.trans (S6.trans (S7.trans (S8.trans S9)))))))) ?_; have H11 := Holds.dropAt H10 1; unfold blockBits; simp only [<- List.append_assoc]; exact H11
def padB (l : List Bool) : List Bool := l ++ List.replicate ((8 - l.length % 8) % 8) false
theorem padB_len (l : List Bool) : (padB l).length % 8 = 0 /\ (padB l).length <= l.length + 7 := by unfold padB; rw [List.length_append, List.length_replicate]; omega
theorem Pad_spec (H : Holds w (W01.WrR wb bs n :: L)) (hl : bs.length <= 100000000000) (hn : n <= bs.length / 8)
  (k : ∀ w', Same w w' -> Holds w' (W01.WrR wb (padB bs) n :: L) -> K (.tuple #[]) w') : Cl Tryz.prog 12 #[pt wb] w K := by
 refine Tz12 ?_; unfold Vz12
 refine r_loop0n (fun j w' => j <= (8 - bs.length % 8) % 8 /\ Same w w' /\ Holds w' (W01.WrR wb (bs ++ List.replicate ((8 - bs.length % 8) % 8 - j) false) n :: L)) ((8 - bs.length % 8) % 8) ⟨Nat.le_refl _, .refl _, by
  rw [Nat.sub_self, List.replicate_zero, List.append_nil]; exact H⟩ ?_
 clear H; rintro _ j w1 _ ⟨hj, S1, H1⟩ hgo; generalize hi : (8 - bs.length % 8) % 8 - j = i at *; refine r_bnST (r_vt ?_); refine r_nc ?_; obtain ⟨wv, H2⟩ := W01.WrR_open H1
 have hlen : (bs ++ List.replicate i false).length = bs.length + i := by simp
 refine r_fo0 (r_ld 0 H2 rfl rfl ?_); rw [hlen]; refine r_remE (r := (((bs.length + i) % 8 : Nat) : Int)) (by rw [Int.tmod_eq_emod_of_nonneg (by omega)]; omega) (by omega) ?_; refine r_neq (r_ifN (fun h => ?_) fun h => ?_)
 ·refine W01.bit_spec (c := false) H1 (by rw [hlen]; omega) (by rw [hlen]; omega) fun w2 S2 H3 => ?_; refine r_ke (hgo (j - 1) _ (by omega) ⟨by omega, S1.trans S2, ?_⟩); rw [show (8 - bs.length % 8) % 8 - (j - 1) = i + 1 by omega, List.replicate_succ', <- List.append_assoc]; exact H3
 ·refine k _ S1 ?_; unfold padB; rw [show (8 - bs.length % 8) % 8 = i by omega]; exact H1
theorem Len_spec (H : Holds w (W01.WrR wb bs n :: L)) (k : K (nv bs.length) w) : Cl Tryz.prog 11 #[pt wb] w K := by
 refine Tz11 ?_; unfold Vz11; obtain ⟨wv, H2⟩ := W01.WrR_open H; refine r_bnSF (r_vf (r_nc (r_fo0 (r_ld 0 H2 rfl rfl k))))
end W20
namespace S17
open Go.Mr Go.M18 S16
variable {w : World} {L : List HProp} {K : Value -> World -> Prop} {b sb : Nat} {s : List UInt8} {x : SS}
abbrev tTu : Nat := 203
def aheadB (s : List UInt8) (a : Nat) : UInt8 := if a = 0 then s.getD (s.length - 1) 0 else s.getD (a - 1) 0
theorem aheadB_rot {a : Nat} (ha : a < s.length) : aheadB s a = lastB (rot s a) := by
 unfold aheadB; split
 ·rename_i e; rw [e, rot_zero]; rfl
 ·rename_i e; have h := ch_rot (s := s) (a := a) ha (i := s.length - 1) (by omega); unfold lastB; rw [rot_len s a (by omega), h]
  congr 1
  rw [Nat.mod_eq_sub_mod (by omega), show a + (s.length - 1) - s.length = a - 1 by omega, Nat.mod_eq_of_lt (by omega)]
theorem cv_str {t e d : TypeId} [hr : Bytes Tryz.prog t e d] (H : Holds w L) (i : Nat) {v : Value} {xs : List UInt8} {K : Value -> Prop}
  (hi : L[i]? = some (SL bv e v xs)) (h : K (.string ⟨xs.toArray⟩)) : Cv Tryz.prog t d v w K := by
 obtain ⟨oa, sp, rfl, H1⟩ := H.open i hi; have h0 : Cw Tryz.prog t d (.slice oa xs.length (xs.length + sp.length)) w (fun v w' => v = .string ⟨xs.toArray⟩ /\ w' = w) := r_cbs H1 i (set_get hi) rfl ⟨rfl, rfl⟩; unfold Cw at h0; obtain ⟨v, w', hr, rfl, rfl⟩ := h0; unfold Cv; exact ⟨_, hr, h⟩
theorem ahead_spec {a : Nat} (h0 : s ≠ []) (hl : s.length <= 1000000) (ha : a < s.length) (k : K (bv (aheadB s a)) w) : Cl Tryz.prog 184 #[St_ s, nv a] w K := by
 refine Tz184 ?_; unfold Vz184
 have hsz : (⟨s.toArray⟩ : ByteArray).size = s.length := by simp [ByteArray.size]
 have hd : (⟨s.toArray⟩ : ByteArray).data.toList = s := by simp
 unfold aheadB at k; refine r_eql (r_ifE (fun h => ?_) fun h => ?_)
 ·rw [if_pos (by omega)] at k; refine r_lns ?_; rw [hsz]; refine r_sub1N (by omega) (by omega) ?_; refine r_ixsN (by rw [hsz]; omega) ?_; rw [hd]; exact k
 ·rw [if_neg (by omega)] at k; refine r_sub1N (by omega) (by omega) ?_; refine r_ixsN (by rw [hsz]; omega) ?_; rw [hd]; exact k
def tuL (b : Nat) (s : List UInt8) (sb : Nat) (ov lv : Value) (o : Nat) (order : List Nat) (last : List UInt8) : List HProp := [blk b tTu [St_ s, pt sb, ov, lv, nv o], SL nv tI ov order, SL bv tB lv last]
theorem TDone_spec {ov lv : Value} {o : Nat} {order : List Nat} {last : List UInt8} (H : Holds w (tuL b s sb ov lv o order last ++ L)) (k : ∀ w', Same w w' -> Holds w' (tuL b s sb ov lv o order last ++ L) -> K (.bool (decide (last.length = s.length))) w') : Cl Tryz.prog 85 #[pt b] w K := by
 refine Tz85 ?_; unfold Vz85
 have hsz : (⟨s.toArray⟩ : ByteArray).size = s.length := by simp [ByteArray.size]
 refine r_dr H fun w1 S1 H1 => ?_; refine r_bnST (r_vt ?_); refine r_nc (r_fo0 (r_ld 0 H1 rfl rfl ?_)); refine r_lnS 2 H1 rfl ?_; refine r_nc (r_fo0 (r_ld 0 H1 rfl rfl ?_)); refine r_lns ?_; rw [hsz]; refine r_eql ?_; rw [show (((last.length : Nat) : Int) == ((s.length : Nat) : Int)) = decide (last.length = s.length) from by rw [Bool.eq_iff_iff, beq_iff_eq, decide_eq_true_iff]; omega]; exact k _ S1 H1
theorem sg_bv (c : UInt8) : sg (bv c) = true := rfl
theorem take_spec {ov lv : Value} {o a : Nat} {order : List Nat} {last : List UInt8} (H : Holds w (tuL b s sb ov lv o order last ++ L)) (h0 : s ≠ []) (hl : s.length <= 4000) (hi : order[last.length]? = some a) (ha : a < s.length) (hll : last.length <= 4000)
  (k : ∀ lv' w', Same w w' -> Holds w' (tuL b s sb ov lv' (if a = 0 then last.length else o) order (last ++ [aheadB s a]) ++ L) -> K (.tuple #[]) w') : Cl Tryz.prog 138 #[pt b] w K := by
 refine Tz138 ?_; unfold Vz138; refine r_nc (r_fo0 (r_ld 0 H rfl rfl ?_)); refine r_lnS 2 H rfl ?_; refine r_nc (r_fo0 (r_ld 0 H rfl rfl ?_)); refine r_getS 1 H rfl hi ?_; refine r_join0 (fun w' => Same w w' /\ Holds w' (tuL b s sb ov lv (if a = 0 then last.length else o) order last ++ L)) ?_ ?_
 ·rintro _ w1 ⟨S1, H1⟩; generalize (if a = 0 then last.length else o) = o' at *; refine r_dr H1 fun w2 S2 H2 => ?_; refine r_nc (r_fo0 (r_ld 0 H2 rfl rfl ?_)); refine r_nc (r_fo0 (r_ld 0 H2 rfl rfl ?_)); refine ahead_spec h0 (by omega) ha ?_; refine r_rk (r_ld 0 H2 rfl rfl rfl) ?_; refine r_bs1 H2 (sg_bv _) fun b3 w3 S3 H3 => ?_; refine r_rk (r_ld 1 H3 rfl rfl rfl) ?_; obtain ⟨oa, sp, rfl, H4⟩ := H3.open 3 rfl; refine r_ap (f := bv) (xs := last) (ys := [aheadB s a]) (sp := sp) H4 3 0 rfl rfl rfl rfl rfl rfl sg_bv (by simp; omega) (by simp) fun oa' sp' w4 S4 H5 => ?_; have H6 := H5.close 3 rfl
  have hlen : last.length + [aheadB s a].length = (last ++ [aheadB s a]).length := by simp
  rw [hlen]; refine r_nc (r_fo0 ?_); refine r_st 1 H6 rfl (by simp) rfl fun w5 S5 H7 => ?_; exact k _ w5 (S1.trans (S2.trans (S3.trans (S4.trans S5)))) H7.drop
 ·refine r_eql (r_ifE (fun h => ?_) fun h => ?_)
  ·refine r_nc (r_fo0 ?_); refine r_st 0 H rfl (by simp) rfl fun w1 S1 H1 => ?_; refine r_ke ⟨S1, ?_⟩; rw [if_pos (by omega)]; exact H1
  ·refine r_ke ⟨.refl _, ?_⟩; rw [if_neg (by omega)]; exact H
theorem sortP_idx {s : List UInt8} {o o' : Nat} (h : (sortP s s.length)[o]? = some 0) (h' : (sortP s s.length)[o']? = some 0) : o = o' := by
 obtain ⟨p1, p2⟩ := List.getElem?_eq_some_iff.1 h; obtain ⟨p3, p4⟩ := List.getElem?_eq_some_iff.1 h'; exact (List.getElem_inj (sortP_nodup s _)).1 (p2.trans p4.symm)
theorem TStep_spec {o : Nat} (H : Holds w (tuL b s sb (.slice none 0 0) (.slice none 0 0) o [] [] ++ SoR sb s (startD s.length) 0 :: L)) (h0 : s ≠ []) (hl : s.length <= 4000)
  (k : ∀ ov lv o' v w', (sortP s s.length)[o']? = some 0 -> Same w w' -> Holds w' (tuL b s sb ov lv o' (sortP s s.length) (lastL s) ++ L) -> K v w') : Cl Tryz.prog 86 #[pt b, iv 1099511627776] w K := by
 refine Tz86 ?_; unfold Vz86; have hpos := List.length_pos_iff.2 h0; have hlo := sortP_len s s.length; refine r_join1 (fun t w' => w = w' /\ t = .bool false) ?_ ?_
 rotate_left
 ·exact r_bnSF (r_vf (r_lss (r_ke ⟨rfl, rfl⟩)))
 rintro _ _ _ ⟨rfl, rfl⟩; refine r_vf ?_; refine r_nc (r_fo0 (r_ld 0 H rfl rfl ?_))
 have H0 : Holds w (SoR sb s (startD s.length) 0 :: (tuL b s sb (.slice none 0 0) (.slice none 0 0) o [] [] ++ L)) := by have h_ := Holds.ord 4 [3, 0, 1, 2] H rfl; exact h_
 refine Step_spec H0 (startD_ok h0 hl) hl fun y m w1 hf hm S1 H1 => ?_; clear H H0
 have H2 : Holds w1 (tuL b s sb (.slice none 0 0) (.slice none 0 0) o [] [] ++ SoR sb s y m :: L) := by have h_ := Holds.ord 4 [1, 2, 3, 0] H1 rfl; exact h_
 clear H1; refine r_join0 (fun w' => ∃ ov, Same w w' /\ Holds w' (tuL b s sb ov (.slice none 0 0) o (sortP s s.length) [] ++ SoR sb s y m :: L)) ?_ ?_
 rotate_left
 ·refine r_join1 (fun t w' => w1 = w' /\ t = .bool true) ?_ ?_
  ·rintro _ _ _ ⟨rfl, rfl⟩; refine r_vt ?_; refine r_nc (r_fo0 (r_ld 0 H2 rfl rfl ?_))
   have H3 : Holds w1 (SoR sb s y m :: (tuL b s sb (.slice none 0 0) (.slice none 0 0) o [] [] ++ L)) := by have h_ := Holds.ord 4 [3, 0, 1, 2] H2 rfl; exact h_
   refine Order_spec H3 hf hl fun ov w2 S2 H4 => ?_; obtain ⟨oa, sp, rfl, _⟩ := H4.open 0 rfl; refine r_nc (r_fo0 ?_); refine r_st 2 H4 rfl (by simp) rfl fun w3 S3 H5 => ?_; refine r_ke ⟨.slice oa (sortP s s.length).length ((sortP s s.length).length + sp.length), S1.trans (S2.trans S3), ?_⟩; have h_ := Holds.ord 5 [2, 0, 4, 1] H5 rfl; exact h_
  ·refine r_nc (r_fo0 (r_ld 0 H2 rfl rfl ?_)); refine r_be (v := .bool true) (by kernel_rfl) (r_vt ?_); refine r_nc (r_fo0 (r_ld 0 H2 rfl rfl ?_))
   have H3 : Holds w1 (SoR sb s y m :: (tuL b s sb (.slice none 0 0) (.slice none 0 0) o [] [] ++ L)) := by have h_ := Holds.ord 4 [3, 0, 1, 2] H2 rfl; exact h_
   refine Done_spec H3 ?_; exact r_ke ⟨rfl, by rw [hf.1]⟩
 rintro _ w2 ⟨ov, S2, H3⟩; clear H2 S1
 obtain ⟨oz, hoz⟩ : ∃ oz, (sortP s s.length)[oz]? = some 0 := by
  obtain ⟨i, hi, e⟩ := List.getElem_of_mem ((sortP_mem s s.length 0).2 hpos); exact ⟨i, by rw [List.getElem?_eq_getElem hi, e]⟩
 refine r_loop1 (fun g w' => ∃ (u o' : Nat) (lv : Value), g = nv (m + u) /\ u <= s.length /\ (oz < u -> o' = oz) /\ Same w w' /\ Holds w' (tuL b s sb ov lv o' (sortP s s.length) (((sortP s s.length).take u).map (aheadB s)) ++ SoR sb s y m :: L)) (fun g _ => m + s.length - (RowKit.intOf g).toNat)
  ⟨0, o, _, rfl, Nat.zero_le _, fun h => by omega, S2, H3⟩ ?_
 clear H3 S2; rintro _ _ w3 ⟨u, o', lv, rfl, hu, ho', S3, H3⟩
 have hlen : (((sortP s s.length).take u).map (aheadB s)).length = u := by rw [List.length_map, List.length_take, hlo]; omega
 refine r_join1 (fun t w' => Same w w' /\ Holds w' (tuL b s sb ov lv o' (sortP s s.length) (((sortP s s.length).take u).map (aheadB s)) ++ SoR sb s y m :: L) /\ t = .bool (decide (¬ u = s.length))) ?_ ?_
 ·rintro _ _ w4 ⟨S4, H4, rfl⟩; refine r_ifD (fun h => ?_) fun h => ?_
  ·have hlt : u < s.length := by omega
   have hg : (sortP s s.length)[u]? = some ((sortP s s.length).getD u 0) := getD_at (by rw [hlo]; exact hlt); have ha : (sortP s s.length).getD u 0 < s.length := (sortP_mem s s.length _).1 (getD_mem (by rw [hlo]; exact hlt))
   have htk : (sortP s s.length).take (u + 1) = (sortP s s.length).take u ++ [(sortP s s.length).getD u 0] := by rw [List.take_add_one, hg]; rfl
   refine take_spec H4 h0 hl (a := (sortP s s.length).getD u 0) (by rw [hlen]; exact hg) ha (by rw [hlen]; omega) fun lv2 w5 S5 H5 => ?_; refine r_add1N (by omega) ?_; refine r_ke ⟨⟨u + 1, _, lv2, by rw [Nat.add_assoc], hlt, fun hz => ?_, S4.trans S5, by rw [htk, List.map_append]; exact H5⟩, ?_⟩
   ·rw [hlen]
    by_cases e : (sortP s s.length).getD u 0 = 0
    ·rw [if_pos e]; rw [e] at hg; exact sortP_idx hg hoz
    ·rw [if_neg e]; refine ho' ?_; rcases Nat.lt_or_ge oz u with q | q
     ·exact q
     ·have : oz = u := by omega
      rw [this, hg] at hoz; exact absurd (Option.some.inj hoz) e
   ·simp only [nv, RowKit.intOf, Int.toNat_natCast]; omega
  ·obtain rfl : u = s.length := by omega
   have h1 : oz < s.length := by rw [<- hlo]; exact (List.getElem?_eq_some_iff.1 hoz).1
   rw [ho' h1] at H4
   have e1 : ((sortP s s.length).take s.length).map (aheadB s) = lastL s := by
    rw [List.take_of_length_le (by rw [hlo]; exact Nat.le_refl _)]; unfold lastL; exact List.map_congr_left fun a ha => aheadB_rot ((sortP_mem s s.length a).1 ha)
   rw [e1] at H4; exact k ov lv oz _ _ hoz S4 (by have h_ := Holds.ord 4 [0, 1, 2] H4 rfl; exact h_)
 ·refine r_nc (r_fo0 (r_ld 0 H3 rfl rfl ?_))
  have H4 : Holds w3 (SoR sb s y m :: (tuL b s sb ov lv o' (sortP s s.length) (((sortP s s.length).take u).map (aheadB s)) ++ L)) := by have h_ := Holds.ord 4 [3, 0, 1, 2] H3 rfl; exact h_
  refine Done_spec H4 ?_; rw [hf.1]; refine r_vt ?_; refine r_lss (r_vtD (by omega) ?_); refine TDone_spec H3 fun w4 S4 H5 => ?_; rw [hlen]; refine r_not (r_ke ⟨S3.trans S4, H5, ?_⟩); rw [decide_not]
theorem Of_spec (H : Holds w L) (h0 : s ≠ []) (hl : s.length <= 4000) (k : ∀ o w', (sortP s s.length)[o]? = some 0 -> Same w w' -> Holds w' L -> K (.tuple #[St_ (lastL s), nv o, iv 0]) w') : Cl Tryz.prog 38 #[St_ s] w K := by
 refine Tz38 ?_; unfold Vz38; have hpos := List.length_pos_iff.2 h0
 have hsz : (⟨s.toArray⟩ : ByteArray).size = s.length := by simp [ByteArray.size]
 refine r_cl (K := fun v w' => ∃ b sb, v = .tuple #[pt b, iv 0] /\ Same w w' /\ Holds w' (tuL b s sb (.slice none 0 0) (.slice none 0 0) 0 [] [] ++ SoR sb s (startD s.length) 0 :: L)) ?_ ?_
 ·refine Tz84 ?_; unfold Vz84; refine r_seq0 (r_vfD (by rw [hsz]; omega) ?_); refine New_spec H h0 hl fun sb w1 S1 H1 => ?_; refine r_ex20 (r_ex21 (r_neq (r_vfN rfl ?_))); refine r_bd (v := .agg #[St_ s, pt sb, .slice none 0 0, .slice none 0 0, nv 0]) (by kernel_rfl) ?_; refine r_new H1 fun b w2 S2 H2 => ?_; have H3 := (H2.nilSL nv tI).nilSL bv tB; exact ⟨b, sb, rfl, S1.trans S2, by have h_ := Holds.ord 4 [2, 1, 0, 3] H3 rfl; exact h_⟩
 rintro _ w1 ⟨b, sb, rfl, S1, H1⟩; refine r_ex20 (r_ex21 (r_neq (r_vfN rfl ?_)))
 refine r_loop0n (fun j w' => Same w w' /\ ((j = 1 /\ Holds w' (tuL b s sb (.slice none 0 0) (.slice none 0 0) 0 [] [] ++ SoR sb s (startD s.length) 0 :: L)) \/
   (j = 0 /\ ∃ ov lv o, (sortP s s.length)[o]? = some 0 /\ Holds w' (tuL b s sb ov lv o (sortP s s.length) (lastL s) ++ L)))) 1 ⟨S1, .inl ⟨rfl, H1⟩⟩ ?_
 clear H H1 S1; rintro _ j w2 _ ⟨S2, ⟨rfl, H2⟩ | ⟨rfl, ov, lv, o, ho, H2⟩⟩ hgo
 ·refine TDone_spec H2 fun w3 S3 H3 => ?_; rw [show decide (([] : List UInt8).length = s.length) = false from decide_eq_false (by simp; omega)]; refine r_notF (r_vt ?_); refine TStep_spec H3 h0 hl fun ov lv o v w4 ho S4 H4 => ?_; exact r_ke (hgo 0 _ (by omega) ⟨S2.trans (S3.trans S4), .inr ⟨rfl, ov, lv, o, ho, H4⟩⟩)
 ·have hll := lastL_len s; refine TDone_spec H2 fun w3 S3 H3 => ?_; rw [hll, decide_eq_true rfl]; refine r_notT (r_vf ?_); refine r_cl (K := fun v w' => v = .tuple #[St_ (lastL s), nv o] /\ Same w3 w' /\ Holds w' L) ?_ ?_
  ·refine Tz87 ?_; unfold Vz87; refine TDone_spec H3 fun w4 S4 H4 => ?_; rw [hll, decide_eq_true rfl]; refine r_notT (r_vf ?_); refine r_dr H4 fun w5 S5 H5 => ?_; refine r_nc (r_fo0 (r_ld 0 H5 rfl rfl ?_)); refine cv_str H5 2 rfl ?_; refine r_nc (r_fo0 (r_ld 0 H5 rfl rfl ?_)); exact ⟨rfl, S4.trans S5, H5.drop.drop.drop⟩
  rintro _ w4 ⟨rfl, S4, H4⟩; refine r_ex20 (r_ex21 ?_); exact k o w4 ho (S2.trans (S3.trans S4)) H4
end S17
instance : Row Tryz.prog 69 3 (.int .i64 0) := ⟨by kernel_rfl, ⟨Tryz.t3, by kernel_rfl, by kernel_rfl, by decide, by kernel_rfl⟩, rfl⟩
instance : Row Tryz.prog 54 5 (.int .u8 0) := ⟨by kernel_rfl, ⟨Tryz.t5, by kernel_rfl, by kernel_rfl, by decide, by kernel_rfl⟩, rfl⟩
instance : Bytes Tryz.prog 54 5 9 := ⟨by kernel_rfl, by kernel_rfl, by kernel_rfl⟩
namespace U18
open Go.M18
abbrev tI : Nat := 3
abbrev tB : Nat := 5
def invC (last : ByteArray) (next : List Nat) (links : Value) (at_ : Nat) (out : Value) (steps : Nat) : List Value :=
 .string last :: (next.map nv ++ [links, nv at_, out, nv steps])
section
variable {last : ByteArray} {next : List Nat} {links out : Value} {at_ steps : Nat} (hn : next.length = 256)
include hn
theorem c257 : (invC last next links at_ out steps)[257]? = some links := by simp [invC, hn]
theorem c258 : (invC last next links at_ out steps)[258]? = some (nv at_) := by simp [invC, hn]
theorem c259 : (invC last next links at_ out steps)[259]? = some out := by simp [invC, hn]
theorem c260 : (invC last next links at_ out steps)[260]? = some (nv steps) := by simp [invC, hn]
theorem cnx {j n : Nat} (h : next[j]? = some n) : (invC last next links at_ out steps)[1 + j]? = some (nv n) := by
 have hj : j < 256 := by rw [<- hn]; exact (List.getElem?_eq_some_iff.1 h).1
 unfold invC; rw [Nat.add_comm 1 j, List.getElem?_cons_succ, List.getElem?_append_left (by simpa [hn] using hj), List.getElem?_map, h]; rfl
theorem clen : (invC last next links at_ out steps).length = 261 := by simp [invC, hn]
theorem s258 (n : Nat) : (invC last next links at_ out steps).set 258 (nv n) = invC last next links n out steps := by simp [invC, hn, List.set_append]
theorem s259 (v : Value) : (invC last next links at_ out steps).set 259 v = invC last next links at_ v steps := by simp [invC, hn, List.set_append]
theorem s260 (n : Nat) : (invC last next links at_ out steps).set 260 (nv n) = invC last next links at_ out n := by simp [invC, hn, List.set_append]
theorem snx {j : Nat} (n : Nat) (hj : j < 256) : (invC last next links at_ out steps).set (1 + j) (nv n) = invC last (next.set j n) links at_ out steps := by
 unfold invC; rw [Nat.add_comm 1 j, List.set_cons_succ, List.set_append_left _ _ (by simpa [hn] using hj), List.map_set]
end
def InvR (b : Nat) (last : ByteArray) (o s k : Nat) : HProp := fun h => ∃ t lv ov, Sat [blk b t (invC last (nxL last.data.toList s) lv (atK last.data.toList o (s - 2 * last.size)) ov s),
 SL nv tI lv (lnS last.data.toList s), SL bv tB ov ((outK last.data.toList o (s - 2 * last.size)).drop k)] h
theorem InvR_open {b : Nat} {last : ByteArray} {o s k : Nat} {w : World} {L : List HProp} (H : Holds w (InvR b last o s k :: L)) :
  ∃ t lv ov, Holds w (blk b t (invC last (nxL last.data.toList s) lv (atK last.data.toList o (s - 2 * last.size)) ov s) :: SL nv tI lv (lnS last.data.toList s) ::
   SL bv tB ov ((outK last.data.toList o (s - 2 * last.size)).drop k) :: L) := by
 obtain ⟨t, H⟩ := Holds.ex H; obtain ⟨lv, H⟩ := Holds.ex H; obtain ⟨ov, H⟩ := Holds.ex H; exact ⟨t, lv, ov, Holds.unpack H⟩
theorem InvR_close {b : Nat} {last : ByteArray} {o s k t : Nat} {lv ov : Value} {w : World} {L : List HProp} (H : Holds w (blk b t (invC last (nxL last.data.toList s) lv (atK last.data.toList o (s - 2 * last.size)) ov s) :: SL nv tI lv (lnS last.data.toList s) ::
   SL bv tB ov ((outK last.data.toList o (s - 2 * last.size)).drop k) :: L)) : Holds w (InvR b last o s k :: L) :=
 Holds.imp (Holds.pack (A := [_, _, _]) H) fun h hh => ⟨t, lv, ov, hh⟩
variable {w : World} {L : List HProp} {K : Value -> World -> Prop} {b : Nat}
theorem Done_raw {t : Nat} {last : ByteArray} {next : List Nat} {links out : Value} {at_ steps : Nat} (hn : next.length = 256)
  (H : Holds w (blk b t (invC last next links at_ out steps) :: L)) (hl : last.size <= 1000000)
  (k : ∀ w', Same w w' -> Holds w' (blk b t (invC last next links at_ out steps) :: L) -> K (.bool ((steps : Int) == 3 * (last.size : Int))) w') :
  Cl Tryz.prog 167 #[.pointer (some ⟨b, 0, none⟩)] w K := by
 refine Tz167 ?_; unfold Vz167; have S := Same.refl w
 repeat (first | ((with_reducible apply r_ld 0 H); (exact rfl); (with_reducible exact (c260 hn))) | refine r_nc ?_ | refine r_fo0 ?_ | refine r_lns ?_ | refine r_eql ?_ | (with_reducible refine r_bnST ?_) | (with_reducible refine r_vt ?_) | (refine r_mul (by omega) (by omega) ?_) | (refine r_dr H ?_; clear H; intro _ S_ H; replace S := S.trans S_; clear S_) | refine r_ld 0 H rfl rfl ?_)
 exact k _ S H
theorem begins_raw {t : Nat} {last : ByteArray} {next : List Nat} {links out : Value} {at_ steps : Nat} (hn : next.length = 256)
  (H : Holds w (blk b t (invC last next links at_ out steps) :: L)) (hb : ∀ x ∈ next, x <= 4000000)
  (k : ∀ w', Same w w' -> Holds w' (blk b t (invC last ((List.range 256).map (exB fun j => next.getD j 0)) links at_ out steps) :: L) -> K (.tuple #[]) w') :
  Cl Tryz.prog 216 #[.pointer (some ⟨b, 0, none⟩)] w K := by
 refine Tz216 ?_; unfold Vz216; have S := Same.refl w
 have hsub : ((invC last next links at_ out steps).drop 1).take 256 = next.map nv := by
  unfold invC; rw [List.drop_succ_cons, List.drop_zero, List.take_append_of_le_length (by simp [hn]), List.take_of_length_le (by simp [hn])]
 repeat (first | refine r_ldA 0 H _ rfl hsub (by simp [hn]) ?_ | refine r_nc ?_ | refine r_fo0 ?_)
 have hex : ∀ j, j <= 256 -> exB (fun j => next.getD j 0) j <= 4000000 * j := by
  intro j
  induction j with
  | zero => intro _; simp [exB]
  | succ j ih =>
   intro hj
   have hget : next[j]? = some (next.getD j 0) := by simp [List.getD, (by omega : j < next.length)]
   have h1 := hb (next.getD j 0) (List.mem_of_getElem? hget); have h2 := ih (by omega); simp only [exB]; omega
 refine r_loop2 (fun f x w' => ∃ j : Nat, j <= 256 /\ x = nv j /\ f = nv (exB (fun j => next.getD j 0) j) /\ Same w w' /\
   Holds w' (blk b t (invC last ((List.range j).map (exB fun j => next.getD j 0) ++ next.drop j) links at_ out steps) :: L))
  (fun _ x _ => 256 - (RowKit.intOf x).toNat) ⟨0, by omega, rfl, rfl, Same.refl w, by rw [List.range_zero, List.map_nil, List.nil_append, List.drop_zero]; exact H⟩ ?_
 rintro _ _ _ w1 ⟨j, hj, rfl, rfl, S, H⟩; have hx := hex j hj
 have hlen : ((List.range j).map (exB fun j => next.getD j 0) ++ next.drop j).length = 256 := by simp [hn]; omega
 repeat (refine r_lss ?_)
 refine r_vif (fun h => ?_) fun h => ?_
 ·have hlt : j < 256 := by have := of_decide_eq_true h; omega
  obtain ⟨x, hgd⟩ : ∃ x, next.getD j 0 = x := ⟨_, rfl⟩
  have hget : next[j]? = some x := by rw [<- hgd, List.getD_eq_getElem?_getD, List.getElem?_eq_getElem (by omega)]; rfl
  have hb1 := hb _ (List.mem_of_getElem? hget)
  have hsucc : exB (fun j => next.getD j 0) (j + 1) = exB (fun j => next.getD j 0) j + x := by rw [exB, hgd]
  have h2 := snx (last := last) (links := links) (out := out) (at_ := at_) (steps := steps) hlen (exB (fun j => next.getD j 0) j) hlt; have h3 := set_mid (exB fun j => next.getD j 0) next j (by omega); rw [h3] at h2; generalize exB (fun j => next.getD j 0) j = y at *; refine r_ixa1 (nv x) (by omega) (by omega) (by rw [Int.toNat_natCast, List.getElem?_map, hget]; rfl) ?_
  repeat (first | refine r_iaa (by omega) (by omega) ?_ | refine r_nc ?_ | refine r_fo0 ?_)
  refine r_st 0 H rfl (by rw [clen hlen]; simp; omega) rfl fun w2 S2 H2 => ?_; have S3 := S.trans S2; rw [Int.toNat_natCast, Nat.mul_one, List.set_cons_zero, h2] at H2
  repeat (first | refine r_ke ?_ | (refine r_add1N (by omega) ?_) | (refine r_addN (by omega) ?_))
  refine ⟨⟨j + 1, by omega, by simp [nv], by rw [hsucc], S3, H2⟩, ?_⟩; simp [nv, RowKit.intOf]
  try omega
 ·have hge : j = 256 := by have := of_decide_eq_false h; omega
  subst hge; rw [List.drop_of_length_le (by omega), List.append_nil] at H; exact k _ S H
theorem step_spec {last : ByteArray} {o s k : Nat} (H : Holds w (InvR b last o s k :: L)) (hs : s < 3 * last.size) (hl : last.size <= 1000000) (ho : o < last.size) (hk : k <= s - 2 * last.size)
  (post : ∀ w', Same w w' -> Holds w' (InvR b last o (s + 1) k :: L) -> K (.tuple #[]) w') :
  Cl Tryz.prog 168 #[.pointer (some ⟨b, 0, none⟩)] w K := by
 refine Tz168 ?_; unfold Vz168; obtain ⟨t, lv, ov, H⟩ := InvR_open H; have S := Same.refl w
 have hll : last.data.toList.length = last.size := by simp
 have hn := nxL_len last.data.toList s; have hn' := nxL_len last.data.toList (s + 1)
 obtain ⟨q, r, hqr, hr, hq⟩ : ∃ q r, s = q * last.size + r /\ r < last.size /\ (q = 0 \/ q = 1 \/ q = 2) :=
  ⟨s / last.size, s % last.size, by rw [Nat.mul_comm]; exact (Nat.div_add_mod s last.size).symm, Nat.mod_lt _ (by omega), by
   have := Nat.div_lt_of_lt_mul (show s < last.size * 3 by omega)
   generalize s / last.size = q at this; omega⟩
 have hQ : ((s : Nat) : Int).tdiv (last.size : Int) = (q : Int) := by
  rw [Int.tdiv_eq_ediv_of_nonneg (by omega), hqr]
  have : ((q * last.size + r : Nat) : Int) / (last.size : Int) = (((q * last.size + r) / last.size : Nat) : Int) := by simp
  rw [this, Nat.add_comm, Nat.add_mul_div_right _ _ (by omega), Nat.div_eq_of_lt hr, Nat.zero_add]
 have hR : ((s : Nat) : Int).tmod (last.size : Int) = (r : Int) := by
  rw [Int.tmod_eq_emod_of_nonneg (by omega), hqr]
  have : ((q * last.size + r : Nat) : Int) % (last.size : Int) = (((q * last.size + r) % last.size : Nat) : Int) := by simp
  rw [this, Nat.add_comm, Nat.add_mul_mod_self_right, Nat.mod_eq_of_lt hr]
 repeat (first | ((with_reducible apply r_ld 0 H); (exact rfl); (with_reducible exact (c260 hn))) | refine r_remE hR (by omega) ?_ | refine r_nc ?_ | refine r_fo0 ?_ | refine r_lns ?_ | refine r_ld 0 H rfl rfl ?_)
 refine r_join0 (fun w' => ∃ t lv ov, Same w w' /\ Holds w' (blk b t (invC last (nxL last.data.toList (s + 1)) lv (atK last.data.toList o (s + 1 - 2 * last.size)) ov s) :: SL nv tI lv (lnS last.data.toList (s + 1)) ::
   SL bv tB ov ((outK last.data.toList o (s + 1 - 2 * last.size)).drop k) :: L)) ?_ ?_
 ·rintro _ w1 ⟨t, lv, ov, S, H⟩
  repeat (first | ((with_reducible apply r_ld 0 H); (exact rfl); (with_reducible exact (c260 hn'))) | refine r_nc ?_ | refine r_fo0 ?_ | (refine r_add1N (by omega) ?_))
  refine r_st 0 H rfl (by rw [clen hn']; omega) rfl fun w2 S2 H2 => ?_; rw [s260 hn', List.set_cons_zero] at H2; exact post _ (S.trans S2) (InvR_close H2)
 have hbt := fun i => byte_lt last.data.toList i; have hnx := fun c => nx_le last.data.toList s c
 repeat (first | ((with_reducible apply r_ld 0 H); (exact rfl); (with_reducible exact (c260 hn))) | refine r_quoE hQ (by omega) (by omega) (by omega) ?_ | refine r_nc ?_ | refine r_fo0 ?_ | refine r_eql ?_)
 rcases hq with rfl | rfl | rfl
 ·have hrs : r = s := by omega
  subst hrs
  repeat (first | refine r_nc ?_ | refine r_fo0 ?_ | (refine r_ixsN (by omega) ?_) | (refine r_dr H ?_; clear H; intro _ S_ H; replace S := S.trans S_; clear S_) | refine r_ld 0 H rfl rfl ?_ | ((with_reducible refine r_vtE ?h ?_); (case h => omega)))
  have hc := hbt r; have hnc := hnx (last.data.toList.getD r 0).toNat
  repeat (first | ((with_reducible apply r_ld 0 H); (exact rfl); (with_reducible exact (cnx hn (nxL_get _ _ _ hc)))) | refine r_nc ?_ | refine r_fo0 ?_ | (refine r_add1N (by omega) ?_) | (refine r_iaaN (by omega) ?_))
  refine r_st 0 H rfl (by rw [clen hn]; omega) rfl fun w2 S2 H2 => ?_; rw [snx hn _ hc, List.set_cons_zero] at H2; clear H; have S := S.trans S2
  repeat (first | refine r_eql ?_ | (refine r_sub1N (by omega) (by omega) ?_))
  refine r_vif (fun h => ?_) fun h => ?_
  ·have hlast : r + 1 = last.size := by have := of_decide_eq_true h; omega
   refine begins_raw (by rw [List.length_set]; exact hn) H2 ?_ fun w5 S5 H5 => ?_
   ·intro x hx; rcases List.mem_or_eq_of_mem_set hx with h1 | h1
    ·obtain ⟨j, hj, hjx⟩ := List.getElem_of_mem h1; have := nx_le last.data.toList r j; simp [nxL] at hjx; omega
    ·omega
   ·rw [nxL_begin _ _ (by omega)] at H5; refine r_ke ⟨t, lv, ov, S.trans S5, ?_⟩; rw [<- lnS_low _ _ (by omega), show r + 1 - 2 * last.size = r - 2 * last.size by omega]; exact H5
  ·have hlast : ¬ r + 1 = last.size := by have := of_decide_eq_false h; omega
   rw [nxL_count _ _ (by omega)] at H2; refine r_ke ⟨t, lv, ov, S, ?_⟩; rw [<- lnS_low _ _ (by omega), show r + 1 - 2 * last.size = r - 2 * last.size by omega]; exact H2
 ·have hrs : s - last.data.toList.length = r := by omega
  repeat (first | refine r_nc ?_ | refine r_fo0 ?_ | refine r_eql ?_ | (refine r_ixsN (by omega) ?_) | (refine r_dr H ?_; clear H; intro _ S_ H; replace S := S.trans S_; clear S_) | refine r_ld 0 H rfl rfl ?_ | ((with_reducible refine r_vtE ?h ?_); (case h => omega)) | ((with_reducible refine r_vfE ?h ?_); (case h => omega)))
  have hc := hbt r; have hnp := nx_pos last.data.toList s (by omega); have hlk := lnS_link last.data.toList s (by omega) (by omega); have hnl := nxL_link last.data.toList s (by omega) (by omega); have hpl := pos_lt last.data.toList r (by omega); rw [hrs] at hnp hlk hnl; obtain ⟨oa, sp, rfl, H⟩ := H.open 1 rfl; rw [List.set_cons_succ, List.set_cons_zero] at H
  repeat (first | ((with_reducible apply r_ld 0 H); (exact rfl); (with_reducible exact (cnx hn (nxL_get _ _ _ hc)))) | (refine r_iaaN (by omega) ?_))
  rw [hnp]; refine r_iasN 1 H rfl (by rw [lnS_len]; exact hpl) (Nat.le_refl _) ?_; rintro b2 rfl; refine r_stsl 1 H r rfl (by rw [lnS_len]; exact hpl) rfl rfl fun w2 S2 H2 => ?_; clear H; replace S := S.trans S2; rw [List.set_cons_succ, List.set_cons_zero, hlk] at H2; have H := H2; clear H2
  repeat (first | ((with_reducible apply r_ld 0 H); (exact rfl); (with_reducible exact (cnx hn (nxL_get _ _ _ hc)))) | refine r_nc ?_ | refine r_fo0 ?_ | (refine r_add1N (by omega) ?_) | (refine r_iaaN (by omega) ?_) | (refine r_dr H ?_; clear H; intro _ S_ H; replace S := S.trans S_; clear S_))
  have hnc := hnx (last.data.toList.getD r 0).toNat
  repeat (fail)
  refine r_st 0 H rfl (by rw [clen hn]; omega) rfl fun w3 S3 H3 => ?_; rw [snx hn _ hc, List.set_cons_zero, hnl] at H3; have H4 := H3.close 1 rfl; rw [List.set_cons_succ, List.set_cons_zero, lnS_len] at H4; rw [lnS_len] at H4; rw [show s + 1 - 2 * last.size = s - 2 * last.size by omega]; exact r_ke ⟨t, _, ov, S.trans S3, H4⟩
 ·have hlS := lnS_high last.data.toList s (by omega); have hlS' := lnS_high last.data.toList (s + 1) (by omega); have hnS := nxL_high last.data.toList s (by omega); obtain ⟨m, hm⟩ : ∃ m, s - 2 * last.size = m := ⟨_, rfl⟩
  have hm' : s + 1 - 2 * last.size = m + 1 := by omega
  rw [hm, hlS] at H; rw [hm] at hk; rw [hm', hlS', <- hnS]; have ha := atK_lt last.data.toList o (by omega) m; have ha' := atK_lt last.data.toList o (by omega) (m + 1)
  have hll2 : (links last.data.toList).length = last.size := by rw [<- hll]; exact lnk_len _ _
  obtain ⟨oa, sp, rfl, H⟩ := H.open 1 rfl; rw [List.set_cons_succ, List.set_cons_zero] at H
  repeat (first | ((with_reducible apply r_ld 0 H); (exact rfl); (with_reducible exact (c257 hn))) | ((with_reducible apply r_ld 0 H); (exact rfl); (with_reducible exact (c258 hn))) | refine r_nc ?_ | refine r_fo0 ?_ | refine r_eql ?_ | (refine r_dr H ?_; clear H; intro _ S_ H; replace S := S.trans S_; clear S_) | ((with_reducible refine r_vfE ?h ?_); (case h => omega)))
  refine r_iasN 1 H rfl (by omega) (Nat.le_refl _) ?_; rintro b2 rfl
  have hat : (links last.data.toList)[atK last.data.toList o m]? = some (atK last.data.toList o (m + 1)) := by
   rw [atK, List.getD_eq_getElem?_getD, List.getElem?_eq_getElem (by omega)]; rfl
  refine r_ldsl 1 H rfl hat ?_
  repeat (first | refine r_nc ?_ | refine r_fo0 ?_)
  refine r_st 0 H rfl (by rw [clen hn]; omega) rfl fun w2 S2 H2 => ?_; rw [s258 hn, List.set_cons_zero] at H2; clear H; have H := H2; clear H2; replace S := S.trans S2; obtain ⟨oa, sp, rfl, H⟩ := H.open 2 rfl; rw [List.set_cons_succ, List.set_cons_succ, List.set_cons_zero] at H
  repeat (first | ((with_reducible apply r_ld 0 H); (exact rfl); (with_reducible exact (c258 hn))) | ((with_reducible apply r_ld 0 H); (exact rfl); (with_reducible exact (c259 hn))) | refine r_nc ?_ | refine r_fo0 ?_ | (refine r_ixsN (by omega) ?_) | (refine r_dr H ?_; clear H; intro _ S_ H; replace S := S.trans S_; clear S_) | refine r_ld 0 H rfl rfl ?_)
  have hol : (outK last.data.toList o m).length = m := outK_len _ _ _
  have hout : (outK last.data.toList o m).drop k ++ [last.data.toList.getD (atK last.data.toList o (m + 1)) 0] = (outK last.data.toList o (m + 1)).drop k := by
   rw [outK, List.drop_append_of_le_length (by omega)]
  refine r_bs1 H rfl fun b3 w3 S3 H3 => ?_; replace S := S.trans S3; refine r_rk (r_ld 1 H3 rfl (c259 hn) rfl) ?_; refine r_ap (f := bv) (ys := [last.data.toList.getD (atK last.data.toList o (m + 1)) 0]) H3 3 0 rfl rfl rfl rfl rfl rfl (fun _ => rfl) (by simp; omega) (by simp) fun oa' sp' w4 S4 H4 => ?_; replace S := S.trans S4; rw [hout, List.set_cons_succ, List.set_cons_succ, List.set_cons_succ, List.set_cons_zero] at H4
  have hlen : ((outK last.data.toList o m).drop k).length + [last.data.toList.getD (atK last.data.toList o (m + 1)) 0].length = ((outK last.data.toList o (m + 1)).drop k).length := by
   rw [<- hout, List.length_append]
  rw [hlen]; clear H H3; have H := H4.drop; clear H4
  repeat (first | refine r_nc ?_ | refine r_fo0 ?_)
  refine r_st 0 H rfl (by rw [clen hn]; omega) rfl fun w5 S5 H5 => ?_; rw [s259 hn, List.set_cons_zero] at H5; have H6 := (H5.close 1 rfl); rw [List.set_cons_succ, List.set_cons_zero] at H6; have H7 := (H6.close 2 rfl); rw [List.set_cons_succ, List.set_cons_succ, List.set_cons_zero] at H7; exact r_ke ⟨t, _, _, S.trans S5, H7⟩
theorem Done_spec {last : ByteArray} {o s k : Nat} (H : Holds w (InvR b last o s k :: L)) (hl : last.size <= 1000000)
  (post : ∀ w', Same w w' -> Holds w' (InvR b last o s k :: L) -> K (.bool ((s : Int) == 3 * (last.size : Int))) w') :
  Cl Tryz.prog 167 #[.pointer (some ⟨b, 0, none⟩)] w K := by
 obtain ⟨t, lv, ov, H⟩ := InvR_open H; exact Done_raw (nxL_len _ _) H hl fun w' S H => post w' S (InvR_close H)
theorem InvR_cell {last : ByteArray} {o s k : Nat} (H : Holds w (InvR b last o s k :: L)) : w.cell? ⟨b, 260, none⟩ = some (nv s) := by
 obtain ⟨t, lv, ov, H⟩ := InvR_open H; exact (H.cell 0 rfl 260).trans (c260 (nxL_len _ _))
theorem Step_spec {last : ByteArray} {o s k : Nat} {budget : Int} (H : Holds w (InvR b last o s k :: L)) (hs : s <= 3 * last.size) (hl : last.size <= 1000000) (ho : o < last.size) (hk : k <= s - 2 * last.size)
  (post : ∀ w', Same w w' -> Holds w' (InvR b last o (s + min budget.toNat (3 * last.size - s)) k :: L) -> K (nv (min budget.toNat (3 * last.size - s))) w') :
  Cl Tryz.prog 118 #[.pointer (some ⟨b, 0, none⟩), .int .i64 budget] w K := by
 refine Tz118 ?_; unfold Vz118; have hn := nxL_len last.data.toList s; have S := Same.refl w; obtain ⟨t, lv, ov, H0⟩ := InvR_open H; have H' := H; clear H; have H := H0
 repeat (first | ((with_reducible apply r_ld 0 H); (exact rfl); (with_reducible exact (c260 hn))) | refine r_nc ?_ | refine r_fo0 ?_ | (with_reducible refine r_bnSF ?_) | (with_reducible refine r_vf ?_))
 clear H H0
 refine r_loop0 (fun w' => ∃ s', s <= s' /\ s' <= 3 * last.size /\ s' - s <= budget.toNat /\ Same w w' /\ Holds w' (InvR b last o s' k :: L))
  (fun w' => match w'.cell? ⟨b, 260, none⟩ with | some (.int _ n) => 3 * last.size - n.toNat | _ => 0) ⟨s, by omega, hs, by omega, S, H'⟩ ?_
 rintro _ w1 ⟨s', h1, h2, h3, S, H⟩; have hc := InvR_cell H; refine r_join1 (fun x w' => ∃ c : Bool, x = .bool c /\ (c = true ↔ s' < 3 * last.size /\ ((s' - s : Nat) : Int) < budget) /\ Same w w' /\ Holds w' (InvR b last o s' k :: L)) ?_ ?_
 ·rintro _ _ w2 ⟨c, rfl, hc2, S, H⟩; refine r_vif (fun h => ?_) fun h => ?_
  ·have h4 := hc2.1 h; refine step_spec H h4.1 hl ho (by omega) fun w3 S3 H3 => r_ke ⟨⟨s' + 1, by omega, by omega, by omega, S.trans S3, H3⟩, ?_⟩; rw [hc, InvR_cell H3]; simp only [Int.toNat_natCast]; omega
  ·have h4 : ¬ (s' < 3 * last.size /\ ((s' - s : Nat) : Int) < budget) := fun h5 => by rw [hc2.2 h5] at h; cases h
   obtain ⟨t, lv, ov, H0⟩ := InvR_open H; have H' := H; clear H; have H := H0; have hn := nxL_len last.data.toList s'
   repeat (first | ((with_reducible apply r_ld 0 H); (exact rfl); (with_reducible exact (c260 hn))) | refine r_nc ?_ | refine r_fo0 ?_ | (refine r_sub (by omega) (by omega) ?_))
   have e : s' - s = min budget.toNat (3 * last.size - s) := by omega
   have := post w2 S (by rw [<- e, show s + (s' - s) = s' by omega]; exact H'); rw [<- e] at this; rw [show ((s' : Int) - (s : Int)) = ((s' - s : Nat) : Int) by omega]; exact this
 ·refine Done_spec H hl fun w3 S3 H3 => ?_; replace S := S.trans S3; clear H
  repeat (refine r_not ?_)
  refine r_ifNE (fun h => ?_) fun h => ?_
  ·obtain ⟨t, lv, ov, H0⟩ := InvR_open H3; have H := H0; have hn := nxL_len last.data.toList s'
   repeat (first | ((with_reducible apply r_ld 0 H); (exact rfl); (with_reducible exact (c260 hn))) | refine r_nc ?_ | refine r_fo0 ?_ | refine r_ke ?_ | refine r_lss ?_ | (refine r_sub (by omega) (by omega) ?_))
   refine ⟨_, rfl, ?_, S, H3⟩; rw [decide_eq_true_iff]
   constructor
   ·intro h; exact ⟨by omega, by omega⟩
   ·intro h; omega
  ·refine r_ke ⟨false, rfl, ?_, S, H3⟩
   constructor
   ·intro h; cases h
   ·intro h; omega
theorem New_spec {last : ByteArray} {origin : Int} (H : Holds w L)
  (p1 : last.size = 0 -> K (.tuple #[.pointer none, .int .i64 1]) w)
  (p2 : 900000 < last.size -> K (.tuple #[.pointer none, .int .i64 2]) w)
  (p3 : 0 < last.size -> last.size <= 900000 -> (origin < 0 \/ (last.size : Int) <= origin) -> K (.tuple #[.pointer none, .int .i64 23]) w)
  (p4 : ∀ (o : Nat) b w', origin = o -> o < last.size -> last.size <= 900000 -> Same w w' -> Holds w' (InvR b last o 0 0 :: L) -> K (.tuple #[.pointer (some ⟨b, 0, none⟩), .int .i64 0]) w') :
  Cl Tryz.prog 117 #[.string last, .int .i64 origin] w K := by
 refine Tz117 ?_; unfold Vz117; have S := Same.refl w
 repeat (refine r_seq0 ?_)
 refine r_ifD p1 fun h1 => ?_
 repeat (first | refine r_lns ?_ | refine r_gtr ?_)
 refine r_ifD (fun h => p2 (by omega)) fun h2 => ?_
 have hl : last.size <= 900000 := by omega
 refine r_join1 (fun x w' => w' = w /\ ∃ c : Bool, x = .bool c /\ (c = true ↔ origin < 0 \/ (last.size : Int) <= origin)) ?_ ?_
 ·rintro _ _ _ ⟨rfl, c, rfl, hc⟩; refine r_vif (fun h => p3 (by omega) hl (hc.1 h)) fun h => ?_
  have h3 : ¬ (origin < 0 \/ (last.size : Int) <= origin) := fun h5 => by rw [hc.2 h5] at h; cases h
  obtain ⟨o, rfl⟩ : ∃ o : Nat, origin = o := ⟨origin.toNat, by omega⟩
  repeat (refine r_lns ?_)
  refine r_ms H (f := nv) (x := 0) rfl (by omega) (by omega) fun b2 w2 S2 H2 => ?_; rw [Int.toNat_natCast] at H2 ⊢; refine r_bd (v := .agg (invC last (List.replicate 256 0) (.slice (some ⟨b2, 0, none⟩) last.size last.size) o (.slice none 0 0) 0).toArray) (by kernel_rfl) ?_; refine r_new H2 fun b w3 S3 H3 => ?_; have H4 := H3.close 1 (f := nv) (by rfl); rw [List.set_cons_succ, List.set_cons_zero, List.length_replicate, List.length_nil, Nat.add_zero] at H4; have H5 := ((H4.nilSL bv tB).swap).front 2 rfl
  have hll : last.data.toList.length = last.size := by simp
  refine p4 o b w3 rfl (by omega) hl (S2.trans S3) (InvR_close (t := 229) (lv := .slice (some ⟨b2, 0, none⟩) last.size last.size) (ov := .slice none 0 0) ?_)
  have e1 : nxL last.data.toList 0 = List.replicate 256 0 := by
   unfold nxL; rw [List.eq_replicate_iff]; refine ⟨by simp, fun x hx => ?_⟩; obtain ⟨y, _, rfl⟩ := List.mem_map.1 hx; rw [nx_lo (by omega)]; simp [cntB]
  have e2 : lnS last.data.toList 0 = List.replicate last.size 0 := by
   unfold lnS; rw [show (0 - last.data.toList.length) = 0 by omega, Nat.zero_min, lnk, hll]
  rw [e1, e2, show 0 - 2 * last.size = 0 by omega]; exact H5.swap
 ·repeat (refine r_lss ?_)
  refine r_ifD (fun h => ?_) fun h => ?_
  ·exact r_ke ⟨rfl, true, rfl, by simp; omega⟩
  ·repeat (first | refine r_ke ?_ | refine r_lns ?_ | refine r_geq ?_)
   refine ⟨rfl, _, rfl, ?_⟩; rw [decide_eq_true_iff]; omega
theorem Take_spec {last : ByteArray} {o s k : Nat} (H : Holds w (InvR b last o s k :: L))
  (post : ∀ w', Same w w' -> Holds w' (InvR b last o s (s - 2 * last.size) :: L) -> K (.string ⟨((outK last.data.toList o (s - 2 * last.size)).drop k).toArray⟩) w') :
  Cl Tryz.prog 119 #[.pointer (some ⟨b, 0, none⟩)] w K := by
 refine Tz119 ?_; unfold Vz119; obtain ⟨t, lv, ov, H⟩ := InvR_open H; have S := Same.refl w; have hn := nxL_len last.data.toList s; obtain ⟨oa, sp, rfl, H⟩ := H.open 2 rfl; rw [List.set_cons_succ, List.set_cons_succ, List.set_cons_zero] at H
 repeat (first | ((with_reducible apply r_ld 0 H); (exact rfl); (with_reducible exact (c259 hn))) | refine r_cbs H 2 rfl rfl ?_ | refine r_nc ?_ | refine r_fo0 ?_ | (with_reducible refine r_bnSF ?_) | (with_reducible refine r_vf ?_))
 refine r_st 0 H rfl (by rw [clen hn]; omega) rfl fun w2 S2 H2 => ?_; rw [s259 hn, List.set_cons_zero] at H2; refine post w2 S2 (InvR_close (t := t) (lv := lv) (ov := .slice none 0 0) ?_); rw [List.drop_of_length_le (Nat.le_of_eq (outK_len _ _ _))]; exact (((H2.dropAt 2).nilSL bv tB).front 2 rfl).front 2 rfl
theorem Of_spec {last : ByteArray} {origin : Int} (H : Holds w L)
  (p1 : last.size = 0 -> K (.tuple #[.string ⟨#[]⟩, .int .i64 1]) w)
  (p2 : 900000 < last.size -> K (.tuple #[.string ⟨#[]⟩, .int .i64 2]) w)
  (p3 : 0 < last.size -> last.size <= 900000 -> (origin < 0 \/ (last.size : Int) <= origin) -> K (.tuple #[.string ⟨#[]⟩, .int .i64 23]) w)
  (p4 : ∀ (o : Nat) w', origin = o -> o < last.size -> last.size <= 900000 -> Same w w' -> Holds w' L -> K (.tuple #[.string ⟨(text last.data.toList o).toArray⟩, .int .i64 0]) w') :
  Cl Tryz.prog 62 #[.string last, .int .i64 origin] w K := by
 refine Tz62 ?_; unfold Vz62; refine New_spec H (fun h => ?_) (fun h => ?_) (fun h1 h2 h3 => ?_) fun o b w1 h1 h2 h3 S H1 => ?_
 ·repeat (first | refine r_neq ?_ | (with_reducible refine r_ex20 ?_) | (with_reducible refine r_ex21 ?_) | ((with_reducible refine r_vtN ?h ?_); (case h => omega)))
  exact p1 h
 ·repeat (first | refine r_neq ?_ | (with_reducible refine r_ex20 ?_) | (with_reducible refine r_ex21 ?_) | ((with_reducible refine r_vtN ?h ?_); (case h => omega)))
  exact p2 h
 ·repeat (first | refine r_neq ?_ | (with_reducible refine r_ex20 ?_) | (with_reducible refine r_ex21 ?_) | ((with_reducible refine r_vtN ?h ?_); (case h => omega)))
  exact p3 h1 h2 h3
 ·clear H; have H := H1
  repeat (first | refine r_lns ?_ | refine r_neq ?_ | (with_reducible refine r_ex20 ?_) | (with_reducible refine r_ex21 ?_) | (refine r_mul (by omega) (by omega) ?_) | ((with_reducible refine r_vfN ?h ?_); (case h => omega)))
  refine Step_spec H (by omega) (by omega) h2 (by omega) fun w2 S2 H2 => ?_
  have e : min (3 * (last.size : Int)).toNat (3 * last.size - 0) = 3 * last.size := by omega
  rw [e, Nat.zero_add] at H2; refine Take_spec H2 fun w3 S3 H3 => ?_
  have hll : last.data.toList.length = last.size := by simp
  have := p4 o w3 h1 h2 h3 ((S.trans S2).trans S3) H3.drop; unfold text at this; rw [hll] at this; rw [show 3 * last.size - 2 * last.size = last.size by omega, List.drop_zero]; exact this
end U18
namespace U18
open Go.M18
variable {w : World} {L : List HProp} {K : Value -> World -> Prop}
end U18
namespace U18
open Go.M18
variable {w : World} {L : List HProp} {K : Value -> World -> Prop}
end U18
namespace U18
open Go.M18
variable {w : World} {L : List HProp} {K : Value -> World -> Prop}
theorem text_len (l : List UInt8) (o : Nat) : (text l o).length = l.length := outK_len _ _ _
end U18
namespace U18
open Go.M18
variable {w : World} {L : List HProp} {K : Value -> World -> Prop}
theorem Rotation_spec {s : List UInt8} {i : Nat} (H : Holds w L) (hl : s.length <= 1000000) (hi : i <= s.length)
  (post : ∀ w', Same w w' -> Holds w' L -> K (.string ⟨(rot s i).toArray⟩) w') :
  Cl Tryz.prog 125 #[.string ⟨s.toArray⟩, .int .i64 i] w K := by
 refine Tz125 ?_; unfold Vz125; have S := Same.refl w
 have hsz : (⟨s.toArray⟩ : ByteArray).size = s.length := by simp [ByteArray.size]
 refine r_dr H ?_; clear H; intro _ S_ H; replace S := S.trans S_; clear S_; refine r_sstD (by omega) ?_; refine r_sstT (by omega) ?_; refine r_catL (by simp; omega) ?_; exact post _ S H
theorem Ahead_spec {s : List UInt8} {i k : Nat} (H : Holds w L) (hl : s.length <= 1000000) (hi : i <= s.length) (hk : k <= s.length)
  (post : ∀ w', Same w w' -> Holds w' L -> K (.bool (aheadP s i k)) w') :
  Cl Tryz.prog 126 #[.string ⟨s.toArray⟩, .int .i64 i, .int .i64 k] w K := by
 refine Tz126 ?_; unfold Vz126; refine Rotation_spec H hl hi fun w1 S1 H1 => ?_; refine Rotation_spec H1 hl hk fun w2 S2 H2 => ?_; refine r_slss ?_; have S := S1.trans S2; refine r_vif (fun h => ?_) fun h => ?_
 ·have e : aheadP s i k = true := by unfold aheadP; rw [Bool.or_eq_true]; exact .inl h
  have := post _ S H2; rw [e] at this; exact this
 ·refine r_seqL ?_; refine r_ifD (fun h2 => ?_) fun h2 => ?_
  ·refine r_lss ?_
   have e : aheadP s i k = decide ((i : Int) < (k : Int)) := by
    unfold aheadP; rw [show bl (rot s i) (rot s k) = false from h, Bool.false_or, decide_eq_true h2, Bool.true_and, Bool.eq_iff_iff, decide_eq_true_iff, decide_eq_true_iff]; omega
   rw [<- e]; exact post _ S H2
  ·have e : aheadP s i k = false := by
    unfold aheadP; rw [show bl (rot s i) (rot s k) = false from h, Bool.false_or, decide_eq_false h2, Bool.false_and]
   have := post _ S H2; rw [e] at this; exact this
theorem Sorted_spec {s : List UInt8} (H : Holds w L) (hl : s.length <= 1000000)
  (post : ∀ v w', Same w w' -> Holds w' (SL nv tI v (sortP s s.length) :: L) -> K v w') :
  Cl Tryz.prog 66 #[.string ⟨s.toArray⟩] w K := by
 refine Tz66 ?_; unfold Vz66
 have hsz : (⟨s.toArray⟩ : ByteArray).size = s.length := by simp [ByteArray.size]
 refine r_lns ?_; rw [hsz]
 refine r_loop2 (fun v x w' => ∃ i : Nat, i <= s.length /\ x = nv i /\ Same w w' /\ Holds w' (SL nv tI v (sortP s i) :: L))
  (fun _ x _ => s.length - (RowKit.intOf x).toNat) ⟨0, by omega, rfl, .refl w, H.nilSL nv tI⟩ ?_
 clear H; rintro _ out _ w2 ⟨i, hi, rfl, S, H⟩
 repeat (refine r_lss ?_)
 refine r_ifD (fun h => ?_) fun h => ?_
 ·have hlt : i < s.length := by omega
  have hsl := sortP_len s i; have hsm := sortP_mem s i; have hnext : sortP s (i + 1) = insP s i (sortP s i) := rfl; generalize sortP s i = so at *; obtain ⟨oa, sp, rfl, H⟩ := H.open 0 rfl; rw [List.set_cons_zero] at H
  repeat (refine r_lnl ?_)
  refine r_loop3 (fun v p x w' => ∃ (j : Nat) (b : Bool) (nx : List Nat), j <= so.length /\ x = nv j /\ p = .bool b /\ nx.length = j + b.toNat /\ nx ++ (if b then so.drop j else insP s i (so.drop j)) = insP s i so /\
    Same w w' /\ Holds w' (SL nv tI v nx :: slb nv tI oa so sp :: L))
   (fun _ _ x _ => so.length - (RowKit.intOf x).toNat) ⟨0, false, [], by omega, rfl, rfl, by simp, by simp, S, H.nilSL nv tI⟩ ?_
  clear S H; rintro _ nxv _ _ w3 ⟨j, b, nx, hj, rfl, rfl, hnl, hinv, S, H⟩
  repeat (refine r_lss ?_)
  refine r_ifD (fun h2 => ?_) fun h2 => ?_
  ·have hjl : j < so.length := by omega
   obtain ⟨k, hk⟩ : ∃ k, so[j]? = some k := ⟨_, List.getElem?_eq_getElem hjl⟩; have hkm := (hsm k).1 (List.mem_of_getElem? hk)
   have hdrop : so.drop j = k :: so.drop (j + 1) := by
    rw [List.drop_eq_getElem_cons hjl]; obtain ⟨_, h4⟩ := List.getElem?_eq_some_iff.1 hk; rw [h4]
   refine r_iasN 1 H rfl hjl (Nat.le_refl _) ?_; rintro b2 rfl; refine r_ldsl 1 H rfl hk ?_
   refine r_join2 (fun v p w' => ∃ (b' : Bool) (nx' : List Nat), p = .bool b' /\ nx'.length = j + b'.toNat /\ (nx' ++ [k]) ++ (if b' then so.drop (j + 1) else insP s i (so.drop (j + 1))) = insP s i so /\
    Same w w' /\ Holds w' (SL nv tI v nx' :: slb nv tI (some ⟨b2, 0, none⟩) so sp :: L)) ?_ ?_
   ·rintro _ v _ w4 ⟨b', nx', rfl, hnl', hinv', S, H⟩; refine r_app1 H 0 rfl k (fun _ => rfl) (by have := Bool.toNat_le b'; omega) fun v5 w5 S5 H5 => ?_
    repeat (first | refine r_ke ?_ | (refine r_add1N (by omega) ?_))
    refine ⟨⟨j + 1, b', _, by omega, rfl, rfl, by rw [List.length_append, List.length_singleton]; omega, hinv', S.trans S5, H5⟩, ?_⟩; simp only [nv, RowKit.intOf, Int.toNat_natCast]; omega
   ·refine r_join1 (fun x w' => x = .bool (!b && aheadP s i k) /\ Same w w' /\ Holds w' (SL nv tI nxv nx :: slb nv tI (some ⟨b2, 0, none⟩) so sp :: L)) ?_ ?_
    ·rintro _ _ w4 ⟨rfl, S, H⟩; refine r_vif (fun h3 => ?_) fun h3 => ?_
     ·have hb : b = false /\ aheadP s i k = true := by simpa using h3
      obtain ⟨rfl, ha⟩ := hb; refine r_app1 H 0 rfl i (fun _ => rfl) (by rw [hnl]; show j + 0 + 1 <= _; omega) fun v5 w5 S5 H5 => ?_; refine r_ke ⟨true, _, rfl, ?_, ?_, S.trans S5, H5⟩
      ·rw [List.length_append, List.length_singleton, hnl]; rfl
      ·rw [<- hinv, hdrop]; simp [insP, ha]
     ·refine r_ke ⟨b, _, rfl, hnl, ?_, S, H⟩; rw [<- hinv, hdrop]
      cases b with
      | true => simp
      | false =>
       have ha : aheadP s i k = false := by simpa using h3
       simp [insP, ha]
    ·repeat (refine r_not ?_)
     refine r_vif (fun h3 => ?_) fun h3 => ?_
     ·have hb : b = false := by simpa using h3
      subst hb; refine Ahead_spec H hl (by omega) (by omega) fun w5 S5 H5 => ?_; exact r_ke ⟨by simp, S.trans S5, H5⟩
     ·have hb : b = true := by simpa using h3
      subst hb; exact r_ke ⟨by simp, S, H⟩
  ·have hjj : j = so.length := by omega
   subst hjj; rw [List.drop_length] at hinv; refine r_join1 (fun v w' => Same w w' /\ Holds w' (SL nv tI v (insP s i so) :: L)) ?_ ?_
   ·rintro _ v w4 ⟨S, H⟩
    repeat (first | refine r_ke ?_ | (refine r_add1N (by omega) ?_))
    refine ⟨⟨i + 1, by omega, rfl, S, by rw [hnext]; exact H⟩, ?_⟩; simp only [nv, RowKit.intOf, Int.toNat_natCast]; omega
   ·repeat (refine r_not ?_)
    refine r_vif (fun h3 => ?_) fun h3 => ?_
    ·have hb : b = false := by simpa using h3
     subst hb; refine r_app1 H 0 rfl i (fun _ => rfl) (by rw [hnl]; show so.length + 0 + 1 <= _; omega) fun v5 w5 S5 H5 => ?_; refine r_ke ⟨S.trans S5, ?_⟩
     have hi2 : nx ++ [i] = insP s i so := by rw [<- hinv]; simp [insP]
     rw [List.set_cons_zero, hi2] at H5; exact H5.swap.drop
    ·have hb : b = true := by simpa using h3
     subst hb
     have hi2 : nx = insP s i so := by rw [<- hinv]; simp
     rw [hi2] at H; exact r_ke ⟨S, H.swap.drop⟩
 ·have e : i = s.length := by omega
  subst e; exact post _ _ S H
theorem drop_lastB (r : List UInt8) (h : 0 < r.length) : r.drop (r.length - 1) = [lastB r] := by
 have h2 := init_last r h
 have h3 : (r.take (r.length - 1)).length = r.length - 1 := by simp
 have := congrArg (List.drop (r.length - 1)) h2; rw [List.drop_append_of_le_length (by omega), List.drop_of_length_le (Nat.le_of_eq h3), List.nil_append] at this; exact this
abbrev tT : Nat := 48
theorem From_spec {s : List UInt8} {v : Value} {xs : List Nat} {o : Nat} (H : Holds w (SL nv tI v xs :: L)) (hl : s.length <= 1000000) (h0 : 0 < s.length) (hx : xs.length <= 1000000) (hm : ∀ x ∈ xs, x < s.length) (hd : xs.Nodup) (ho : xs[o]? = some 0)
  (post : ∀ w', Same w w' -> Holds w' L -> K (.agg #[.string ⟨(xs.map fun i => lastB (rot s i)).toArray⟩, nv o]) w') :
  Cl Tryz.prog 65 #[.string ⟨s.toArray⟩, v] w K := by
 refine Tz65 ?_; unfold Vz65
 have hsz : (⟨s.toArray⟩ : ByteArray).size = s.length := by simp [ByteArray.size]
 obtain ⟨oa, sp, rfl, H⟩ := H.open 0 rfl; rw [List.set_cons_zero] at H
 have hz : (zeroP Tryz.prog tT).cells.toList = [.string ⟨#[]⟩, nv 0] := by kernel_rfl
 refine r_new H fun b1 w1 S1 H1 => ?_; rw [hz] at H1; refine r_bd (v := .agg #[.string ⟨#[]⟩, nv 0]) (by kernel_rfl) ?_; refine r_new H1 fun b2 w2 S2 H2 => ?_; rw [hz] at H2; refine r_stA 0 H2 (vs := [.string ⟨#[]⟩, nv 0]) rfl (by decide) rfl rfl fun w3 S3 H3 => ?_; replace H3 : Holds w3 (blk b2 tT [.string ⟨[].toArray⟩, nv 0] :: blk b1 tT [.string ⟨#[]⟩, nv 0] :: slb nv tI oa xs sp :: L) := H3
 repeat (refine r_lnl ?_)
 refine r_loop1 (fun x w' => ∃ i og : Nat, i <= xs.length /\ x = nv i /\ (o < i -> og = o) /\ Same w w' /\
   Holds w' (blk b2 tT [.string ⟨((xs.take i).map fun i => lastB (rot s i)).toArray⟩, nv og] :: blk b1 tT [.string ⟨#[]⟩, nv 0] :: slb nv tI oa xs sp :: L))
  (fun x _ => xs.length - (RowKit.intOf x).toNat) ⟨0, 0, by omega, rfl, by omega, (S1.trans S2).trans S3, H3⟩ ?_
 clear H H1 H2 H3 S1 S2 S3; rintro _ _ w4 ⟨i, og, hi, rfl, hog, S, H⟩
 repeat (refine r_lss ?_)
 refine r_ifD (fun h => ?_) fun h => ?_
 ·have hlt : i < xs.length := by omega
  obtain ⟨k, hk⟩ : ∃ k, xs[i]? = some k := ⟨_, List.getElem?_eq_getElem hlt⟩; have hkm := hm k (List.mem_of_getElem? hk)
  have htk : xs.take (i + 1) = xs.take i ++ [k] := by rw [List.take_add_one, hk]; rfl
  refine r_iasN 2 H rfl hlt (Nat.le_refl _) ?_; rintro b3 rfl; refine r_ldsl 2 H rfl hk ?_; refine Rotation_spec H hl (by omega) fun w5 S5 H5 => ?_; replace S := S.trans S5; clear S5 H; have H := H5; clear H5; have hrl := rot_len s k (by omega)
  have hrz : (⟨(rot s k).toArray⟩ : ByteArray).size = (rot s k).length := by simp [ByteArray.size]
  have hdl := drop_lastB (rot s k) (by omega)
  repeat (first | refine r_fo0 ?_ | refine r_lns ?_ | (refine r_sub1N (by omega) (by omega) ?_) | (refine r_dr H ?_; clear H; intro _ S_ H; replace S := S.trans S_; clear S_) | refine r_ld 0 H rfl rfl ?_)
  refine r_sstD (by omega) ?_; rw [hrz]; rw [show (⟨(rot s k).toArray⟩ : ByteArray).data.toList = rot s k by simp, hdl]; refine r_catL (by rw [List.length_map, List.length_take, List.length_singleton]; omega) ?_
  have hmap : (xs.take i).map (fun i => lastB (rot s i)) ++ [lastB (rot s k)] = (xs.take (i + 1)).map fun i => lastB (rot s i) := by rw [htk, List.map_append]; rfl
  rw [hmap]
  repeat (refine r_fo0 ?_)
  refine r_st 0 H rfl (by simp) rfl fun w6 S6 H6 => ?_; rw [List.set_cons_zero, List.set_cons_zero] at H6; replace S := S.trans S6; clear S6 H; have H := H6; clear H6
  repeat (refine r_eql ?_)
  refine r_ifE (fun h2 => ?_) fun h2 => ?_
  ·have hk0 : k = 0 := by omega
   subst hk0
   have hio : i = o := by
    obtain ⟨h3, h4⟩ := List.getElem?_eq_some_iff.1 hk; obtain ⟨h5, h6⟩ := List.getElem?_eq_some_iff.1 ho; exact (List.getElem_inj hd).1 (h4.trans h6.symm)
   repeat (refine r_fo0 ?_)
   refine r_st 0 H rfl (by simp) rfl fun w7 S7 H7 => ?_; rw [List.set_cons_zero, List.set_cons_succ, List.set_cons_zero] at H7
   repeat (first | refine r_ke ?_ | (refine r_add1N (by omega) ?_))
   refine ⟨⟨i + 1, i, by omega, rfl, by omega, S.trans S7, H7⟩, ?_⟩; simp only [nv, RowKit.intOf, Int.toNat_natCast]; omega
  ·have h2' : ¬ k = 0 := by omega
   repeat (first | refine r_ke ?_ | (refine r_add1N (by omega) ?_))
   refine ⟨⟨i + 1, og, by omega, rfl, fun h3 => ?_, S, H⟩, ?_⟩
   ·rcases Nat.lt_or_ge o i with h4 | h4
    ·exact hog h4
    ·have h5 : o = i := by omega
     rw [h5, hk] at ho; exact absurd (Option.some.inj ho) h2'
   ·simp only [nv, RowKit.intOf, Int.toNat_natCast]; omega
 ·have e : i = xs.length := by omega
  subst e; have h1 : o < xs.length := (List.getElem?_eq_some_iff.1 ho).1; rw [hog h1, List.take_length] at H; refine r_ldA 0 H [.string ⟨(xs.map fun i => lastB (rot s i)).toArray⟩, nv o] rfl rfl rfl ?_; refine r_stA 1 H (vs := [_, _]) rfl (by decide) rfl rfl fun w5 S5 H5 => ?_; refine r_ldA 1 H5 [.string ⟨(xs.map fun i => lastB (rot s i)).toArray⟩, nv o] rfl rfl rfl ?_; exact post _ (S.trans S5) H5.drop.drop.drop
theorem TOf_spec {s : List UInt8} (H : Holds w L) (hl : s.length <= 1000000) (h0 : 0 < s.length)
  (post : ∀ o w', o < s.length -> (sortP s s.length)[o]? = some 0 -> Same w w' -> Holds w' L -> K (.agg #[.string ⟨(lastL s).toArray⟩, nv o]) w') :
  Cl Tryz.prog 24 #[.string ⟨s.toArray⟩] w K := by
 refine Tz24 ?_; unfold Vz24
 have hz : (zeroP Tryz.prog tT).cells.toList = [.string ⟨#[]⟩, nv 0] := by kernel_rfl
 refine r_new H fun b1 w1 S1 H1 => ?_; rw [hz] at H1; refine Sorted_spec H1 hl fun v w2 S2 H2 => ?_; have hm0 := (sortP_mem s s.length 0).2 h0; obtain ⟨o, ho, hoe⟩ := List.getElem_of_mem hm0
 have ho2 : (sortP s s.length)[o]? = some 0 := by rw [List.getElem?_eq_getElem ho, hoe]
 refine From_spec H2 hl h0 (by rw [sortP_len]; omega) (fun x hx => (sortP_mem s s.length x).1 hx) (sortP_nodup s _) ho2 fun w3 S3 H3 => ?_; refine r_stA 0 H3 (vs := [_, _]) rfl (by decide) rfl rfl fun w4 S4 H4 => ?_; refine r_ldA 0 H4 [.string ⟨(lastL s).toArray⟩, nv o] rfl rfl rfl ?_; exact post o _ (by rw [sortP_len] at ho; exact ho) ho2 (((S1.trans S2).trans S3).trans S4) H4.drop
end U18
namespace P36
open Go.Mh
variable {w : World} {L : List HProp} {K : Value -> World -> Prop}
theorem May_spec {v : Value} {l : List Nat} {i lo hi : Nat} (H : Holds w L) (hv : L[i]? = some (SL nv tI v l)) (hl : l.length <= 1000000) (k : K (.bool (decide (∀ x ∈ l, lo <= x /\ x <= hi))) w) : Cl Tryz.prog 207 #[v, nv lo, nv hi] w K := by
 refine Tz207 ?_; unfold Vz207; refine r_lnS i H hv ?_; refine r_loop1 (fun q w' => ∃ t : Nat, q = nv t /\ t <= l.length /\ (∀ x ∈ l.take t, lo <= x /\ x <= hi) /\ w = w') (fun q _ => l.length - (RowKit.intOf q).toNat) ⟨0, rfl, Nat.zero_le _, by simp, rfl⟩ ?_; rintro _ _ _ ⟨t, rfl, ht, hm, rfl⟩; refine r_lss (r_ifD (fun h => ?_) fun h => ?_)
 ·have hlt : t < l.length := by omega
  refine r_getS i H hv (List.getElem?_eq_getElem hlt) ?_
  have e : l.take (t + 1) = l.take t ++ [l[t]] := by rw [List.take_add_one, List.getElem?_eq_getElem hlt]; rfl
  have hmem := List.getElem_mem hlt; generalize l[t] = x at *; refine r_join1 (fun z w' => w = w' /\ z = .bool (decide (x < lo \/ hi < x))) ?_ ?_
  rotate_left
  ·refine r_lss (r_ifD (fun q => ?_) fun q => ?_)
   ·exact r_ke ⟨rfl, by rw [decide_eq_true (.inl (by omega))]⟩
   ·refine r_gtr (r_ke ⟨rfl, ?_⟩)
    congr 1
    exact decide_eq_decide.2 (by omega)
  rintro _ _ _ ⟨rfl, rfl⟩; refine r_ifD (fun q => ?_) fun q => ?_
  ·rw [decide_eq_false (fun e => by have := e x hmem; omega)] at k; exact k
  ·refine r_add1N (by omega) (r_ke ⟨⟨t + 1, rfl, by omega, fun y hy => ?_, rfl⟩, ?_⟩)
   ·rw [e] at hy; rcases List.mem_append.1 hy with hy | hy
    ·exact hm y hy
    ·rw [List.mem_singleton.1 hy]; omega
   ·simp only [nv, RowKit.intOf, Int.toNat_natCast]; omega
 ·rw [List.take_of_length_le (by omega)] at hm; rw [decide_eq_true hm] at k; exact k
theorem Halved_spec {v : Value} {l : List Nat} {i : Nat} (H : Holds w L) (hi : L[i]? = some (SL nv tI v l)) (hl : l.length <= 1000000) (hb : ∀ x ∈ l, x <= 1099511627776) (k : ∀ v' w', Same w w' -> Holds w' (SL nv tI v' (halved l) :: L) -> K v' w') : Cl Tryz.prog 208 #[v] w K := by
 refine Tz208 ?_; unfold Vz208; refine r_lnS i H hi ?_; refine r_loop2 (fun p q w' => ∃ t : Nat, q = nv t /\ t <= l.length /\ Same w w' /\ Holds w' (SL nv tI p (halved (l.take t)) :: L)) (fun _ q _ => l.length - (RowKit.intOf q).toNat) ⟨0, rfl, Nat.zero_le _, .refl _, H.nilSL nv tI⟩ ?_; clear H; rintro _ p _ w3 ⟨t, rfl, ht, S3, H3⟩; refine r_lss (r_ifD (fun h => ?_) fun h => ?_)
 ·have hlt : t < l.length := by omega
  have hx := hb _ (List.getElem_mem hlt)
  have e : l.take (t + 1) = l.take t ++ [l[t]] := by rw [List.take_add_one, List.getElem?_eq_getElem hlt]; rfl
  refine r_getS (i + 1) H3 (by rw [List.getElem?_cons_succ]; exact hi) (List.getElem?_eq_getElem hlt) ?_; generalize l[t] = x at *; refine r_join1 (fun z w' => w3 = w' /\ z = nv x) ?_ ?_
  rotate_left
  ·refine r_lss (r_vfD (by omega) ?_); exact r_ke ⟨rfl, rfl⟩
  rintro _ _ _ ⟨rfl, rfl⟩; refine r_quo (by omega) (by omega) (by omega) ?_; rw [show (x : Int) / 2 = ((x / 2 : Nat) : Int) by omega]; refine r_add1N (by omega) ?_
  have hlen : (halved (l.take t)).length = t := by unfold halved; rw [List.length_map, List.length_take]; omega
  refine r_app1 (f := nv) H3 0 (xs := halved (l.take t)) rfl (x / 2 + 1) (fun _ => rfl) (by omega) fun v' w4 S4 H4 => ?_; refine r_add1N (by omega) (r_ke ⟨⟨t + 1, rfl, by omega, S3.trans S4, ?_⟩, ?_⟩)
  ·rw [e]; unfold halved at *; rw [List.map_append]; exact H4
  ·simp only [nv, RowKit.intOf, Int.toNat_natCast]; omega
 ·rw [List.take_of_length_le (by omega)] at H3; exact k p w3 S3 H3
def ones (c : List Nat) : List Nat := c.map fun x => max x 1
theorem Of_spec {v : Value} {c : List Nat} {i : Nat} (H : Holds w L) (hi : L[i]? = some (SL nv tI v c)) (h3 : 3 <= c.length) (hl : c.length <= 258) (hb : ∀ x ∈ c, x <= 1099511627776)
  (k : ∀ v' out w', LensOf (c.map fun x => max x 1) out -> Same w w' -> Holds w' (SL nv tI v' out :: L) -> K v' w') : Cl Tryz.prog 159 #[v] w K := by
 refine Tz159 ?_; unfold Vz159; refine r_lnS i H hi ?_; refine r_loop2 (fun p q w' => ∃ t : Nat, q = nv t /\ t <= c.length /\ Same w w' /\ Holds w' (SL nv tI p (ones (c.take t)) :: L)) (fun _ q _ => c.length - (RowKit.intOf q).toNat) ⟨0, rfl, Nat.zero_le _, .refl _, H.nilSL nv tI⟩ ?_; clear H; rintro _ p _ w3 ⟨t, rfl, ht, S3, H3⟩; refine r_lss (r_ifD (fun h => ?_) fun h => ?_)
 ·have hlt : t < c.length := by omega
  have e : c.take (t + 1) = c.take t ++ [c[t]] := by rw [List.take_add_one, List.getElem?_eq_getElem hlt]; rfl
  refine r_getS (i + 1) H3 (by rw [List.getElem?_cons_succ]; exact hi) (List.getElem?_eq_getElem hlt) ?_; generalize c[t] = x at *; refine r_join1 (fun z w' => w3 = w' /\ z = nv (max x 1)) ?_ ?_
  rotate_left
  ·refine r_eql (r_ifE (fun q => ?_) fun q => ?_)
   ·exact r_ke ⟨rfl, by rw [show max x 1 = 1 by omega]; rfl⟩
   ·exact r_ke ⟨rfl, by rw [show max x 1 = x by omega]⟩
  rintro _ _ _ ⟨rfl, rfl⟩
  have hlen : (ones (c.take t)).length = t := by unfold ones; rw [List.length_map, List.length_take]; omega
  refine r_app1 (f := nv) H3 0 (xs := ones (c.take t)) rfl (max x 1) (fun _ => rfl) (by omega) fun v' w4 S4 H4 => ?_; refine r_add1N (by omega) (r_ke ⟨⟨t + 1, rfl, by omega, S3.trans S4, ?_⟩, ?_⟩)
  ·rw [e]; unfold ones at *; rw [List.map_append]; exact H4
  ·simp only [nv, RowKit.intOf, Int.toNat_natCast]; omega
 rw [List.take_of_length_le (by omega)] at H3
 refine r_loop2 (fun x q w' => ∃ (t : Nat) (u : List Nat), q = nv t /\ t <= 40 /\ u.length = c.length /\ (∀ x ∈ u, 1 <= x /\ x <= 2 ^ (40 - t) + 1 /\ x <= 1099511627776) /\ (∀ out, LensOf u out -> LensOf (ones c) out) /\ Same w w' /\ Holds w' (SL nv tI x u :: L)) (fun _ q _ => 100 - (RowKit.intOf q).toNat)
  ⟨0, ones c, rfl, Nat.zero_le _, by unfold ones; rw [List.length_map], fun x hx => by
   obtain ⟨y, hy, rfl⟩ := List.mem_map.1 hx; have := hb y hy
   have e : (2 : Nat) ^ (40 - 0) = 1099511627776 := by decide
   omega, fun _ h => h, S3, H3⟩ ?_
 clear H3 S3; rintro _ x _ w4 ⟨t, u, rfl, ht, hu, hur, hcont, S4, H4⟩; refine r_lss (r_vtD (by omega) ?_); refine P35.Depths_spec H4 (i := 0) rfl (by omega) (by omega) (fun x hx => (hur x hx).2.2) fun v' out w5 hD S5 H5 => ?_
 have hol : out.length = c.length := by
  obtain ⟨_, _, _, _, h, _⟩ := hD; omega
 have hpos := depths_pos (by omega) hD; refine May_spec H5 (i := 0) (lo := 1) (hi := 20) rfl (by omega) ?_; refine r_ifD (fun h20 => ?_) fun h20 => ?_
 ·exact k v' out w5 (hcont _ (.fit hD fun x hx => (h20 x hx).2)) (S4.trans S5) (Holds.dropAt H5 1)
 ·have hn : ¬ ∀ x ∈ out, x <= 20 := fun e => h20 fun x hx => ⟨hpos x hx, e x hx⟩
  have h40 : t < 40 := by
   rcases Nat.lt_or_ge t 40 with q | q
   ·exact q
   ·refine absurd (depths_small (fun x hx => ?_) (by omega) hD) hn; have := hur x hx; rw [show 40 - t = 0 by omega] at this; omega
  refine Halved_spec H5 (i := 1) rfl (by omega) (fun x hx => (hur x hx).2.2) fun v2 w6 S6 H6 => ?_; refine r_add1N (by omega) (r_ke ⟨⟨t + 1, halved u, rfl, by omega, by unfold halved; rw [List.length_map]; exact hu, fun x hx => ?_, fun o ho => hcont o (.more hD hn ho), S4.trans (S5.trans S6), Holds.dropAt (Holds.dropAt H6 1) 1⟩, ?_⟩)
  ·obtain ⟨y, hy, rfl⟩ := List.mem_map.1 hx; have h1 := hur y hy; rw [show 40 - t = (40 - (t + 1)) + 1 by omega, Nat.pow_succ] at h1; generalize 2 ^ (40 - (t + 1)) = z at *; omega
  ·simp only [nv, RowKit.intOf, Int.toNat_natCast]; omega
end P36
namespace T12
open F08 Rw Go.Mh
variable {w : World} {L : List HProp} {K : Value -> World -> Prop}
def outG (l : List Nat) (u : Nat) : List (List Nat) := if u = l.length then grps l else (List.range (u / 50)).map (grp l)
def nowG (l : List Nat) (u : Nat) : List Nat := if u = l.length then [] else (l.take u).drop (u / 50 * 50)
abbrev tCd : Nat := 166
end T12
namespace P20
open Go.M01 Go.Mb Go.Mp Go.M10 Go.Mc Go.Mz Go.Mk Go.Q20 Go.Q21 Go.Q22
abbrev S_ (B : List UInt8) : Value := .string ⟨B.toArray⟩
abbrev pt (b : Nat) : Value := .pointer (some ⟨b, 0, none⟩)
abbrev tB : Nat := 5
abbrev tI : Nat := 3
variable {w : World} {L : List HProp} {K : Value -> World -> Prop}
theorem sz (t : List UInt8) : (⟨t.toArray⟩ : ByteArray).size = t.length := by show t.toArray.size = _; simp
theorem dl (t : List UInt8) : (⟨t.toArray⟩ : ByteArray).data.toList = t := by simp
theorem q_len {t : List UInt8} {K : Value -> Prop} (h : K (nv t.length)) : Lns (S_ t) K := r_lns (by rw [sz]; exact h)
theorem q_ix {t : List UInt8} {k : IntKind} {m : Nat} {K : Value -> Prop} (h1 : m < t.length) (h : K (bv (t.getD m 0))) : Ixs (S_ t) (.int k (m : Int)) K := r_ixsN (by rw [sz]; exact h1) (by rw [dl]; exact h)
theorem q_T {t : List UInt8} {k : IntKind} {m : Nat} {K : Value -> Prop} (h1 : m <= t.length) (h : K (S_ (t.take m))) : Sst (S_ t) none (some (.int k (m : Int))) K := r_sstT (by rw [sz]; exact h1) (by rw [dl]; exact h)
theorem q_D {t : List UInt8} {k : IntKind} {m : Nat} {K : Value -> Prop} (h1 : m <= t.length) (h : K (S_ (t.drop m))) : Sst (S_ t) (some (.int k (m : Int))) none K := r_sstD (by rw [sz]; exact h1) (by rw [dl]; exact h)
theorem q_1 {t : List UInt8} {k k' : IntKind} {m : Nat} {K : Value -> Prop} (h1 : m < t.length) (h : K (S_ [t.getD m 0])) : Sst (S_ t) (some (.int k (m : Int))) (some (.int k' ((m + 1 : Nat) : Int))) K :=
 r_sst1 (by rw [sz]; exact h1) (by rw [dl]; exact h)
theorem q_str (H : Holds w L) (c : UInt8) {t e d : TypeId} {z : Value} [hr : Row Tryz.prog t e z] [hb : Bytes Tryz.prog t e d] (h : ∀ w', Same w w' -> Holds w' L -> K (S_ [c]) w') : Bs Tryz.prog t 1 #[(0, bv c)] w fun y w2 => Cw Tryz.prog t d y w2 K := by
 refine r_bs1 H (by rfl) fun b w2 S2 H2 => ?_; refine r_cbs (xs := [c]) (sp := []) (oa := some ⟨b, 0, none⟩) ((H2.imp fun h hh => (⟨rfl, rfl, hh⟩ : (slb bv e (some ⟨b, 0, none⟩) [c] []) h))) 0 rfl rfl ?_; exact h w2 S2 H2.drop
theorem txt_at {l : List Bool} {m : Nat} (h : m < l.length) : (txt l).getD m 0 = chr (l.getD m false) := txt_getD l m h
theorem q_rem {k : IntKind} {s t : Nat} {K : Value -> Prop} (ht : t ≠ 0) (h : K (.int k ((s % t : Nat) : Int))) : Bp .rem (.int k (s : Int)) (.int k (t : Int)) K :=
 r_bp (v := .int k ((s % t : Nat) : Int)) (by simp only [bp]; rw [if_pos ⟨trivial, by omega⟩, Int.tmod_eq_emod_of_nonneg (by omega)]; rfl) h
theorem q_quoU32 {s t : Nat} {K : Value -> Prop} (hs : s < 4294967296) (ht : t ≠ 0) (h : K (uv (s / t))) : Bp .quo (uv s) (uv t) K :=
 r_bp (v := uv (s / t)) (by
  have h1 : s / t <= s := Nat.div_le_self _ _; simp only [bp]; rw [if_pos ⟨trivial, by omega⟩, Int.tdiv_eq_ediv_of_nonneg (by omega), wrapU32 (Int.ediv_nonneg (by omega) (by omega)) (by rw [<- Int.natCast_ediv]; omega)]
  rfl) h
theorem Field_spec {v n : Nat} (hn : n <= 64) (hv : v < 4294967296) (k : K (S_ (txt (bitsOf v n))) w) : Cl Tryz.prog 51 #[uv v, nv n] w K := by
 refine Tz51 ?_; unfold Vz51; refine r_loop3 (fun x s i w' => ∃ j : Nat, j <= n /\ i = nv j /\ x = uv (v / 2 ^ j) /\ s = S_ (txt (bitsOf v j)) /\ w = w') (fun _ _ i _ => n - (RowKit.intOf i).toNat) ⟨0, by omega, rfl, by simp, rfl, rfl⟩ ?_; rintro _ _ _ _ _ ⟨j, hj, rfl, rfl, rfl, rfl⟩; have hd : v / 2 ^ j < 4294967296 := Nat.lt_of_le_of_lt (Nat.div_le_self _ _) hv
 repeat (refine r_lss ?_)
 refine r_ifD (fun h => ?_) fun h => ?_
 ·have h2 : v / 2 ^ j % 2 = (v.testBit j).toNat := by have := bit_at v j; rwa [Nat.and_one_is_mod] at this
  have hb := Bool.toNat_le (v.testBit j); refine q_rem (t := 2) (by decide) (q_rem (t := 2) (by decide) ?_); rw [h2]; refine r_addU32 (t := 1) (by omega) ?_; refine q_1 (t := [48, 49]) (by simp; omega) ?_
  have e : [48, 49].getD (v.testBit j).toNat 0 = chr (v.testBit j) := by cases v.testBit j <;> rfl
  rw [e]; refine r_catL (by simp [txt_len, bitsOf_len]; omega) ?_; refine q_quoU32 (t := 2) hd (by decide) ?_
  repeat (first | refine r_ke ?_ | (refine r_add1N (by omega) ?_))
  refine ⟨⟨j + 1, by omega, rfl, by rw [Nat.div_div_eq_div_mul, Nat.pow_succ], by rw [bitsOf_succ]; rfl, rfl⟩, ?_⟩; simp [nv, RowKit.intOf]; omega
 ·obtain rfl : j = n := by omega
  exact k
theorem Bits_spec {s : List UInt8} (hs : s.length <= 1000000) (k : K (S_ (txt (bitsL s))) w) : Cl Tryz.prog 29 #[S_ s] w K := by
 refine Tz29 ?_; unfold Vz29; refine r_loop2 (fun o i w' => ∃ j : Nat, j <= s.length /\ i = nv j /\ o = S_ (txt (bitsL (s.take j))) /\ w = w') (fun _ i _ => s.length - (RowKit.intOf i).toNat) ⟨0, by omega, rfl, rfl, rfl⟩ ?_; rintro _ _ _ _ ⟨j, hj, rfl, rfl, rfl⟩; refine q_len ?_
 repeat (refine r_lss ?_)
 refine r_ifD (fun h => ?_) fun h => ?_
 ·have hlt : j < s.length := by omega
  refine q_ix hlt ?_; have hc := (s.getD j 0).toNat_lt
  repeat (refine r_ciu32 (by omega) (by omega) ?_)
  refine Field_spec (n := 8) (by decide) (by omega) ?_; refine r_catL (by have := bitsL_len (s.take j); simp [txt_len, bitsOf_len, this]; omega) ?_
  repeat (first | refine r_ke ?_ | (refine r_add1N (by omega) ?_))
  refine ⟨⟨j + 1, by omega, rfl, ?_, rfl⟩, ?_⟩
  ·have hg : s[j]? = some (s.getD j 0) := by rw [List.getD_eq_getElem?_getD, List.getElem?_eq_getElem hlt]; rfl
   rw [take_snoc hg, bitsL_app, txt_app]; simp [bitsL]
  ·simp [nv, RowKit.intOf]; omega
 ·obtain rfl : j = s.length := by omega
  rw [List.take_length]; exact k
theorem Number_spec {l : List Bool} (hl : l.length <= 32) (k : K (uv (valB l)) w) : Cl Tryz.prog 79 #[S_ (txt l)] w K := by
 refine Tz79 ?_; unfold Vz79; refine r_loop2 (fun x i w' => ∃ j : Nat, j <= l.length /\ i = nv j /\ x = uv (valB (l.take j)) /\ w = w') (fun _ i _ => l.length - (RowKit.intOf i).toNat) ⟨0, by omega, rfl, rfl, rfl⟩ ?_; rintro _ _ _ _ ⟨j, hj, rfl, rfl, rfl⟩; refine q_len ?_; rw [txt_len]
 repeat (refine r_lss ?_)
 refine r_ifD (fun h => ?_) fun h => ?_
 ·have hlt : j < l.length := by omega
  have hv := valB_take_lt l j; have hp : (2 : Nat) ^ j <= 2 ^ 31 := Nat.pow_le_pow_right (by omega) (by omega); have hx := valB_take_succ hlt; have hx2 := valB_take_lt l (j + 1); have hp2 : (2 : Nat) ^ (j + 1) <= 2 ^ 32 := Nat.pow_le_pow_right (by omega) (by omega); refine r_mulU32 (s := 2) (by omega) ?_; refine q_ix (by rw [txt_len]; exact hlt) ?_; rw [txt_at hlt]
  have ec : (chr (l.getD j false)).toNat = 48 + (l.getD j false).toNat := by cases l.getD j false <;> rfl
  rw [show bv (chr (l.getD j false)) = .int .u8 ((48 + (l.getD j false).toNat : Nat) : Int) by rw [<- ec]]; have hb := Bool.toNat_le (l.getD j false); refine r_subU8 (t := 48) (by omega) (by omega) ?_; rw [Nat.add_sub_cancel_left]; refine r_ciu32 (by omega) (by omega) ?_; refine r_addU32 (by omega) ?_; rw [<- hx]
  repeat (first | refine r_ke ?_ | (refine r_add1N (by omega) ?_))
  refine ⟨⟨j + 1, by omega, rfl, rfl, rfl⟩, ?_⟩; simp [nv, RowKit.intOf]; omega
 ·obtain rfl : j = l.length := by omega
  rw [List.take_length]; exact k
theorem There_spec {s : List UInt8} {b : Nat} (hs : s.length <= 1000000) (hb : b < 256) (k : K (.bool (decide (UInt8.ofNat b ∈ s))) w) : Cl Tryz.prog 104 #[S_ s, nv b] w K := by
 refine Tz104 ?_; unfold Vz104; refine r_loop1 (fun i w' => ∃ j : Nat, j <= s.length /\ i = nv j /\ UInt8.ofNat b ∉ s.take j /\ w = w') (fun i _ => s.length - (RowKit.intOf i).toNat) ⟨0, by omega, rfl, by simp, rfl⟩ ?_; rintro _ _ _ ⟨j, hj, rfl, hno, rfl⟩; refine q_len ?_
 repeat (refine r_lss ?_)
 refine r_ifD (fun h => ?_) fun h => ?_
 ·have hlt : j < s.length := by omega
  have hg : s[j]? = some (s.getD j 0) := by rw [List.getD_eq_getElem?_getD, List.getElem?_eq_getElem hlt]; rfl
  refine q_ix hlt ?_; have hc := (s.getD j 0).toNat_lt
  repeat (first | refine r_eql ?_ | (refine r_ci64 (by omega) (by omega) ?_))
  refine r_ifE (fun h2 => ?_) fun h2 => ?_
  ·have hm : UInt8.ofNat b ∈ s := by
    have : s.getD j 0 = UInt8.ofNat b := by
     apply UInt8.toNat_inj.1; rw [UInt8.toNat_ofNat_of_lt' (by simpa using hb)]; omega
    rw [<- this]; exact List.mem_of_getElem? hg
   rw [decide_eq_true hm] at k; exact k
  ·repeat (first | refine r_ke ?_ | (refine r_add1N (by omega) ?_))
   refine ⟨⟨j + 1, by omega, rfl, ?_, rfl⟩, ?_⟩
   ·rw [take_snoc hg]; intro hm; rcases List.mem_append.1 hm with h3 | h3
    ·exact hno h3
    ·rw [List.mem_singleton] at h3; have := congrArg UInt8.toNat h3; rw [UInt8.toNat_ofNat_of_lt' (by simpa using hb)] at this; omega
   ·simp [nv, RowKit.intOf]; omega
 ·obtain rfl : j = s.length := by omega
  rw [List.take_length] at hno; rw [decide_eq_false hno] at k; exact k
theorem bv_nat {j : Nat} (h : j < 256) : (Value.int .u8 (j : Int)) = bv (UInt8.ofNat j) := by
 show _ = Value.int .u8 ((UInt8.ofNat j).toNat : Int); rw [UInt8.toNat_ofNat_of_lt' (by simpa using h)]
theorem Symbols_spec {s : List UInt8} (H : Holds w L) (hs : s.length <= 1000000) (k : ∀ w', Same w w' -> Holds w' L -> K (S_ (listed fun b => decide (UInt8.ofNat b ∈ s))) w') : Cl Tryz.prog 48 #[S_ s] w K := by
 refine Tz48 ?_; unfold Vz48; refine r_loop2 (fun o i w' => ∃ j : Nat, j <= 256 /\ i = nv j /\ o = S_ (below (fun b => decide (UInt8.ofNat b ∈ s)) j) /\ Same w w' /\ Holds w' L) (fun _ i _ => 256 - (RowKit.intOf i).toNat) ⟨0, by omega, rfl, rfl, .refl w, H⟩ ?_; clear H; rintro _ _ _ w1 ⟨j, hj, rfl, rfl, S, H⟩
 repeat (refine r_lss ?_)
 refine r_ifD (fun h => ?_) fun h => ?_
 ·have hlt : j < 256 := by omega
  have hbl := below_len (fun b => decide (UInt8.ofNat b ∈ s)) j; refine There_spec hs hlt ?_; refine r_vif (fun h2 => ?_) fun h2 => ?_
  ·repeat (refine r_ciu8 (by omega) (by omega) ?_)
   rw [bv_nat hlt]; refine q_str H (UInt8.ofNat j) fun w2 S2 H2 => ?_; refine r_catL (by simp; omega) ?_
   repeat (first | refine r_ke ?_ | (refine r_add1N (by omega) ?_))
   refine ⟨⟨j + 1, by omega, rfl, ?_, S.trans S2, H2⟩, ?_⟩
   ·rw [below_succ, if_pos h2]
   ·simp [nv, RowKit.intOf]; omega
  ·repeat (first | refine r_ke ?_ | (refine r_add1N (by omega) ?_))
   refine ⟨⟨j + 1, by omega, rfl, ?_, S, H⟩, ?_⟩
   ·rw [below_succ, if_neg (by rw [h2]; simp), List.append_nil]
   ·simp [nv, RowKit.intOf]; omega
 ·obtain rfl : j = 256 := by omega
  exact k _ S H
theorem Is_spec {T : Nat -> Bool} (H : Holds w L) (hne : listed T ≠ []) (k : ∀ w', Same w w' -> Holds w' L -> K (.bool true) w') : Cl Tryz.prog 105 #[S_ (listed T)] w K := by
 refine Tz105 ?_; unfold Vz105; have hl := listed_len T; have h0 : 0 < (listed T).length := List.length_pos_iff.2 hne; refine q_len ?_
 repeat (first | refine r_gtr ?_ | ((with_reducible refine r_vtD ?h ?_); (case h => omega)))
 refine Symbols_spec H (by omega) fun w2 S2 H2 => ?_; rw [listed_listed]; refine r_seqL ?_; rw [decide_eq_true rfl]; exact k _ S2 H2
end P20
namespace P20
open Go.Mz Go.Mw
variable {w : World} {L : List HProp} {K : Value -> World -> Prop}
end P20
namespace P20
open Go.M01 Go.Mb Go.Mp Go.M10 Go.Mc Go.Mz
variable {w : World} {L : List HProp} {K : Value -> World -> Prop}
abbrev nilV : Value := .slice none 0 0
def letters (o : List Nat) : List UInt8 := o.map fun x => UInt8.ofNat (48 + x)
end P20
namespace P20
open Go.M01 Go.Mb Go.Mp Go.M10 Go.Mz Go.Mv
variable {w : World} {L : List HProp} {K : Value -> World -> Prop}
end P20
namespace P20
open Go.M01 Go.Mb Go.Mp Go.M10 Go.Mc Go.Mz Go.Mk Go.Q20 Go.Q21 Go.Q22
variable {w : World} {L : List HProp} {K : Value -> World -> Prop}
theorem share_snoc (t : List Nat) (x : Nat) : share (t ++ [x]) = share t + 2 ^ (20 - x) := by simp [share]
theorem share_le : ∀ t : List Nat, Sized t -> share t <= t.length * 524288 := by
 intro t; refine snocRec (motive := fun t => Sized t -> share t <= t.length * 524288) t (fun _ => by simp [share]) fun t x ih h => ?_; have h1 := ih fun y hy => h y (List.mem_append_left _ hy); have h2 := h x (by simp); rw [share_snoc, List.length_append, List.length_singleton, Nat.add_mul]; have h3 : 2 ^ (20 - x) <= 2 ^ 19 := Nat.pow_le_pow_right (by omega) (by omega); omega
theorem May_spec {v : Value} {lens : List Nat} (H : Holds w (SL nv tI v lens :: L)) (hs : Sized lens) (hl : lens.length <= 1000) (k : K (.bool true) w) : Cl Tryz.prog 207 #[v, iv 1, iv 20] w K := by
 refine Tz207 ?_; unfold Vz207; refine r_lnS 0 H rfl ?_; refine r_loop1 (fun i w' => ∃ j : Nat, j <= lens.length /\ i = nv j /\ w = w') (fun i _ => lens.length - (RowKit.intOf i).toNat) ⟨0, by omega, rfl, rfl⟩ ?_; rintro _ _ _ ⟨j, hj, rfl, rfl⟩
 repeat (refine r_lss ?_)
 refine r_ifD (fun h => ?_) fun h => ?_
 ·have hlt : j < lens.length := by omega
  obtain ⟨x, hg⟩ : ∃ x, lens[j]? = some x := ⟨_, List.getElem?_eq_getElem hlt⟩; have hx := hs x (List.mem_of_getElem? hg); refine r_getS 0 H rfl hg ?_; refine r_join1 (fun y w' => w = w' /\ y = .bool false) ?_ ?_
  ·rintro _ _ _ ⟨rfl, rfl⟩; refine r_vf ?_
   repeat (first | refine r_ke ?_ | (refine r_add1N (by omega) ?_))
   refine ⟨⟨j + 1, by omega, rfl, (by trivial)⟩, ?_⟩; simp [nv, RowKit.intOf]; omega
  ·repeat (first | refine r_ke ?_ | refine r_lss ?_ | refine r_gtr ?_ | ((with_reducible refine r_vfD ?h ?_); (case h => omega)))
   exact ⟨rfl, by rw [decide_eq_false (by omega)]⟩
 ·exact k
def szV : Value -> Nat
 | .string b => b.size
 | _ => 0
theorem szV_S (t : List UInt8) : szV (S_ t) = t.length := sz t
theorem next_spec {code : List Bool} {n : Nat} (hc : code.length <= 1000) (hn : n <= 1000) (k : K (S_ (txt ((inc code).1 ++ List.replicate (n - code.length) false))) w) : Cl Tryz.prog 160 #[S_ (txt code), nv n] w K := by
 refine Tz160 ?_; unfold Vz160; refine q_len ?_; rw [txt_len]
 repeat (refine r_sub (by omega) (by omega) ?_)
 refine r_loop3 (fun o c i w' => ∃ j : Nat, j <= code.length /\ i = iv ((code.length : Int) - 1 - j) /\ o = S_ (txt (inc (code.drop (code.length - j))).1) /\ c = .bool (inc (code.drop (code.length - j))).2 /\ w = w') (fun _ _ i _ => (RowKit.intOf i + 1).toNat)
  ⟨0, by omega, by simp, by simp [inc, txt], by simp [inc], rfl⟩ ?_
 rintro _ _ _ _ _ ⟨j, hj, rfl, rfl, rfl, rfl⟩; have hil := inc_len (code.drop (code.length - j)); rw [List.length_drop] at hil; refine r_geq (r_ifD (fun h => ?_) fun h => ?_)
 ·have hlt : code.length - 1 - j < code.length := by omega
  rw [show (code.length : Int) - 1 - j = ((code.length - 1 - j : Nat) : Int) by omega]; refine q_ix (by rw [txt_len]; exact hlt) ?_; rw [txt_at hlt]
  have hg : code[code.length - 1 - j]? = some (code.getD (code.length - 1 - j) false) := by rw [List.getD_eq_getElem?_getD, List.getElem?_eq_getElem hlt]; rfl
  have hd : code.drop (code.length - (j + 1)) = code.getD (code.length - 1 - j) false :: code.drop (code.length - j) := by
   rw [show code.length - (j + 1) = code.length - 1 - j by omega, List.drop_eq_getElem_cons hlt, show code.length - 1 - j + 1 = code.length - j by omega]
   congr 1
   rw [List.getD_eq_getElem?_getD, List.getElem?_eq_getElem hlt]; rfl
  generalize code.getD (code.length - 1 - j) false = b at *; refine r_eql ?_
  have eb : (((chr b).toNat : Int) == 49) = b := by cases b <;> rfl
  rw [eb]
  have hinc : inc (code.drop (code.length - (j + 1))) = ((b != (inc (code.drop (code.length - j))).2) :: (inc (code.drop (code.length - j))).1, (inc (code.drop (code.length - j))).2 && b) := by rw [hd]; rfl
  generalize inc (code.drop (code.length - j)) = x at *; obtain ⟨o, c⟩ := x; simp only at hil hinc ⊢; refine r_join1 (fun y w' => w = w' /\ y = S_ (txt ((b != c) :: o))) ?_ ?_
  ·rintro _ _ _ ⟨rfl, rfl⟩; refine r_vif (fun h2 => ?_) fun h2 => ?_
   ·subst h2
    repeat (first | refine r_ke ?_ | (refine r_sub (by omega) (by omega) ?_))
    refine ⟨⟨j + 1, by omega, ?_, by rw [hinc], by rw [hinc]; simp, (by trivial)⟩, ?_⟩
    ·congr 1; omega
    ·simp [RowKit.intOf]
   ·subst h2
    repeat (first | refine r_ke ?_ | (refine r_sub (by omega) (by omega) ?_))
    refine ⟨⟨j + 1, by omega, ?_, by rw [hinc], by rw [hinc]; simp, (by trivial)⟩, ?_⟩
    ·congr 1; omega
    ·simp [RowKit.intOf]
  ·refine r_bb ?_
   cases b <;> cases c
   ·refine r_vf ?_; refine r_catL (xs := [48]) (by simp [txt_len]; omega) ?_
    repeat (refine r_ke ?_)
    exact ⟨rfl, rfl⟩
   ·refine r_vt ?_; refine r_catL (xs := [49]) (by simp [txt_len]; omega) ?_
    repeat (refine r_ke ?_)
    exact ⟨rfl, rfl⟩
   ·refine r_vt ?_; refine r_catL (xs := [49]) (by simp [txt_len]; omega) ?_
    repeat (refine r_ke ?_)
    exact ⟨rfl, rfl⟩
   ·refine r_vf ?_; refine r_catL (xs := [48]) (by simp [txt_len]; omega) ?_
    repeat (refine r_ke ?_)
    exact ⟨rfl, rfl⟩
 ·obtain rfl : j = code.length := by omega
  rw [Nat.sub_self, List.drop_zero] at hil ⊢; have hil := inc_len code; refine r_loop1 (fun o w' => ∃ m : Nat, m <= n - code.length /\ o = S_ (txt ((inc code).1 ++ List.replicate m false)) /\ w = w') (fun o _ => n - szV o) ⟨0, by omega, by rw [List.replicate_zero, List.append_nil], rfl⟩ ?_; rintro _ _ _ ⟨m, hm, rfl, rfl⟩; refine q_len ?_; rw [txt_len, List.length_append, List.length_replicate, hil]; refine r_lss (r_ifD (fun h2 => ?_) fun h2 => ?_)
  ·refine r_catL (ys := [48]) (by simp [txt_len, hil]; omega) ?_; refine r_ke ?_; refine ⟨⟨m + 1, by omega, ?_, rfl⟩, ?_⟩
   ·rw [List.replicate_succ', <- List.append_assoc, txt_app (_ ++ _)]; rfl
   ·show n - szV (S_ _) < n - szV (S_ _); rw [szV_S, szV_S, List.length_append, txt_len, List.length_append, hil, List.length_replicate, List.length_singleton]; omega
  ·have : m = n - code.length := by omega
   subst this; exact k
end P20
namespace P20
open Go.M01 Go.Mb Go.Mp Go.M10 Go.Mc Go.Mz Go.Mk Go.Q20 Go.Q21 Go.Q22
variable {w : World} {L : List HProp} {K : Value -> World -> Prop}
abbrev tS : Nat := 9
instance rowS : Row Tryz.prog 170 tS (.string ⟨#[]⟩) := ⟨by kernel_rfl, ⟨Tryz.t9, by kernel_rfl, by kernel_rfl, by decide, by kernel_rfl⟩, rfl⟩
def outL (lens : List Nat) (n k : Nat) : List (List UInt8) := (List.range lens.length).map fun i => if lens.getD i 0 < n \/ lens.getD i 0 = n /\ i < k then txt (codeB lens i) else []
def codesL (lens : List Nat) : List (List UInt8) := (List.range lens.length).map fun i => txt (codeB lens i)
theorem codeB_len (lens : List Nat) (i : Nat) : (codeB lens i).length = lens.getD i 0 := by rw [codeB, bitsOf_len]
end P20
namespace P20
open Go.M01 Go.Mb Go.Mp Go.M10 Go.Mz Go.Mv Go.Mh F08 Rw T12 W14
variable {w : World} {L : List HProp} {K : Value -> World -> Prop}
abbrev tSr : Nat := 170
instance rowSr : Row Tryz.prog 168 tSr (.slice none 0 0) := ⟨by kernel_rfl, ⟨Tryz.t170, by kernel_rfl, by kernel_rfl, by decide, by kernel_rfl⟩, rfl⟩
def RwC (vs : List Sw) (cs : List (List Nat)) : HProp := Sat ((vs.zip cs).map fun x => SL S_ tS (sw x.1) (codesL x.2))
end P20
namespace P20
open Go.M01 Go.Mb Go.Mz Go.Mx
variable {w : World} {L : List HProp} {K : Value -> World -> Prop}
end P20
namespace P20
open Go.M01 Go.Mb Go.Mp Go.M10 Go.Mz Go.Mw Go.Mx Go.Mv Go.Mh F08 Rw T12 W14 W20
variable {w : World} {L : List HProp} {K : Value -> World -> Prop}
abbrev tHg : Nat := 37
end P20
namespace P20
open Go.M01 Go.Mb Go.Mp Go.M10 Go.Mz Go.Mw Go.Mx Go.Mv Go.Mh F08 Rw T12 W14 W20
variable {w : World} {L : List HProp} {K : Value -> World -> Prop} {wb n : Nat} {bs : List Bool}
open Go.M18 in
theorem lastL_ne {s : List UInt8} (h : s ≠ []) : lastL s ≠ [] := fun e => by
 have := lastL_len s; rw [e] at this; exact h (List.eq_nil_of_length_eq_zero this.symm)
open Go.M18 in
theorem idx_lt_ {s : List UInt8} {o : Nat} (h : (sortP s s.length)[o]? = some 0) : o < s.length := by
 have := (List.getElem?_eq_some_iff.1 h).1; rw [sortP_len] at this; exact this
def BodyBits (s : List UInt8) (sum : Nat) (B : List Bool) : Prop := ∃ o picks ts, (M18.sortP s s.length)[o]? = some 0 /\ Cho (rowOf (M18.lastL s)) ((symsOf (M18.lastL s)).length + 2) picks ts /\ B = blockBits (M18.lastL s) o sum picks ts
theorem BodyBits.uniq {s : List UInt8} {sum : Nat} {B B2 : List Bool} (h : BodyBits s sum B) (g : BodyBits s sum B2) : B = B2 := by
 obtain ⟨o, p, t, h1, h2, rfl⟩ := h; obtain ⟨o2, p2, t2, g1, g2, rfl⟩ := g; obtain rfl := S17.sortP_idx h1 g1; obtain ⟨rfl, rfl⟩ := Rnds.uniq h2 g2; rfl
theorem BodyBits.len {s : List UInt8} {sum : Nat} {B : List Bool} (h : BodyBits s sum B) (h0 : s ≠ []) (hl : s.length <= 4000) : B.length <= 1000000 := by
 obtain ⟨o, p, t, h1, h2, rfl⟩ := h; have hll := M18.lastL_len s; have := blockBits_len (origin := o) (sum := sum) (lastL_ne h0) (by omega) h2; omega
theorem Write_spec {s : List UInt8} {sum : Nat} (H : Holds w (W01.WrR wb bs n :: L)) (hb : BndOk L) (h0 : s ≠ []) (hl : s.length <= 4000) (hs : sum < 4294967296) (hbl : bs.length <= 8000000000) (hn : n <= bs.length / 8)
  (k : ∀ B w', BodyBits s sum B -> Same w w' -> Holds w' (W01.WrR wb (bs ++ B) n :: L) -> K (iv 0) w') : Cl Tryz.prog 10 #[pt wb, S_ s, uv sum] w K := by
 refine Tz10 ?_; unfold Vz10; have hll := M18.lastL_len s; refine r_bnSF (r_vf ?_); refine S17.Of_spec H h0 hl fun o w1 ho S1 H1 => ?_; refine r_ex30 (r_ex31 (r_ex32 (r_neq (r_vfN rfl ?_)))); have hol := idx_lt_ ho; refine W20.Turned_spec H1 hb (lastL_ne h0) (by omega) (by omega) hs hbl hn fun picks ts w2 hC S2 H2 => ?_; exact k _ w2 ⟨o, picks, ts, ho, hC, rfl⟩ (S1.trans S2) H2
end P20
namespace Y20
open Go.M01 Go.Mb Go.Mp Go.M10 Go.Mc Go.Mz Go.Q20 Go.Q21 Go.Mw Go.Mx Go.Mv Go.Ma T12 W14 W20
theorem rowsC_pre (l picks : List Nat) (ts : List (List Nat)) (j : Nat) : ∀ d, ∃ r, rowsC l picks ts (j + d) = rowsC l picks ts j ++ r
 | 0 => ⟨[], by simp⟩
 | d + 1 => by
  obtain ⟨r, hr⟩ := rowsC_pre l picks ts j d; exact ⟨r ++ W14.rowC l picks ts (j + d), by rw [<- Nat.add_assoc, rowsC_succ, hr, List.append_assoc]⟩
theorem code_back {l picks : List Nat} {ts : List (List Nat)} {size : Nat} (hR : W14.Row l size) (hC : Cho l size picks ts) (rest : List Bool) : ∃ c, CRun size (codeBits l picks ts ++ rest) c l (codeBits l picks ts).length /\ c.done = true := by
 obtain ⟨hT, hpl, hpx⟩ := hC.ok; have hW := cho_whole hR.s3 hC; have h3 := hR.s3; have hpos := List.length_pos_iff.2 hR.ne; have hlen := hR.len; have hgr : nGr l = (l.length + 49) / 50 := rfl; have hpn : picks ≠ [] := List.length_pos_iff.1 (by rw [hpl, hgr]; omega); obtain ⟨p, hp1, hp2, hp3, hp4⟩ := picks_back (t := ts.length) ⟨hT.n2, hT.n6⟩ hpn (by rw [hpl, hgr]; omega) hpx (ts.flatMap lensB ++ (rowsC l picks ts l.length ++ rest)); generalize hP : picksB picks ts.length = P at *
 have hcb : codeBits l picks ts = P ++ ts.flatMap lensB ++ rowsC l picks ts l.length := by unfold codeBits; rw [hP]
 have hQ : codeBits l picks ts ++ rest = P ++ (ts.flatMap lensB ++ (rowsC l picks ts l.length ++ rest)) := by rw [hcb]; simp only [List.append_assoc]
 rw [hQ]; generalize hq : P ++ (ts.flatMap lensB ++ (rowsC l picks ts l.length ++ rest)) = Q at *
 have key1 : ∀ u, u <= ts.length -> CRun size Q ⟨size, p, d0 size, ts.take u, 0, false⟩ [] (P.length + ((ts.take u).flatMap lensB).length) := by
  intro u
  induction u with
  | zero => intro _; exact picks_lift hp1
  | succ u ih =>
   intro hu; have ih := ih (by omega); have hmem : ts[u] ∈ ts := List.getElem_mem (by omega)
   have e : ts.take (u + 1) = ts.take u ++ [ts[u]] := by rw [List.take_add_one, List.getElem?_eq_getElem (by omega)]; rfl
   have e2 : ts = ts.take u ++ ts[u] :: ts.drop (u + 1) := by rw [<- List.drop_eq_getElem_cons (by omega), List.take_append_drop]
   have hdrop : Q.drop (P.length + ((ts.take u).flatMap lensB).length) = lensB ts[u] ++ ((ts.drop (u + 1)).flatMap lensB ++ (rowsC l picks ts l.length ++ rest)) := by
    have e3 : ts.flatMap lensB = (ts.take u).flatMap lensB ++ (lensB ts[u] ++ (ts.drop (u + 1)).flatMap lensB) := by
     conv => lhs; rw [e2]
     rw [List.flatMap_append, List.flatMap_cons]
    have e4 : Q = (P ++ (ts.take u).flatMap lensB) ++ (lensB ts[u] ++ ((ts.drop (u + 1)).flatMap lensB ++ (rowsC l picks ts l.length ++ rest))) := by
     rw [<- hq, e3]; simp only [List.append_assoc]
    rw [e4, <- List.length_append, List.drop_left]
   have hsz := hT.sz _ hmem; obtain ⟨d, hd1, hd2, hd3⟩ := lens_back (lens := ts[u]) (List.length_pos_iff.1 (by rw [hsz]; omega)) (hW _ hmem).sized ((ts.drop (u + 1)).flatMap lensB ++ (rowsC l picks ts l.length ++ rest)); rw [hsz, <- hdrop] at hd1; have hx := lens_lift (c := ⟨size, p, d0 size, ts.take u, 0, false⟩) hp4 (by show (ts.take u).length < p.t; rw [hp2, List.length_take]; omega) rfl rfl h3 ih hd1; rw [if_pos hd3, hd2, if_pos (hW _ hmem).share] at hx; rw [e, List.flatMap_append, List.length_append, <- Nat.add_assoc, List.flatMap_cons, List.flatMap_nil, List.append_nil]; exact hx
 have k1 := key1 ts.length (Nat.le_refl _); rw [List.take_length] at k1
 have key2 : ∀ i, i <= l.length -> CRun size Q ⟨size, p, d0 size, ts, i, decide (i = l.length)⟩ (l.take i) (P.length + (ts.flatMap lensB).length + (rowsC l picks ts i).length) := by
  intro i
  induction i with
  | zero =>
   intro _; rw [decide_eq_false (by omega)]; exact k1
  | succ i ih =>
   intro hi; have ih := ih (by omega)
   have e : l.take (i + 1) = l.take i ++ [l[i]] := by rw [List.take_add_one, List.getElem?_eq_getElem (by omega)]; rfl
   have hli : l.getD i 0 = l[i] := by rw [List.getD_eq_getElem?_getD, List.getElem?_eq_getElem (by omega)]; rfl
   obtain ⟨r, hr⟩ := rowsC_pre l picks ts (i + 1) (l.length - (i + 1)); rw [show i + 1 + (l.length - (i + 1)) = l.length by omega, rowsC_succ] at hr
   have hdrop : Q.drop (P.length + (ts.flatMap lensB).length + (rowsC l picks ts i).length) = W14.rowC l picks ts i ++ (r ++ rest) := by
    have e4 : Q = (P ++ ts.flatMap lensB ++ rowsC l picks ts i) ++ (W14.rowC l picks ts i ++ (r ++ rest)) := by
     rw [<- hq, hr]; simp only [List.append_assoc]
    rw [e4, <- List.length_append, <- List.length_append, List.drop_left]
   have hpi : i / 50 < picks.length := by rw [hpl, hgr]; omega
   have hpk : picks.getD (i / 50) 0 < ts.length := by
    rw [List.getD_eq_getElem?_getD, List.getElem?_eq_getElem hpi]; exact hpx _ (List.getElem_mem hpi)
   have hTm := T12.row_mem hpk; generalize hTT : ts.getD (picks.getD (i / 50) 0) [] = TT at *
   have hrc : W14.rowC l picks ts i = codeB TT l[i] := by unfold W14.rowC; rw [hTT, hli]
   have hsz := hT.sz _ hTm
   have hlx : l[i] < TT.length := by rw [hsz]; exact hR.lt _ (List.getElem_mem (by omega))
   have hcl : (codeB TT l[i]).length = TT.getD l[i] 0 := codeB_len _ _
   have hg := get_code (l := Q.drop (P.length + (ts.flatMap lensB).length + (rowsC l picks ts i).length)) (hW _ hTm) hlx (by rw [hdrop, hrc, List.length_append, hcl]; omega) (by
    rw [hdrop, hrc, <- hcl, List.take_left])
   have hx := sym_next (c := ⟨size, p, d0 size, ts, i, decide (i = l.length)⟩) (s := l[i]) (n := TT.getD l[i] 0) hp4 (by show ¬ ts.length < p.t; omega) (decide_eq_false (by omega)) (by show ¬ p.picks.length <= i / 50; rw [hp3]; omega) ih (by
    have ht : CS.table ⟨size, p, d0 size, ts, i, decide (i = l.length)⟩ = TT := by
     show ts.getD (p.picks.getD (i / 50) 0) [] = TT; rw [hp3, hTT]
    rw [ht]
    exact hg)
   have hfin := hR.fin i (by omega); rw [hli] at hfin
   have ed : readC ⟨size, p, d0 size, ts, i, decide (i = l.length)⟩ l[i] = ⟨size, p, d0 size, ts, i + 1, decide (i + 1 = l.length)⟩ := by
    have : decide (l[i] = size - 1) = decide (i + 1 = l.length) := by
     rw [decide_eq_decide, hfin]; omega
    show (⟨size, p, d0 size, ts, i + 1, decide (l[i] = size - 1)⟩ : CS) = _; rw [this]
   rw [ed] at hx; rw [e, rowsC_succ, List.length_append, hrc, hcl, <- Nat.add_assoc]; exact hx
 have k2 := key2 l.length (Nat.le_refl _); rw [List.take_length, decide_eq_true rfl] at k2; refine ⟨⟨size, p, d0 size, ts, l.length, true⟩, ?_, rfl⟩; rw [hcb, List.length_append, List.length_append]; exact k2
theorem block_says {s : List UInt8} {origin sum room : Nat} {picks : List Nat} {ts : List (List Nat)} (h0 : s ≠ []) (hl : s.length <= room) (hr : room <= 900000) (ho : origin < s.length) (hs : sum < 4294967296) (hC : Cho (W20.rowOf s) ((symsOf s).length + 2) picks ts) (rest : List Bool) :
  ∃ held, Q20.Comes room (blockBits s origin sum picks ts ++ rest) (.got s origin sum (blockBits s origin sum picks ts).length held) := by
 have hR := row_ok h0 (by omega); have hsy := syms_len h0; obtain ⟨T', hu, hT'⟩ := used_back (upT s) (codeBits (W20.rowOf s) picks ts ++ rest) (List.length_pos_iff.1 hsy.1); replace hT' : listed T' = symsOf s := hT'; obtain ⟨c, hc1, hc2⟩ := code_back hR hC rest; obtain ⟨pl1, pl2⟩ := places_ok s; obtain ⟨z, hz⟩ := zeros_back (n := (symsOf s).length) (room := room) hsy.1 pl2 (by omega); have hm := mtf_back (symsOf s) s fun c hc => mem_syms hc; have h32 : (bitsOf sum 32).length = 32 := bitsOf_len _ _; have h24 : (bitsOf origin 24).length = 24 := bitsOf_len _ _
 have hx : blockBits s origin sum picks ts ++ rest = bitsOf sum 32 ++ (false :: (bitsOf origin 24 ++ (usedB (upT s) ++ (codeBits (W20.rowOf s) picks ts ++ rest)))) := by
  unfold blockBits; simp only [List.append_assoc, List.cons_append, List.nil_append]
 have hbl : (blockBits s origin sum picks ts).length = 57 + (usedB (upT s)).length + (codeBits (W20.rowOf s) picks ts).length := by
  unfold blockBits; simp only [List.length_append, List.length_singleton, h32, h24]
 generalize hl0 : blockBits s origin sum picks ts ++ rest = l at *
 have e32 : l.take 32 = bitsOf sum 32 := by
  have := List.take_left (l₁ := bitsOf sum 32) (l₂ := false :: (bitsOf origin 24 ++ (usedB (upT s) ++ (codeBits (W20.rowOf s) picks ts ++ rest)))); rw [h32] at this; rw [hx]; exact this
 have ed32 : l.drop 32 = false :: (bitsOf origin 24 ++ (usedB (upT s) ++ (codeBits (W20.rowOf s) picks ts ++ rest))) := by
  have := List.drop_left (l₁ := bitsOf sum 32) (l₂ := false :: (bitsOf origin 24 ++ (usedB (upT s) ++ (codeBits (W20.rowOf s) picks ts ++ rest)))); rw [h32] at this; rw [hx]; exact this
 have ed33 : l.drop 33 = bitsOf origin 24 ++ (usedB (upT s) ++ (codeBits (W20.rowOf s) picks ts ++ rest)) := by rw [show (33 : Nat) = 32 + 1 from rfl, <- List.drop_drop, ed32]; rfl
 have e24 : (l.drop 33).take 24 = bitsOf origin 24 := by
  have := List.take_left (l₁ := bitsOf origin 24) (l₂ := usedB (upT s) ++ (codeBits (W20.rowOf s) picks ts ++ rest)); rw [h24] at this; rw [ed33]; exact this
 have ed57 : l.drop 57 = usedB (upT s) ++ (codeBits (W20.rowOf s) picks ts ++ rest) := by
  have := List.drop_left (l₁ := bitsOf origin 24) (l₂ := usedB (upT s) ++ (codeBits (W20.rowOf s) picks ts ++ rest)); rw [h24] at this; rw [show (57 : Nat) = 33 + 24 from rfl, <- List.drop_drop, ed33]; exact this
 have edU : l.drop (57 + (usedB (upT s)).length) = codeBits (W20.rowOf s) picks ts ++ rest := by rw [<- List.drop_drop, ed57, List.drop_left]
 have hg32 : l.getD 32 false = false := by
  rw [List.getD_eq_getElem?_getD, <- Nat.add_zero 32, <- List.getElem?_drop, ed32]; rfl
 have hll : ¬ l.length < 57 := by
  have := congrArg List.length hl0; rw [List.length_append, hbl] at this; omega
 have hrow : W20.rowOf s = rowE (mtfE (symsOf s) s).2 (symsOf s).length := rfl
 have hgot := Says.got (room := room) (l := l) (T := T') (n := (usedB (upT s)).length) (k := (codeBits (W20.rowOf s) picks ts).length) (c := c) (L := W20.rowOf s) (z := z) (pl := (mtfE (symsOf s) s).2) hll hg32 (by rw [ed57]; exact hu) (by rw [hT', edU]; exact hc1) hc2 (by rw [hT']; exact hz) (by
  rw [hT', hm, e24, valB_bitsOf _ _ (show origin < 2 ^ 24 by omega)]; show ¬ s.length <= origin
  omega)
 rw [hT', hm, e24, valB_bitsOf _ _ (show origin < 2 ^ 24 by omega), e32, valB_bitsOf _ _ (show sum < 2 ^ 32 by omega), <- hbl] at hgot; exact ⟨_, says_comes hgot⟩
end Y20
end Go.Proofs.YtgaiocpkjaaphaaGreatDoor
namespace Go.M02
def crcStep (s : Nat) : Nat := (s * 2 % 4294967296) ^^^ (s / 2147483648 * 79764919)
def crcN (s : Nat) : Nat -> Nat
 | 0 => s
 | k + 1 => crcStep (crcN s k)
def crcTab (b : Nat) : Nat := crcN (b * 16777216) 8
def tabL : List Nat := (List.range 256).map crcTab
theorem crcStep_lt (s : Nat) (h : s < 4294967296) : crcStep s < 4294967296 := by
 unfold crcStep
 have h1 : s / 2147483648 <= 1 := by omega
 have h2 : s / 2147483648 * 79764919 <= 1 * 79764919 := Nat.mul_le_mul_right _ h1; exact Nat.xor_lt_two_pow (n := 32) (by omega) (by omega)
theorem crcN_lt (s : Nat) (h : s < 4294967296) : ∀ k, crcN s k < 4294967296
 | 0 => h
 | k + 1 => crcStep_lt _ (crcN_lt s h k)
theorem tabL_len : tabL.length = 256 := by simp [tabL]
theorem tabL_get (i : Nat) (h : i < 256) : tabL[i]? = some (crcTab i) := by simp [tabL, h]
end Go.M02
namespace Go.Proofs.YtgaiocpkjaaphaaGreatDoor
open Go Go.Vc
attribute [local irreducible] Vc.Nc Vc.Ld Vc.LdA Vc.St Vc.StA Vc.Fo Vc.Iaa Vc.Ias Vc.Ixs Vc.Ixa Vc.Fd Vc.FdA Vc.Bp Vc.Bb Vc.Bn Vc.Up Vc.Ci Vc.Lns Vc.Lnl Vc.Ex Vc.Sst Vc.Ssl Vc.New Vc.Vif Vc.VJoin Vc.VLoop Vc.KE Vc.Dr Vc.Rk Vc.Cl Vc.Cx Vc.Inv Vc.Be Vc.Cv Vc.Cw Vc.Mf Vc.Sl Vc.Lk Vc.Bd Vc.Bs Vc.Ms Vc.Mm Vc.Mu Vc.Me Vc.Es Vc.Rg Vc.Nx Vc.Ta Vc.Ap Vc.Usd Vc.Ust Vc.Cp Vc.Ln Vc.Bc Vc.Bmin Vc.Bmax Vc.Bdel Vc.Bclr Vc.Pk
namespace W02
open Go.M02
variable {w : World} {L : List HProp} {K : Value -> World -> Prop}
abbrev tTab : Nat := 230
theorem Table_spec (H : Holds w L) (post : ∀ w', Same w w' -> Holds w' L -> K (.agg (tabL.map uv).toArray) w') : Cl Tryz.prog 169 #[] w K := by
 refine Tz169 ?_; unfold Vz169
 have hz : (zeroP Tryz.prog tTab).cells.toList = (List.replicate 256 0).map uv := by kernel_rfl
 refine r_new H fun b1 w1 S1 H1 => ?_; rw [hz] at H1; refine r_new H1 fun b2 w2 S2 H2 => ?_; rw [hz] at H2
 refine r_loop1 (fun x w' => ∃ i : Nat, i <= 256 /\ x = nv i /\ Same w w' /\ Holds w' (blk b2 tTab ((filled tabL 0 256 i).map uv) :: blk b1 tTab ((List.replicate 256 0).map uv) :: L))
  (fun x _ => 256 - (RowKit.intOf x).toNat) ⟨0, by omega, rfl, S1.trans S2, by rw [filled_zero]; exact H2⟩ ?_
 clear H H1 H2 S1 S2; rintro _ _ w3 ⟨i, hi, rfl, S, H⟩
 repeat (refine r_lss ?_)
 refine r_ifD (fun h => ?_) fun h => ?_
 ·have hlt : i < 256 := by omega
  refine r_ciu32 (by omega) (by omega) ?_; refine r_shlU32 (n := 24) (by omega) ?_; rw [show i * 2 ^ 24 % 4294967296 = crcN (i * 16777216) 0 by show _ = i * 16777216; omega]; refine r_loop2 (fun s x w' => w3 = w' /\ ∃ j : Nat, j <= 8 /\ x = nv j /\ s = uv (crcN (i * 16777216) j)) (fun _ x _ => 8 - (RowKit.intOf x).toNat) ⟨rfl, 0, by omega, rfl, rfl⟩ ?_; rintro _ _ _ _ ⟨rfl, j, hj, rfl, rfl⟩; have hc := crcN_lt (i * 16777216) (by omega) j
  repeat (refine r_lss ?_)
  refine r_ifD (fun h2 => ?_) fun h2 => ?_
  ·have h3 : crcN (i * 16777216) j / 2147483648 <= 1 := by omega
   have h4 : crcN (i * 16777216) j / 2147483648 * 79764919 <= 1 * 79764919 := Nat.mul_le_mul_right _ h3; refine r_shrU (n := 31) (by decide) ?_; refine r_shlU32 (n := 1) (by omega) ?_; refine r_mulU32 (t := 79764919) (by omega) ?_; refine r_xorU32 (by omega) (by omega) ?_
   repeat (first | refine r_ke ?_ | (refine r_add1N (by omega) ?_))
   refine ⟨⟨rfl, j + 1, by omega, rfl, rfl⟩, ?_⟩; simp [nv, RowKit.intOf]; omega
  ·obtain rfl : j = 8 := by omega
   repeat (refine r_iaaN (by omega) ?_)
   refine r_st 0 H rfl (by rw [List.length_map, filled_len (by omega) tabL_len]; omega) rfl fun w4 S4 H4 => ?_
   have hset : ((filled tabL 0 256 i).map uv).set (0 + i) (uv (crcN (i * 16777216) 8)) = (filled tabL 0 256 (i + 1)).map uv := by
    rw [Nat.zero_add, <- List.map_set]; exact congrArg (List.map uv) (filled_set (z := 0) hlt tabL_len (tabL_get i hlt))
   rw [List.set_cons_zero, hset] at H4
   repeat (first | refine r_ke ?_ | (refine r_add1N (by omega) ?_))
   refine ⟨⟨i + 1, by omega, rfl, S.trans S4, H4⟩, ?_⟩; simp [nv, RowKit.intOf]; omega
 ·obtain rfl : i = 256 := by omega
  rw [filled_all tabL_len] at H
  have hl : (tabL.map uv).length = 256 := by simp [tabL_len]
  refine r_ldA 0 H (tabL.map uv) rfl (by rw [List.drop_zero, List.take_of_length_le (by omega)]) hl ?_; refine r_stA 1 H (vs := tabL.map uv) rfl (Nat.le_of_eq (by rw [List.length_map, List.length_replicate])) hl (by kernel_rfl) fun w4 S4 H4 => ?_
  have hset : setL ((List.replicate 256 0).map uv) 0 (tabL.map uv) = tabL.map uv := by kernel_rfl
  rw [List.set_cons_succ, List.set_cons_zero, hset] at H4; refine r_ldA 1 H4 (tabL.map uv) rfl (by rw [List.drop_zero, List.take_of_length_le (by omega)]) hl ?_; exact post _ (S.trans S4) H4.drop.drop
end W02
namespace B20
open Go.M01 Go.Mb Go.Mp Go.M10 Go.Mc Go.Mz Go.Mk Rb
variable {w : World} {L : List HProp} {K : Value -> World -> Prop} {b rb cb zb mb r : Nat} {B : List UInt8} {d at_ n k : Nat} {s : BS} {x : RS} {lv : Value}
abbrev tBk : Nat := 176
abbrev tRw : Nat := 269
def bkC (rv lv : Value) (s : BS) : List Value := [rv, nv s.room, .bool s.head, uv s.sum, nv s.frm, lv, .bool s.done, iv 0]
def rwC (cb zb mb : Nat) (x : RS) : List Value := [pt cb, pt zb, pt mb, nv x.due, nv x.place]
def rawN (b : Nat) (s : BS) (lv : Value) : List HProp := [blk b tBk (bkC (.pointer none) lv s), SL bv tB lv s.last]
def rawS (b : Nat) (s : BS) (x : RS) (rb cb zb mb : Nat) (lv : Value) : List HProp :=
 [blk b tBk (bkC (pt rb) lv s), SL bv tB lv s.last, blk rb tRw (rwC cb zb mb x), C14.CdR cb x.code, Z07.ZrR zb x.zeros, F06.MtR mb x.list]
def RawR (b : Nat) (s : BS) : HProp := match s.row with
 | none => fun h => ∃ lv, Sat (rawN b s lv) h
 | some x => fun h => ∃ rb cb zb mb lv, Sat (rawS b s x rb cb zb mb lv) h
def BkR (b : Nat) (s : BS) : HProp := fun h => s.Ok /\ RawR b s h
theorem BkR_open (H : Holds w (BkR b s :: L)) : s.Ok /\ Holds w (RawR b s :: L) := Holds.pure H
theorem BkR_close (h : s.Ok) (H : Holds w (RawR b s :: L)) : Holds w (BkR b s :: L) := Holds.imp H fun _ hh => ⟨h, hh⟩
theorem Raw_openN (hr : s.row = none) (H : Holds w (RawR b s :: L)) : ∃ lv, Holds w (rawN b s lv ++ L) := by
 unfold RawR at H; rw [hr] at H; obtain ⟨lv, H⟩ := Holds.ex H; exact ⟨lv, Holds.unpack H⟩
theorem Raw_closeN (hr : s.row = none) (H : Holds w (rawN b s lv ++ L)) : Holds w (RawR b s :: L) := by
 unfold RawR; rw [hr]; exact Holds.imp (Holds.pack H) fun _ hh => ⟨lv, hh⟩
theorem Raw_openS (hr : s.row = some x) (H : Holds w (RawR b s :: L)) : ∃ rb cb zb mb lv, Holds w (rawS b s x rb cb zb mb lv ++ L) := by
 unfold RawR at H; rw [hr] at H; obtain ⟨rb, H⟩ := Holds.ex H; obtain ⟨cb, H⟩ := Holds.ex H; obtain ⟨zb, H⟩ := Holds.ex H; obtain ⟨mb, H⟩ := Holds.ex H; obtain ⟨lv, H⟩ := Holds.ex H; exact ⟨rb, cb, zb, mb, lv, Holds.unpack H⟩
theorem Raw_closeS (hr : s.row = some x) (H : Holds w (rawS b s x rb cb zb mb lv ++ L)) : Holds w (RawR b s :: L) := by
 unfold RawR; rw [hr]; exact Holds.imp (Holds.pack H) fun _ hh => ⟨rb, cb, zb, mb, lv, hh⟩
def AfterB (y : Res BS) (b : Nat) (s : BS) (r : Nat) (B : List UInt8) (d at_ : Nat) (L : List HProp) (e : Int) (w : World) : Prop :=
 match y with
 | .short => e = 3 /\ Holds w (BkR b s :: RdR r B d at_ :: L)
 | .bad c => e = (c : Int) /\ ∃ q v1 v2 v3 v4 v5 v6, Holds w (blk b tBk [v1, v2, v3, v4, v5, v6, .bool false, iv 0] :: RdR r B d q :: L)
 | .ok s' n => e = 0 /\ Holds w (BkR b s' :: RdR r B d (at_ + n) :: L)
theorem szT (T : Nat -> Bool) : (⟨(listed T).toArray⟩ : ByteArray).size = (listed T).length := by show (listed T).toArray.size = _; simp
theorem rowOf_spec {T : Nat -> Bool} {room : Nat} (H : Holds w L) (hT : listed T ≠ []) (hr : room <= 900000)
  (k : ∀ rb cb zb mb w', Same w w' -> Holds w' (blk rb tRw (rwC cb zb mb (rowOf T room)) :: C14.CdR cb (rowOf T room).code :: Z07.ZrR zb (rowOf T room).zeros :: F06.MtR mb (rowOf T room).list :: L) -> K (pt rb) w') : Cl Tryz.prog 211 #[S_ (listed T), nv room] w K := by
 refine Tz211 ?_; unfold Vz211; have hl := listed_len T; have hl0 : 0 < (listed T).length := List.length_pos_iff.2 hT; refine r_lns ?_; rw [szT]; refine r_addN (b := 2) (by omega) ?_; refine C14.NewReader_spec H (by omega) (by omega) fun cb w1 S1 H1 => ?_; refine r_ex20 (r_ex21 (r_lns ?_)); rw [szT]; refine Z07.NewReader_spec H1 hl0 hl hr fun zb w2 S2 H2 => ?_; refine r_ex20 (r_ex21 ?_); refine F06.New_spec H2 hT fun mb w3 S3 H3 => ?_; refine r_ex20 (r_ex21 ?_); refine r_bd (v := .agg #[pt cb, pt zb, pt mb, nv 0, nv 0]) (by kernel_rfl) ?_; refine r_new H3 fun rb w4 S4 H4 => ?_; replace H4 : Holds w4 (blk rb tRw [pt cb, pt zb, pt mb, nv 0, nv 0] :: F06.MtR mb (listed T) :: Z07.ZrR zb (z0 (listed T).length room) :: C14.CdR cb (c0 ((listed T).length + 2)) :: L) := H4; exact k rb cb zb mb _ (((S1.trans S2).trans S3).trans S4) (by have h_ := Holds.ord 4 [0, 3, 2, 1] H4 rfl; exact h_)
theorem waits_spec (H : Holds w L) (i : Nat) (hi : L[i]? = some (blk rb tRw (rwC cb zb mb x))) (k : K (.bool x.waits) w) : Cl Tryz.prog 163 #[pt rb] w K := by
 refine Tz163 ?_; unfold Vz163; refine r_bnST (r_vt ?_); refine r_nc (r_fo0 ?_); refine r_ld i H hi rfl ?_; refine r_gtr (r_ifD (fun h => ?_) fun h => ?_)
 ·have e : x.waits = true := by unfold RS.waits; simp; left; omega
  rw [e] at k; exact k
 ·refine r_nc (r_fo0 ?_); refine r_ld i H hi rfl ?_; refine r_gtr ?_
  have e : x.waits = decide ((0 : Int) < (x.place : Int)) := by
   unfold RS.waits; rw [decide_eq_false (by omega), Bool.false_or, Bool.eq_iff_iff, decide_eq_true_iff, decide_eq_true_iff]; omega
  rw [e] at k; exact k
theorem told_spec {c : CS} {sy : Nat} (H : Holds w (blk rb tRw (rwC cb zb mb x) :: Z07.ZrR zb x.zeros :: L)) (hs : sy <= x.zeros.n + 1) (hd : x.zeros.done = false)
  (kb : zput x.zeros sy = none -> ∀ w', Same w w' -> Holds w' L -> K (iv 25) w')
  (k : ∀ z d p, zput x.zeros sy = some (z, d, p) -> ∀ w', Same w w' -> Holds w' (blk rb tRw (rwC cb zb mb ⟨c, z, x.list, d, p.toNat⟩) :: Z07.ZrR zb z :: L) -> K (iv 0) w') : Cl Tryz.prog 214 #[pt rb, nv sy] w K := by
 refine Tz214 ?_; unfold Vz214; refine r_nc (r_fo0 (r_ld 0 H rfl rfl ?_)); refine Z07.Put_spec H.swap hs hd (fun hn e w2 he S2 H2 => ?_) fun z d p hz w2 S2 H2 => ?_
 ·refine r_ex30 (r_ex31 (r_ex32 ?_)); refine r_neq (r_vtN he ?_); exact kb hn _ S2 H2.drop
 ·refine r_ex30 (r_ex31 (r_ex32 ?_)); refine r_neq (r_vfN rfl ?_); have S := S2; have H := H2.swap; clear H2 S2
  repeat (first | refine r_nc ?_ | refine r_fo0 ?_)
  refine r_st 0 H rfl (by simp [rwC]) rfl fun w3 S3 H3 => ?_; replace H3 : Holds w3 (blk rb tRw [pt cb, pt zb, pt mb, nv d, nv x.place] :: Z07.ZrR zb z :: L) := H3; refine r_max ?_; rw [show max p 0 = ((p.toNat : Nat) : Int) by omega]
  repeat (first | refine r_nc ?_ | refine r_fo0 ?_)
  refine r_st 0 H3 rfl (by simp) rfl fun w4 S4 H4 => ?_; exact k z d p hz _ ((S.trans S3).trans S4) H4
theorem next_spec (H : Holds w (blk rb tRw (rwC cb zb mb x) :: F06.MtR mb x.list :: L)) (hat : x.at_ < x.list.length) (hdue : x.due <= 900000)
  (k : ∀ w', Same w w' -> Holds w' (blk rb tRw (rwC cb zb mb x.next) :: F06.MtR mb x.next.list :: L) -> K (bv x.byte) w') : Cl Tryz.prog 164 #[pt rb] w K := by
 refine Tz164 ?_; unfold Vz164; have S := Same.refl w; refine r_join1 (fun y w' => y = nv x.at_ /\ Same w w' /\ Holds w' (blk rb tRw (rwC cb zb mb x.next) :: F06.MtR mb x.list :: L)) ?_ ?_
 ·clear H S; rintro _ _ w1 ⟨rfl, S, H⟩; refine r_nc (r_fo0 (r_ld 0 H rfl rfl ?_)); refine F06.At_spec H.swap hat fun w2 S2 H2 => ?_; refine r_ex20 (r_ex21 ?_); exact k _ (S.trans S2) H2.swap
 ·refine r_nc (r_fo0 (r_ld 0 H rfl rfl ?_)); refine r_gtr (r_ifD (fun h => ?_) fun h => ?_)
  ·refine r_nc (r_fo0 (r_ld 0 H rfl rfl ?_))
   repeat (first | refine r_nc ?_ | refine r_fo0 ?_ | (refine r_sub1N (by omega) (by omega) ?_))
   refine r_st 0 H rfl (by simp [rwC]) rfl fun w3 S3 H3 => ?_
   repeat (refine r_ke ?_)
   have h0 : 0 < x.due := by omega
   refine ⟨by unfold RS.at_; rw [if_pos h0]; rfl, S.trans S3, ?_⟩; rw [rwC, RS.next, if_pos h0]; exact H3
  ·refine r_nc (r_fo0 (r_ld 0 H rfl rfl ?_)); refine r_nc (r_fo0 ?_); refine r_st 0 H rfl (by simp [rwC]) rfl fun w3 S3 H3 => ?_
   repeat (refine r_ke ?_)
   have h0 : ¬ 0 < x.due := by omega
   refine ⟨by unfold RS.at_; rw [if_neg h0], S.trans S3, ?_⟩; rw [rwC, RS.next, if_neg h0, show x.due - 1 = x.due by omega]; exact H3
theorem NewReader_spec {room : Nat} (H : Holds w L) (h1 : 5 <= room) (h2 : room <= 900000) (k : ∀ b w', Same w w' -> Holds w' (BkR b (b0 room) :: L) -> K (.tuple #[pt b, iv 0]) w') : Cl Tryz.prog 57 #[nv room] w K := by
 refine Tz57 ?_; unfold Vz57; refine r_join1 (fun x w' => w = w' /\ x = .bool false) ?_ ?_
 ·rintro _ _ _ ⟨rfl, rfl⟩; refine r_vf ?_; refine r_bd (v := .agg #[.pointer none, nv room, .bool false, uv 0, nv 0, .slice none 0 0, .bool false, iv 0]) (by kernel_rfl) ?_; refine r_new H fun b w2 S2 H2 => ?_; refine k b _ S2 (BkR_close (b0_ok h2) (Raw_closeN (lv := .slice none 0 0) rfl ?_)); exact (H2.nilSL bv tB).swap
 ·repeat (first | refine r_ke ?_ | refine r_lss ?_ | refine r_gtr ?_ | ((with_reducible refine r_vfD ?h ?_); (case h => omega)))
  exact ⟨rfl, by rw [decide_eq_false (by omega)]⟩
theorem end_spec (H : Holds w (RawR b s :: RdR r B d (at_ + n) :: L)) (hp : Pre s) (s0 : BS) (post : ∀ e w', Same w w' -> AfterB (bend s n) b s0 r B d at_ L e w' -> K (iv e) w') : Cl Tryz.prog 166 #[pt b] w K := by
 refine Tz166 ?_; unfold Vz166; have S := Same.refl w; have hok := fun s' k' (h : bend s n = .ok s' k') => (bend_ok hp h).1
 cases hr : s.row with
 | none =>
  have e0 : bend s n = .ok s n := by unfold bend; rw [hr]
  rw [e0] at post hok; obtain ⟨lv, H⟩ := Raw_openN hr H; refine r_join1 (fun y w' => w = w' /\ y = .bool true) ?_ ?_
  ·rintro _ _ _ ⟨rfl, rfl⟩; refine r_vt ?_; exact post 0 _ S ⟨rfl, BkR_close (hok _ _ rfl) (Raw_closeN hr H)⟩
  ·unfold rawN at H
   repeat (first | refine r_nc ?_ | refine r_fo0 ?_ | refine r_ke ?_ | (with_reducible refine r_bnNT ?_) | (with_reducible refine r_vt ?_) | refine r_ld 0 H rfl rfl ?_)
   exact ⟨rfl, rfl⟩
 | some x =>
  obtain ⟨rb, cb, zb, mb, lv, H⟩ := Raw_openS hr H
  have e0 : bend s n = if x.code.done = false \/ x.waits = true then .ok s n else if s.last.length <= s.frm then .bad 23 else .ok ⟨s.room, s.head, s.sum, s.frm, s.row, s.last, true⟩ n := by
   unfold bend; rw [hr]
  rw [e0] at post hok; unfold rawS at H; have hf := hp.frm; refine r_join1 (fun y w' => w = w' /\ y = .bool (!x.code.done || x.waits)) ?_ ?_
  ·rintro _ _ _ ⟨rfl, rfl⟩
   by_cases hc : x.code.done = false \/ x.waits = true
   ·rw [if_pos hc] at post hok
    have : (!x.code.done || x.waits) = true := by
     rcases hc with h | h
     ·rw [h]; rfl
     ·rw [h]; simp
    rw [this]; refine r_vt ?_; exact post 0 _ S ⟨rfl, BkR_close (hok _ _ rfl) (Raw_closeS hr H)⟩
   ·rw [if_neg hc] at post hok
    have : (!x.code.done || x.waits) = false := by
     rw [Bool.or_eq_false_iff]
     constructor
     ·cases h : x.code.done with
      | false => exact absurd (.inl h) hc
      | true => rfl
     ·cases h : x.waits with
      | false => rfl
      | true => exact absurd (.inr h) hc
    rw [this]; refine r_vf ?_
    repeat (first | refine r_nc ?_ | refine r_fo0 ?_ | (refine r_dr H ?_; clear H; intro _ S_ H; replace S := S.trans S_; clear S_) | refine r_ld 0 H rfl rfl ?_)
    refine r_lnS 1 H rfl ?_
    repeat (refine r_geq ?_)
    refine r_ifD (fun h => ?_) fun h => ?_
    ·rw [if_pos (by omega)] at post; have H9 := (by have h_ := Holds.ord 7 [0, 6] H rfl; exact h_); rw [bkC, hp.done] at H9; exact post 23 _ S ⟨rfl, at_ + n, _, _, _, _, _, _, H9⟩
    ·rw [if_neg (by omega)] at post hok
     repeat (first | refine r_nc ?_ | refine r_fo0 ?_)
     refine r_st 0 H rfl (by simp [bkC]) rfl fun w3 S3 H3 => ?_; exact post 0 _ (S.trans S3) ⟨rfl, BkR_close (hok _ _ rfl) (Raw_closeS (s := ⟨s.room, s.head, s.sum, s.frm, s.row, s.last, true⟩) hr H3)⟩
  ·repeat (first | refine r_nc ?_ | refine r_fo0 ?_ | (with_reducible refine r_bnSF ?_) | (with_reducible refine r_vf ?_) | refine r_ld 0 H rfl rfl ?_ | refine r_ld 2 H rfl rfl ?_)
   have H2 : Holds w (C14.CdR cb x.code :: blk b tBk (bkC (pt rb) lv s) :: SL bv tB lv s.last :: blk rb tRw (rwC cb zb mb x) :: Z07.ZrR zb x.zeros :: F06.MtR mb x.list :: RdR r B d (at_ + n) :: L) := (by have h_ := Holds.ord 7 [3, 0, 1, 2, 4, 5, 6] H rfl; exact h_); refine C14.Done_spec H2 ?_
   cases hcd : x.code.done with
   | false =>
    refine r_notF (r_vt ?_)
    repeat (refine r_ke ?_)
    exact ⟨rfl, rfl⟩
   | true =>
    refine r_notT (r_vf ?_)
    repeat (first | refine r_nc ?_ | refine r_fo0 ?_ | refine r_ld 0 H rfl rfl ?_)
    refine waits_spec H 2 rfl ?_
    repeat (refine r_ke ?_)
    exact ⟨rfl, by simp⟩
def Mid (y : Res BS) (b : Nat) (s : BS) (r : Nat) (B : List UInt8) (d at_ : Nat) (L : List HProp) (v : Value) (w : World) : Prop :=
 (∃ e : Int, v = iv e /\ e ≠ 0 /\ AfterB y b s r B d at_ L e w) \/ (v = iv 0 /\ ∃ s' n, y = bend s' n /\ Pre s' /\ Holds w (RawR b s' :: RdR r B d (at_ + n) :: L))
theorem begin_spec (H : Holds w (BkR b s :: RdR r B d at_ :: L)) (hh : s.head = false) (post : ∀ v w', Same w w' -> Mid (bstep s (rest B at_)) b s r B d at_ L v w' -> K v w') :
  Cl Tryz.prog 161 #[pt b, pt r] w K := by
 refine Tz161 ?_; unfold Vz161; obtain ⟨hs, H⟩ := BkR_open H; have hrow := (head_pre (s := 0) (f := 0) hs hh (by omega) (by omega)).1; obtain ⟨lv, H⟩ := Raw_openN hrow H
 have e0 : bstep s (rest B at_) = bhead s (rest B at_) := by unfold bstep; rw [if_pos hh]
 rw [e0] at post; have hrl := rest_len B at_; have H1 : Holds w (RdR r B d at_ :: blk b tBk (bkC (.pointer none) lv s) :: SL bv tB lv s.last :: L) := (by have h_ := Holds.ord 3 [2, 0, 1] H rfl; exact h_); clear H; refine Left_spec H1 fun w2 S2 H2 => ?_; have S := S2; have H := H2; clear H1 H2 S2; refine r_lss (r_ifD (fun h => ?_) fun h => ?_)
 ·refine post _ _ S (.inl ⟨3, rfl, by decide, ?_⟩); unfold bhead; rw [if_pos (by omega)]; exact ⟨rfl, BkR_close hs (Raw_closeN hrow (by have h_ := Holds.ord 3 [1, 2, 0] H rfl; exact h_))⟩
 ·have h57 : ¬ (rest B at_).length < 57 := by omega
  have h32 := rest_len B (at_ + 32); have h33 := rest_len B (at_ + 32 + 1); refine Get_spec (n := 32) H (by omega) (fun hx => absurd hx (by omega)) fun _ w3 S3 H3 => ?_; refine r_ex20 (r_ex21 ?_); refine Get1_spec H3 (fun hx => ?_) fun c hc w4 S4 H4 => ?_
  ·have := (List.getElem?_eq_none_iff.1 hx); omega
  refine r_ex20 (r_ex21 ?_); refine Get_spec (n := 24) H4 (by omega) (fun hx => absurd hx (by omega)) fun _ w5 S5 H5 => ?_; refine r_ex20 (r_ex21 ?_); replace S := ((S.trans S3).trans S4).trans S5; clear H H3 H4; have H := H5; clear H5; have hv1 := valB_take_lt (rest B at_) 32; have hv2 := valB_take_lt (rest B (at_ + 32 + 1)) 24; have e1 : (rest B at_).drop 33 = rest B (at_ + 32 + 1) := rest_drop B at_ 33
  have e2 : valB (((rest B at_).drop 32).take 1) = c.toNat := by
   rw [rest_drop, take_snoc (n := 0) hc, List.take_zero, List.nil_append, valB_one]
  have eh : bhead s (rest B at_) = if c.toNat = 1 then .bad 25 else bend ⟨s.room, true, valB ((rest B at_).take 32), valB ((rest B (at_ + 32 + 1)).take 24), s.row, s.last, s.done⟩ 57 := by
   unfold bhead; rw [if_neg h57, e1, e2]
  rw [eh] at post; have hpre := (head_pre (s := valB ((rest B at_).take 32)) (f := valB ((rest B (at_ + 32 + 1)).take 24)) hs hh (by omega) (by omega)).2; generalize valB ((rest B at_).take 32) = sm at *; generalize valB ((rest B (at_ + 32 + 1)).take 24) = fm at *; refine r_nc (r_fo0 ?_); refine r_st 1 H rfl (by simp [bkC]) rfl fun w3 S3 H3 => ?_; replace H3 : Holds w3 (RdR r B d (at_ + 32 + 1 + 24) :: blk b tBk [.pointer none, nv s.room, .bool true, uv s.sum, nv s.frm, lv, .bool s.done, iv 0] :: SL bv tB lv s.last :: L) := H3; refine r_nc (r_fo0 ?_); refine r_st 1 H3 rfl (by simp) rfl fun w4 S4 H4 => ?_; replace H4 : Holds w4 (RdR r B d (at_ + 32 + 1 + 24) :: blk b tBk [.pointer none, nv s.room, .bool true, uv sm, nv s.frm, lv, .bool s.done, iv 0] :: SL bv tB lv s.last :: L) := H4; refine r_ci64 (by omega) (by omega) ?_; refine r_nc (r_fo0 ?_); refine r_st 1 H4 rfl (by simp) rfl fun w5 S5 H5 => ?_; replace H5 : Holds w5 (RdR r B d (at_ + 32 + 1 + 24) :: blk b tBk [.pointer none, nv s.room, .bool true, uv sm, nv fm, lv, .bool s.done, iv 0] :: SL bv tB lv s.last :: L) := H5; replace S := ((S.trans S3).trans S4).trans S5; refine r_eql (r_ifE (fun h => ?_) fun h => ?_)
  ·rw [if_pos (by omega)] at post; rw [(hs.none_ hrow).2] at H5; exact post _ _ S (.inl ⟨25, rfl, by decide, rfl, _, _, _, _, _, _, _, (by have h_ := Holds.ord 3 [1, 0] H5 rfl; exact h_)⟩)
  ·rw [if_neg (by omega)] at post; exact post _ _ S (.inr ⟨rfl, _, _, rfl, hpre, Raw_closeN hrow (by have h_ := Holds.ord 3 [1, 2, 0] H5 rfl; exact h_)⟩)
theorem symbols_spec (H : Holds w (BkR b s :: RdR r B d at_ :: L)) (hh : s.head = true) (hrow : s.row = none) (post : ∀ v w', Same w w' -> Mid (bstep s (rest B at_)) b s r B d at_ L v w' -> K v w') :
  Cl Tryz.prog 162 #[pt b, pt r] w K := by
 refine Tz162 ?_; unfold Vz162; obtain ⟨hs, H⟩ := BkR_open H; obtain ⟨lv, H⟩ := Raw_openN hrow H
 have e0 : bstep s (rest B at_) = buse s (uread (rest B at_)) := by unfold bstep; rw [if_neg (by rw [hh]; decide), hrow]
 rw [e0] at post; have H1 : Holds w (RdR r B d at_ :: blk b tBk (bkC (.pointer none) lv s) :: SL bv tB lv s.last :: L) := (by have h_ := Holds.ord 3 [2, 0, 1] H rfl; exact h_); clear H; have hroom := hs.room; refine U05.Read_spec H1 (fun hx w2 S2 H2 => ?_) (fun hx w2 S2 H2 => ?_) fun T n hx hT w2 S2 H2 => ?_
 ·rw [hx] at post; refine r_ex20 (r_ex21 (r_eql (r_vfE (by decide) ?_))); exact post _ _ S2 (.inl ⟨3, rfl, by decide, rfl, BkR_close hs (Raw_closeN hrow (by have h_ := Holds.ord 3 [1, 2, 0] H2 rfl; exact h_))⟩)
 ·rw [hx] at post; refine r_ex20 (r_ex21 (r_eql (r_vfE (by decide) ?_))); rw [bkC, (hs.none_ hrow).2] at H2; exact post _ _ S2 (.inl ⟨25, rfl, by decide, rfl, _, _, _, _, _, _, _, (by have h_ := Holds.ord 3 [1, 0] H2 rfl; exact h_)⟩)
 ·rw [hx] at post; refine r_ex20 (r_ex21 (r_eql (r_vtE rfl ?_))); refine r_nc (r_fo0 (r_ld 1 H2 rfl rfl ?_)); refine rowOf_spec H2 hT hroom fun rb cb zb mb w3 S3 H3 => ?_; refine r_nc (r_fo0 ?_); refine r_st 5 H3 rfl (by simp [bkC]) rfl fun w4 S4 H4 => ?_; replace H4 : Holds w4 (blk rb tRw (rwC cb zb mb (rowOf T s.room)) :: C14.CdR cb (rowOf T s.room).code :: Z07.ZrR zb (rowOf T s.room).zeros :: F06.MtR mb (rowOf T s.room).list :: RdR r B d (at_ + n) :: blk b tBk (bkC (pt rb) lv s) :: SL bv tB lv s.last :: L) := H4; refine post _ _ ((S2.trans S3).trans S4) (.inr ⟨rfl, _, _, rfl, use_pre hs hh hrow hT, Raw_closeS (rb := rb) (cb := cb) (zb := zb) (mb := mb) (lv := lv) rfl ?_⟩); exact (by have h_ := Holds.ord 7 [5, 6, 0, 1, 2, 3, 4] H4 rfl; exact h_)
theorem symbol_spec (H : Holds w (BkR b s :: RdR r B d at_ :: L)) (hd : s.done = false) (hh : s.head = true) (hrow : s.row = some x) (hw : x.waits = false) (post : ∀ v w', Same w w' -> Mid (bstep s (rest B at_)) b s r B d at_ L v w' -> K v w') :
  Cl Tryz.prog 165 #[pt b, pt r] w K := by
 refine Tz165 ?_; unfold Vz165; obtain ⟨hs, H⟩ := BkR_open H; obtain ⟨rb, cb, zb, mb, lv, H⟩ := Raw_openS hrow H
 have e0 : bstep s (rest B at_) = bsym s x (cstep x.code (rest B at_)) := by unfold bstep; rw [if_neg (by rw [hh]; decide), hrow]; simp only; rw [if_neg (by rw [hw]; decide)]
 rw [e0] at post; have hcd := waits_or hs hd hrow hw; obtain ⟨g1, g2, g3, g4, g5⟩ := hs.some_ x hrow; unfold rawS at H; refine r_nc (r_fo0 (r_ld 0 H rfl rfl ?_)); refine r_nc (r_fo0 (r_ld 2 H rfl rfl ?_)); have H1 : Holds w (C14.CdR cb x.code :: RdR r B d at_ :: blk b tBk (bkC (pt rb) lv s) :: SL bv tB lv s.last :: blk rb tRw (rwC cb zb mb x) :: Z07.ZrR zb x.zeros :: F06.MtR mb x.list :: L) := (by have h_ := Holds.ord 7 [3, 6, 0, 1, 2, 4, 5] H rfl; exact h_); refine C14.Step_spec H1 hcd fun v w2 S2 hA => ?_; clear H1 H
 cases hx : cstep x.code (rest B at_) with
 | short =>
  rw [hx] at hA post; obtain ⟨rfl, H⟩ := hA; refine r_ex20 (r_ex21 ?_); refine r_join1 (fun y w' => w2 = w' /\ y = .bool true) ?_ ?_
  ·rintro _ _ _ ⟨rfl, rfl⟩; refine r_vt ?_; exact post _ _ S2 (.inl ⟨3, rfl, by decide, rfl, BkR_close hs (Raw_closeS (rb := rb) (cb := cb) (zb := zb) (mb := mb) (lv := lv) hrow (by have h_ := Holds.ord 7 [2, 3, 4, 0, 5, 6, 1] H rfl; exact h_))⟩)
  ·refine r_neq (r_vtN (by decide) ?_)
   repeat (refine r_ke ?_)
   exact ⟨rfl, rfl⟩
 | bad c =>
  have hcb := cstep_bad hx
  have hc0 : (c : Int) ≠ 0 := by omega
  rw [hx] at hA post; obtain ⟨rfl, q, H⟩ := hA; refine r_ex20 (r_ex21 ?_); refine r_join1 (fun y w' => w2 = w' /\ y = .bool true) ?_ ?_
  ·rintro _ _ _ ⟨rfl, rfl⟩; refine r_vt ?_; rw [bkC, hd] at H; exact post _ _ S2 (.inl ⟨c, rfl, hc0, rfl, q, _, _, _, _, _, _, (by have h_ := Holds.ord 6 [1, 0] H rfl; exact h_)⟩)
  ·refine r_neq (r_vtN hc0 ?_)
   repeat (refine r_ke ?_)
   exact ⟨rfl, rfl⟩
 | ok y k =>
  obtain ⟨c, o⟩ := y; rw [hx] at hA post; obtain ⟨rfl, H⟩ := hA; refine r_ex20 (r_ex21 ?_)
  cases o with
  | none =>
   refine r_join1 (fun y w' => w2 = w' /\ y = .bool true) ?_ ?_
   ·rintro _ _ _ ⟨rfl, rfl⟩; refine r_vt ?_; refine post _ _ S2 (.inr ⟨rfl, _, _, rfl, sym_pre hs hd hrow hx, Raw_closeS (rb := rb) (cb := cb) (zb := zb) (mb := mb) (lv := lv) rfl ?_⟩); exact (by have h_ := Holds.ord 7 [2, 3, 4, 0, 5, 6, 1] H rfl; exact h_)
   ·refine r_neq (r_vfN rfl ?_); refine r_lss (r_ke ?_); exact ⟨rfl, rfl⟩
  | some sy =>
   have hsy := (cstep_ok hx g2.code).2.2 sy rfl; have hsz := g2.size; refine r_join1 (fun y w' => w2 = w' /\ y = .bool false) ?_ ?_
   ·rintro _ _ _ ⟨rfl, rfl⟩; refine r_vf ?_; refine r_nc (r_fo0 (r_ld 2 H rfl rfl ?_)); have H1 : Holds w2 (blk rb tRw (rwC cb zb mb x) :: Z07.ZrR zb x.zeros :: C14.CdR cb c :: RdR r B d (at_ + k) :: blk b tBk (bkC (pt rb) lv s) :: SL bv tB lv s.last :: F06.MtR mb x.list :: L) := (by have h_ := Holds.ord 7 [4, 5, 0, 1, 2, 3, 6] H rfl; exact h_); refine told_spec (c := c) H1 (by omega) (by rw [g2.zd]; exact hcd) (fun hn w3 S3 H3 => ?_) fun z dd p hz w3 S3 H3 => ?_
    ·have e1 : bsym s x (.ok (c, some sy) k) = .bad 25 := by show btold s x c sy k = _; unfold btold; rw [hn]
     rw [e1] at post; rw [bkC, hd] at H3; exact post _ _ (S2.trans S3) (.inl ⟨25, rfl, by decide, rfl, _, _, _, _, _, _, _, (by have h_ := Holds.ord 5 [2, 1] H3 rfl; exact h_)⟩)
    ·refine post _ _ (S2.trans S3) (.inr ⟨rfl, ⟨s.room, s.head, s.sum, s.frm, some ⟨c, z, x.list, dd, p.toNat⟩, s.last, s.done⟩, k, ?_, told_pre hs hd hrow hw hx hz, Raw_closeS (rb := rb) (cb := cb) (zb := zb) (mb := mb) (lv := lv) rfl ?_⟩)
     ·show btold s x c sy k = _; unfold btold; rw [hz]
     ·exact (by have h_ := Holds.ord 7 [4, 5, 0, 2, 1, 6, 3] H3 rfl; exact h_)
   ·refine r_neq (r_vfN rfl ?_); refine r_lss (r_ke ?_); exact ⟨rfl, by rw [decide_eq_false (by omega)]⟩
theorem step_spec (H : Holds w (BkR b s :: RdR r B d at_ :: L)) (hd : s.done = false) (post : ∀ e w', Same w w' -> AfterB (bstep s (rest B at_)) b s r B d at_ L e w' -> K (iv e) w') :
  Cl Tryz.prog 115 #[pt b, pt r] w K := by
 refine Tz115 ?_; unfold Vz115; refine r_join1 (fun v w' => Same w w' /\ Mid (bstep s (rest B at_)) b s r B d at_ L v w') ?_ ?_
 ·rintro _ v w1 ⟨S, ⟨e, rfl, he, hA⟩ | ⟨rfl, s', n, hy, hp, H'⟩⟩
  ·refine r_neq (r_vtN he ?_); exact post e _ S hA
  ·refine r_neq (r_vfN rfl ?_); rw [hy] at post; exact end_spec H' hp s fun e w' S' hA => post e w' (S.trans S') hA
 clear post; have S := Same.refl w; have hs := (BkR_open H).1; have hraw := (BkR_open H).2
 cases hh : s.head with
 | false =>
  have hrow := (head_pre (s := 0) (f := 0) hs hh (by omega) (by omega)).1; obtain ⟨lv, H0⟩ := Raw_openN hrow hraw; refine r_nc (r_fo0 (r_ld 0 H0 rfl rfl ?_)); rw [hh]; refine r_notF (r_vt ?_); refine begin_spec H hh fun v w' S' hA => ?_
  repeat (refine r_ke ?_)
  exact ⟨S', hA⟩
 | true =>
  cases hrow : s.row with
  | none =>
   obtain ⟨lv, H0⟩ := Raw_openN hrow hraw; refine r_nc (r_fo0 (r_ld 0 H0 rfl rfl ?_)); rw [hh]; refine r_notT (r_vf ?_); refine r_nc (r_fo0 (r_ld 0 H0 rfl rfl ?_)); refine r_bnNT (r_vt ?_); refine symbols_spec H hh hrow fun v w' S' hA => ?_
   repeat (refine r_ke ?_)
   exact ⟨S', hA⟩
  | some x =>
   obtain ⟨rb, cb, zb, mb, lv, H0⟩ := Raw_openS hrow hraw; refine r_nc (r_fo0 (r_ld 0 H0 rfl rfl ?_)); rw [hh]; refine r_notT (r_vf ?_); refine r_nc (r_fo0 (r_ld 0 H0 rfl rfl ?_)); refine r_bnSF (r_vf ?_); refine r_nc (r_fo0 (r_ld 0 H0 rfl rfl ?_)); refine waits_spec H0 2 rfl ?_
   cases hw : x.waits with
   | false =>
    refine r_vf ?_; refine symbol_spec H hd hh hrow hw fun v w' S' hA => ?_
    repeat (refine r_ke ?_)
    exact ⟨S', hA⟩
   | true =>
    refine r_vt ?_; obtain ⟨g1, g2, g3, g4, g5⟩ := hs.some_ x hrow; have hzs := g2.zeros.sum; have hzm := g2.zeros.most
    have hat : x.at_ < x.list.length := by
     have := g2.list; have := g2.place; unfold RS.at_
     split <;> omega
    have hpre := next_pre hs hd hrow hw
    have eb : bstep s (rest B at_) = bnext s x := by unfold bstep; rw [if_neg (by rw [hh]; decide), hrow]; simp only; rw [if_pos hw]
    clear H hraw; have H := H0; clear H0; unfold rawS at H
    repeat (first | refine r_nc ?_ | refine r_fo0 ?_ | (refine r_dr H ?_; clear H; intro _ S_ H; replace S := S.trans S_; clear S_) | refine r_ld 0 H rfl rfl ?_)
    have H1 : Holds _ (blk rb tRw (rwC cb zb mb x) :: F06.MtR mb x.list :: blk b tBk (bkC (pt rb) lv s) :: SL bv tB lv s.last :: C14.CdR cb x.code :: Z07.ZrR zb x.zeros :: RdR r B d at_ :: L) := (by have h_ := Holds.ord 7 [2, 5, 0, 1, 3, 4, 6] H rfl; exact h_); refine next_spec H1 hat (by omega) fun w3 S3 H3 => ?_; refine r_rk (r_ld 2 H3 rfl rfl rfl) ?_; refine r_app1K H3 3 (f := bv) (xs := s.last) rfl x.byte (fun _ => rfl) (by omega) (fun w' H' => r_ld 2 H' rfl rfl rfl) fun lv' w4 S4 H4 => ?_; replace H4 : Holds w4 (blk rb tRw (rwC cb zb mb x.next) :: F06.MtR mb x.next.list :: blk b tBk (bkC (pt rb) lv s) :: SL bv tB lv' (s.last ++ [x.byte]) :: C14.CdR cb x.code :: Z07.ZrR zb x.zeros :: RdR r B d at_ :: L) := H4; refine r_nc (r_fo0 ?_); refine r_st 2 H4 rfl (by simp [bkC]) (SL_sg H4 3 rfl) fun w5 S5 H5 => ?_; replace H5 : Holds w5 (blk rb tRw (rwC cb zb mb x.next) :: F06.MtR mb x.next.list :: blk b tBk (bkC (pt rb) lv' s) :: SL bv tB lv' (s.last ++ [x.byte]) :: C14.CdR cb x.code :: Z07.ZrR zb x.zeros :: RdR r B d at_ :: L) := H5
    repeat (refine r_ke ?_)
    refine ⟨((S.trans S3).trans S4).trans S5, .inr ⟨rfl, ⟨s.room, s.head, s.sum, s.frm, some x.next, s.last ++ [x.byte], s.done⟩, 0, by rw [eb]; rfl, hpre, Raw_closeS (rb := rb) (cb := cb) (zb := zb) (mb := mb) (lv := lv') rfl ?_⟩⟩; exact (by have h_ := Holds.ord 7 [2, 3, 0, 4, 5, 1, 6] H5 rfl; exact h_)
def BadB (b e : Nat) : HProp := fun h => ∃ v1 v2 v3 v4 v5 v6, blk b tBk [v1, v2, v3, v4, v5, v6, .bool false, nv e] h
def AfterBS (y : Res BS) (b : Nat) (s : BS) (r : Nat) (B : List UInt8) (d at_ : Nat) (L : List HProp) (e : Int) (w : World) : Prop :=
 match y with
 | .short => e = 3 /\ Holds w (BkR b s :: RdR r B d at_ :: L)
 | .bad c => e = (c : Int) /\ ∃ q, Holds w (BadB b c :: RdR r B d q :: L)
 | .ok s' n => e = 0 /\ Holds w (BkR b s' :: RdR r B d (at_ + n) :: L)
theorem Raw_cells (H : Holds w (BkR b s :: L)) : ∃ rv lv L', Holds w (blk b tBk (bkC rv lv s) :: L') /\ ∀ w' v, Holds w' (blk b tBk ((bkC rv lv s).set 7 v) :: L') -> v = iv 0 -> Holds w' (BkR b s :: L) := by
 obtain ⟨hs, H⟩ := BkR_open H
 cases hrow : s.row with
 | none =>
  obtain ⟨lv, H⟩ := Raw_openN hrow H; exact ⟨_, lv, _, H, fun w' v H' hv => by subst hv; exact BkR_close hs (Raw_closeN hrow H')⟩
 | some x =>
  obtain ⟨rb, cb, zb, mb, lv, H⟩ := Raw_openS hrow H; exact ⟨_, lv, _, H, fun w' v H' hv => by subst hv; exact BkR_close hs (Raw_closeS hrow H')⟩
theorem Step_spec (H : Holds w (BkR b s :: RdR r B d at_ :: L)) (hd : s.done = false) (post : ∀ e w', Same w w' -> AfterBS (bstep s (rest B at_)) b s r B d at_ L e w' -> K (iv e) w') :
  Cl Tryz.prog 59 #[pt b, pt r] w K := by
 refine Tz59 ?_; unfold Vz59; obtain ⟨rv, lv, L', H0, hback⟩ := Raw_cells H; refine r_join1 (fun y w' => w = w' /\ y = .bool false) ?_ ?_
 ·rintro _ _ _ ⟨rfl, rfl⟩; refine r_vf ?_; refine r_nc (r_fo0 (r_ld 0 H0 rfl rfl ?_)); refine r_neq (r_vfN rfl ?_); refine step_spec H hd fun e w2 S2 hA => ?_
  cases hx : bstep s (rest B at_) with
  | short =>
   rw [hx] at hA post; obtain ⟨rfl, H'⟩ := hA; refine r_neq (r_vfN rfl ?_); exact post _ _ S2 ⟨rfl, H'⟩
  | bad c =>
   have hcb := bstep_bad hx; rw [hx] at hA post; obtain ⟨rfl, q, v1, v2, v3, v4, v5, v6, H'⟩ := hA; refine r_neq (r_vtN (by omega) ?_); refine r_nc (r_fo0 ?_); refine r_st 0 H' rfl (by simp) rfl fun w5 S5 H5 => ?_; exact post _ _ (S2.trans S5) ⟨rfl, q, Holds.imp H5 fun _ hh => ⟨v1, v2, v3, v4, v5, v6, hh⟩⟩
  | ok s' k =>
   rw [hx] at hA post; obtain ⟨rfl, H'⟩ := hA; refine r_neq (r_vtN (by decide) ?_); obtain ⟨rv, lv, L', H1, hback⟩ := Raw_cells H'; refine r_nc (r_fo0 ?_); refine r_st 0 H1 rfl (by simp [bkC]) rfl fun w5 S5 H5 => ?_; exact post _ _ (S2.trans S5) ⟨rfl, hback _ _ H5 rfl⟩
 ·repeat (first | refine r_ld 0 H0 rfl rfl ?_ | refine r_nc ?_ | refine r_fo0 ?_ | refine r_ke ?_ | (with_reducible refine r_bnSF ?_) | (with_reducible refine r_vf ?_))
  exact ⟨rfl, by rw [hd]⟩
theorem Done_spec (H : Holds w (BkR b s :: L)) (k : K (.bool s.done) w) : Cl Tryz.prog 58 #[pt b] w K := by
 refine Tz58 ?_; unfold Vz58; obtain ⟨rv, lv, L', H0, _⟩ := Raw_cells H
 repeat (first | refine r_ld 0 H0 rfl rfl ?_ | refine r_nc ?_ | refine r_fo0 ?_ | (with_reducible refine r_bnST ?_) | (with_reducible refine r_vt ?_))
 exact k
end B20
namespace B20
open Go.M01 Go.Mb Go.Mp Go.M10 Go.Mc Go.Mz Go.Mk Go.Q20 Go.Q23 Rb
variable {w : World} {L : List HProp} {K : Value -> World -> Prop} {b rb cb zb mb r : Nat} {B : List UInt8} {d at_ n k : Nat} {s : BS} {x : RS} {lv : Value}
abbrev tGt : Nat := 34
abbrev gotV (t : List UInt8) (o u : Nat) : List Value := [S_ t, nv o, uv u]
theorem got_zero : (zeroP Tryz.prog tGt).cells.toList = gotV [] 0 0 := by kernel_rfl
theorem r_cvb {t e d : TypeId} [hr : Bytes Tryz.prog t e d] (H : Holds w L) (i : Nat) {oa : Option Addr} {xs : List UInt8} {sp : List Value} {l c : Nat} {K : Value -> Prop}
  (hi : L[i]? = some (slb bv e oa xs sp)) (hl : l = xs.length) (h : K (.string ⟨xs.toArray⟩)) : Cv Tryz.prog t d (.slice oa l c) w K := by
 have h0 : Cw Tryz.prog t d (.slice oa l c) w (fun v w' => v = .string ⟨xs.toArray⟩ /\ w' = w) := r_cbs H i hi hl ⟨rfl, rfl⟩; unfold Cw at h0; obtain ⟨v, w', hr, rfl, rfl⟩ := h0; unfold Cv; exact ⟨_, hr, h⟩
theorem raw_cells2 (H : Holds w (BkR b s :: L)) : ∃ rv oa c L' sp, Holds w (blk b tBk (bkC rv (.slice oa s.last.length c) s) :: slb bv tB oa s.last sp :: L') /\ (∀ w', Holds w' (blk b tBk (bkC rv (.slice oa s.last.length c) s) :: slb bv tB oa s.last sp :: L') -> Holds w' (BkR b s :: L)) := by
 obtain ⟨hs, H⟩ := BkR_open H
 have back : ∀ {oa : Option Addr} {sp : List Value} {w' : World} {rv lv : Value} {L' : List HProp}, lv = .slice oa s.last.length (s.last.length + sp.length) -> Holds w' (blk b tBk (bkC rv lv s) :: slb bv tB oa s.last sp :: L') -> Holds w' (blk b tBk (bkC rv lv s) :: SL bv tB lv s.last :: L') := by
  intro oa sp w' rv lv L' he H'; subst he; exact H'.close 1 rfl
 cases hrow : s.row with
 | none =>
  obtain ⟨lv, H⟩ := Raw_openN hrow H; obtain ⟨oa, sp, rfl, H1⟩ := H.open 1 rfl; exact ⟨_, oa, _, L, sp, H1, fun w' H' => BkR_close hs (Raw_closeN hrow (back rfl H'))⟩
 | some x =>
  obtain ⟨rb, cb, zb, mb, lv, H⟩ := Raw_openS hrow H; obtain ⟨oa, sp, rfl, H1⟩ := H.open 1 rfl; exact ⟨_, oa, _, _, sp, H1, fun w' H' => BkR_close hs (Raw_closeS hrow (back rfl H'))⟩
theorem Got_done (H : Holds w (BkR b s :: L)) (hd : s.done = true) (k : ∀ w', Same w w' -> Holds w' (BkR b s :: L) -> K (.agg (gotV s.last s.frm s.sum).toArray) w') : Cl Tryz.prog 61 #[pt b] w K := by
 refine Tz61 ?_; unfold Vz61; refine r_new H fun gb w1 S1 H1 => ?_; rw [got_zero] at H1; refine Done_spec H1.swap ?_; rw [hd]; refine r_notT (r_vf ?_); refine r_dr H1 fun w2 S2 H2 => ?_; obtain ⟨rv, oa, c, L', sp, H3, hback⟩ := raw_cells2 H2.swap; refine r_nc (r_fo0 (r_ld 0 H3 rfl rfl ?_)); refine r_cvb H3 1 rfl rfl ?_; refine r_nc (r_fo0 (r_ld 0 H3 rfl rfl ?_)); refine r_nc (r_fo0 (r_ld 0 H3 rfl rfl ?_)); refine r_bd (v := .agg (gotV s.last s.frm s.sum).toArray) (by kernel_rfl) ?_; refine r_stA 0 H2 (vs := gotV s.last s.frm s.sum) rfl (Nat.le_refl 3) rfl rfl fun w4 S4 H4 => ?_; replace H4 : Holds w4 (blk gb tGt (gotV s.last s.frm s.sum) :: BkR b s :: L) := H4; refine r_ldA 0 H4 (gotV s.last s.frm s.sum) rfl rfl rfl ?_; exact k _ ((S1.trans S2).trans S4) H4.drop
def cellN (w : World) (b i : Nat) : Nat := match w.cell? ⟨b, i, none⟩ with
 | some (.int _ n) => n.toNat
 | some (.slice _ l _) => l
 | _ => 0
theorem at_of (H : Holds w (RdR r B d at_ :: L)) : cellN w r 2 = at_ := by
 obtain ⟨_, H⟩ := RdR_open H; unfold cellN; rw [H.cell 0 rfl 2]; rfl
theorem last_of (H : Holds w (BkR b s :: L)) : cellN w b 5 = s.last.length := by
 obtain ⟨rv, oa, c, L', sp, H, _⟩ := raw_cells2 H; unfold cellN; rw [H.cell 0 rfl 5]; rfl
end B20
namespace B20
open Go.M01 Go.Mb Go.Mp Go.M10 Go.Mc Go.Mz Go.Mk Go.Q20 Go.Q23 Rb
variable {w : World} {L : List HProp} {K : Value -> World -> Prop} {b rb cb zb mb r : Nat} {B : List UInt8} {d at_ n k : Nat} {s : BS} {x : RS} {lv : Value}
theorem Read_spec {room : Nat} (H : Holds w (RdR r B d at_ :: L)) (h1 : 5 <= room) (h2 : room <= 900000)
  (kb : ∀ e, Q20.Comes room (rest B at_) (.bad e) -> ∀ w', Same w w' -> Holds w' (RdR r B d at_ :: L) -> K (.tuple #[.agg (gotV [] 0 0).toArray, nv e]) w')
  (k : ∀ last o u n held, Q20.Comes room (rest B at_) (.got last o u n held) -> ∀ w', Same w w' -> Holds w' (RdR r B d (at_ + n) :: L) -> K (.tuple #[.agg (gotV last o u).toArray, iv 0]) w') :
  Cl Tryz.prog 22 #[pt r, nv room] w K := by
 refine Tz22 ?_; unfold Vz22; have hf := (RdR_open H).1; refine r_new H fun gb w1 S1 H1 => ?_; rw [got_zero] at H1; refine r_bnSF (r_vf ?_); refine NewReader_spec H1 h1 h2 fun b w2 S2 H2 => ?_; refine r_ex20 (r_ex21 ?_); refine r_neq (r_vfN rfl ?_); replace H2 : Holds w2 (BkR b (b0 room) :: RdR r B d at_ :: blk gb tGt (gotV [] 0 0) :: L) := (by have h_ := Holds.ord 3 [0, 2, 1] H2 rfl; exact h_); refine At_spec H2.drop ?_; have S := S1.trans S2; clear H H1 S1 S2
 refine r_loop0 (fun w' => ∃ s q, Run bstep BS.done (b0 room) (rest B at_) s q /\ s.room = room /\ Same w w' /\ Holds w' (BkR b s :: RdR r B d (at_ + q) :: blk gb tGt (gotV [] 0 0) :: L))
  (fun w' => (8 * B.length - cellN w' r 2) + (room + 1 - cellN w' b 5)) ⟨b0 room, 0, .start, rfl, S, H2⟩ ?_
 clear H2 S; rintro _ w3 ⟨s, q, hr, hroom, S, H⟩; have hok := (BkR_open H).1; have hlr := last_room hok; have hm1 := at_of H.drop; have hm2 := last_of H; have hf2 := (RdR_open H.drop).1; refine Done_spec H ?_
 cases hd : s.done with
 | true =>
  refine r_notT (r_vf ?_); refine Got_done H hd fun w4 S4 H4 => ?_; refine r_stA 2 H4 (vs := gotV s.last s.frm s.sum) rfl (Nat.le_refl 3) rfl rfl fun w5 S5 H5 => ?_; replace H5 : Holds w5 (BkR b s :: RdR r B d (at_ + q) :: blk gb tGt (gotV s.last s.frm s.sum) :: L) := H5; refine r_ldA 2 H5 (gotV s.last s.frm s.sum) rfl rfl rfl ?_; exact k _ _ _ _ _ ⟨s, q, hr, .inl ⟨hd, rfl⟩⟩ _ ((S.trans S4).trans S5) (Holds.dropAt (Holds.dropAt H5 2) 0)
 | false =>
  refine r_notF (r_vt ?_); refine Step_spec H hd fun e w4 S4 hA => ?_; have hrd : (rest B at_).drop q = rest B (at_ + q) := rest_drop B at_ q
  cases hx : bstep s (rest B (at_ + q)) with
  | short =>
   rw [hx] at hA; obtain ⟨rfl, H4⟩ := hA; refine r_neq (r_vtN (by decide) ?_); refine Seek_spec (p := at_) H4.drop hf.1 hf.2.1 fun w5 S5 H5 => ?_; refine r_bd (v := .agg (gotV [] 0 0).toArray) (by kernel_rfl) ?_; refine r_stA 1 H5 (vs := gotV [] 0 0) rfl (Nat.le_refl 3) rfl rfl fun w6 S6 H6 => ?_; replace H6 : Holds w6 (RdR r B d at_ :: blk gb tGt (gotV [] 0 0) :: L) := H6; refine r_ldA 1 H6 (gotV [] 0 0) rfl rfl rfl ?_; exact kb 3 ⟨s, q, hr, .inr (.inl ⟨hd, by rw [hrd]; exact hx, rfl⟩)⟩ _ (((S.trans S4).trans S5).trans S6) (Holds.dropAt H6 1)
  | bad c =>
   have hcb := bstep_bad hx; rw [hx] at hA; obtain ⟨rfl, q', H4⟩ := hA; refine r_neq (r_vtN (by omega) ?_); refine Seek_spec (p := at_) H4.drop hf.1 hf.2.1 fun w5 S5 H5 => ?_; refine r_bd (v := .agg (gotV [] 0 0).toArray) (by kernel_rfl) ?_; refine r_stA 1 H5 (vs := gotV [] 0 0) rfl (Nat.le_refl 3) rfl rfl fun w6 S6 H6 => ?_; replace H6 : Holds w6 (RdR r B d at_ :: blk gb tGt (gotV [] 0 0) :: L) := H6; refine r_ldA 1 H6 (gotV [] 0 0) rfl rfl rfl ?_; exact kb c ⟨s, q, hr, .inr (.inr ⟨c, hd, by rw [hrd]; exact hx, rfl⟩)⟩ _ (((S.trans S4).trans S5).trans S6) (Holds.dropAt H6 1)
  | ok s' n =>
   rw [hx] at hA; obtain ⟨rfl, H4⟩ := hA; refine r_neq (r_vfN rfl ?_); have hp := bstep_prog hok hx; have hf4 := (RdR_open H4.drop).1; have hm3 := at_of H4.drop; have hm4 := last_of H4; have hok4 := (BkR_open H4).1; have hlr4 := last_room hok4; refine r_ke ⟨⟨s', q + n, hr.next hd (by rw [hrd]; exact hx), by rw [hp.1]; exact hroom, S.trans S4, by rw [<- Nat.add_assoc]; exact H4⟩, ?_⟩; show (8 * B.length - cellN w4 r 2) + (room + 1 - cellN w4 b 5) < (8 * B.length - cellN w3 r 2) + (room + 1 - cellN w3 b 5); rw [hm1, hm2, hm3, hm4]; rw [hp.1] at hlr4; rcases hp.2 with ⟨h3, h4⟩ | ⟨h3, h4⟩
   ·rw [h4]; omega
   ·omega
end B20
end Go.Proofs.YtgaiocpkjaaphaaGreatDoor
namespace Go.M02
theorem bit_mul {p q k : Nat} (hp : p <= 1) (hq : q <= 1) : (p ^^^ q) * k = p * k ^^^ q * k := by
 have h1 : p = 0 \/ p = 1 := by omega
 have h2 : q = 0 \/ q = 1 := by omega
 rcases h1 with rfl | rfl <;> rcases h2 with rfl | rfl <;> simp
theorem xor4 (w x y z : Nat) : (w ^^^ x) ^^^ (y ^^^ z) = (w ^^^ y) ^^^ (x ^^^ z) := by
 rw [Nat.xor_assoc, Nat.xor_assoc]; refine congrArg (fun q => w ^^^ q) ?_; rw [<- Nat.xor_assoc, Nat.xor_comm x y, Nat.xor_assoc]
theorem crcStep_xor {a b : Nat} (ha : a < 4294967296) (hb : b < 4294967296) : crcStep (a ^^^ b) = crcStep a ^^^ crcStep b := by
 have h1 : (a ^^^ b) * 2 % 4294967296 = (a * 2 % 4294967296) ^^^ (b * 2 % 4294967296) := by
  have e1 : (a ^^^ b) * 2 = (a * 2) ^^^ (b * 2) := by
   have := Nat.shiftLeft_xor_distrib (i := 1) (a := a) (b := b); simpa [Nat.shiftLeft_eq] using this
  rw [e1]; exact Nat.xor_mod_two_pow (n := 32)
 have h2 : (a ^^^ b) / 2147483648 = (a / 2147483648) ^^^ (b / 2147483648) := Nat.xor_div_two_pow (n := 31); unfold crcStep; rw [h1, h2, bit_mul (by omega) (by omega)]; exact xor4 _ _ _ _
theorem crcN_xor {a b : Nat} (ha : a < 4294967296) (hb : b < 4294967296) : ∀ k, crcN (a ^^^ b) k = crcN a k ^^^ crcN b k
 | 0 => rfl
 | k + 1 => by rw [crcN, crcN_xor ha hb k, crcStep_xor (crcN_lt a ha k) (crcN_lt b hb k)]; rfl
theorem crcN_low {a : Nat} (ha : a < 16777216) : ∀ k, k <= 8 -> crcN a k = a * 2 ^ k
 | 0, _ => by simp [crcN]
 | k + 1, hk => by
  have h2 : 2 ^ k <= 2 ^ 7 := Nat.pow_le_pow_right (by decide) (by omega); have h3 : a * 2 ^ k <= 16777215 * 128 := Nat.mul_le_mul (by omega) h2; rw [crcN, crcN_low ha k (by omega), Nat.pow_succ, <- Nat.mul_assoc]; generalize a * 2 ^ k = y at *; unfold crcStep; rw [Nat.div_eq_of_lt (by omega), Nat.zero_mul, Nat.xor_zero, Nat.mod_eq_of_lt (by omega)]
theorem split24 (x : Nat) : x = (x % 16777216) ^^^ (x / 16777216 * 16777216) := by
 apply Nat.eq_of_testBit_eq; intro i; rw [Nat.testBit_xor]; have h1 : (x % 16777216).testBit i = (decide (i < 24) && x.testBit i) := Nat.testBit_mod_two_pow x 24 i
 have h2 : (x / 16777216 * 16777216).testBit i = (decide (24 <= i) && x.testBit i) := by
  have h3 : x / 16777216 * 16777216 = (x >>> 24) <<< 24 := by rw [Nat.shiftLeft_eq, Nat.shiftRight_eq_div_pow]
  rw [h3, Nat.testBit_shiftLeft, Nat.testBit_shiftRight]
  by_cases h : 24 <= i
  ·simp [h]
  ·simp [h]
 rw [h1, h2]
 by_cases h : i < 24
 ·simp [h, show ¬ 24 <= i by omega]
 ·simp [h, show 24 <= i by omega]
def crcB (s : Nat) (c : UInt8) : Nat := crcN (s ^^^ c.toNat * 16777216) 8
theorem crcB_lt {s : Nat} (h : s < 4294967296) (c : UInt8) : crcB s c < 4294967296 := by
 have hc := c.toNat_lt; exact crcN_lt _ (Nat.xor_lt_two_pow (n := 32) (by omega) (by omega)) 8
theorem crcB_tab {s : Nat} (h : s < 4294967296) (c : UInt8) : (s * 2 ^ 8 % 4294967296) ^^^ crcTab (s / 16777216 ^^^ c.toNat) = crcB s c := by
 have hc := c.toNat_lt; have hx : s ^^^ c.toNat * 16777216 < 4294967296 := Nat.xor_lt_two_pow (n := 32) (by omega) (by omega)
 have hlo : (s ^^^ c.toNat * 16777216) % 16777216 = s % 16777216 := by
  have := Nat.xor_mod_two_pow (a := s) (b := c.toNat * 16777216) (n := 24); rw [show (2 : Nat) ^ 24 = 16777216 from rfl] at this; rw [this, Nat.mul_mod_left, Nat.xor_zero]
 have hhi : (s ^^^ c.toNat * 16777216) / 16777216 = s / 16777216 ^^^ c.toNat := by
  have := Nat.xor_div_two_pow (a := s) (b := c.toNat * 16777216) (n := 24); rw [show (2 : Nat) ^ 24 = 16777216 from rfl] at this; rw [this, Nat.mul_div_cancel _ (by decide)]
 have hh : s / 16777216 ^^^ c.toNat < 256 := Nat.xor_lt_two_pow (n := 8) (by omega) (by omega); unfold crcB; rw [split24 (s ^^^ c.toNat * 16777216), hlo, hhi, crcN_xor (by omega) (by omega), crcN_low (by omega) 8 (by omega), crcTab]; refine congrArg (fun q => q ^^^ crcN ((s / 16777216 ^^^ c.toNat) * 16777216) 8) ?_; omega
def crcF (s : Nat) (l : List UInt8) : Nat := l.foldl crcB s
theorem crcF_snoc (s : Nat) (l : List UInt8) (c : UInt8) : crcF s (l ++ [c]) = crcB (crcF s l) c := by simp [crcF]
theorem crcF_lt : ∀ (l : List UInt8) {s : Nat}, s < 4294967296 -> crcF s l < 4294967296
 | [], _, h => h
 | c :: l, _, h => crcF_lt l (crcB_lt h c)
def crcOf (l : List UInt8) : Nat := 4294967295 - crcF 4294967295 l
theorem crcOf_lt (l : List UInt8) : crcOf l < 4294967296 := by unfold crcOf; omega
def comb (t b : Nat) : Nat := (t * 2 % 4294967296) ^^^ (t / 2147483648) ^^^ b
end Go.M02
namespace Go.M03
def rleA : List UInt8 -> Nat -> UInt8 -> List UInt8 -> Option (List UInt8)
 | out, run, p, [] => if run = 4 then none else some out
 | out, run, p, c :: s =>
  if run = 4 then
   if 251 < c.toNat then none else rleA (out ++ List.replicate c.toNat p) 0 c s
  else if 0 < run /\ c = p then rleA (out ++ [c]) (run + 1) c s
  else rleA (out ++ [c]) 1 c s
theorem rleA_len : ∀ (s out : List UInt8) (run : Nat) (p : UInt8) (t : List UInt8), rleA out run p s = some t -> t.length <= out.length + 255 * s.length
 | [], out, run, p, t, h => by
  unfold rleA at h; split at h
  ·cases h
  ·cases h; simp
 | c :: s, out, run, p, t, h => by
  unfold rleA at h; rw [List.length_cons]; split at h
  ·split at h
   ·cases h
   ·have := rleA_len s _ _ _ _ h; rw [List.length_append, List.length_replicate] at this; omega
  ·split at h
   ·have := rleA_len s _ _ _ _ h; rw [List.length_append, List.length_singleton] at this; omega
   ·have := rleA_len s _ _ _ _ h; rw [List.length_append, List.length_singleton] at this; omega
def rle (s : List UInt8) : Option (List UInt8) := rleA [] 0 0 s
end Go.M03
namespace Go.M3d
open Go.M02 Go.M03
theorem rleA_p (out s : List UInt8) (p q : UInt8) : rleA out 0 p s = rleA out 0 q s := by
 cases s <;> simp [rleA]
theorem rleA_32 (o : List UInt8) (a : UInt8) (u : List UInt8) (h : ¬ (1 <= u.length /\ u.getD 0 0 = a)) : rleA o 3 a u = rleA o 2 a u := by
 cases u with
 | nil => simp [rleA]
 | cons d v =>
  have hd : ¬ d = a := fun e => h ⟨by simp, e⟩; simp [rleA, hd]
theorem rleA_21 (o : List UInt8) (a : UInt8) (u : List UInt8) (h : ¬ (2 <= u.length /\ u.getD 0 0 = a /\ u.getD 1 0 = a)) : rleA o 2 a u = rleA o 1 a u := by
 cases u with
 | nil => simp [rleA]
 | cons d v =>
  by_cases hd : d = a
  ·subst hd; simp only [rleA]; simp only [show ¬ (2 : Nat) = 4 by omega, show ¬ (1 : Nat) = 4 by omega, if_false, show (0 : Nat) < 2 by omega, show (0 : Nat) < 1 by omega, true_and, if_true]; exact rleA_32 _ _ _ fun hv => h ⟨by rw [List.length_cons]; omega, rfl, hv.2⟩
  ·simp [rleA, hd]
theorem rleA_one (out : List UInt8) (a p : UInt8) (s : List UInt8) (h : ¬ (3 <= s.length /\ s.getD 0 0 = a /\ s.getD 1 0 = a /\ s.getD 2 0 = a)) : rleA out 0 p (a :: s) = rleA (out ++ [a]) 0 p s := by
 have e : rleA out 0 p (a :: s) = rleA (out ++ [a]) 1 a s := by simp [rleA]
 rw [e]
 cases s with
 | nil => simp [rleA]
 | cons b t =>
  by_cases hd : b = a
  ·subst hd
   have e2 : rleA (out ++ [b]) 0 p (b :: t) = rleA (out ++ [b] ++ [b]) 1 b t := by simp [rleA]
   have e1 : rleA (out ++ [b]) 1 b (b :: t) = rleA (out ++ [b] ++ [b]) 2 b t := by simp [rleA]
   rw [e1, e2]; exact rleA_21 _ _ _ fun hv => h ⟨by rw [List.length_cons]; omega, rfl, hv.2.1, hv.2.2⟩
  ·simp [rleA, hd]
theorem rleA_four (out : List UInt8) (a p : UInt8) (r : List UInt8) : rleA out 0 p (a :: a :: a :: a :: r) = rleA (out ++ [a] ++ [a] ++ [a] ++ [a]) 4 a r := by
 simp [rleA]
theorem rleA_run (out : List UInt8) (a c p : UInt8) (r : List UInt8) (h : ¬ 251 < c.toNat) : rleA out 0 p (a :: a :: a :: a :: c :: r) = rleA (out ++ List.replicate (4 + c.toNat) a) 0 p r := by
 rw [rleA_four]
 have e : rleA (out ++ [a] ++ [a] ++ [a] ++ [a]) 4 a (c :: r) = rleA (out ++ [a] ++ [a] ++ [a] ++ [a] ++ List.replicate c.toNat a) 0 c r := by
  simp only [rleA, if_true, if_neg h]
 rw [e, rleA_p _ _ c p]
 congr 1
 rw [Nat.add_comm, show List.replicate (c.toNat + 4) a = [a, a, a, a] ++ List.replicate c.toNat a from rfl]; simp
def four (s : List UInt8) : Prop := 4 <= s.length /\ s.getD 0 0 = s.getD 1 0 /\ s.getD 1 0 = s.getD 2 0 /\ s.getD 2 0 = s.getD 3 0
theorem rleA_step {out : List UInt8} {p a : UInt8} {s : List UInt8} (h : ¬ four (a :: s)) : rleA out 0 p (a :: s) = rleA (out ++ [a]) 0 p s := by
 refine rleA_one _ _ _ _ fun ⟨h0, h1, h2, h3⟩ => h ⟨by rw [List.length_cons]; omega, ?_, ?_, ?_⟩
 ·simp only [List.getD_cons_zero, List.getD_cons_succ]; exact h1.symm
 ·simp only [List.getD_cons_succ]; rw [h1, h2]
 ·simp only [List.getD_cons_succ]; rw [h2, h3]
theorem crcStep_high {x : Nat} (h : 2147483648 <= x) (hx : x < 4294967296) : ((x - 2147483648) * 2) ^^^ 79764919 = crcStep x := by
 unfold crcStep; rw [show x / 2147483648 = 1 by omega, Nat.one_mul, show x * 2 % 4294967296 = (x - 2147483648) * 2 by omega]
theorem crcStep_low {x : Nat} (h : x < 2147483648) : x * 2 = crcStep x := by
 unfold crcStep; rw [show x / 2147483648 = 0 by omega, Nat.zero_mul, Nat.xor_zero, show x * 2 % 4294967296 = x * 2 by omega]
theorem crcStep_lt {x : Nat} : crcStep x < 4294967296 \/ 4294967296 <= x := by
 by_cases h : x < 4294967296
 ·left; unfold crcStep; refine Nat.xor_lt_two_pow (n := 32) (by omega) ?_
  have : x / 2147483648 < 2 := by omega
  have : x / 2147483648 * 79764919 <= 1 * 79764919 := Nat.mul_le_mul_right _ (by omega); omega
 ·right; omega
theorem crcN_snoc (s k : Nat) : crcN s (k + 1) = crcStep (crcN s k) := rfl
theorem crcN_lt {s : Nat} (h : s < 4294967296) : ∀ k, crcN s k < 4294967296
 | 0 => h
 | k + 1 => by
  rw [crcN_snoc]; rcases crcStep_lt (x := crcN s k) with h1 | h1
  ·exact h1
  ·have := crcN_lt h k; omega
end Go.M3d
namespace Go.Me
open Go.M01 Go.Mb Go.M03 Go.M3d Go.Mx
theorem bitsL_whole {l : List Bool} (h : l.length % 8 = 0) : bitsL (wholeB l) = l := by
 apply List.ext_getElem?; intro i; rcases Nat.lt_or_ge i l.length with q | q
 ·rw [bitsL_get _ _ (by rw [wholeB_len]; omega)]
  have hi : i / 8 < l.length / 8 := by omega
  have e1 : (wholeB l).getD (i / 8) 0 = byteAt l (i / 8) := by
   unfold wholeB; rw [List.getD_eq_getElem?_getD, List.getElem?_map, List.getElem?_range hi]; rfl
  have hq : ((l.drop (8 * (i / 8))).take 8).length = 8 := by rw [List.length_take, List.length_drop]; omega
  have hv := valB_lt ((l.drop (8 * (i / 8))).take 8); rw [hq] at hv
  have e2 : (byteAt l (i / 8)).toNat = valB ((l.drop (8 * (i / 8))).take 8) := by
   unfold byteAt; simp only [UInt8.toNat_ofNat']; exact Nat.mod_eq_of_lt hv
  have e3 := valB_bitL (q := (l.drop (8 * (i / 8))).take 8) (i := i % 8) (by rw [hq]; omega); rw [hq] at e3; rw [e1, e2, show 7 - i % 8 = 8 - 1 - i % 8 by omega, e3, List.getD_eq_getElem?_getD, List.getElem?_take_of_lt (by omega), List.getElem?_drop, show 8 * (i / 8) + i % 8 = i by omega, List.getElem?_eq_getElem q]; rfl
 ·rw [List.getElem?_eq_none q, List.getElem?_eq_none (by rw [bitsL_len, wholeB_len]; omega)]
structure RunIs (s : List UInt8) (n : Nat) : Prop where
 pos : 1 <= n
 le : n <= s.length
 n255 : n <= 255
 same : s.take n = List.replicate n (s.getD 0 0)
 fin : n < 4 -> s.drop n = [] \/ (s.drop n).getD 0 0 ≠ s.getD 0 0
def pieceB (x : UInt8 × Nat) : List UInt8 := List.replicate (min x.2 4) x.1 ++ if 4 <= x.2 then [UInt8.ofNat (x.2 - 4)] else []
theorem pieceB_len (x : UInt8 × Nat) : (pieceB x).length <= 5 := by
 unfold pieceB; rw [List.length_append, List.length_replicate]; split
 ·simp; omega
 ·simp; omega
theorem not_four {a : UInt8} {u rest : List UInt8} (hu : u = [] \/ u = [a] \/ u = [a, a]) (hne : rest = [] \/ rest.getD 0 0 ≠ a) : ¬ four (a :: (u ++ rest)) := by
 rintro ⟨h0, h1, h2, h3⟩; rcases hu with rfl | rfl | rfl
 ·rcases hne with rfl | hne
  ·simp at h0
  ·exact hne h1.symm
 ·rcases hne with rfl | hne
  ·simp at h0
  ·exact hne h2.symm
 ·rcases hne with rfl | hne
  ·simp at h0
  ·exact hne h3.symm
theorem piece_rle {out rest : List UInt8} {a p : UInt8} {n : Nat} (h1 : 1 <= n) (h2 : n <= 255) (hne : n < 4 -> rest = [] \/ rest.getD 0 0 ≠ a) : rleA out 0 p (pieceB (a, n) ++ rest) = rleA (out ++ List.replicate n a) 0 p rest := by
 unfold pieceB; simp only
 by_cases h4 : 4 <= n
 ·rw [if_pos h4, show min n 4 = 4 by omega]
  have hc : (UInt8.ofNat (n - 4)).toNat = n - 4 := by
   simp only [UInt8.toNat_ofNat']; exact Nat.mod_eq_of_lt (by omega)
  have := rleA_run out a (UInt8.ofNat (n - 4)) p rest (by rw [hc]; omega); rw [hc, show 4 + (n - 4) = n by omega] at this; exact this
 ·have hnx := hne (by omega); clear hne; rw [if_neg h4, show min n 4 = n by omega, List.append_nil]; rcases (show n = 1 \/ n = 2 \/ n = 3 by omega) with rfl | rfl | rfl
  ·have := rleA_step (out := out) (p := p) (not_four (u := []) (.inl rfl) hnx); exact this
  ·have e1 := rleA_step (out := out) (p := p) (not_four (u := [a]) (.inr (.inl rfl)) hnx); have e2 := rleA_step (out := out ++ [a]) (p := p) (not_four (u := []) (.inl rfl) hnx); rw [List.append_assoc] at e2; exact e1.trans e2
  ·have e1 := rleA_step (out := out) (p := p) (not_four (u := [a, a]) (.inr (.inr rfl)) hnx); have e2 := rleA_step (out := out ++ [a]) (p := p) (not_four (u := [a]) (.inr (.inl rfl)) hnx); have e3 := rleA_step (out := out ++ [a] ++ [a]) (p := p) (not_four (u := []) (.inl rfl) hnx); rw [show out ++ [a] ++ [a] ++ [a] = out ++ List.replicate 3 a by simp [List.replicate]] at e3; exact e1.trans (e2.trans e3)
inductive Pcs : List UInt8 -> List (UInt8 × Nat) -> Prop
 | nil : Pcs [] []
 | cons {s : List UInt8} {n : Nat} {ps : List (UInt8 × Nat)} (h : RunIs s n) (r : Pcs (s.drop n) ps) : Pcs s ((s.getD 0 0, n) :: ps)
def encB (ps : List (UInt8 × Nat)) : List UInt8 := ps.flatMap pieceB
theorem encB_snoc (ps : List (UInt8 × Nat)) (x : UInt8 × Nat) : encB (ps ++ [x]) = encB ps ++ pieceB x := by simp [encB]
theorem Pcs.len {s : List UInt8} {ps : List (UInt8 × Nat)} (h : Pcs s ps) : ps.length <= s.length := by
 induction h with
 | nil => exact Nat.le_refl _
 | cons h r ih =>
  rw [List.length_drop] at ih; have := h.pos; have := h.le; rw [List.length_cons]; omega
theorem Pcs.ok {s : List UInt8} {ps : List (UInt8 × Nat)} (h : Pcs s ps) : ∀ x ∈ ps, 1 <= x.2 /\ x.2 <= 255 := by
 induction h with
 | nil => intro x hx; cases hx
 | cons h r ih =>
  intro x hx; rcases List.mem_cons.1 hx with rfl | hx
  ·exact ⟨h.pos, h.n255⟩
  ·exact ih x hx
theorem Pcs.head {s : List UInt8} {ps : List (UInt8 × Nat)} (h : Pcs s ps) : (s = [] /\ encB ps = []) \/ (s ≠ [] /\ encB ps ≠ [] /\ (encB ps).getD 0 0 = s.getD 0 0) := by
 cases h with
 | nil => exact .inl ⟨rfl, rfl⟩
 | cons h r =>
  rename_i n ps; have h1 := h.pos; have h2 := h.le
  have e : encB ((s.getD 0 0, n) :: ps) = s.getD 0 0 :: (List.replicate (min n 4 - 1) (s.getD 0 0) ++ (if 4 <= n then [UInt8.ofNat (n - 4)] else []) ++ encB ps) := by
   unfold encB; rw [List.flatMap_cons]
   have e2 : pieceB (s.getD 0 0, n) = s.getD 0 0 :: (List.replicate (min n 4 - 1) (s.getD 0 0) ++ (if 4 <= n then [UInt8.ofNat (n - 4)] else [])) := by
    unfold pieceB; simp only; rw [show min n 4 = (min n 4 - 1) + 1 by omega, List.replicate_succ, Nat.add_sub_cancel]; rfl
   rw [e2]; simp
  refine .inr ⟨fun e => by rw [e] at h2; simp at h2; omega, by rw [e]; simp, by rw [e]; rfl⟩
theorem Pcs.rle_ {s : List UInt8} {ps : List (UInt8 × Nat)} (h : Pcs s ps) : ∀ out p, rleA out 0 p (encB ps) = some (out ++ s) := by
 induction h with
 | nil => intro out p; simp [encB, rleA]
 | cons h r ih =>
  rename_i s n ps; intro out p
  have e : encB ((s.getD 0 0, n) :: ps) = pieceB (s.getD 0 0, n) ++ encB ps := by unfold encB; rw [List.flatMap_cons]
  rw [e, piece_rle h.pos h.n255 fun h4 => ?_, ih, List.append_assoc, <- h.same, List.take_append_drop]; rcases r.head with ⟨h5, h6⟩ | ⟨h5, h6, h7⟩
  ·exact .inl h6
  ·right; rw [h7]; exact (h.fin h4).resolve_left h5
theorem Pcs.back {s : List UInt8} {ps : List (UInt8 × Nat)} (h : Pcs s ps) : Go.M03.rle (encB ps) = some s := h.rle_ [] 0
end Go.Me
namespace Go.M20
open Go.M02 Go.M03 Go.M18
def opnR (s : Int) : Option (List UInt8) -> List UInt8 × Int
 | none => ([], 25)
 | some t => if ((crcOf t : Nat) : Int) = s then (t, 0) else ([], 21)
def opn (l : List UInt8) (o s : Int) : List UInt8 × Int :=
 if l.length = 0 then ([], 1) else if o < 0 \/ (l.length : Int) <= o then ([], 23) else
  opnR s (rle (text l o.toNat))
theorem text_len (l : List UInt8) (o : Nat) : (text l o).length = l.length := outK_len _ _ _
end Go.M20
