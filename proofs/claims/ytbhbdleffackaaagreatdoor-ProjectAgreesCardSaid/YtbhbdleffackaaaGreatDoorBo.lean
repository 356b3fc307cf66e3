/- Chapter 46: who logs in by bob's stream: a closed call that is known by a contract. -/
import Derived.Test.YtbhbdleffackaaaGreatDoorTe
set_option linter.unusedVariables false
set_option linter.unusedSimpArgs false
namespace Go.Proofs.YtbhbdleffackaaaGreatDoor
open Go Go.Vc
namespace F33
open Go.M31 J30 J31 J32
theorem runes_low : ∀ (l : List UInt8), (∀ b ∈ l, b < 128) → runes l = l.map fun b => ((b.toNat : Int), 1)
  | [], _ => by unfold runes; rw [dif_pos rfl]; rfl
  | b :: l, h => by
    have hb := h b (List.mem_cons_self ..)
    have h1 : byt (b :: l) 0 < 128 := by
      show b.toNat < 128
      simpa using UInt8.lt_iff_toNat_lt.1 hb
    have h2 := J33.first_low h1
    unfold runes
    rw [dif_neg (by simp), h2]
    show (_, 1) :: runes ((b :: l).drop 1) = _
    rw [List.drop_succ_cons, List.drop_zero, runes_low l fun x hx => h x (List.mem_cons_of_mem _ hx)]
    rfl
theorem word_low {l : List UInt8} (h : ∀ b ∈ l, b < 128) (hm : ∀ b ∈ l, mayR (b.toNat : Int)) (h1 : 0 < l.length) (h2 : l.length ≤ 32) : word l := by
  unfold word
  rw [runes_low l h]
  refine ⟨fun r hr => ?_, by simpa using h1, by simpa using h2⟩
  obtain ⟨b, hb, rfl⟩ := List.mem_map.1 hr
  exact hm b hb
abbrev ann : Tn := ⟨Ev.str [97, 110, 110], Ev.str [107, 101, 121], 1048576, 1048576, 50⟩
abbrev bob : Tn := ⟨Ev.str [98, 111, 98], Ev.str [107, 101, 122], 1048576, 1048576, 50⟩
abbrev ts46 : List Tn := [ann, bob]
abbrev n46 : Cn := ⟨24, 64, 200, 5, 3, 10⟩
abbrev s46 : List Nat := [1, 0, 0, 0, 0, 0, 0, 0, 3, 107, 101, 122]
abbrev f46 : Fr := ⟨1, 0, [107, 101, 122]⟩
abbrev x46 : List Ev.X := [.s [97, 110, 110], .s [107, 101, 121], .i .i64 1048576, .i .i64 1048576, .i .i64 50, .s [98, 111, 98], .s [107, 101, 122], .i .i64 1048576, .i .i64 1048576, .i .i64 50]
theorem dec46 : dec (s46.map UInt8.ofNat) = .ok f46 12 := by kernel_rfl
theorem w46 {l : List UInt8} (h : l = [97, 110, 110] ∨ l = [107, 101, 121] ∨ l = [98, 111, 98] ∨ l = [107, 101, 122]) : word l := by
  rcases h with rfl | rfl | rfl | rfl <;> exact word_low (by decide) (by decide) (by decide) (by decide)
theorem get46 {i : Nat} {t : Tn} (h : ts46[i]? = some t) : (i = 0 ∧ t = ann) ∨ (i = 1 ∧ t = bob) := by
  match i, h with
  | 0, h => exact .inl ⟨rfl, (Option.some.inj h).symm⟩
  | 1, h => exact .inr ⟨rfl, (Option.some.inj h).symm⟩
  | i + 2, h => cases h
theorem good46 : goodTs ts46 := by
  refine ⟨fun i t h => ?_, fun i t j u h1 h2 hlt => ?_, by decide, by decide⟩
  · rcases get46 h with ⟨_, rfl⟩ | ⟨_, rfl⟩
    · exact ⟨w46 (.inl rfl), w46 (.inr (.inl rfl)), by decide, by decide, by decide, by decide, by decide, by decide⟩
    · exact ⟨w46 (.inr (.inr (.inl rfl))), w46 (.inr (.inr (.inr rfl))), by decide, by decide, by decide, by decide, by decide, by decide⟩
  · rcases get46 h1 with ⟨rfl, rfl⟩ | ⟨rfl, rfl⟩ <;> rcases get46 h2 with ⟨rfl, rfl⟩ | ⟨rfl, rfl⟩
    · omega
    · omega
    · constructor
      · intro e
        have := congrArg (fun b : ByteArray => b.data.toList) e
        exact absurd this (by decide)
      · intro e
        have := congrArg (fun b : ByteArray => b.data.toList) e
        exact absurd this (by decide)
    · omega
theorem chk46 : ChkC ts46 n46 0 := .inr (.inr ⟨.inr (.inr (.inr ⟨good46, rfl⟩)), ⟨by decide, by decide, by decide, by decide, by decide, by decide, by decide, by decide, by decide, by decide, by decide, by decide⟩, rfl⟩)
theorem tn46 : ∀ r', TnR ts46 (s46.map UInt8.ofNat) r' → r' = some 1 := by
  intro r' h
  cases h with
  | stop h => rw [dec46] at h; cases h
  | hit h hl hi =>
    rw [dec46] at h
    cases h
    obtain ⟨⟨t, ht, he⟩, _⟩ := hi
    rcases get46 ht with ⟨rfl, rfl⟩ | ⟨rfl, rfl⟩
    · exact absurd he (by decide)
    · rfl
  | go h hn t =>
    rw [dec46] at h
    cases h
    rcases hn with hn | hn
    · exact absurd ⟨rfl, rfl, w46 (.inr (.inr (.inr rfl)))⟩ hn
    · exact absurd rfl (hn 1 bob rfl)
theorem bob_ent {q : Ev.St} {b e c : Nat} {cs : List Ev.X} (hd : Ev.domS q q = true) (hq : q.blk b = some (e, cs)) (hcs : cs.take 10 = x46) (hc : 2 ≤ c) :
    Ev.EntOk Tryz.prog (.s F.oracle_Tenant [.g [.l (some (b, 0)) 2 c, .i .i64 24, .i .i64 64, .i .i64 200, .i .i64 5, .i .i64 3, .i .i64 10], .s s46] q (.t [.i .i64 1, .i .i64 0]) q) := by
  refine tenant_ent (ts := ts46) (n := n46) (r := some 1) hd hq ?_ ?_ ?_ ?_ hc (by decide) chk46 tn46
  · intro σ vs h
    have h2 := Ev.vls_take 10 h
    rw [hcs] at h2
    exact (Option.some.inj h2).symm
  · intro t ht
    rcases List.mem_cons.1 ht with rfl | ht
    · exact ⟨fun _ => by decide, fun _ => by decide⟩
    · rw [List.mem_singleton.1 ht]
      exact ⟨fun _ => by decide, fun _ => by decide⟩
  · exact fun _ => by decide
  · intro t ht
    rcases List.mem_cons.1 ht with rfl | ht
    · exact ⟨by decide, by decide⟩
    · rw [List.mem_singleton.1 ht]
      exact ⟨by decide, by decide⟩
end F33
end Go.Proofs.YtbhbdleffackaaaGreatDoor
