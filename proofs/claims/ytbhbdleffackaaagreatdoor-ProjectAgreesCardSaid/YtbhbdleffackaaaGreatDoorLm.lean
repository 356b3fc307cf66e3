/- Loops whose measure is told by what holds. -/
import Derived.Test.YtbhbdleffackaaaGreatDoorSt
set_option linter.unusedVariables false
namespace Go.Vc
theorem least_nat {p : Nat → Prop} (h : ∃ n, p n) : ∃ n, p n ∧ ∀ m, p m → n ≤ m := by
  obtain ⟨n, hn⟩ := h
  induction n using Nat.strongRecOn with
  | _ n ih =>
    by_cases hm : ∃ m, m < n ∧ p m
    · obtain ⟨m, h1, h2⟩ := hm
      exact ih m h1 h2
    · exact ⟨n, hn, fun m h2 => Nat.le_of_not_lt fun h1 => hm ⟨m, h1, h2⟩⟩
open Classical in
theorem r_loopL {w : World} {a : Value} {body : (Nat → Value) → Cur 1 → Cur 1} (I : Nat → Value → World → Prop) (n0 : Nat) (h0 : I n0 a w)
    (h : ∀ jb n x w (k : Cur 1), I n x w → (∀ m x' w', m < n → I m x' w' → k x' w') → body jb k x w) : VLoop 1 [a] w body := by
  refine r_loop1 (fun x w' => ∃ n, I n x w') (fun x w' => if h : ∃ n, I n x w' then Classical.choose (least_nat h) else 0) ⟨n0, h0⟩ ?_
  intro jb x w1 hx
  have e1 := Classical.choose_spec (least_nat hx)
  refine h jb _ x w1 _ e1.1 fun m x' w' hm hI => ⟨⟨m, hI⟩, ?_⟩
  have hx' : ∃ n, I n x' w' := ⟨m, hI⟩
  have e2 := Classical.choose_spec (least_nat hx')
  show dite _ _ _ < dite _ _ _
  rw [dif_pos hx, dif_pos hx']
  exact Nat.lt_of_le_of_lt (e2.2 m hI) hm
end Go.Vc
