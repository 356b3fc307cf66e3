/- Chapter 31: what the rows' data say of the library's tables. -/
import Derived.Test.YtkjelcjffbcenaaGreatDoorJ30
import Derived.Test.YtkjelcjffbcenaaGreatDoorRows
import Derived.Lib.LaidU8T
import Derived.LaidMore
set_option linter.unusedVariables false
set_option linter.unusedSimpArgs false
namespace Go.Proofs.YtkjelcjffbcenaaGreatDoor
open Go Go.Vc
namespace J30
variable {w : World} {L : List HProp} {K : Value → World → Prop}
set_option maxRecDepth 1000000
def ren : Go.Shelf.Ren := ⟨fun x => x, fun x => if x = 5 then 5 else if x = 119 then 305 else if x = 138 then 307 else 308, fun x => if x = 3 then 1 else 2⟩
theorem tabs_keep {W w' : World} (h : Lib.Utf8Tabs 1 2 W) (H' : Holds w' [whole W]) : Lib.Utf8Tabs 1 2 w' := by
  obtain ⟨g, hg, hgs, _⟩ := H'
  have key : ∀ (a : Addr) (v : Value), W.cell? a = some v → w'.cell? a = some v := by
    intro a v h7
    unfold World.cell? at h7 ⊢
    cases hb : W.heap[a.block]? with
    | none => rw [hb] at h7; cases h7
    | some o =>
      rw [hb] at h7
      rw [show w'.heap[a.block]? = some o from hgs _ _ (hg _ _ hb)]
      exact h7
  obtain ⟨g1, g2⟩ := h
  exact ⟨fun b hb => key _ _ (g1 b hb), fun i hi => ⟨key _ _ (g2 i hi).1, key _ _ (g2 i hi).2⟩⟩
theorem laid_tabs {W : World} {l : List (String × DataW Unit)} (hl : laidMet Tryz.prog l W) (m1 : ("unicode/utf8.first", Rows.laid_unicode_utf8_first) ∈ l) (m2 : ("unicode/utf8.acceptRanges", Rows.laid_unicode_utf8_acceptRanges) ∈ l) : TabIn [whole W] := by
  have h3 := Lib.laidMet.reads hl (n := "unicode/utf8.first") (d := Rows.laid_unicode_utf8_first) m1
  have h4 := Lib.laidMet.reads hl (n := "unicode/utf8.acceptRanges") (d := Rows.laid_unicode_utf8_acceptRanges) m2
  have e3 : Rows.laid_unicode_utf8_first = Lib.firstData := by kernel_rfl
  have e4 : (Rows.laid_unicode_utf8_acceptRanges : DataW Unit) = Lib.acceptData := by kernel_rfl
  rw [e3] at h3
  rw [e4] at h4
  have g := Go.Proofs.utf8Tabs_of_readsT (P := Tryz.prog) (ρ := ren) ⟨by kernel_rfl, by kernel_rfl, by kernel_rfl, by kernel_rfl⟩ ⟨by kernel_rfl, by kernel_rfl, by kernel_rfl, by kernel_rfl, by kernel_rfl, by kernel_rfl, by kernel_rfl⟩ h3 h4
  exact fun w' H' => tabs_keep g H'
theorem tab_laid1 {W : World} (h : laidMetH Tryz.prog Rows.scriptChecksRow.laid W) : TabIn [whole W] := laid_tabs h (by simp [Rows.scriptChecksRow]) (by simp [Rows.scriptChecksRow])
end J30
end Go.Proofs.YtkjelcjffbcenaaGreatDoor
