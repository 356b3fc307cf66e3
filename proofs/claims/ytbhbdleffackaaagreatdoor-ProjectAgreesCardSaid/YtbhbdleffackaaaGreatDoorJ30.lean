/- Chapter 31: the library's decoding of a rune, by the shelf's contract. -/
import Derived.Test.YtbhbdleffackaaaGreatDoorM3x
import Derived.Test.YtbhbdleffackaaaGreatDoorSt
import Derived.Test.YtbhbdleffackaaaGreatDoorFm
import Derived.Test.YtbhbdleffackaaaGreatDoorSh
import Derived.Shelf.Unicode.DecodeAny
set_option linter.unusedVariables false
set_option linter.unusedSimpArgs false
namespace Go.Proofs.YtbhbdleffackaaaGreatDoor
open Go Go.Vc
namespace J30
variable {w : World} {L : List HProp} {K : Value → World → Prop}
/-- What is read of the library's two tables. -/
def TabIn (L : List HProp) : Prop := ∀ w', Holds w' L → Lib.Utf8Tabs 0 1 w'
theorem TabIn.up {Q : HProp} (h : TabIn L) : TabIn (Q :: L) := fun w' H => h w' H.drop
theorem holds_below {w w' : World} (h : RowKit.Below w.heap.size w w') (H : Holds w L) : Holds w' L := by
  refine Sat.mono H fun c o hc => ?_
  show w'.heap[c]? = some o
  have hc' : w.heap[c]? = some o := hc
  rw [h.block c (Array.getElem?_eq_some_iff.1 hc').1, hc']
theorem decode_spec {s : ByteArray} (H : Holds w L) (hT : TabIn L) (h0 : 0 < s.size) (post : ∀ w', Same w w' → Holds w' L → K (.tuple #[.int .i32 ((Utf8.decode s 0).1 : Int), nv (Utf8.decode s 0).2]) w') :
    Cl Tryz.prog F.unicode_utf8_DecodeRuneInString #[.string s] w K := by
  have c := Any.utf8_DecodeRuneInString Tryz.lays197 s w (hT w H)
  refine ⟨Tryz.call196 _ _, c.mono fun e w' ⟨he, hb⟩ => ⟨_, he, ?_⟩⟩
  have hd : Lib.decodeGo s = Utf8.decode s 0 := by unfold Lib.decodeGo; rw [if_neg (by omega)]
  rw [hd]
  exact post w' ⟨hb.os, hb.tape, hb.output, hb.size⟩ (holds_below hb H)
end J30
end Go.Proofs.YtbhbdleffackaaaGreatDoor
