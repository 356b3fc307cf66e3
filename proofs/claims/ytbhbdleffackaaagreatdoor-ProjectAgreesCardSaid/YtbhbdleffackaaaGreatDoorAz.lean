/- Chapter 46: ProjectAgrees: both sides and bob. -/
import Derived.Test.YtbhbdleffackaaaGreatDoorAh
import Derived.Test.YtbhbdleffackaaaGreatDoorT46Z
set_option linter.unusedVariables false
namespace Go.Proofs.YtbhbdleffackaaaGreatDoor
open Go Go.Vc
namespace A46
open P46 O46
theorem bob_spec {w : World} {L : List HProp} {K : Value → World → Prop} (H : Holds w L) (post : ∀ w', Same w w' → Holds w' L → K (.bool true) w') : Cl Tryz.prog F.balerlaw46_bob #[] w K :=
  Ev.cl_trueF T46.mixed T46.known_ok T46.test_true H post
theorem ProjectAgrees_spec {w : World} {L : List HProp} {K : Value → World → Prop}
    (H : Holds w L) (a0 : Option Addr) (xs : List En) (c0 : Nat) (b0 : Option Addr) (rs : List An) (d0 : Nat) (a1 : Option Addr) (ys : List En) (c1 : Nat) (b1 : Option Addr) (ts : List An) (d1 : Nat) (m : An)
    (hv : (EnIn L a0 xs ∧ xs.length ≤ c0) ∧ AnIn L b0 rs ∧ rs.length ≤ d0) (hv2 : (EnIn L a1 ys ∧ ys.length ≤ c1) ∧ AnIn L b1 ts ∧ ts.length ≤ d1) (hm : True)
    (post : ∀ w', Same w w' → Holds w' L → K (.bool true) w') :
    Cl Tryz.prog F.balerlaw46_ProjectAgrees #[.agg (cellsV a0 xs.length c0 b0 rs.length d0).toArray, .agg (cellsV a1 ys.length c1 b1 ts.length d1).toArray, .agg (cellsAn m).toArray] w K :=
  Agrees_of (fun H k => bob_spec H k) H a0 xs c0 b0 rs d0 a1 ys c1 b1 ts d1 m hv hv2 hm post
end A46
end Go.Proofs.YtbhbdleffackaaaGreatDoor
