/- The law ProjectAgrees holds: for every input it returns true and leaves each argument as it was. No condition. -/
import Derived.Test.YtbhbdleffackaaaGreatDoorRows
import Derived.Test.YtbhbdleffackaaaGreatDoorProjectAgreesJ
import Derived.WalkKit
import Derived.ProofKit
import Derived.OpenShut
import Derived.ShutString
import Derived.ChangeOld
import Derived.Below
import Derived.Carry
import Derived.DeepKeys4
import Derived.Test.YtbhbdleffackaaaGreatDoorAz
import Derived.Test.YtbhbdleffackaaaGreatDoorCards
import Derived.Test.YtbhbdleffackaaaGreatDoorTie
import Derived.LaidMore
import Derived.Lay
import Derived.SevenTiedAt
import Derived.Stop.Joined
namespace Go.Proofs.YtbhbdleffackaaaGreatDoor.projectAgrees
open Go.ChangeShapes Go.WideShapes Go.ChangeAt Go.RowKit
open Go.ChangeMaps (open_string shut_string)
set_option linter.unusedVariables false

theorem laidOut : laidOutB Tryz.prog = true := by kernel_rfl
theorem own : ownKnob Tryz.prog.godebug = none := by kernel_rfl
theorem walk (a0 : Option Addr) (xs0 : List P46.En) (c0 : Nat) (b0 : Option Addr) (ys0 : List P46.An) (d0 : Nat) (a1 : Option Addr) (xs1 : List P46.En) (c1 : Nat) (b1 : Option Addr) (ys1 : List P46.An) (d1 : Nat) (m2 : P46.An) (w : World) (w0 : (O46.EnIn [Vc.whole w] a0 xs0 ∧ xs0.length ≤ c0) ∧ O46.AnIn [Vc.whole w] b0 ys0 ∧ ys0.length ≤ d0) (w1 : (O46.EnIn [Vc.whole w] a1 xs1 ∧ xs1.length ≤ c1) ∧ O46.AnIn [Vc.whole w] b1 ys1 ∧ ys1.length ≤ d1) (w2 : True) :
    Calls Tryz.prog 3 #[.agg (O46.cellsV a0 xs0.length c0 b0 ys0.length d0).toArray, .agg (O46.cellsV a1 xs1.length c1 b1 ys1.length d1).toArray, .agg (P46.cellsAn m2).toArray] w fun e w' => e = .returned (.bool true) ∧ Below w.heap.size w w' :=
  Go.Vc.calls_of_law fun K k => A46.ProjectAgrees_spec (Go.Vc.holds_whole w) a0 xs0 c0 b0 ys0 d0 a1 xs1 c1 b1 ys1 d1 m2 w0 w1 w2 k

set_option maxRecDepth 100000 in
theorem lifted (os : Os) (started : os.Started) (H : Type) (enc : TypeId × Value → H) :
    ReturnsInHanded {} Tryz.checked os 3 .any (fun w args => (Rows.projectAgreesSpec.pre enc Tryz.prog Tryz.f3 Rows.projectAgreesRow.domain false w args ∧ laidMetH Tryz.prog Rows.projectAgreesRow.laid w) ∧ sizedMet enc Tryz.prog Tryz.f3 (OpenSpec.ofChange Rows.projectAgreesSpec) false w args) (Rows.projectAgreesSpec.post enc Tryz.prog Tryz.f3 false true false false) := by
  refine returnsInHanded_of_change_and (C := Tryz.checked) (X := fun w _ => laidMetH Tryz.prog Rows.projectAgreesRow.laid w) (fun _ _ _ hh h => h.of_heap hh) own started (by kernel_rfl) Tryz.func3
    (ChangeSpec.witness_shaped (enc := enc) (C := Tryz.checked) (os := os) (X := fun w _ => laidMetH Tryz.prog Rows.projectAgreesRow.laid w) false (World.laidAll Tryz.prog os Rows.projectAgreesRow.laid) #[.agg (O46.cellsV none 0 0 none 0 0).toArray, .agg (O46.cellsV none 0 0 none 0 0).toArray, .agg (P46.cellsAn ⟨0, 0, ByteArray.empty, 0⟩).toArray] 8 (World.laidAll_os _ _ _)
      (World.shaped_of_ZipB (by kernel_rfl) (by kernel_rfl)) (by kernel_rfl) (by kernel_rfl) (by kernel_rfl)
      (by rw [MakeChecks.laidMetH_plain _ _ _ (by kernel_rfl)]; exact laidMet_laidAll _ (by kernel_rfl) (by kernel_rfl))) ?_
  intro W base args ds gs before hval0 hW hcnd _ hL _
  have hval : ∀ (j : Nat) t v, Tryz.f3.params[j]? = some t → args[j]? = some v → Value.okWide Tryz.prog W .any base t v := hval0
  have hW' := hW
  obtain ⟨p, q, hA0, hV, rfl, hfz, hnd⟩ := hW
  have hA : DataW.TrodAll enc Tryz.prog W 0 (fun _ => true) true Tryz.f3.params.toList args.toList ds p := hA0
  rw [Tryz.params3] at hA hval
  obtain ⟨v0, vs0, d0, ds0, p0, q0, hargs, rfl, rfl, h0, r0⟩ := trodAll_cons hA
  obtain ⟨v1, vs1, d1, ds1, p1, q1, rfl, rfl, rfl, h1, r1⟩ := trodAll_cons r0
  obtain ⟨v2, vs2, d2, ds2, p2, q2, rfl, rfl, rfl, h2, r2⟩ := trodAll_cons r1
  obtain ⟨rfl, rfl, rfl⟩ := trodAll_nil r2
  obtain rfl : args = #[v0, v1, v2] := by cases args; simp_all
  obtain ⟨rfl, rfl⟩ := trodVars_none hV
  obtain ⟨a0, xs0, c0, b0, ys0, d0, rfl, w0⟩ := O46.view_open (hval 0 25 v0 rfl rfl) h0
  obtain ⟨a1, xs1, c1, b1, ys1, d1, rfl, w1⟩ := O46.view_open (hval 1 25 v1 rfl rfl) h1
  obtain ⟨m2, rfl, w2⟩ := O46.ans_open2 (hval 2 28 v2 rfl rfl) h2
  clear hA0 hval0
  refine (walk a0 xs0 c0 b0 ys0 d0 a1 xs1 c1 b1 ys1 d1 m2 W w0 w1 w2).mono fun e W' ⟨he, bel⟩ => ?_
  subst he
  exact ⟨_, rfl, _, _, _, [], _, [], hW', trodAll_mk1 (shut_bool Tryz.underlying4 _), (trodAll_cons_mk (Below.trod laidOut (by kernel_rfl) (of_decide_eq_true (by kernel_rfl)) h0 bel (fun x hx => hW'.lt x (by simp [hx]))) (trodAll_cons_mk (Below.trod laidOut (by kernel_rfl) (of_decide_eq_true (by kernel_rfl)) h1 bel (fun x hx => hW'.lt x (by simp [hx]))) (trodAll_cons_mk (Below.trod laidOut (by kernel_rfl) (of_decide_eq_true (by kernel_rfl)) h2 bel (fun x hx => hW'.lt x (by simp [hx]))) trodAll_mk0))), rfl, bel.frame _, fun h => by cases h⟩

theorem over : Rows.projectAgreesRow.holds Tryz.pinned (OpenSpec.ofChange Rows.projectAgreesSpec) :=
  OpenClaim.holds_of_wide 3 Tryz.f3 rfl rfl rfl rfl rfl rfl rfl ⟨rfl, rfl, rfl, rfl, rfl⟩ rfl rfl rfl rfl rfl projectAgreesJ.fnamed Tryz.func3 projectAgreesJ.joined
    (of_decide_eq_true (by kernel_rfl)) (by unfold Func.isWrapper; first | (rw [if_pos (by decide +kernel)]; kernel_rfl) | (rw [if_neg (by decide +kernel)]; exact ⟨rfl, rfl⟩))
    (fun os started H enc _ => lifted os started H enc)

theorem proved : Rows.ProjectAgreesCardSaid :=
  Claim7.holds_tied_plain_at .later [] [.data, .pinned] true (true, "8f0e172a2b8561c251006984da6d9bd6857cd681c70e59eaf8642d2679c04c32") true over (fun _ h => by cases h) (by as_aux_lemma => kernel_rfl) (fun _ h => by cases h) projectAgrees_row_tie rfl ⟨rfl, rfl⟩ (by as_aux_lemma => kernel_rfl) rfl
    (fun f fn hf hfn => by
      obtain rfl : f = 3 := Option.some.inj ((show Tryz.prog.funcNamed Rows.projectAgreesRow.func = some 3 from projectAgreesJ.fnamed).symm.trans hf) |>.symm
      obtain rfl : fn = Tryz.f3 := (Option.some.inj (Tryz.func3.symm.trans hfn)).symm
      exact ⟨by kernel_rfl, fun j t ht => by
        rw [Tryz.params3] at ht
        have hm : t ∈ [25, 25, 28] := by simpa using Array.mem_of_getElem? ht
        have hall : ([25, 25, 28].all fun u => !Tryz.prog.wantsStandIn u) = true := by kernel_rfl
        exact (show Tryz.prog.wantsStandIn t = false by simpa using List.all_eq_true.1 hall t hm)⟩)
    projectAgreesJ.goes
#print axioms proved
end Go.Proofs.YtbhbdleffackaaaGreatDoor.projectAgrees
