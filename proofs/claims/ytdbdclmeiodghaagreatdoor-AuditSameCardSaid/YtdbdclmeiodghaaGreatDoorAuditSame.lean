/- The law AuditSame holds: for every input it returns true and leaves each argument as it was. No condition. -/
import Derived.Test.YtdbdclmeiodghaaGreatDoorRows
import Derived.Test.YtdbdclmeiodghaaGreatDoorAuditSameJ
import Derived.WalkKit
import Derived.ProofKit
import Derived.OpenShut
import Derived.ShutString
import Derived.ChangeOld
import Derived.Below
import Derived.Carry
import Derived.DeepKeys4
import Derived.Test.YtdbdclmeiodghaaGreatDoorX44
import Derived.Test.YtdbdclmeiodghaaGreatDoorCards
import Derived.Test.YtdbdclmeiodghaaGreatDoorTie
import Derived.LaidMore
import Derived.Lay
import Derived.SevenTiedAt
import Derived.Stop.Joined
namespace Go.Proofs.YtdbdclmeiodghaaGreatDoor.auditSame
open Go.ChangeShapes Go.WideShapes Go.ChangeAt Go.RowKit
open Go.ChangeMaps (open_string shut_string)
set_option linter.unusedVariables false

theorem laidOut : laidOutB Tryz.prog = true := by kernel_rfl
theorem own : ownKnob Tryz.prog.godebug = none := by kernel_rfl
theorem walk (a0 : Option Addr) (xs0 : List Int) (c0 : Nat) (z0 : X44.Rp) (a1 : Option Addr) (xs1 : List Int) (c1 : Nat) (z1 : X44.Rp) (w : World) (w0 : X44.RowIn [Vc.whole w] a0 xs0) (w1 : X44.RowIn [Vc.whole w] a1 xs1) :
    Calls Tryz.prog 4 #[.agg (X44.cellsR z0 a0 xs0.length c0).toArray, .agg (X44.cellsR z1 a1 xs1.length c1).toArray] w fun e w' => e = .returned (.bool true) ∧ Below w.heap.size w w' :=
  Go.Vc.calls_of_law fun K k => X44.AuditSame_law (Go.Vc.holds_whole w) a0 xs0 c0 z0 a1 xs1 c1 z1 w0 w1 k

set_option maxRecDepth 100000 in
theorem lifted (os : Os) (started : os.Started) (H : Type) (enc : TypeId × Value → H) :
    ReturnsInHanded {} Tryz.checked os 4 .any (fun w args => (Rows.auditSameSpec.pre enc Tryz.prog Tryz.f4 Rows.auditSameRow.domain false w args ∧ laidMetH Tryz.prog Rows.auditSameRow.laid w) ∧ sizedMet enc Tryz.prog Tryz.f4 (OpenSpec.ofChange Rows.auditSameSpec) false w args) (Rows.auditSameSpec.post enc Tryz.prog Tryz.f4 false true false false) := by
  refine returnsInHanded_of_change_and (C := Tryz.checked) (X := fun w _ => laidMetH Tryz.prog Rows.auditSameRow.laid w) (fun _ _ _ hh h => h.of_heap hh) own started (by kernel_rfl) Tryz.func4
    (ChangeSpec.witness_shaped (enc := enc) (C := Tryz.checked) (os := os) (X := fun w _ => laidMetH Tryz.prog Rows.auditSameRow.laid w) false (World.laidAll Tryz.prog os Rows.auditSameRow.laid) #[.agg (X44.cellsR ⟨0, 0, 0, 0, 0, 0, 0⟩ none 0 0).toArray, .agg (X44.cellsR ⟨0, 0, 0, 0, 0, 0, 0⟩ none 0 0).toArray] 8 (World.laidAll_os _ _ _)
      (World.shaped_of_ZipB (by kernel_rfl) (by kernel_rfl)) (by kernel_rfl) (by kernel_rfl) (by kernel_rfl)
      (by rw [MakeChecks.laidMetH_plain _ _ _ (by kernel_rfl)]; exact laidMet_laidAll _ (by kernel_rfl) (by kernel_rfl))) ?_
  intro W base args ds gs before hval0 hW hcnd _ hL _
  have hval : ∀ (j : Nat) t v, Tryz.f4.params[j]? = some t → args[j]? = some v → Value.okWide Tryz.prog W .any base t v := hval0
  have hW' := hW
  obtain ⟨p, q, hA0, hV, rfl, hfz, hnd⟩ := hW
  have hA : DataW.TrodAll enc Tryz.prog W 0 (fun _ => true) true Tryz.f4.params.toList args.toList ds p := hA0
  rw [Tryz.params4] at hA hval
  obtain ⟨v0, vs0, d0, ds0, p0, q0, hargs, rfl, rfl, h0, r0⟩ := trodAll_cons hA
  obtain ⟨v1, vs1, d1, ds1, p1, q1, rfl, rfl, rfl, h1, r1⟩ := trodAll_cons r0
  obtain ⟨rfl, rfl, rfl⟩ := trodAll_nil r1
  obtain rfl : args = #[v0, v1] := by cases args; simp_all
  obtain ⟨rfl, rfl⟩ := trodVars_none hV
  obtain ⟨a0, xs0, c0, z0, rfl, w0⟩ := X44.report_open (hval 0 34 v0 rfl rfl) h0
  obtain ⟨a1, xs1, c1, z1, rfl, w1⟩ := X44.report_open (hval 1 34 v1 rfl rfl) h1
  clear hA0 hval0
  refine (walk a0 xs0 c0 z0 a1 xs1 c1 z1 W w0 w1).mono fun e W' ⟨he, bel⟩ => ?_
  subst he
  exact ⟨_, rfl, _, _, _, [], _, [], hW', trodAll_mk1 (shut_bool Tryz.underlying4 _), (trodAll_cons_mk (Below.trod laidOut (by kernel_rfl) (of_decide_eq_true (by kernel_rfl)) h0 bel (fun x hx => hW'.lt x (by simp [hx]))) (trodAll_cons_mk (Below.trod laidOut (by kernel_rfl) (of_decide_eq_true (by kernel_rfl)) h1 bel (fun x hx => hW'.lt x (by simp [hx]))) trodAll_mk0)), rfl, bel.frame _, fun h => by cases h⟩

theorem over : Rows.auditSameRow.holds Tryz.pinned (OpenSpec.ofChange Rows.auditSameSpec) :=
  OpenClaim.holds_of_wide 4 Tryz.f4 rfl rfl rfl rfl rfl rfl rfl ⟨rfl, rfl, rfl, rfl, rfl⟩ rfl rfl rfl rfl rfl auditSameJ.fnamed Tryz.func4 auditSameJ.joined
    (of_decide_eq_true (by kernel_rfl)) (by unfold Func.isWrapper; first | (rw [if_pos (by decide +kernel)]; kernel_rfl) | (rw [if_neg (by decide +kernel)]; exact ⟨rfl, rfl⟩))
    (fun os started H enc _ => lifted os started H enc)

set_option maxRecDepth 100000 in
theorem proved : Rows.AuditSameCardSaid :=
  Claim7.holds_tied_plain_at .later [] [.data, .pinned] true (true, "10ccd6896ae0089dac73c09724a9326af0e19aa9c562074945c771b14bd2eb1c") true over (fun _ h => by cases h) (by as_aux_lemma => kernel_rfl) (fun _ h => by cases h) auditSame_row_tie rfl ⟨rfl, rfl⟩ (by as_aux_lemma => kernel_rfl) rfl
    (fun f fn hf hfn => by
      obtain rfl : f = 4 := Option.some.inj ((show Tryz.prog.funcNamed Rows.auditSameRow.func = some 4 from auditSameJ.fnamed).symm.trans hf) |>.symm
      obtain rfl : fn = Tryz.f4 := (Option.some.inj (Tryz.func4.symm.trans hfn)).symm
      exact ⟨by kernel_rfl, fun j t ht => by
        rw [Tryz.params4] at ht
        have hm : t ∈ [34, 34] := by simpa using Array.mem_of_getElem? ht
        have hall : ([34, 34].all fun u => !Tryz.prog.wantsStandIn u) = true := by kernel_rfl
        exact (show Tryz.prog.wantsStandIn t = false by simpa using List.all_eq_true.1 hall t hm)⟩)
    auditSameJ.goes
#print axioms proved
end Go.Proofs.YtdbdclmeiodghaaGreatDoor.auditSame
