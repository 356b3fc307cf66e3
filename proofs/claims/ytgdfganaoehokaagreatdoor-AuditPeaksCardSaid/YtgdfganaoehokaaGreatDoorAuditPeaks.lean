/- The law AuditPeaks holds: for every input it returns true and leaves each argument as it was. No condition. -/
import Derived.Test.YtgdfganaoehokaaGreatDoorRows
import Derived.Test.YtgdfganaoehokaaGreatDoorAuditPeaksJ
import Derived.WalkKit
import Derived.ProofKit
import Derived.OpenShut
import Derived.ShutString
import Derived.ChangeOld
import Derived.Below
import Derived.Carry
import Derived.DeepKeys4
import Derived.Test.YtgdfganaoehokaaGreatDoorMG4
import Derived.Test.YtgdfganaoehokaaGreatDoorCards
import Derived.Test.YtgdfganaoehokaaGreatDoorTie
import Derived.LaidMore
import Derived.Lay
import Derived.SevenTiedAt
import Derived.Stop.Joined
namespace Go.Proofs.YtgdfganaoehokaaGreatDoor.auditPeaks
open Go.ChangeShapes Go.WideShapes Go.ChangeAt Go.RowKit
open Go.ChangeMaps (open_string shut_string)
set_option linter.unusedVariables false

theorem laidOut : laidOutB Tryz.prog = true := by kernel_rfl
theorem own : ownKnob Tryz.prog.godebug = none := by kernel_rfl
theorem walk (a0 : Option Addr) (ts0 : List J32.Tn) (c0 : Nat) (n0 : J32.Cn) (b0 : Option Addr) (xs0 : List ByteArray) (d0 : Nat) (e0 : Option Addr) (es0 : List J34.Et) (f0 : Nat) (w : World) (w0 : (J32.TsIn [Vc.whole w] a0 ts0 ∧ ts0.length ≤ c0) ∧ (J34.StIn [Vc.whole w] b0 xs0 ∧ xs0.length ≤ d0) ∧ J34.EtIn [Vc.whole w] e0 es0 ∧ es0.length ≤ f0) (hl : laidMetH Tryz.prog Rows.auditPeaksRow.laid w) :
    Calls Tryz.prog 3 #[.agg (J34.cellsS a0 ts0.length c0 n0 b0 xs0.length d0 e0 es0.length f0).toArray] w fun e w' => e = .returned (.bool true) ∧ Below w.heap.size w w' :=
  Go.Vc.calls_of_law fun K k => F33.AuditPeaks_spec (Go.Vc.holds_whole w) a0 ts0 c0 n0 b0 xs0 d0 e0 es0 f0 w0 (F33.tab_laidP hl) k

set_option maxRecDepth 100000 in
theorem lifted (os : Os) (started : os.Started) (H : Type) (enc : TypeId × Value → H) :
    ReturnsInHanded {} Tryz.checked os 3 .any (fun w args => (Rows.auditPeaksSpec.pre enc Tryz.prog Tryz.f3 Rows.auditPeaksRow.domain false w args ∧ laidMetH Tryz.prog Rows.auditPeaksRow.laid w) ∧ sizedMet enc Tryz.prog Tryz.f3 (OpenSpec.ofChange Rows.auditPeaksSpec) false w args) (Rows.auditPeaksSpec.post enc Tryz.prog Tryz.f3 false true false false) := by
  refine returnsInHanded_of_change_and (C := Tryz.checked) (X := fun w _ => laidMetH Tryz.prog Rows.auditPeaksRow.laid w) (fun _ _ _ hh h => h.of_heap hh) own started (by kernel_rfl) Tryz.func3
    (ChangeSpec.witness_shaped (enc := enc) (C := Tryz.checked) (os := os) (X := fun w _ => laidMetH Tryz.prog Rows.auditPeaksRow.laid w) false (World.laidAll Tryz.prog os Rows.auditPeaksRow.laid) #[.agg (J34.cellsS none 0 0 ⟨0, 0, 0, 0, 0, 0⟩ none 0 0 none 0 0).toArray] 8 (World.laidAll_os _ _ _)
      (World.shaped_of_ZipB (by kernel_rfl) (by kernel_rfl)) (by kernel_rfl) (by kernel_rfl) (by kernel_rfl)
      (by rw [MakeChecks.laidMetH_plain _ _ _ (by kernel_rfl)]; exact laidMet_laidAll _ (by kernel_rfl) (by kernel_rfl))) ?_
  intro W base args ds gs before hval0 hW hcnd _ hL _
  have hval : ∀ (j : Nat) t v, Tryz.f3.params[j]? = some t → args[j]? = some v → Value.okWide Tryz.prog W .any base t v := hval0
  have hW' := hW
  obtain ⟨p, q, hA0, hV, rfl, hfz, hnd⟩ := hW
  have hA : DataW.TrodAll enc Tryz.prog W 0 (fun _ => true) true Tryz.f3.params.toList args.toList ds p := hA0
  rw [Tryz.params3] at hA hval
  obtain ⟨v0, vs0, d0, ds0, p0, q0, hargs, rfl, rfl, h0, r0⟩ := trodAll_cons hA
  obtain ⟨rfl, rfl, rfl⟩ := trodAll_nil r0
  obtain rfl : args = #[v0] := by cases args; simp_all
  obtain ⟨rfl, rfl⟩ := trodVars_none hV
  obtain ⟨a0, ts0, c0, n0, b0, xs0, d0, e0, es0, f0, rfl, w0⟩ := J34.script_open (hval 0 28 v0 rfl rfl) h0
  clear hA0 hval0
  refine (walk a0 ts0 c0 n0 b0 xs0 d0 e0 es0 f0 W w0 hL).mono fun e W' ⟨he, bel⟩ => ?_
  subst he
  exact ⟨_, rfl, _, _, _, [], _, [], hW', trodAll_mk1 (shut_bool Tryz.underlying4 _), (trodAll_cons_mk (Below.trod laidOut (by kernel_rfl) (of_decide_eq_true (by kernel_rfl)) h0 bel (fun x hx => hW'.lt x (by simp [hx]))) trodAll_mk0), rfl, bel.frame _, fun h => by cases h⟩

theorem over : Rows.auditPeaksRow.holds Tryz.pinned (OpenSpec.ofChange Rows.auditPeaksSpec) :=
  OpenClaim.holds_of_wide 3 Tryz.f3 rfl rfl rfl rfl rfl rfl rfl ⟨rfl, rfl, rfl, rfl, rfl⟩ rfl rfl rfl rfl rfl auditPeaksJ.fnamed Tryz.func3 auditPeaksJ.joined
    (of_decide_eq_true (by kernel_rfl)) (by unfold Func.isWrapper; first | (rw [if_pos (by decide +kernel)]; kernel_rfl) | (rw [if_neg (by decide +kernel)]; exact ⟨rfl, rfl⟩))
    (fun os started H enc _ => lifted os started H enc)

theorem proved : Rows.AuditPeaksCardSaid :=
  Claim7.holds_tied_plain_at .later [] [.data, .pinned] true (true, "e3c951915c3a1dc3a6f3a1450faff83b1df1d5831e60f646e6634a6eeb82c2ef") true over (fun _ h => by cases h) (by as_aux_lemma => kernel_rfl) (fun _ h => by cases h) auditPeaks_row_tie rfl ⟨rfl, rfl⟩ (by as_aux_lemma => kernel_rfl) rfl
    (fun f fn hf hfn => by
      obtain rfl : f = 3 := Option.some.inj ((show Tryz.prog.funcNamed Rows.auditPeaksRow.func = some 3 from auditPeaksJ.fnamed).symm.trans hf) |>.symm
      obtain rfl : fn = Tryz.f3 := (Option.some.inj (Tryz.func3.symm.trans hfn)).symm
      exact ⟨by kernel_rfl, fun j t ht => by
        rw [Tryz.params3] at ht
        have hm : t ∈ [28] := by simpa using Array.mem_of_getElem? ht
        have hall : ([28].all fun u => !Tryz.prog.wantsStandIn u) = true := by kernel_rfl
        exact (show Tryz.prog.wantsStandIn t = false by simpa using List.all_eq_true.1 hall t hm)⟩)
    auditPeaksJ.goes
#print axioms proved
end Go.Proofs.YtgdfganaoehokaaGreatDoor.auditPeaks
