/- The law ScriptTexts holds: for every input it returns true and leaves each argument as it was. No condition. -/
import Derived.Test.YtcnjipikapiplaaGreatDoorRows
import Derived.Test.YtcnjipikapiplaaGreatDoorScriptTextsJ
import Derived.WalkKit
import Derived.ProofKit
import Derived.OpenShut
import Derived.ShutString
import Derived.ChangeOld
import Derived.Below
import Derived.Carry
import Derived.DeepKeys4
import Derived.Test.YtcnjipikapiplaaGreatDoorTz
import Derived.Test.YtcnjipikapiplaaGreatDoorCards
import Derived.Test.YtcnjipikapiplaaGreatDoorTie
import Derived.LaidMore
import Derived.Lay
import Derived.SevenTiedAt
import Derived.Stop.Joined
namespace Go.Proofs.YtcnjipikapiplaaGreatDoor.scriptTexts
open Go.ChangeShapes Go.WideShapes Go.ChangeAt Go.RowKit
open Go.ChangeMaps (open_string shut_string)
set_option linter.unusedVariables false

theorem laidOut : laidOutB Tryz.prog = true := by kernel_rfl
theorem own : ownKnob Tryz.prog.godebug = none := by kernel_rfl
theorem walk (a0 : Option Addr) (ts0 : List J32.Tn) (c0 : Nat) (n0 : J32.Cn) (b0 : Option Addr) (xs0 : List ByteArray) (d0 : Nat) (e0 : Option Addr) (es0 : List J34.Et) (f0 : Nat) (a1 : Option Addr) (ts1 : List J32.Tn) (c1 : Nat) (n1 : J32.Cn) (b1 : Option Addr) (xs1 : List ByteArray) (d1 : Nat) (e1 : Option Addr) (es1 : List J34.Et) (f1 : Nat) (w : World) (w0 : (J32.TsIn [Vc.whole w] a0 ts0 ∧ ts0.length ≤ c0) ∧ (J34.StIn [Vc.whole w] b0 xs0 ∧ xs0.length ≤ d0) ∧ J34.EtIn [Vc.whole w] e0 es0 ∧ es0.length ≤ f0) (w1 : (J32.TsIn [Vc.whole w] a1 ts1 ∧ ts1.length ≤ c1) ∧ (J34.StIn [Vc.whole w] b1 xs1 ∧ xs1.length ≤ d1) ∧ J34.EtIn [Vc.whole w] e1 es1 ∧ es1.length ≤ f1) (hl : laidMetH Tryz.prog Rows.scriptTextsRow.laid w) (hsh : w.ShapedOpen Tryz.prog) :
    Calls Tryz.prog 3 #[.agg (J34.cellsS a0 ts0.length c0 n0 b0 xs0.length d0 e0 es0.length f0).toArray, .agg (J34.cellsS a1 ts1.length c1 n1 b1 xs1.length d1 e1 es1.length f1).toArray] w fun e w' => e = .returned (.bool true) ∧ Below w.heap.size w w' :=
  Go.Vc.calls_of_law fun K k => L42.ScriptTexts_spec (Go.Vc.holds_whole w) a0 ts0 c0 n0 b0 xs0 d0 e0 es0 f0 a1 ts1 c1 n1 b1 xs1 d1 e1 es1 f1 w0 w1 ⟨L42.tab_laidS hl, L42.maxIn_whole hsh⟩ k

set_option maxRecDepth 100000 in
theorem lifted (os : Os) (started : os.Started) (H : Type) (enc : TypeId × Value → H) :
    ReturnsInHanded {} Tryz.checked os 3 .any (fun w args => (Rows.scriptTextsSpec.pre enc Tryz.prog Tryz.f3 Rows.scriptTextsRow.domain false w args ∧ laidMetH Tryz.prog Rows.scriptTextsRow.laid w) ∧ sizedMet enc Tryz.prog Tryz.f3 (OpenSpec.ofChange Rows.scriptTextsSpec) false w args) (Rows.scriptTextsSpec.post enc Tryz.prog Tryz.f3 false true false false) := by
  refine L42.handed_shaped (C := Tryz.checked) (X := fun w _ => laidMetH Tryz.prog Rows.scriptTextsRow.laid w) (fun _ _ _ hh h => h.of_heap hh) own started (by kernel_rfl) Tryz.func3
    (ChangeSpec.witness_shaped (enc := enc) (C := Tryz.checked) (os := os) (X := fun w _ => laidMetH Tryz.prog Rows.scriptTextsRow.laid w) false (World.laidAll Tryz.prog os Rows.scriptTextsRow.laid) #[.agg (J34.cellsS none 0 0 ⟨0, 0, 0, 0, 0, 0⟩ none 0 0 none 0 0).toArray, .agg (J34.cellsS none 0 0 ⟨0, 0, 0, 0, 0, 0⟩ none 0 0 none 0 0).toArray] 8 (World.laidAll_os _ _ _)
      (World.shaped_of_ZipB (by kernel_rfl) (by kernel_rfl)) (by kernel_rfl) (by kernel_rfl) (by kernel_rfl)
      (by rw [MakeChecks.laidMetH_plain _ _ _ (by kernel_rfl)]; exact laidMet_laidAll _ (by kernel_rfl) (by kernel_rfl))) ?_
  intro W base args ds gs before hval0 hW hcnd hsh hL _
  have hval : ∀ (j : Nat) t v, Tryz.f3.params[j]? = some t → args[j]? = some v → Value.okWide Tryz.prog W .any base t v := hval0
  have hW' := hW
  obtain ⟨p, q, hA0, hV, rfl, hfz, hnd⟩ := hW
  have hA : DataW.TrodAll enc Tryz.prog W 0 (fun _ => true) true Tryz.f3.params.toList args.toList ds p := hA0
  rw [Tryz.params3] at hA hval
  obtain ⟨v0, vs0, d0, ds0, p0, q0, hargs, rfl, rfl, h0, r0⟩ := trodAll_cons hA
  obtain ⟨v1, vs1, d1, ds1, p1, q1, rfl, rfl, rfl, h1, r1⟩ := trodAll_cons r0
  obtain ⟨rfl, rfl, rfl⟩ := trodAll_nil r1
  obtain rfl : args = #[v0, v1] := by cases args; simp_all
  obtain ⟨rfl, rfl⟩ := trodVars_none hV
  obtain ⟨a0, ts0, c0, n0, b0, xs0, d0, e0, es0, f0, rfl, w0⟩ := J34.script_open (hval 0 28 v0 rfl rfl) h0
  obtain ⟨a1, ts1, c1, n1, b1, xs1, d1, e1, es1, f1, rfl, w1⟩ := J34.script_open (hval 1 28 v1 rfl rfl) h1
  clear hA0 hval0
  refine (walk a0 ts0 c0 n0 b0 xs0 d0 e0 es0 f0 a1 ts1 c1 n1 b1 xs1 d1 e1 es1 f1 W w0 w1 hL hsh).mono fun e W' ⟨he, bel⟩ => ?_
  subst he
  exact ⟨_, rfl, _, _, _, [], _, [], hW', trodAll_mk1 (shut_bool Tryz.underlying4 _), (trodAll_cons_mk (Below.trod laidOut (by kernel_rfl) (of_decide_eq_true (by kernel_rfl)) h0 bel (fun x hx => hW'.lt x (by simp [hx]))) (trodAll_cons_mk (Below.trod laidOut (by kernel_rfl) (of_decide_eq_true (by kernel_rfl)) h1 bel (fun x hx => hW'.lt x (by simp [hx]))) trodAll_mk0)), rfl, bel.frame _, fun h => by cases h⟩

theorem over : Rows.scriptTextsRow.holds Tryz.pinned (OpenSpec.ofChange Rows.scriptTextsSpec) :=
  OpenClaim.holds_of_wide 3 Tryz.f3 rfl rfl rfl rfl rfl rfl rfl ⟨rfl, rfl, rfl, rfl, rfl⟩ rfl rfl rfl rfl rfl scriptTextsJ.fnamed Tryz.func3 scriptTextsJ.joined
    (of_decide_eq_true (by kernel_rfl)) (by unfold Func.isWrapper; first | (rw [if_pos (by decide +kernel)]; kernel_rfl) | (rw [if_neg (by decide +kernel)]; exact ⟨rfl, rfl⟩))
    (fun os started H enc _ => lifted os started H enc)

theorem proved : Rows.ScriptTextsCardSaid :=
  Claim7.holds_tied_plain_at .later [] [.data, .pinned] true (true, "fc5a7e71b448f6154d914480addb9a73eb8cef3c0f4d18458766bdf3d30f9663") true over (fun _ h => by cases h) (by as_aux_lemma => kernel_rfl) (fun _ h => by cases h) scriptTexts_row_tie rfl ⟨rfl, rfl⟩ (by as_aux_lemma => kernel_rfl) rfl
    (fun f fn hf hfn => by
      obtain rfl : f = 3 := Option.some.inj ((show Tryz.prog.funcNamed Rows.scriptTextsRow.func = some 3 from scriptTextsJ.fnamed).symm.trans hf) |>.symm
      obtain rfl : fn = Tryz.f3 := (Option.some.inj (Tryz.func3.symm.trans hfn)).symm
      exact ⟨by kernel_rfl, fun j t ht => by
        rw [Tryz.params3] at ht
        have hm : t ∈ [28, 28] := by simpa using Array.mem_of_getElem? ht
        have hall : ([28, 28].all fun u => !Tryz.prog.wantsStandIn u) = true := by kernel_rfl
        exact (show Tryz.prog.wantsStandIn t = false by simpa using List.all_eq_true.1 hall t hm)⟩)
    scriptTextsJ.goes
#print axioms proved
end Go.Proofs.YtcnjipikapiplaaGreatDoor.scriptTexts
