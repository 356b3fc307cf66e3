/- The law ServerAnswers holds: for every input it returns true and leaves each argument as it was. No condition. -/
import Derived.Test.YthkaggnihbkmeaaGreatDoorRows
import Derived.Test.YthkaggnihbkmeaaGreatDoorServerAnswersJ
import Derived.WalkKit
import Derived.ProofKit
import Derived.OpenShut
import Derived.ShutString
import Derived.ChangeOld
import Derived.Below
import Derived.Carry
import Derived.DeepKeys4
import Derived.Test.YthkaggnihbkmeaaGreatDoorMG4
import Derived.Test.YthkaggnihbkmeaaGreatDoorCards
import Derived.Test.YthkaggnihbkmeaaGreatDoorTie
import Derived.LaidMore
import Derived.Lay
import Derived.SevenTiedAt
import Derived.Stop.Joined
namespace Go.Proofs.YthkaggnihbkmeaaGreatDoor.serverAnswers
open Go.ChangeShapes Go.WideShapes Go.ChangeAt Go.RowKit
open Go.ChangeMaps (open_string shut_string)
set_option linter.unusedVariables false

theorem laidOut : laidOutB Tryz.prog = true := by kernel_rfl
theorem own : ownKnob Tryz.prog.godebug = none := by kernel_rfl
theorem walk (b0 : Option Addr) (s0 : List J32.Tn) (c0 : Nat) (n0 : J32.Cn) (g1 : Option Addr) (u1 : List F33.Fi) (k1 : Nat) (w : World) (w0 : J32.TsIn [Vc.whole w] b0 s0 ∧ s0.length ≤ c0) (w1 : F33.FiIn [Vc.whole w] g1 u1 ∧ u1.length ≤ k1) (hl : laidMetH Tryz.prog Rows.serverAnswersRow.laid w) :
    Calls Tryz.prog 3 #[.agg (J32.cellsC b0 s0.length c0 n0).toArray, .slice g1 u1.length k1] w fun e w' => e = .returned (.bool true) ∧ Below w.heap.size w w' :=
  Go.Vc.calls_of_law fun K k => F33.ServerAnswers_spec (Go.Vc.holds_whole w) b0 s0 c0 n0 g1 u1 k1 w0 w1 (F33.tab_laidA hl) k

set_option maxRecDepth 100000 in
theorem lifted (os : Os) (started : os.Started) (H : Type) (enc : TypeId × Value → H) :
    ReturnsInHanded {} Tryz.checked os 3 .any (fun w args => (Rows.serverAnswersSpec.pre enc Tryz.prog Tryz.f3 Rows.serverAnswersRow.domain false w args ∧ laidMetH Tryz.prog Rows.serverAnswersRow.laid w) ∧ sizedMet enc Tryz.prog Tryz.f3 (OpenSpec.ofChange Rows.serverAnswersSpec) false w args) (Rows.serverAnswersSpec.post enc Tryz.prog Tryz.f3 false true false false) := by
  refine returnsInHanded_of_change_and (C := Tryz.checked) (X := fun w _ => laidMetH Tryz.prog Rows.serverAnswersRow.laid w) (fun _ _ _ hh h => h.of_heap hh) own started (by kernel_rfl) Tryz.func3
    (ChangeSpec.witness_shaped (enc := enc) (C := Tryz.checked) (os := os) (X := fun w _ => laidMetH Tryz.prog Rows.serverAnswersRow.laid w) false (World.laidAll Tryz.prog os Rows.serverAnswersRow.laid) #[.agg (J32.cellsC none 0 0 ⟨0, 0, 0, 0, 0, 0⟩).toArray, .slice none 0 0] 8 (World.laidAll_os _ _ _)
      (World.shaped_of_ZipB (by kernel_rfl) (by kernel_rfl)) (by kernel_rfl) (by kernel_rfl) (by kernel_rfl)
      (by rw [MakeChecks.laidMetH_plain _ _ _ (by kernel_rfl)]; exact laidMet_laidAll _ (by kernel_rfl) (by kernel_rfl))) ?_
  intro W base args ds gs before hval0 hW hcnd _ hL _
  have hval : ∀ (j : Nat) t v, Tryz.f3.params[j]? = some t → args[j]? = some v → Value.okWide Tryz.prog W .any base t v := hval0
  have hW' := hW
  obtain ⟨p, q, hA0, hV, rfl, hfz, hnd⟩ := hW
  have hA : DataW.TrodAll enc Tryz.prog W 0 (fun _ => true) true Tryz.f3.params.toList args.toList ds p := hA0
  rw [Tryz.params3] at hA hval
  obtain ⟨v0, vs0, d0, ds0, p0, q0, hargs, rfl, rfl, h0, r0⟩ := trodAll_cons hA
  obtain ⟨v1, vs1, d1, ds1, p1, q1, rfl, rfl, rfl, h1, r1⟩ := trodAll_cons r0
  obtain ⟨rfl, rfl, rfl⟩ := trodAll_nil r1
  obtain rfl : args = #[v0, v1] := by cases args; simp_all
  obtain ⟨rfl, rfl⟩ := trodVars_none hV
  obtain ⟨b0, s0, c0, n0, rfl, w0⟩ := J34.config_open (hval 0 24 v0 rfl rfl) h0
  obtain ⟨g1, u1, k1, rfl, w1⟩ := F33.frames_open (hval 1 25 v1 rfl rfl) h1
  clear hA0 hval0
  refine (walk b0 s0 c0 n0 g1 u1 k1 W w0 w1 hL).mono fun e W' ⟨he, bel⟩ => ?_
  subst he
  exact ⟨_, rfl, _, _, _, [], _, [], hW', trodAll_mk1 (shut_bool Tryz.underlying4 _), (trodAll_cons_mk (Below.trod laidOut (by kernel_rfl) (of_decide_eq_true (by kernel_rfl)) h0 bel (fun x hx => hW'.lt x (by simp [hx]))) (trodAll_cons_mk (Below.trod laidOut (by kernel_rfl) (of_decide_eq_true (by kernel_rfl)) h1 bel (fun x hx => hW'.lt x (by simp [hx]))) trodAll_mk0)), rfl, bel.frame _, fun h => by cases h⟩

theorem over : Rows.serverAnswersRow.holds Tryz.pinned (OpenSpec.ofChange Rows.serverAnswersSpec) :=
  OpenClaim.holds_of_wide 3 Tryz.f3 rfl rfl rfl rfl rfl rfl rfl ⟨rfl, rfl, rfl, rfl, rfl⟩ rfl rfl rfl rfl rfl serverAnswersJ.fnamed Tryz.func3 serverAnswersJ.joined
    (of_decide_eq_true (by kernel_rfl)) (by unfold Func.isWrapper; first | (rw [if_pos (by decide +kernel)]; kernel_rfl) | (rw [if_neg (by decide +kernel)]; exact ⟨rfl, rfl⟩))
    (fun os started H enc _ => lifted os started H enc)

theorem proved : Rows.ServerAnswersCardSaid :=
  Claim7.holds_tied_plain_at .later [] [.data, .pinned] true (true, "4f5e7f31a0927fe30429dbac20277dbfb8acb963d557b209b38d37fbda3c837d") true over (fun _ h => by cases h) (by as_aux_lemma => kernel_rfl) (fun _ h => by cases h) serverAnswers_row_tie rfl ⟨rfl, rfl⟩ (by as_aux_lemma => kernel_rfl) rfl
    (fun f fn hf hfn => by
      obtain rfl : f = 3 := Option.some.inj ((show Tryz.prog.funcNamed Rows.serverAnswersRow.func = some 3 from serverAnswersJ.fnamed).symm.trans hf) |>.symm
      obtain rfl : fn = Tryz.f3 := (Option.some.inj (Tryz.func3.symm.trans hfn)).symm
      exact ⟨by kernel_rfl, fun j t ht => by
        rw [Tryz.params3] at ht
        have hm : t ∈ [24, 25] := by simpa using Array.mem_of_getElem? ht
        have hall : ([24, 25].all fun u => !Tryz.prog.wantsStandIn u) = true := by kernel_rfl
        exact (show Tryz.prog.wantsStandIn t = false by simpa using List.all_eq_true.1 hall t hm)⟩)
    serverAnswersJ.goes
#print axioms proved
end Go.Proofs.YthkaggnihbkmeaaGreatDoor.serverAnswers
