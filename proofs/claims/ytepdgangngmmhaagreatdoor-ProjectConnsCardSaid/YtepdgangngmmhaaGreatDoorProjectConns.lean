/- The law ProjectConns holds: for every input it returns true and leaves each argument as it was. No condition. -/
import Derived.Test.YtepdgangngmmhaaGreatDoorRows
import Derived.Test.YtepdgangngmmhaaGreatDoorProjectConnsJ
import Derived.WalkKit
import Derived.ProofKit
import Derived.OpenShut
import Derived.ShutString
import Derived.ChangeOld
import Derived.Below
import Derived.Carry
import Derived.DeepKeys4
import Derived.Test.YtepdgangngmmhaaGreatDoorCz
import Derived.Test.YtepdgangngmmhaaGreatDoorCards
import Derived.Test.YtepdgangngmmhaaGreatDoorTie
import Derived.LaidMore
import Derived.Lay
import Derived.SevenTiedAt
import Derived.Stop.Joined
namespace Go.Proofs.YtepdgangngmmhaaGreatDoor.projectConns
open Go.ChangeShapes Go.WideShapes Go.ChangeAt Go.RowKit
open Go.ChangeMaps (open_string shut_string)
set_option linter.unusedVariables false

theorem laidOut : laidOutB Tryz.prog = true := by kernel_rfl
theorem own : ownKnob Tryz.prog.godebug = none := by kernel_rfl
theorem walk (a0 : Option Addr) (ts0 : List J32.Tn) (c0 : Nat) (n0 : J32.Cn) (b0 : Option Addr) (xs0 : List ByteArray) (d0 : Nat) (e0 : Option Addr) (es0 : List J34.Et) (f0 : Nat) (a1 : Int) (a2 : Option Addr) (xs2 : List Int) (c2 : Nat) (w : World) (w0 : (J32.TsIn [Vc.whole w] a0 ts0 ∧ ts0.length ≤ c0) ∧ (J34.StIn [Vc.whole w] b0 xs0 ∧ xs0.length ≤ d0) ∧ J34.EtIn [Vc.whole w] e0 es0 ∧ es0.length ≤ f0) (w1 : (Lit.int .i64 a1).wf = true) (w2 : W46.IsIn [Vc.whole w] a2 xs2 ∧ xs2.length ≤ c2) (hl : laidMetH Tryz.prog Rows.projectConnsRow.laid w) :
    Calls Tryz.prog 3 #[.agg (J34.cellsS a0 ts0.length c0 n0 b0 xs0.length d0 e0 es0.length f0).toArray, .int .i64 a1, .slice a2 xs2.length c2] w fun e w' => e = .returned (.bool true) ∧ Below w.heap.size w w' :=
  Go.Vc.calls_of_law fun K k => W46.ProjectConns_spec (Go.Vc.holds_whole w) a0 ts0 c0 n0 b0 xs0 d0 e0 es0 f0 a1 a2 xs2 c2 w0 w1 w2 (W46.tab_laidC hl) k

set_option maxRecDepth 100000 in
theorem lifted (os : Os) (started : os.Started) (H : Type) (enc : TypeId × Value → H) :
    ReturnsInHanded {} Tryz.checked os 3 .any (fun w args => (Rows.projectConnsSpec.pre enc Tryz.prog Tryz.f3 Rows.projectConnsRow.domain false w args ∧ laidMetH Tryz.prog Rows.projectConnsRow.laid w) ∧ sizedMet enc Tryz.prog Tryz.f3 (OpenSpec.ofChange Rows.projectConnsSpec) false w args) (Rows.projectConnsSpec.post enc Tryz.prog Tryz.f3 false true false false) := by
  refine returnsInHanded_of_change_and (C := Tryz.checked) (X := fun w _ => laidMetH Tryz.prog Rows.projectConnsRow.laid w) (fun _ _ _ hh h => h.of_heap hh) own started (by kernel_rfl) Tryz.func3
    (ChangeSpec.witness_shaped (enc := enc) (C := Tryz.checked) (os := os) (X := fun w _ => laidMetH Tryz.prog Rows.projectConnsRow.laid w) false (World.laidAll Tryz.prog os Rows.projectConnsRow.laid) #[.agg (J34.cellsS none 0 0 ⟨0, 0, 0, 0, 0, 0⟩ none 0 0 none 0 0).toArray, .int .i64 0, .slice none 0 0] 8 (World.laidAll_os _ _ _)
      (World.shaped_of_ZipB (by kernel_rfl) (by kernel_rfl)) (by kernel_rfl) (by kernel_rfl) (by kernel_rfl)
      (by rw [MakeChecks.laidMetH_plain _ _ _ (by kernel_rfl)]; exact laidMet_laidAll _ (by kernel_rfl) (by kernel_rfl))) ?_
  intro W base args ds gs before hval0 hW hcnd _ hL _
  have hval : ∀ (j : Nat) t v, Tryz.f3.params[j]? = some t → args[j]? = some v → Value.okWide Tryz.prog W .any base t v := hval0
  have hW' := hW
  obtain ⟨p, q, hA0, hV, rfl, hfz, hnd⟩ := hW
  have hA : DataW.TrodAll enc Tryz.prog W 0 (fun _ => true) true Tryz.f3.params.toList args.toList ds p := hA0
  rw [Tryz.params3] at hA hval
  obtain ⟨v0, vs0, d0, ds0, p0, q0, hargs, rfl, rfl, h0, r0⟩ := trodAll_cons hA
  obtain ⟨v1, vs1, d1, ds1, p1, q1, rfl, rfl, rfl, h1, r1⟩ := trodAll_cons r0
  obtain ⟨v2, vs2, d2, ds2, p2, q2, rfl, rfl, rfl, h2, r2⟩ := trodAll_cons r1
  obtain ⟨rfl, rfl, rfl⟩ := trodAll_nil r2
  obtain rfl : args = #[v0, v1, v2] := by cases args; simp_all
  obtain ⟨rfl, rfl⟩ := trodVars_none hV
  obtain ⟨a0, ts0, c0, n0, b0, xs0, d0, e0, es0, f0, rfl, w0⟩ := J34.script_open (hval 0 28 v0 rfl rfl) h0
  obtain ⟨a1, rfl, rfl, rfl, w1⟩ := open_int Tryz.underlying3 (hval 1 3 v1 rfl rfl) h1
  obtain ⟨a2, xs2, c2, rfl, w2⟩ := W46.ints_open (hval 2 29 v2 rfl rfl) h2
  clear hA0 hval0
  refine (walk a0 ts0 c0 n0 b0 xs0 d0 e0 es0 f0 a1 a2 xs2 c2 W w0 w1 w2 hL).mono fun e W' ⟨he, bel⟩ => ?_
  subst he
  exact ⟨_, rfl, _, _, _, [], _, [], hW', trodAll_mk1 (shut_bool Tryz.underlying4 _), (trodAll_cons_mk (Below.trod laidOut (by kernel_rfl) (of_decide_eq_true (by kernel_rfl)) h0 bel (fun x hx => hW'.lt x (by simp [hx]))) (trodAll_cons_mk (shut_int Tryz.underlying3 w1) (trodAll_cons_mk (Below.trod laidOut (by kernel_rfl) (of_decide_eq_true (by kernel_rfl)) h2 bel (fun x hx => hW'.lt x (by simp [hx]))) trodAll_mk0))), rfl, bel.frame _, fun h => by cases h⟩

theorem over : Rows.projectConnsRow.holds Tryz.pinned (OpenSpec.ofChange Rows.projectConnsSpec) :=
  OpenClaim.holds_of_wide 3 Tryz.f3 rfl rfl rfl rfl rfl rfl rfl ⟨rfl, rfl, rfl, rfl, rfl⟩ rfl rfl rfl rfl rfl projectConnsJ.fnamed Tryz.func3 projectConnsJ.joined
    (of_decide_eq_true (by kernel_rfl)) (by unfold Func.isWrapper; first | (rw [if_pos (by decide +kernel)]; kernel_rfl) | (rw [if_neg (by decide +kernel)]; exact ⟨rfl, rfl⟩))
    (fun os started H enc _ => lifted os started H enc)

theorem proved : Rows.ProjectConnsCardSaid :=
  Claim7.holds_tied_plain_at .later [] [.data, .pinned] true (true, "aea9cb0aad0d845ca26f2f613c49e07a57bfeeff2b99bf71a686fa4684e26343") true over (fun _ h => by cases h) (by as_aux_lemma => kernel_rfl) (fun _ h => by cases h) projectConns_row_tie rfl ⟨rfl, rfl⟩ (by as_aux_lemma => kernel_rfl) rfl
    (fun f fn hf hfn => by
      obtain rfl : f = 3 := Option.some.inj ((show Tryz.prog.funcNamed Rows.projectConnsRow.func = some 3 from projectConnsJ.fnamed).symm.trans hf) |>.symm
      obtain rfl : fn = Tryz.f3 := (Option.some.inj (Tryz.func3.symm.trans hfn)).symm
      exact ⟨by kernel_rfl, fun j t ht => by
        rw [Tryz.params3] at ht
        have hm : t ∈ [28, 3, 29] := by simpa using Array.mem_of_getElem? ht
        have hall : ([28, 3, 29].all fun u => !Tryz.prog.wantsStandIn u) = true := by kernel_rfl
        exact (show Tryz.prog.wantsStandIn t = false by simpa using List.all_eq_true.1 hall t hm)⟩)
    projectConnsJ.goes
#print axioms proved
end Go.Proofs.YtepdgangngmmhaaGreatDoor.projectConns
