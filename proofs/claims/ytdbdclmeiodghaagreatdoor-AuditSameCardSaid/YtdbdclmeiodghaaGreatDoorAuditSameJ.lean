/- The closed facts of the row of YtdbdclmeiodghaaGreatDoor, each by itself. -/
import Derived.Test.YtdbdclmeiodghaaGreatDoorRows
import Derived.Test.YtdbdclmeiodghaaGreatDoorChecked
import Derived.JoinedOf
import Derived.SevenTiedAt
import Derived.KernelRfl
namespace Go.Proofs.YtdbdclmeiodghaaGreatDoor.auditSameJ
set_option maxRecDepth 100000
theorem jf1 : (Rows.auditSameRow.wf (OpenSpec.ofChange Rows.auditSameSpec)) = true := by kernel_rfl
theorem jf2 : (laidOutB Tryz.prog) = true := by kernel_rfl
theorem jf3 : (mapsRowed Tryz.prog) = true := by kernel_rfl
theorem jf4 : (Tryz.f4.params.all (Tryz.prog.readableRec ·)) = true := by kernel_rfl
theorem jf5 : (namedTie Tryz.prog Rows.auditSameRow.named Rows.auditSameSpec.vars) = true := by kernel_rfl
theorem jf6 : ((Rows.auditSameRow.stops == [])) = true := by kernel_rfl
theorem jf7 : ((Tryz.prog.stops == [])) = true := by kernel_rfl
theorem jf8 : ((Rows.auditSameRow.knobs == [])) = true := by kernel_rfl
theorem jf9 : ((Tryz.prog.stopKnobs == [])) = true := by kernel_rfl
theorem jf10 : ((Rows.auditSameRow.inPlace == Tryz.prog.inPlace 4)) = true := by kernel_rfl
theorem jf11 : ((Rows.auditSameRow.unfollowed == Tryz.prog.unfollowed 4)) = true := by kernel_rfl
theorem jf12 : ((Rows.auditSameRow.recurses == Tryz.prog.recurses 4)) = true := by kernel_rfl
theorem jf13 : ((Rows.auditSameRow.named == Tryz.prog.varsNamed 4)) = true := by kernel_rfl
theorem jf14 : ((Rows.auditSameRow.maps == (Tryz.f4.params.toList ++ Rows.auditSameSpec.plain.varTypes Tryz.prog).any (Tryz.prog.mapsRec ·))) = true := by kernel_rfl
theorem jf15 : ((Rows.auditSameRow.ifaces == (Tryz.f4.params.toList ++ Rows.auditSameSpec.plain.varTypes Tryz.prog).any (Tryz.prog.ifacesRec ·))) = true := by kernel_rfl
theorem jf16 : ((Rows.auditSameRow.mapsOut == Tryz.prog.mapsAmong Tryz.f4.resultTypes.toList)) = true := by kernel_rfl
theorem jf17 : ((Rows.auditSameRow.loops == (Tryz.f4.params.toList ++ Rows.auditSameSpec.plain.varTypes Tryz.prog).any (Tryz.prog.loopsFrom ·))) = true := by kernel_rfl
theorem jf18 : ((Rows.auditSameRow.wideKeys == (Tryz.f4.params.toList ++ Rows.auditSameSpec.plain.varTypes Tryz.prog ++ Tryz.f4.resultTypes.toList).any (Tryz.prog.wideKeysFrom ·))) = true := by kernel_rfl
theorem jf19 : (Rows.auditSameSpec.vars.all (Tryz.prog.varReadable ·)) = true := by kernel_rfl
theorem jf20 : (Tryz.f4.resultTypes.all (fun t => Tryz.prog.readableRec t && decide (t < Tryz.prog.types.size))) = true := by kernel_rfl
theorem jf21 : ((Rows.auditSameRow.ifacesOut == Tryz.f4.resultTypes.toList.any (Tryz.prog.ifacesRec ·))) = true := by kernel_rfl
theorem jf22 : ((Rows.auditSameRow.loopsOut == Tryz.f4.resultTypes.toList.any (Tryz.prog.loopsFrom ·))) = true := by kernel_rfl
theorem jf23 : ((Rows.auditSameRow.plainKeys == Tryz.prog.plainKeys)) = true := by kernel_rfl
theorem jf24 : (Rows.auditSameRow.shortTexts.isNone) = true := by kernel_rfl
theorem jf25 : (Tryz.prog.stopsHeard) = true := by kernel_rfl
theorem jf26 : (Tryz.prog.mayEnter) = true := by kernel_rfl
theorem jf27 : ((Rows.auditSameRow.lifted == Tryz.prog.liftsFinal)) = true := by kernel_rfl
theorem jf28 : ((Tryz.prog.make == some Rows.auditSameRow.make)) = true := by kernel_rfl
theorem jf29 : ((Rows.auditSameRow.kinds == (if Rows.auditSameRow.domain.isEmpty then [] else Tryz.f4.params.toList.map fun t => match Tryz.prog.underlying t with | some (.int k) => some k | _ => none))) = true := by kernel_rfl
theorem jf30 : ((Rows.auditSameRow.pinned == Rows.auditSameRow.pinnedBy)) = true := by kernel_rfl
theorem jf31 : ((Rows.auditSameRow.veiled == (Tryz.f4.params.toList ++ Rows.auditSameSpec.plain.varTypes Tryz.prog ++ Tryz.f4.resultTypes.toList).any (Tryz.prog.veiledRec ·))) = true := by kernel_rfl
theorem jf32 : (Rows.auditSameRow.veiledFits Tryz.prog Tryz.f4.params.toList (Tryz.f4.params.toList ++ Rows.auditSameSpec.plain.varTypes Tryz.prog ++ Tryz.f4.resultTypes.toList)) = true := by kernel_rfl
theorem and_i {a b : Bool} (h : a = true) (k : b = true) : (a && b) = true := by rw [h, k]; rfl
theorem joined : joinedFacts Tryz.prog 4 Tryz.f4 Rows.auditSameSpec Rows.auditSameRow = true := by
  unfold joinedFacts
  exact and_i (and_i (and_i (and_i (and_i (and_i (and_i (and_i (and_i (and_i (and_i (and_i (and_i (and_i (and_i (and_i (and_i (and_i (and_i (and_i (and_i (and_i (and_i (and_i (and_i (and_i (and_i (and_i (and_i (and_i (and_i (jf1) jf2) jf3) jf4) jf5) jf6) jf7) jf8) jf9) jf10) jf11) jf12) jf13) jf14) jf15) jf16) jf17) jf18) jf19) jf20) jf21) jf22) jf23) jf24) jf25) jf26) jf27) jf28) jf29) jf30) jf31) jf32
theorem fnamed : Tryz.pinned.checked.prog.funcNamed Rows.auditSameRow.func = some 4 := by kernel_rfl
theorem none_goes : Tryz.prog.funcs.any Func.goes = false := by kernel_rfl
theorem goes_no {P : Program} (h : P.funcs.any Func.goes = false) {c : OpenClaim} (hs : c.start = .entering) : false = c.goesBy P := by
  have h1 : ∀ g : Nat, (P.funcs[g]?).any Func.goes = false := by
    intro g
    cases hg : P.funcs[g]? with
    | none => rfl
    | some fn =>
      rw [Array.any_eq_false] at h
      obtain ⟨hl, he⟩ := Array.getElem?_eq_some_iff.1 hg
      have := h g hl
      rw [he] at this
      simpa using this
  have h2 : ∀ f, P.goes f = false := by
    intro f
    unfold Program.goes
    rw [h, Bool.and_false, Bool.or_false, List.any_eq_false]
    intro g _
    rw [h1 g]
    simp
  unfold OpenClaim.goesBy Program.goesAt Program.goesFrom
  rw [hs]
  cases P.funcNamed c.func with
  | none => rfl
  | some f => simp [h2 f]
theorem goes : false = Rows.auditSameRow.goesBy Tryz.pinned.checked.prog := goes_no none_goes rfl
end Go.Proofs.YtdbdclmeiodghaaGreatDoor.auditSameJ
