/- The closed facts of the row of YthhkodlnfogkgaaGreatDoor, each by itself. -/
import Derived.Test.YthhkodlnfogkgaaGreatDoorRows
import Derived.Test.YthhkodlnfogkgaaGreatDoorChecked
import Derived.JoinedOf
import Derived.SevenTiedAt
import Derived.KernelRfl
namespace Go.Proofs.YthhkodlnfogkgaaGreatDoor.projectSeesJ
set_option maxRecDepth 100000
theorem jf1:(Rows.projectSeesRow.wf (OpenSpec.ofChange Rows.projectSeesSpec))=true:=by kernel_rfl
theorem jf2:(laidOutB Tryz.prog)=true:=by kernel_rfl
theorem jf3:(mapsRowed Tryz.prog)=true:=by kernel_rfl
theorem jf4:(Tryz.f3.params.all (Tryz.prog.readableRec ·))=true:=by kernel_rfl
theorem jf5:(namedTie Tryz.prog Rows.projectSeesRow.named Rows.projectSeesSpec.vars)=true:=by kernel_rfl
theorem jf6:((Rows.projectSeesRow.stops==[]))=true:=by kernel_rfl
theorem jf7:((Tryz.prog.stops==[]))=true:=by kernel_rfl
theorem jf8:((Rows.projectSeesRow.knobs==[]))=true:=by kernel_rfl
theorem jf9:((Tryz.prog.stopKnobs==[]))=true:=by kernel_rfl
theorem jf10:((Rows.projectSeesRow.inPlace==Tryz.prog.inPlace 3))=true:=by kernel_rfl
theorem jf11:((Rows.projectSeesRow.unfollowed==Tryz.prog.unfollowed 3))=true:=by kernel_rfl
theorem jf12:((Rows.projectSeesRow.recurses==Tryz.prog.recurses 3))=true:=by kernel_rfl
theorem jf13:((Rows.projectSeesRow.named==Tryz.prog.varsNamed 3))=true:=by kernel_rfl
theorem jf14:((Rows.projectSeesRow.maps==(Tryz.f3.params.toList++Rows.projectSeesSpec.plain.varTypes Tryz.prog).any (Tryz.prog.mapsRec ·)))=true:=by kernel_rfl
theorem jf15:((Rows.projectSeesRow.ifaces==(Tryz.f3.params.toList++Rows.projectSeesSpec.plain.varTypes Tryz.prog).any (Tryz.prog.ifacesRec ·)))=true:=by kernel_rfl
theorem jf16:((Rows.projectSeesRow.mapsOut==Tryz.prog.mapsAmong Tryz.f3.resultTypes.toList))=true:=by kernel_rfl
theorem jf17:((Rows.projectSeesRow.loops==(Tryz.f3.params.toList++Rows.projectSeesSpec.plain.varTypes Tryz.prog).any (Tryz.prog.loopsFrom ·)))=true:=by kernel_rfl
theorem jf18:((Rows.projectSeesRow.wideKeys==(Tryz.f3.params.toList++Rows.projectSeesSpec.plain.varTypes Tryz.prog++Tryz.f3.resultTypes.toList).any (Tryz.prog.wideKeysFrom ·)))=true:=by kernel_rfl
theorem jf19:(Rows.projectSeesSpec.vars.all (Tryz.prog.varReadable ·))=true:=by kernel_rfl
theorem jf20:(Tryz.f3.resultTypes.all (λt=>Tryz.prog.readableRec t&&decide (t < Tryz.prog.types.size)))=true:=by kernel_rfl
theorem jf21:((Rows.projectSeesRow.ifacesOut==Tryz.f3.resultTypes.toList.any (Tryz.prog.ifacesRec ·)))=true:=by kernel_rfl
theorem jf22:((Rows.projectSeesRow.loopsOut==Tryz.f3.resultTypes.toList.any (Tryz.prog.loopsFrom ·)))=true:=by kernel_rfl
theorem jf23:((Rows.projectSeesRow.plainKeys==Tryz.prog.plainKeys))=true:=by kernel_rfl
theorem jf24:(Rows.projectSeesRow.shortTexts.isNone)=true:=by kernel_rfl
theorem jf25:(Tryz.prog.stopsHeard)=true:=by kernel_rfl
theorem jf26:(Tryz.prog.mayEnter)=true:=by kernel_rfl
theorem jf27:((Rows.projectSeesRow.lifted==Tryz.prog.liftsFinal))=true:=by kernel_rfl
theorem jf28:((Tryz.prog.make==some Rows.projectSeesRow.make))=true:=by kernel_rfl
theorem jf29:((Rows.projectSeesRow.kinds==(if Rows.projectSeesRow.domain.isEmpty then [] else Tryz.f3.params.toList.map λt=>match Tryz.prog.underlying t with|some (.int k)=>some k|_=>none)))=true:=by kernel_rfl
theorem jf30:((Rows.projectSeesRow.pinned==Rows.projectSeesRow.pinnedBy))=true:=by kernel_rfl
theorem jf31:((Rows.projectSeesRow.veiled==(Tryz.f3.params.toList++Rows.projectSeesSpec.plain.varTypes Tryz.prog++Tryz.f3.resultTypes.toList).any (Tryz.prog.veiledRec ·)))=true:=by kernel_rfl
theorem jf32:(Rows.projectSeesRow.veiledFits Tryz.prog Tryz.f3.params.toList (Tryz.f3.params.toList++Rows.projectSeesSpec.plain.varTypes Tryz.prog++Tryz.f3.resultTypes.toList))=true:=by kernel_rfl
theorem and_i {a b:Bool}(h:a=true) (k:b=true):(a&&b)=true:=by rw[h,k];rfl
theorem joined:joinedFacts Tryz.prog 3 Tryz.f3 Rows.projectSeesSpec Rows.projectSeesRow=true:=by
  unfold joinedFacts
  exact and_i (and_i (and_i (and_i (and_i (and_i (and_i (and_i (and_i (and_i (and_i (and_i (and_i (and_i (and_i (and_i (and_i (and_i (and_i (and_i (and_i (and_i (and_i (and_i (and_i (and_i (and_i (and_i (and_i (and_i (and_i (jf1) jf2) jf3) jf4) jf5) jf6) jf7) jf8) jf9) jf10) jf11) jf12) jf13) jf14) jf15) jf16) jf17) jf18) jf19) jf20) jf21) jf22) jf23) jf24) jf25) jf26) jf27) jf28) jf29) jf30) jf31) jf32
theorem fnamed:Tryz.pinned.checked.prog.funcNamed Rows.projectSeesRow.func=some 3:=by kernel_rfl
theorem Zkn:Tryz.prog.funcs.any Func.goes=false:=by kernel_rfl
theorem Zox {P:Program}(h:P.funcs.any Func.goes=false){c:OpenClaim}(hs:c.start=.entering):false=c.goesBy P:=by
  have h1:∀ g:Nat,(P.funcs[g]?).any Func.goes=false:=by
    intro g
    cases hg:P.funcs[g]? with
    |none=>rfl
    |some fn=>
      rw[Array.any_eq_false] at h
      obtain⟨hl,he⟩:=Array.getElem?_eq_some_iff.1 hg
      have:=h g hl
      rw[he] at this
      simpa using this
  have h2:∀ f,P.goes f=false:=by
    intro f
    unfold Program.goes
    rw[h,Bool.and_false,Bool.or_false,List.any_eq_false]
    intro g _
    rw[h1 g]
    simp
  unfold OpenClaim.goesBy Program.goesAt Program.goesFrom
  rw[hs]
  cases P.funcNamed c.func with
  |none=>rfl
  |some f=>simp[h2 f]
theorem goes:false=Rows.projectSeesRow.goesBy Tryz.pinned.checked.prog:=Zox Zkn rfl
end Go.Proofs.YthhkodlnfogkgaaGreatDoor.projectSeesJ
