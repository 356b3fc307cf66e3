/-
  No cell of these rows narrows 'for every input' (looked for: loops, veiled, ifaces, maps, wideKeys, modest, calm, conditions, laid).
  DERIVED. THE GIVEN ROWS OF THIS SEAT. 3 by the template 'for every input the law returns true; each argument reads behind the call as it read before'; 0 by the template 'total and deterministic' (their statements: YtlppejfnjhkbpaaGreatTotals.lean).
  GIVEN WITH THE SEED: the statements are not yours to turn. If you find one false, say at which input.
  Laid BY PROGRAM, IN A SANDBOX (cutbox-rows.mjs): the forced cells as the released guide's own fill.sh prints them over the translation bb5d02495b5b6bcf… (all of the seat's roots in one cut). By AI agents, Wed Nov 11 2026. No macro, syntax, notation, axiom, sorry.
-/
import Derived.Test.YtlppejfnjhkbpaaGreatChecked
import GoSem.Claim
import GoSem.ClaimJoined
import GoSem.ClaimMapViews
import Derived.JoinedTies
import Derived.KernelRfl
namespace Go.Proofs.YtlppejfnjhkbpaaGreat
/- THE CELL 'sum', in the pinned program and in every row, IS THE sha256 OF THE DUMP (.gsa) THAT YtlppejfnjhkbpaaGreatProg.lean LOADS. Nothing in Lean hashes anything: it is a label: what it is worth is what the hold of that sum in a sandbox is worth. -/
noncomputable def Tryz.pinned : Pinned := { name := "ytlppejfnjhkbpaagreat", sum := "bb5d02495b5b6bcff9ee8eb439ec2fc40e2ccedcf10bbe426ac0477db297d3fb", checked := Tryz.checked }
namespace Rows
def none {H : Type} : Left H := { results := [], args := [] }

/-- 'balerlaw22.UnstreamWith': WHATEVER THE INPUT: true; the input reads as it did. -/
def unstreamWithSpec : ChangeSpec := { name := "unstreamWith", fn := fun _ => fun
  | [d1, d2] => { results := [.lit (.bool true)], args := [d1, d2] }
  | _ => none }
def unstreamWithRow : OpenClaim := { program := "ytlppejfnjhkbpaagreat", sum := "bb5d02495b5b6bcff9ee8eb439ec2fc40e2ccedcf10bbe426ac0477db297d3fb", func := "baler/balerlaw22.UnstreamWith", spec := "unstreamWith", inPlace := ["internal/abi.NoEscape"], unfollowed := true, recurses := true, apart := false }
def UnstreamWithSaid : Prop := unstreamWithRow.holds Tryz.pinned (OpenSpec.ofChange unstreamWithSpec)

/-- ITS FALSE NEIGHBOUR: 'it returns false'. Refute it at one input. -/
def unstreamWithWrong : ChangeSpec := { name := "unstreamWith", fn := fun _ => fun
  | [d1, d2] => { results := [.lit (.bool false)], args := [d1, d2] }
  | _ => none }
def UnstreamWithWrongFalsely : Prop := unstreamWithRow.holds Tryz.pinned (OpenSpec.ofChange unstreamWithWrong)

/-- 'balerlaw22.UnstreamDecodes': WHATEVER THE INPUT: true; the input reads as it did. -/
def unstreamDecodesSpec : ChangeSpec := { name := "unstreamDecodes", fn := fun _ => fun
  | [d] => { results := [.lit (.bool true)], args := [d] }
  | _ => none }
def unstreamDecodesRow : OpenClaim := { program := "ytlppejfnjhkbpaagreat", sum := "bb5d02495b5b6bcff9ee8eb439ec2fc40e2ccedcf10bbe426ac0477db297d3fb", func := "baler/balerlaw22.UnstreamDecodes", spec := "unstreamDecodes", inPlace := ["internal/abi.NoEscape"], unfollowed := true, recurses := true, apart := false }
def UnstreamDecodesSaid : Prop := unstreamDecodesRow.holds Tryz.pinned (OpenSpec.ofChange unstreamDecodesSpec)

/-- ITS FALSE NEIGHBOUR: 'it returns false'. Refute it at one input. -/
def unstreamDecodesWrong : ChangeSpec := { name := "unstreamDecodes", fn := fun _ => fun
  | [d] => { results := [.lit (.bool false)], args := [d] }
  | _ => none }
def UnstreamDecodesWrongFalsely : Prop := unstreamDecodesRow.holds Tryz.pinned (OpenSpec.ofChange unstreamDecodesWrong)

/-- 'balerlaw22.UnstreamSteps': WHATEVER THE INPUT: true; the input reads as it did. -/
def unstreamStepsSpec : ChangeSpec := { name := "unstreamSteps", fn := fun _ => fun
  | [d1, d2, d3] => { results := [.lit (.bool true)], args := [d1, d2, d3] }
  | _ => none }
def unstreamStepsRow : OpenClaim := { program := "ytlppejfnjhkbpaagreat", sum := "bb5d02495b5b6bcff9ee8eb439ec2fc40e2ccedcf10bbe426ac0477db297d3fb", func := "baler/balerlaw22.UnstreamSteps", spec := "unstreamSteps", inPlace := ["internal/abi.NoEscape"], unfollowed := true, recurses := true, apart := false }
def UnstreamStepsSaid : Prop := unstreamStepsRow.holds Tryz.pinned (OpenSpec.ofChange unstreamStepsSpec)

/-- ITS FALSE NEIGHBOUR: 'it returns false'. Refute it at one input. -/
def unstreamStepsWrong : ChangeSpec := { name := "unstreamSteps", fn := fun _ => fun
  | [d1, d2, d3] => { results := [.lit (.bool false)], args := [d1, d2, d3] }
  | _ => none }
def UnstreamStepsWrongFalsely : Prop := unstreamStepsRow.holds Tryz.pinned (OpenSpec.ofChange unstreamStepsWrong)

/- THE SECOND FORM. 'bulk': how many values and letters a reading holds, each counted each time it is reached (what is shared counts as often as it is met; a slice's spare places count too). A statement '..UptoSaid' is the law's where the arguments, and the package variables that the reading takes, are together of bulk at most 1048576: NARROWER than '..Said'. Prove '..Said' where nothing that the law and all that it calls make is longer than what came in: it says more and counts as full. Else prove '..UptoSaid'. A law counts once. -/
mutual
def uptoBulk {H : Type} : DataW H → Nat
  | .lit (.string bytes) => bytes.length + 1
  | .lit _ => 1
  | .nil => 1
  | .ptr d => uptoBulk d + 1
  | .slice elems spare => uptoBulkAll elems + uptoBulkAll spare + 1
  | .agg parts => uptoBulkAll parts + 1
  | .iface _ d => uptoBulk d + 1
  | .map entries => uptoBulkEntries entries + 1
  | .held _ => 1
def uptoBulkAll {H : Type} : List (DataW H) → Nat
  | [] => 0
  | d :: r => uptoBulk d + uptoBulkAll r
def uptoBulkEntries {H : Type} : List (Lit × DataW H) → Nat
  | [] => 0
  | x :: r => uptoBulkEntry x + uptoBulkEntries r
def uptoBulkEntry {H : Type} : Lit × DataW H → Nat
  | (.string bytes, d) => bytes.length + uptoBulk d + 1
  | (_, d) => uptoBulk d + 1
 end
def uptoSmall : (H : Type) → List (DataW H) → Bool := fun _ ds => decide (uptoBulkAll ds ≤ 1048576)
def OpenSpec.upto (s : _root_.Go.ChangeSpec) : _root_.Go.OpenSpec := { _root_.Go.OpenSpec.ofChange s with cond := some uptoSmall }

/-- 'balerlaw22.UnstreamWith', WHERE WHAT IT READS IS OF BULK AT MOST 1048576: true; the input reads as it did. -/
def unstreamWithUptoRow : OpenClaim := { program := "ytlppejfnjhkbpaagreat", sum := "bb5d02495b5b6bcff9ee8eb439ec2fc40e2ccedcf10bbe426ac0477db297d3fb", func := "baler/balerlaw22.UnstreamWith", spec := "unstreamWith", inPlace := ["internal/abi.NoEscape"], unfollowed := true, recurses := true, apart := false, narrowed := true }
def UnstreamWithUptoSaid : Prop := unstreamWithUptoRow.holds Tryz.pinned (OpenSpec.upto unstreamWithSpec)

/-- 'balerlaw22.UnstreamDecodes', WHERE WHAT IT READS IS OF BULK AT MOST 1048576: true; the input reads as it did. -/
def unstreamDecodesUptoRow : OpenClaim := { program := "ytlppejfnjhkbpaagreat", sum := "bb5d02495b5b6bcff9ee8eb439ec2fc40e2ccedcf10bbe426ac0477db297d3fb", func := "baler/balerlaw22.UnstreamDecodes", spec := "unstreamDecodes", inPlace := ["internal/abi.NoEscape"], unfollowed := true, recurses := true, apart := false, narrowed := true }
def UnstreamDecodesUptoSaid : Prop := unstreamDecodesUptoRow.holds Tryz.pinned (OpenSpec.upto unstreamDecodesSpec)

/-- 'balerlaw22.UnstreamSteps', WHERE WHAT IT READS IS OF BULK AT MOST 1048576: true; the input reads as it did. -/
def unstreamStepsUptoRow : OpenClaim := { program := "ytlppejfnjhkbpaagreat", sum := "bb5d02495b5b6bcff9ee8eb439ec2fc40e2ccedcf10bbe426ac0477db297d3fb", func := "baler/balerlaw22.UnstreamSteps", spec := "unstreamSteps", inPlace := ["internal/abi.NoEscape"], unfollowed := true, recurses := true, apart := false, narrowed := true }
def UnstreamStepsUptoSaid : Prop := unstreamStepsUptoRow.holds Tryz.pinned (OpenSpec.upto unstreamStepsSpec)

end Rows
end Go.Proofs.YtlppejfnjhkbpaaGreat
