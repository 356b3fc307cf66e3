/-
  NARROWER THAN 'FOR EVERY INPUT', by the rows' own cells (each row's printed sentence says how): BlockOpens: laid · BlockNil: laid.
  DERIVED. THE GIVEN ROWS OF THIS SEAT. 2 by the template 'for every input the law returns true; each argument reads behind the call as it read before'; 0 by the template 'total and deterministic' (their statements: YtcnmamnnjdifdaaGreatDoorTotals.lean).
  GIVEN WITH THE SEED: the statements are not yours to turn. If you find one false, say at which input.
  Laid BY PROGRAM, IN A SANDBOX (cutbox-rows.mjs): the forced cells as the released guide's own fill.sh prints them over the translation 39ad4b8fecc83cea… (all of the seat's roots in one cut). By AI agents, Wed Nov 11 2026. No macro, syntax, notation, axiom, sorry.
-/
import Derived.Test.YtcnmamnnjdifdaaGreatDoorChecked
import GoSem.Claim
import GoSem.ClaimJoined
import GoSem.ClaimMapViews
import Derived.JoinedTies
import Derived.KernelRfl
namespace Go.Proofs.YtcnmamnnjdifdaaGreatDoor
/- THE CELL 'sum', in the pinned program and in every row, IS THE sha256 OF THE DUMP (.gsa) THAT YtcnmamnnjdifdaaGreatDoorProg.lean LOADS. Nothing in Lean hashes anything: it is a label: what it is worth is what the hold of that sum in a sandbox is worth. -/
noncomputable def Tryz.pinned : Pinned := { name := "ytcnmamnnjdifdaagreatdoor", sum := "39ad4b8fecc83cea7a6ffae9c7a8b54b75e66064755fc6d2dc7f8af752597601", checked := Tryz.checked }
namespace Rows
def none {H : Type} : Left H := { results := [], args := [] }

/- WHAT THE LISTED PACKAGE-LEVEL VARIABLES READ AS WHEN THE CALL BEGINS. Each datum BY PROGRAM (the guide's laid-datum.mjs) off the statement by which the dump's own 'gosem.cut.vars' lays the variable. In a bare row this is a premise. The card (YtcnmamnnjdifdaaGreatDoorCards.lean) ties it to the program's text. -/
def laid_baler_tables_bounds {H : Type} : DataW H := .agg [.lit (.int .i64 200), .lit (.int .i64 600), .lit (.int .i64 1200), .lit (.int .i64 2400)]

/-- 'balerlaw20.BlockOpens': WHATEVER THE INPUT: true; the input reads as it did. -/
def blockOpensSpec : ChangeSpec := { name := "blockOpens", fn := fun _ => fun
  | [d] => { results := [.lit (.bool true)], args := [d] }
  | _ => none }
def blockOpensRow : OpenClaim := { program := "ytcnmamnnjdifdaagreatdoor", sum := "39ad4b8fecc83cea7a6ffae9c7a8b54b75e66064755fc6d2dc7f8af752597601", func := "baler/balerlaw20.BlockOpens", spec := "blockOpens", inPlace := ["internal/bytealg.IndexByte"], unfollowed := true, recurses := true, named := ["baler/tables.bounds"], apart := false, laid := [("baler/tables.bounds", laid_baler_tables_bounds)] }
def BlockOpensSaid : Prop := blockOpensRow.holds Tryz.pinned (OpenSpec.ofChange blockOpensSpec)

/-- ITS FALSE NEIGHBOUR: 'it returns false'. Refute it at one input. -/
def blockOpensWrong : ChangeSpec := { name := "blockOpens", fn := fun _ => fun
  | [d] => { results := [.lit (.bool false)], args := [d] }
  | _ => none }
def BlockOpensWrongFalsely : Prop := blockOpensRow.holds Tryz.pinned (OpenSpec.ofChange blockOpensWrong)

/-- 'balerlaw20.BlockNil': WHATEVER THE INPUT: true; the input reads as it did. -/
def blockNilSpec : ChangeSpec := { name := "blockNil", fn := fun _ => fun
  | [d1, d2] => { results := [.lit (.bool true)], args := [d1, d2] }
  | _ => none }
def blockNilRow : OpenClaim := { program := "ytcnmamnnjdifdaagreatdoor", sum := "39ad4b8fecc83cea7a6ffae9c7a8b54b75e66064755fc6d2dc7f8af752597601", func := "baler/balerlaw20.BlockNil", spec := "blockNil", inPlace := ["internal/bytealg.IndexByte"], unfollowed := true, recurses := true, named := ["baler/tables.bounds"], apart := false, laid := [("baler/tables.bounds", laid_baler_tables_bounds)] }
def BlockNilSaid : Prop := blockNilRow.holds Tryz.pinned (OpenSpec.ofChange blockNilSpec)

/-- ITS FALSE NEIGHBOUR: 'it returns false'. Refute it at one input. -/
def blockNilWrong : ChangeSpec := { name := "blockNil", fn := fun _ => fun
  | [d1, d2] => { results := [.lit (.bool false)], args := [d1, d2] }
  | _ => none }
def BlockNilWrongFalsely : Prop := blockNilRow.holds Tryz.pinned (OpenSpec.ofChange blockNilWrong)

/- THE SECOND FORM. 'bulk': how many values and letters a reading holds, each counted each time it is reached (what is shared counts as often as it is met; a slice's spare places count too). A statement '..UptoSaid' is the law's where the arguments, and the package variables that the reading takes, are together of bulk at most 1048576: NARROWER than '..Said'. Prove '..Said' where nothing that the law and all that it calls make is longer than what came in: it says more and counts as full. Else prove '..UptoSaid'. A law counts once. -/
mutual
def uptoBulk {H : Type} : DataW H → Nat
  | .lit (.string bytes) => bytes.length + 1
  | .lit _ => 1
  | .nil => 1
  | .ptr d => uptoBulk d + 1
  | .slice elems spare => uptoBulkAll elems + uptoBulkAll spare + 1
  | .agg parts => uptoBulkAll parts + 1
  | .iface _ d => uptoBulk d + 1
  | .map entries => uptoBulkEntries entries + 1
  | .held _ => 1
def uptoBulkAll {H : Type} : List (DataW H) → Nat
  | [] => 0
  | d :: r => uptoBulk d + uptoBulkAll r
def uptoBulkEntries {H : Type} : List (Lit × DataW H) → Nat
  | [] => 0
  | x :: r => uptoBulkEntry x + uptoBulkEntries r
def uptoBulkEntry {H : Type} : Lit × DataW H → Nat
  | (.string bytes, d) => bytes.length + uptoBulk d + 1
  | (_, d) => uptoBulk d + 1
 end
def uptoSmall : (H : Type) → List (DataW H) → Bool := fun _ ds => decide (uptoBulkAll ds ≤ 1048576)
def OpenSpec.upto (s : _root_.Go.ChangeSpec) : _root_.Go.OpenSpec := { _root_.Go.OpenSpec.ofChange s with cond := some uptoSmall }

/-- 'balerlaw20.BlockOpens', WHERE WHAT IT READS IS OF BULK AT MOST 1048576: true; the input reads as it did. -/
def blockOpensUptoRow : OpenClaim := { program := "ytcnmamnnjdifdaagreatdoor", sum := "39ad4b8fecc83cea7a6ffae9c7a8b54b75e66064755fc6d2dc7f8af752597601", func := "baler/balerlaw20.BlockOpens", spec := "blockOpens", inPlace := ["internal/bytealg.IndexByte"], unfollowed := true, recurses := true, named := ["baler/tables.bounds"], apart := false, laid := [("baler/tables.bounds", laid_baler_tables_bounds)], narrowed := true }
def BlockOpensUptoSaid : Prop := blockOpensUptoRow.holds Tryz.pinned (OpenSpec.upto blockOpensSpec)

/-- 'balerlaw20.BlockNil', WHERE WHAT IT READS IS OF BULK AT MOST 1048576: true; the input reads as it did. -/
def blockNilUptoRow : OpenClaim := { program := "ytcnmamnnjdifdaagreatdoor", sum := "39ad4b8fecc83cea7a6ffae9c7a8b54b75e66064755fc6d2dc7f8af752597601", func := "baler/balerlaw20.BlockNil", spec := "blockNil", inPlace := ["internal/bytealg.IndexByte"], unfollowed := true, recurses := true, named := ["baler/tables.bounds"], apart := false, laid := [("baler/tables.bounds", laid_baler_tables_bounds)], narrowed := true }
def BlockNilUptoSaid : Prop := blockNilUptoRow.holds Tryz.pinned (OpenSpec.upto blockNilSpec)

end Rows
end Go.Proofs.YtcnmamnnjdifdaaGreatDoor
