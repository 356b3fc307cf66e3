/-
  NARROWER THAN 'FOR EVERY INPUT', by the rows' own cells (each row's printed sentence says how): BlockWrites: laid · BlockTurned: laid · BlockBack: laid · UnstreamSpoilt: laid · UnstreamBack: laid.
  DERIVED. THE GIVEN ROWS OF THIS SEAT. 5 by the template 'for every input the law returns true; each argument reads behind the call as it read before'; 0 by the template 'total and deterministic' (their statements: YtgaiocpkjaaphaaGreatDoorTotals.lean).
  GIVEN WITH THE SEED: the statements are not yours to turn. If you find one false, say at which input.
  Laid BY PROGRAM, IN A SANDBOX (cutbox-rows.mjs): the forced cells as the released guide's own fill.sh prints them over the translation dc23330c270b6efa… (all of the seat's roots in one cut). By AI agents, Wed Nov 11 2026. No macro, syntax, notation, axiom, sorry.
-/
import Derived.Test.YtgaiocpkjaaphaaGreatDoorChecked
import GoSem.Claim
import GoSem.ClaimJoined
import GoSem.ClaimMapViews
import Derived.JoinedTies
import Derived.KernelRfl
namespace Go.Proofs.YtgaiocpkjaaphaaGreatDoor
/- THE CELL 'sum', in the pinned program and in every row, IS THE sha256 OF THE DUMP (.gsa) THAT YtgaiocpkjaaphaaGreatDoorProg.lean LOADS. Nothing in Lean hashes anything: it is a label: what it is worth is what the hold of that sum in a sandbox is worth. -/
noncomputable def Tryz.pinned : Pinned := { name := "ytgaiocpkjaaphaagreatdoor", sum := "dc23330c270b6efaad811c0597d72b2e6db2e4e50f74867bad2f6ee0a40c13be", checked := Tryz.checked }
namespace Rows
def none {H : Type} : Left H := { results := [], args := [] }

/- WHAT THE LISTED PACKAGE-LEVEL VARIABLES READ AS WHEN THE CALL BEGINS. Each datum BY PROGRAM (the guide's laid-datum.mjs) off the statement by which the dump's own 'gosem.cut.vars' lays the variable. In a bare row this is a premise. The card (YtgaiocpkjaaphaaGreatDoorCards.lean) ties it to the program's text. -/
def laid_baler_tables_bounds {H : Type} : DataW H := .agg [.lit (.int .i64 200), .lit (.int .i64 600), .lit (.int .i64 1200), .lit (.int .i64 2400)]

/-- 'balerlaw20.BlockWrites': WHATEVER THE INPUT: true; the input reads as it did. -/
def blockWritesSpec : ChangeSpec := { name := "blockWrites", fn := fun _ => fun
  | [d1, d2] => { results := [.lit (.bool true)], args := [d1, d2] }
  | _ => none }
def blockWritesRow : OpenClaim := { program := "ytgaiocpkjaaphaagreatdoor", sum := "dc23330c270b6efaad811c0597d72b2e6db2e4e50f74867bad2f6ee0a40c13be", func := "baler/balerlaw20.BlockWrites", spec := "blockWrites", inPlace := ["internal/bytealg.IndexByte"], unfollowed := true, recurses := true, named := ["baler/tables.bounds"], apart := false, laid := [("baler/tables.bounds", laid_baler_tables_bounds)] }
def BlockWritesSaid : Prop := blockWritesRow.holds Tryz.pinned (OpenSpec.ofChange blockWritesSpec)

/-- ITS FALSE NEIGHBOUR: 'it returns false'. Refute it at one input. -/
def blockWritesWrong : ChangeSpec := { name := "blockWrites", fn := fun _ => fun
  | [d1, d2] => { results := [.lit (.bool false)], args := [d1, d2] }
  | _ => none }
def BlockWritesWrongFalsely : Prop := blockWritesRow.holds Tryz.pinned (OpenSpec.ofChange blockWritesWrong)

/-- 'balerlaw20.BlockTurned': WHATEVER THE INPUT: true; the input reads as it did. -/
def blockTurnedSpec : ChangeSpec := { name := "blockTurned", fn := fun _ => fun
  | [d] => { results := [.lit (.bool true)], args := [d] }
  | _ => none }
def blockTurnedRow : OpenClaim := { program := "ytgaiocpkjaaphaagreatdoor", sum := "dc23330c270b6efaad811c0597d72b2e6db2e4e50f74867bad2f6ee0a40c13be", func := "baler/balerlaw20.BlockTurned", spec := "blockTurned", inPlace := ["internal/bytealg.IndexByte"], unfollowed := true, recurses := true, named := ["baler/tables.bounds"], apart := false, laid := [("baler/tables.bounds", laid_baler_tables_bounds)] }
def BlockTurnedSaid : Prop := blockTurnedRow.holds Tryz.pinned (OpenSpec.ofChange blockTurnedSpec)

/-- ITS FALSE NEIGHBOUR: 'it returns false'. Refute it at one input. -/
def blockTurnedWrong : ChangeSpec := { name := "blockTurned", fn := fun _ => fun
  | [d] => { results := [.lit (.bool false)], args := [d] }
  | _ => none }
def BlockTurnedWrongFalsely : Prop := blockTurnedRow.holds Tryz.pinned (OpenSpec.ofChange blockTurnedWrong)

/-- 'balerlaw20.BlockBack': WHATEVER THE INPUT: true; the input reads as it did. -/
def blockBackSpec : ChangeSpec := { name := "blockBack", fn := fun _ => fun
  | [d1, d2] => { results := [.lit (.bool true)], args := [d1, d2] }
  | _ => none }
def blockBackRow : OpenClaim := { program := "ytgaiocpkjaaphaagreatdoor", sum := "dc23330c270b6efaad811c0597d72b2e6db2e4e50f74867bad2f6ee0a40c13be", func := "baler/balerlaw20.BlockBack", spec := "blockBack", inPlace := ["internal/bytealg.IndexByte"], unfollowed := true, recurses := true, named := ["baler/tables.bounds"], apart := false, laid := [("baler/tables.bounds", laid_baler_tables_bounds)] }
def BlockBackSaid : Prop := blockBackRow.holds Tryz.pinned (OpenSpec.ofChange blockBackSpec)

/-- ITS FALSE NEIGHBOUR: 'it returns false'. Refute it at one input. -/
def blockBackWrong : ChangeSpec := { name := "blockBack", fn := fun _ => fun
  | [d1, d2] => { results := [.lit (.bool false)], args := [d1, d2] }
  | _ => none }
def BlockBackWrongFalsely : Prop := blockBackRow.holds Tryz.pinned (OpenSpec.ofChange blockBackWrong)

/-- 'balerlaw22.UnstreamSpoilt': WHATEVER THE INPUT: true; the input reads as it did. -/
def unstreamSpoiltSpec : ChangeSpec := { name := "unstreamSpoilt", fn := fun _ => fun
  | [d1, d2, d3] => { results := [.lit (.bool true)], args := [d1, d2, d3] }
  | _ => none }
def unstreamSpoiltRow : OpenClaim := { program := "ytgaiocpkjaaphaagreatdoor", sum := "dc23330c270b6efaad811c0597d72b2e6db2e4e50f74867bad2f6ee0a40c13be", func := "baler/balerlaw22.UnstreamSpoilt", spec := "unstreamSpoilt", inPlace := ["internal/abi.NoEscape", "internal/bytealg.IndexByte"], unfollowed := true, recurses := true, named := ["baler/tables.bounds"], apart := false, laid := [("baler/tables.bounds", laid_baler_tables_bounds)] }
def UnstreamSpoiltSaid : Prop := unstreamSpoiltRow.holds Tryz.pinned (OpenSpec.ofChange unstreamSpoiltSpec)

/-- ITS FALSE NEIGHBOUR: 'it returns false'. Refute it at one input. -/
def unstreamSpoiltWrong : ChangeSpec := { name := "unstreamSpoilt", fn := fun _ => fun
  | [d1, d2, d3] => { results := [.lit (.bool false)], args := [d1, d2, d3] }
  | _ => none }
def UnstreamSpoiltWrongFalsely : Prop := unstreamSpoiltRow.holds Tryz.pinned (OpenSpec.ofChange unstreamSpoiltWrong)

/-- 'balerlaw22.UnstreamBack': WHATEVER THE INPUT: true; the input reads as it did. -/
def unstreamBackSpec : ChangeSpec := { name := "unstreamBack", fn := fun _ => fun
  | [d1, d2, d3] => { results := [.lit (.bool true)], args := [d1, d2, d3] }
  | _ => none }
def unstreamBackRow : OpenClaim := { program := "ytgaiocpkjaaphaagreatdoor", sum := "dc23330c270b6efaad811c0597d72b2e6db2e4e50f74867bad2f6ee0a40c13be", func := "baler/balerlaw22.UnstreamBack", spec := "unstreamBack", inPlace := ["internal/abi.NoEscape", "internal/bytealg.MakeNoZero", "internal/bytealg.IndexByte"], unfollowed := true, recurses := true, named := ["baler/tables.bounds"], apart := false, laid := [("baler/tables.bounds", laid_baler_tables_bounds)] }
def UnstreamBackSaid : Prop := unstreamBackRow.holds Tryz.pinned (OpenSpec.ofChange unstreamBackSpec)

/-- ITS FALSE NEIGHBOUR: 'it returns false'. Refute it at one input. -/
def unstreamBackWrong : ChangeSpec := { name := "unstreamBack", fn := fun _ => fun
  | [d1, d2, d3] => { results := [.lit (.bool false)], args := [d1, d2, d3] }
  | _ => none }
def UnstreamBackWrongFalsely : Prop := unstreamBackRow.holds Tryz.pinned (OpenSpec.ofChange unstreamBackWrong)

/- THE SECOND FORM. 'bulk': how many values and letters a reading holds, each counted each time it is reached (what is shared counts as often as it is met; a slice's spare places count too). A statement '..UptoSaid' is the law's where the arguments, and the package variables that the reading takes, are together of bulk at most 1048576: NARROWER than '..Said'. Prove '..Said' where nothing that the law and all that it calls make is longer than what came in: it says more and counts as full. Else prove '..UptoSaid'. A law counts once. -/
mutual
def uptoBulk {H : Type} : DataW H → Nat
  | .lit (.string bytes) => bytes.length + 1
  | .lit _ => 1
  | .nil => 1
  | .ptr d => uptoBulk d + 1
  | .slice elems spare => uptoBulkAll elems + uptoBulkAll spare + 1
  | .agg parts => uptoBulkAll parts + 1
  | .iface _ d => uptoBulk d + 1
  | .map entries => uptoBulkEntries entries + 1
  | .held _ => 1
def uptoBulkAll {H : Type} : List (DataW H) → Nat
  | [] => 0
  | d :: r => uptoBulk d + uptoBulkAll r
def uptoBulkEntries {H : Type} : List (Lit × DataW H) → Nat
  | [] => 0
  | x :: r => uptoBulkEntry x + uptoBulkEntries r
def uptoBulkEntry {H : Type} : Lit × DataW H → Nat
  | (.string bytes, d) => bytes.length + uptoBulk d + 1
  | (_, d) => uptoBulk d + 1
 end
def uptoSmall : (H : Type) → List (DataW H) → Bool := fun _ ds => decide (uptoBulkAll ds ≤ 1048576)
def OpenSpec.upto (s : _root_.Go.ChangeSpec) : _root_.Go.OpenSpec := { _root_.Go.OpenSpec.ofChange s with cond := some uptoSmall }

/-- 'balerlaw20.BlockWrites', WHERE WHAT IT READS IS OF BULK AT MOST 1048576: true; the input reads as it did. -/
def blockWritesUptoRow : OpenClaim := { program := "ytgaiocpkjaaphaagreatdoor", sum := "dc23330c270b6efaad811c0597d72b2e6db2e4e50f74867bad2f6ee0a40c13be", func := "baler/balerlaw20.BlockWrites", spec := "blockWrites", inPlace := ["internal/bytealg.IndexByte"], unfollowed := true, recurses := true, named := ["baler/tables.bounds"], apart := false, laid := [("baler/tables.bounds", laid_baler_tables_bounds)], narrowed := true }
def BlockWritesUptoSaid : Prop := blockWritesUptoRow.holds Tryz.pinned (OpenSpec.upto blockWritesSpec)

/-- 'balerlaw20.BlockTurned', WHERE WHAT IT READS IS OF BULK AT MOST 1048576: true; the input reads as it did. -/
def blockTurnedUptoRow : OpenClaim := { program := "ytgaiocpkjaaphaagreatdoor", sum := "dc23330c270b6efaad811c0597d72b2e6db2e4e50f74867bad2f6ee0a40c13be", func := "baler/balerlaw20.BlockTurned", spec := "blockTurned", inPlace := ["internal/bytealg.IndexByte"], unfollowed := true, recurses := true, named := ["baler/tables.bounds"], apart := false, laid := [("baler/tables.bounds", laid_baler_tables_bounds)], narrowed := true }
def BlockTurnedUptoSaid : Prop := blockTurnedUptoRow.holds Tryz.pinned (OpenSpec.upto blockTurnedSpec)

/-- 'balerlaw20.BlockBack', WHERE WHAT IT READS IS OF BULK AT MOST 1048576: true; the input reads as it did. -/
def blockBackUptoRow : OpenClaim := { program := "ytgaiocpkjaaphaagreatdoor", sum := "dc23330c270b6efaad811c0597d72b2e6db2e4e50f74867bad2f6ee0a40c13be", func := "baler/balerlaw20.BlockBack", spec := "blockBack", inPlace := ["internal/bytealg.IndexByte"], unfollowed := true, recurses := true, named := ["baler/tables.bounds"], apart := false, laid := [("baler/tables.bounds", laid_baler_tables_bounds)], narrowed := true }
def BlockBackUptoSaid : Prop := blockBackUptoRow.holds Tryz.pinned (OpenSpec.upto blockBackSpec)

/-- 'balerlaw22.UnstreamSpoilt', WHERE WHAT IT READS IS OF BULK AT MOST 1048576: true; the input reads as it did. -/
def unstreamSpoiltUptoRow : OpenClaim := { program := "ytgaiocpkjaaphaagreatdoor", sum := "dc23330c270b6efaad811c0597d72b2e6db2e4e50f74867bad2f6ee0a40c13be", func := "baler/balerlaw22.UnstreamSpoilt", spec := "unstreamSpoilt", inPlace := ["internal/abi.NoEscape", "internal/bytealg.IndexByte"], unfollowed := true, recurses := true, named := ["baler/tables.bounds"], apart := false, laid := [("baler/tables.bounds", laid_baler_tables_bounds)], narrowed := true }
def UnstreamSpoiltUptoSaid : Prop := unstreamSpoiltUptoRow.holds Tryz.pinned (OpenSpec.upto unstreamSpoiltSpec)

/-- 'balerlaw22.UnstreamBack', WHERE WHAT IT READS IS OF BULK AT MOST 1048576: true; the input reads as it did. -/
def unstreamBackUptoRow : OpenClaim := { program := "ytgaiocpkjaaphaagreatdoor", sum := "dc23330c270b6efaad811c0597d72b2e6db2e4e50f74867bad2f6ee0a40c13be", func := "baler/balerlaw22.UnstreamBack", spec := "unstreamBack", inPlace := ["internal/abi.NoEscape", "internal/bytealg.MakeNoZero", "internal/bytealg.IndexByte"], unfollowed := true, recurses := true, named := ["baler/tables.bounds"], apart := false, laid := [("baler/tables.bounds", laid_baler_tables_bounds)], narrowed := true }
def UnstreamBackUptoSaid : Prop := unstreamBackUptoRow.holds Tryz.pinned (OpenSpec.upto unstreamBackSpec)

end Rows
end Go.Proofs.YtgaiocpkjaaphaaGreatDoor
