/-
  No cell of these rows narrows 'for every input' (looked for: loops, veiled, ifaces, maps, wideKeys, modest, calm, conditions, laid).
  DERIVED. THE GIVEN ROWS OF THIS SEAT. 3 by the template 'for every input the law returns true; each argument reads behind the call as it read before'; 0 by the template 'total and deterministic' (their statements: YtoibjeloegdmcaaGreatTotals.lean).
  GIVEN WITH THE SEED: the statements are not yours to turn. If you find one false, say at which input.
  Laid BY PROGRAM, IN A SANDBOX (cutbox-rows.mjs): the forced cells as the released guide's own fill.sh prints them over the translation d1d015d2d73c0589… (all of the seat's roots in one cut). By AI agents, Wed Nov 11 2026. No macro, syntax, notation, axiom, sorry.
-/
import Derived.Test.YtoibjeloegdmcaaGreatChecked
import GoSem.Claim
import GoSem.ClaimJoined
import GoSem.ClaimMapViews
import Derived.JoinedTies
import Derived.KernelRfl
namespace Go.Proofs.YtoibjeloegdmcaaGreat
/- THE CELL 'sum', in the pinned program and in every row, IS THE sha256 OF THE DUMP (.gsa) THAT YtoibjeloegdmcaaGreatProg.lean LOADS. Nothing in Lean hashes anything: it is a label: what it is worth is what the hold of that sum in a sandbox is worth. -/
noncomputable def Tryz.pinned : Pinned := { name := "ytoibjeloegdmcaagreat", sum := "d1d015d2d73c0589981738ee498aae2c43f7c3ebd6bb7e9694a6a8ebee55186a", checked := Tryz.checked }
namespace Rows
def none {H : Type} : Left H := { results := [], args := [] }

/-- 'balerlaw26.JobNil': WHATEVER THE INPUT: true; the input reads as it did. -/
def jobNilSpec : ChangeSpec := { name := "jobNil", fn := fun _ => fun
  | [d1, d2] => { results := [.lit (.bool true)], args := [d1, d2] }
  | _ => none }
def jobNilRow : OpenClaim := { program := "ytoibjeloegdmcaagreat", sum := "d1d015d2d73c0589981738ee498aae2c43f7c3ebd6bb7e9694a6a8ebee55186a", func := "baler/balerlaw26.JobNil", spec := "jobNil", inPlace := ["internal/abi.NoEscape"], unfollowed := true, recurses := true, apart := false }
def JobNilSaid : Prop := jobNilRow.holds Tryz.pinned (OpenSpec.ofChange jobNilSpec)

/-- ITS FALSE NEIGHBOUR: 'it returns false'. Refute it at one input. -/
def jobNilWrong : ChangeSpec := { name := "jobNil", fn := fun _ => fun
  | [d1, d2] => { results := [.lit (.bool false)], args := [d1, d2] }
  | _ => none }
def JobNilWrongFalsely : Prop := jobNilRow.holds Tryz.pinned (OpenSpec.ofChange jobNilWrong)

/-- 'balerlaw26.JobNews': WHATEVER THE INPUT: true; the input reads as it did. -/
def jobNewsSpec : ChangeSpec := { name := "jobNews", fn := fun _ => fun
  | [d] => { results := [.lit (.bool true)], args := [d] }
  | _ => none }
def jobNewsRow : OpenClaim := { program := "ytoibjeloegdmcaagreat", sum := "d1d015d2d73c0589981738ee498aae2c43f7c3ebd6bb7e9694a6a8ebee55186a", func := "baler/balerlaw26.JobNews", spec := "jobNews", inPlace := ["internal/abi.NoEscape"], unfollowed := true, recurses := true, apart := false }
def JobNewsSaid : Prop := jobNewsRow.holds Tryz.pinned (OpenSpec.ofChange jobNewsSpec)

/-- ITS FALSE NEIGHBOUR: 'it returns false'. Refute it at one input. -/
def jobNewsWrong : ChangeSpec := { name := "jobNews", fn := fun _ => fun
  | [d] => { results := [.lit (.bool false)], args := [d] }
  | _ => none }
def JobNewsWrongFalsely : Prop := jobNewsRow.holds Tryz.pinned (OpenSpec.ofChange jobNewsWrong)

/-- 'balerlaw39.ResultsNil': WHATEVER THE INPUT: true; the input reads as it did. -/
def resultsNilSpec : ChangeSpec := { name := "resultsNil", fn := fun _ => fun
  | [d] => { results := [.lit (.bool true)], args := [d] }
  | _ => none }
def resultsNilRow : OpenClaim := { program := "ytoibjeloegdmcaagreat", sum := "d1d015d2d73c0589981738ee498aae2c43f7c3ebd6bb7e9694a6a8ebee55186a", func := "baler/balerlaw39.ResultsNil", spec := "resultsNil", unfollowed := true, recurses := true, apart := false }
def ResultsNilSaid : Prop := resultsNilRow.holds Tryz.pinned (OpenSpec.ofChange resultsNilSpec)

/-- ITS FALSE NEIGHBOUR: 'it returns false'. Refute it at one input. -/
def resultsNilWrong : ChangeSpec := { name := "resultsNil", fn := fun _ => fun
  | [d] => { results := [.lit (.bool false)], args := [d] }
  | _ => none }
def ResultsNilWrongFalsely : Prop := resultsNilRow.holds Tryz.pinned (OpenSpec.ofChange resultsNilWrong)

/- THE SECOND FORM. 'bulk': how many values and letters a reading holds, each counted each time it is reached (what is shared counts as often as it is met; a slice's spare places count too). A statement '..UptoSaid' is the law's where the arguments, and the package variables that the reading takes, are together of bulk at most 1048576: NARROWER than '..Said'. Prove '..Said' where nothing that the law and all that it calls make is longer than what came in: it says more and counts as full. Else prove '..UptoSaid'. A law counts once. -/
mutual
def uptoBulk {H : Type} : DataW H → Nat
  | .lit (.string bytes) => bytes.length + 1
  | .lit _ => 1
  | .nil => 1
  | .ptr d => uptoBulk d + 1
  | .slice elems spare => uptoBulkAll elems + uptoBulkAll spare + 1
  | .agg parts => uptoBulkAll parts + 1
  | .iface _ d => uptoBulk d + 1
  | .map entries => uptoBulkEntries entries + 1
  | .held _ => 1
def uptoBulkAll {H : Type} : List (DataW H) → Nat
  | [] => 0
  | d :: r => uptoBulk d + uptoBulkAll r
def uptoBulkEntries {H : Type} : List (Lit × DataW H) → Nat
  | [] => 0
  | x :: r => uptoBulkEntry x + uptoBulkEntries r
def uptoBulkEntry {H : Type} : Lit × DataW H → Nat
  | (.string bytes, d) => bytes.length + uptoBulk d + 1
  | (_, d) => uptoBulk d + 1
 end
def uptoSmall : (H : Type) → List (DataW H) → Bool := fun _ ds => decide (uptoBulkAll ds ≤ 1048576)
def OpenSpec.upto (s : _root_.Go.ChangeSpec) : _root_.Go.OpenSpec := { _root_.Go.OpenSpec.ofChange s with cond := some uptoSmall }

/-- 'balerlaw26.JobNil', WHERE WHAT IT READS IS OF BULK AT MOST 1048576: true; the input reads as it did. -/
def jobNilUptoRow : OpenClaim := { program := "ytoibjeloegdmcaagreat", sum := "d1d015d2d73c0589981738ee498aae2c43f7c3ebd6bb7e9694a6a8ebee55186a", func := "baler/balerlaw26.JobNil", spec := "jobNil", inPlace := ["internal/abi.NoEscape"], unfollowed := true, recurses := true, apart := false, narrowed := true }
def JobNilUptoSaid : Prop := jobNilUptoRow.holds Tryz.pinned (OpenSpec.upto jobNilSpec)

/-- 'balerlaw26.JobNews', WHERE WHAT IT READS IS OF BULK AT MOST 1048576: true; the input reads as it did. -/
def jobNewsUptoRow : OpenClaim := { program := "ytoibjeloegdmcaagreat", sum := "d1d015d2d73c0589981738ee498aae2c43f7c3ebd6bb7e9694a6a8ebee55186a", func := "baler/balerlaw26.JobNews", spec := "jobNews", inPlace := ["internal/abi.NoEscape"], unfollowed := true, recurses := true, apart := false, narrowed := true }
def JobNewsUptoSaid : Prop := jobNewsUptoRow.holds Tryz.pinned (OpenSpec.upto jobNewsSpec)

/-- 'balerlaw39.ResultsNil', WHERE WHAT IT READS IS OF BULK AT MOST 1048576: true; the input reads as it did. -/
def resultsNilUptoRow : OpenClaim := { program := "ytoibjeloegdmcaagreat", sum := "d1d015d2d73c0589981738ee498aae2c43f7c3ebd6bb7e9694a6a8ebee55186a", func := "baler/balerlaw39.ResultsNil", spec := "resultsNil", unfollowed := true, recurses := true, apart := false, narrowed := true }
def ResultsNilUptoSaid : Prop := resultsNilUptoRow.holds Tryz.pinned (OpenSpec.upto resultsNilSpec)

end Rows
end Go.Proofs.YtoibjeloegdmcaaGreat
