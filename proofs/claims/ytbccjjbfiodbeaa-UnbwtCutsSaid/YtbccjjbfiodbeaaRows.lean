/-
  No cell of these rows narrows 'for every input' (looked for: loops, veiled, ifaces, maps, wideKeys, modest, calm, conditions, laid).
  DERIVED. THE GIVEN ROWS OF THIS SEAT. 6 by the template 'for every input the law returns true; each argument reads behind the call as it read before'; 0 by the template 'total and deterministic' (their statements: YtbccjjbfiodbeaaTotals.lean).
  GIVEN WITH THE SEED: the statements are not yours to turn. If you find one false, say at which input.
  Laid BY PROGRAM, IN A SANDBOX (cutbox-rows.mjs): the forced cells as the released guide's own fill.sh prints them over the translation 44476bb8893a5031… (all of the seat's roots in one cut). By AI agents, Wed Nov 11 2026. No macro, syntax, notation, axiom, sorry.
-/
import Derived.Test.YtbccjjbfiodbeaaChecked
import GoSem.Claim
import GoSem.ClaimJoined
import GoSem.ClaimMapViews
import Derived.JoinedTies
import Derived.KernelRfl
namespace Go.Proofs.Ytbccjjbfiodbeaa
/- THE CELL 'sum', in the pinned program and in every row, IS THE sha256 OF THE DUMP (.gsa) THAT YtbccjjbfiodbeaaProg.lean LOADS. Nothing in Lean hashes anything: it is a label: what it is worth is what the hold of that sum in a sandbox is worth. -/
noncomputable def Try.pinned : Pinned := { name := "ytbccjjbfiodbeaa", sum := "44476bb8893a50313a205b03bfa6c7760f0fb85675c7fe9d9bc6619c1e107fb3", checked := Try.checked }
namespace Rows
def none {H : Type} : Left H := { results := [], args := [] }

/-- 'balerlaw18.UnbwtBack': WHATEVER THE INPUT: true; the input reads as it did. -/
def unbwtBackSpec : ChangeSpec := { name := "unbwtBack", fn := fun _ => fun
  | [d] => { results := [.lit (.bool true)], args := [d] }
  | _ => none }
def unbwtBackRow : OpenClaim := { program := "ytbccjjbfiodbeaa", sum := "44476bb8893a50313a205b03bfa6c7760f0fb85675c7fe9d9bc6619c1e107fb3", func := "baler/balerlaw18.UnbwtBack", spec := "unbwtBack", apart := false }
def UnbwtBackSaid : Prop := unbwtBackRow.holds Try.pinned (OpenSpec.ofChange unbwtBackSpec)

/-- ITS FALSE NEIGHBOUR: 'it returns false'. Refute it at one input. -/
def unbwtBackWrong : ChangeSpec := { name := "unbwtBack", fn := fun _ => fun
  | [d] => { results := [.lit (.bool false)], args := [d] }
  | _ => none }
def UnbwtBackWrongFalsely : Prop := unbwtBackRow.holds Try.pinned (OpenSpec.ofChange unbwtBackWrong)

/-- 'balerlaw18.UnbwtLong': WHATEVER THE INPUT: true; the input reads as it did. -/
def unbwtLongSpec : ChangeSpec := { name := "unbwtLong", fn := fun _ => fun
  | [d1, d2] => { results := [.lit (.bool true)], args := [d1, d2] }
  | _ => none }
def unbwtLongRow : OpenClaim := { program := "ytbccjjbfiodbeaa", sum := "44476bb8893a50313a205b03bfa6c7760f0fb85675c7fe9d9bc6619c1e107fb3", func := "baler/balerlaw18.UnbwtLong", spec := "unbwtLong", apart := false }
def UnbwtLongSaid : Prop := unbwtLongRow.holds Try.pinned (OpenSpec.ofChange unbwtLongSpec)

/-- ITS FALSE NEIGHBOUR: 'it returns false'. Refute it at one input. -/
def unbwtLongWrong : ChangeSpec := { name := "unbwtLong", fn := fun _ => fun
  | [d1, d2] => { results := [.lit (.bool false)], args := [d1, d2] }
  | _ => none }
def UnbwtLongWrongFalsely : Prop := unbwtLongRow.holds Try.pinned (OpenSpec.ofChange unbwtLongWrong)

/-- 'balerlaw18.UnbwtOf': WHATEVER THE INPUT: true; the input reads as it did. -/
def unbwtOfSpec : ChangeSpec := { name := "unbwtOf", fn := fun _ => fun
  | [d1, d2] => { results := [.lit (.bool true)], args := [d1, d2] }
  | _ => none }
def unbwtOfRow : OpenClaim := { program := "ytbccjjbfiodbeaa", sum := "44476bb8893a50313a205b03bfa6c7760f0fb85675c7fe9d9bc6619c1e107fb3", func := "baler/balerlaw18.UnbwtOf", spec := "unbwtOf", apart := false }
def UnbwtOfSaid : Prop := unbwtOfRow.holds Try.pinned (OpenSpec.ofChange unbwtOfSpec)

/-- ITS FALSE NEIGHBOUR: 'it returns false'. Refute it at one input. -/
def unbwtOfWrong : ChangeSpec := { name := "unbwtOf", fn := fun _ => fun
  | [d1, d2] => { results := [.lit (.bool false)], args := [d1, d2] }
  | _ => none }
def UnbwtOfWrongFalsely : Prop := unbwtOfRow.holds Try.pinned (OpenSpec.ofChange unbwtOfWrong)

/-- 'balerlaw18.UnbwtCuts': WHATEVER THE INPUT: true; the input reads as it did. -/
def unbwtCutsSpec : ChangeSpec := { name := "unbwtCuts", fn := fun _ => fun
  | [d1, d2, d3] => { results := [.lit (.bool true)], args := [d1, d2, d3] }
  | _ => none }
def unbwtCutsRow : OpenClaim := { program := "ytbccjjbfiodbeaa", sum := "44476bb8893a50313a205b03bfa6c7760f0fb85675c7fe9d9bc6619c1e107fb3", func := "baler/balerlaw18.UnbwtCuts", spec := "unbwtCuts", apart := false }
def UnbwtCutsSaid : Prop := unbwtCutsRow.holds Try.pinned (OpenSpec.ofChange unbwtCutsSpec)

/-- ITS FALSE NEIGHBOUR: 'it returns false'. Refute it at one input. -/
def unbwtCutsWrong : ChangeSpec := { name := "unbwtCuts", fn := fun _ => fun
  | [d1, d2, d3] => { results := [.lit (.bool false)], args := [d1, d2, d3] }
  | _ => none }
def UnbwtCutsWrongFalsely : Prop := unbwtCutsRow.holds Try.pinned (OpenSpec.ofChange unbwtCutsWrong)

/-- 'balerlaw18.UnbwtBytes': WHATEVER THE INPUT: true; the input reads as it did. -/
def unbwtBytesSpec : ChangeSpec := { name := "unbwtBytes", fn := fun _ => fun
  | [d1, d2] => { results := [.lit (.bool true)], args := [d1, d2] }
  | _ => none }
def unbwtBytesRow : OpenClaim := { program := "ytbccjjbfiodbeaa", sum := "44476bb8893a50313a205b03bfa6c7760f0fb85675c7fe9d9bc6619c1e107fb3", func := "baler/balerlaw18.UnbwtBytes", spec := "unbwtBytes", apart := false }
def UnbwtBytesSaid : Prop := unbwtBytesRow.holds Try.pinned (OpenSpec.ofChange unbwtBytesSpec)

/-- ITS FALSE NEIGHBOUR: 'it returns false'. Refute it at one input. -/
def unbwtBytesWrong : ChangeSpec := { name := "unbwtBytes", fn := fun _ => fun
  | [d1, d2] => { results := [.lit (.bool false)], args := [d1, d2] }
  | _ => none }
def UnbwtBytesWrongFalsely : Prop := unbwtBytesRow.holds Try.pinned (OpenSpec.ofChange unbwtBytesWrong)

/-- 'balerlaw18.UnbwtNil': WHATEVER THE INPUT: true; the input reads as it did. -/
def unbwtNilSpec : ChangeSpec := { name := "unbwtNil", fn := fun _ => fun
  | [d] => { results := [.lit (.bool true)], args := [d] }
  | _ => none }
def unbwtNilRow : OpenClaim := { program := "ytbccjjbfiodbeaa", sum := "44476bb8893a50313a205b03bfa6c7760f0fb85675c7fe9d9bc6619c1e107fb3", func := "baler/balerlaw18.UnbwtNil", spec := "unbwtNil", apart := false }
def UnbwtNilSaid : Prop := unbwtNilRow.holds Try.pinned (OpenSpec.ofChange unbwtNilSpec)

/-- ITS FALSE NEIGHBOUR: 'it returns false'. Refute it at one input. -/
def unbwtNilWrong : ChangeSpec := { name := "unbwtNil", fn := fun _ => fun
  | [d] => { results := [.lit (.bool false)], args := [d] }
  | _ => none }
def UnbwtNilWrongFalsely : Prop := unbwtNilRow.holds Try.pinned (OpenSpec.ofChange unbwtNilWrong)

/- THE SECOND FORM. 'bulk': how many values and letters a reading holds, each counted each time it is reached (what is shared counts as often as it is met; a slice's spare places count too). A statement '..UptoSaid' is the law's where the arguments, and the package variables that the reading takes, are together of bulk at most 1048576: NARROWER than '..Said'. Prove '..Said' where nothing that the law and all that it calls make is longer than what came in: it says more and counts as full. Else prove '..UptoSaid'. A law counts once. -/
mutual
def uptoBulk {H : Type} : DataW H → Nat
  | .lit (.string bytes) => bytes.length + 1
  | .lit _ => 1
  | .nil => 1
  | .ptr d => uptoBulk d + 1
  | .slice elems spare => uptoBulkAll elems + uptoBulkAll spare + 1
  | .agg parts => uptoBulkAll parts + 1
  | .iface _ d => uptoBulk d + 1
  | .map entries => uptoBulkEntries entries + 1
  | .held _ => 1
def uptoBulkAll {H : Type} : List (DataW H) → Nat
  | [] => 0
  | d :: r => uptoBulk d + uptoBulkAll r
def uptoBulkEntries {H : Type} : List (Lit × DataW H) → Nat
  | [] => 0
  | x :: r => uptoBulkEntry x + uptoBulkEntries r
def uptoBulkEntry {H : Type} : Lit × DataW H → Nat
  | (.string bytes, d) => bytes.length + uptoBulk d + 1
  | (_, d) => uptoBulk d + 1
 end
def uptoSmall : (H : Type) → List (DataW H) → Bool := fun _ ds => decide (uptoBulkAll ds ≤ 1048576)
def OpenSpec.upto (s : _root_.Go.ChangeSpec) : _root_.Go.OpenSpec := { _root_.Go.OpenSpec.ofChange s with cond := some uptoSmall }

/-- 'balerlaw18.UnbwtBack', WHERE WHAT IT READS IS OF BULK AT MOST 1048576: true; the input reads as it did. -/
def unbwtBackUptoRow : OpenClaim := { program := "ytbccjjbfiodbeaa", sum := "44476bb8893a50313a205b03bfa6c7760f0fb85675c7fe9d9bc6619c1e107fb3", func := "baler/balerlaw18.UnbwtBack", spec := "unbwtBack", apart := false, narrowed := true }
def UnbwtBackUptoSaid : Prop := unbwtBackUptoRow.holds Try.pinned (OpenSpec.upto unbwtBackSpec)

/-- 'balerlaw18.UnbwtLong', WHERE WHAT IT READS IS OF BULK AT MOST 1048576: true; the input reads as it did. -/
def unbwtLongUptoRow : OpenClaim := { program := "ytbccjjbfiodbeaa", sum := "44476bb8893a50313a205b03bfa6c7760f0fb85675c7fe9d9bc6619c1e107fb3", func := "baler/balerlaw18.UnbwtLong", spec := "unbwtLong", apart := false, narrowed := true }
def UnbwtLongUptoSaid : Prop := unbwtLongUptoRow.holds Try.pinned (OpenSpec.upto unbwtLongSpec)

/-- 'balerlaw18.UnbwtOf', WHERE WHAT IT READS IS OF BULK AT MOST 1048576: true; the input reads as it did. -/
def unbwtOfUptoRow : OpenClaim := { program := "ytbccjjbfiodbeaa", sum := "44476bb8893a50313a205b03bfa6c7760f0fb85675c7fe9d9bc6619c1e107fb3", func := "baler/balerlaw18.UnbwtOf", spec := "unbwtOf", apart := false, narrowed := true }
def UnbwtOfUptoSaid : Prop := unbwtOfUptoRow.holds Try.pinned (OpenSpec.upto unbwtOfSpec)

/-- 'balerlaw18.UnbwtCuts', WHERE WHAT IT READS IS OF BULK AT MOST 1048576: true; the input reads as it did. -/
def unbwtCutsUptoRow : OpenClaim := { program := "ytbccjjbfiodbeaa", sum := "44476bb8893a50313a205b03bfa6c7760f0fb85675c7fe9d9bc6619c1e107fb3", func := "baler/balerlaw18.UnbwtCuts", spec := "unbwtCuts", apart := false, narrowed := true }
def UnbwtCutsUptoSaid : Prop := unbwtCutsUptoRow.holds Try.pinned (OpenSpec.upto unbwtCutsSpec)

/-- 'balerlaw18.UnbwtBytes', WHERE WHAT IT READS IS OF BULK AT MOST 1048576: true; the input reads as it did. -/
def unbwtBytesUptoRow : OpenClaim := { program := "ytbccjjbfiodbeaa", sum := "44476bb8893a50313a205b03bfa6c7760f0fb85675c7fe9d9bc6619c1e107fb3", func := "baler/balerlaw18.UnbwtBytes", spec := "unbwtBytes", apart := false, narrowed := true }
def UnbwtBytesUptoSaid : Prop := unbwtBytesUptoRow.holds Try.pinned (OpenSpec.upto unbwtBytesSpec)

/-- 'balerlaw18.UnbwtNil', WHERE WHAT IT READS IS OF BULK AT MOST 1048576: true; the input reads as it did. -/
def unbwtNilUptoRow : OpenClaim := { program := "ytbccjjbfiodbeaa", sum := "44476bb8893a50313a205b03bfa6c7760f0fb85675c7fe9d9bc6619c1e107fb3", func := "baler/balerlaw18.UnbwtNil", spec := "unbwtNil", apart := false, narrowed := true }
def UnbwtNilUptoSaid : Prop := unbwtNilUptoRow.holds Try.pinned (OpenSpec.upto unbwtNilSpec)

end Rows
end Go.Proofs.Ytbccjjbfiodbeaa
