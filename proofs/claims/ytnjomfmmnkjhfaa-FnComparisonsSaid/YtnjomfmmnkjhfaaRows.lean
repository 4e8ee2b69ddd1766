/-
  No cell of these rows narrows 'for every input' (looked for: loops, veiled, ifaces, maps, wideKeys, modest, calm, conditions, laid).
  DERIVED. THE GIVEN ROWS OF THIS SEAT. 2 by the template 'for every input the law returns true; each argument reads behind the call as it read before'; 0 by the template 'total and deterministic' (their statements: YtnjomfmmnkjhfaaTotals.lean).
  GIVEN WITH THE SEED: the statements are not yours to turn. If you find one false, say at which input.
  Laid BY PROGRAM, IN A SANDBOX (cutbox-rows.mjs): the forced cells as the released guide's own fill.sh prints them over the translation a14815d961d483a2… (all of the seat's roots in one cut). By AI agents, Wed Nov 11 2026. No macro, syntax, notation, axiom, sorry.
-/
import Derived.Test.YtnjomfmmnkjhfaaChecked
import GoSem.Claim
import GoSem.ClaimJoined
import GoSem.ClaimMapViews
import Derived.JoinedTies
import Derived.KernelRfl
namespace Go.Proofs.Ytnjomfmmnkjhfaa
/- THE CELL 'sum', in the pinned program and in every row, IS THE sha256 OF THE DUMP (.gsa) THAT YtnjomfmmnkjhfaaProg.lean LOADS. Nothing in Lean hashes anything: it is a label: what it is worth is what the hold of that sum in a sandbox is worth. -/
noncomputable def Try.pinned : Pinned := { name := "ytnjomfmmnkjhfaa", sum := "a14815d961d483a25f7fca91dfb359310f64fbdc2b232721a92cc7dfaac55d88", checked := Try.checked }
namespace Rows
def none {H : Type} : Left H := { results := [], args := [] }

/-- 'laws.FnExactMiddleOrder': WHATEVER THE INPUT: true; the input reads as it did. -/
def fnExactMiddleOrderSpec : ChangeSpec := { name := "fnExactMiddleOrder", fn := fun _ => fun
  | [d1, d2, d3] => { results := [.lit (.bool true)], args := [d1, d2, d3] }
  | _ => none }
def fnExactMiddleOrderRow : OpenClaim := { program := "ytnjomfmmnkjhfaa", sum := "a14815d961d483a25f7fca91dfb359310f64fbdc2b232721a92cc7dfaac55d88", func := "loop.example/g03205/laws.FnExactMiddleOrder", spec := "fnExactMiddleOrder", unfollowed := true, recurses := true, apart := false }
def FnExactMiddleOrderSaid : Prop := fnExactMiddleOrderRow.holds Try.pinned (OpenSpec.ofChange fnExactMiddleOrderSpec)

/-- ITS FALSE NEIGHBOUR: 'it returns false'. Refute it at one input. -/
def fnExactMiddleOrderWrong : ChangeSpec := { name := "fnExactMiddleOrder", fn := fun _ => fun
  | [d1, d2, d3] => { results := [.lit (.bool false)], args := [d1, d2, d3] }
  | _ => none }
def FnExactMiddleOrderWrongFalsely : Prop := fnExactMiddleOrderRow.holds Try.pinned (OpenSpec.ofChange fnExactMiddleOrderWrong)

/-- 'laws.FnComparisons': WHATEVER THE INPUT: true; the input reads as it did. -/
def fnComparisonsSpec : ChangeSpec := { name := "fnComparisons", fn := fun _ => fun
  | [d] => { results := [.lit (.bool true)], args := [d] }
  | _ => none }
def fnComparisonsRow : OpenClaim := { program := "ytnjomfmmnkjhfaa", sum := "a14815d961d483a25f7fca91dfb359310f64fbdc2b232721a92cc7dfaac55d88", func := "loop.example/g03205/laws.FnComparisons", spec := "fnComparisons", unfollowed := true, recurses := true, apart := false }
def FnComparisonsSaid : Prop := fnComparisonsRow.holds Try.pinned (OpenSpec.ofChange fnComparisonsSpec)

/-- ITS FALSE NEIGHBOUR: 'it returns false'. Refute it at one input. -/
def fnComparisonsWrong : ChangeSpec := { name := "fnComparisons", fn := fun _ => fun
  | [d] => { results := [.lit (.bool false)], args := [d] }
  | _ => none }
def FnComparisonsWrongFalsely : Prop := fnComparisonsRow.holds Try.pinned (OpenSpec.ofChange fnComparisonsWrong)

/- THE SECOND FORM. 'bulk': how many values and letters a reading holds, each counted each time it is reached (what is shared counts as often as it is met; a slice's spare places count too). A statement '..UptoSaid' is the law's where the arguments, and the package variables that the reading takes, are together of bulk at most 1048576: NARROWER than '..Said'. Prove '..Said' where nothing that the law and all that it calls make is longer than what came in: it says more and counts as full. Else prove '..UptoSaid'. A law counts once. -/
mutual
def uptoBulk {H : Type} : DataW H → Nat
  | .lit (.string bytes) => bytes.length + 1
  | .lit _ => 1
  | .nil => 1
  | .ptr d => uptoBulk d + 1
  | .slice elems spare => uptoBulkAll elems + uptoBulkAll spare + 1
  | .agg parts => uptoBulkAll parts + 1
  | .iface _ d => uptoBulk d + 1
  | .map entries => uptoBulkEntries entries + 1
  | .held _ => 1
def uptoBulkAll {H : Type} : List (DataW H) → Nat
  | [] => 0
  | d :: r => uptoBulk d + uptoBulkAll r
def uptoBulkEntries {H : Type} : List (Lit × DataW H) → Nat
  | [] => 0
  | x :: r => uptoBulkEntry x + uptoBulkEntries r
def uptoBulkEntry {H : Type} : Lit × DataW H → Nat
  | (.string bytes, d) => bytes.length + uptoBulk d + 1
  | (_, d) => uptoBulk d + 1
 end
def uptoSmall : (H : Type) → List (DataW H) → Bool := fun _ ds => decide (uptoBulkAll ds ≤ 1048576)
def OpenSpec.upto (s : _root_.Go.ChangeSpec) : _root_.Go.OpenSpec := { _root_.Go.OpenSpec.ofChange s with cond := some uptoSmall }

/-- 'laws.FnExactMiddleOrder', WHERE WHAT IT READS IS OF BULK AT MOST 1048576: true; the input reads as it did. -/
def fnExactMiddleOrderUptoRow : OpenClaim := { program := "ytnjomfmmnkjhfaa", sum := "a14815d961d483a25f7fca91dfb359310f64fbdc2b232721a92cc7dfaac55d88", func := "loop.example/g03205/laws.FnExactMiddleOrder", spec := "fnExactMiddleOrder", unfollowed := true, recurses := true, apart := false, narrowed := true }
def FnExactMiddleOrderUptoSaid : Prop := fnExactMiddleOrderUptoRow.holds Try.pinned (OpenSpec.upto fnExactMiddleOrderSpec)

/-- 'laws.FnComparisons', WHERE WHAT IT READS IS OF BULK AT MOST 1048576: true; the input reads as it did. -/
def fnComparisonsUptoRow : OpenClaim := { program := "ytnjomfmmnkjhfaa", sum := "a14815d961d483a25f7fca91dfb359310f64fbdc2b232721a92cc7dfaac55d88", func := "loop.example/g03205/laws.FnComparisons", spec := "fnComparisons", unfollowed := true, recurses := true, apart := false, narrowed := true }
def FnComparisonsUptoSaid : Prop := fnComparisonsUptoRow.holds Try.pinned (OpenSpec.upto fnComparisonsSpec)

end Rows
end Go.Proofs.Ytnjomfmmnkjhfaa
