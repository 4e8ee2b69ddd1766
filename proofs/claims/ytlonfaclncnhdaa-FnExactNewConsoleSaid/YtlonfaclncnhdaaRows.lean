/-
  No cell of these rows narrows 'for every input' (looked for: loops, veiled, ifaces, maps, wideKeys, modest, calm, conditions, laid).
  DERIVED. THE GIVEN ROWS OF THIS SEAT. 11 by the template 'for every input the law returns true; each argument reads behind the call as it read before'; 0 by the template 'total and deterministic' (their statements: YtlonfaclncnhdaaTotals.lean).
  GIVEN WITH THE SEED: the statements are not yours to turn. If you find one false, say at which input.
  Laid BY PROGRAM, IN A SANDBOX (cutbox-rows.mjs): the forced cells as the released guide's own fill.sh prints them over the translation cf6589e5629f7bcd… (all of the seat's roots in one cut). By AI agents, Wed Nov 11 2026. No macro, syntax, notation, axiom, sorry.
-/
import Derived.Test.YtlonfaclncnhdaaChecked
import GoSem.Claim
import GoSem.ClaimJoined
import GoSem.ClaimMapViews
import Derived.JoinedTies
import Derived.KernelRfl
namespace Go.Proofs.Ytlonfaclncnhdaa
/- THE CELL 'sum', in the pinned program and in every row, IS THE sha256 OF THE DUMP (.gsa) THAT YtlonfaclncnhdaaProg.lean LOADS. Nothing in Lean hashes anything: it is a label: what it is worth is what the hold of that sum in a sandbox is worth. -/
noncomputable def Try.pinned : Pinned := { name := "ytlonfaclncnhdaa", sum := "cf6589e5629f7bcd6e217d716707e56647db46226e9ec1520cbeaff460a3a8e5", checked := Try.checked }
namespace Rows
def none {H : Type} : Left H := { results := [], args := [] }

/-- 'laws.FnExactCountAt': WHATEVER THE INPUT: true; the input reads as it did. -/
def fnExactCountAtSpec : ChangeSpec := { name := "fnExactCountAt", fn := fun _ => fun
  | [d1, d2] => { results := [.lit (.bool true)], args := [d1, d2] }
  | _ => none }
def fnExactCountAtRow : OpenClaim := { program := "ytlonfaclncnhdaa", sum := "cf6589e5629f7bcd6e217d716707e56647db46226e9ec1520cbeaff460a3a8e5", func := "loop.example/g03205/laws.FnExactCountAt", spec := "fnExactCountAt", apart := false }
def FnExactCountAtSaid : Prop := fnExactCountAtRow.holds Try.pinned (OpenSpec.ofChange fnExactCountAtSpec)

/-- ITS FALSE NEIGHBOUR: 'it returns false'. Refute it at one input. -/
def fnExactCountAtWrong : ChangeSpec := { name := "fnExactCountAt", fn := fun _ => fun
  | [d1, d2] => { results := [.lit (.bool false)], args := [d1, d2] }
  | _ => none }
def FnExactCountAtWrongFalsely : Prop := fnExactCountAtRow.holds Try.pinned (OpenSpec.ofChange fnExactCountAtWrong)

/-- 'laws.FnExactInverseOrder': WHATEVER THE INPUT: true; the input reads as it did. -/
def fnExactInverseOrderSpec : ChangeSpec := { name := "fnExactInverseOrder", fn := fun _ => fun
  | [d] => { results := [.lit (.bool true)], args := [d] }
  | _ => none }
def fnExactInverseOrderRow : OpenClaim := { program := "ytlonfaclncnhdaa", sum := "cf6589e5629f7bcd6e217d716707e56647db46226e9ec1520cbeaff460a3a8e5", func := "loop.example/g03205/laws.FnExactInverseOrder", spec := "fnExactInverseOrder", apart := false }
def FnExactInverseOrderSaid : Prop := fnExactInverseOrderRow.holds Try.pinned (OpenSpec.ofChange fnExactInverseOrderSpec)

/-- ITS FALSE NEIGHBOUR: 'it returns false'. Refute it at one input. -/
def fnExactInverseOrderWrong : ChangeSpec := { name := "fnExactInverseOrder", fn := fun _ => fun
  | [d] => { results := [.lit (.bool false)], args := [d] }
  | _ => none }
def FnExactInverseOrderWrongFalsely : Prop := fnExactInverseOrderRow.holds Try.pinned (OpenSpec.ofChange fnExactInverseOrderWrong)

/-- 'laws.FnExactComposeOrders': WHATEVER THE INPUT: true; the input reads as it did. -/
def fnExactComposeOrdersSpec : ChangeSpec := { name := "fnExactComposeOrders", fn := fun _ => fun
  | [d1, d2] => { results := [.lit (.bool true)], args := [d1, d2] }
  | _ => none }
def fnExactComposeOrdersRow : OpenClaim := { program := "ytlonfaclncnhdaa", sum := "cf6589e5629f7bcd6e217d716707e56647db46226e9ec1520cbeaff460a3a8e5", func := "loop.example/g03205/laws.FnExactComposeOrders", spec := "fnExactComposeOrders", apart := false }
def FnExactComposeOrdersSaid : Prop := fnExactComposeOrdersRow.holds Try.pinned (OpenSpec.ofChange fnExactComposeOrdersSpec)

/-- ITS FALSE NEIGHBOUR: 'it returns false'. Refute it at one input. -/
def fnExactComposeOrdersWrong : ChangeSpec := { name := "fnExactComposeOrders", fn := fun _ => fun
  | [d1, d2] => { results := [.lit (.bool false)], args := [d1, d2] }
  | _ => none }
def FnExactComposeOrdersWrongFalsely : Prop := fnExactComposeOrdersRow.holds Try.pinned (OpenSpec.ofChange fnExactComposeOrdersWrong)

/-- 'laws.FnExactFootruleOf': WHATEVER THE INPUT: true; the input reads as it did. -/
def fnExactFootruleOfSpec : ChangeSpec := { name := "fnExactFootruleOf", fn := fun _ => fun
  | [d1, d2] => { results := [.lit (.bool true)], args := [d1, d2] }
  | _ => none }
def fnExactFootruleOfRow : OpenClaim := { program := "ytlonfaclncnhdaa", sum := "cf6589e5629f7bcd6e217d716707e56647db46226e9ec1520cbeaff460a3a8e5", func := "loop.example/g03205/laws.FnExactFootruleOf", spec := "fnExactFootruleOf", apart := false }
def FnExactFootruleOfSaid : Prop := fnExactFootruleOfRow.holds Try.pinned (OpenSpec.ofChange fnExactFootruleOfSpec)

/-- ITS FALSE NEIGHBOUR: 'it returns false'. Refute it at one input. -/
def fnExactFootruleOfWrong : ChangeSpec := { name := "fnExactFootruleOf", fn := fun _ => fun
  | [d1, d2] => { results := [.lit (.bool false)], args := [d1, d2] }
  | _ => none }
def FnExactFootruleOfWrongFalsely : Prop := fnExactFootruleOfRow.holds Try.pinned (OpenSpec.ofChange fnExactFootruleOfWrong)

/-- 'laws.FnExactBetweenOrders': WHATEVER THE INPUT: true; the input reads as it did. -/
def fnExactBetweenOrdersSpec : ChangeSpec := { name := "fnExactBetweenOrders", fn := fun _ => fun
  | [d1, d2, d3] => { results := [.lit (.bool true)], args := [d1, d2, d3] }
  | _ => none }
def fnExactBetweenOrdersRow : OpenClaim := { program := "ytlonfaclncnhdaa", sum := "cf6589e5629f7bcd6e217d716707e56647db46226e9ec1520cbeaff460a3a8e5", func := "loop.example/g03205/laws.FnExactBetweenOrders", spec := "fnExactBetweenOrders", apart := false }
def FnExactBetweenOrdersSaid : Prop := fnExactBetweenOrdersRow.holds Try.pinned (OpenSpec.ofChange fnExactBetweenOrdersSpec)

/-- ITS FALSE NEIGHBOUR: 'it returns false'. Refute it at one input. -/
def fnExactBetweenOrdersWrong : ChangeSpec := { name := "fnExactBetweenOrders", fn := fun _ => fun
  | [d1, d2, d3] => { results := [.lit (.bool false)], args := [d1, d2, d3] }
  | _ => none }
def FnExactBetweenOrdersWrongFalsely : Prop := fnExactBetweenOrdersRow.holds Try.pinned (OpenSpec.ofChange fnExactBetweenOrdersWrong)

/-- 'laws.FnExactLeastMoves': WHATEVER THE INPUT: true; the input reads as it did. -/
def fnExactLeastMovesSpec : ChangeSpec := { name := "fnExactLeastMoves", fn := fun _ => fun
  | [d1, d2] => { results := [.lit (.bool true)], args := [d1, d2] }
  | _ => none }
def fnExactLeastMovesRow : OpenClaim := { program := "ytlonfaclncnhdaa", sum := "cf6589e5629f7bcd6e217d716707e56647db46226e9ec1520cbeaff460a3a8e5", func := "loop.example/g03205/laws.FnExactLeastMoves", spec := "fnExactLeastMoves", apart := false }
def FnExactLeastMovesSaid : Prop := fnExactLeastMovesRow.holds Try.pinned (OpenSpec.ofChange fnExactLeastMovesSpec)

/-- ITS FALSE NEIGHBOUR: 'it returns false'. Refute it at one input. -/
def fnExactLeastMovesWrong : ChangeSpec := { name := "fnExactLeastMoves", fn := fun _ => fun
  | [d1, d2] => { results := [.lit (.bool false)], args := [d1, d2] }
  | _ => none }
def FnExactLeastMovesWrongFalsely : Prop := fnExactLeastMovesRow.holds Try.pinned (OpenSpec.ofChange fnExactLeastMovesWrong)

/-- 'laws.FnExactLongestCommon': WHATEVER THE INPUT: true; the input reads as it did. -/
def fnExactLongestCommonSpec : ChangeSpec := { name := "fnExactLongestCommon", fn := fun _ => fun
  | [d1, d2] => { results := [.lit (.bool true)], args := [d1, d2] }
  | _ => none }
def fnExactLongestCommonRow : OpenClaim := { program := "ytlonfaclncnhdaa", sum := "cf6589e5629f7bcd6e217d716707e56647db46226e9ec1520cbeaff460a3a8e5", func := "loop.example/g03205/laws.FnExactLongestCommon", spec := "fnExactLongestCommon", apart := false }
def FnExactLongestCommonSaid : Prop := fnExactLongestCommonRow.holds Try.pinned (OpenSpec.ofChange fnExactLongestCommonSpec)

/-- ITS FALSE NEIGHBOUR: 'it returns false'. Refute it at one input. -/
def fnExactLongestCommonWrong : ChangeSpec := { name := "fnExactLongestCommon", fn := fun _ => fun
  | [d1, d2] => { results := [.lit (.bool false)], args := [d1, d2] }
  | _ => none }
def FnExactLongestCommonWrongFalsely : Prop := fnExactLongestCommonRow.holds Try.pinned (OpenSpec.ofChange fnExactLongestCommonWrong)

/-- 'laws.FnExactNextOrder': WHATEVER THE INPUT: true; the input reads as it did. -/
def fnExactNextOrderSpec : ChangeSpec := { name := "fnExactNextOrder", fn := fun _ => fun
  | [d] => { results := [.lit (.bool true)], args := [d] }
  | _ => none }
def fnExactNextOrderRow : OpenClaim := { program := "ytlonfaclncnhdaa", sum := "cf6589e5629f7bcd6e217d716707e56647db46226e9ec1520cbeaff460a3a8e5", func := "loop.example/g03205/laws.FnExactNextOrder", spec := "fnExactNextOrder", apart := false }
def FnExactNextOrderSaid : Prop := fnExactNextOrderRow.holds Try.pinned (OpenSpec.ofChange fnExactNextOrderSpec)

/-- ITS FALSE NEIGHBOUR: 'it returns false'. Refute it at one input. -/
def fnExactNextOrderWrong : ChangeSpec := { name := "fnExactNextOrder", fn := fun _ => fun
  | [d] => { results := [.lit (.bool false)], args := [d] }
  | _ => none }
def FnExactNextOrderWrongFalsely : Prop := fnExactNextOrderRow.holds Try.pinned (OpenSpec.ofChange fnExactNextOrderWrong)

/-- 'laws.FnExactMiddleOrder': WHATEVER THE INPUT: true; the input reads as it did. -/
def fnExactMiddleOrderSpec : ChangeSpec := { name := "fnExactMiddleOrder", fn := fun _ => fun
  | [d1, d2, d3] => { results := [.lit (.bool true)], args := [d1, d2, d3] }
  | _ => none }
def fnExactMiddleOrderRow : OpenClaim := { program := "ytlonfaclncnhdaa", sum := "cf6589e5629f7bcd6e217d716707e56647db46226e9ec1520cbeaff460a3a8e5", func := "loop.example/g03205/laws.FnExactMiddleOrder", spec := "fnExactMiddleOrder", unfollowed := true, recurses := true, apart := false }
def FnExactMiddleOrderSaid : Prop := fnExactMiddleOrderRow.holds Try.pinned (OpenSpec.ofChange fnExactMiddleOrderSpec)

/-- ITS FALSE NEIGHBOUR: 'it returns false'. Refute it at one input. -/
def fnExactMiddleOrderWrong : ChangeSpec := { name := "fnExactMiddleOrder", fn := fun _ => fun
  | [d1, d2, d3] => { results := [.lit (.bool false)], args := [d1, d2, d3] }
  | _ => none }
def FnExactMiddleOrderWrongFalsely : Prop := fnExactMiddleOrderRow.holds Try.pinned (OpenSpec.ofChange fnExactMiddleOrderWrong)

/-- 'laws.FnExactNewConsole': WHATEVER THE INPUT: true; the input reads as it did. -/
def fnExactNewConsoleSpec : ChangeSpec := { name := "fnExactNewConsole", fn := fun _ => fun
  | [] => { results := [.lit (.bool true)], args := [] }
  | _ => none }
def fnExactNewConsoleRow : OpenClaim := { program := "ytlonfaclncnhdaa", sum := "cf6589e5629f7bcd6e217d716707e56647db46226e9ec1520cbeaff460a3a8e5", func := "loop.example/g03205/laws.FnExactNewConsole", spec := "fnExactNewConsole", unfollowed := true, recurses := true, apart := false }
def FnExactNewConsoleSaid : Prop := fnExactNewConsoleRow.holds Try.pinned (OpenSpec.ofChange fnExactNewConsoleSpec)

/-- ITS FALSE NEIGHBOUR: 'it returns false'. Refute it at one input. -/
def fnExactNewConsoleWrong : ChangeSpec := { name := "fnExactNewConsole", fn := fun _ => fun
  | [] => { results := [.lit (.bool false)], args := [] }
  | _ => none }
def FnExactNewConsoleWrongFalsely : Prop := fnExactNewConsoleRow.holds Try.pinned (OpenSpec.ofChange fnExactNewConsoleWrong)

/-- 'laws.FnComparisons': WHATEVER THE INPUT: true; the input reads as it did. -/
def fnComparisonsSpec : ChangeSpec := { name := "fnComparisons", fn := fun _ => fun
  | [d] => { results := [.lit (.bool true)], args := [d] }
  | _ => none }
def fnComparisonsRow : OpenClaim := { program := "ytlonfaclncnhdaa", sum := "cf6589e5629f7bcd6e217d716707e56647db46226e9ec1520cbeaff460a3a8e5", func := "loop.example/g03205/laws.FnComparisons", spec := "fnComparisons", unfollowed := true, recurses := true, apart := false }
def FnComparisonsSaid : Prop := fnComparisonsRow.holds Try.pinned (OpenSpec.ofChange fnComparisonsSpec)

/-- ITS FALSE NEIGHBOUR: 'it returns false'. Refute it at one input. -/
def fnComparisonsWrong : ChangeSpec := { name := "fnComparisons", fn := fun _ => fun
  | [d] => { results := [.lit (.bool false)], args := [d] }
  | _ => none }
def FnComparisonsWrongFalsely : Prop := fnComparisonsRow.holds Try.pinned (OpenSpec.ofChange fnComparisonsWrong)

/- THE SECOND FORM. 'bulk': how many values and letters a reading holds, each counted each time it is reached (what is shared counts as often as it is met; a slice's spare places count too). A statement '..UptoSaid' is the law's where the arguments, and the package variables that the reading takes, are together of bulk at most 1048576: NARROWER than '..Said'. Prove '..Said' where nothing that the law and all that it calls make is longer than what came in: it says more and counts as full. Else prove '..UptoSaid'. A law counts once. -/
mutual
def uptoBulk {H : Type} : DataW H → Nat
  | .lit (.string bytes) => bytes.length + 1
  | .lit _ => 1
  | .nil => 1
  | .ptr d => uptoBulk d + 1
  | .slice elems spare => uptoBulkAll elems + uptoBulkAll spare + 1
  | .agg parts => uptoBulkAll parts + 1
  | .iface _ d => uptoBulk d + 1
  | .map entries => uptoBulkEntries entries + 1
  | .held _ => 1
def uptoBulkAll {H : Type} : List (DataW H) → Nat
  | [] => 0
  | d :: r => uptoBulk d + uptoBulkAll r
def uptoBulkEntries {H : Type} : List (Lit × DataW H) → Nat
  | [] => 0
  | x :: r => uptoBulkEntry x + uptoBulkEntries r
def uptoBulkEntry {H : Type} : Lit × DataW H → Nat
  | (.string bytes, d) => bytes.length + uptoBulk d + 1
  | (_, d) => uptoBulk d + 1
 end
def uptoSmall : (H : Type) → List (DataW H) → Bool := fun _ ds => decide (uptoBulkAll ds ≤ 1048576)
def OpenSpec.upto (s : _root_.Go.ChangeSpec) : _root_.Go.OpenSpec := { _root_.Go.OpenSpec.ofChange s with cond := some uptoSmall }

/-- 'laws.FnExactCountAt', WHERE WHAT IT READS IS OF BULK AT MOST 1048576: true; the input reads as it did. -/
def fnExactCountAtUptoRow : OpenClaim := { program := "ytlonfaclncnhdaa", sum := "cf6589e5629f7bcd6e217d716707e56647db46226e9ec1520cbeaff460a3a8e5", func := "loop.example/g03205/laws.FnExactCountAt", spec := "fnExactCountAt", apart := false, narrowed := true }
def FnExactCountAtUptoSaid : Prop := fnExactCountAtUptoRow.holds Try.pinned (OpenSpec.upto fnExactCountAtSpec)

/-- 'laws.FnExactInverseOrder', WHERE WHAT IT READS IS OF BULK AT MOST 1048576: true; the input reads as it did. -/
def fnExactInverseOrderUptoRow : OpenClaim := { program := "ytlonfaclncnhdaa", sum := "cf6589e5629f7bcd6e217d716707e56647db46226e9ec1520cbeaff460a3a8e5", func := "loop.example/g03205/laws.FnExactInverseOrder", spec := "fnExactInverseOrder", apart := false, narrowed := true }
def FnExactInverseOrderUptoSaid : Prop := fnExactInverseOrderUptoRow.holds Try.pinned (OpenSpec.upto fnExactInverseOrderSpec)

/-- 'laws.FnExactComposeOrders', WHERE WHAT IT READS IS OF BULK AT MOST 1048576: true; the input reads as it did. -/
def fnExactComposeOrdersUptoRow : OpenClaim := { program := "ytlonfaclncnhdaa", sum := "cf6589e5629f7bcd6e217d716707e56647db46226e9ec1520cbeaff460a3a8e5", func := "loop.example/g03205/laws.FnExactComposeOrders", spec := "fnExactComposeOrders", apart := false, narrowed := true }
def FnExactComposeOrdersUptoSaid : Prop := fnExactComposeOrdersUptoRow.holds Try.pinned (OpenSpec.upto fnExactComposeOrdersSpec)

/-- 'laws.FnExactFootruleOf', WHERE WHAT IT READS IS OF BULK AT MOST 1048576: true; the input reads as it did. -/
def fnExactFootruleOfUptoRow : OpenClaim := { program := "ytlonfaclncnhdaa", sum := "cf6589e5629f7bcd6e217d716707e56647db46226e9ec1520cbeaff460a3a8e5", func := "loop.example/g03205/laws.FnExactFootruleOf", spec := "fnExactFootruleOf", apart := false, narrowed := true }
def FnExactFootruleOfUptoSaid : Prop := fnExactFootruleOfUptoRow.holds Try.pinned (OpenSpec.upto fnExactFootruleOfSpec)

/-- 'laws.FnExactBetweenOrders', WHERE WHAT IT READS IS OF BULK AT MOST 1048576: true; the input reads as it did. -/
def fnExactBetweenOrdersUptoRow : OpenClaim := { program := "ytlonfaclncnhdaa", sum := "cf6589e5629f7bcd6e217d716707e56647db46226e9ec1520cbeaff460a3a8e5", func := "loop.example/g03205/laws.FnExactBetweenOrders", spec := "fnExactBetweenOrders", apart := false, narrowed := true }
def FnExactBetweenOrdersUptoSaid : Prop := fnExactBetweenOrdersUptoRow.holds Try.pinned (OpenSpec.upto fnExactBetweenOrdersSpec)

/-- 'laws.FnExactLeastMoves', WHERE WHAT IT READS IS OF BULK AT MOST 1048576: true; the input reads as it did. -/
def fnExactLeastMovesUptoRow : OpenClaim := { program := "ytlonfaclncnhdaa", sum := "cf6589e5629f7bcd6e217d716707e56647db46226e9ec1520cbeaff460a3a8e5", func := "loop.example/g03205/laws.FnExactLeastMoves", spec := "fnExactLeastMoves", apart := false, narrowed := true }
def FnExactLeastMovesUptoSaid : Prop := fnExactLeastMovesUptoRow.holds Try.pinned (OpenSpec.upto fnExactLeastMovesSpec)

/-- 'laws.FnExactLongestCommon', WHERE WHAT IT READS IS OF BULK AT MOST 1048576: true; the input reads as it did. -/
def fnExactLongestCommonUptoRow : OpenClaim := { program := "ytlonfaclncnhdaa", sum := "cf6589e5629f7bcd6e217d716707e56647db46226e9ec1520cbeaff460a3a8e5", func := "loop.example/g03205/laws.FnExactLongestCommon", spec := "fnExactLongestCommon", apart := false, narrowed := true }
def FnExactLongestCommonUptoSaid : Prop := fnExactLongestCommonUptoRow.holds Try.pinned (OpenSpec.upto fnExactLongestCommonSpec)

/-- 'laws.FnExactNextOrder', WHERE WHAT IT READS IS OF BULK AT MOST 1048576: true; the input reads as it did. -/
def fnExactNextOrderUptoRow : OpenClaim := { program := "ytlonfaclncnhdaa", sum := "cf6589e5629f7bcd6e217d716707e56647db46226e9ec1520cbeaff460a3a8e5", func := "loop.example/g03205/laws.FnExactNextOrder", spec := "fnExactNextOrder", apart := false, narrowed := true }
def FnExactNextOrderUptoSaid : Prop := fnExactNextOrderUptoRow.holds Try.pinned (OpenSpec.upto fnExactNextOrderSpec)

/-- 'laws.FnExactMiddleOrder', WHERE WHAT IT READS IS OF BULK AT MOST 1048576: true; the input reads as it did. -/
def fnExactMiddleOrderUptoRow : OpenClaim := { program := "ytlonfaclncnhdaa", sum := "cf6589e5629f7bcd6e217d716707e56647db46226e9ec1520cbeaff460a3a8e5", func := "loop.example/g03205/laws.FnExactMiddleOrder", spec := "fnExactMiddleOrder", unfollowed := true, recurses := true, apart := false, narrowed := true }
def FnExactMiddleOrderUptoSaid : Prop := fnExactMiddleOrderUptoRow.holds Try.pinned (OpenSpec.upto fnExactMiddleOrderSpec)

/-- 'laws.FnExactNewConsole', WHERE WHAT IT READS IS OF BULK AT MOST 1048576: true; the input reads as it did. -/
def fnExactNewConsoleUptoRow : OpenClaim := { program := "ytlonfaclncnhdaa", sum := "cf6589e5629f7bcd6e217d716707e56647db46226e9ec1520cbeaff460a3a8e5", func := "loop.example/g03205/laws.FnExactNewConsole", spec := "fnExactNewConsole", unfollowed := true, recurses := true, apart := false, narrowed := true }
def FnExactNewConsoleUptoSaid : Prop := fnExactNewConsoleUptoRow.holds Try.pinned (OpenSpec.upto fnExactNewConsoleSpec)

/-- 'laws.FnComparisons', WHERE WHAT IT READS IS OF BULK AT MOST 1048576: true; the input reads as it did. -/
def fnComparisonsUptoRow : OpenClaim := { program := "ytlonfaclncnhdaa", sum := "cf6589e5629f7bcd6e217d716707e56647db46226e9ec1520cbeaff460a3a8e5", func := "loop.example/g03205/laws.FnComparisons", spec := "fnComparisons", unfollowed := true, recurses := true, apart := false, narrowed := true }
def FnComparisonsUptoSaid : Prop := fnComparisonsUptoRow.holds Try.pinned (OpenSpec.upto fnComparisonsSpec)

end Rows
end Go.Proofs.Ytlonfaclncnhdaa
