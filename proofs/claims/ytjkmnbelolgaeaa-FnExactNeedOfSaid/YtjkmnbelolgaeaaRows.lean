/-
  No cell of these rows narrows 'for every input' (looked for: loops, veiled, ifaces, maps, wideKeys, modest, calm, conditions, laid).
  DERIVED. THE GIVEN ROWS OF THIS SEAT. 7 by the template 'for every input the law returns true; each argument reads behind the call as it read before'; 0 by the template 'total and deterministic' (their statements: YtjkmnbelolgaeaaTotals.lean).
  GIVEN WITH THE SEED: the statements are not yours to turn. If you find one false, say at which input.
  Laid BY PROGRAM, IN A SANDBOX (cutbox-rows.mjs): the forced cells as the released guide's own fill.sh prints them over the translation 6ac7698251d76ed8… (all of the seat's roots in one cut). By AI agents, Wed Nov 11 2026. No macro, syntax, notation, axiom, sorry.
-/
import Derived.Test.YtjkmnbelolgaeaaChecked
import GoSem.Claim
import GoSem.ClaimJoined
import GoSem.ClaimMapViews
import Derived.JoinedTies
import Derived.KernelRfl
namespace Go.Proofs.Ytjkmnbelolgaeaa
/- THE CELL 'sum', in the pinned program and in every row, IS THE sha256 OF THE DUMP (.gsa) THAT YtjkmnbelolgaeaaProg.lean LOADS. Nothing in Lean hashes anything: it is a label: what it is worth is what the hold of that sum in a sandbox is worth. -/
noncomputable def Try.pinned : Pinned := { name := "ytjkmnbelolgaeaa", sum := "6ac7698251d76ed8204f568d6cdb6a25d47484a44d8fbecc228a19a623993f0a", checked := Try.checked }
namespace Rows
def none {H : Type} : Left H := { results := [], args := [] }

/-- 'laws.FnExactNeedOf': WHATEVER THE INPUT: true; the input reads as it did. -/
def fnExactNeedOfSpec : ChangeSpec := { name := "fnExactNeedOf", fn := fun _ => fun
  | [d] => { results := [.lit (.bool true)], args := [d] }
  | _ => none }
def fnExactNeedOfRow : OpenClaim := { program := "ytjkmnbelolgaeaa", sum := "6ac7698251d76ed8204f568d6cdb6a25d47484a44d8fbecc228a19a623993f0a", func := "loop.example/g03205/laws.FnExactNeedOf", spec := "fnExactNeedOf", apart := false }
def FnExactNeedOfSaid : Prop := fnExactNeedOfRow.holds Try.pinned (OpenSpec.ofChange fnExactNeedOfSpec)

/-- ITS FALSE NEIGHBOUR: 'it returns false'. Refute it at one input. -/
def fnExactNeedOfWrong : ChangeSpec := { name := "fnExactNeedOf", fn := fun _ => fun
  | [d] => { results := [.lit (.bool false)], args := [d] }
  | _ => none }
def FnExactNeedOfWrongFalsely : Prop := fnExactNeedOfRow.holds Try.pinned (OpenSpec.ofChange fnExactNeedOfWrong)

/-- 'laws.FnExactLongestMatch': WHATEVER THE INPUT: true; the input reads as it did. -/
def fnExactLongestMatchSpec : ChangeSpec := { name := "fnExactLongestMatch", fn := fun _ => fun
  | [d1, d2] => { results := [.lit (.bool true)], args := [d1, d2] }
  | _ => none }
def fnExactLongestMatchRow : OpenClaim := { program := "ytjkmnbelolgaeaa", sum := "6ac7698251d76ed8204f568d6cdb6a25d47484a44d8fbecc228a19a623993f0a", func := "loop.example/g03205/laws.FnExactLongestMatch", spec := "fnExactLongestMatch", apart := false }
def FnExactLongestMatchSaid : Prop := fnExactLongestMatchRow.holds Try.pinned (OpenSpec.ofChange fnExactLongestMatchSpec)

/-- ITS FALSE NEIGHBOUR: 'it returns false'. Refute it at one input. -/
def fnExactLongestMatchWrong : ChangeSpec := { name := "fnExactLongestMatch", fn := fun _ => fun
  | [d1, d2] => { results := [.lit (.bool false)], args := [d1, d2] }
  | _ => none }
def FnExactLongestMatchWrongFalsely : Prop := fnExactLongestMatchRow.holds Try.pinned (OpenSpec.ofChange fnExactLongestMatchWrong)

/-- 'laws.FnExactShortestMatch': WHATEVER THE INPUT: true; the input reads as it did. -/
def fnExactShortestMatchSpec : ChangeSpec := { name := "fnExactShortestMatch", fn := fun _ => fun
  | [d1, d2] => { results := [.lit (.bool true)], args := [d1, d2] }
  | _ => none }
def fnExactShortestMatchRow : OpenClaim := { program := "ytjkmnbelolgaeaa", sum := "6ac7698251d76ed8204f568d6cdb6a25d47484a44d8fbecc228a19a623993f0a", func := "loop.example/g03205/laws.FnExactShortestMatch", spec := "fnExactShortestMatch", apart := false }
def FnExactShortestMatchSaid : Prop := fnExactShortestMatchRow.holds Try.pinned (OpenSpec.ofChange fnExactShortestMatchSpec)

/-- ITS FALSE NEIGHBOUR: 'it returns false'. Refute it at one input. -/
def fnExactShortestMatchWrong : ChangeSpec := { name := "fnExactShortestMatch", fn := fun _ => fun
  | [d1, d2] => { results := [.lit (.bool false)], args := [d1, d2] }
  | _ => none }
def FnExactShortestMatchWrongFalsely : Prop := fnExactShortestMatchRow.holds Try.pinned (OpenSpec.ofChange fnExactShortestMatchWrong)

/-- 'laws.FnExactWaysIn': WHATEVER THE INPUT: true; the input reads as it did. -/
def fnExactWaysInSpec : ChangeSpec := { name := "fnExactWaysIn", fn := fun _ => fun
  | [d1, d2, d3] => { results := [.lit (.bool true)], args := [d1, d2, d3] }
  | _ => none }
def fnExactWaysInRow : OpenClaim := { program := "ytjkmnbelolgaeaa", sum := "6ac7698251d76ed8204f568d6cdb6a25d47484a44d8fbecc228a19a623993f0a", func := "loop.example/g03205/laws.FnExactWaysIn", spec := "fnExactWaysIn", apart := false }
def FnExactWaysInSaid : Prop := fnExactWaysInRow.holds Try.pinned (OpenSpec.ofChange fnExactWaysInSpec)

/-- ITS FALSE NEIGHBOUR: 'it returns false'. Refute it at one input. -/
def fnExactWaysInWrong : ChangeSpec := { name := "fnExactWaysIn", fn := fun _ => fun
  | [d1, d2, d3] => { results := [.lit (.bool false)], args := [d1, d2, d3] }
  | _ => none }
def FnExactWaysInWrongFalsely : Prop := fnExactWaysInRow.holds Try.pinned (OpenSpec.ofChange fnExactWaysInWrong)

/-- 'laws.FnExactShareOf': WHATEVER THE INPUT: true; the input reads as it did. -/
def fnExactShareOfSpec : ChangeSpec := { name := "fnExactShareOf", fn := fun _ => fun
  | [d1, d2, d3] => { results := [.lit (.bool true)], args := [d1, d2, d3] }
  | _ => none }
def fnExactShareOfRow : OpenClaim := { program := "ytjkmnbelolgaeaa", sum := "6ac7698251d76ed8204f568d6cdb6a25d47484a44d8fbecc228a19a623993f0a", func := "loop.example/g03205/laws.FnExactShareOf", spec := "fnExactShareOf", apart := false }
def FnExactShareOfSaid : Prop := fnExactShareOfRow.holds Try.pinned (OpenSpec.ofChange fnExactShareOfSpec)

/-- ITS FALSE NEIGHBOUR: 'it returns false'. Refute it at one input. -/
def fnExactShareOfWrong : ChangeSpec := { name := "fnExactShareOf", fn := fun _ => fun
  | [d1, d2, d3] => { results := [.lit (.bool false)], args := [d1, d2, d3] }
  | _ => none }
def FnExactShareOfWrongFalsely : Prop := fnExactShareOfRow.holds Try.pinned (OpenSpec.ofChange fnExactShareOfWrong)

/-- 'laws.FnExactWaysFor': WHATEVER THE INPUT: true; the input reads as it did. -/
def fnExactWaysForSpec : ChangeSpec := { name := "fnExactWaysFor", fn := fun _ => fun
  | [d1, d2] => { results := [.lit (.bool true)], args := [d1, d2] }
  | _ => none }
def fnExactWaysForRow : OpenClaim := { program := "ytjkmnbelolgaeaa", sum := "6ac7698251d76ed8204f568d6cdb6a25d47484a44d8fbecc228a19a623993f0a", func := "loop.example/g03205/laws.FnExactWaysFor", spec := "fnExactWaysFor", apart := false }
def FnExactWaysForSaid : Prop := fnExactWaysForRow.holds Try.pinned (OpenSpec.ofChange fnExactWaysForSpec)

/-- ITS FALSE NEIGHBOUR: 'it returns false'. Refute it at one input. -/
def fnExactWaysForWrong : ChangeSpec := { name := "fnExactWaysFor", fn := fun _ => fun
  | [d1, d2] => { results := [.lit (.bool false)], args := [d1, d2] }
  | _ => none }
def FnExactWaysForWrongFalsely : Prop := fnExactWaysForRow.holds Try.pinned (OpenSpec.ofChange fnExactWaysForWrong)

/-- 'laws.FnExactEvenNeed': WHATEVER THE INPUT: true; the input reads as it did. -/
def fnExactEvenNeedSpec : ChangeSpec := { name := "fnExactEvenNeed", fn := fun _ => fun
  | [d1, d2] => { results := [.lit (.bool true)], args := [d1, d2] }
  | _ => none }
def fnExactEvenNeedRow : OpenClaim := { program := "ytjkmnbelolgaeaa", sum := "6ac7698251d76ed8204f568d6cdb6a25d47484a44d8fbecc228a19a623993f0a", func := "loop.example/g03205/laws.FnExactEvenNeed", spec := "fnExactEvenNeed", apart := false }
def FnExactEvenNeedSaid : Prop := fnExactEvenNeedRow.holds Try.pinned (OpenSpec.ofChange fnExactEvenNeedSpec)

/-- ITS FALSE NEIGHBOUR: 'it returns false'. Refute it at one input. -/
def fnExactEvenNeedWrong : ChangeSpec := { name := "fnExactEvenNeed", fn := fun _ => fun
  | [d1, d2] => { results := [.lit (.bool false)], args := [d1, d2] }
  | _ => none }
def FnExactEvenNeedWrongFalsely : Prop := fnExactEvenNeedRow.holds Try.pinned (OpenSpec.ofChange fnExactEvenNeedWrong)

/- THE SECOND FORM. 'bulk': how many values and letters a reading holds, each counted each time it is reached (what is shared counts as often as it is met; a slice's spare places count too). A statement '..UptoSaid' is the law's where the arguments, and the package variables that the reading takes, are together of bulk at most 1048576: NARROWER than '..Said'. Prove '..Said' where nothing that the law and all that it calls make is longer than what came in: it says more and counts as full. Else prove '..UptoSaid'. A law counts once. -/
mutual
def uptoBulk {H : Type} : DataW H → Nat
  | .lit (.string bytes) => bytes.length + 1
  | .lit _ => 1
  | .nil => 1
  | .ptr d => uptoBulk d + 1
  | .slice elems spare => uptoBulkAll elems + uptoBulkAll spare + 1
  | .agg parts => uptoBulkAll parts + 1
  | .iface _ d => uptoBulk d + 1
  | .map entries => uptoBulkEntries entries + 1
  | .held _ => 1
def uptoBulkAll {H : Type} : List (DataW H) → Nat
  | [] => 0
  | d :: r => uptoBulk d + uptoBulkAll r
def uptoBulkEntries {H : Type} : List (Lit × DataW H) → Nat
  | [] => 0
  | x :: r => uptoBulkEntry x + uptoBulkEntries r
def uptoBulkEntry {H : Type} : Lit × DataW H → Nat
  | (.string bytes, d) => bytes.length + uptoBulk d + 1
  | (_, d) => uptoBulk d + 1
 end
def uptoSmall : (H : Type) → List (DataW H) → Bool := fun _ ds => decide (uptoBulkAll ds ≤ 1048576)
def OpenSpec.upto (s : _root_.Go.ChangeSpec) : _root_.Go.OpenSpec := { _root_.Go.OpenSpec.ofChange s with cond := some uptoSmall }

/-- 'laws.FnExactNeedOf', WHERE WHAT IT READS IS OF BULK AT MOST 1048576: true; the input reads as it did. -/
def fnExactNeedOfUptoRow : OpenClaim := { program := "ytjkmnbelolgaeaa", sum := "6ac7698251d76ed8204f568d6cdb6a25d47484a44d8fbecc228a19a623993f0a", func := "loop.example/g03205/laws.FnExactNeedOf", spec := "fnExactNeedOf", apart := false, narrowed := true }
def FnExactNeedOfUptoSaid : Prop := fnExactNeedOfUptoRow.holds Try.pinned (OpenSpec.upto fnExactNeedOfSpec)

/-- 'laws.FnExactLongestMatch', WHERE WHAT IT READS IS OF BULK AT MOST 1048576: true; the input reads as it did. -/
def fnExactLongestMatchUptoRow : OpenClaim := { program := "ytjkmnbelolgaeaa", sum := "6ac7698251d76ed8204f568d6cdb6a25d47484a44d8fbecc228a19a623993f0a", func := "loop.example/g03205/laws.FnExactLongestMatch", spec := "fnExactLongestMatch", apart := false, narrowed := true }
def FnExactLongestMatchUptoSaid : Prop := fnExactLongestMatchUptoRow.holds Try.pinned (OpenSpec.upto fnExactLongestMatchSpec)

/-- 'laws.FnExactShortestMatch', WHERE WHAT IT READS IS OF BULK AT MOST 1048576: true; the input reads as it did. -/
def fnExactShortestMatchUptoRow : OpenClaim := { program := "ytjkmnbelolgaeaa", sum := "6ac7698251d76ed8204f568d6cdb6a25d47484a44d8fbecc228a19a623993f0a", func := "loop.example/g03205/laws.FnExactShortestMatch", spec := "fnExactShortestMatch", apart := false, narrowed := true }
def FnExactShortestMatchUptoSaid : Prop := fnExactShortestMatchUptoRow.holds Try.pinned (OpenSpec.upto fnExactShortestMatchSpec)

/-- 'laws.FnExactWaysIn', WHERE WHAT IT READS IS OF BULK AT MOST 1048576: true; the input reads as it did. -/
def fnExactWaysInUptoRow : OpenClaim := { program := "ytjkmnbelolgaeaa", sum := "6ac7698251d76ed8204f568d6cdb6a25d47484a44d8fbecc228a19a623993f0a", func := "loop.example/g03205/laws.FnExactWaysIn", spec := "fnExactWaysIn", apart := false, narrowed := true }
def FnExactWaysInUptoSaid : Prop := fnExactWaysInUptoRow.holds Try.pinned (OpenSpec.upto fnExactWaysInSpec)

/-- 'laws.FnExactShareOf', WHERE WHAT IT READS IS OF BULK AT MOST 1048576: true; the input reads as it did. -/
def fnExactShareOfUptoRow : OpenClaim := { program := "ytjkmnbelolgaeaa", sum := "6ac7698251d76ed8204f568d6cdb6a25d47484a44d8fbecc228a19a623993f0a", func := "loop.example/g03205/laws.FnExactShareOf", spec := "fnExactShareOf", apart := false, narrowed := true }
def FnExactShareOfUptoSaid : Prop := fnExactShareOfUptoRow.holds Try.pinned (OpenSpec.upto fnExactShareOfSpec)

/-- 'laws.FnExactWaysFor', WHERE WHAT IT READS IS OF BULK AT MOST 1048576: true; the input reads as it did. -/
def fnExactWaysForUptoRow : OpenClaim := { program := "ytjkmnbelolgaeaa", sum := "6ac7698251d76ed8204f568d6cdb6a25d47484a44d8fbecc228a19a623993f0a", func := "loop.example/g03205/laws.FnExactWaysFor", spec := "fnExactWaysFor", apart := false, narrowed := true }
def FnExactWaysForUptoSaid : Prop := fnExactWaysForUptoRow.holds Try.pinned (OpenSpec.upto fnExactWaysForSpec)

/-- 'laws.FnExactEvenNeed', WHERE WHAT IT READS IS OF BULK AT MOST 1048576: true; the input reads as it did. -/
def fnExactEvenNeedUptoRow : OpenClaim := { program := "ytjkmnbelolgaeaa", sum := "6ac7698251d76ed8204f568d6cdb6a25d47484a44d8fbecc228a19a623993f0a", func := "loop.example/g03205/laws.FnExactEvenNeed", spec := "fnExactEvenNeed", apart := false, narrowed := true }
def FnExactEvenNeedUptoSaid : Prop := fnExactEvenNeedUptoRow.holds Try.pinned (OpenSpec.upto fnExactEvenNeedSpec)

end Rows
end Go.Proofs.Ytjkmnbelolgaeaa
