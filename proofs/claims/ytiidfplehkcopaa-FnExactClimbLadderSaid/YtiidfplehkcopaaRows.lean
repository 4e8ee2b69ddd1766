/-
  No cell of these rows narrows 'for every input' (looked for: loops, veiled, ifaces, maps, wideKeys, modest, calm, conditions, laid).
  DERIVED. THE GIVEN ROWS OF THIS SEAT. 3 by the template 'for every input the law returns true; each argument reads behind the call as it read before'; 0 by the template 'total and deterministic' (their statements: YtiidfplehkcopaaTotals.lean).
  GIVEN WITH THE SEED: the statements are not yours to turn. If you find one false, say at which input.
  Laid BY PROGRAM, IN A SANDBOX (cutbox-rows.mjs): the forced cells as the released guide's own fill.sh prints them over the translation d8211325a8a5e747… (all of the seat's roots in one cut). By AI agents, Wed Nov 11 2026. No macro, syntax, notation, axiom, sorry.
-/
import Derived.Test.YtiidfplehkcopaaChecked
import GoSem.Claim
import GoSem.ClaimJoined
import GoSem.ClaimMapViews
import Derived.JoinedTies
import Derived.KernelRfl
namespace Go.Proofs.Ytiidfplehkcopaa
/- THE CELL 'sum', in the pinned program and in every row, IS THE sha256 OF THE DUMP (.gsa) THAT YtiidfplehkcopaaProg.lean LOADS. Nothing in Lean hashes anything: it is a label: what it is worth is what the hold of that sum in a sandbox is worth. -/
noncomputable def Try.pinned : Pinned := { name := "ytiidfplehkcopaa", sum := "d8211325a8a5e74748c67f403aae03994c6c1559e3d9104e9e3491c3fe98d90e", checked := Try.checked }
namespace Rows
def none {H : Type} : Left H := { results := [], args := [] }

/-- 'laws.FnExactAfterChallenge': WHATEVER THE INPUT: true; the input reads as it did. -/
def fnExactAfterChallengeSpec : ChangeSpec := { name := "fnExactAfterChallenge", fn := fun _ => fun
  | [d1, d2, d3] => { results := [.lit (.bool true)], args := [d1, d2, d3] }
  | _ => none }
def fnExactAfterChallengeRow : OpenClaim := { program := "ytiidfplehkcopaa", sum := "d8211325a8a5e74748c67f403aae03994c6c1559e3d9104e9e3491c3fe98d90e", func := "loop.example/g03205/laws.FnExactAfterChallenge", spec := "fnExactAfterChallenge", inPlace := ["slices.overlaps[int]"], apart := false }
def FnExactAfterChallengeSaid : Prop := fnExactAfterChallengeRow.holds Try.pinned (OpenSpec.ofChange fnExactAfterChallengeSpec)

/-- ITS FALSE NEIGHBOUR: 'it returns false'. Refute it at one input. -/
def fnExactAfterChallengeWrong : ChangeSpec := { name := "fnExactAfterChallenge", fn := fun _ => fun
  | [d1, d2, d3] => { results := [.lit (.bool false)], args := [d1, d2, d3] }
  | _ => none }
def FnExactAfterChallengeWrongFalsely : Prop := fnExactAfterChallengeRow.holds Try.pinned (OpenSpec.ofChange fnExactAfterChallengeWrong)

/-- 'laws.FnExactClimbLadder': WHATEVER THE INPUT: true; the input reads as it did. -/
def fnExactClimbLadderSpec : ChangeSpec := { name := "fnExactClimbLadder", fn := fun _ => fun
  | [d1, d2, d3] => { results := [.lit (.bool true)], args := [d1, d2, d3] }
  | _ => none }
def fnExactClimbLadderRow : OpenClaim := { program := "ytiidfplehkcopaa", sum := "d8211325a8a5e74748c67f403aae03994c6c1559e3d9104e9e3491c3fe98d90e", func := "loop.example/g03205/laws.FnExactClimbLadder", spec := "fnExactClimbLadder", inPlace := ["slices.overlaps[int]"], apart := false }
def FnExactClimbLadderSaid : Prop := fnExactClimbLadderRow.holds Try.pinned (OpenSpec.ofChange fnExactClimbLadderSpec)

/-- ITS FALSE NEIGHBOUR: 'it returns false'. Refute it at one input. -/
def fnExactClimbLadderWrong : ChangeSpec := { name := "fnExactClimbLadder", fn := fun _ => fun
  | [d1, d2, d3] => { results := [.lit (.bool false)], args := [d1, d2, d3] }
  | _ => none }
def FnExactClimbLadderWrongFalsely : Prop := fnExactClimbLadderRow.holds Try.pinned (OpenSpec.ofChange fnExactClimbLadderWrong)

/-- 'laws.FnExactSettleLadder': WHATEVER THE INPUT: true; the input reads as it did. -/
def fnExactSettleLadderSpec : ChangeSpec := { name := "fnExactSettleLadder", fn := fun _ => fun
  | [d1, d2] => { results := [.lit (.bool true)], args := [d1, d2] }
  | _ => none }
def fnExactSettleLadderRow : OpenClaim := { program := "ytiidfplehkcopaa", sum := "d8211325a8a5e74748c67f403aae03994c6c1559e3d9104e9e3491c3fe98d90e", func := "loop.example/g03205/laws.FnExactSettleLadder", spec := "fnExactSettleLadder", inPlace := ["slices.overlaps[int]"], unfollowed := true, recurses := true, apart := false }
def FnExactSettleLadderSaid : Prop := fnExactSettleLadderRow.holds Try.pinned (OpenSpec.ofChange fnExactSettleLadderSpec)

/-- ITS FALSE NEIGHBOUR: 'it returns false'. Refute it at one input. -/
def fnExactSettleLadderWrong : ChangeSpec := { name := "fnExactSettleLadder", fn := fun _ => fun
  | [d1, d2] => { results := [.lit (.bool false)], args := [d1, d2] }
  | _ => none }
def FnExactSettleLadderWrongFalsely : Prop := fnExactSettleLadderRow.holds Try.pinned (OpenSpec.ofChange fnExactSettleLadderWrong)

/- THE SECOND FORM. 'bulk': how many values and letters a reading holds, each counted each time it is reached (what is shared counts as often as it is met; a slice's spare places count too). A statement '..UptoSaid' is the law's where the arguments, and the package variables that the reading takes, are together of bulk at most 1048576: NARROWER than '..Said'. Prove '..Said' where nothing that the law and all that it calls make is longer than what came in: it says more and counts as full. Else prove '..UptoSaid'. A law counts once. -/
mutual
def uptoBulk {H : Type} : DataW H → Nat
  | .lit (.string bytes) => bytes.length + 1
  | .lit _ => 1
  | .nil => 1
  | .ptr d => uptoBulk d + 1
  | .slice elems spare => uptoBulkAll elems + uptoBulkAll spare + 1
  | .agg parts => uptoBulkAll parts + 1
  | .iface _ d => uptoBulk d + 1
  | .map entries => uptoBulkEntries entries + 1
  | .held _ => 1
def uptoBulkAll {H : Type} : List (DataW H) → Nat
  | [] => 0
  | d :: r => uptoBulk d + uptoBulkAll r
def uptoBulkEntries {H : Type} : List (Lit × DataW H) → Nat
  | [] => 0
  | x :: r => uptoBulkEntry x + uptoBulkEntries r
def uptoBulkEntry {H : Type} : Lit × DataW H → Nat
  | (.string bytes, d) => bytes.length + uptoBulk d + 1
  | (_, d) => uptoBulk d + 1
 end
def uptoSmall : (H : Type) → List (DataW H) → Bool := fun _ ds => decide (uptoBulkAll ds ≤ 1048576)
def OpenSpec.upto (s : _root_.Go.ChangeSpec) : _root_.Go.OpenSpec := { _root_.Go.OpenSpec.ofChange s with cond := some uptoSmall }

/-- 'laws.FnExactAfterChallenge', WHERE WHAT IT READS IS OF BULK AT MOST 1048576: true; the input reads as it did. -/
def fnExactAfterChallengeUptoRow : OpenClaim := { program := "ytiidfplehkcopaa", sum := "d8211325a8a5e74748c67f403aae03994c6c1559e3d9104e9e3491c3fe98d90e", func := "loop.example/g03205/laws.FnExactAfterChallenge", spec := "fnExactAfterChallenge", inPlace := ["slices.overlaps[int]"], apart := false, narrowed := true }
def FnExactAfterChallengeUptoSaid : Prop := fnExactAfterChallengeUptoRow.holds Try.pinned (OpenSpec.upto fnExactAfterChallengeSpec)

/-- 'laws.FnExactClimbLadder', WHERE WHAT IT READS IS OF BULK AT MOST 1048576: true; the input reads as it did. -/
def fnExactClimbLadderUptoRow : OpenClaim := { program := "ytiidfplehkcopaa", sum := "d8211325a8a5e74748c67f403aae03994c6c1559e3d9104e9e3491c3fe98d90e", func := "loop.example/g03205/laws.FnExactClimbLadder", spec := "fnExactClimbLadder", inPlace := ["slices.overlaps[int]"], apart := false, narrowed := true }
def FnExactClimbLadderUptoSaid : Prop := fnExactClimbLadderUptoRow.holds Try.pinned (OpenSpec.upto fnExactClimbLadderSpec)

/-- 'laws.FnExactSettleLadder', WHERE WHAT IT READS IS OF BULK AT MOST 1048576: true; the input reads as it did. -/
def fnExactSettleLadderUptoRow : OpenClaim := { program := "ytiidfplehkcopaa", sum := "d8211325a8a5e74748c67f403aae03994c6c1559e3d9104e9e3491c3fe98d90e", func := "loop.example/g03205/laws.FnExactSettleLadder", spec := "fnExactSettleLadder", inPlace := ["slices.overlaps[int]"], unfollowed := true, recurses := true, apart := false, narrowed := true }
def FnExactSettleLadderUptoSaid : Prop := fnExactSettleLadderUptoRow.holds Try.pinned (OpenSpec.upto fnExactSettleLadderSpec)

end Rows
end Go.Proofs.Ytiidfplehkcopaa
