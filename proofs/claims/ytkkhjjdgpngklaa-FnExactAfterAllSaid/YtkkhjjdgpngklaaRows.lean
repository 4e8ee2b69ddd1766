/-
  No cell of these rows narrows 'for every input' (looked for: loops, veiled, ifaces, maps, wideKeys, modest, calm, conditions, laid).
  DERIVED. THE GIVEN ROWS OF THIS SEAT. 10 by the template 'for every input the law returns true; each argument reads behind the call as it read before'; 0 by the template 'total and deterministic' (their statements: YtkkhjjdgpngklaaTotals.lean).
  GIVEN WITH THE SEED: the statements are not yours to turn. If you find one false, say at which input.
  Laid BY PROGRAM, IN A SANDBOX (cutbox-rows.mjs): the forced cells as the released guide's own fill.sh prints them over the translation bc55d4cb3176c5e8… (all of the seat's roots in one cut). By AI agents, Wed Nov 11 2026. No macro, syntax, notation, axiom, sorry.
-/
import Derived.Test.YtkkhjjdgpngklaaChecked
import GoSem.Claim
import GoSem.ClaimJoined
import GoSem.ClaimMapViews
import Derived.JoinedTies
import Derived.KernelRfl
namespace Go.Proofs.Ytkkhjjdgpngklaa
/- THE CELL 'sum', in the pinned program and in every row, IS THE sha256 OF THE DUMP (.gsa) THAT YtkkhjjdgpngklaaProg.lean LOADS. Nothing in Lean hashes anything: it is a label: what it is worth is what the hold of that sum in a sandbox is worth. -/
noncomputable def Try.pinned : Pinned := { name := "ytkkhjjdgpngklaa", sum := "bc55d4cb3176c5e857c6517a421da19a475cfba84b0136cdf3da00d1b9fb0b07", checked := Try.checked }
namespace Rows
def none {H : Type} : Left H := { results := [], args := [] }

/-- 'laws.FnExactExpectedScore': WHATEVER THE INPUT: true; the input reads as it did. -/
def fnExactExpectedScoreSpec : ChangeSpec := { name := "fnExactExpectedScore", fn := fun _ => fun
  | [d1, d2] => { results := [.lit (.bool true)], args := [d1, d2] }
  | _ => none }
def fnExactExpectedScoreRow : OpenClaim := { program := "ytkkhjjdgpngklaa", sum := "bc55d4cb3176c5e857c6517a421da19a475cfba84b0136cdf3da00d1b9fb0b07", func := "loop.example/g03205/laws.FnExactExpectedScore", spec := "fnExactExpectedScore", apart := false }
def FnExactExpectedScoreSaid : Prop := fnExactExpectedScoreRow.holds Try.pinned (OpenSpec.ofChange fnExactExpectedScoreSpec)

/-- ITS FALSE NEIGHBOUR: 'it returns false'. Refute it at one input. -/
def fnExactExpectedScoreWrong : ChangeSpec := { name := "fnExactExpectedScore", fn := fun _ => fun
  | [d1, d2] => { results := [.lit (.bool false)], args := [d1, d2] }
  | _ => none }
def FnExactExpectedScoreWrongFalsely : Prop := fnExactExpectedScoreRow.holds Try.pinned (OpenSpec.ofChange fnExactExpectedScoreWrong)

/-- 'laws.FnExactChangeFor': WHATEVER THE INPUT: true; the input reads as it did. -/
def fnExactChangeForSpec : ChangeSpec := { name := "fnExactChangeFor", fn := fun _ => fun
  | [d1, d2, d3, d4] => { results := [.lit (.bool true)], args := [d1, d2, d3, d4] }
  | _ => none }
def fnExactChangeForRow : OpenClaim := { program := "ytkkhjjdgpngklaa", sum := "bc55d4cb3176c5e857c6517a421da19a475cfba84b0136cdf3da00d1b9fb0b07", func := "loop.example/g03205/laws.FnExactChangeFor", spec := "fnExactChangeFor", apart := false }
def FnExactChangeForSaid : Prop := fnExactChangeForRow.holds Try.pinned (OpenSpec.ofChange fnExactChangeForSpec)

/-- ITS FALSE NEIGHBOUR: 'it returns false'. Refute it at one input. -/
def fnExactChangeForWrong : ChangeSpec := { name := "fnExactChangeFor", fn := fun _ => fun
  | [d1, d2, d3, d4] => { results := [.lit (.bool false)], args := [d1, d2, d3, d4] }
  | _ => none }
def FnExactChangeForWrongFalsely : Prop := fnExactChangeForRow.holds Try.pinned (OpenSpec.ofChange fnExactChangeForWrong)

/-- 'laws.FnExactRatingsOk': WHATEVER THE INPUT: true; the input reads as it did. -/
def fnExactRatingsOkSpec : ChangeSpec := { name := "fnExactRatingsOk", fn := fun _ => fun
  | [d] => { results := [.lit (.bool true)], args := [d] }
  | _ => none }
def fnExactRatingsOkRow : OpenClaim := { program := "ytkkhjjdgpngklaa", sum := "bc55d4cb3176c5e857c6517a421da19a475cfba84b0136cdf3da00d1b9fb0b07", func := "loop.example/g03205/laws.FnExactRatingsOk", spec := "fnExactRatingsOk", unfollowed := true, recurses := true, apart := false }
def FnExactRatingsOkSaid : Prop := fnExactRatingsOkRow.holds Try.pinned (OpenSpec.ofChange fnExactRatingsOkSpec)

/-- ITS FALSE NEIGHBOUR: 'it returns false'. Refute it at one input. -/
def fnExactRatingsOkWrong : ChangeSpec := { name := "fnExactRatingsOk", fn := fun _ => fun
  | [d] => { results := [.lit (.bool false)], args := [d] }
  | _ => none }
def FnExactRatingsOkWrongFalsely : Prop := fnExactRatingsOkRow.holds Try.pinned (OpenSpec.ofChange fnExactRatingsOkWrong)

/-- 'laws.FnExactSumOfRatings': WHATEVER THE INPUT: true; the input reads as it did. -/
def fnExactSumOfRatingsSpec : ChangeSpec := { name := "fnExactSumOfRatings", fn := fun _ => fun
  | [d] => { results := [.lit (.bool true)], args := [d] }
  | _ => none }
def fnExactSumOfRatingsRow : OpenClaim := { program := "ytkkhjjdgpngklaa", sum := "bc55d4cb3176c5e857c6517a421da19a475cfba84b0136cdf3da00d1b9fb0b07", func := "loop.example/g03205/laws.FnExactSumOfRatings", spec := "fnExactSumOfRatings", unfollowed := true, recurses := true, apart := false }
def FnExactSumOfRatingsSaid : Prop := fnExactSumOfRatingsRow.holds Try.pinned (OpenSpec.ofChange fnExactSumOfRatingsSpec)

/-- ITS FALSE NEIGHBOUR: 'it returns false'. Refute it at one input. -/
def fnExactSumOfRatingsWrong : ChangeSpec := { name := "fnExactSumOfRatings", fn := fun _ => fun
  | [d] => { results := [.lit (.bool false)], args := [d] }
  | _ => none }
def FnExactSumOfRatingsWrongFalsely : Prop := fnExactSumOfRatingsRow.holds Try.pinned (OpenSpec.ofChange fnExactSumOfRatingsWrong)

/-- 'laws.FnExactGamesRated': WHATEVER THE INPUT: true; the input reads as it did. -/
def fnExactGamesRatedSpec : ChangeSpec := { name := "fnExactGamesRated", fn := fun _ => fun
  | [d1, d2] => { results := [.lit (.bool true)], args := [d1, d2] }
  | _ => none }
def fnExactGamesRatedRow : OpenClaim := { program := "ytkkhjjdgpngklaa", sum := "bc55d4cb3176c5e857c6517a421da19a475cfba84b0136cdf3da00d1b9fb0b07", func := "loop.example/g03205/laws.FnExactGamesRated", spec := "fnExactGamesRated", unfollowed := true, recurses := true, apart := false }
def FnExactGamesRatedSaid : Prop := fnExactGamesRatedRow.holds Try.pinned (OpenSpec.ofChange fnExactGamesRatedSpec)

/-- ITS FALSE NEIGHBOUR: 'it returns false'. Refute it at one input. -/
def fnExactGamesRatedWrong : ChangeSpec := { name := "fnExactGamesRated", fn := fun _ => fun
  | [d1, d2] => { results := [.lit (.bool false)], args := [d1, d2] }
  | _ => none }
def FnExactGamesRatedWrongFalsely : Prop := fnExactGamesRatedRow.holds Try.pinned (OpenSpec.ofChange fnExactGamesRatedWrong)

/-- 'laws.FnExactAfterGame': WHATEVER THE INPUT: true; the input reads as it did. -/
def fnExactAfterGameSpec : ChangeSpec := { name := "fnExactAfterGame", fn := fun _ => fun
  | [d1, d2, d3] => { results := [.lit (.bool true)], args := [d1, d2, d3] }
  | _ => none }
def fnExactAfterGameRow : OpenClaim := { program := "ytkkhjjdgpngklaa", sum := "bc55d4cb3176c5e857c6517a421da19a475cfba84b0136cdf3da00d1b9fb0b07", func := "loop.example/g03205/laws.FnExactAfterGame", spec := "fnExactAfterGame", unfollowed := true, recurses := true, apart := false }
def FnExactAfterGameSaid : Prop := fnExactAfterGameRow.holds Try.pinned (OpenSpec.ofChange fnExactAfterGameSpec)

/-- ITS FALSE NEIGHBOUR: 'it returns false'. Refute it at one input. -/
def fnExactAfterGameWrong : ChangeSpec := { name := "fnExactAfterGame", fn := fun _ => fun
  | [d1, d2, d3] => { results := [.lit (.bool false)], args := [d1, d2, d3] }
  | _ => none }
def FnExactAfterGameWrongFalsely : Prop := fnExactAfterGameRow.holds Try.pinned (OpenSpec.ofChange fnExactAfterGameWrong)

/-- 'laws.FnExactPerformanceOf': WHATEVER THE INPUT: true; the input reads as it did. -/
def fnExactPerformanceOfSpec : ChangeSpec := { name := "fnExactPerformanceOf", fn := fun _ => fun
  | [d1, d2, d3] => { results := [.lit (.bool true)], args := [d1, d2, d3] }
  | _ => none }
def fnExactPerformanceOfRow : OpenClaim := { program := "ytkkhjjdgpngklaa", sum := "bc55d4cb3176c5e857c6517a421da19a475cfba84b0136cdf3da00d1b9fb0b07", func := "loop.example/g03205/laws.FnExactPerformanceOf", spec := "fnExactPerformanceOf", unfollowed := true, recurses := true, apart := false }
def FnExactPerformanceOfSaid : Prop := fnExactPerformanceOfRow.holds Try.pinned (OpenSpec.ofChange fnExactPerformanceOfSpec)

/-- ITS FALSE NEIGHBOUR: 'it returns false'. Refute it at one input. -/
def fnExactPerformanceOfWrong : ChangeSpec := { name := "fnExactPerformanceOf", fn := fun _ => fun
  | [d1, d2, d3] => { results := [.lit (.bool false)], args := [d1, d2, d3] }
  | _ => none }
def FnExactPerformanceOfWrongFalsely : Prop := fnExactPerformanceOfRow.holds Try.pinned (OpenSpec.ofChange fnExactPerformanceOfWrong)

/-- 'laws.FnExactAtOnce': WHATEVER THE INPUT: true; the input reads as it did. -/
def fnExactAtOnceSpec : ChangeSpec := { name := "fnExactAtOnce", fn := fun _ => fun
  | [d1, d2, d3] => { results := [.lit (.bool true)], args := [d1, d2, d3] }
  | _ => none }
def fnExactAtOnceRow : OpenClaim := { program := "ytkkhjjdgpngklaa", sum := "bc55d4cb3176c5e857c6517a421da19a475cfba84b0136cdf3da00d1b9fb0b07", func := "loop.example/g03205/laws.FnExactAtOnce", spec := "fnExactAtOnce", unfollowed := true, recurses := true, apart := false }
def FnExactAtOnceSaid : Prop := fnExactAtOnceRow.holds Try.pinned (OpenSpec.ofChange fnExactAtOnceSpec)

/-- ITS FALSE NEIGHBOUR: 'it returns false'. Refute it at one input. -/
def fnExactAtOnceWrong : ChangeSpec := { name := "fnExactAtOnce", fn := fun _ => fun
  | [d1, d2, d3] => { results := [.lit (.bool false)], args := [d1, d2, d3] }
  | _ => none }
def FnExactAtOnceWrongFalsely : Prop := fnExactAtOnceRow.holds Try.pinned (OpenSpec.ofChange fnExactAtOnceWrong)

/-- 'laws.FnExactAfterAll': WHATEVER THE INPUT: true; the input reads as it did. -/
def fnExactAfterAllSpec : ChangeSpec := { name := "fnExactAfterAll", fn := fun _ => fun
  | [d1, d2, d3] => { results := [.lit (.bool true)], args := [d1, d2, d3] }
  | _ => none }
def fnExactAfterAllRow : OpenClaim := { program := "ytkkhjjdgpngklaa", sum := "bc55d4cb3176c5e857c6517a421da19a475cfba84b0136cdf3da00d1b9fb0b07", func := "loop.example/g03205/laws.FnExactAfterAll", spec := "fnExactAfterAll", unfollowed := true, recurses := true, apart := false }
def FnExactAfterAllSaid : Prop := fnExactAfterAllRow.holds Try.pinned (OpenSpec.ofChange fnExactAfterAllSpec)

/-- ITS FALSE NEIGHBOUR: 'it returns false'. Refute it at one input. -/
def fnExactAfterAllWrong : ChangeSpec := { name := "fnExactAfterAll", fn := fun _ => fun
  | [d1, d2, d3] => { results := [.lit (.bool false)], args := [d1, d2, d3] }
  | _ => none }
def FnExactAfterAllWrongFalsely : Prop := fnExactAfterAllRow.holds Try.pinned (OpenSpec.ofChange fnExactAfterAllWrong)

/-- 'laws.FnRatings': WHATEVER THE INPUT: true; the input reads as it did. -/
def fnRatingsSpec : ChangeSpec := { name := "fnRatings", fn := fun _ => fun
  | [d] => { results := [.lit (.bool true)], args := [d] }
  | _ => none }
def fnRatingsRow : OpenClaim := { program := "ytkkhjjdgpngklaa", sum := "bc55d4cb3176c5e857c6517a421da19a475cfba84b0136cdf3da00d1b9fb0b07", func := "loop.example/g03205/laws.FnRatings", spec := "fnRatings", unfollowed := true, recurses := true, apart := false }
def FnRatingsSaid : Prop := fnRatingsRow.holds Try.pinned (OpenSpec.ofChange fnRatingsSpec)

/-- ITS FALSE NEIGHBOUR: 'it returns false'. Refute it at one input. -/
def fnRatingsWrong : ChangeSpec := { name := "fnRatings", fn := fun _ => fun
  | [d] => { results := [.lit (.bool false)], args := [d] }
  | _ => none }
def FnRatingsWrongFalsely : Prop := fnRatingsRow.holds Try.pinned (OpenSpec.ofChange fnRatingsWrong)

/- THE SECOND FORM. 'bulk': how many values and letters a reading holds, each counted each time it is reached (what is shared counts as often as it is met; a slice's spare places count too). A statement '..UptoSaid' is the law's where the arguments, and the package variables that the reading takes, are together of bulk at most 1048576: NARROWER than '..Said'. Prove '..Said' where nothing that the law and all that it calls make is longer than what came in: it says more and counts as full. Else prove '..UptoSaid'. A law counts once. -/
mutual
def uptoBulk {H : Type} : DataW H → Nat
  | .lit (.string bytes) => bytes.length + 1
  | .lit _ => 1
  | .nil => 1
  | .ptr d => uptoBulk d + 1
  | .slice elems spare => uptoBulkAll elems + uptoBulkAll spare + 1
  | .agg parts => uptoBulkAll parts + 1
  | .iface _ d => uptoBulk d + 1
  | .map entries => uptoBulkEntries entries + 1
  | .held _ => 1
def uptoBulkAll {H : Type} : List (DataW H) → Nat
  | [] => 0
  | d :: r => uptoBulk d + uptoBulkAll r
def uptoBulkEntries {H : Type} : List (Lit × DataW H) → Nat
  | [] => 0
  | x :: r => uptoBulkEntry x + uptoBulkEntries r
def uptoBulkEntry {H : Type} : Lit × DataW H → Nat
  | (.string bytes, d) => bytes.length + uptoBulk d + 1
  | (_, d) => uptoBulk d + 1
 end
def uptoSmall : (H : Type) → List (DataW H) → Bool := fun _ ds => decide (uptoBulkAll ds ≤ 1048576)
def OpenSpec.upto (s : _root_.Go.ChangeSpec) : _root_.Go.OpenSpec := { _root_.Go.OpenSpec.ofChange s with cond := some uptoSmall }

/-- 'laws.FnExactExpectedScore', WHERE WHAT IT READS IS OF BULK AT MOST 1048576: true; the input reads as it did. -/
def fnExactExpectedScoreUptoRow : OpenClaim := { program := "ytkkhjjdgpngklaa", sum := "bc55d4cb3176c5e857c6517a421da19a475cfba84b0136cdf3da00d1b9fb0b07", func := "loop.example/g03205/laws.FnExactExpectedScore", spec := "fnExactExpectedScore", apart := false, narrowed := true }
def FnExactExpectedScoreUptoSaid : Prop := fnExactExpectedScoreUptoRow.holds Try.pinned (OpenSpec.upto fnExactExpectedScoreSpec)

/-- 'laws.FnExactChangeFor', WHERE WHAT IT READS IS OF BULK AT MOST 1048576: true; the input reads as it did. -/
def fnExactChangeForUptoRow : OpenClaim := { program := "ytkkhjjdgpngklaa", sum := "bc55d4cb3176c5e857c6517a421da19a475cfba84b0136cdf3da00d1b9fb0b07", func := "loop.example/g03205/laws.FnExactChangeFor", spec := "fnExactChangeFor", apart := false, narrowed := true }
def FnExactChangeForUptoSaid : Prop := fnExactChangeForUptoRow.holds Try.pinned (OpenSpec.upto fnExactChangeForSpec)

/-- 'laws.FnExactRatingsOk', WHERE WHAT IT READS IS OF BULK AT MOST 1048576: true; the input reads as it did. -/
def fnExactRatingsOkUptoRow : OpenClaim := { program := "ytkkhjjdgpngklaa", sum := "bc55d4cb3176c5e857c6517a421da19a475cfba84b0136cdf3da00d1b9fb0b07", func := "loop.example/g03205/laws.FnExactRatingsOk", spec := "fnExactRatingsOk", unfollowed := true, recurses := true, apart := false, narrowed := true }
def FnExactRatingsOkUptoSaid : Prop := fnExactRatingsOkUptoRow.holds Try.pinned (OpenSpec.upto fnExactRatingsOkSpec)

/-- 'laws.FnExactSumOfRatings', WHERE WHAT IT READS IS OF BULK AT MOST 1048576: true; the input reads as it did. -/
def fnExactSumOfRatingsUptoRow : OpenClaim := { program := "ytkkhjjdgpngklaa", sum := "bc55d4cb3176c5e857c6517a421da19a475cfba84b0136cdf3da00d1b9fb0b07", func := "loop.example/g03205/laws.FnExactSumOfRatings", spec := "fnExactSumOfRatings", unfollowed := true, recurses := true, apart := false, narrowed := true }
def FnExactSumOfRatingsUptoSaid : Prop := fnExactSumOfRatingsUptoRow.holds Try.pinned (OpenSpec.upto fnExactSumOfRatingsSpec)

/-- 'laws.FnExactGamesRated', WHERE WHAT IT READS IS OF BULK AT MOST 1048576: true; the input reads as it did. -/
def fnExactGamesRatedUptoRow : OpenClaim := { program := "ytkkhjjdgpngklaa", sum := "bc55d4cb3176c5e857c6517a421da19a475cfba84b0136cdf3da00d1b9fb0b07", func := "loop.example/g03205/laws.FnExactGamesRated", spec := "fnExactGamesRated", unfollowed := true, recurses := true, apart := false, narrowed := true }
def FnExactGamesRatedUptoSaid : Prop := fnExactGamesRatedUptoRow.holds Try.pinned (OpenSpec.upto fnExactGamesRatedSpec)

/-- 'laws.FnExactAfterGame', WHERE WHAT IT READS IS OF BULK AT MOST 1048576: true; the input reads as it did. -/
def fnExactAfterGameUptoRow : OpenClaim := { program := "ytkkhjjdgpngklaa", sum := "bc55d4cb3176c5e857c6517a421da19a475cfba84b0136cdf3da00d1b9fb0b07", func := "loop.example/g03205/laws.FnExactAfterGame", spec := "fnExactAfterGame", unfollowed := true, recurses := true, apart := false, narrowed := true }
def FnExactAfterGameUptoSaid : Prop := fnExactAfterGameUptoRow.holds Try.pinned (OpenSpec.upto fnExactAfterGameSpec)

/-- 'laws.FnExactPerformanceOf', WHERE WHAT IT READS IS OF BULK AT MOST 1048576: true; the input reads as it did. -/
def fnExactPerformanceOfUptoRow : OpenClaim := { program := "ytkkhjjdgpngklaa", sum := "bc55d4cb3176c5e857c6517a421da19a475cfba84b0136cdf3da00d1b9fb0b07", func := "loop.example/g03205/laws.FnExactPerformanceOf", spec := "fnExactPerformanceOf", unfollowed := true, recurses := true, apart := false, narrowed := true }
def FnExactPerformanceOfUptoSaid : Prop := fnExactPerformanceOfUptoRow.holds Try.pinned (OpenSpec.upto fnExactPerformanceOfSpec)

/-- 'laws.FnExactAtOnce', WHERE WHAT IT READS IS OF BULK AT MOST 1048576: true; the input reads as it did. -/
def fnExactAtOnceUptoRow : OpenClaim := { program := "ytkkhjjdgpngklaa", sum := "bc55d4cb3176c5e857c6517a421da19a475cfba84b0136cdf3da00d1b9fb0b07", func := "loop.example/g03205/laws.FnExactAtOnce", spec := "fnExactAtOnce", unfollowed := true, recurses := true, apart := false, narrowed := true }
def FnExactAtOnceUptoSaid : Prop := fnExactAtOnceUptoRow.holds Try.pinned (OpenSpec.upto fnExactAtOnceSpec)

/-- 'laws.FnExactAfterAll', WHERE WHAT IT READS IS OF BULK AT MOST 1048576: true; the input reads as it did. -/
def fnExactAfterAllUptoRow : OpenClaim := { program := "ytkkhjjdgpngklaa", sum := "bc55d4cb3176c5e857c6517a421da19a475cfba84b0136cdf3da00d1b9fb0b07", func := "loop.example/g03205/laws.FnExactAfterAll", spec := "fnExactAfterAll", unfollowed := true, recurses := true, apart := false, narrowed := true }
def FnExactAfterAllUptoSaid : Prop := fnExactAfterAllUptoRow.holds Try.pinned (OpenSpec.upto fnExactAfterAllSpec)

/-- 'laws.FnRatings', WHERE WHAT IT READS IS OF BULK AT MOST 1048576: true; the input reads as it did. -/
def fnRatingsUptoRow : OpenClaim := { program := "ytkkhjjdgpngklaa", sum := "bc55d4cb3176c5e857c6517a421da19a475cfba84b0136cdf3da00d1b9fb0b07", func := "loop.example/g03205/laws.FnRatings", spec := "fnRatings", unfollowed := true, recurses := true, apart := false, narrowed := true }
def FnRatingsUptoSaid : Prop := fnRatingsUptoRow.holds Try.pinned (OpenSpec.upto fnRatingsSpec)

end Rows
end Go.Proofs.Ytkkhjjdgpngklaa
