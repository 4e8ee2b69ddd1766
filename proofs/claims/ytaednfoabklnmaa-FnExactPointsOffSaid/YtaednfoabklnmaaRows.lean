/-
  No cell of these rows narrows 'for every input' (looked for: loops, veiled, ifaces, maps, wideKeys, modest, calm, conditions, laid).
  DERIVED. THE GIVEN ROWS OF THIS SEAT. 11 by the template 'for every input the law returns true; each argument reads behind the call as it read before'; 0 by the template 'total and deterministic' (their statements: YtaednfoabklnmaaTotals.lean).
  GIVEN WITH THE SEED: the statements are not yours to turn. If you find one false, say at which input.
  Laid BY PROGRAM, IN A SANDBOX (cutbox-rows.mjs): the forced cells as the released guide's own fill.sh prints them over the translation d617f1f7f562abfe… (all of the seat's roots in one cut). By AI agents, Wed Nov 11 2026. No macro, syntax, notation, axiom, sorry.
-/
import Derived.Test.YtaednfoabklnmaaChecked
import GoSem.Claim
import GoSem.ClaimJoined
import GoSem.ClaimMapViews
import Derived.JoinedTies
import Derived.KernelRfl
namespace Go.Proofs.Ytaednfoabklnmaa
/- THE CELL 'sum', in the pinned program and in every row, IS THE sha256 OF THE DUMP (.gsa) THAT YtaednfoabklnmaaProg.lean LOADS. Nothing in Lean hashes anything: it is a label: what it is worth is what the hold of that sum in a sandbox is worth. -/
noncomputable def Try.pinned : Pinned := { name := "ytaednfoabklnmaa", sum := "d617f1f7f562abfe24972d12340408877f380b8bacdbb5ec295d8dce448d49c4", checked := Try.checked }
namespace Rows
def none {H : Type} : Left H := { results := [], args := [] }

/-- 'laws.FnExactReplaceResult': WHATEVER THE INPUT: true; the input reads as it did. -/
def fnExactReplaceResultSpec : ChangeSpec := { name := "fnExactReplaceResult", fn := fun _ => fun
  | [d1, d2, d3, d4] => { results := [.lit (.bool true)], args := [d1, d2, d3, d4] }
  | _ => none }
def fnExactReplaceResultRow : OpenClaim := { program := "ytaednfoabklnmaa", sum := "d617f1f7f562abfe24972d12340408877f380b8bacdbb5ec295d8dce448d49c4", func := "loop.example/g03205/laws.FnExactReplaceResult", spec := "fnExactReplaceResult", unfollowed := true, recurses := true, apart := false }
def FnExactReplaceResultSaid : Prop := fnExactReplaceResultRow.holds Try.pinned (OpenSpec.ofChange fnExactReplaceResultSpec)

/-- ITS FALSE NEIGHBOUR: 'it returns false'. Refute it at one input. -/
def fnExactReplaceResultWrong : ChangeSpec := { name := "fnExactReplaceResult", fn := fun _ => fun
  | [d1, d2, d3, d4] => { results := [.lit (.bool false)], args := [d1, d2, d3, d4] }
  | _ => none }
def FnExactReplaceResultWrongFalsely : Prop := fnExactReplaceResultRow.holds Try.pinned (OpenSpec.ofChange fnExactReplaceResultWrong)

/-- 'laws.FnExactRemoveResult': WHATEVER THE INPUT: true; the input reads as it did. -/
def fnExactRemoveResultSpec : ChangeSpec := { name := "fnExactRemoveResult", fn := fun _ => fun
  | [d1, d2] => { results := [.lit (.bool true)], args := [d1, d2] }
  | _ => none }
def fnExactRemoveResultRow : OpenClaim := { program := "ytaednfoabklnmaa", sum := "d617f1f7f562abfe24972d12340408877f380b8bacdbb5ec295d8dce448d49c4", func := "loop.example/g03205/laws.FnExactRemoveResult", spec := "fnExactRemoveResult", unfollowed := true, recurses := true, apart := false }
def FnExactRemoveResultSaid : Prop := fnExactRemoveResultRow.holds Try.pinned (OpenSpec.ofChange fnExactRemoveResultSpec)

/-- ITS FALSE NEIGHBOUR: 'it returns false'. Refute it at one input. -/
def fnExactRemoveResultWrong : ChangeSpec := { name := "fnExactRemoveResult", fn := fun _ => fun
  | [d1, d2] => { results := [.lit (.bool false)], args := [d1, d2] }
  | _ => none }
def FnExactRemoveResultWrongFalsely : Prop := fnExactRemoveResultRow.holds Try.pinned (OpenSpec.ofChange fnExactRemoveResultWrong)

/-- 'laws.FnExactForfeitResult': WHATEVER THE INPUT: true; the input reads as it did. -/
def fnExactForfeitResultSpec : ChangeSpec := { name := "fnExactForfeitResult", fn := fun _ => fun
  | [d1, d2, d3] => { results := [.lit (.bool true)], args := [d1, d2, d3] }
  | _ => none }
def fnExactForfeitResultRow : OpenClaim := { program := "ytaednfoabklnmaa", sum := "d617f1f7f562abfe24972d12340408877f380b8bacdbb5ec295d8dce448d49c4", func := "loop.example/g03205/laws.FnExactForfeitResult", spec := "fnExactForfeitResult", unfollowed := true, recurses := true, apart := false }
def FnExactForfeitResultSaid : Prop := fnExactForfeitResultRow.holds Try.pinned (OpenSpec.ofChange fnExactForfeitResultSpec)

/-- ITS FALSE NEIGHBOUR: 'it returns false'. Refute it at one input. -/
def fnExactForfeitResultWrong : ChangeSpec := { name := "fnExactForfeitResult", fn := fun _ => fun
  | [d1, d2, d3] => { results := [.lit (.bool false)], args := [d1, d2, d3] }
  | _ => none }
def FnExactForfeitResultWrongFalsely : Prop := fnExactForfeitResultRow.holds Try.pinned (OpenSpec.ofChange fnExactForfeitResultWrong)

/-- 'laws.FnExactCorrectAll': WHATEVER THE INPUT: true; the input reads as it did. -/
def fnExactCorrectAllSpec : ChangeSpec := { name := "fnExactCorrectAll", fn := fun _ => fun
  | [d1, d2] => { results := [.lit (.bool true)], args := [d1, d2] }
  | _ => none }
def fnExactCorrectAllRow : OpenClaim := { program := "ytaednfoabklnmaa", sum := "d617f1f7f562abfe24972d12340408877f380b8bacdbb5ec295d8dce448d49c4", func := "loop.example/g03205/laws.FnExactCorrectAll", spec := "fnExactCorrectAll", unfollowed := true, recurses := true, apart := false }
def FnExactCorrectAllSaid : Prop := fnExactCorrectAllRow.holds Try.pinned (OpenSpec.ofChange fnExactCorrectAllSpec)

/-- ITS FALSE NEIGHBOUR: 'it returns false'. Refute it at one input. -/
def fnExactCorrectAllWrong : ChangeSpec := { name := "fnExactCorrectAll", fn := fun _ => fun
  | [d1, d2] => { results := [.lit (.bool false)], args := [d1, d2] }
  | _ => none }
def FnExactCorrectAllWrongFalsely : Prop := fnExactCorrectAllRow.holds Try.pinned (OpenSpec.ofChange fnExactCorrectAllWrong)

/-- 'laws.FnExactMovedClubs': WHATEVER THE INPUT: true; the input reads as it did. -/
def fnExactMovedClubsSpec : ChangeSpec := { name := "fnExactMovedClubs", fn := fun _ => fun
  | [d1, d2] => { results := [.lit (.bool true)], args := [d1, d2] }
  | _ => none }
def fnExactMovedClubsRow : OpenClaim := { program := "ytaednfoabklnmaa", sum := "d617f1f7f562abfe24972d12340408877f380b8bacdbb5ec295d8dce448d49c4", func := "loop.example/g03205/laws.FnExactMovedClubs", spec := "fnExactMovedClubs", unfollowed := true, recurses := true, apart := false }
def FnExactMovedClubsSaid : Prop := fnExactMovedClubsRow.holds Try.pinned (OpenSpec.ofChange fnExactMovedClubsSpec)

/-- ITS FALSE NEIGHBOUR: 'it returns false'. Refute it at one input. -/
def fnExactMovedClubsWrong : ChangeSpec := { name := "fnExactMovedClubs", fn := fun _ => fun
  | [d1, d2] => { results := [.lit (.bool false)], args := [d1, d2] }
  | _ => none }
def FnExactMovedClubsWrongFalsely : Prop := fnExactMovedClubsRow.holds Try.pinned (OpenSpec.ofChange fnExactMovedClubsWrong)

/-- 'laws.FnExactTableAfter': WHATEVER THE INPUT: true; the input reads as it did. -/
def fnExactTableAfterSpec : ChangeSpec := { name := "fnExactTableAfter", fn := fun _ => fun
  | [d1, d2] => { results := [.lit (.bool true)], args := [d1, d2] }
  | _ => none }
def fnExactTableAfterRow : OpenClaim := { program := "ytaednfoabklnmaa", sum := "d617f1f7f562abfe24972d12340408877f380b8bacdbb5ec295d8dce448d49c4", func := "loop.example/g03205/laws.FnExactTableAfter", spec := "fnExactTableAfter", unfollowed := true, recurses := true, apart := false }
def FnExactTableAfterSaid : Prop := fnExactTableAfterRow.holds Try.pinned (OpenSpec.ofChange fnExactTableAfterSpec)

/-- ITS FALSE NEIGHBOUR: 'it returns false'. Refute it at one input. -/
def fnExactTableAfterWrong : ChangeSpec := { name := "fnExactTableAfter", fn := fun _ => fun
  | [d1, d2] => { results := [.lit (.bool false)], args := [d1, d2] }
  | _ => none }
def FnExactTableAfterWrongFalsely : Prop := fnExactTableAfterRow.holds Try.pinned (OpenSpec.ofChange fnExactTableAfterWrong)

/-- 'laws.FnExactLeadChanges': WHATEVER THE INPUT: true; the input reads as it did. -/
def fnExactLeadChangesSpec : ChangeSpec := { name := "fnExactLeadChanges", fn := fun _ => fun
  | [d] => { results := [.lit (.bool true)], args := [d] }
  | _ => none }
def fnExactLeadChangesRow : OpenClaim := { program := "ytaednfoabklnmaa", sum := "d617f1f7f562abfe24972d12340408877f380b8bacdbb5ec295d8dce448d49c4", func := "loop.example/g03205/laws.FnExactLeadChanges", spec := "fnExactLeadChanges", unfollowed := true, recurses := true, apart := false }
def FnExactLeadChangesSaid : Prop := fnExactLeadChangesRow.holds Try.pinned (OpenSpec.ofChange fnExactLeadChangesSpec)

/-- ITS FALSE NEIGHBOUR: 'it returns false'. Refute it at one input. -/
def fnExactLeadChangesWrong : ChangeSpec := { name := "fnExactLeadChanges", fn := fun _ => fun
  | [d] => { results := [.lit (.bool false)], args := [d] }
  | _ => none }
def FnExactLeadChangesWrongFalsely : Prop := fnExactLeadChangesRow.holds Try.pinned (OpenSpec.ofChange fnExactLeadChangesWrong)

/-- 'laws.FnExactLeadersOf': WHATEVER THE INPUT: true; the input reads as it did. -/
def fnExactLeadersOfSpec : ChangeSpec := { name := "fnExactLeadersOf", fn := fun _ => fun
  | [d] => { results := [.lit (.bool true)], args := [d] }
  | _ => none }
def fnExactLeadersOfRow : OpenClaim := { program := "ytaednfoabklnmaa", sum := "d617f1f7f562abfe24972d12340408877f380b8bacdbb5ec295d8dce448d49c4", func := "loop.example/g03205/laws.FnExactLeadersOf", spec := "fnExactLeadersOf", unfollowed := true, recurses := true, apart := false }
def FnExactLeadersOfSaid : Prop := fnExactLeadersOfRow.holds Try.pinned (OpenSpec.ofChange fnExactLeadersOfSpec)

/-- ITS FALSE NEIGHBOUR: 'it returns false'. Refute it at one input. -/
def fnExactLeadersOfWrong : ChangeSpec := { name := "fnExactLeadersOf", fn := fun _ => fun
  | [d] => { results := [.lit (.bool false)], args := [d] }
  | _ => none }
def FnExactLeadersOfWrongFalsely : Prop := fnExactLeadersOfRow.holds Try.pinned (OpenSpec.ofChange fnExactLeadersOfWrong)

/-- 'laws.FnExactPointsOff': WHATEVER THE INPUT: true; the input reads as it did. -/
def fnExactPointsOffSpec : ChangeSpec := { name := "fnExactPointsOff", fn := fun _ => fun
  | [d1, d2] => { results := [.lit (.bool true)], args := [d1, d2] }
  | _ => none }
def fnExactPointsOffRow : OpenClaim := { program := "ytaednfoabklnmaa", sum := "d617f1f7f562abfe24972d12340408877f380b8bacdbb5ec295d8dce448d49c4", func := "loop.example/g03205/laws.FnExactPointsOff", spec := "fnExactPointsOff", unfollowed := true, recurses := true, apart := false }
def FnExactPointsOffSaid : Prop := fnExactPointsOffRow.holds Try.pinned (OpenSpec.ofChange fnExactPointsOffSpec)

/-- ITS FALSE NEIGHBOUR: 'it returns false'. Refute it at one input. -/
def fnExactPointsOffWrong : ChangeSpec := { name := "fnExactPointsOff", fn := fun _ => fun
  | [d1, d2] => { results := [.lit (.bool false)], args := [d1, d2] }
  | _ => none }
def FnExactPointsOffWrongFalsely : Prop := fnExactPointsOffRow.holds Try.pinned (OpenSpec.ofChange fnExactPointsOffWrong)

/-- 'laws.FnExactPlacesIn': WHATEVER THE INPUT: true; the input reads as it did. -/
def fnExactPlacesInSpec : ChangeSpec := { name := "fnExactPlacesIn", fn := fun _ => fun
  | [d1, d2] => { results := [.lit (.bool true)], args := [d1, d2] }
  | _ => none }
def fnExactPlacesInRow : OpenClaim := { program := "ytaednfoabklnmaa", sum := "d617f1f7f562abfe24972d12340408877f380b8bacdbb5ec295d8dce448d49c4", func := "loop.example/g03205/laws.FnExactPlacesIn", spec := "fnExactPlacesIn", unfollowed := true, recurses := true, apart := false }
def FnExactPlacesInSaid : Prop := fnExactPlacesInRow.holds Try.pinned (OpenSpec.ofChange fnExactPlacesInSpec)

/-- ITS FALSE NEIGHBOUR: 'it returns false'. Refute it at one input. -/
def fnExactPlacesInWrong : ChangeSpec := { name := "fnExactPlacesIn", fn := fun _ => fun
  | [d1, d2] => { results := [.lit (.bool false)], args := [d1, d2] }
  | _ => none }
def FnExactPlacesInWrongFalsely : Prop := fnExactPlacesInRow.holds Try.pinned (OpenSpec.ofChange fnExactPlacesInWrong)

/-- 'laws.FnCorrections': WHATEVER THE INPUT: true; the input reads as it did. -/
def fnCorrectionsSpec : ChangeSpec := { name := "fnCorrections", fn := fun _ => fun
  | [d] => { results := [.lit (.bool true)], args := [d] }
  | _ => none }
def fnCorrectionsRow : OpenClaim := { program := "ytaednfoabklnmaa", sum := "d617f1f7f562abfe24972d12340408877f380b8bacdbb5ec295d8dce448d49c4", func := "loop.example/g03205/laws.FnCorrections", spec := "fnCorrections", unfollowed := true, recurses := true, apart := false }
def FnCorrectionsSaid : Prop := fnCorrectionsRow.holds Try.pinned (OpenSpec.ofChange fnCorrectionsSpec)

/-- ITS FALSE NEIGHBOUR: 'it returns false'. Refute it at one input. -/
def fnCorrectionsWrong : ChangeSpec := { name := "fnCorrections", fn := fun _ => fun
  | [d] => { results := [.lit (.bool false)], args := [d] }
  | _ => none }
def FnCorrectionsWrongFalsely : Prop := fnCorrectionsRow.holds Try.pinned (OpenSpec.ofChange fnCorrectionsWrong)

/- THE SECOND FORM. 'bulk': how many values and letters a reading holds, each counted each time it is reached (what is shared counts as often as it is met; a slice's spare places count too). A statement '..UptoSaid' is the law's where the arguments, and the package variables that the reading takes, are together of bulk at most 1048576: NARROWER than '..Said'. Prove '..Said' where nothing that the law and all that it calls make is longer than what came in: it says more and counts as full. Else prove '..UptoSaid'. A law counts once. -/
mutual
def uptoBulk {H : Type} : DataW H → Nat
  | .lit (.string bytes) => bytes.length + 1
  | .lit _ => 1
  | .nil => 1
  | .ptr d => uptoBulk d + 1
  | .slice elems spare => uptoBulkAll elems + uptoBulkAll spare + 1
  | .agg parts => uptoBulkAll parts + 1
  | .iface _ d => uptoBulk d + 1
  | .map entries => uptoBulkEntries entries + 1
  | .held _ => 1
def uptoBulkAll {H : Type} : List (DataW H) → Nat
  | [] => 0
  | d :: r => uptoBulk d + uptoBulkAll r
def uptoBulkEntries {H : Type} : List (Lit × DataW H) → Nat
  | [] => 0
  | x :: r => uptoBulkEntry x + uptoBulkEntries r
def uptoBulkEntry {H : Type} : Lit × DataW H → Nat
  | (.string bytes, d) => bytes.length + uptoBulk d + 1
  | (_, d) => uptoBulk d + 1
 end
def uptoSmall : (H : Type) → List (DataW H) → Bool := fun _ ds => decide (uptoBulkAll ds ≤ 1048576)
def OpenSpec.upto (s : _root_.Go.ChangeSpec) : _root_.Go.OpenSpec := { _root_.Go.OpenSpec.ofChange s with cond := some uptoSmall }

/-- 'laws.FnExactReplaceResult', WHERE WHAT IT READS IS OF BULK AT MOST 1048576: true; the input reads as it did. -/
def fnExactReplaceResultUptoRow : OpenClaim := { program := "ytaednfoabklnmaa", sum := "d617f1f7f562abfe24972d12340408877f380b8bacdbb5ec295d8dce448d49c4", func := "loop.example/g03205/laws.FnExactReplaceResult", spec := "fnExactReplaceResult", unfollowed := true, recurses := true, apart := false, narrowed := true }
def FnExactReplaceResultUptoSaid : Prop := fnExactReplaceResultUptoRow.holds Try.pinned (OpenSpec.upto fnExactReplaceResultSpec)

/-- 'laws.FnExactRemoveResult', WHERE WHAT IT READS IS OF BULK AT MOST 1048576: true; the input reads as it did. -/
def fnExactRemoveResultUptoRow : OpenClaim := { program := "ytaednfoabklnmaa", sum := "d617f1f7f562abfe24972d12340408877f380b8bacdbb5ec295d8dce448d49c4", func := "loop.example/g03205/laws.FnExactRemoveResult", spec := "fnExactRemoveResult", unfollowed := true, recurses := true, apart := false, narrowed := true }
def FnExactRemoveResultUptoSaid : Prop := fnExactRemoveResultUptoRow.holds Try.pinned (OpenSpec.upto fnExactRemoveResultSpec)

/-- 'laws.FnExactForfeitResult', WHERE WHAT IT READS IS OF BULK AT MOST 1048576: true; the input reads as it did. -/
def fnExactForfeitResultUptoRow : OpenClaim := { program := "ytaednfoabklnmaa", sum := "d617f1f7f562abfe24972d12340408877f380b8bacdbb5ec295d8dce448d49c4", func := "loop.example/g03205/laws.FnExactForfeitResult", spec := "fnExactForfeitResult", unfollowed := true, recurses := true, apart := false, narrowed := true }
def FnExactForfeitResultUptoSaid : Prop := fnExactForfeitResultUptoRow.holds Try.pinned (OpenSpec.upto fnExactForfeitResultSpec)

/-- 'laws.FnExactCorrectAll', WHERE WHAT IT READS IS OF BULK AT MOST 1048576: true; the input reads as it did. -/
def fnExactCorrectAllUptoRow : OpenClaim := { program := "ytaednfoabklnmaa", sum := "d617f1f7f562abfe24972d12340408877f380b8bacdbb5ec295d8dce448d49c4", func := "loop.example/g03205/laws.FnExactCorrectAll", spec := "fnExactCorrectAll", unfollowed := true, recurses := true, apart := false, narrowed := true }
def FnExactCorrectAllUptoSaid : Prop := fnExactCorrectAllUptoRow.holds Try.pinned (OpenSpec.upto fnExactCorrectAllSpec)

/-- 'laws.FnExactMovedClubs', WHERE WHAT IT READS IS OF BULK AT MOST 1048576: true; the input reads as it did. -/
def fnExactMovedClubsUptoRow : OpenClaim := { program := "ytaednfoabklnmaa", sum := "d617f1f7f562abfe24972d12340408877f380b8bacdbb5ec295d8dce448d49c4", func := "loop.example/g03205/laws.FnExactMovedClubs", spec := "fnExactMovedClubs", unfollowed := true, recurses := true, apart := false, narrowed := true }
def FnExactMovedClubsUptoSaid : Prop := fnExactMovedClubsUptoRow.holds Try.pinned (OpenSpec.upto fnExactMovedClubsSpec)

/-- 'laws.FnExactTableAfter', WHERE WHAT IT READS IS OF BULK AT MOST 1048576: true; the input reads as it did. -/
def fnExactTableAfterUptoRow : OpenClaim := { program := "ytaednfoabklnmaa", sum := "d617f1f7f562abfe24972d12340408877f380b8bacdbb5ec295d8dce448d49c4", func := "loop.example/g03205/laws.FnExactTableAfter", spec := "fnExactTableAfter", unfollowed := true, recurses := true, apart := false, narrowed := true }
def FnExactTableAfterUptoSaid : Prop := fnExactTableAfterUptoRow.holds Try.pinned (OpenSpec.upto fnExactTableAfterSpec)

/-- 'laws.FnExactLeadChanges', WHERE WHAT IT READS IS OF BULK AT MOST 1048576: true; the input reads as it did. -/
def fnExactLeadChangesUptoRow : OpenClaim := { program := "ytaednfoabklnmaa", sum := "d617f1f7f562abfe24972d12340408877f380b8bacdbb5ec295d8dce448d49c4", func := "loop.example/g03205/laws.FnExactLeadChanges", spec := "fnExactLeadChanges", unfollowed := true, recurses := true, apart := false, narrowed := true }
def FnExactLeadChangesUptoSaid : Prop := fnExactLeadChangesUptoRow.holds Try.pinned (OpenSpec.upto fnExactLeadChangesSpec)

/-- 'laws.FnExactLeadersOf', WHERE WHAT IT READS IS OF BULK AT MOST 1048576: true; the input reads as it did. -/
def fnExactLeadersOfUptoRow : OpenClaim := { program := "ytaednfoabklnmaa", sum := "d617f1f7f562abfe24972d12340408877f380b8bacdbb5ec295d8dce448d49c4", func := "loop.example/g03205/laws.FnExactLeadersOf", spec := "fnExactLeadersOf", unfollowed := true, recurses := true, apart := false, narrowed := true }
def FnExactLeadersOfUptoSaid : Prop := fnExactLeadersOfUptoRow.holds Try.pinned (OpenSpec.upto fnExactLeadersOfSpec)

/-- 'laws.FnExactPointsOff', WHERE WHAT IT READS IS OF BULK AT MOST 1048576: true; the input reads as it did. -/
def fnExactPointsOffUptoRow : OpenClaim := { program := "ytaednfoabklnmaa", sum := "d617f1f7f562abfe24972d12340408877f380b8bacdbb5ec295d8dce448d49c4", func := "loop.example/g03205/laws.FnExactPointsOff", spec := "fnExactPointsOff", unfollowed := true, recurses := true, apart := false, narrowed := true }
def FnExactPointsOffUptoSaid : Prop := fnExactPointsOffUptoRow.holds Try.pinned (OpenSpec.upto fnExactPointsOffSpec)

/-- 'laws.FnExactPlacesIn', WHERE WHAT IT READS IS OF BULK AT MOST 1048576: true; the input reads as it did. -/
def fnExactPlacesInUptoRow : OpenClaim := { program := "ytaednfoabklnmaa", sum := "d617f1f7f562abfe24972d12340408877f380b8bacdbb5ec295d8dce448d49c4", func := "loop.example/g03205/laws.FnExactPlacesIn", spec := "fnExactPlacesIn", unfollowed := true, recurses := true, apart := false, narrowed := true }
def FnExactPlacesInUptoSaid : Prop := fnExactPlacesInUptoRow.holds Try.pinned (OpenSpec.upto fnExactPlacesInSpec)

/-- 'laws.FnCorrections', WHERE WHAT IT READS IS OF BULK AT MOST 1048576: true; the input reads as it did. -/
def fnCorrectionsUptoRow : OpenClaim := { program := "ytaednfoabklnmaa", sum := "d617f1f7f562abfe24972d12340408877f380b8bacdbb5ec295d8dce448d49c4", func := "loop.example/g03205/laws.FnCorrections", spec := "fnCorrections", unfollowed := true, recurses := true, apart := false, narrowed := true }
def FnCorrectionsUptoSaid : Prop := fnCorrectionsUptoRow.holds Try.pinned (OpenSpec.upto fnCorrectionsSpec)

end Rows
end Go.Proofs.Ytaednfoabklnmaa
