/-
  DERIVED. GIVEN WITH THE SEED: THE CARDS: each row of YtcomcpiegfcdeaaDoorRows.lean that lists a variable, with what it lists TIED to the program's text (the seventh form; the later family's looks); each row that meets fmt, with fmt's text TOLD by the authors' own Lean function (tested against real Go, not proved from fmt's source: count such statements apart). THE CARD IS WHAT COUNTS. Prove the row's statement (the work); the ties are given (YtcomcpiegfcdeaaDoorTie.lean); close each card by the builder's one call (the guide's Derived/Test/ToyasCard.lean, 'card_holds'). Laid BY PROGRAM, IN A SANDBOX (cutbox-door.mjs). By AI agents, Wed Nov 11 2026. No macro, syntax, notation, axiom, sorry.
-/
import Derived.Test.YtcomcpiegfcdeaaDoorRows
import GoSem.ClaimSeven
namespace Go.Proofs.YtcomcpiegfcdeaaDoor
namespace Rows

/-- THE TIED CARD OF 'laws.FnExactAfterCourse'. -/
def fnExactAfterCourseCard : Claim7 := { stood := { row := fnExactAfterCourseRow, standIns := [], harness := (true, "33d3947e5b3cfd7436636f5642956d4acac65a4fd7c519047abaf3d94d3c1b70"), looks := false }, kinds := [], alts := [], laidByText := true, laidKinds := [.data, .pinned], laidTests := true, laidLooks := .later }
def FnExactAfterCourseCardSaid : Prop := Claim7.holds Tryd.pinned (.plain (OpenSpec.ofChange fnExactAfterCourseSpec)) fnExactAfterCourseCard

/-- THE TIED CARD OF 'laws.FnMatches'. -/
def fnMatchesCard : Claim7 := { stood := { row := fnMatchesRow, standIns := [], harness := (true, "33d3947e5b3cfd7436636f5642956d4acac65a4fd7c519047abaf3d94d3c1b70"), looks := false }, kinds := [], alts := [], laidByText := true, laidKinds := [.data, .pinned], laidTests := true, laidLooks := .later }
def FnMatchesCardSaid : Prop := Claim7.holds Tryd.pinned (.plain (OpenSpec.ofChange fnMatchesSpec)) fnMatchesCard

/-- THE SECOND FORM's CARD OF 'laws.FnExactAfterCourse'. -/
def fnExactAfterCourseUptoCard : Claim7 := { stood := { row := fnExactAfterCourseUptoRow, standIns := [], harness := (true, "33d3947e5b3cfd7436636f5642956d4acac65a4fd7c519047abaf3d94d3c1b70"), looks := false }, kinds := [], alts := [], laidByText := true, laidKinds := [.data, .pinned], laidTests := true, laidLooks := .later }
def FnExactAfterCourseUptoCardSaid : Prop := Claim7.holds Tryd.pinned (.plain (OpenSpec.upto fnExactAfterCourseSpec)) fnExactAfterCourseUptoCard

/-- THE SECOND FORM's CARD OF 'laws.FnMatches'. -/
def fnMatchesUptoCard : Claim7 := { stood := { row := fnMatchesUptoRow, standIns := [], harness := (true, "33d3947e5b3cfd7436636f5642956d4acac65a4fd7c519047abaf3d94d3c1b70"), looks := false }, kinds := [], alts := [], laidByText := true, laidKinds := [.data, .pinned], laidTests := true, laidLooks := .later }
def FnMatchesUptoCardSaid : Prop := Claim7.holds Tryd.pinned (.plain (OpenSpec.upto fnMatchesSpec)) fnMatchesUptoCard
end Rows
end Go.Proofs.YtcomcpiegfcdeaaDoor
