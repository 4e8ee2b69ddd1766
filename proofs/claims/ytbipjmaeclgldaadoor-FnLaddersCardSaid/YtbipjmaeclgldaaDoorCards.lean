/-
  DERIVED. GIVEN WITH THE SEED: THE CARDS: each row of YtbipjmaeclgldaaDoorRows.lean that lists a variable, with what it lists TIED to the program's text (the seventh form; the later family's looks); each row that meets fmt, with fmt's text TOLD by the authors' own Lean function (tested against real Go, not proved from fmt's source: count such statements apart). THE CARD IS WHAT COUNTS. Prove the row's statement (the work); the ties are given (YtbipjmaeclgldaaDoorTie.lean); close each card by the builder's one call (the guide's Derived/Test/ToyasCard.lean, 'card_holds'). Laid BY PROGRAM, IN A SANDBOX (cutbox-door.mjs). By AI agents, Wed Nov 11 2026. No macro, syntax, notation, axiom, sorry.
-/
import Derived.Test.YtbipjmaeclgldaaDoorRows
import GoSem.ClaimSeven
namespace Go.Proofs.YtbipjmaeclgldaaDoor
namespace Rows

/-- THE TIED CARD OF 'laws.FnExactFewestChallenges'. -/
def fnExactFewestChallengesCard : Claim7 := { stood := { row := fnExactFewestChallengesRow, standIns := [], harness := (true, "2ac2cfd54dcea8a322486e2ba17fdf4a043b92060d036a89606589efe7c40994"), looks := false }, kinds := [], alts := [], laidByText := true, laidKinds := [.data, .data, .data], laidTests := true, laidLooks := .later }
def FnExactFewestChallengesCardSaid : Prop := Claim7.holds Tryd.pinned (.plain (OpenSpec.ofChange fnExactFewestChallengesSpec)) fnExactFewestChallengesCard

/-- THE TIED CARD OF 'laws.FnLadders'. -/
def fnLaddersCard : Claim7 := { stood := { row := fnLaddersRow, standIns := [], harness := (true, "2ac2cfd54dcea8a322486e2ba17fdf4a043b92060d036a89606589efe7c40994"), looks := false }, kinds := [], alts := [], laidByText := true, laidKinds := [.data, .data, .data], laidTests := true, laidLooks := .later }
def FnLaddersCardSaid : Prop := Claim7.holds Tryd.pinned (.plain (OpenSpec.ofChange fnLaddersSpec)) fnLaddersCard

/-- THE SECOND FORM's CARD OF 'laws.FnExactFewestChallenges'. -/
def fnExactFewestChallengesUptoCard : Claim7 := { stood := { row := fnExactFewestChallengesUptoRow, standIns := [], harness := (true, "2ac2cfd54dcea8a322486e2ba17fdf4a043b92060d036a89606589efe7c40994"), looks := false }, kinds := [], alts := [], laidByText := true, laidKinds := [.data, .data, .data], laidTests := true, laidLooks := .later }
def FnExactFewestChallengesUptoCardSaid : Prop := Claim7.holds Tryd.pinned (.plain (OpenSpec.upto fnExactFewestChallengesSpec)) fnExactFewestChallengesUptoCard

/-- THE SECOND FORM's CARD OF 'laws.FnLadders'. -/
def fnLaddersUptoCard : Claim7 := { stood := { row := fnLaddersUptoRow, standIns := [], harness := (true, "2ac2cfd54dcea8a322486e2ba17fdf4a043b92060d036a89606589efe7c40994"), looks := false }, kinds := [], alts := [], laidByText := true, laidKinds := [.data, .data, .data], laidTests := true, laidLooks := .later }
def FnLaddersUptoCardSaid : Prop := Claim7.holds Tryd.pinned (.plain (OpenSpec.upto fnLaddersSpec)) fnLaddersUptoCard
end Rows
end Go.Proofs.YtbipjmaeclgldaaDoor
