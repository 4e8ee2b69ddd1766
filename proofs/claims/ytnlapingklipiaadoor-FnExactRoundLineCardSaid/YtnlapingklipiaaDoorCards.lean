/-
  DERIVED. GIVEN WITH THE SEED: THE CARDS: each row of YtnlapingklipiaaDoorRows.lean that lists a variable, with what it lists TIED to the program's text (the seventh form; the later family's looks); each row that meets fmt, with fmt's text TOLD by the authors' own Lean function (tested against real Go, not proved from fmt's source: count such statements apart). THE CARD IS WHAT COUNTS. Prove the row's statement (the work); the ties are given (YtnlapingklipiaaDoorTie.lean); close each card by the builder's one call (the guide's Derived/Test/ToyasCard.lean, 'card_holds'). Laid BY PROGRAM, IN A SANDBOX (cutbox-door.mjs). By AI agents, Wed Nov 11 2026. No macro, syntax, notation, axiom, sorry.
-/
import Derived.Test.YtnlapingklipiaaDoorRows
import GoSem.ClaimSeven
namespace Go.Proofs.YtnlapingklipiaaDoor
namespace Rows

/-- THE TIED CARD OF 'laws.FnExactRoundLine'. -/
def fnExactRoundLineCard : Claim7 := { stood := { row := fnExactRoundLineRow, standIns := [], harness := (true, "673e6c34c51fda316b6cf56e524dff27b8afbdfdf7e4ebf184af5c46f4605026"), looks := false }, kinds := [], alts := [], laidByText := true, laidKinds := [.data, .data, .data], laidTests := true, laidLooks := .later }
def FnExactRoundLineCardSaid : Prop := Claim7.holds Tryd.pinned (.plain (OpenSpec.ofChange fnExactRoundLineSpec)) fnExactRoundLineCard

/-- THE SECOND FORM's CARD OF 'laws.FnExactRoundLine'. -/
def fnExactRoundLineUptoCard : Claim7 := { stood := { row := fnExactRoundLineUptoRow, standIns := [], harness := (true, "673e6c34c51fda316b6cf56e524dff27b8afbdfdf7e4ebf184af5c46f4605026"), looks := false }, kinds := [], alts := [], laidByText := true, laidKinds := [.data, .data, .data], laidTests := true, laidLooks := .later }
def FnExactRoundLineUptoCardSaid : Prop := Claim7.holds Tryd.pinned (.plain (OpenSpec.upto fnExactRoundLineSpec)) fnExactRoundLineUptoCard
end Rows
end Go.Proofs.YtnlapingklipiaaDoor
