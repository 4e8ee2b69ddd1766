/-
  DERIVED. GIVEN WITH THE SEED: THE CARDS: each row of YthpphojodohboaaDoorRows.lean that lists a variable, with what it lists TIED to the program's text (the seventh form; the later family's looks); each row that meets fmt, with fmt's text TOLD by the authors' own Lean function (tested against real Go, not proved from fmt's source: count such statements apart). THE CARD IS WHAT COUNTS. Prove the row's statement (the work); the ties are given (YthpphojodohboaaDoorTie.lean); close each card by the builder's one call (the guide's Derived/Test/ToyasCard.lean, 'card_holds'). Laid BY PROGRAM, IN A SANDBOX (cutbox-door.mjs). By AI agents, Wed Nov 11 2026. No macro, syntax, notation, axiom, sorry.
-/
import Derived.Test.YthpphojodohboaaDoorRows
import GoSem.ClaimSeven
namespace Go.Proofs.YthpphojodohboaaDoor
namespace Rows

/-- THE TIED CARD OF 'laws.FnExactBracketLine'. -/
def fnExactBracketLineCard : Claim7 := { stood := { row := fnExactBracketLineRow, standIns := [], harness := (true, "e84561936859edd5ca770239b8ed2a8e0d87d7d461a7acede7d7369381dc0faa"), looks := false }, kinds := [], alts := [], laidByText := true, laidKinds := [.data, .data, .data], laidTests := true, laidLooks := .later }
def FnExactBracketLineCardSaid : Prop := Claim7.holds Tryd.pinned (.plain (OpenSpec.ofChange fnExactBracketLineSpec)) fnExactBracketLineCard

/-- THE SECOND FORM's CARD OF 'laws.FnExactBracketLine'. -/
def fnExactBracketLineUptoCard : Claim7 := { stood := { row := fnExactBracketLineUptoRow, standIns := [], harness := (true, "e84561936859edd5ca770239b8ed2a8e0d87d7d461a7acede7d7369381dc0faa"), looks := false }, kinds := [], alts := [], laidByText := true, laidKinds := [.data, .data, .data], laidTests := true, laidLooks := .later }
def FnExactBracketLineUptoCardSaid : Prop := Claim7.holds Tryd.pinned (.plain (OpenSpec.upto fnExactBracketLineSpec)) fnExactBracketLineUptoCard
end Rows
end Go.Proofs.YthpphojodohboaaDoor
