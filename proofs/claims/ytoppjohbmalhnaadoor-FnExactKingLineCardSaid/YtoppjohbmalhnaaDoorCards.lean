/-
  DERIVED. GIVEN WITH THE SEED: THE CARDS: each row of YtoppjohbmalhnaaDoorRows.lean that lists a variable, with what it lists TIED to the program's text (the seventh form; the later family's looks); each row that meets fmt, with fmt's text TOLD by the authors' own Lean function (tested against real Go, not proved from fmt's source: count such statements apart). THE CARD IS WHAT COUNTS. Prove the row's statement (the work); the ties are given (YtoppjohbmalhnaaDoorTie.lean); close each card by the builder's one call (the guide's Derived/Test/ToyasCard.lean, 'card_holds'). Laid BY PROGRAM, IN A SANDBOX (cutbox-door.mjs). By AI agents, Wed Nov 11 2026. No macro, syntax, notation, axiom, sorry.
-/
import Derived.Test.YtoppjohbmalhnaaDoorRows
import GoSem.ClaimSeven
namespace Go.Proofs.YtoppjohbmalhnaaDoor
namespace Rows

/-- THE TIED CARD OF 'laws.FnExactKingLine'. -/
def fnExactKingLineCard : Claim7 := { stood := { row := fnExactKingLineRow, standIns := [], harness := (true, "f0cf774d59c603ed9a5d0b4427cbe5e71c5c76f6a38e477b794b730f11dafaf8"), looks := false }, kinds := [], alts := [], laidByText := true, laidKinds := [.data, .data, .data], laidTests := true, laidLooks := .later }
def FnExactKingLineCardSaid : Prop := Claim7.holds Tryd.pinned (.plain (OpenSpec.ofChange fnExactKingLineSpec)) fnExactKingLineCard

/-- THE SECOND FORM's CARD OF 'laws.FnExactKingLine'. -/
def fnExactKingLineUptoCard : Claim7 := { stood := { row := fnExactKingLineUptoRow, standIns := [], harness := (true, "f0cf774d59c603ed9a5d0b4427cbe5e71c5c76f6a38e477b794b730f11dafaf8"), looks := false }, kinds := [], alts := [], laidByText := true, laidKinds := [.data, .data, .data], laidTests := true, laidLooks := .later }
def FnExactKingLineUptoCardSaid : Prop := Claim7.holds Tryd.pinned (.plain (OpenSpec.upto fnExactKingLineSpec)) fnExactKingLineUptoCard
end Rows
end Go.Proofs.YtoppjohbmalhnaaDoor
