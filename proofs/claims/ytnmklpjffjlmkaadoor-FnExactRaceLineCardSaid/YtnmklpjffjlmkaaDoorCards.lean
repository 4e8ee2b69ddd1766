/-
  DERIVED. GIVEN WITH THE SEED: THE CARDS: each row of YtnmklpjffjlmkaaDoorRows.lean that lists a variable, with what it lists TIED to the program's text (the seventh form; the later family's looks); each row that meets fmt, with fmt's text TOLD by the authors' own Lean function (tested against real Go, not proved from fmt's source: count such statements apart). THE CARD IS WHAT COUNTS. Prove the row's statement (the work); the ties are given (YtnmklpjffjlmkaaDoorTie.lean); close each card by the builder's one call (the guide's Derived/Test/ToyasCard.lean, 'card_holds'). Laid BY PROGRAM, IN A SANDBOX (cutbox-door.mjs). By AI agents, Wed Nov 11 2026. No macro, syntax, notation, axiom, sorry.
-/
import Derived.Test.YtnmklpjffjlmkaaDoorRows
import GoSem.ClaimSeven
namespace Go.Proofs.YtnmklpjffjlmkaaDoor
namespace Rows

/-- THE TIED CARD OF 'laws.FnExactRaceLine'. -/
def fnExactRaceLineCard : Claim7 := { stood := { row := fnExactRaceLineRow, standIns := [], harness := (true, "3ac00cbc6df505d4c02c49ed97031bc8b606d5a811fe3058ae7bccbfa628f31a"), looks := false }, kinds := [], alts := [], laidByText := true, laidKinds := [.data, .data, .data], laidTests := true, laidLooks := .later }
def FnExactRaceLineCardSaid : Prop := Claim7.holds Tryd.pinned (.plain (OpenSpec.ofChange fnExactRaceLineSpec)) fnExactRaceLineCard

/-- THE SECOND FORM's CARD OF 'laws.FnExactRaceLine'. -/
def fnExactRaceLineUptoCard : Claim7 := { stood := { row := fnExactRaceLineUptoRow, standIns := [], harness := (true, "3ac00cbc6df505d4c02c49ed97031bc8b606d5a811fe3058ae7bccbfa628f31a"), looks := false }, kinds := [], alts := [], laidByText := true, laidKinds := [.data, .data, .data], laidTests := true, laidLooks := .later }
def FnExactRaceLineUptoCardSaid : Prop := Claim7.holds Tryd.pinned (.plain (OpenSpec.upto fnExactRaceLineSpec)) fnExactRaceLineUptoCard
end Rows
end Go.Proofs.YtnmklpjffjlmkaaDoor
