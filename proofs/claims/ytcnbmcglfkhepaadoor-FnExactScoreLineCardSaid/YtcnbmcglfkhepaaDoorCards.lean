/-
  DERIVED. GIVEN WITH THE SEED: THE CARDS: each row of YtcnbmcglfkhepaaDoorRows.lean that lists a variable, with what it lists TIED to the program's text (the seventh form; the later family's looks); each row that meets fmt, with fmt's text TOLD by the authors' own Lean function (tested against real Go, not proved from fmt's source: count such statements apart). THE CARD IS WHAT COUNTS. Prove the row's statement (the work); the ties are given (YtcnbmcglfkhepaaDoorTie.lean); close each card by the builder's one call (the guide's Derived/Test/ToyasCard.lean, 'card_holds'). Laid BY PROGRAM, IN A SANDBOX (cutbox-door.mjs). By AI agents, Wed Nov 11 2026. No macro, syntax, notation, axiom, sorry.
-/
import Derived.Test.YtcnbmcglfkhepaaDoorRows
import GoSem.ClaimSeven
namespace Go.Proofs.YtcnbmcglfkhepaaDoor
namespace Rows

/-- THE TIED CARD OF 'laws.FnExactScoreLine'. -/
def fnExactScoreLineCard : Claim7 := { stood := { row := fnExactScoreLineRow, standIns := [], harness := (true, "46510df9963298df7c34a46e504c8ec0f47b2695174d4bc489e01a80b784d43e"), looks := false }, kinds := [], alts := [], laidByText := true, laidKinds := [.data, .data, .data], laidTests := true, laidLooks := .later }
def FnExactScoreLineCardSaid : Prop := Claim7.holds Tryd.pinned (.plain (OpenSpec.ofChange fnExactScoreLineSpec)) fnExactScoreLineCard

/-- THE SECOND FORM's CARD OF 'laws.FnExactScoreLine'. -/
def fnExactScoreLineUptoCard : Claim7 := { stood := { row := fnExactScoreLineUptoRow, standIns := [], harness := (true, "46510df9963298df7c34a46e504c8ec0f47b2695174d4bc489e01a80b784d43e"), looks := false }, kinds := [], alts := [], laidByText := true, laidKinds := [.data, .data, .data], laidTests := true, laidLooks := .later }
def FnExactScoreLineUptoCardSaid : Prop := Claim7.holds Tryd.pinned (.plain (OpenSpec.upto fnExactScoreLineSpec)) fnExactScoreLineUptoCard
end Rows
end Go.Proofs.YtcnbmcglfkhepaaDoor
