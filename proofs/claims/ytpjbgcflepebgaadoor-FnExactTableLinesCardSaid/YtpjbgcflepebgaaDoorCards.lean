/-
  DERIVED. GIVEN WITH THE SEED: THE CARDS: each row of YtpjbgcflepebgaaDoorRows.lean that lists a variable, with what it lists TIED to the program's text (the seventh form; the later family's looks); each row that meets fmt, with fmt's text TOLD by the authors' own Lean function (tested against real Go, not proved from fmt's source: count such statements apart). THE CARD IS WHAT COUNTS. Prove the row's statement (the work); the ties are given (YtpjbgcflepebgaaDoorTie.lean); close each card by the builder's one call (the guide's Derived/Test/ToyasCard.lean, 'card_holds'). Laid BY PROGRAM, IN A SANDBOX (cutbox-door.mjs). By AI agents, Wed Nov 11 2026. No macro, syntax, notation, axiom, sorry.
-/
import Derived.Test.YtpjbgcflepebgaaDoorRows
import GoSem.ClaimSeven
namespace Go.Proofs.YtpjbgcflepebgaaDoor
namespace Rows

/-- THE TIED CARD OF 'laws.FnExactTableLines'. -/
def fnExactTableLinesCard : Claim7 := { stood := { row := fnExactTableLinesRow, standIns := [], harness := (true, "9f25b1c88163fee8bd779964eff706d3929bc2bf88e48f24683c37425098f7b0"), looks := false }, kinds := [], alts := [], laidByText := true, laidKinds := [.data, .data, .data], laidTests := true, laidLooks := .later }
def FnExactTableLinesCardSaid : Prop := Claim7.holds Tryd.pinned (.plain (OpenSpec.ofChange fnExactTableLinesSpec)) fnExactTableLinesCard

/-- THE SECOND FORM's CARD OF 'laws.FnExactTableLines'. -/
def fnExactTableLinesUptoCard : Claim7 := { stood := { row := fnExactTableLinesUptoRow, standIns := [], harness := (true, "9f25b1c88163fee8bd779964eff706d3929bc2bf88e48f24683c37425098f7b0"), looks := false }, kinds := [], alts := [], laidByText := true, laidKinds := [.data, .data, .data], laidTests := true, laidLooks := .later }
def FnExactTableLinesUptoCardSaid : Prop := Claim7.holds Tryd.pinned (.plain (OpenSpec.upto fnExactTableLinesSpec)) fnExactTableLinesUptoCard
end Rows
end Go.Proofs.YtpjbgcflepebgaaDoor
