/-
  DERIVED. GIVEN WITH THE SEED: THE CARDS: each row of YtklhplifceedeaaDoorRows.lean that lists a variable, with what it lists TIED to the program's text (the seventh form; the later family's looks); each row that meets fmt, with fmt's text TOLD by the authors' own Lean function (tested against real Go, not proved from fmt's source: count such statements apart). THE CARD IS WHAT COUNTS. Prove the row's statement (the work); the ties are given (YtklhplifceedeaaDoorTie.lean); close each card by the builder's one call (the guide's Derived/Test/ToyasCard.lean, 'card_holds'). Laid BY PROGRAM, IN A SANDBOX (cutbox-door.mjs). By AI agents, Wed Nov 11 2026. No macro, syntax, notation, axiom, sorry.
-/
import Derived.Test.YtklhplifceedeaaDoorRows
import GoSem.ClaimSeven
namespace Go.Proofs.YtklhplifceedeaaDoor
namespace Rows

/-- THE TIED CARD OF 'laws.FnExactSafeLine'. -/
def fnExactSafeLineCard : Claim7 := { stood := { row := fnExactSafeLineRow, standIns := [], harness := (true, "759fb56b163d47026fb2ba36498960833ad523663b747e07a29066fdbe58893e"), looks := false }, kinds := [], alts := [], laidByText := true, laidKinds := [.data, .data, .data], laidTests := true, laidLooks := .later }
def FnExactSafeLineCardSaid : Prop := Claim7.holds Tryd.pinned (.plain (OpenSpec.ofChange fnExactSafeLineSpec)) fnExactSafeLineCard

/-- THE SECOND FORM's CARD OF 'laws.FnExactSafeLine'. -/
def fnExactSafeLineUptoCard : Claim7 := { stood := { row := fnExactSafeLineUptoRow, standIns := [], harness := (true, "759fb56b163d47026fb2ba36498960833ad523663b747e07a29066fdbe58893e"), looks := false }, kinds := [], alts := [], laidByText := true, laidKinds := [.data, .data, .data], laidTests := true, laidLooks := .later }
def FnExactSafeLineUptoCardSaid : Prop := Claim7.holds Tryd.pinned (.plain (OpenSpec.upto fnExactSafeLineSpec)) fnExactSafeLineUptoCard
end Rows
end Go.Proofs.YtklhplifceedeaaDoor
