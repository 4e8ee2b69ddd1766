/-
  DERIVED. GIVEN WITH THE SEED: THE CARDS: each row of YtkcaemdgabjggaaDoorRows.lean that lists a variable, with what it lists TIED to the program's text (the seventh form; the later family's looks); each row that meets fmt, with fmt's text TOLD by the authors' own Lean function (tested against real Go, not proved from fmt's source: count such statements apart). THE CARD IS WHAT COUNTS. Prove the row's statement (the work); the ties are given (YtkcaemdgabjggaaDoorTie.lean); close each card by the builder's one call (the guide's Derived/Test/ToyasCard.lean, 'card_holds'). Laid BY PROGRAM, IN A SANDBOX (cutbox-door.mjs). By AI agents, Wed Nov 11 2026. No macro, syntax, notation, axiom, sorry.
-/
import Derived.Test.YtkcaemdgabjggaaDoorRows
import GoSem.ClaimSeven
namespace Go.Proofs.YtkcaemdgabjggaaDoor
namespace Rows

/-- THE TIED CARD OF 'laws.FnExactOrderLine'. -/
def fnExactOrderLineCard : Claim7 := { stood := { row := fnExactOrderLineRow, standIns := [], harness := (true, "3976fbecab59976957b8b2c7fd40565ef63775c9c7195296953487434b48e142"), looks := false }, kinds := [], alts := [], laidByText := true, laidKinds := [.data, .data, .data], laidTests := true, laidLooks := .later }
def FnExactOrderLineCardSaid : Prop := Claim7.holds Tryd.pinned (.plain (OpenSpec.ofChange fnExactOrderLineSpec)) fnExactOrderLineCard

/-- THE SECOND FORM's CARD OF 'laws.FnExactOrderLine'. -/
def fnExactOrderLineUptoCard : Claim7 := { stood := { row := fnExactOrderLineUptoRow, standIns := [], harness := (true, "3976fbecab59976957b8b2c7fd40565ef63775c9c7195296953487434b48e142"), looks := false }, kinds := [], alts := [], laidByText := true, laidKinds := [.data, .data, .data], laidTests := true, laidLooks := .later }
def FnExactOrderLineUptoCardSaid : Prop := Claim7.holds Tryd.pinned (.plain (OpenSpec.upto fnExactOrderLineSpec)) fnExactOrderLineUptoCard
end Rows
end Go.Proofs.YtkcaemdgabjggaaDoor
