/- The reference's orders and tables. -/
import Derived.Test.YthlkhmbndaecfaaGq
import Derived.Test.YthlkhmbndaecfaaSt
import Derived.Test.YthlkhmbndaecfaaCu
import Derived.Deep.Cut
import Derived.Deep.CutRange
namespace Go.Proofs.Ythlkhmbndaecfaa
open Go.ChangeShapes Go.WideShapes Go.ChangeAt Go.RowKit

def keyOf (xs : List Int) (i : Int) : Int := xs.getD i.toNat 0
theorem keyOf_at {xs : List Int} {k : Nat} {x : Int} (h : xs[k]? = some x) : keyOf xs (k : Int) = x := by
  rw [keyOf, Int.toNat_natCast, List.getD_eq_getElem?_getD, h]; rfl

theorem Fr.someB {w : World} {lo hi : Nat} {v : Value} {xs : List Int} (h : Fr w lo hi v xs) (hl : 0 < xs.length) : ∃ g c, v = .slice (some ⟨g, 0, none⟩) xs.length c := by
  obtain ⟨A, c, rfl, _⟩ := h.form
  obtain ⟨g, _, rfl, _⟩ := h.at_ (k := 0) hl
  exact ⟨g, c, rfl⟩
theorem l09Form {w : World} {lo hi j : Nat} {v : Value} {xs : List Int} (h : Fr w lo hi v xs) (hl : xs.length = j + 1) : ∃ g c, v = .slice (some ⟨g, 0, none⟩) (j + 1) c := by
  obtain ⟨g, c, e⟩ := h.someB (by omega)
  exact ⟨g, c, by rw [e, hl]⟩
end Go.Proofs.Ythlkhmbndaecfaa
