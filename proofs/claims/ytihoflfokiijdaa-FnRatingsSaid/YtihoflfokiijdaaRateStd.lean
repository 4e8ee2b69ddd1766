/- Contracts on ratings in the standard form. -/
import Derived.Test.YtihoflfokiijdaaStd
import Derived.Test.YtihoflfokiijdaaRate
namespace Go.Proofs.Ytihoflfokiijdaa
open Go.ChangeShapes Go.WideShapes Go.ChangeAt Go.RowKit

theorem implRatingsOk_std (v : Value) (xs : List Int) (w : World) (h : InI w v xs) (n : xs.length ≤ 1048576) :
    Calls Try.prog 8 #[v] w fun e w' => e = .returned (.bool (ratOk xs)) ∧ Below w.heap.size w w' := by
  obtain ⟨A, c, rfl, _, _, h⟩ := h; exact implRatingsOk_any A c xs w h n
end Go.Proofs.Ytihoflfokiijdaa
