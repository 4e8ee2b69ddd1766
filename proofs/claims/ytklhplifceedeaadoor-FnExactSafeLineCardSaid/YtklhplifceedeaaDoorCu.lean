/- Parts of a slice of integers. -/
import Derived.Test.YtklhplifceedeaaDoorSl
namespace Go.Proofs.YtklhplifceedeaaDoor
open Go.ChangeShapes Go.WideShapes Go.ChangeAt Go.RowKit

theorem SlI.drop_ {w : World} {b off : Nat} {xs : List Int} (h : SlI w (some ⟨b, off, none⟩) xs) (k : Nat) : SlI w (some ⟨b, off + k, none⟩) (xs.drop k) := by
  rcases h with rfl | ⟨b', off', he, h⟩
  · exact .inl (by simp)
  · injection he with he; injection he with h1 h2; subst h1; subst h2
    refine .inr ⟨b, off + k, rfl, fun i x hx => ?_⟩
    rw [List.getElem?_drop] at hx
    have := h _ _ hx
    rw [show off + k + i = off + (k + i) from by omega]; exact this
theorem SlI.take_ {w : World} {A : Option Addr} {xs : List Int} (h : SlI w A xs) (k : Nat) : SlI w A (xs.take k) := by
  rcases h with rfl | ⟨b', off', rfl, h⟩
  · exact .inl (by simp)
  · refine .inr ⟨b', off', rfl, fun i x hx => ?_⟩
    rw [List.getElem?_take] at hx
    split at hx
    · exact h _ _ hx
    · cases hx
end Go.Proofs.YtklhplifceedeaaDoor
