/- Kings: both packages' contracts. -/
import Derived.Test.YtklhplifceedeaaDoorKgp
import Derived.Test.YtklhplifceedeaaDoorRcw
import Derived.Test.YtklhplifceedeaaDoorTq
import Derived.Test.YtklhplifceedeaaDoorTs
import Derived.Test.YtklhplifceedeaaDoorOlt
namespace Go.Proofs.YtklhplifceedeaaDoor
open Go.ChangeShapes Go.WideShapes Go.ChangeAt Go.RowKit

theorem natBeq (a b : Nat) : ((a : Int) == (b : Int)) = decide (a = b) := by
  by_cases h : a = b
  · subst h; simp
  · rw [decide_eq_false h]; exact beq_eq_false_iff_ne.2 (by omega)
theorem wrapT {T : Nat} (h1 : 1 ≤ T) (h2 : T ≤ 256) : wrap64 (T : Int) = T ∧ wrap64 ((T : Int) - 1) = T - 1 := ⟨by unfold wrap64; omega, by unfold wrap64; omega⟩

theorem add_or8 {v b : Nat} (hb : b < 8) (hv : v < 2 ^ b) : v + 2 ^ b = v ||| 2 ^ b := by
  have h256 : (2 : Nat) ^ b ≤ 256 := Nat.pow_le_pow_right (by omega) (show b ≤ 8 by omega)
  exact add_or ⟨b, hb⟩ ⟨v, by omega⟩ hv
end Go.Proofs.YtklhplifceedeaaDoor
