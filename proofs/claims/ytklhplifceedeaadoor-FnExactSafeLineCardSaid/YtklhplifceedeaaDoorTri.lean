/- Triangles: both packages' contracts. -/
import Derived.Test.YtklhplifceedeaaDoorSco
namespace Go.Proofs.YtklhplifceedeaaDoor
open Go.ChangeShapes Go.WideShapes Go.ChangeAt Go.RowKit

def triT (x : TourV) : Nat → Int
  | 0 => (bin x.wins.length 3 : Nat)
  | k + 1 => triT x k - (bin (scN x k) 2 : Nat)
/-- How many triangles a valid tour has. -/
def triF (x : TourV) : Int := triT x x.wins.length
theorem bin3 : ∀ n : Fin 9, bin n.val 3 = n.val * (n.val - 1) * (n.val - 2) / 6 ∧ bin n.val 3 ≤ 56 := by decide +kernel
theorem bin2 : ∀ n : Fin 9, bin n.val 2 = n.val * (n.val - 1) / 2 ∧ bin n.val 2 ≤ 28 := by decide +kernel
theorem bin3i : ∀ n : Fin 9, wrap64 ((wrap64 (wrap64 ((n.val : Int) * ((n.val : Int) - 1)) * ((n.val : Int) - 2))).tdiv 6) = (bin n.val 3 : Nat) := by decide +kernel
theorem bin2i : ∀ n : Fin 9, wrap64 ((wrap64 ((n.val : Int) * ((n.val : Int) - 1))).tdiv 2) = (bin n.val 2 : Nat) := by decide +kernel
theorem triT_bd {x : TourV} (hn : x.wins.length ≤ 8) : ∀ k, triT x k ≤ 56 ∧ -28 * (k : Int) ≤ triT x k := by
  intro k
  induction k with
  | zero => have := (bin3 ⟨x.wins.length, by omega⟩).2; simp only at this; unfold triT; omega
  | succ k ih =>
    have := (bin2 ⟨scN x k, Nat.lt_succ_of_le (scN_le x k)⟩).2
    simp only at this
    unfold triT
    rw [Int.natCast_add, Int.natCast_one]
    omega
end Go.Proofs.YtklhplifceedeaaDoor
