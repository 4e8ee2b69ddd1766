/- Scores, triangles: both packages' contracts. -/
import Derived.Test.YtklhplifceedeaaDoorRcw
import Derived.Test.YtklhplifceedeaaDoorMo
import Derived.Test.YtklhplifceedeaaDoorTq
import Derived.Test.YtklhplifceedeaaDoorTs
namespace Go.Proofs.YtklhplifceedeaaDoor
open Go.ChangeShapes Go.WideShapes Go.ChangeAt Go.RowKit

def scN (x : TourV) (a : Nat) : Nat := cntL (winN x a)
def scoresL (x : TourV) : List Int := (List.range x.wins.length).map (fun a => ((scN x a : Nat) : Int))
theorem scoresL_len (x : TourV) : (scoresL x).length = x.wins.length := by simp [scoresL]
theorem scoresL_at {x : TourV} {a : Nat} (h : a < x.wins.length) : (scoresL x)[a]? = some ((scN x a : Nat) : Int) := by simp [scoresL, h]
theorem scN_le (x : TourV) (a : Nat) : scN x a ≤ 8 := cntL_le _
theorem scoresL_take {x : TourV} {a : Nat} (h : a < x.wins.length) : (scoresL x).take (a + 1) = (scoresL x).take a ++ [((scN x a : Nat) : Int)] := take_snoc (scoresL_at h)
theorem scoresL_all (x : TourV) : (scoresL x).take x.wins.length = scoresL x := List.take_of_length_le (by rw [scoresL_len]; exact Nat.le_refl _)
theorem scoresL_bd {x : TourV} : ∀ y ∈ scoresL x, 0 ≤ y ∧ y ≤ 8 := by
  intro y hy
  simp only [scoresL, List.mem_map, List.mem_range] at hy
  obtain ⟨a, _, rfl⟩ := hy
  have := scN_le x a
  omega
end Go.Proofs.YtklhplifceedeaaDoor
