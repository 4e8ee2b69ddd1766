/- Go's small slice functions at slices of slices of integers. -/
import Derived.Test.YtnjomfmmnkjhfaaStd
namespace Go.Proofs.Ytnjomfmmnkjhfaa
open Go.ChangeShapes Go.WideShapes Go.ChangeAt Go.RowKit

/-- The first index at which p holds, -1 if there is none. -/
def idxFS (p : List Int → Bool) (xs : List (List Int)) : Int := match xs.findIdx? p with | some k => (k : Int) | none => -1

theorem idxFS_hit {p : List Int → Bool} {xs : List (List Int)} {k : Nat} {x : List Int} (h : (xs.take k).all (fun y => !p y) = true) (hx : xs[k]? = some x) (hp : p x = true) : idxFS p xs = k := by
  unfold idxFS; rw [findIdx?_take h hx hp]
theorem idxFS_none {p : List Int → Bool} {xs : List (List Int)} (h : xs.all (fun y => !p y) = true) : idxFS p xs = -1 := by
  unfold idxFS; rw [findIdx?_nope h]
theorem idxFS_ge (p : List Int → Bool) (xs : List (List Int)) : decide (0 ≤ idxFS p xs) = xs.any p := by
  unfold idxFS
  cases h : xs.findIdx? p with
  | none =>
    rw [List.findIdx?_eq_none_iff] at h
    have : xs.any p = false := by rw [List.any_eq_false]; intro x hx; rw [h x hx]; simp
    rw [this]; rfl
  | some k =>
    have : xs.any p = true := by
      rw [List.findIdx?_eq_some_iff_getElem] at h
      obtain ⟨hk, hp, _⟩ := h
      rw [List.any_eq_true]; exact ⟨_, List.getElem_mem hk, hp⟩
    rw [this]; simp
end Go.Proofs.Ytnjomfmmnkjhfaa
