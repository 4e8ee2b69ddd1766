/- Players by their scores; strong parts: the sort. -/
import Derived.Test.YtklhplifceedeaaDoorTri
import Derived.Test.YtklhplifceedeaaDoorSo
import Derived.Test.YtklhplifceedeaaDoorIx
import Derived.Test.YtklhplifceedeaaDoorUp
import Derived.Deep.QuietTactic
import Derived.BigQuiet
namespace Go.Proofs.YtklhplifceedeaaDoor
open Go.ChangeShapes Go.WideShapes Go.ChangeAt Go.RowKit

theorem posR_lo {key : Int → Int} {l : List Int} {x : Int} : ∀ k, k ≤ l.length → ∀ i, i < posR key l x k → posR key l x k = i + 1 → ¬ key (l.getD i 0) < key x := by
  intro k
  induction k with
  | zero => intro _ i h; simp [posR] at h
  | succ k ih =>
    intro hk i hi e
    rw [posR] at hi e
    split at e
    · next h => rw [if_pos h] at hi; exact ih (by omega) i hi e
    · next h =>
      obtain rfl : k = i := by omega
      exact h
theorem posR_hi {key : Int → Int} {l : List Int} {x : Int} : ∀ k, k ≤ l.length → ∀ i, posR key l x k ≤ i → i < k → key (l.getD i 0) < key x := by
  intro k
  induction k with
  | zero => intro _ i _ h; omega
  | succ k ih =>
    intro hk i h1 h2
    rw [posR] at h1
    split at h1
    · next h =>
      rcases Nat.eq_or_lt_of_le (Nat.le_of_lt_succ h2) with rfl | h3
      · exact h
      · exact ih (by omega) i h1 h3
    · omega
def Desc (key : Int → Int) (l : List Int) : Prop := ∀ i j, i < j → j < l.length → key (l.getD j 0) ≤ key (l.getD i 0)
theorem insR_desc {key : Int → Int} {l : List Int} {x : Int} (h : Desc key l) : Desc key (insR key l x) := by
  have hp := posR_le key l x l.length
  have hlo := posR_lo (key := key) (l := l) (x := x) l.length (Nat.le_refl _)
  have hhi := posR_hi (key := key) (l := l) (x := x) l.length (Nat.le_refl _)
  have hlen := insR_length key l x
  unfold insR at hlen ⊢
  generalize hP : posR key l x l.length = p at *
  have hget : ∀ i, (l.take p ++ x :: l.drop p).getD i 0 = if i < p then l.getD i 0 else if i = p then x else l.getD (i - 1) 0 := by
    intro i
    rw [List.getD_eq_getElem?_getD]
    split
    · next h1 => rw [List.getElem?_append_left (by simp; omega), List.getElem?_take, if_pos h1, ← List.getD_eq_getElem?_getD]
    · next h1 =>
      rw [List.getElem?_append_right (by simp; omega)]
      have hm : (l.take p).length = p := by simp; omega
      rw [hm]
      split
      · next h2 => subst h2; simp
      · next h2 =>
        rw [show i - p = (i - 1 - p) + 1 by omega, List.getElem?_cons_succ, List.getElem?_drop, show p + (i - 1 - p) = i - 1 by omega, ← List.getD_eq_getElem?_getD]
  intro i j hij hj
  rw [hlen] at hj
  rw [hget i, hget j]
  by_cases hi : i < p
  · rw [if_pos hi]
    by_cases hj1 : j < p
    · rw [if_pos hj1]; exact h i j hij (by omega)
    · rw [if_neg hj1]
      by_cases hj2 : j = p
      · rw [if_pos hj2]
        have h1 := hlo (p - 1) (by omega) (by omega)
        rcases Nat.eq_or_lt_of_le (show i ≤ p - 1 by omega) with e | e
        · subst e; omega
        · have := h i (p - 1) e (by omega); omega
      · rw [if_neg hj2]; exact h i (j - 1) (by omega) (by omega)
  · rw [if_neg hi, if_neg (show ¬ j < p by omega), if_neg (show ¬ j = p by omega)]
    by_cases hi2 : i = p
    · rw [if_pos hi2]
      have := hhi (j - 1) (by omega) (by omega); omega
    · rw [if_neg hi2]; exact h (i - 1) (j - 1) (by omega) (by omega)
theorem insF_desc (key : Int → Int) : ∀ xs, Desc key (insF key xs) := by
  have h : ∀ (xs l : List Int), Desc key l → Desc key (xs.foldl (insR key) l) := by
    intro xs
    induction xs with
    | nil => intro l hl; exact hl
    | cons x xs ih => intro l hl; exact ih _ (insR_desc hl)
  intro xs
  exact h xs [] (fun i j _ hj => by simp at hj)
end Go.Proofs.YtklhplifceedeaaDoor
