/- Races: when one is valid; plain facts. -/
import Derived.Test.YtnjomfmmnkjhfaaMba
import Derived.Test.YtnjomfmmnkjhfaaToolsS
namespace Go.Proofs.Ytnjomfmmnkjhfaa
open Go.ChangeShapes Go.WideShapes Go.ChangeAt Go.RowKit

def pairB (n : Nat) (g : List Int) : Bool := match g with
  | [a, b, k] => decide (0 ≤ a) && (decide (a < b) && (decide (b < (n : Int)) && inB k 1 20))
  | _ => false
def samePair (g h : List Int) : Bool := match g, h with
  | [a, b, _], [c, d, _] => a == c && b == d
  | _, _ => false
def rowOk (n : Nat) (gs : List (List Int)) (i : Nat) : Bool := pairB n (gs.getD i []) && (gs.take i).all (fun h => !samePair h (gs.getD i []))
def raceB (ws : List Int) (gs : List (List Int)) : Bool := inB ws.length 2 6 && (ws.all (fun w => inB w 0 200) && (decide (gs.length ≤ 15) && (List.range gs.length).all (rowOk ws.length gs)))
theorem three' {g : List Int} (h : g.length = 3) : ∃ a b c, g = [a, b, c] := by
  match g, h with
  | [a, b, c], _ => exact ⟨a, b, c, rfl⟩
theorem pairB_len {n : Nat} {g : List Int} (h : ¬ g.length = 3) : pairB n g = false := by
  match g, h with
  | [], _ => rfl
  | [_], _ => rfl
  | [_, _], _ => rfl
  | [_, _, _], h => simp at h
  | _ :: _ :: _ :: _ :: _, _ => rfl
theorem pairB_t {n : Nat} {a b k : Int} : pairB n [a, b, k] = true ↔ 0 ≤ a ∧ a < b ∧ b < (n : Int) ∧ 1 ≤ k ∧ k ≤ 20 := by
  simp only [pairB, Bool.and_eq_true, decide_eq_true_eq, inB_t]
theorem pairB_f {n : Nat} {a b k : Int} (h : ¬ (0 ≤ a ∧ a < b ∧ b < (n : Int) ∧ 1 ≤ k ∧ k ≤ 20)) : pairB n [a, b, k] = false := by
  cases hp : pairB n [a, b, k]
  · rfl
  · exact absurd (pairB_t.1 hp) h
theorem pairB_shape {n : Nat} {g : List Int} (h : pairB n g = true) : ∃ a b k : Nat, g = [(a : Int), (b : Int), (k : Int)] ∧ a < b ∧ b < n ∧ 1 ≤ k ∧ k ≤ 20 := by
  by_cases hl : g.length = 3
  · obtain ⟨a, b, k, rfl⟩ := three' hl
    obtain ⟨h1, h2, h3, h4, h5⟩ := pairB_t.1 h
    obtain ⟨a, rfl⟩ := Int.eq_ofNat_of_zero_le h1
    obtain ⟨b, rfl⟩ := Int.eq_ofNat_of_zero_le (show 0 ≤ b by omega)
    obtain ⟨k, rfl⟩ := Int.eq_ofNat_of_zero_le (show 0 ≤ k by omega)
    exact ⟨a, b, k, rfl, by omega, by omega, by omega, by omega⟩
  · rw [pairB_len hl] at h; cases h
theorem getD_at {gs : List (List Int)} {i : Nat} {g : List Int} (h : gs[i]? = some g) : gs.getD i [] = g := by rw [List.getD_eq_getElem?_getD, h]; rfl
theorem rowOk_f1 {n i : Nat} {gs : List (List Int)} {g : List Int} (h : gs[i]? = some g) (hp : pairB n g = false) : rowOk n gs i = false := by
  rw [rowOk, getD_at h, hp]; rfl
theorem rowOk_f2 {n i j : Nat} {gs : List (List Int)} {g h : List Int} (hg : gs[i]? = some g) (hj : j < i) (hh : gs[j]? = some h) (hs : samePair h g = true) : rowOk n gs i = false := by
  rw [rowOk, getD_at hg, Bool.and_eq_false_iff]
  refine .inr (List.all_eq_false.2 ⟨h, ?_, by simp [hs]⟩)
  refine List.mem_of_getElem? (i := j) ?_
  rw [List.getElem?_take, if_pos hj]; exact hh
theorem rowOk_f3 {n i : Nat} {gs : List (List Int)} {g : List Int} (hg : gs[i]? = some g) (h : (gs.take i).any (fun h => samePair h g) = true) : rowOk n gs i = false := by
  rw [List.any_eq_true] at h
  obtain ⟨x, hx, hs⟩ := h
  rw [rowOk, getD_at hg, Bool.and_eq_false_iff]
  exact .inr (List.all_eq_false.2 ⟨x, hx, by simp [hs]⟩)
theorem rowOk_go {n i : Nat} {gs : List (List Int)} {g : List Int} (hg : gs[i]? = some g) (hp : pairB n g = true) (h : ∀ (j : Nat) (x : List Int), j < i → gs[j]? = some x → samePair x g = false) : rowOk n gs i = true := by
  rw [rowOk, getD_at hg, hp, Bool.true_and, List.all_eq_true]
  intro x hx
  obtain ⟨j, hj, e⟩ := List.getElem_of_mem hx
  have hj' : j < i := by rw [List.length_take] at hj; omega
  have : gs[j]? = some x := by
    have h1 : (gs.take i)[j]? = some x := by rw [List.getElem?_eq_getElem hj, e]
    rwa [List.getElem?_take, if_pos hj'] at h1
  simp [h j x hj' this]
theorem rowOk_any {n i : Nat} {gs : List (List Int)} {g : List Int} (hg : gs[i]? = some g) (hp : pairB n g = true) (h : (gs.take i).any (fun h => samePair h g) = false) : rowOk n gs i = true := by
  rw [rowOk, getD_at hg, hp, Bool.true_and, List.all_eq_true]
  intro x hx
  rw [List.any_eq_false] at h
  simpa using h x hx
theorem rowOk_pair {n i : Nat} {gs : List (List Int)} {g : List Int} (hg : gs[i]? = some g) (h : rowOk n gs i = true) : pairB n g = true := by
  rw [rowOk, getD_at hg, Bool.and_eq_true] at h; exact h.1
theorem raceB_1 {ws : List Int} {gs : List (List Int)} (h : inB ws.length 2 6 = false) : raceB ws gs = false := by simp [raceB, h]
theorem raceB_2 {ws : List Int} {gs : List (List Int)} (h : (ws.all fun w => inB w 0 200) = false) : raceB ws gs = false := by rw [raceB, h]; simp
theorem raceB_3 {ws : List Int} {gs : List (List Int)} (h : ¬ gs.length ≤ 15) : raceB ws gs = false := by simp [raceB, h]
theorem raceB_4 {ws : List Int} {gs : List (List Int)} {i : Nat} (hi : i < gs.length) (h : rowOk ws.length gs i = false) : raceB ws gs = false := by
  have : (List.range gs.length).all (rowOk ws.length gs) = false := List.all_eq_false.2 ⟨i, List.mem_range.2 hi, by simp [h]⟩
  rw [raceB, this]; simp
theorem raceB_5 {ws : List Int} {gs : List (List Int)} (h1 : inB ws.length 2 6 = true) (h2 : (ws.all fun w => inB w 0 200) = true) (h3 : gs.length ≤ 15) (h4 : ∀ i, i < gs.length → rowOk ws.length gs i = true) : raceB ws gs = true := by
  have : (List.range gs.length).all (rowOk ws.length gs) = true := List.all_eq_true.2 fun i hi => h4 i (List.mem_range.1 hi)
  rw [raceB, this, h1, h2]; simp [h3]
structure Race (ws : List Int) (gs : List (List Int)) : Prop where
  n2 : 2 ≤ ws.length
  n6 : ws.length ≤ 6
  wins : ∀ w ∈ ws, 0 ≤ w ∧ w ≤ 200
  m15 : gs.length ≤ 15
  games : ∀ g ∈ gs, ∃ a b k : Nat, g = [(a : Int), (b : Int), (k : Int)] ∧ a < b ∧ b < ws.length ∧ 1 ≤ k ∧ k ≤ 20
theorem raceB_t {ws : List Int} {gs : List (List Int)} (h : raceB ws gs = true) : Race ws gs := by
  simp only [raceB, Bool.and_eq_true, decide_eq_true_eq, List.all_eq_true, List.mem_range] at h
  obtain ⟨h1, h2, h3, h4⟩ := h
  obtain ⟨h5, h6⟩ := inB_t.1 h1
  refine ⟨by omega, by omega, fun w hw => inB_t.1 (h2 w hw), h3, fun g hg => ?_⟩
  obtain ⟨i, hi, e⟩ := List.getElem_of_mem hg
  exact pairB_shape (rowOk_pair (by rw [List.getElem?_eq_getElem hi, e]) (h4 i hi))
end Go.Proofs.Ytnjomfmmnkjhfaa
