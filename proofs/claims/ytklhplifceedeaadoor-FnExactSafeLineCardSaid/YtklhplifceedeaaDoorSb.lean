/- Small sets of players as numbers: their elements and how many they are; plain facts. -/
import Derived.Test.YtklhplifceedeaaDoorTools
namespace Go.Proofs.YtklhplifceedeaaDoor
open Go.ChangeShapes Go.WideShapes Go.ChangeAt Go.RowKit

/-- The elements of the set s below k. -/
def memT (s k : Nat) : List Int := ((List.range k).filter (fun a => s.testBit a)).map (fun (a : Nat) => (a : Int))
def memL (s : Nat) : List Int := memT s 8
def cntT (s k : Nat) : Nat := ((List.range k).filter (fun a => s.testBit a)).length
/-- How many elements the set s has. -/
def cntL (s : Nat) : Nat := cntT s 8
theorem memT_zero (s : Nat) : memT s 0 = [] := rfl
theorem memT_in {s k : Nat} (h : s.testBit k = true) : memT s (k + 1) = memT s k ++ [(k : Int)] := by simp [memT, List.range_succ, h]
theorem memT_out {s k : Nat} (h : s.testBit k = false) : memT s (k + 1) = memT s k := by simp [memT, List.range_succ, h]
theorem memT_len (s k : Nat) : (memT s k).length = cntT s k := by simp [memT, cntT]
theorem memL_len (s : Nat) : (memL s).length = cntL s := memT_len s 8
theorem cntT_le (s k : Nat) : cntT s k ≤ k := by
  unfold cntT
  have := List.length_filter_le (fun a => s.testBit a) (List.range k)
  rw [List.length_range] at this; exact this
theorem cntL_le (s : Nat) : cntL s ≤ 8 := cntT_le s 8
theorem memT_mem {s k : Nat} {x : Int} : x ∈ memT s k ↔ ∃ a : Nat, x = (a : Int) ∧ a < k ∧ s.testBit a = true := by
  simp only [memT, List.mem_map, List.mem_filter, List.mem_range]
  constructor
  · rintro ⟨a, ⟨h1, h2⟩, rfl⟩; exact ⟨a, rfl, h1, h2⟩
  · rintro ⟨a, rfl, h1, h2⟩; exact ⟨a, ⟨h1, h2⟩, rfl⟩
theorem bit_hi {s a : Nat} (hs : s < 256) (ha : 8 ≤ a) : s.testBit a = false := by
  apply Nat.testBit_lt_two_pow
  have : 2 ^ 8 ≤ 2 ^ a := Nat.pow_le_pow_right (by omega) ha
  omega
theorem memT_stop {s k : Nat} (hs : s / 2 ^ k = 0) : ∀ m, memT s (k + m) = memT s k := by
  intro m
  induction m with
  | zero => rfl
  | succ m ih =>
    rw [← Nat.add_assoc, memT_out, ih]
    have hp : 0 < 2 ^ k := Nat.pow_pos (by omega)
    have h1 : s < 2 ^ k := by
      rcases Nat.lt_or_ge s (2 ^ k) with h | h
      · exact h
      · have := Nat.div_pos h hp; omega
    apply Nat.testBit_lt_two_pow
    have : 2 ^ k ≤ 2 ^ (k + m) := Nat.pow_le_pow_right (by omega) (by omega)
    omega
theorem memT_done {s k : Nat} (h8 : k ≤ 8) (hs : s / 2 ^ k = 0) : memT s k = memL s := by
  have := memT_stop hs (8 - k)
  rw [show k + (8 - k) = 8 by omega] at this
  exact this.symm
theorem div_stop {s : Nat} (hs : s < 256) : s / 2 ^ 8 = 0 := Nat.div_eq_of_lt (by omega)
theorem bit_one (s a : Nat) : s / 2 ^ a % 2 = if s.testBit a then 1 else 0 := by
  rw [Nat.testBit_eq_decide_div_mod_eq]
  by_cases h : s / 2 ^ a % 2 = 1
  · simp [h]
  · simp only [h, decide_false]; simp; omega
/-- The lowest digit, as the walk spells it. -/
theorem and_one : ∀ s : Fin 256, bits BinOp.and IntKind.i64 (s.val : Int) 1 = ((s.val % 2 : Nat) : Int) := by decide +kernel
theorem and_low {s : Nat} (hs : s < 256) : bits BinOp.and IntKind.i64 (s : Int) 1 = ((s % 2 : Nat) : Int) := and_one ⟨s, hs⟩
theorem and_at {s : Nat} (hs : s < 256) (a : Nat) : bits BinOp.and IntKind.i64 ((s / 2 ^ a : Nat) : Int) 1 = if s.testBit a then 1 else 0 := by
  rw [and_low (Nat.lt_of_le_of_lt (Nat.div_le_self _ _) hs), bit_one]
  split <;> rfl
theorem cntT_succ (s k : Nat) : cntT s (k + 1) = cntT s k + (if s.testBit k then 1 else 0) := by
  unfold cntT
  rw [List.range_succ, List.filter_append, List.length_append]
  congr 1
  cases h : s.testBit k <;> simp [h]
end Go.Proofs.YtklhplifceedeaaDoor
