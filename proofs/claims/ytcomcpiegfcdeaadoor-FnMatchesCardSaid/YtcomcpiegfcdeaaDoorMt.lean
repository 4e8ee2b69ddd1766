/- Matches: plain facts on numbers up to ten, and on courses. -/
import Derived.Test.YtcomcpiegfcdeaaDoorNum
import Derived.Test.YtcomcpiegfcdeaaDoorAc
namespace Go.Proofs.YtcomcpiegfcdeaaDoor
open Go.ChangeShapes Go.WideShapes Go.ChangeAt Go.RowKit

def binE (m : Nat) : Nat → Nat
  | 0 => 1
  | i + 1 => binE m i * (m + (i + 1)) / (i + 1)
theorem binE_eq (m : Nat) : ∀ i, binE m i = bin (m + i) i
  | 0 => (bin_zero _).symm
  | i + 1 => by rw [binE, binE_eq m i, bin_step']
def binQ (n k : Nat) : Nat := if k ≤ n then binE (n - k) k else 0
theorem binQ_eq (n k : Nat) : bin n k = binQ n k := by
  unfold binQ
  by_cases h : k ≤ n
  · rw [if_pos h, binE_eq, Nat.sub_add_cancel h]
  · rw [if_neg h, bin_lt _ _ (by omega)]
def wsumE (m i : Nat) : Nat → Nat
  | 0 => 0
  | t + 1 => wsumE m i t + binQ m (i + t)
theorem wsumE_eq (m i : Nat) : ∀ t, wsum m i t = wsumE m i t
  | 0 => rfl
  | t + 1 => by rw [wsum, wsumE, wsumE_eq m i t, binQ_eq]
def waysE (i k : Nat) : Nat := wsumE (i + k - 1) i k
theorem waysE_eq (i k : Nat) : ways i k = waysE i k := wsumE_eq _ _ _
def evenE (i : Nat) : Nat → Nat
  | 0 => 0
  | j + 1 => if 2 * waysE i (j + 1) ≤ 2 ^ (i + j) then j + 1 else evenE i j
theorem evenE_eq (i : Nat) : ∀ j, evenUpto i j = evenE i j
  | 0 => rfl
  | j + 1 => by rw [evenUpto, evenE, evenE_eq i j, waysE_eq]
def totE (i n : Nat) : Nat → Nat
  | 0 => 0
  | g + 1 => totE i n g + binQ g (i - 1) * 2 ^ (n - (g + 1))
def factsB (i k : Nat) : Bool :=
  decide (1 ≤ waysE i k) && decide (waysE i k ≤ 524288) && decide (waysE i k + waysE k i = 2 ^ (i + k - 1)) && decide (evenE i k = min i k) && decide (totE i (i + k - 1) (i + k - 1) = waysE i k)
    && (decide (i = 1) || decide (k = 1) || decide (waysE i k = waysE (i - 1) k + waysE i (k - 1)))
    && (List.range (i + k - 1)).all fun g => (decide (0 < binQ g (i - 1)) == decide (i ≤ g + 1)) && decide (binQ g (i - 1) ≤ 524288) && decide (totE i (i + k - 1) (g + 1) ≤ 524288)
set_option maxRecDepth 100000 in
theorem factsB_all : ((List.range 10).all fun i => (List.range 10).all fun k => factsB (i + 1) (k + 1)) = true := by decide +kernel
theorem facts {i k : Nat} (hi : 1 ≤ i) (hi' : i ≤ 10) (hk : 1 ≤ k) (hk' : k ≤ 10) : factsB i k = true := by
  have h := List.all_eq_true.1 factsB_all (i - 1) (List.mem_range.2 (by omega))
  have h2 := List.all_eq_true.1 h (k - 1) (List.mem_range.2 (by omega))
  rwa [Nat.sub_add_cancel hi, Nat.sub_add_cancel hk] at h2
structure Facts (i k : Nat) : Prop where
  one : 1 ≤ ways i k
  cap : ways i k ≤ 524288
  two : ways i k + ways k i = 2 ^ (i + k - 1)
  even : evenUpto i k = min i k
  tot : totE i (i + k - 1) (i + k - 1) = ways i k
  step : i = 1 ∨ k = 1 ∨ ways i k = ways (i - 1) k + ways i (k - 1)
  pos : ∀ g, g < i + k - 1 → (0 < bin g (i - 1) ↔ i ≤ g + 1)
  bcap : ∀ g, g < i + k - 1 → bin g (i - 1) ≤ 524288
  tcap : ∀ g, g < i + k - 1 → totE i (i + k - 1) (g + 1) ≤ 524288
theorem facts_of {i k : Nat} (hi : 1 ≤ i) (hi' : i ≤ 10) (hk : 1 ≤ k) (hk' : k ≤ 10) : Facts i k := by
  have h := facts hi hi' hk hk'
  unfold factsB at h
  simp only [Bool.and_eq_true, Bool.or_eq_true, decide_eq_true_eq, List.all_eq_true, List.mem_range, beq_iff_eq] at h
  obtain ⟨⟨⟨⟨⟨⟨h1, h2⟩, h3⟩, h4⟩, h5⟩, h6⟩, h7⟩ := h
  refine ⟨?_, ?_, ?_, ?_, ?_, ?_, fun g hg => ?_, fun g hg => ?_, fun g hg => (h7 g hg).2⟩
  · rw [waysE_eq]; exact h1
  · rw [waysE_eq]; exact h2
  · rw [waysE_eq, waysE_eq]; exact h3
  · rw [evenE_eq]; exact h4
  · rw [waysE_eq]; exact h5
  · rw [waysE_eq, waysE_eq, waysE_eq]; rcases h6 with (h6 | h6) | h6
    · exact .inl h6
    · exact .inr (.inl h6)
    · exact .inr (.inr h6)
  · rw [binQ_eq]; exact decide_eq_decide.1 (h7 g hg).1.1
  · rw [binQ_eq]; exact (h7 g hg).1.2
/-- Two shares of a stake: at most the stake, and at most one is lost. -/
theorem share_two {s a b D : Int} (hD : 0 < D) (hab : a + b = D) (hs : 0 ≤ s) (ha : 0 ≤ a) (hb : 0 ≤ b) :
    0 ≤ s * a / D ∧ 0 ≤ s * b / D ∧ s * a / D + s * b / D ≤ s ∧ s - 1 ≤ s * a / D + s * b / D := by
  have h0 := Int.ediv_nonneg (Int.mul_nonneg hs ha) (Int.le_of_lt hD)
  have h1 := Int.ediv_nonneg (Int.mul_nonneg hs hb) (Int.le_of_lt hD)
  have e1 := Int.mul_ediv_add_emod (s * a) D
  have e2 := Int.mul_ediv_add_emod (s * b) D
  have r1 := Int.emod_nonneg (s * a) (Int.ne_of_gt hD)
  have r2 := Int.emod_nonneg (s * b) (Int.ne_of_gt hD)
  have l1 := Int.emod_lt_of_pos (s * a) hD
  have l2 := Int.emod_lt_of_pos (s * b) hD
  have hsum : s * a + s * b = D * s := by rw [← Int.mul_add, hab, Int.mul_comm]
  generalize s * a / D = p at *
  generalize s * b / D = q at *
  have hm : D * (p + q) = D * p + D * q := Int.mul_add _ _ _
  refine ⟨h0, h1, ?_, ?_⟩
  · refine Int.not_lt.1 fun hc => ?_
    have h := Int.mul_le_mul_of_nonneg_left (show s + 1 ≤ p + q from hc) (Int.le_of_lt hD)
    rw [Int.mul_add, Int.mul_one] at h
    omega
  · refine Int.not_lt.1 fun hc => ?_
    have h := Int.mul_le_mul_of_nonneg_left (show p + q ≤ s - 2 by omega) (Int.le_of_lt hD)
    rw [Int.mul_sub] at h
    omega
theorem goF_append (i k : Int) (l : List UInt8) (c : UInt8) : goF i k (l ++ [c]) = goF (goF i k l).1 (goF i k l).2 [c] := by
  induction l generalizing i k with
  | nil => rfl
  | cons d r ih =>
    by_cases h : 0 < i ∧ 0 < k
    · have e : goF i k (d :: r) = if d = 97 then goF (i - 1) k r else goF i (k - 1) r := by rw [goF, if_pos h]
      rw [List.cons_append, goF, if_pos h, e]
      by_cases hd : d = 97
      · rw [if_pos hd, if_pos hd]; exact ih _ _
      · rw [if_neg hd, if_neg hd]; exact ih _ _
    · rw [goF_stop h, goF_stop h, goF_stop h]
theorem goF_one (i k : Int) (c : UInt8) : goF i k [c] = if 0 < i ∧ 0 < k then (if c = 97 then (i - 1, k) else (i, k - 1)) else (i, k) := by
  rw [goF]; rfl
end Go.Proofs.YtcomcpiegfcdeaaDoor
