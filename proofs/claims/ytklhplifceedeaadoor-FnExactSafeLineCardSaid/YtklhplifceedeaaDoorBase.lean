/- Plain facts on integers, bounds and binomial numbers; no program in sight. -/
import Derived.Test.YtklhplifceedeaaDoorRows
import Derived.WalkKit
import Derived.ProofKit
import Derived.OpenShut
import Derived.BigQuiet
import Derived.Deep.QuietTactic
import Derived.Lib.Hide
namespace Go.Proofs.YtklhplifceedeaaDoor
open Go.ChangeShapes Go.WideShapes Go.ChangeAt Go.RowKit

def inB (n lo hi : Int) : Bool := decide (lo ≤ n) && decide (n ≤ hi)
theorem inB_t {n lo hi : Int} : inB n lo hi = true ↔ lo ≤ n ∧ n ≤ hi := by simp [inB]
theorem inB_f {n lo hi : Int} : inB n lo hi = false ↔ n < lo ∨ hi < n := by
  simp only [inB, Bool.and_eq_false_iff, decide_eq_false_iff_not]; omega
theorem inB_mk {n lo hi : Int} (h1 : lo ≤ n) (h2 : n ≤ hi) : inB n lo hi = true := inB_t.2 ⟨h1, h2⟩
theorem ret_int {k : IntKind} {a b : Int} (h : a = b) : Ending.returned (.int k a) = .returned (.int k b) := by rw [h]
theorem ret_bool {a b : Bool} (h : a = b) : Ending.returned (.bool a) = .returned (.bool b) := by rw [h]

/-- Binomial numbers. -/
def bin : Nat → Nat → Nat
  | _, 0 => 1
  | 0, _ + 1 => 0
  | n + 1, k + 1 => bin n k + bin n (k + 1)
theorem bin_zero (n : Nat) : bin n 0 = 1 := by cases n <;> rfl
theorem bin_lt : ∀ (n k : Nat), n < k → bin n k = 0
  | 0, k + 1, _ => rfl
  | n + 1, k + 1, h => by rw [bin, bin_lt n k (by omega), bin_lt n (k + 1) (by omega)]
theorem bin_le (n : Nat) : ∀ k, bin n k ≤ 2 ^ n := by
  induction n with
  | zero => intro k; cases k <;> simp [bin]
  | succ n ih =>
    intro k
    cases k with
    | zero => rw [bin_zero]; exact Nat.one_le_two_pow
    | succ k => rw [bin]; have := ih k; have := ih (k + 1); omega
theorem bin_mul (n : Nat) : ∀ k, (k + 1) * bin (n + 1) (k + 1) = (n + 1) * bin n k := by
  induction n with
  | zero =>
    intro k
    cases k with
    | zero => rfl
    | succ k => simp [bin]
  | succ n ih =>
    intro k
    cases k with
    | zero =>
      have h := ih 0
      simp only [bin, bin_zero] at h ⊢
      omega
    | succ k =>
      have h1 := ih k
      have h2 := ih (k + 1)
      have e1 : bin (n + 1 + 1) (k + 1 + 1) = bin (n + 1) (k + 1) + bin (n + 1) (k + 1 + 1) := rfl
      have e2 : bin (n + 1) (k + 1) = bin n k + bin n (k + 1) := rfl
      calc (k + 1 + 1) * bin (n + 1 + 1) (k + 1 + 1)
          = (k + 1) * bin (n + 1) (k + 1) + bin (n + 1) (k + 1) + (k + 1 + 1) * bin (n + 1) (k + 1 + 1) := by rw [e1, Nat.mul_add]; congr 1; rw [Nat.add_mul, Nat.one_mul]
        _ = (n + 1) * bin n k + bin (n + 1) (k + 1) + (n + 1) * bin n (k + 1) := by rw [h1, h2]
        _ = (n + 1) * bin (n + 1) (k + 1) + bin (n + 1) (k + 1) := by rw [e2, Nat.mul_add]; omega
        _ = (n + 1 + 1) * bin (n + 1) (k + 1) := by rw [Nat.add_mul (n + 1) 1, Nat.one_mul]
theorem bin_next (n : Nat) : ∀ k, k ≤ n → (k + 1) * bin n (k + 1) = (n - k) * bin n k := by
  intro k hk
  cases n with
  | zero => cases k with | zero => simp [bin] | succ k => omega
  | succ n =>
    have h1 := bin_mul n k
    cases k with
    | zero => simp [bin_zero] at h1 ⊢; exact h1
    | succ k =>
      have h2 := bin_mul n k
      have e : bin (n + 1) (k + 1) = bin n k + bin n (k + 1) := rfl
      have h3 : (n + 1) * bin (n + 1) (k + 1) = (n + 1) * bin n k + (n + 1) * bin n (k + 1) := by rw [e, Nat.mul_add]
      have h4 : (n + 1 - (k + 1)) * bin (n + 1) (k + 1) + (k + 1) * bin (n + 1) (k + 1) = (n + 1) * bin (n + 1) (k + 1) := by
        rw [← Nat.add_mul]; congr 1; omega
      omega
theorem bin_step (n k : Nat) (hk : k ≤ n) : bin n k * (n - k) / (k + 1) = bin n (k + 1) := by
  have h := bin_next n k hk
  rw [Nat.mul_comm (bin n k), ← h, Nat.mul_comm (k + 1)]
  exact Nat.mul_div_cancel _ (by omega)
theorem bin_step' (m i : Nat) : bin (m + i) i * (m + (i + 1)) / (i + 1) = bin (m + (i + 1)) (i + 1) := by
  have h := bin_mul (m + i) i
  have e : m + (i + 1) = m + i + 1 := by omega
  rw [e, Nat.mul_comm (bin (m + i) i), ← h, Nat.mul_comm (i + 1)]
  exact Nat.mul_div_cancel _ (by omega)
theorem bin_cap {n : Nat} (h : n ≤ 50) (k : Nat) : bin n k ≤ 1125899906842624 := by
  have h1 := bin_le n k
  have h2 : 2 ^ n ≤ 2 ^ 50 := Nat.pow_le_pow_right (by omega) h
  omega
theorem mul_cap {a b c d : Nat} (h1 : a ≤ c) (h2 : b ≤ d) : a * b ≤ c * d := Nat.mul_le_mul h1 h2

/-- The sum of t binomial numbers from place i on. -/
def wsum (m i : Nat) : Nat → Nat
  | 0 => 0
  | t + 1 => wsum m i t + bin m (i + t)
theorem wsum_shift (m i : Nat) : ∀ t, wsum (m + 1) (i + 1) t = wsum m i t + wsum m (i + 1) t
  | 0 => rfl
  | t + 1 => by
    have h := wsum_shift m i t
    have e : bin (m + 1) (i + 1 + t) = bin m (i + t) + bin m (i + 1 + t) := by
      rw [show i + 1 + t = i + t + 1 from by omega]; rfl
    simp only [wsum]; omega
theorem wsum_front (m i : Nat) : ∀ t, wsum m i (t + 1) = bin m i + wsum m (i + 1) t
  | 0 => by simp [wsum]
  | t + 1 => by
    have h := wsum_front m i t
    have e : i + (t + 1) = i + 1 + t := by omega
    rw [wsum, h, e]; simp only [wsum]; omega
theorem wsum_le (m : Nat) : ∀ i t, wsum m i t ≤ 2 ^ m := by
  induction m with
  | zero =>
    intro i t
    have h : ∀ t, wsum 0 i t ≤ (if i = 0 ∧ 0 < t then 1 else 0) := by
      intro t
      induction t with
      | zero => simp [wsum]
      | succ t ih =>
        rw [wsum]
        by_cases h0 : i + t = 0
        · obtain rfl : i = 0 := by omega
          obtain rfl : t = 0 := by omega
          simp [wsum, bin]
        · have e : bin 0 (i + t) = 0 := bin_lt 0 _ (by omega)
          rw [e]; split at ih <;> split <;> omega
    have := h t
    split at this <;> simp <;> omega
  | succ m ih =>
    intro i t
    cases i with
    | zero =>
      cases t with
      | zero => simp [wsum]
      | succ t =>
        have h1 := ih 0 (t + 1)
        have h2 := ih 1 t
        have e1 := wsum_front (m + 1) 0 t
        have e2 := wsum_shift m 0 t
        have e3 := wsum_front m 0 t
        have e4 := bin_zero (m + 1)
        have e5 := bin_zero m
        simp only [Nat.zero_add] at e1 e2 e3
        have h0 := ih 0 t
        omega
    | succ i =>
      rw [wsum_shift]
      have := ih i t
      have := ih (i + 1) t
      omega
theorem wsum_cap {m : Nat} (h : m ≤ 40) (i t : Nat) : wsum m i t ≤ 1099511627776 := by
  have h1 := wsum_le m i t
  have h2 : 2 ^ m ≤ 2 ^ 40 := Nat.pow_le_pow_right (by omega) h
  omega
def ways (i k : Nat) : Nat := wsum (i + k - 1) i k
theorem ways_cap {i k : Nat} (h : i + k ≤ 41) : ways i k ≤ 1099511627776 := wsum_cap (by omega) _ _

theorem quiet_add {P : Program} {f : FuncId} {args : Array Value} {w : World} {a n : Nat} {v : Value}
    (h : Calls P f args (w.drewN (a + n)) fun e w' => e = .returned v ∧ ∃ m, w' = (w.drewN (a + n)).drewN m) :
    Calls P f args (w.drewN (a + n)) fun e w'' => e = .returned v ∧ ∃ m, w'' = w.drewN (a + m) :=
  h.mono fun _ _ ⟨he, m, hm⟩ => ⟨he, n + m, by rw [hm, World.drewN_drewN, Nat.add_assoc]⟩
theorem quiet_add_left {P : Program} {f : FuncId} {args : Array Value} {w : World} {a n : Nat} {v : Value}
    (h : Calls P f args (w.drewN (a + n)) fun e w' => e = .returned v ∧ w.drewN (a + n) = w') :
    Calls P f args (w.drewN (a + n)) fun e w'' => e = .returned v ∧ ∃ m, w'' = w.drewN (a + m) :=
  h.mono fun _ _ ⟨he, hm⟩ => ⟨he, n, hm.symm⟩
theorem quiet_left {P : Program} {f : FuncId} {args : Array Value} {w : World} {n : Nat} {v : Value}
    (h : Calls P f args (w.drewN n) fun e w' => e = .returned v ∧ w.drewN n = w') : Calls P f args (w.drewN n) fun e w'' => e = .returned v ∧ ∃ m, w'' = w.drewN m :=
  h.mono fun _ _ ⟨he, hm⟩ => ⟨he, n, hm.symm⟩

theorem grown_drewN' {a w : World} (h : Grown a w) (n : Nat) : Grown a (w.drewN n) := by
  obtain ⟨h1, h2, h3⟩ := h
  exact ⟨⟨h1.1, h1.2.1, h1.2.2⟩, h2, h3⟩
theorem grown_drewN (w : World) (n : Nat) : Grown w (w.drewN n) := grown_drewN' (Grown.refl _) n
end Go.Proofs.YtklhplifceedeaaDoor
