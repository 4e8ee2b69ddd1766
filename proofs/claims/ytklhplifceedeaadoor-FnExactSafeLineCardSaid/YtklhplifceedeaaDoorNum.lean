/- Contracts of functions on integers: ranges, binomial numbers, matches. -/
import Derived.Test.YtklhplifceedeaaDoorBase
namespace Go.Proofs.YtklhplifceedeaaDoor
open Go.ChangeShapes Go.WideShapes Go.ChangeAt Go.RowKit

theorem within_any (n lo hi : Int) (w : World) :
    Calls Tryd.prog 35 #[.int .i64 n, .int .i64 lo, .int .i64 hi] w fun e w' => e = .returned (.bool (inB n lo hi)) ∧ w = w' := by
  by_cases h : lo ≤ n
  all_goals
    go_enter Tryd.func35, Tryd.ntmps35
    go_wp2
    go_ret
    exact ⟨by unfold inB; simp [*]; try omega, rfl⟩

theorem l01In_any (n lo hi : Int) (w : World) :
    Calls Tryd.prog 30 #[.int .i64 n, .int .i64 lo, .int .i64 hi] w fun e w' => e = .returned (.bool (inB n lo hi)) ∧ w = w' := by
  by_cases h : lo ≤ n
  all_goals
    go_enter Tryd.func30, Tryd.ntmps30
    go_wp2
    go_ret
    exact ⟨by unfold inB; simp [*]; try omega, rfl⟩

def mOk (i k : Int) : Bool := inB i 1 20 && inB k 1 20
theorem mOk_t {i k : Int} : mOk i k = true ↔ (1 ≤ i ∧ i ≤ 20) ∧ 1 ≤ k ∧ k ≤ 20 := by simp [mOk, inB_t]

def longest (i k : Int) : Int := if mOk i k then i + k - 1 else -1
def shortest (i k : Int) : Int := if mOk i k then min i k else -1
def waysF (i k : Int) : Int := if mOk i k then (ways i.toNat k.toNat : Nat) else -1
def waysIn (i k n : Int) : Int := if mOk i k && inB n 1 (i + k - 1) then (bin (n - 1).toNat (i - 1).toNat : Nat) else -1
def needOf (g : Int) : Int := if inB g 1 39 && g % 2 != 0 then g / 2 + 1 else -1

def shareF (s i k : Int) : Int := if mOk i k && inB s 0 1000000 then s * (ways i.toNat k.toNat : Nat) / 2 ^ ((i + k).toNat - 1) else -1
def evenUpto (i : Nat) : Nat → Nat
  | 0 => 0
  | j + 1 => if 2 * ways i (j + 1) ≤ 2 ^ (i + j) then j + 1 else evenUpto i j
theorem evenUpto_pos (i : Nat) {j : Nat} (h : 0 < j) : evenUpto i j = if 2 * (ways i j : Int) ≤ 2 ^ (i + j - 1) then j else evenUpto i (j - 1) := by
  cases j with
  | zero => omega
  | succ j =>
    rw [evenUpto, show i + (j + 1) - 1 = i + j from by omega, Nat.add_sub_cancel]
    by_cases hc : 2 * ways i (j + 1) ≤ 2 ^ (i + j)
    · have h2 : 2 * (ways i (j + 1) : Int) ≤ 2 ^ (i + j) := by exact_mod_cast hc
      rw [if_pos hc, if_pos h2]
    · have h2 : ¬ 2 * (ways i (j + 1) : Int) ≤ 2 ^ (i + j) := fun h2 => hc (by exact_mod_cast h2)
      rw [if_neg hc, if_neg h2]
def evenF (i m : Int) : Int := if mOk i m then (evenUpto i.toNat m.toNat : Nat) else 0
end Go.Proofs.YtklhplifceedeaaDoor
