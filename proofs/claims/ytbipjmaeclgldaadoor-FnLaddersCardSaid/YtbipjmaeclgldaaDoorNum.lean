/- Contracts of functions on integers: ranges, binomial numbers, matches. -/
import Derived.Test.YtbipjmaeclgldaaDoorBase
namespace Go.Proofs.YtbipjmaeclgldaaDoor
open Go.ChangeShapes Go.WideShapes Go.ChangeAt Go.RowKit

theorem within_any (n lo hi : Int) (w : World) :
    Calls Tryd.prog 26 #[.int .i64 n, .int .i64 lo, .int .i64 hi] w fun e w' => e = .returned (.bool (inB n lo hi)) ∧ w = w' := by
  by_cases h : lo ≤ n
  all_goals
    go_enter Tryd.func26, Tryd.ntmps26
    go_wp2
    go_ret
    exact ⟨by unfold inB; simp [*]; try omega, rfl⟩
end Go.Proofs.YtbipjmaeclgldaaDoor
