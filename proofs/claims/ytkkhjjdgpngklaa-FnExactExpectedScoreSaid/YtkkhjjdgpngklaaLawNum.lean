/- The laws on integers: walks. -/
import Derived.Test.YtkkhjjdgpngklaaNum
import Derived.Test.YtkkhjjdgpngklaaRate
namespace Go.Proofs.Ytkkhjjdgpngklaa
open Go.ChangeShapes Go.WideShapes Go.ChangeAt Go.RowKit

theorem lawFnExactExpectedScore (a0 a1 : Int) (_wa0 : (Lit.int .i64 a0).wf = true) (_wa1 : (Lit.int .i64 a1).wf = true) (w : World) :
    Calls Try.prog 3 #[.int .i64 a0, .int .i64 a1] w fun e w' => e = .returned (.bool true) ∧ Grown w w' := by
  go_enter Try.func3, Try.ntmps3
  go_wp2_with (first | (go_at_call 13; refine (specExpectedScore_any _ _ _).mono ?_; rintro e w' ⟨rfl, rfl⟩) | (go_at_call 14; refine (implExpectedScore_any _ _ _).mono ?_; rintro e w' ⟨rfl, rfl⟩))
  go_ret
  exact ⟨rfl, Grown.refl _⟩

theorem lawFnExactChangeFor (a0 a1 a2 a3 : Int) (_wa0 : (Lit.int .i64 a0).wf = true) (_wa1 : (Lit.int .i64 a1).wf = true) (_wa2 : (Lit.int .i64 a2).wf = true) (_wa3 : (Lit.int .i64 a3).wf = true) (w : World) :
    Calls Try.prog 4 #[.int .i64 a0, .int .i64 a1, .int .i64 a2, .int .i64 a3] w fun e w' => e = .returned (.bool true) ∧ Grown w w' := by
  go_enter Try.func4, Try.ntmps4
  go_wp2_with (first | (go_at_call 15; refine (specChangeFor_any _ _ _ _ _).mono ?_; rintro e w' ⟨rfl, rfl⟩) | (go_at_call 16; refine (implChangeFor_any _ _ _ _ _).mono ?_; rintro e w' ⟨rfl, rfl⟩))
  go_ret
  exact ⟨rfl, Grown.refl _⟩
end Go.Proofs.Ytkkhjjdgpngklaa
