/- The law FnExactPlanLine: its walk. -/
import Derived.Test.YtnlhelhpalimnaaDoorCv
import Derived.Test.YtnlhelhpalimnaaDoorOpen
namespace Go.Proofs.YtnlhelhpalimnaaDoor
open Go.ChangeShapes Go.WideShapes Go.ChangeAt Go.RowKit

set_option maxHeartbeats 2000000 in
theorem lawFnExactPlanLine (x0 : Int) (v1 : Value) (x1 : List (List Int)) (w : World) (_n0 : (Lit.int .i64 x0).wf = true) (h1 : InS w v1 x1) (ht : tabP w) :
    Calls Tryd.prog 3 #[.int .i64 x0, v1] w fun e w' => e = .returned (.bool true) ∧ Below w.heap.size w w' := by
  have HT := Lib.hid ht
  clear ht
  by_cases l1 : ((bulk x1 : Nat) : Int) ≤ (1048576 : Int)
  case neg =>
    have B := Below.refl w.heap.size w
    go_enter Tryd.func3, Tryd.ntmps3
    go_wp2_with fail
    refine (szIntSS_any _ x1 _ _ (h1.below B) (by omega) (by omega)).mono ?_; rintro e w' ⟨rfl, rfl⟩
    rw [szR_neg (by omega)]
    go_wp2
    go_ret
    exact ⟨rfl, B⟩
  have n1 : bulk x1 ≤ 1048576 := by omega
  have B := Below.refl w.heap.size w
  go_enter Tryd.func3, Tryd.ntmps3
  go_wp2_with fail
  refine (szIntSS_any _ x1 _ _ (h1.below B) (by omega) (by omega)).mono ?_; rintro e w' ⟨rfl, rfl⟩
  rw [szR_pos (by omega)]
  go_wp2_with fail
  refine (toIntSS_std _ x1 _ (h1.below B) n1).mono ?_
  rintro e w1 ⟨u1, rfl, f1, b⟩
  replace B := B.trans (b.mono B.size)
  clear b
  go_wp2_with fail
  refine (specPlanLine_any x0 _ x1 _ f1.in_ n1).mono ?_
  rintro e w2 ⟨rfl, b⟩
  replace B := B.trans (b.mono B.size)
  clear b f1
  go_wp2_with fail
  refine (toIntSS_std _ x1 _ (h1.below B) n1).mono ?_
  rintro e w3 ⟨u3, rfl, f3, b⟩
  replace B := B.trans (b.mono B.size)
  clear b
  go_wp2_with fail
  refine (implPlanLine_any x0 _ x1 _ f3.in_ n1 (HT.out.below B (Nat.le_refl _))).mono ?_
  rintro e w4 ⟨rfl, b⟩
  replace B := B.trans (b.mono B.size)
  replace f3 := f3.grow b
  clear b
  go_wp2_with fail
  refine (toIntSS_std _ x1 _ (h1.below B) n1).mono ?_
  rintro e w5 ⟨u5, rfl, f5, b⟩
  replace B := B.trans (b.mono B.size)
  replace f3 := f3.grow b
  clear b
  go_wp2_with fail
  refine (eqIntSS_std _ _ x1 _ f3.in_ f5.in_ n1).mono ?_
  rintro e w6 ⟨rfl, b⟩
  replace B := B.trans (b.mono B.size)
  clear b f3 f5
  go_wp2
  go_ret
  exact ⟨rfl, B⟩
end Go.Proofs.YtnlhelhpalimnaaDoor
