/- The walks of the exact laws over slices (counts of orders). -/
import Derived.Test.YtlonfaclncnhdaaCount
namespace Go.Proofs.Ytlonfaclncnhdaa
open Go.ChangeShapes Go.WideShapes Go.ChangeAt Go.RowKit

set_option maxHeartbeats 1000000 in
theorem lawFnExactCountAt (x0 : Int) (x1 : Int) (w : World) (_n0 : (Lit.int .i64 x0).wf = true) (_n1 : (Lit.int .i64 x1).wf = true) :
    Calls Try.prog 3 #[.int .i64 x0, .int .i64 x1] w fun e w' => e = .returned (.bool true) ∧ Below w.heap.size w w' := by
  have n0 := _n0
  have n1 := _n1
  have B := Below.refl w.heap.size w
  go_enter Try.func3, Try.ntmps3
  go_wp2_with fail
  refine (specCountAt_std x0 x1 _ n0 n1).mono ?_
  rintro e w1 ⟨rfl, b⟩
  have z := b.size
  replace B := B.trans (b.mono B.size)
  clear b
  go_wp2_with fail
  refine (implCountAt_std x0 x1 _ n0 n1).mono ?_
  rintro e w2 ⟨rfl, b⟩
  have z := b.size
  replace B := B.trans (b.mono B.size)
  clear b
  go_wp2
  go_ret
  exact ⟨rfl, B⟩
end Go.Proofs.Ytlonfaclncnhdaa
