/- The walks of the exact laws over slices (numbers of a text). -/
import Derived.Test.YtbhinnkjadfgcaaDoorPni
import Derived.Test.YtbhinnkjadfgcaaDoorStd
import Derived.Test.YtbhinnkjadfgcaaDoorOpen
namespace Go.Proofs.YtbhinnkjadfgcaaDoor
open Go.ChangeShapes Go.WideShapes Go.ChangeAt Go.RowKit

set_option maxHeartbeats 2000000 in
theorem lawFnExactParseNumbers (x0 : ByteArray) (w : World) (_n0 : x0.size ≤ maxLen) (ht : tabE w) :
    Calls Tryd.prog 3 #[.string x0] w fun e w' => e = .returned (.bool true) ∧ Below w.heap.size w w' := by
  have HT := Lib.hid ht
  clear ht
  by_cases n0 : x0.size ≤ 1048576
  case neg =>
    go_enter Tryd.func3, Tryd.ntmps3
    go_wp2
    go_ret
    exact ⟨rfl, Below.refl _ _⟩
  have m0 : (pnF x0.data.toList).length ≤ 1048576 := pnF_len x0.data.toList
  have B := Below.refl w.heap.size w
  go_enter Tryd.func3, Tryd.ntmps3
  go_wp2_with fail
  refine (specPn_std x0 _ n0).mono ?_
  rintro e w1 ⟨r15, rfl, g15, b⟩
  have z := b.size
  replace B := B.trans (b.mono B.size)
  clear b
  go_wp2_with fail
  refine (implPn_std x0 _ n0 (HT.out.below B (Nat.le_refl _))).mono ?_
  rintro e w2 ⟨r21, rfl, g21, b⟩
  replace g15 := g15.grow b
  have z := b.size
  replace B := B.trans (b.mono B.size)
  clear b
  go_wp2_with fail
  refine (eqIntS_std _ _ _ _ g21.in_ g15.in_ m0).mono ?_
  rintro e w3 ⟨rfl, b⟩
  replace g15 := g15.grow b
  replace g21 := g21.grow b
  have z := b.size
  replace B := B.trans (b.mono B.size)
  clear b
  go_wp2_with fail
  refine (markIntS_std _ _ _ _ _ _ g21 m0 (by omega) (by omega)).mono ?_
  rintro e w4 ⟨rfl, g21', kp⟩
  replace g15 := g15.keep kp (by omega)
  have z := kp.size
  replace B := B.trans (kp.below (by omega) B.size)
  clear kp g21
  have g21 := g21'; clear g21'
  go_wp2_with fail
  refine (heldIntS_std _ ((pnF x0.data.toList).length) _ _ g21.in_ m0 (by omega) (by omega)).mono ?_
  rintro e w5 ⟨rfl, b⟩
  replace g15 := g15.grow b
  replace g21 := g21.grow b
  have z := b.size
  replace B := B.trans (b.mono B.size)
  clear b
  go_wp2_with fail
  refine (implPn_std x0 _ n0 (HT.out.below B (Nat.le_refl _))).mono ?_
  rintro e w6 ⟨r52, rfl, g52, b⟩
  replace g15 := g15.grow b
  replace g21 := g21.grow b
  have z := b.size
  replace B := B.trans (b.mono B.size)
  clear b
  go_wp2_with fail
  refine (eqIntS_std _ _ _ _ g52.in_ g15.in_ m0).mono ?_
  rintro e w7 ⟨rfl, b⟩
  replace g15 := g15.grow b
  replace g21 := g21.grow b
  replace g52 := g52.grow b
  have z := b.size
  replace B := B.trans (b.mono B.size)
  clear b
  go_wp2_with fail
  refine (heldIntS_std _ ((pnF x0.data.toList).length) _ _ g21.in_ m0 (by omega) (by omega)).mono ?_
  rintro e w8 ⟨rfl, b⟩
  replace g15 := g15.grow b
  replace g21 := g21.grow b
  replace g52 := g52.grow b
  have z := b.size
  replace B := B.trans (b.mono B.size)
  clear b
  go_wp2
  go_ret
  exact ⟨rfl, B⟩
end Go.Proofs.YtbhinnkjadfgcaaDoor
