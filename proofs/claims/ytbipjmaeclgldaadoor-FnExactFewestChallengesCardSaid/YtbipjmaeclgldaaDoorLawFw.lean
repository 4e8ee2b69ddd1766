/- The walks of the exact laws over slices (the fewest challenges). -/
import Derived.Test.YtbipjmaeclgldaaDoorFwj
import Derived.Test.YtbipjmaeclgldaaDoorFwt
import Derived.Test.YtbipjmaeclgldaaDoorBox
import Derived.Test.YtbipjmaeclgldaaDoorOpen
namespace Go.Proofs.YtbipjmaeclgldaaDoor
open Go.ChangeShapes Go.WideShapes Go.ChangeAt Go.RowKit

set_option maxHeartbeats 2000000 in
theorem lawFnExactFewestChallenges (v0 : Value) (x0 : List Int) (v1 : Value) (x1 : List Int) (x2 : Int) (w : World) (h0 : InI w v0 x0) (h1 : InI w v1 x1) (_n2 : (Lit.int .i64 x2).wf = true) (ht : tabP w) :
    Calls Tryd.prog 3 #[v0, v1, .int .i64 x2] w fun e w' => e = .returned (.bool true) ∧ Below w.heap.size w w' := by
  have HT := Lib.hid ht
  clear ht
  have n2 := _n2
  have H0 := Lib.hid h0
  obtain ⟨A0, c0, rfl, hc0, hm0, -⟩ := h0
  have h0 := H0.out; clear H0; unfold maxLen at hm0
  have H1 := Lib.hid h1
  obtain ⟨A1, c1, rfl, hc1, hm1, -⟩ := h1
  have h1 := H1.out; clear H1; unfold maxLen at hm1
  by_cases n0 : x0.length ≤ 1048576
  case neg =>
    go_enter Tryd.func3, Tryd.ntmps3
    go_wp2
    go_ret
    exact ⟨rfl, Below.refl _ _⟩
  by_cases n1 : x1.length ≤ 1048576
  case neg =>
    go_enter Tryd.func3, Tryd.ntmps3
    go_wp2
    go_ret
    exact ⟨rfl, Below.refl _ _⟩
  have B := Below.refl w.heap.size w
  go_enter Tryd.func3, Tryd.ntmps3
  go_wp2_with fail
  refine (toIntS_std _ x0 _ (h0.below B) n0).mono ?_
  rintro e w1 ⟨u27, rfl, f27, b⟩
  have z := b.size
  replace B := B.trans (b.mono B.size)
  clear b
  go_wp2_with fail
  refine (toIntS_std _ x1 _ (h1.below B) n1).mono ?_
  rintro e w2 ⟨u33, rfl, f33, b⟩
  replace f27 := f27.grow b
  have z := b.size
  replace B := B.trans (b.mono B.size)
  clear b
  go_wp2_with fail
  refine (specFewCh_std _ x0 _ x1 x2 _ f27.in_ n0 f33.in_ n1 n2).mono ?_
  rintro e w3 ⟨rfl, b⟩
  replace f27 := f27.grow b
  replace f33 := f33.grow b
  have z := b.size
  replace B := B.trans (b.mono B.size)
  clear b
  clear f27
  clear f33
  go_wp2_with fail
  refine (toIntS_std _ x0 _ (h0.below B) n0).mono ?_
  rintro e w4 ⟨u50, rfl, f50, b⟩
  have z := b.size
  replace B := B.trans (b.mono B.size)
  clear b
  go_wp2_with fail
  refine (toIntS_std _ x1 _ (h1.below B) n1).mono ?_
  rintro e w5 ⟨u56, rfl, f56, b⟩
  replace f50 := f50.grow b
  have z := b.size
  replace B := B.trans (b.mono B.size)
  clear b
  go_wp2_with fail
  refine (implFewCh_std _ x0 _ x1 x2 _ f50.in_ n0 f56.in_ n1 n2 (HT.out.below B (Nat.le_refl _))).mono ?_
  rintro e w6 ⟨rfl, b⟩
  replace f50 := f50.grow b
  replace f56 := f56.grow b
  have z := b.size
  replace B := B.trans (b.mono B.size)
  clear b
  go_wp2_with fail
  refine (toIntS_std _ x0 _ (h0.below B) n0).mono ?_
  rintro e w7 ⟨u71, rfl, f71, b⟩
  replace f50 := f50.grow b
  replace f56 := f56.grow b
  have z := b.size
  replace B := B.trans (b.mono B.size)
  clear b
  go_wp2_with fail
  refine (eqIntS_std _ _ _ _ f50.in_ f71.in_ n0).mono ?_
  rintro e w8 ⟨rfl, b⟩
  replace f50 := f50.grow b
  replace f56 := f56.grow b
  replace f71 := f71.grow b
  have z := b.size
  replace B := B.trans (b.mono B.size)
  clear b
  clear f71
  go_wp2_with fail
  refine (toIntS_std _ x1 _ (h1.below B) n1).mono ?_
  rintro e w9 ⟨u89, rfl, f89, b⟩
  replace f50 := f50.grow b
  replace f56 := f56.grow b
  have z := b.size
  replace B := B.trans (b.mono B.size)
  clear b
  go_wp2_with fail
  refine (eqIntS_std _ _ _ _ f56.in_ f89.in_ n1).mono ?_
  rintro e w10 ⟨rfl, b⟩
  replace f50 := f50.grow b
  replace f56 := f56.grow b
  replace f89 := f89.grow b
  have z := b.size
  replace B := B.trans (b.mono B.size)
  clear b
  clear f89
  go_wp2
  go_ret
  exact ⟨rfl, B⟩
end Go.Proofs.YtbipjmaeclgldaaDoor
