/- The walks of the exact laws over slices (next orders). -/
import Derived.Test.YtlonfaclncnhdaaNext
namespace Go.Proofs.Ytlonfaclncnhdaa
open Go.ChangeShapes Go.WideShapes Go.ChangeAt Go.RowKit

set_option maxHeartbeats 1000000 in
theorem lawFnExactNextOrder (v0 : Value) (x0 : List Int) (w : World) (h0 : InI w v0 x0) :
    Calls Try.prog 10 #[v0] w fun e w' => e = .returned (.bool true) ∧ Below w.heap.size w w' := by
  have H0 := Lib.hid h0
  obtain ⟨A0, c0, rfl, hc0, hm0, -⟩ := h0
  have h0 := H0.out; clear H0; unfold maxLen at hm0
  by_cases n0 : x0.length ≤ 1048576
  case neg =>
    go_enter Try.func10, Try.ntmps10
    go_wp2
    go_ret
    exact ⟨rfl, Below.refl _ _⟩
  have m0 : (nextF x0).length ≤ 1048576 := nextF_len n0
  have B := Below.refl w.heap.size w
  go_enter Try.func10, Try.ntmps10
  go_wp2_with fail
  refine (toIntS_std _ x0 _ (h0.below B) n0).mono ?_
  rintro e w1 ⟨u16, rfl, f16, b⟩
  have z := b.size
  replace B := B.trans (b.mono B.size)
  clear b
  go_wp2_with fail
  refine (specNextOrder_std _ x0 _ f16.in_ n0).mono ?_
  rintro e w2 ⟨r22, rfl, g22, b⟩
  replace f16 := f16.grow b
  have z := b.size
  replace B := B.trans (b.mono B.size)
  clear b
  clear f16
  go_wp2_with fail
  refine (toIntS_std _ x0 _ (h0.below B) n0).mono ?_
  rintro e w3 ⟨u30, rfl, f30, b⟩
  replace g22 := g22.grow b
  have z := b.size
  replace B := B.trans (b.mono B.size)
  clear b
  go_wp2_with fail
  refine (implNextOrder_std _ x0 _ f30.in_ n0).mono ?_
  rintro e w4 ⟨r37, rfl, g37, b⟩
  replace g22 := g22.grow b
  replace f30 := f30.grow b
  have z := b.size
  replace B := B.trans (b.mono B.size)
  clear b
  go_wp2_with fail
  refine (eqIntS_std _ _ _ _ g37.in_ g22.in_ m0).mono ?_
  rintro e w5 ⟨rfl, b⟩
  replace g22 := g22.grow b
  replace f30 := f30.grow b
  replace g37 := g37.grow b
  have z := b.size
  replace B := B.trans (b.mono B.size)
  clear b
  go_wp2_with fail
  refine (toIntS_std _ x0 _ (h0.below B) n0).mono ?_
  rintro e w6 ⟨u54, rfl, f54, b⟩
  replace g22 := g22.grow b
  replace f30 := f30.grow b
  replace g37 := g37.grow b
  have z := b.size
  replace B := B.trans (b.mono B.size)
  clear b
  go_wp2_with fail
  refine (eqIntS_std _ _ _ _ f30.in_ f54.in_ n0).mono ?_
  rintro e w7 ⟨rfl, b⟩
  replace g22 := g22.grow b
  replace f30 := f30.grow b
  replace g37 := g37.grow b
  replace f54 := f54.grow b
  have z := b.size
  replace B := B.trans (b.mono B.size)
  clear b
  clear f54
  go_wp2_with fail
  refine (markIntS_std _ _ _ _ _ _ f30 n0 (by omega) (by omega)).mono ?_
  rintro e w8 ⟨rfl, f30', kp⟩
  replace g22 := g22.keep kp (by omega)
  replace g37 := g37.keep kp (by omega)
  have z := kp.size
  replace B := B.trans (kp.below (by omega) B.size)
  clear kp f30
  have f30 := f30'; clear f30'
  clear f30
  go_wp2_with fail
  refine (eqIntS_std _ _ _ _ g37.in_ g22.in_ m0).mono ?_
  rintro e w9 ⟨rfl, b⟩
  replace g22 := g22.grow b
  replace g37 := g37.grow b
  have z := b.size
  replace B := B.trans (b.mono B.size)
  clear b
  go_wp2_with fail
  refine (markIntS_std _ _ _ _ _ _ g37 m0 (by omega) (by omega)).mono ?_
  rintro e w10 ⟨rfl, g37', kp⟩
  replace g22 := g22.keep kp (by omega)
  have z := kp.size
  replace B := B.trans (kp.below (by omega) B.size)
  clear kp g37
  have g37 := g37'; clear g37'
  go_wp2_with fail
  refine (heldIntS_std _ ((nextF x0).length) _ _ g37.in_ m0 (by omega) (by omega)).mono ?_
  rintro e w11 ⟨rfl, b⟩
  replace g22 := g22.grow b
  replace g37 := g37.grow b
  have z := b.size
  replace B := B.trans (b.mono B.size)
  clear b
  go_wp2_with fail
  refine (toIntS_std _ x0 _ (h0.below B) n0).mono ?_
  rintro e w12 ⟨u108, rfl, f108, b⟩
  replace g22 := g22.grow b
  replace g37 := g37.grow b
  have z := b.size
  replace B := B.trans (b.mono B.size)
  clear b
  go_wp2_with fail
  refine (implNextOrder_std _ x0 _ f108.in_ n0).mono ?_
  rintro e w13 ⟨r116, rfl, g116, b⟩
  replace g22 := g22.grow b
  replace g37 := g37.grow b
  replace f108 := f108.grow b
  have z := b.size
  replace B := B.trans (b.mono B.size)
  clear b
  clear f108
  go_wp2_with fail
  refine (eqIntS_std _ _ _ _ g116.in_ g22.in_ m0).mono ?_
  rintro e w14 ⟨rfl, b⟩
  replace g22 := g22.grow b
  replace g37 := g37.grow b
  replace g116 := g116.grow b
  have z := b.size
  replace B := B.trans (b.mono B.size)
  clear b
  go_wp2_with fail
  refine (heldIntS_std _ ((nextF x0).length) _ _ g37.in_ m0 (by omega) (by omega)).mono ?_
  rintro e w15 ⟨rfl, b⟩
  replace g22 := g22.grow b
  replace g37 := g37.grow b
  replace g116 := g116.grow b
  have z := b.size
  replace B := B.trans (b.mono B.size)
  clear b
  go_wp2
  go_ret
  exact ⟨rfl, B⟩
end Go.Proofs.Ytlonfaclncnhdaa
