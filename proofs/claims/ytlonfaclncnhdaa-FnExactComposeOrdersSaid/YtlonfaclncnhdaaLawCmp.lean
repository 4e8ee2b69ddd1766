/- The walks of the exact laws over slices (comparisons). -/
import Derived.Test.YtlonfaclncnhdaaCmp
namespace Go.Proofs.Ytlonfaclncnhdaa
open Go.ChangeShapes Go.WideShapes Go.ChangeAt Go.RowKit

set_option maxHeartbeats 1000000 in
theorem lawFnExactInverseOrder (v0 : Value) (x0 : List Int) (w : World) (h0 : InI w v0 x0) :
    Calls Try.prog 4 #[v0] w fun e w' => e = .returned (.bool true) ∧ Below w.heap.size w w' := by
  have H0 := Lib.hid h0
  obtain ⟨A0, c0, rfl, hc0, hm0, -⟩ := h0
  have h0 := H0.out; clear H0; unfold maxLen at hm0
  by_cases n0 : x0.length ≤ 1048576
  case neg =>
    go_enter Try.func4, Try.ntmps4
    go_wp2
    go_ret
    exact ⟨rfl, Below.refl _ _⟩
  have m0 : (inverseF x0).length ≤ 1048576 := inverseF_len n0
  have B := Below.refl w.heap.size w
  go_enter Try.func4, Try.ntmps4
  go_wp2_with fail
  refine (toIntS_std _ x0 _ (h0.below B) n0).mono ?_
  rintro e w1 ⟨u16, rfl, f16, b⟩
  have z := b.size
  replace B := B.trans (b.mono B.size)
  clear b
  go_wp2_with fail
  refine (specInverseOrder_std _ x0 _ f16.in_ n0).mono ?_
  rintro e w2 ⟨r22, rfl, g22, b⟩
  replace f16 := f16.grow b
  have z := b.size
  replace B := B.trans (b.mono B.size)
  clear b
  clear f16
  go_wp2_with fail
  refine (toIntS_std _ x0 _ (h0.below B) n0).mono ?_
  rintro e w3 ⟨u30, rfl, f30, b⟩
  replace g22 := g22.grow b
  have z := b.size
  replace B := B.trans (b.mono B.size)
  clear b
  go_wp2_with fail
  refine (implInverseOrder_std _ x0 _ f30.in_ n0).mono ?_
  rintro e w4 ⟨r37, rfl, g37, b⟩
  replace g22 := g22.grow b
  replace f30 := f30.grow b
  have z := b.size
  replace B := B.trans (b.mono B.size)
  clear b
  go_wp2_with fail
  refine (eqIntS_std _ _ _ _ g37.in_ g22.in_ m0).mono ?_
  rintro e w5 ⟨rfl, b⟩
  replace g22 := g22.grow b
  replace f30 := f30.grow b
  replace g37 := g37.grow b
  have z := b.size
  replace B := B.trans (b.mono B.size)
  clear b
  go_wp2_with fail
  refine (toIntS_std _ x0 _ (h0.below B) n0).mono ?_
  rintro e w6 ⟨u54, rfl, f54, b⟩
  replace g22 := g22.grow b
  replace f30 := f30.grow b
  replace g37 := g37.grow b
  have z := b.size
  replace B := B.trans (b.mono B.size)
  clear b
  go_wp2_with fail
  refine (eqIntS_std _ _ _ _ f30.in_ f54.in_ n0).mono ?_
  rintro e w7 ⟨rfl, b⟩
  replace g22 := g22.grow b
  replace f30 := f30.grow b
  replace g37 := g37.grow b
  replace f54 := f54.grow b
  have z := b.size
  replace B := B.trans (b.mono B.size)
  clear b
  clear f54
  go_wp2_with fail
  refine (markIntS_std _ _ _ _ _ _ f30 n0 (by omega) (by omega)).mono ?_
  rintro e w8 ⟨rfl, f30', kp⟩
  replace g22 := g22.keep kp (by omega)
  replace g37 := g37.keep kp (by omega)
  have z := kp.size
  replace B := B.trans (kp.below (by omega) B.size)
  clear kp f30
  have f30 := f30'; clear f30'
  clear f30
  go_wp2_with fail
  refine (eqIntS_std _ _ _ _ g37.in_ g22.in_ m0).mono ?_
  rintro e w9 ⟨rfl, b⟩
  replace g22 := g22.grow b
  replace g37 := g37.grow b
  have z := b.size
  replace B := B.trans (b.mono B.size)
  clear b
  go_wp2_with fail
  refine (markIntS_std _ _ _ _ _ _ g37 m0 (by omega) (by omega)).mono ?_
  rintro e w10 ⟨rfl, g37', kp⟩
  replace g22 := g22.keep kp (by omega)
  have z := kp.size
  replace B := B.trans (kp.below (by omega) B.size)
  clear kp g37
  have g37 := g37'; clear g37'
  go_wp2_with fail
  refine (heldIntS_std _ ((inverseF x0).length) _ _ g37.in_ m0 (by omega) (by omega)).mono ?_
  rintro e w11 ⟨rfl, b⟩
  replace g22 := g22.grow b
  replace g37 := g37.grow b
  have z := b.size
  replace B := B.trans (b.mono B.size)
  clear b
  go_wp2_with fail
  refine (toIntS_std _ x0 _ (h0.below B) n0).mono ?_
  rintro e w12 ⟨u108, rfl, f108, b⟩
  replace g22 := g22.grow b
  replace g37 := g37.grow b
  have z := b.size
  replace B := B.trans (b.mono B.size)
  clear b
  go_wp2_with fail
  refine (implInverseOrder_std _ x0 _ f108.in_ n0).mono ?_
  rintro e w13 ⟨r116, rfl, g116, b⟩
  replace g22 := g22.grow b
  replace g37 := g37.grow b
  replace f108 := f108.grow b
  have z := b.size
  replace B := B.trans (b.mono B.size)
  clear b
  clear f108
  go_wp2_with fail
  refine (eqIntS_std _ _ _ _ g116.in_ g22.in_ m0).mono ?_
  rintro e w14 ⟨rfl, b⟩
  replace g22 := g22.grow b
  replace g37 := g37.grow b
  replace g116 := g116.grow b
  have z := b.size
  replace B := B.trans (b.mono B.size)
  clear b
  go_wp2_with fail
  refine (heldIntS_std _ ((inverseF x0).length) _ _ g37.in_ m0 (by omega) (by omega)).mono ?_
  rintro e w15 ⟨rfl, b⟩
  replace g22 := g22.grow b
  replace g37 := g37.grow b
  replace g116 := g116.grow b
  have z := b.size
  replace B := B.trans (b.mono B.size)
  clear b
  go_wp2
  go_ret
  exact ⟨rfl, B⟩

set_option maxHeartbeats 1000000 in
theorem lawFnExactComposeOrders (v0 : Value) (x0 : List Int) (v1 : Value) (x1 : List Int) (w : World) (h0 : InI w v0 x0) (h1 : InI w v1 x1) :
    Calls Try.prog 5 #[v0, v1] w fun e w' => e = .returned (.bool true) ∧ Below w.heap.size w w' := by
  have H0 := Lib.hid h0
  obtain ⟨A0, c0, rfl, hc0, hm0, -⟩ := h0
  have h0 := H0.out; clear H0; unfold maxLen at hm0
  have H1 := Lib.hid h1
  obtain ⟨A1, c1, rfl, hc1, hm1, -⟩ := h1
  have h1 := H1.out; clear H1; unfold maxLen at hm1
  by_cases n0 : x0.length ≤ 1048576
  case neg =>
    go_enter Try.func5, Try.ntmps5
    go_wp2
    go_ret
    exact ⟨rfl, Below.refl _ _⟩
  by_cases n1 : x1.length ≤ 1048576
  case neg =>
    go_enter Try.func5, Try.ntmps5
    go_wp2
    go_ret
    exact ⟨rfl, Below.refl _ _⟩
  have m0 : (composeF x0 x1).length ≤ 1048576 := composeF_len n1
  have B := Below.refl w.heap.size w
  go_enter Try.func5, Try.ntmps5
  go_wp2_with fail
  refine (toIntS_std _ x0 _ (h0.below B) n0).mono ?_
  rintro e w1 ⟨u25, rfl, f25, b⟩
  have z := b.size
  replace B := B.trans (b.mono B.size)
  clear b
  go_wp2_with fail
  refine (toIntS_std _ x1 _ (h1.below B) n1).mono ?_
  rintro e w2 ⟨u31, rfl, f31, b⟩
  replace f25 := f25.grow b
  have z := b.size
  replace B := B.trans (b.mono B.size)
  clear b
  go_wp2_with fail
  refine (specComposeOrders_std _ x0 _ x1 _ f25.in_ n0 f31.in_ n1).mono ?_
  rintro e w3 ⟨r38, rfl, g38, b⟩
  replace f25 := f25.grow b
  replace f31 := f31.grow b
  have z := b.size
  replace B := B.trans (b.mono B.size)
  clear b
  clear f25
  clear f31
  go_wp2_with fail
  refine (toIntS_std _ x0 _ (h0.below B) n0).mono ?_
  rintro e w4 ⟨u48, rfl, f48, b⟩
  replace g38 := g38.grow b
  have z := b.size
  replace B := B.trans (b.mono B.size)
  clear b
  go_wp2_with fail
  refine (toIntS_std _ x1 _ (h1.below B) n1).mono ?_
  rintro e w5 ⟨u55, rfl, f55, b⟩
  replace g38 := g38.grow b
  replace f48 := f48.grow b
  have z := b.size
  replace B := B.trans (b.mono B.size)
  clear b
  go_wp2_with fail
  refine (implComposeOrders_std _ x0 _ x1 _ f48.in_ n0 f55.in_ n1).mono ?_
  rintro e w6 ⟨r63, rfl, g63, b⟩
  replace g38 := g38.grow b
  replace f48 := f48.grow b
  replace f55 := f55.grow b
  have z := b.size
  replace B := B.trans (b.mono B.size)
  clear b
  go_wp2_with fail
  refine (eqIntS_std _ _ _ _ g63.in_ g38.in_ m0).mono ?_
  rintro e w7 ⟨rfl, b⟩
  replace g38 := g38.grow b
  replace f48 := f48.grow b
  replace f55 := f55.grow b
  replace g63 := g63.grow b
  have z := b.size
  replace B := B.trans (b.mono B.size)
  clear b
  go_wp2_with fail
  refine (toIntS_std _ x0 _ (h0.below B) n0).mono ?_
  rintro e w8 ⟨u82, rfl, f82, b⟩
  replace g38 := g38.grow b
  replace f48 := f48.grow b
  replace f55 := f55.grow b
  replace g63 := g63.grow b
  have z := b.size
  replace B := B.trans (b.mono B.size)
  clear b
  go_wp2_with fail
  refine (eqIntS_std _ _ _ _ f48.in_ f82.in_ n0).mono ?_
  rintro e w9 ⟨rfl, b⟩
  replace g38 := g38.grow b
  replace f48 := f48.grow b
  replace f55 := f55.grow b
  replace g63 := g63.grow b
  replace f82 := f82.grow b
  have z := b.size
  replace B := B.trans (b.mono B.size)
  clear b
  clear f82
  go_wp2_with fail
  refine (toIntS_std _ x1 _ (h1.below B) n1).mono ?_
  rintro e w10 ⟨u104, rfl, f104, b⟩
  replace g38 := g38.grow b
  replace f48 := f48.grow b
  replace f55 := f55.grow b
  replace g63 := g63.grow b
  have z := b.size
  replace B := B.trans (b.mono B.size)
  clear b
  go_wp2_with fail
  refine (eqIntS_std _ _ _ _ f55.in_ f104.in_ n1).mono ?_
  rintro e w11 ⟨rfl, b⟩
  replace g38 := g38.grow b
  replace f48 := f48.grow b
  replace f55 := f55.grow b
  replace g63 := g63.grow b
  replace f104 := f104.grow b
  have z := b.size
  replace B := B.trans (b.mono B.size)
  clear b
  clear f104
  go_wp2_with fail
  refine (markIntS_std _ _ _ _ _ _ f48 n0 (by omega) (by omega)).mono ?_
  rintro e w12 ⟨rfl, f48', kp⟩
  replace g38 := g38.keep kp (by omega)
  replace f55 := f55.keep kp (by omega)
  replace g63 := g63.keep kp (by omega)
  have z := kp.size
  replace B := B.trans (kp.below (by omega) B.size)
  clear kp f48
  have f48 := f48'; clear f48'
  go_wp2_with fail
  refine (markIntS_std _ _ _ _ _ _ f55 n1 (by omega) (by omega)).mono ?_
  rintro e w13 ⟨rfl, f55', kp⟩
  replace g38 := g38.keep kp (by omega)
  replace f48 := f48.keep kp (by omega)
  replace g63 := g63.keep kp (by omega)
  have z := kp.size
  replace B := B.trans (kp.below (by omega) B.size)
  clear kp f55
  have f55 := f55'; clear f55'
  clear f48
  clear f55
  go_wp2_with fail
  refine (eqIntS_std _ _ _ _ g63.in_ g38.in_ m0).mono ?_
  rintro e w14 ⟨rfl, b⟩
  replace g38 := g38.grow b
  replace g63 := g63.grow b
  have z := b.size
  replace B := B.trans (b.mono B.size)
  clear b
  go_wp2_with fail
  refine (markIntS_std _ _ _ _ _ _ g63 m0 (by omega) (by omega)).mono ?_
  rintro e w15 ⟨rfl, g63', kp⟩
  replace g38 := g38.keep kp (by omega)
  have z := kp.size
  replace B := B.trans (kp.below (by omega) B.size)
  clear kp g63
  have g63 := g63'; clear g63'
  go_wp2_with fail
  refine (heldIntS_std _ ((composeF x0 x1).length) _ _ g63.in_ m0 (by omega) (by omega)).mono ?_
  rintro e w16 ⟨rfl, b⟩
  replace g38 := g38.grow b
  replace g63 := g63.grow b
  have z := b.size
  replace B := B.trans (b.mono B.size)
  clear b
  go_wp2_with fail
  refine (toIntS_std _ x0 _ (h0.below B) n0).mono ?_
  rintro e w17 ⟨u172, rfl, f172, b⟩
  replace g38 := g38.grow b
  replace g63 := g63.grow b
  have z := b.size
  replace B := B.trans (b.mono B.size)
  clear b
  go_wp2_with fail
  refine (toIntS_std _ x1 _ (h1.below B) n1).mono ?_
  rintro e w18 ⟨u180, rfl, f180, b⟩
  replace g38 := g38.grow b
  replace g63 := g63.grow b
  replace f172 := f172.grow b
  have z := b.size
  replace B := B.trans (b.mono B.size)
  clear b
  go_wp2_with fail
  refine (implComposeOrders_std _ x0 _ x1 _ f172.in_ n0 f180.in_ n1).mono ?_
  rintro e w19 ⟨r189, rfl, g189, b⟩
  replace g38 := g38.grow b
  replace g63 := g63.grow b
  replace f172 := f172.grow b
  replace f180 := f180.grow b
  have z := b.size
  replace B := B.trans (b.mono B.size)
  clear b
  clear f172
  clear f180
  go_wp2_with fail
  refine (eqIntS_std _ _ _ _ g189.in_ g38.in_ m0).mono ?_
  rintro e w20 ⟨rfl, b⟩
  replace g38 := g38.grow b
  replace g63 := g63.grow b
  replace g189 := g189.grow b
  have z := b.size
  replace B := B.trans (b.mono B.size)
  clear b
  go_wp2_with fail
  refine (heldIntS_std _ ((composeF x0 x1).length) _ _ g63.in_ m0 (by omega) (by omega)).mono ?_
  rintro e w21 ⟨rfl, b⟩
  replace g38 := g38.grow b
  replace g63 := g63.grow b
  replace g189 := g189.grow b
  have z := b.size
  replace B := B.trans (b.mono B.size)
  clear b
  go_wp2
  go_ret
  exact ⟨rfl, B⟩
end Go.Proofs.Ytlonfaclncnhdaa
