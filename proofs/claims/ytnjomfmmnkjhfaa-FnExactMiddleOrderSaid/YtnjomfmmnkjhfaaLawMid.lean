/- The walks of the exact laws over slices (the middle order). -/
import Derived.Test.YtnjomfmmnkjhfaaMds
namespace Go.Proofs.Ytnjomfmmnkjhfaa
open Go.ChangeShapes Go.WideShapes Go.ChangeAt Go.RowKit

set_option maxHeartbeats 2000000 in
theorem lawFnExactMiddleOrder (v0 : Value) (x0 : List Int) (v1 : Value) (x1 : List Int) (v2 : Value) (x2 : List Int) (w : World) (h0 : InI w v0 x0) (h1 : InI w v1 x1) (h2 : InI w v2 x2) :
    Calls Try.prog 3 #[v0, v1, v2] w fun e w' => e = .returned (.bool true) ∧ Below w.heap.size w w' := by
  have H0 := Lib.hid h0
  obtain ⟨A0, c0, rfl, hc0, hm0, -⟩ := h0
  have h0 := H0.out; clear H0; unfold maxLen at hm0
  have H1 := Lib.hid h1
  obtain ⟨A1, c1, rfl, hc1, hm1, -⟩ := h1
  have h1 := H1.out; clear H1; unfold maxLen at hm1
  have H2 := Lib.hid h2
  obtain ⟨A2, c2, rfl, hc2, hm2, -⟩ := h2
  have h2 := H2.out; clear H2; unfold maxLen at hm2
  by_cases n0 : x0.length ≤ 1048576
  case neg =>
    go_enter Try.func3, Try.ntmps3
    go_wp2
    go_ret
    exact ⟨rfl, Below.refl _ _⟩
  by_cases n1 : x1.length ≤ 1048576
  case neg =>
    go_enter Try.func3, Try.ntmps3
    go_wp2
    go_ret
    exact ⟨rfl, Below.refl _ _⟩
  by_cases n2 : x2.length ≤ 1048576
  case neg =>
    go_enter Try.func3, Try.ntmps3
    go_wp2
    go_ret
    exact ⟨rfl, Below.refl _ _⟩
  have m0 : (midF x0 x1 x2).length ≤ 1048576 := midF_len x0 x1 x2
  have B := Below.refl w.heap.size w
  go_enter Try.func3, Try.ntmps3
  go_wp2_with fail
  refine (toIntS_std _ x0 _ (h0.below B) n0).mono ?_
  rintro e w1 ⟨u34, rfl, f34, b⟩
  have z := b.size
  replace B := B.trans (b.mono B.size)
  clear b
  go_wp2_with fail
  refine (toIntS_std _ x1 _ (h1.below B) n1).mono ?_
  rintro e w2 ⟨u40, rfl, f40, b⟩
  replace f34 := f34.grow b
  have z := b.size
  replace B := B.trans (b.mono B.size)
  clear b
  go_wp2_with fail
  refine (toIntS_std _ x2 _ (h2.below B) n2).mono ?_
  rintro e w3 ⟨u47, rfl, f47, b⟩
  replace f34 := f34.grow b
  replace f40 := f40.grow b
  have z := b.size
  replace B := B.trans (b.mono B.size)
  clear b
  go_wp2_with fail
  refine (specMiddle_std _ x0 _ x1 _ x2 _ f34.in_ n0 f40.in_ n1 f47.in_ n2).mono ?_
  rintro e w4 ⟨r55, rfl, g55, b⟩
  replace f34 := f34.grow b
  replace f40 := f40.grow b
  replace f47 := f47.grow b
  have z := b.size
  replace B := B.trans (b.mono B.size)
  clear b
  clear f34
  clear f40
  clear f47
  go_wp2_with fail
  refine (toIntS_std _ x0 _ (h0.below B) n0).mono ?_
  rintro e w5 ⟨u67, rfl, f67, b⟩
  replace g55 := g55.grow b
  have z := b.size
  replace B := B.trans (b.mono B.size)
  clear b
  go_wp2_with fail
  refine (toIntS_std _ x1 _ (h1.below B) n1).mono ?_
  rintro e w6 ⟨u74, rfl, f74, b⟩
  replace g55 := g55.grow b
  replace f67 := f67.grow b
  have z := b.size
  replace B := B.trans (b.mono B.size)
  clear b
  go_wp2_with fail
  refine (toIntS_std _ x2 _ (h2.below B) n2).mono ?_
  rintro e w7 ⟨u82, rfl, f82, b⟩
  replace g55 := g55.grow b
  replace f67 := f67.grow b
  replace f74 := f74.grow b
  have z := b.size
  replace B := B.trans (b.mono B.size)
  clear b
  go_wp2_with fail
  refine (implMiddle_std _ x0 _ x1 _ x2 _ f67.in_ n0 f74.in_ n1 f82.in_ n2).mono ?_
  rintro e w8 ⟨r91, rfl, g91, b⟩
  replace g55 := g55.grow b
  replace f67 := f67.grow b
  replace f74 := f74.grow b
  replace f82 := f82.grow b
  have z := b.size
  replace B := B.trans (b.mono B.size)
  clear b
  go_wp2_with fail
  refine (eqIntS_std _ _ _ _ g91.in_ g55.in_ m0).mono ?_
  rintro e w9 ⟨rfl, b⟩
  replace g55 := g55.grow b
  replace f67 := f67.grow b
  replace f74 := f74.grow b
  replace f82 := f82.grow b
  replace g91 := g91.grow b
  have z := b.size
  replace B := B.trans (b.mono B.size)
  clear b
  go_wp2_with fail
  refine (toIntS_std _ x0 _ (h0.below B) n0).mono ?_
  rintro e w10 ⟨u112, rfl, f112, b⟩
  replace g55 := g55.grow b
  replace f67 := f67.grow b
  replace f74 := f74.grow b
  replace f82 := f82.grow b
  replace g91 := g91.grow b
  have z := b.size
  replace B := B.trans (b.mono B.size)
  clear b
  go_wp2_with fail
  refine (eqIntS_std _ _ _ _ f67.in_ f112.in_ n0).mono ?_
  rintro e w11 ⟨rfl, b⟩
  replace g55 := g55.grow b
  replace f67 := f67.grow b
  replace f74 := f74.grow b
  replace f82 := f82.grow b
  replace g91 := g91.grow b
  replace f112 := f112.grow b
  have z := b.size
  replace B := B.trans (b.mono B.size)
  clear b
  clear f112
  go_wp2_with fail
  refine (toIntS_std _ x1 _ (h1.below B) n1).mono ?_
  rintro e w12 ⟨u136, rfl, f136, b⟩
  replace g55 := g55.grow b
  replace f67 := f67.grow b
  replace f74 := f74.grow b
  replace f82 := f82.grow b
  replace g91 := g91.grow b
  have z := b.size
  replace B := B.trans (b.mono B.size)
  clear b
  go_wp2_with fail
  refine (eqIntS_std _ _ _ _ f74.in_ f136.in_ n1).mono ?_
  rintro e w13 ⟨rfl, b⟩
  replace g55 := g55.grow b
  replace f67 := f67.grow b
  replace f74 := f74.grow b
  replace f82 := f82.grow b
  replace g91 := g91.grow b
  replace f136 := f136.grow b
  have z := b.size
  replace B := B.trans (b.mono B.size)
  clear b
  clear f136
  go_wp2_with fail
  refine (toIntS_std _ x2 _ (h2.below B) n2).mono ?_
  rintro e w14 ⟨u160, rfl, f160, b⟩
  replace g55 := g55.grow b
  replace f67 := f67.grow b
  replace f74 := f74.grow b
  replace f82 := f82.grow b
  replace g91 := g91.grow b
  have z := b.size
  replace B := B.trans (b.mono B.size)
  clear b
  go_wp2_with fail
  refine (eqIntS_std _ _ _ _ f82.in_ f160.in_ n2).mono ?_
  rintro e w15 ⟨rfl, b⟩
  replace g55 := g55.grow b
  replace f67 := f67.grow b
  replace f74 := f74.grow b
  replace f82 := f82.grow b
  replace g91 := g91.grow b
  replace f160 := f160.grow b
  have z := b.size
  replace B := B.trans (b.mono B.size)
  clear b
  clear f160
  go_wp2_with fail
  refine (markIntS_std _ _ _ _ _ _ f67 n0 (by omega) (by omega)).mono ?_
  rintro e w16 ⟨rfl, f67', kp⟩
  replace g55 := g55.keep kp (by omega)
  replace f74 := f74.keep kp (by omega)
  replace f82 := f82.keep kp (by omega)
  replace g91 := g91.keep kp (by omega)
  have z := kp.size
  replace B := B.trans (kp.below (by omega) B.size)
  clear kp f67
  have f67 := f67'; clear f67'
  go_wp2_with fail
  refine (markIntS_std _ _ _ _ _ _ f74 n1 (by omega) (by omega)).mono ?_
  rintro e w17 ⟨rfl, f74', kp⟩
  replace g55 := g55.keep kp (by omega)
  replace f67 := f67.keep kp (by omega)
  replace f82 := f82.keep kp (by omega)
  replace g91 := g91.keep kp (by omega)
  have z := kp.size
  replace B := B.trans (kp.below (by omega) B.size)
  clear kp f74
  have f74 := f74'; clear f74'
  go_wp2_with fail
  refine (markIntS_std _ _ _ _ _ _ f82 n2 (by omega) (by omega)).mono ?_
  rintro e w18 ⟨rfl, f82', kp⟩
  replace g55 := g55.keep kp (by omega)
  replace f67 := f67.keep kp (by omega)
  replace f74 := f74.keep kp (by omega)
  replace g91 := g91.keep kp (by omega)
  have z := kp.size
  replace B := B.trans (kp.below (by omega) B.size)
  clear kp f82
  have f82 := f82'; clear f82'
  clear f67
  clear f74
  clear f82
  go_wp2_with fail
  refine (eqIntS_std _ _ _ _ g91.in_ g55.in_ m0).mono ?_
  rintro e w19 ⟨rfl, b⟩
  replace g55 := g55.grow b
  replace g91 := g91.grow b
  have z := b.size
  replace B := B.trans (b.mono B.size)
  clear b
  go_wp2_with fail
  refine (markIntS_std _ _ _ _ _ _ g91 m0 (by omega) (by omega)).mono ?_
  rintro e w20 ⟨rfl, g91', kp⟩
  replace g55 := g55.keep kp (by omega)
  have z := kp.size
  replace B := B.trans (kp.below (by omega) B.size)
  clear kp g91
  have g91 := g91'; clear g91'
  go_wp2_with fail
  refine (heldIntS_std _ ((midF x0 x1 x2).length) _ _ g91.in_ m0 (by omega) (by omega)).mono ?_
  rintro e w21 ⟨rfl, b⟩
  replace g55 := g55.grow b
  replace g91 := g91.grow b
  have z := b.size
  replace B := B.trans (b.mono B.size)
  clear b
  go_wp2_with fail
  refine (toIntS_std _ x0 _ (h0.below B) n0).mono ?_
  rintro e w22 ⟨u244, rfl, f244, b⟩
  replace g55 := g55.grow b
  replace g91 := g91.grow b
  have z := b.size
  replace B := B.trans (b.mono B.size)
  clear b
  go_wp2_with fail
  refine (toIntS_std _ x1 _ (h1.below B) n1).mono ?_
  rintro e w23 ⟨u252, rfl, f252, b⟩
  replace g55 := g55.grow b
  replace g91 := g91.grow b
  replace f244 := f244.grow b
  have z := b.size
  replace B := B.trans (b.mono B.size)
  clear b
  go_wp2_with fail
  refine (toIntS_std _ x2 _ (h2.below B) n2).mono ?_
  rintro e w24 ⟨u261, rfl, f261, b⟩
  replace g55 := g55.grow b
  replace g91 := g91.grow b
  replace f244 := f244.grow b
  replace f252 := f252.grow b
  have z := b.size
  replace B := B.trans (b.mono B.size)
  clear b
  go_wp2_with fail
  refine (implMiddle_std _ x0 _ x1 _ x2 _ f244.in_ n0 f252.in_ n1 f261.in_ n2).mono ?_
  rintro e w25 ⟨r271, rfl, g271, b⟩
  replace g55 := g55.grow b
  replace g91 := g91.grow b
  replace f244 := f244.grow b
  replace f252 := f252.grow b
  replace f261 := f261.grow b
  have z := b.size
  replace B := B.trans (b.mono B.size)
  clear b
  clear f244
  clear f252
  clear f261
  go_wp2_with fail
  refine (eqIntS_std _ _ _ _ g271.in_ g55.in_ m0).mono ?_
  rintro e w26 ⟨rfl, b⟩
  replace g55 := g55.grow b
  replace g91 := g91.grow b
  replace g271 := g271.grow b
  have z := b.size
  replace B := B.trans (b.mono B.size)
  clear b
  go_wp2_with fail
  refine (heldIntS_std _ ((midF x0 x1 x2).length) _ _ g91.in_ m0 (by omega) (by omega)).mono ?_
  rintro e w27 ⟨rfl, b⟩
  replace g55 := g55.grow b
  replace g91 := g91.grow b
  replace g271 := g271.grow b
  have z := b.size
  replace B := B.trans (b.mono B.size)
  clear b
  go_wp2
  go_ret
  exact ⟨rfl, B⟩
end Go.Proofs.Ytnjomfmmnkjhfaa
