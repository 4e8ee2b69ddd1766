/- The walks of the exact laws over slices (ladders). -/
import Derived.Test.YtiidfplehkcopaaClimb
namespace Go.Proofs.Ytiidfplehkcopaa
open Go.ChangeShapes Go.WideShapes Go.ChangeAt Go.RowKit

set_option maxHeartbeats 1000000 in
theorem lawFnExactClimbLadder (v0 : Value) (x0 : List Int) (x1 : Int) (v2 : Value) (x2 : List (List Int)) (w : World) (h0 : InI w v0 x0) (_n1 : (Lit.int .i64 x1).wf = true) (h2 : InS w v2 x2) :
    Calls Try.prog 4 #[v0, .int .i64 x1, v2] w fun e w' => e = .returned (.bool true) ∧ Below w.heap.size w w' := by
  have n1 := _n1
  have H0 := Lib.hid h0
  obtain ⟨A0, c0, rfl, hc0, hm0, -⟩ := h0
  have h0 := H0.out; clear H0; unfold maxLen at hm0
  by_cases n0 : x0.length ≤ 1048576
  case neg =>
    go_enter Try.func4, Try.ntmps4
    go_wp2
    go_ret
    exact ⟨rfl, Below.refl _ _⟩
  by_cases l2 : ((bulk x2 : Nat) : Int) ≤ (1048576 : Int)
  case neg =>
    go_enter Try.func4, Try.ntmps4
    (go_wp2_with fail; refine (szIntSS_any _ x2 _ _ h2 (by omega) (by omega)).mono ?_; rintro e w' ⟨rfl, rfl⟩)
    rw [szR_neg (by omega)]
    go_wp2
    go_ret
    exact ⟨rfl, Below.refl _ _⟩
  have n2 : bulk x2 ≤ 1048576 := by omega
  have m0 : (climbF x0 x1 x2).length ≤ 1048576 := climbF_len n0
  have n2' : rowsLen x2 ≤ 1048576 := by rw [bulk_eq] at n2; omega
  have B := Below.refl w.heap.size w
  go_enter Try.func4, Try.ntmps4
  (go_wp2_with fail; refine (szIntSS_any _ x2 _ _ h2 (by omega) (by omega)).mono ?_; rintro e w' ⟨rfl, rfl⟩)
  rw [szR_pos (by omega)]
  go_wp2_with fail
  refine (toIntS_std _ x0 _ (h0.below B) n0).mono ?_
  rintro e w1 ⟨u29, rfl, f29, b⟩
  have z := b.size
  replace B := B.trans (b.mono B.size)
  clear b
  go_wp2_with fail
  refine (toIntSS_std _ x2 _ (h2.below B) n2).mono ?_
  rintro e w2 ⟨u35, rfl, f35, b⟩
  replace f29 := f29.grow b
  have z := b.size
  replace B := B.trans (b.mono B.size)
  clear b
  go_wp2_with fail
  refine (specClimbLadder_std _ x0 x1 _ x2 _ f29.in_ n0 n1 f35.in_ n2).mono ?_
  rintro e w3 ⟨r42, rfl, g42, b⟩
  replace f29 := f29.grow b
  replace f35 := f35.grow b
  have z := b.size
  replace B := B.trans (b.mono B.size)
  clear b
  clear f29
  clear f35
  go_wp2_with fail
  refine (toIntS_std _ x0 _ (h0.below B) n0).mono ?_
  rintro e w4 ⟨u52, rfl, f52, b⟩
  replace g42 := g42.grow b
  have z := b.size
  replace B := B.trans (b.mono B.size)
  clear b
  go_wp2_with fail
  refine (toIntSS_std _ x2 _ (h2.below B) n2).mono ?_
  rintro e w5 ⟨u59, rfl, f59, b⟩
  replace g42 := g42.grow b
  replace f52 := f52.grow b
  have z := b.size
  replace B := B.trans (b.mono B.size)
  clear b
  go_wp2_with fail
  refine (implClimbLadder_std _ x0 x1 _ x2 _ f52.in_ n0 n1 f59.in_ n2).mono ?_
  rintro e w6 ⟨r67, rfl, g67, b⟩
  replace g42 := g42.grow b
  replace f52 := f52.grow b
  replace f59 := f59.grow b
  have z := b.size
  replace B := B.trans (b.mono B.size)
  clear b
  go_wp2_with fail
  refine (eqIntS_std _ _ _ _ g67.in_ g42.in_ m0).mono ?_
  rintro e w7 ⟨rfl, b⟩
  replace g42 := g42.grow b
  replace f52 := f52.grow b
  replace f59 := f59.grow b
  replace g67 := g67.grow b
  have z := b.size
  replace B := B.trans (b.mono B.size)
  clear b
  go_wp2_with fail
  refine (toIntS_std _ x0 _ (h0.below B) n0).mono ?_
  rintro e w8 ⟨u86, rfl, f86, b⟩
  replace g42 := g42.grow b
  replace f52 := f52.grow b
  replace f59 := f59.grow b
  replace g67 := g67.grow b
  have z := b.size
  replace B := B.trans (b.mono B.size)
  clear b
  go_wp2_with fail
  refine (eqIntS_std _ _ _ _ f52.in_ f86.in_ n0).mono ?_
  rintro e w9 ⟨rfl, b⟩
  replace g42 := g42.grow b
  replace f52 := f52.grow b
  replace f59 := f59.grow b
  replace g67 := g67.grow b
  replace f86 := f86.grow b
  have z := b.size
  replace B := B.trans (b.mono B.size)
  clear b
  clear f86
  go_wp2_with fail
  refine (toIntSS_std _ x2 _ (h2.below B) n2).mono ?_
  rintro e w10 ⟨u108, rfl, f108, b⟩
  replace g42 := g42.grow b
  replace f52 := f52.grow b
  replace f59 := f59.grow b
  replace g67 := g67.grow b
  have z := b.size
  replace B := B.trans (b.mono B.size)
  clear b
  go_wp2_with fail
  refine (eqIntSS_std _ _ _ _ f59.in_ f108.in_ n2).mono ?_
  rintro e w11 ⟨rfl, b⟩
  replace g42 := g42.grow b
  replace f52 := f52.grow b
  replace f59 := f59.grow b
  replace g67 := g67.grow b
  replace f108 := f108.grow b
  have z := b.size
  replace B := B.trans (b.mono B.size)
  clear b
  clear f108
  go_wp2_with fail
  refine (markIntS_std _ _ _ _ _ _ f52 n0 (by omega) (by omega)).mono ?_
  rintro e w12 ⟨rfl, f52', kp⟩
  replace g42 := g42.keep kp (by omega)
  replace f59 := f59.keep kp (by omega)
  replace g67 := g67.keep kp (by omega)
  have z := kp.size
  replace B := B.trans (kp.below (by omega) B.size)
  clear kp f52
  have f52 := f52'; clear f52'
  go_wp2_with fail
  refine (markIntSS_std _ _ _ _ _ _ f59 n2 (by omega) (by omega)).mono ?_
  rintro e w13 ⟨rfl, f59', kp⟩
  replace g42 := g42.keep kp (by omega)
  replace f52 := f52.keep kp (by omega)
  replace g67 := g67.keep kp (by omega)
  have z := kp.size
  replace B := B.trans (kp.below (by omega) B.size)
  clear kp f59
  have f59 := f59'; clear f59'
  clear f52
  clear f59
  go_wp2_with fail
  refine (eqIntS_std _ _ _ _ g67.in_ g42.in_ m0).mono ?_
  rintro e w14 ⟨rfl, b⟩
  replace g42 := g42.grow b
  replace g67 := g67.grow b
  have z := b.size
  replace B := B.trans (b.mono B.size)
  clear b
  go_wp2_with fail
  refine (markIntS_std _ _ _ _ _ _ g67 m0 (by omega) (by omega)).mono ?_
  rintro e w15 ⟨rfl, g67', kp⟩
  replace g42 := g42.keep kp (by omega)
  have z := kp.size
  replace B := B.trans (kp.below (by omega) B.size)
  clear kp g67
  have g67 := g67'; clear g67'
  go_wp2_with fail
  refine (heldIntS_std _ ((climbF x0 x1 x2).length) _ _ g67.in_ m0 (by omega) (by omega)).mono ?_
  rintro e w16 ⟨rfl, b⟩
  replace g42 := g42.grow b
  replace g67 := g67.grow b
  have z := b.size
  replace B := B.trans (b.mono B.size)
  clear b
  go_wp2_with fail
  refine (toIntS_std _ x0 _ (h0.below B) n0).mono ?_
  rintro e w17 ⟨u176, rfl, f176, b⟩
  replace g42 := g42.grow b
  replace g67 := g67.grow b
  have z := b.size
  replace B := B.trans (b.mono B.size)
  clear b
  go_wp2_with fail
  refine (toIntSS_std _ x2 _ (h2.below B) n2).mono ?_
  rintro e w18 ⟨u184, rfl, f184, b⟩
  replace g42 := g42.grow b
  replace g67 := g67.grow b
  replace f176 := f176.grow b
  have z := b.size
  replace B := B.trans (b.mono B.size)
  clear b
  go_wp2_with fail
  refine (implClimbLadder_std _ x0 x1 _ x2 _ f176.in_ n0 n1 f184.in_ n2).mono ?_
  rintro e w19 ⟨r193, rfl, g193, b⟩
  replace g42 := g42.grow b
  replace g67 := g67.grow b
  replace f176 := f176.grow b
  replace f184 := f184.grow b
  have z := b.size
  replace B := B.trans (b.mono B.size)
  clear b
  clear f176
  clear f184
  go_wp2_with fail
  refine (eqIntS_std _ _ _ _ g193.in_ g42.in_ m0).mono ?_
  rintro e w20 ⟨rfl, b⟩
  replace g42 := g42.grow b
  replace g67 := g67.grow b
  replace g193 := g193.grow b
  have z := b.size
  replace B := B.trans (b.mono B.size)
  clear b
  go_wp2_with fail
  refine (heldIntS_std _ ((climbF x0 x1 x2).length) _ _ g67.in_ m0 (by omega) (by omega)).mono ?_
  rintro e w21 ⟨rfl, b⟩
  replace g42 := g42.grow b
  replace g67 := g67.grow b
  replace g193 := g193.grow b
  have z := b.size
  replace B := B.trans (b.mono B.size)
  clear b
  go_wp2
  go_ret
  exact ⟨rfl, B⟩
end Go.Proofs.Ytiidfplehkcopaa
