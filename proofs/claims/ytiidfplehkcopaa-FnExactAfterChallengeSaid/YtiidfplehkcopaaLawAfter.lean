/- The walks of the exact laws over slices (ladders). -/
import Derived.Test.YtiidfplehkcopaaAfter
namespace Go.Proofs.Ytiidfplehkcopaa
open Go.ChangeShapes Go.WideShapes Go.ChangeAt Go.RowKit

set_option maxHeartbeats 1000000 in
theorem lawFnExactAfterChallenge (v0 : Value) (x0 : List Int) (x1 : Int) (v2 : Value) (x2 : List Int) (w : World) (h0 : InI w v0 x0) (_n1 : (Lit.int .i64 x1).wf = true) (h2 : InI w v2 x2) :
    Calls Try.prog 3 #[v0, .int .i64 x1, v2] w fun e w' => e = .returned (.bool true) ∧ Below w.heap.size w w' := by
  have n1 := _n1
  have H0 := Lib.hid h0
  obtain ⟨A0, c0, rfl, hc0, hm0, -⟩ := h0
  have h0 := H0.out; clear H0; unfold maxLen at hm0
  have H2 := Lib.hid h2
  obtain ⟨A2, c2, rfl, hc2, hm2, -⟩ := h2
  have h2 := H2.out; clear H2; unfold maxLen at hm2
  by_cases n0 : x0.length ≤ 1048576
  case neg =>
    go_enter Try.func3, Try.ntmps3
    go_wp2
    go_ret
    exact ⟨rfl, Below.refl _ _⟩
  by_cases n2 : x2.length ≤ 1048576
  case neg =>
    go_enter Try.func3, Try.ntmps3
    go_wp2
    go_ret
    exact ⟨rfl, Below.refl _ _⟩
  have m0 : (chalF x0 x1 x2).length ≤ 1048576 := chalF_len n0
  have B := Below.refl w.heap.size w
  go_enter Try.func3, Try.ntmps3
  go_wp2_with fail
  refine (toIntS_std _ x0 _ (h0.below B) n0).mono ?_
  rintro e w1 ⟨u26, rfl, f26, b⟩
  have z := b.size
  replace B := B.trans (b.mono B.size)
  clear b
  go_wp2_with fail
  refine (toIntS_std _ x2 _ (h2.below B) n2).mono ?_
  rintro e w2 ⟨u32, rfl, f32, b⟩
  replace f26 := f26.grow b
  have z := b.size
  replace B := B.trans (b.mono B.size)
  clear b
  go_wp2_with fail
  refine (specAfterChallenge_std _ x0 x1 _ x2 _ f26.in_ n0 n1 f32.in_ n2).mono ?_
  rintro e w3 ⟨r39, rfl, g39, b⟩
  replace f26 := f26.grow b
  replace f32 := f32.grow b
  have z := b.size
  replace B := B.trans (b.mono B.size)
  clear b
  clear f26
  clear f32
  go_wp2_with fail
  refine (toIntS_std _ x0 _ (h0.below B) n0).mono ?_
  rintro e w4 ⟨u49, rfl, f49, b⟩
  replace g39 := g39.grow b
  have z := b.size
  replace B := B.trans (b.mono B.size)
  clear b
  go_wp2_with fail
  refine (toIntS_std _ x2 _ (h2.below B) n2).mono ?_
  rintro e w5 ⟨u56, rfl, f56, b⟩
  replace g39 := g39.grow b
  replace f49 := f49.grow b
  have z := b.size
  replace B := B.trans (b.mono B.size)
  clear b
  go_wp2_with fail
  refine (implAfterChallenge_std _ x0 x1 _ x2 _ f49.in_ n0 n1 f56.in_ n2).mono ?_
  rintro e w6 ⟨r64, rfl, g64, b⟩
  replace g39 := g39.grow b
  replace f49 := f49.grow b
  replace f56 := f56.grow b
  have z := b.size
  replace B := B.trans (b.mono B.size)
  clear b
  go_wp2_with fail
  refine (eqIntS_std _ _ _ _ g64.in_ g39.in_ m0).mono ?_
  rintro e w7 ⟨rfl, b⟩
  replace g39 := g39.grow b
  replace f49 := f49.grow b
  replace f56 := f56.grow b
  replace g64 := g64.grow b
  have z := b.size
  replace B := B.trans (b.mono B.size)
  clear b
  go_wp2_with fail
  refine (toIntS_std _ x0 _ (h0.below B) n0).mono ?_
  rintro e w8 ⟨u83, rfl, f83, b⟩
  replace g39 := g39.grow b
  replace f49 := f49.grow b
  replace f56 := f56.grow b
  replace g64 := g64.grow b
  have z := b.size
  replace B := B.trans (b.mono B.size)
  clear b
  go_wp2_with fail
  refine (eqIntS_std _ _ _ _ f49.in_ f83.in_ n0).mono ?_
  rintro e w9 ⟨rfl, b⟩
  replace g39 := g39.grow b
  replace f49 := f49.grow b
  replace f56 := f56.grow b
  replace g64 := g64.grow b
  replace f83 := f83.grow b
  have z := b.size
  replace B := B.trans (b.mono B.size)
  clear b
  clear f83
  go_wp2_with fail
  refine (toIntS_std _ x2 _ (h2.below B) n2).mono ?_
  rintro e w10 ⟨u105, rfl, f105, b⟩
  replace g39 := g39.grow b
  replace f49 := f49.grow b
  replace f56 := f56.grow b
  replace g64 := g64.grow b
  have z := b.size
  replace B := B.trans (b.mono B.size)
  clear b
  go_wp2_with fail
  refine (eqIntS_std _ _ _ _ f56.in_ f105.in_ n2).mono ?_
  rintro e w11 ⟨rfl, b⟩
  replace g39 := g39.grow b
  replace f49 := f49.grow b
  replace f56 := f56.grow b
  replace g64 := g64.grow b
  replace f105 := f105.grow b
  have z := b.size
  replace B := B.trans (b.mono B.size)
  clear b
  clear f105
  go_wp2_with fail
  refine (markIntS_std _ _ _ _ _ _ f49 n0 (by omega) (by omega)).mono ?_
  rintro e w12 ⟨rfl, f49', kp⟩
  replace g39 := g39.keep kp (by omega)
  replace f56 := f56.keep kp (by omega)
  replace g64 := g64.keep kp (by omega)
  have z := kp.size
  replace B := B.trans (kp.below (by omega) B.size)
  clear kp f49
  have f49 := f49'; clear f49'
  go_wp2_with fail
  refine (markIntS_std _ _ _ _ _ _ f56 n2 (by omega) (by omega)).mono ?_
  rintro e w13 ⟨rfl, f56', kp⟩
  replace g39 := g39.keep kp (by omega)
  replace f49 := f49.keep kp (by omega)
  replace g64 := g64.keep kp (by omega)
  have z := kp.size
  replace B := B.trans (kp.below (by omega) B.size)
  clear kp f56
  have f56 := f56'; clear f56'
  clear f49
  clear f56
  go_wp2_with fail
  refine (eqIntS_std _ _ _ _ g64.in_ g39.in_ m0).mono ?_
  rintro e w14 ⟨rfl, b⟩
  replace g39 := g39.grow b
  replace g64 := g64.grow b
  have z := b.size
  replace B := B.trans (b.mono B.size)
  clear b
  go_wp2_with fail
  refine (markIntS_std _ _ _ _ _ _ g64 m0 (by omega) (by omega)).mono ?_
  rintro e w15 ⟨rfl, g64', kp⟩
  replace g39 := g39.keep kp (by omega)
  have z := kp.size
  replace B := B.trans (kp.below (by omega) B.size)
  clear kp g64
  have g64 := g64'; clear g64'
  go_wp2_with fail
  refine (heldIntS_std _ ((chalF x0 x1 x2).length) _ _ g64.in_ m0 (by omega) (by omega)).mono ?_
  rintro e w16 ⟨rfl, b⟩
  replace g39 := g39.grow b
  replace g64 := g64.grow b
  have z := b.size
  replace B := B.trans (b.mono B.size)
  clear b
  go_wp2_with fail
  refine (toIntS_std _ x0 _ (h0.below B) n0).mono ?_
  rintro e w17 ⟨u173, rfl, f173, b⟩
  replace g39 := g39.grow b
  replace g64 := g64.grow b
  have z := b.size
  replace B := B.trans (b.mono B.size)
  clear b
  go_wp2_with fail
  refine (toIntS_std _ x2 _ (h2.below B) n2).mono ?_
  rintro e w18 ⟨u181, rfl, f181, b⟩
  replace g39 := g39.grow b
  replace g64 := g64.grow b
  replace f173 := f173.grow b
  have z := b.size
  replace B := B.trans (b.mono B.size)
  clear b
  go_wp2_with fail
  refine (implAfterChallenge_std _ x0 x1 _ x2 _ f173.in_ n0 n1 f181.in_ n2).mono ?_
  rintro e w19 ⟨r190, rfl, g190, b⟩
  replace g39 := g39.grow b
  replace g64 := g64.grow b
  replace f173 := f173.grow b
  replace f181 := f181.grow b
  have z := b.size
  replace B := B.trans (b.mono B.size)
  clear b
  clear f173
  clear f181
  go_wp2_with fail
  refine (eqIntS_std _ _ _ _ g190.in_ g39.in_ m0).mono ?_
  rintro e w20 ⟨rfl, b⟩
  replace g39 := g39.grow b
  replace g64 := g64.grow b
  replace g190 := g190.grow b
  have z := b.size
  replace B := B.trans (b.mono B.size)
  clear b
  go_wp2_with fail
  refine (heldIntS_std _ ((chalF x0 x1 x2).length) _ _ g64.in_ m0 (by omega) (by omega)).mono ?_
  rintro e w21 ⟨rfl, b⟩
  replace g39 := g39.grow b
  replace g64 := g64.grow b
  replace g190 := g190.grow b
  have z := b.size
  replace B := B.trans (b.mono B.size)
  clear b
  go_wp2
  go_ret
  exact ⟨rfl, B⟩
end Go.Proofs.Ytiidfplehkcopaa
