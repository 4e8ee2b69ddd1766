/- The walks of the exact laws over slices (ratings). -/
import Derived.Test.YtkkhjjdgpngklaaStd
import Derived.Test.YtkkhjjdgpngklaaRateStd
import Derived.Test.YtkkhjjdgpngklaaRateS
import Derived.Test.YtkkhjjdgpngklaaRateT
namespace Go.Proofs.Ytkkhjjdgpngklaa
open Go.ChangeShapes Go.WideShapes Go.ChangeAt Go.RowKit

set_option maxHeartbeats 1000000 in
theorem lawFnExactRatingsOk (v0 : Value) (x0 : List Int) (w : World) (h0 : InI w v0 x0) :
    Calls Try.prog 5 #[v0] w fun e w' => e = .returned (.bool true) ∧ Below w.heap.size w w' := by
  have H0 := Lib.hid h0
  obtain ⟨A0, c0, rfl, hc0, hm0, -⟩ := h0
  have h0 := H0.out; clear H0; unfold maxLen at hm0
  by_cases n0 : x0.length ≤ 1048576
  case neg =>
    go_enter Try.func5, Try.ntmps5
    go_wp2
    go_ret
    exact ⟨rfl, Below.refl _ _⟩
  have B := Below.refl w.heap.size w
  go_enter Try.func5, Try.ntmps5
  go_wp2_with fail
  refine (toIntS_std _ x0 _ (h0.below B) n0).mono ?_
  rintro e w1 ⟨u15, rfl, f15, b⟩
  have z := b.size
  replace B := B.trans (b.mono B.size)
  clear b
  go_wp2_with fail
  refine (specRatingsOk_std _ x0 _ f15.in_ n0).mono ?_
  rintro e w2 ⟨rfl, b⟩
  replace f15 := f15.grow b
  have z := b.size
  replace B := B.trans (b.mono B.size)
  clear b
  clear f15
  go_wp2_with fail
  refine (toIntS_std _ x0 _ (h0.below B) n0).mono ?_
  rintro e w3 ⟨u29, rfl, f29, b⟩
  have z := b.size
  replace B := B.trans (b.mono B.size)
  clear b
  go_wp2_with fail
  refine (implRatingsOk_std _ x0 _ f29.in_ n0).mono ?_
  rintro e w4 ⟨rfl, b⟩
  replace f29 := f29.grow b
  have z := b.size
  replace B := B.trans (b.mono B.size)
  clear b
  go_wp2_with fail
  refine (toIntS_std _ x0 _ (h0.below B) n0).mono ?_
  rintro e w5 ⟨u42, rfl, f42, b⟩
  replace f29 := f29.grow b
  have z := b.size
  replace B := B.trans (b.mono B.size)
  clear b
  go_wp2_with fail
  refine (eqIntS_std _ _ _ _ f29.in_ f42.in_ n0).mono ?_
  rintro e w6 ⟨rfl, b⟩
  replace f29 := f29.grow b
  replace f42 := f42.grow b
  have z := b.size
  replace B := B.trans (b.mono B.size)
  clear b
  clear f42
  go_wp2
  go_ret
  exact ⟨rfl, B⟩

set_option maxHeartbeats 1000000 in
theorem lawFnExactGamesRated (x0 : Int) (v1 : Value) (x1 : List (List Int)) (w : World) (_n0 : (Lit.int .i64 x0).wf = true) (h1 : InS w v1 x1) :
    Calls Try.prog 7 #[.int .i64 x0, v1] w fun e w' => e = .returned (.bool true) ∧ Below w.heap.size w w' := by
  have n0 := _n0
  by_cases l1 : ((bulk x1 : Nat) : Int) ≤ (1048576 : Int)
  case neg =>
    go_enter Try.func7, Try.ntmps7
    (go_wp2_with fail; refine (szIntSS_any _ x1 _ _ h1 (by omega) (by omega)).mono ?_; rintro e w' ⟨rfl, rfl⟩)
    rw [szR_neg (by omega)]
    go_wp2
    go_ret
    exact ⟨rfl, Below.refl _ _⟩
  have n1 : bulk x1 ≤ 1048576 := by omega
  have n1' : rowsLen x1 ≤ 1048576 := by rw [bulk_eq] at n1; omega
  have B := Below.refl w.heap.size w
  go_enter Try.func7, Try.ntmps7
  (go_wp2_with fail; refine (szIntSS_any _ x1 _ _ h1 (by omega) (by omega)).mono ?_; rintro e w' ⟨rfl, rfl⟩)
  rw [szR_pos (by omega)]
  go_wp2_with fail
  refine (toIntSS_std _ x1 _ (h1.below B) n1).mono ?_
  rintro e w1 ⟨u19, rfl, f19, b⟩
  have z := b.size
  replace B := B.trans (b.mono B.size)
  clear b
  go_wp2_with fail
  refine (specGamesRated_std x0 _ x1 _ n0 f19.in_ n1).mono ?_
  rintro e w2 ⟨rfl, b⟩
  replace f19 := f19.grow b
  have z := b.size
  replace B := B.trans (b.mono B.size)
  clear b
  clear f19
  go_wp2_with fail
  refine (toIntSS_std _ x1 _ (h1.below B) n1).mono ?_
  rintro e w3 ⟨u33, rfl, f33, b⟩
  have z := b.size
  replace B := B.trans (b.mono B.size)
  clear b
  go_wp2_with fail
  refine (implGamesRated_std x0 _ x1 _ n0 f33.in_ n1).mono ?_
  rintro e w4 ⟨rfl, b⟩
  replace f33 := f33.grow b
  have z := b.size
  replace B := B.trans (b.mono B.size)
  clear b
  go_wp2_with fail
  refine (toIntSS_std _ x1 _ (h1.below B) n1).mono ?_
  rintro e w5 ⟨u46, rfl, f46, b⟩
  replace f33 := f33.grow b
  have z := b.size
  replace B := B.trans (b.mono B.size)
  clear b
  go_wp2_with fail
  refine (eqIntSS_std _ _ _ _ f33.in_ f46.in_ n1).mono ?_
  rintro e w6 ⟨rfl, b⟩
  replace f33 := f33.grow b
  replace f46 := f46.grow b
  have z := b.size
  replace B := B.trans (b.mono B.size)
  clear b
  clear f46
  go_wp2
  go_ret
  exact ⟨rfl, B⟩

set_option maxHeartbeats 1000000 in
theorem lawFnExactAfterGame (v0 : Value) (x0 : List Int) (v1 : Value) (x1 : List Int) (x2 : Int) (w : World) (h0 : InI w v0 x0) (h1 : InI w v1 x1) (_n2 : (Lit.int .i64 x2).wf = true) :
    Calls Try.prog 8 #[v0, v1, .int .i64 x2] w fun e w' => e = .returned (.bool true) ∧ Below w.heap.size w w' := by
  have n2 := _n2
  have H0 := Lib.hid h0
  obtain ⟨A0, c0, rfl, hc0, hm0, -⟩ := h0
  have h0 := H0.out; clear H0; unfold maxLen at hm0
  have H1 := Lib.hid h1
  obtain ⟨A1, c1, rfl, hc1, hm1, -⟩ := h1
  have h1 := H1.out; clear H1; unfold maxLen at hm1
  by_cases n0 : x0.length ≤ 1048576
  case neg =>
    go_enter Try.func8, Try.ntmps8
    go_wp2
    go_ret
    exact ⟨rfl, Below.refl _ _⟩
  by_cases n1 : x1.length ≤ 1048576
  case neg =>
    go_enter Try.func8, Try.ntmps8
    go_wp2
    go_ret
    exact ⟨rfl, Below.refl _ _⟩
  have m0 : (afterF x0 x1 x2).length ≤ 1048576 := afterF_len n0
  have B := Below.refl w.heap.size w
  go_enter Try.func8, Try.ntmps8
  go_wp2_with fail
  refine (toIntS_std _ x0 _ (h0.below B) n0).mono ?_
  rintro e w1 ⟨u26, rfl, f26, b⟩
  have z := b.size
  replace B := B.trans (b.mono B.size)
  clear b
  go_wp2_with fail
  refine (toIntS_std _ x1 _ (h1.below B) n1).mono ?_
  rintro e w2 ⟨u32, rfl, f32, b⟩
  replace f26 := f26.grow b
  have z := b.size
  replace B := B.trans (b.mono B.size)
  clear b
  go_wp2_with fail
  refine (specAfterGame_std _ x0 _ x1 x2 _ f26.in_ n0 f32.in_ n1 n2).mono ?_
  rintro e w3 ⟨r39, rfl, g39, b⟩
  replace f26 := f26.grow b
  replace f32 := f32.grow b
  have z := b.size
  replace B := B.trans (b.mono B.size)
  clear b
  clear f26
  clear f32
  go_wp2_with fail
  refine (toIntS_std _ x0 _ (h0.below B) n0).mono ?_
  rintro e w4 ⟨u49, rfl, f49, b⟩
  replace g39 := g39.grow b
  have z := b.size
  replace B := B.trans (b.mono B.size)
  clear b
  go_wp2_with fail
  refine (toIntS_std _ x1 _ (h1.below B) n1).mono ?_
  rintro e w5 ⟨u56, rfl, f56, b⟩
  replace g39 := g39.grow b
  replace f49 := f49.grow b
  have z := b.size
  replace B := B.trans (b.mono B.size)
  clear b
  go_wp2_with fail
  refine (implAfterGame_std _ x0 _ x1 x2 _ f49.in_ n0 f56.in_ n1 n2).mono ?_
  rintro e w6 ⟨r64, rfl, g64, b⟩
  replace g39 := g39.grow b
  replace f49 := f49.grow b
  replace f56 := f56.grow b
  have z := b.size
  replace B := B.trans (b.mono B.size)
  clear b
  go_wp2_with fail
  refine (eqIntS_std _ _ _ _ g64.in_ g39.in_ m0).mono ?_
  rintro e w7 ⟨rfl, b⟩
  replace g39 := g39.grow b
  replace f49 := f49.grow b
  replace f56 := f56.grow b
  replace g64 := g64.grow b
  have z := b.size
  replace B := B.trans (b.mono B.size)
  clear b
  go_wp2_with fail
  refine (toIntS_std _ x0 _ (h0.below B) n0).mono ?_
  rintro e w8 ⟨u83, rfl, f83, b⟩
  replace g39 := g39.grow b
  replace f49 := f49.grow b
  replace f56 := f56.grow b
  replace g64 := g64.grow b
  have z := b.size
  replace B := B.trans (b.mono B.size)
  clear b
  go_wp2_with fail
  refine (eqIntS_std _ _ _ _ f49.in_ f83.in_ n0).mono ?_
  rintro e w9 ⟨rfl, b⟩
  replace g39 := g39.grow b
  replace f49 := f49.grow b
  replace f56 := f56.grow b
  replace g64 := g64.grow b
  replace f83 := f83.grow b
  have z := b.size
  replace B := B.trans (b.mono B.size)
  clear b
  clear f83
  go_wp2_with fail
  refine (toIntS_std _ x1 _ (h1.below B) n1).mono ?_
  rintro e w10 ⟨u105, rfl, f105, b⟩
  replace g39 := g39.grow b
  replace f49 := f49.grow b
  replace f56 := f56.grow b
  replace g64 := g64.grow b
  have z := b.size
  replace B := B.trans (b.mono B.size)
  clear b
  go_wp2_with fail
  refine (eqIntS_std _ _ _ _ f56.in_ f105.in_ n1).mono ?_
  rintro e w11 ⟨rfl, b⟩
  replace g39 := g39.grow b
  replace f49 := f49.grow b
  replace f56 := f56.grow b
  replace g64 := g64.grow b
  replace f105 := f105.grow b
  have z := b.size
  replace B := B.trans (b.mono B.size)
  clear b
  clear f105
  go_wp2_with fail
  refine (markIntS_std _ _ _ _ _ _ f49 n0 (by omega) (by omega)).mono ?_
  rintro e w12 ⟨rfl, f49', kp⟩
  replace g39 := g39.keep kp (by omega)
  replace f56 := f56.keep kp (by omega)
  replace g64 := g64.keep kp (by omega)
  have z := kp.size
  replace B := B.trans (kp.below (by omega) B.size)
  clear kp f49
  have f49 := f49'; clear f49'
  go_wp2_with fail
  refine (markIntS_std _ _ _ _ _ _ f56 n1 (by omega) (by omega)).mono ?_
  rintro e w13 ⟨rfl, f56', kp⟩
  replace g39 := g39.keep kp (by omega)
  replace f49 := f49.keep kp (by omega)
  replace g64 := g64.keep kp (by omega)
  have z := kp.size
  replace B := B.trans (kp.below (by omega) B.size)
  clear kp f56
  have f56 := f56'; clear f56'
  clear f49
  clear f56
  go_wp2_with fail
  refine (eqIntS_std _ _ _ _ g64.in_ g39.in_ m0).mono ?_
  rintro e w14 ⟨rfl, b⟩
  replace g39 := g39.grow b
  replace g64 := g64.grow b
  have z := b.size
  replace B := B.trans (b.mono B.size)
  clear b
  go_wp2_with fail
  refine (markIntS_std _ _ _ _ _ _ g64 m0 (by omega) (by omega)).mono ?_
  rintro e w15 ⟨rfl, g64', kp⟩
  replace g39 := g39.keep kp (by omega)
  have z := kp.size
  replace B := B.trans (kp.below (by omega) B.size)
  clear kp g64
  have g64 := g64'; clear g64'
  go_wp2_with fail
  refine (heldIntS_std _ ((afterF x0 x1 x2).length) _ _ g64.in_ m0 (by omega) (by omega)).mono ?_
  rintro e w16 ⟨rfl, b⟩
  replace g39 := g39.grow b
  replace g64 := g64.grow b
  have z := b.size
  replace B := B.trans (b.mono B.size)
  clear b
  go_wp2_with fail
  refine (toIntS_std _ x0 _ (h0.below B) n0).mono ?_
  rintro e w17 ⟨u173, rfl, f173, b⟩
  replace g39 := g39.grow b
  replace g64 := g64.grow b
  have z := b.size
  replace B := B.trans (b.mono B.size)
  clear b
  go_wp2_with fail
  refine (toIntS_std _ x1 _ (h1.below B) n1).mono ?_
  rintro e w18 ⟨u181, rfl, f181, b⟩
  replace g39 := g39.grow b
  replace g64 := g64.grow b
  replace f173 := f173.grow b
  have z := b.size
  replace B := B.trans (b.mono B.size)
  clear b
  go_wp2_with fail
  refine (implAfterGame_std _ x0 _ x1 x2 _ f173.in_ n0 f181.in_ n1 n2).mono ?_
  rintro e w19 ⟨r190, rfl, g190, b⟩
  replace g39 := g39.grow b
  replace g64 := g64.grow b
  replace f173 := f173.grow b
  replace f181 := f181.grow b
  have z := b.size
  replace B := B.trans (b.mono B.size)
  clear b
  clear f173
  clear f181
  go_wp2_with fail
  refine (eqIntS_std _ _ _ _ g190.in_ g39.in_ m0).mono ?_
  rintro e w20 ⟨rfl, b⟩
  replace g39 := g39.grow b
  replace g64 := g64.grow b
  replace g190 := g190.grow b
  have z := b.size
  replace B := B.trans (b.mono B.size)
  clear b
  go_wp2_with fail
  refine (heldIntS_std _ ((afterF x0 x1 x2).length) _ _ g64.in_ m0 (by omega) (by omega)).mono ?_
  rintro e w21 ⟨rfl, b⟩
  replace g39 := g39.grow b
  replace g64 := g64.grow b
  replace g190 := g190.grow b
  have z := b.size
  replace B := B.trans (b.mono B.size)
  clear b
  go_wp2
  go_ret
  exact ⟨rfl, B⟩

set_option maxHeartbeats 1000000 in
theorem lawFnExactAfterAll (v0 : Value) (x0 : List Int) (v1 : Value) (x1 : List (List Int)) (x2 : Int) (w : World) (h0 : InI w v0 x0) (h1 : InS w v1 x1) (_n2 : (Lit.int .i64 x2).wf = true) :
    Calls Try.prog 11 #[v0, v1, .int .i64 x2] w fun e w' => e = .returned (.bool true) ∧ Below w.heap.size w w' := by
  have n2 := _n2
  have H0 := Lib.hid h0
  obtain ⟨A0, c0, rfl, hc0, hm0, -⟩ := h0
  have h0 := H0.out; clear H0; unfold maxLen at hm0
  by_cases n0 : x0.length ≤ 1048576
  case neg =>
    go_enter Try.func11, Try.ntmps11
    go_wp2
    go_ret
    exact ⟨rfl, Below.refl _ _⟩
  by_cases l1 : ((bulk x1 : Nat) : Int) ≤ (1048576 : Int)
  case neg =>
    go_enter Try.func11, Try.ntmps11
    (go_wp2_with fail; refine (szIntSS_any _ x1 _ _ h1 (by omega) (by omega)).mono ?_; rintro e w' ⟨rfl, rfl⟩)
    rw [szR_neg (by omega)]
    go_wp2
    go_ret
    exact ⟨rfl, Below.refl _ _⟩
  have n1 : bulk x1 ≤ 1048576 := by omega
  have m0 : (afterAllF x0 x1 x2).length ≤ 1048576 := afterAllF_len n0
  have n1' : rowsLen x1 ≤ 1048576 := by rw [bulk_eq] at n1; omega
  have B := Below.refl w.heap.size w
  go_enter Try.func11, Try.ntmps11
  (go_wp2_with fail; refine (szIntSS_any _ x1 _ _ h1 (by omega) (by omega)).mono ?_; rintro e w' ⟨rfl, rfl⟩)
  rw [szR_pos (by omega)]
  go_wp2_with fail
  refine (toIntS_std _ x0 _ (h0.below B) n0).mono ?_
  rintro e w1 ⟨u29, rfl, f29, b⟩
  have z := b.size
  replace B := B.trans (b.mono B.size)
  clear b
  go_wp2_with fail
  refine (toIntSS_std _ x1 _ (h1.below B) n1).mono ?_
  rintro e w2 ⟨u35, rfl, f35, b⟩
  replace f29 := f29.grow b
  have z := b.size
  replace B := B.trans (b.mono B.size)
  clear b
  go_wp2_with fail
  refine (specAfterAll_std _ x0 _ x1 x2 _ f29.in_ n0 f35.in_ n1 n2).mono ?_
  rintro e w3 ⟨r42, rfl, g42, b⟩
  replace f29 := f29.grow b
  replace f35 := f35.grow b
  have z := b.size
  replace B := B.trans (b.mono B.size)
  clear b
  clear f29
  clear f35
  go_wp2_with fail
  refine (toIntS_std _ x0 _ (h0.below B) n0).mono ?_
  rintro e w4 ⟨u52, rfl, f52, b⟩
  replace g42 := g42.grow b
  have z := b.size
  replace B := B.trans (b.mono B.size)
  clear b
  go_wp2_with fail
  refine (toIntSS_std _ x1 _ (h1.below B) n1).mono ?_
  rintro e w5 ⟨u59, rfl, f59, b⟩
  replace g42 := g42.grow b
  replace f52 := f52.grow b
  have z := b.size
  replace B := B.trans (b.mono B.size)
  clear b
  go_wp2_with fail
  refine (implAfterAll_std _ x0 _ x1 x2 _ f52.in_ n0 f59.in_ n1 n2).mono ?_
  rintro e w6 ⟨r67, rfl, g67, b⟩
  replace g42 := g42.grow b
  replace f52 := f52.grow b
  replace f59 := f59.grow b
  have z := b.size
  replace B := B.trans (b.mono B.size)
  clear b
  go_wp2_with fail
  refine (eqIntS_std _ _ _ _ g67.in_ g42.in_ m0).mono ?_
  rintro e w7 ⟨rfl, b⟩
  replace g42 := g42.grow b
  replace f52 := f52.grow b
  replace f59 := f59.grow b
  replace g67 := g67.grow b
  have z := b.size
  replace B := B.trans (b.mono B.size)
  clear b
  go_wp2_with fail
  refine (toIntS_std _ x0 _ (h0.below B) n0).mono ?_
  rintro e w8 ⟨u86, rfl, f86, b⟩
  replace g42 := g42.grow b
  replace f52 := f52.grow b
  replace f59 := f59.grow b
  replace g67 := g67.grow b
  have z := b.size
  replace B := B.trans (b.mono B.size)
  clear b
  go_wp2_with fail
  refine (eqIntS_std _ _ _ _ f52.in_ f86.in_ n0).mono ?_
  rintro e w9 ⟨rfl, b⟩
  replace g42 := g42.grow b
  replace f52 := f52.grow b
  replace f59 := f59.grow b
  replace g67 := g67.grow b
  replace f86 := f86.grow b
  have z := b.size
  replace B := B.trans (b.mono B.size)
  clear b
  clear f86
  go_wp2_with fail
  refine (toIntSS_std _ x1 _ (h1.below B) n1).mono ?_
  rintro e w10 ⟨u108, rfl, f108, b⟩
  replace g42 := g42.grow b
  replace f52 := f52.grow b
  replace f59 := f59.grow b
  replace g67 := g67.grow b
  have z := b.size
  replace B := B.trans (b.mono B.size)
  clear b
  go_wp2_with fail
  refine (eqIntSS_std _ _ _ _ f59.in_ f108.in_ n1).mono ?_
  rintro e w11 ⟨rfl, b⟩
  replace g42 := g42.grow b
  replace f52 := f52.grow b
  replace f59 := f59.grow b
  replace g67 := g67.grow b
  replace f108 := f108.grow b
  have z := b.size
  replace B := B.trans (b.mono B.size)
  clear b
  clear f108
  go_wp2_with fail
  refine (markIntS_std _ _ _ _ _ _ f52 n0 (by omega) (by omega)).mono ?_
  rintro e w12 ⟨rfl, f52', kp⟩
  replace g42 := g42.keep kp (by omega)
  replace f59 := f59.keep kp (by omega)
  replace g67 := g67.keep kp (by omega)
  have z := kp.size
  replace B := B.trans (kp.below (by omega) B.size)
  clear kp f52
  have f52 := f52'; clear f52'
  go_wp2_with fail
  refine (markIntSS_std _ _ _ _ _ _ f59 n1 (by omega) (by omega)).mono ?_
  rintro e w13 ⟨rfl, f59', kp⟩
  replace g42 := g42.keep kp (by omega)
  replace f52 := f52.keep kp (by omega)
  replace g67 := g67.keep kp (by omega)
  have z := kp.size
  replace B := B.trans (kp.below (by omega) B.size)
  clear kp f59
  have f59 := f59'; clear f59'
  clear f52
  clear f59
  go_wp2_with fail
  refine (eqIntS_std _ _ _ _ g67.in_ g42.in_ m0).mono ?_
  rintro e w14 ⟨rfl, b⟩
  replace g42 := g42.grow b
  replace g67 := g67.grow b
  have z := b.size
  replace B := B.trans (b.mono B.size)
  clear b
  go_wp2_with fail
  refine (markIntS_std _ _ _ _ _ _ g67 m0 (by omega) (by omega)).mono ?_
  rintro e w15 ⟨rfl, g67', kp⟩
  replace g42 := g42.keep kp (by omega)
  have z := kp.size
  replace B := B.trans (kp.below (by omega) B.size)
  clear kp g67
  have g67 := g67'; clear g67'
  go_wp2_with fail
  refine (heldIntS_std _ ((afterAllF x0 x1 x2).length) _ _ g67.in_ m0 (by omega) (by omega)).mono ?_
  rintro e w16 ⟨rfl, b⟩
  replace g42 := g42.grow b
  replace g67 := g67.grow b
  have z := b.size
  replace B := B.trans (b.mono B.size)
  clear b
  go_wp2_with fail
  refine (toIntS_std _ x0 _ (h0.below B) n0).mono ?_
  rintro e w17 ⟨u176, rfl, f176, b⟩
  replace g42 := g42.grow b
  replace g67 := g67.grow b
  have z := b.size
  replace B := B.trans (b.mono B.size)
  clear b
  go_wp2_with fail
  refine (toIntSS_std _ x1 _ (h1.below B) n1).mono ?_
  rintro e w18 ⟨u184, rfl, f184, b⟩
  replace g42 := g42.grow b
  replace g67 := g67.grow b
  replace f176 := f176.grow b
  have z := b.size
  replace B := B.trans (b.mono B.size)
  clear b
  go_wp2_with fail
  refine (implAfterAll_std _ x0 _ x1 x2 _ f176.in_ n0 f184.in_ n1 n2).mono ?_
  rintro e w19 ⟨r193, rfl, g193, b⟩
  replace g42 := g42.grow b
  replace g67 := g67.grow b
  replace f176 := f176.grow b
  replace f184 := f184.grow b
  have z := b.size
  replace B := B.trans (b.mono B.size)
  clear b
  clear f176
  clear f184
  go_wp2_with fail
  refine (eqIntS_std _ _ _ _ g193.in_ g42.in_ m0).mono ?_
  rintro e w20 ⟨rfl, b⟩
  replace g42 := g42.grow b
  replace g67 := g67.grow b
  replace g193 := g193.grow b
  have z := b.size
  replace B := B.trans (b.mono B.size)
  clear b
  go_wp2_with fail
  refine (heldIntS_std _ ((afterAllF x0 x1 x2).length) _ _ g67.in_ m0 (by omega) (by omega)).mono ?_
  rintro e w21 ⟨rfl, b⟩
  replace g42 := g42.grow b
  replace g67 := g67.grow b
  replace g193 := g193.grow b
  have z := b.size
  replace B := B.trans (b.mono B.size)
  clear b
  go_wp2
  go_ret
  exact ⟨rfl, B⟩

set_option maxHeartbeats 1000000 in
theorem lawFnExactAtOnce (v0 : Value) (x0 : List Int) (v1 : Value) (x1 : List (List Int)) (x2 : Int) (w : World) (h0 : InI w v0 x0) (h1 : InS w v1 x1) (_n2 : (Lit.int .i64 x2).wf = true) :
    Calls Try.prog 10 #[v0, v1, .int .i64 x2] w fun e w' => e = .returned (.bool true) ∧ Below w.heap.size w w' := by
  have n2 := _n2
  have H0 := Lib.hid h0
  obtain ⟨A0, c0, rfl, hc0, hm0, -⟩ := h0
  have h0 := H0.out; clear H0; unfold maxLen at hm0
  by_cases n0 : x0.length ≤ 1048576
  case neg =>
    go_enter Try.func10, Try.ntmps10
    go_wp2
    go_ret
    exact ⟨rfl, Below.refl _ _⟩
  by_cases l1 : ((bulk x1 : Nat) : Int) ≤ (1048576 : Int)
  case neg =>
    go_enter Try.func10, Try.ntmps10
    (go_wp2_with fail; refine (szIntSS_any _ x1 _ _ h1 (by omega) (by omega)).mono ?_; rintro e w' ⟨rfl, rfl⟩)
    rw [szR_neg (by omega)]
    go_wp2
    go_ret
    exact ⟨rfl, Below.refl _ _⟩
  have n1 : bulk x1 ≤ 1048576 := by omega
  have m0 : (onceF x0 x1 x2).length ≤ 1048576 := onceF_len n0
  have n1' : rowsLen x1 ≤ 1048576 := by rw [bulk_eq] at n1; omega
  have B := Below.refl w.heap.size w
  go_enter Try.func10, Try.ntmps10
  (go_wp2_with fail; refine (szIntSS_any _ x1 _ _ h1 (by omega) (by omega)).mono ?_; rintro e w' ⟨rfl, rfl⟩)
  rw [szR_pos (by omega)]
  go_wp2_with fail
  refine (toIntS_std _ x0 _ (h0.below B) n0).mono ?_
  rintro e w1 ⟨u29, rfl, f29, b⟩
  have z := b.size
  replace B := B.trans (b.mono B.size)
  clear b
  go_wp2_with fail
  refine (toIntSS_std _ x1 _ (h1.below B) n1).mono ?_
  rintro e w2 ⟨u35, rfl, f35, b⟩
  replace f29 := f29.grow b
  have z := b.size
  replace B := B.trans (b.mono B.size)
  clear b
  go_wp2_with fail
  refine (specAtOnce_std _ x0 _ x1 x2 _ f29.in_ n0 f35.in_ n1 n2).mono ?_
  rintro e w3 ⟨r42, rfl, g42, b⟩
  replace f29 := f29.grow b
  replace f35 := f35.grow b
  have z := b.size
  replace B := B.trans (b.mono B.size)
  clear b
  clear f29
  clear f35
  go_wp2_with fail
  refine (toIntS_std _ x0 _ (h0.below B) n0).mono ?_
  rintro e w4 ⟨u52, rfl, f52, b⟩
  replace g42 := g42.grow b
  have z := b.size
  replace B := B.trans (b.mono B.size)
  clear b
  go_wp2_with fail
  refine (toIntSS_std _ x1 _ (h1.below B) n1).mono ?_
  rintro e w5 ⟨u59, rfl, f59, b⟩
  replace g42 := g42.grow b
  replace f52 := f52.grow b
  have z := b.size
  replace B := B.trans (b.mono B.size)
  clear b
  go_wp2_with fail
  refine (implAtOnce_std _ x0 _ x1 x2 _ f52.in_ n0 f59.in_ n1 n2).mono ?_
  rintro e w6 ⟨r67, rfl, g67, b⟩
  replace g42 := g42.grow b
  replace f52 := f52.grow b
  replace f59 := f59.grow b
  have z := b.size
  replace B := B.trans (b.mono B.size)
  clear b
  go_wp2_with fail
  refine (eqIntS_std _ _ _ _ g67.in_ g42.in_ m0).mono ?_
  rintro e w7 ⟨rfl, b⟩
  replace g42 := g42.grow b
  replace f52 := f52.grow b
  replace f59 := f59.grow b
  replace g67 := g67.grow b
  have z := b.size
  replace B := B.trans (b.mono B.size)
  clear b
  go_wp2_with fail
  refine (toIntS_std _ x0 _ (h0.below B) n0).mono ?_
  rintro e w8 ⟨u86, rfl, f86, b⟩
  replace g42 := g42.grow b
  replace f52 := f52.grow b
  replace f59 := f59.grow b
  replace g67 := g67.grow b
  have z := b.size
  replace B := B.trans (b.mono B.size)
  clear b
  go_wp2_with fail
  refine (eqIntS_std _ _ _ _ f52.in_ f86.in_ n0).mono ?_
  rintro e w9 ⟨rfl, b⟩
  replace g42 := g42.grow b
  replace f52 := f52.grow b
  replace f59 := f59.grow b
  replace g67 := g67.grow b
  replace f86 := f86.grow b
  have z := b.size
  replace B := B.trans (b.mono B.size)
  clear b
  clear f86
  go_wp2_with fail
  refine (toIntSS_std _ x1 _ (h1.below B) n1).mono ?_
  rintro e w10 ⟨u108, rfl, f108, b⟩
  replace g42 := g42.grow b
  replace f52 := f52.grow b
  replace f59 := f59.grow b
  replace g67 := g67.grow b
  have z := b.size
  replace B := B.trans (b.mono B.size)
  clear b
  go_wp2_with fail
  refine (eqIntSS_std _ _ _ _ f59.in_ f108.in_ n1).mono ?_
  rintro e w11 ⟨rfl, b⟩
  replace g42 := g42.grow b
  replace f52 := f52.grow b
  replace f59 := f59.grow b
  replace g67 := g67.grow b
  replace f108 := f108.grow b
  have z := b.size
  replace B := B.trans (b.mono B.size)
  clear b
  clear f108
  go_wp2_with fail
  refine (markIntS_std _ _ _ _ _ _ f52 n0 (by omega) (by omega)).mono ?_
  rintro e w12 ⟨rfl, f52', kp⟩
  replace g42 := g42.keep kp (by omega)
  replace f59 := f59.keep kp (by omega)
  replace g67 := g67.keep kp (by omega)
  have z := kp.size
  replace B := B.trans (kp.below (by omega) B.size)
  clear kp f52
  have f52 := f52'; clear f52'
  go_wp2_with fail
  refine (markIntSS_std _ _ _ _ _ _ f59 n1 (by omega) (by omega)).mono ?_
  rintro e w13 ⟨rfl, f59', kp⟩
  replace g42 := g42.keep kp (by omega)
  replace f52 := f52.keep kp (by omega)
  replace g67 := g67.keep kp (by omega)
  have z := kp.size
  replace B := B.trans (kp.below (by omega) B.size)
  clear kp f59
  have f59 := f59'; clear f59'
  clear f52
  clear f59
  go_wp2_with fail
  refine (eqIntS_std _ _ _ _ g67.in_ g42.in_ m0).mono ?_
  rintro e w14 ⟨rfl, b⟩
  replace g42 := g42.grow b
  replace g67 := g67.grow b
  have z := b.size
  replace B := B.trans (b.mono B.size)
  clear b
  go_wp2_with fail
  refine (markIntS_std _ _ _ _ _ _ g67 m0 (by omega) (by omega)).mono ?_
  rintro e w15 ⟨rfl, g67', kp⟩
  replace g42 := g42.keep kp (by omega)
  have z := kp.size
  replace B := B.trans (kp.below (by omega) B.size)
  clear kp g67
  have g67 := g67'; clear g67'
  go_wp2_with fail
  refine (heldIntS_std _ ((onceF x0 x1 x2).length) _ _ g67.in_ m0 (by omega) (by omega)).mono ?_
  rintro e w16 ⟨rfl, b⟩
  replace g42 := g42.grow b
  replace g67 := g67.grow b
  have z := b.size
  replace B := B.trans (b.mono B.size)
  clear b
  go_wp2_with fail
  refine (toIntS_std _ x0 _ (h0.below B) n0).mono ?_
  rintro e w17 ⟨u176, rfl, f176, b⟩
  replace g42 := g42.grow b
  replace g67 := g67.grow b
  have z := b.size
  replace B := B.trans (b.mono B.size)
  clear b
  go_wp2_with fail
  refine (toIntSS_std _ x1 _ (h1.below B) n1).mono ?_
  rintro e w18 ⟨u184, rfl, f184, b⟩
  replace g42 := g42.grow b
  replace g67 := g67.grow b
  replace f176 := f176.grow b
  have z := b.size
  replace B := B.trans (b.mono B.size)
  clear b
  go_wp2_with fail
  refine (implAtOnce_std _ x0 _ x1 x2 _ f176.in_ n0 f184.in_ n1 n2).mono ?_
  rintro e w19 ⟨r193, rfl, g193, b⟩
  replace g42 := g42.grow b
  replace g67 := g67.grow b
  replace f176 := f176.grow b
  replace f184 := f184.grow b
  have z := b.size
  replace B := B.trans (b.mono B.size)
  clear b
  clear f176
  clear f184
  go_wp2_with fail
  refine (eqIntS_std _ _ _ _ g193.in_ g42.in_ m0).mono ?_
  rintro e w20 ⟨rfl, b⟩
  replace g42 := g42.grow b
  replace g67 := g67.grow b
  replace g193 := g193.grow b
  have z := b.size
  replace B := B.trans (b.mono B.size)
  clear b
  go_wp2_with fail
  refine (heldIntS_std _ ((onceF x0 x1 x2).length) _ _ g67.in_ m0 (by omega) (by omega)).mono ?_
  rintro e w21 ⟨rfl, b⟩
  replace g42 := g42.grow b
  replace g67 := g67.grow b
  replace g193 := g193.grow b
  have z := b.size
  replace B := B.trans (b.mono B.size)
  clear b
  go_wp2
  go_ret
  exact ⟨rfl, B⟩

set_option maxHeartbeats 1000000 in
theorem lawFnExactPerformanceOf (v0 : Value) (x0 : List Int) (v1 : Value) (x1 : List (List Int)) (x2 : Int) (w : World) (h0 : InI w v0 x0) (h1 : InS w v1 x1) (_n2 : (Lit.int .i64 x2).wf = true) :
    Calls Try.prog 9 #[v0, v1, .int .i64 x2] w fun e w' => e = .returned (.bool true) ∧ Below w.heap.size w w' := by
  have n2 := _n2
  have H0 := Lib.hid h0
  obtain ⟨A0, c0, rfl, hc0, hm0, -⟩ := h0
  have h0 := H0.out; clear H0; unfold maxLen at hm0
  by_cases n0 : x0.length ≤ 1048576
  case neg =>
    go_enter Try.func9, Try.ntmps9
    go_wp2
    go_ret
    exact ⟨rfl, Below.refl _ _⟩
  by_cases l1 : ((bulk x1 : Nat) : Int) ≤ (1048576 : Int)
  case neg =>
    go_enter Try.func9, Try.ntmps9
    (go_wp2_with fail; refine (szIntSS_any _ x1 _ _ h1 (by omega) (by omega)).mono ?_; rintro e w' ⟨rfl, rfl⟩)
    rw [szR_neg (by omega)]
    go_wp2
    go_ret
    exact ⟨rfl, Below.refl _ _⟩
  have n1 : bulk x1 ≤ 1048576 := by omega
  have n1' : rowsLen x1 ≤ 1048576 := by rw [bulk_eq] at n1; omega
  have B := Below.refl w.heap.size w
  go_enter Try.func9, Try.ntmps9
  (go_wp2_with fail; refine (szIntSS_any _ x1 _ _ h1 (by omega) (by omega)).mono ?_; rintro e w' ⟨rfl, rfl⟩)
  rw [szR_pos (by omega)]
  go_wp2_with fail
  refine (toIntS_std _ x0 _ (h0.below B) n0).mono ?_
  rintro e w1 ⟨u28, rfl, f28, b⟩
  have z := b.size
  replace B := B.trans (b.mono B.size)
  clear b
  go_wp2_with fail
  refine (toIntSS_std _ x1 _ (h1.below B) n1).mono ?_
  rintro e w2 ⟨u34, rfl, f34, b⟩
  replace f28 := f28.grow b
  have z := b.size
  replace B := B.trans (b.mono B.size)
  clear b
  go_wp2_with fail
  refine (specPerformanceOf_std _ x0 _ x1 x2 _ f28.in_ n0 f34.in_ n1 n2).mono ?_
  rintro e w3 ⟨rfl, b⟩
  replace f28 := f28.grow b
  replace f34 := f34.grow b
  have z := b.size
  replace B := B.trans (b.mono B.size)
  clear b
  clear f28
  clear f34
  go_wp2_with fail
  refine (toIntS_std _ x0 _ (h0.below B) n0).mono ?_
  rintro e w4 ⟨u51, rfl, f51, b⟩
  have z := b.size
  replace B := B.trans (b.mono B.size)
  clear b
  go_wp2_with fail
  refine (toIntSS_std _ x1 _ (h1.below B) n1).mono ?_
  rintro e w5 ⟨u57, rfl, f57, b⟩
  replace f51 := f51.grow b
  have z := b.size
  replace B := B.trans (b.mono B.size)
  clear b
  go_wp2_with fail
  refine (implPerformanceOf_std _ x0 _ x1 x2 _ f51.in_ n0 f57.in_ n1 n2).mono ?_
  rintro e w6 ⟨rfl, b⟩
  replace f51 := f51.grow b
  replace f57 := f57.grow b
  have z := b.size
  replace B := B.trans (b.mono B.size)
  clear b
  go_wp2_with fail
  refine (toIntS_std _ x0 _ (h0.below B) n0).mono ?_
  rintro e w7 ⟨u72, rfl, f72, b⟩
  replace f51 := f51.grow b
  replace f57 := f57.grow b
  have z := b.size
  replace B := B.trans (b.mono B.size)
  clear b
  go_wp2_with fail
  refine (eqIntS_std _ _ _ _ f51.in_ f72.in_ n0).mono ?_
  rintro e w8 ⟨rfl, b⟩
  replace f51 := f51.grow b
  replace f57 := f57.grow b
  replace f72 := f72.grow b
  have z := b.size
  replace B := B.trans (b.mono B.size)
  clear b
  clear f72
  go_wp2_with fail
  refine (toIntSS_std _ x1 _ (h1.below B) n1).mono ?_
  rintro e w9 ⟨u90, rfl, f90, b⟩
  replace f51 := f51.grow b
  replace f57 := f57.grow b
  have z := b.size
  replace B := B.trans (b.mono B.size)
  clear b
  go_wp2_with fail
  refine (eqIntSS_std _ _ _ _ f57.in_ f90.in_ n1).mono ?_
  rintro e w10 ⟨rfl, b⟩
  replace f51 := f51.grow b
  replace f57 := f57.grow b
  replace f90 := f90.grow b
  have z := b.size
  replace B := B.trans (b.mono B.size)
  clear b
  clear f90
  go_wp2
  go_ret
  exact ⟨rfl, B⟩

set_option maxHeartbeats 1000000 in
theorem lawFnExactSumOfRatings (v0 : Value) (x0 : List Int) (w : World) (h0 : InI w v0 x0) :
    Calls Try.prog 6 #[v0] w fun e w' => e = .returned (.bool true) ∧ Below w.heap.size w w' := by
  have H0 := Lib.hid h0
  obtain ⟨A0, c0, rfl, hc0, hm0, -⟩ := h0
  have h0 := H0.out; clear H0; unfold maxLen at hm0
  by_cases n0 : x0.length ≤ 1048576
  case neg =>
    go_enter Try.func6, Try.ntmps6
    go_wp2
    go_ret
    exact ⟨rfl, Below.refl _ _⟩
  have B := Below.refl w.heap.size w
  go_enter Try.func6, Try.ntmps6
  go_wp2_with fail
  refine (toIntS_std _ x0 _ (h0.below B) n0).mono ?_
  rintro e w1 ⟨u15, rfl, f15, b⟩
  have z := b.size
  replace B := B.trans (b.mono B.size)
  clear b
  go_wp2_with fail
  refine (specSumOfRatings_std _ x0 _ f15.in_ n0).mono ?_
  rintro e w2 ⟨rfl, b⟩
  replace f15 := f15.grow b
  have z := b.size
  replace B := B.trans (b.mono B.size)
  clear b
  clear f15
  go_wp2_with fail
  refine (toIntS_std _ x0 _ (h0.below B) n0).mono ?_
  rintro e w3 ⟨u29, rfl, f29, b⟩
  have z := b.size
  replace B := B.trans (b.mono B.size)
  clear b
  go_wp2_with fail
  refine (implSumOfRatings_std _ x0 _ f29.in_ n0).mono ?_
  rintro e w4 ⟨rfl, b⟩
  replace f29 := f29.grow b
  have z := b.size
  replace B := B.trans (b.mono B.size)
  clear b
  go_wp2_with fail
  refine (toIntS_std _ x0 _ (h0.below B) n0).mono ?_
  rintro e w5 ⟨u42, rfl, f42, b⟩
  replace f29 := f29.grow b
  have z := b.size
  replace B := B.trans (b.mono B.size)
  clear b
  go_wp2_with fail
  refine (eqIntS_std _ _ _ _ f29.in_ f42.in_ n0).mono ?_
  rintro e w6 ⟨rfl, b⟩
  replace f29 := f29.grow b
  replace f42 := f42.grow b
  have z := b.size
  replace B := B.trans (b.mono B.size)
  clear b
  clear f42
  go_wp2
  go_ret
  exact ⟨rfl, B⟩
end Go.Proofs.Ytkkhjjdgpngklaa
