/- The walks of the exact laws over slices (settling a ladder). -/
import Derived.Test.YtkfpgbmlopfabaaSy
import Derived.Test.YtkfpgbmlopfabaaTo
namespace Go.Proofs.Ytkfpgbmlopfabaa
open Go.ChangeShapes Go.WideShapes Go.ChangeAt Go.RowKit

set_option maxHeartbeats 2000000 in
set_option maxRecDepth 100000 in
theorem lawFnExactSettleLadder (v0 : Value) (x0 : TourV) (v1 : Value) (x1 : List Int) (w : World) (h0 : InT w v0 x0) (h1 : InI w v1 x1) :
    Calls Try.prog 3 #[v0, v1] w fun e w' => e = .returned (.bool true) ∧ Below w.heap.size w w' := by
  have H1 := Lib.hid h1
  obtain ⟨A1, c1, rfl, hc1, hm1, -⟩ := h1
  have h1 := H1.out; clear H1; unfold maxLen at hm1
  have H0 := Lib.hid h0
  obtain ⟨_, rfl, A0, c0, rfl, hc0, hm0, -⟩ := h0
  have h0 := H0.out; clear H0; unfold maxLen at hm0
  by_cases n1 : x1.length ≤ 1048576
  case neg =>
    go_enter Try.func3, Try.ntmps3
    go_wp2
    go_ret
    first | exact ⟨rfl, (Below.refl _ w).alloc (Nat.le_refl _) _⟩ | exact ⟨rfl, ((Below.refl _ w).alloc (Nat.le_refl _) _).alloc (by simp) _⟩
  by_cases l0 : ((x0.wins.length : Nat) : Int) ≤ (1048576 : Int)
  case neg =>
    have B := Below.refl w.heap.size w
    have hal : Below w.heap.size w (w.alloc (.cells #[.int .i64 x0.size, .slice A0 x0.wins.length c0] 24)) := (Below.refl _ w).alloc (Nat.le_refl _) _
    replace B := Lib.hid (B.trans (hal.mono B.size))
    have P0 : Hid (Bx (w.alloc (.cells #[.int .i64 x0.size, .slice A0 x0.wins.length c0] 24)) w.heap.size (.int .i64 x0.size) (.slice A0 x0.wins.length c0)) := ⟨by simp, by simp, by simp⟩
    clear hal
    go_enter Try.func3, Try.ntmps3
    go_wp2_with fail
    generalize (w.alloc (.cells #[.int .i64 x0.size, .slice A0 x0.wins.length c0] 24)) = w1 at *
    replace B := B.out
    replace P0 := P0.out
    have zP0 := P0.2.2
    refine (szTour_any _ x0 _ _ (h0.below B) (by omega) (by omega)).mono ?_
    rintro e w2 ⟨rfl, b⟩
    replace P0 := P0.below b
    have z := b.size
    replace B := B.trans (b.mono B.size)
    clear b
    rw [szR_neg (by omega)]
    go_wp2
    go_ret
    exact ⟨rfl, B⟩
  have n0 : x0.wins.length ≤ 1048576 := by omega
  have m0 : bulk (settleF x0 x1) ≤ 1048576 := Nat.le_trans (settleF_len x0 x1) (by omega)
  have m0' : rowsLen (settleF x0 x1) ≤ 1048576 := by rw [bulk_eq] at m0; omega
  have B := Below.refl w.heap.size w
  have hal : Below w.heap.size w (w.alloc (.cells #[.int .i64 x0.size, .slice A0 x0.wins.length c0] 24)) := (Below.refl _ w).alloc (Nat.le_refl _) _
  replace B := Lib.hid (B.trans (hal.mono B.size))
  have P0 : Hid (Bx (w.alloc (.cells #[.int .i64 x0.size, .slice A0 x0.wins.length c0] 24)) w.heap.size (.int .i64 x0.size) (.slice A0 x0.wins.length c0)) := ⟨by simp, by simp, by simp⟩
  clear hal
  go_enter Try.func3, Try.ntmps3
  go_wp2_with fail
  generalize (w.alloc (.cells #[.int .i64 x0.size, .slice A0 x0.wins.length c0] 24)) = w1 at *
  replace B := B.out
  replace P0 := P0.out
  have zP0 := P0.2.2
  refine (szTour_any _ x0 _ _ (h0.below B) (by omega) (by omega)).mono ?_
  rintro e w2 ⟨rfl, b⟩
  replace P0 := P0.below b
  have z := b.size
  replace B := B.trans (b.mono B.size)
  clear b
  rw [szR_pos (by omega)]
  obtain ⟨P0a, P0b, -⟩ := id P0
  go_wp2_with fail
  clear P0a P0b
  refine (toTour_std _ x0 _ (h0.below B) n0).mono ?_
  rintro e w3 ⟨u61, rfl, f61, b⟩
  replace P0 := P0.below b
  have z := b.size
  replace B := B.trans (b.mono B.size)
  clear b
  obtain ⟨P0a, P0b, -⟩ := id P0
  go_wp2_with fail
  clear P0a P0b
  refine (toIntS_std _ x1 _ (h1.below B) n1).mono ?_
  rintro e w4 ⟨u70, rfl, f70, b⟩
  replace f61 := f61.grow b
  replace P0 := P0.below b
  have z := b.size
  replace B := B.trans (b.mono B.size)
  clear b
  obtain ⟨P0a, P0b, -⟩ := id P0
  go_wp2_with fail
  clear P0a P0b
  refine (specSettle_std _ x0 _ x1 _ f61.in_ n0 f70.in_ n1).mono ?_
  rintro e w5 ⟨r80, rfl, g80, b⟩
  replace f61 := f61.grow b
  replace f70 := f70.grow b
  replace P0 := P0.below b
  have z := b.size
  replace B := B.trans (b.mono B.size)
  clear b
  clear f61
  clear f70
  obtain ⟨P0a, P0b, -⟩ := id P0
  go_wp2_with fail
  clear P0a P0b
  refine (toTour_std _ x0 _ (h0.below B) n0).mono ?_
  rintro e w6 ⟨u93, rfl, f93, b⟩
  replace g80 := g80.grow b
  replace P0 := P0.below b
  have z := b.size
  replace B := B.trans (b.mono B.size)
  clear b
  obtain ⟨Af93, cf93, rfl⟩ := f93.form
  have hal : Below w6.heap.size w6 (w6.alloc (.cells #[.int .i64 x0.size, .slice Af93 x0.wins.length cf93] 28)) := (Below.refl _ w6).alloc (Nat.le_refl _) _
  obtain ⟨P0a, P0b, P0l⟩ := id P0
  have P0n : ¬ w.heap.size = w6.heap.size := by omega
  replace g80 := Lib.hid (g80.grow hal)
  replace f93 := Lib.hid (f93.grow hal)
  replace P0 := Lib.hid (P0.below hal)
  replace B := Lib.hid (B.trans (hal.mono B.size))
  have Xf93 : Hid (Bx (w6.alloc (.cells #[.int .i64 x0.size, .slice Af93 x0.wins.length cf93] 28)) w6.heap.size (.int .i64 x0.size) (.slice Af93 x0.wins.length cf93)) := ⟨by simp, by simp, by simp⟩
  clear hal
  go_wp2_with fail
  generalize (w6.alloc (.cells #[.int .i64 x0.size, .slice Af93 x0.wins.length cf93] 28)) = w7 at *
  try clear P0a P0b P0l P0n
  replace g80 := g80.out
  replace f93 := f93.out
  replace P0 := P0.out
  replace B := B.out
  replace Xf93 := Xf93.out
  generalize w6.heap.size = pXf93 at *
  have zpXf93 := Xf93.2.2
  refine (toIntS_std _ x1 _ (h1.below B) n1).mono ?_
  rintro e w8 ⟨u113, rfl, f113, b⟩
  replace g80 := g80.grow b
  replace f93 := f93.grow b
  replace P0 := P0.below b
  replace Xf93 := Xf93.below b
  have z := b.size
  replace B := B.trans (b.mono B.size)
  clear b
  obtain ⟨P0a, P0b, -⟩ := id P0
  obtain ⟨Xf93a, Xf93b, -⟩ := id Xf93
  go_wp2_with fail
  clear P0a P0b
  clear Xf93a Xf93b
  refine (implSettle_std _ x0 _ x1 _ f93.in_ n0 f113.in_ n1).mono ?_
  rintro e w9 ⟨r132, rfl, g132, b⟩
  replace g80 := g80.grow b
  replace f93 := f93.grow b
  replace f113 := f113.grow b
  replace P0 := P0.below b
  replace Xf93 := Xf93.below b
  have z := b.size
  replace B := B.trans (b.mono B.size)
  clear b
  obtain ⟨P0a, P0b, -⟩ := id P0
  obtain ⟨Xf93a, Xf93b, -⟩ := id Xf93
  go_wp2_with fail
  clear P0a P0b
  clear Xf93a Xf93b
  refine (eqIntSS_std _ _ _ _ g132.in_ g80.in_ m0).mono ?_
  rintro e w10 ⟨rfl, b⟩
  replace g80 := g80.grow b
  replace f93 := f93.grow b
  replace f113 := f113.grow b
  replace g132 := g132.grow b
  replace P0 := P0.below b
  replace Xf93 := Xf93.below b
  have z := b.size
  replace B := B.trans (b.mono B.size)
  clear b
  obtain ⟨P0a, P0b, -⟩ := id P0
  obtain ⟨Xf93a, Xf93b, -⟩ := id Xf93
  go_wp2_with fail
  go_region_held3 (fun W => W.cell? ⟨w.heap.size, 0, none⟩ = some (.int .i64 x0.size) ∧ W.cell? ⟨w.heap.size, 1, none⟩ = some (.slice A0 x0.wins.length c0) ∧ W.cell? ⟨pXf93, 0, none⟩ = some (.int .i64 x0.size) ∧ W.cell? ⟨pXf93, 1, none⟩ = some (.slice Af93 x0.wins.length cf93)) (first | exact ⟨P0a, P0b, Xf93a, Xf93b⟩) (first
    | (go_at_call 6; refine (toTour_std _ x0 _ (h0.below (below_drewL B)) n0).mono ?_; rintro e w11 ⟨ut166, rfl, t166, b⟩; replace g80 := g80.drew.grow b; replace f93 := f93.drew.grow b; replace f113 := f113.drew.grow b; replace g132 := g132.drew.grow b; replace P0 := P0.drew.below b; replace Xf93 := Xf93.drew.below b; have z : w10.heap.size ≤ w11.heap.size := b.size; replace B := below_drewL B; replace B := B.trans (b.mono B.size); clear b P0a P0b Xf93a Xf93b; obtain ⟨P0a, P0b, -⟩ := id P0; obtain ⟨Xf93a, Xf93b, -⟩ := id Xf93)
    | (go_at_call 10; refine (eqTour_std _ _ _ _ f93.in_ t166.in_ n0).mono ?_; rintro e w12 ⟨rfl, b⟩; replace g80 := g80.grow b; replace f93 := f93.grow b; replace f113 := f113.grow b; replace g132 := g132.grow b; replace t166 := t166.grow b; replace P0 := P0.below b; replace Xf93 := Xf93.below b; have z : w11.heap.size ≤ w12.heap.size := b.size; replace B := B.trans (b.mono B.size); clear b P0a P0b Xf93a Xf93b; obtain ⟨P0a, P0b, -⟩ := id P0; obtain ⟨Xf93a, Xf93b, -⟩ := id Xf93))
  clear t166 P0a P0b Xf93a Xf93b
  obtain ⟨P0a, P0b, -⟩ := id P0
  obtain ⟨Xf93a, Xf93b, -⟩ := id Xf93
  go_wp2_with fail
  clear P0a P0b
  clear Xf93a Xf93b
  refine (toIntS_std _ x1 _ (h1.below B) n1).mono ?_
  rintro e w13 ⟨u170, rfl, f170, b⟩
  replace g80 := g80.grow b
  replace f93 := f93.grow b
  replace f113 := f113.grow b
  replace g132 := g132.grow b
  replace P0 := P0.below b
  replace Xf93 := Xf93.below b
  have z := b.size
  replace B := B.trans (b.mono B.size)
  clear b
  obtain ⟨P0a, P0b, -⟩ := id P0
  obtain ⟨Xf93a, Xf93b, -⟩ := id Xf93
  go_wp2_with fail
  clear P0a P0b
  clear Xf93a Xf93b
  refine (eqIntS_std _ _ _ _ f113.in_ f170.in_ n1).mono ?_
  rintro e w14 ⟨rfl, b⟩
  replace g80 := g80.grow b
  replace f93 := f93.grow b
  replace f113 := f113.grow b
  replace g132 := g132.grow b
  replace f170 := f170.grow b
  replace P0 := P0.below b
  replace Xf93 := Xf93.below b
  have z := b.size
  replace B := B.trans (b.mono B.size)
  clear b
  clear f170
  obtain ⟨P0a, P0b, -⟩ := id P0
  obtain ⟨Xf93a, Xf93b, -⟩ := id Xf93
  go_wp2_with fail
  clear P0a P0b
  clear Xf93a Xf93b
  refine (markTour_std _ _ _ _ _ _ f93 n0 (by omega) (by omega)).mono ?_
  rintro e w15 ⟨rfl, f93', kp⟩
  replace g80 := g80.keep kp (by omega)
  replace f113 := f113.keep kp (by omega)
  replace g132 := g132.keep kp (by omega)
  replace P0 := P0.keep kp (by omega)
  replace Xf93 := Xf93.keep kp (by omega)
  have z := kp.size
  replace B := B.trans (kp.below (by omega) B.size)
  clear kp f93
  have f93 := f93'; clear f93'
  obtain ⟨P0a, P0b, -⟩ := id P0
  obtain ⟨Xf93a, Xf93b, -⟩ := id Xf93
  go_wp2_with fail
  clear P0a P0b
  clear Xf93a Xf93b
  refine (markIntS_std _ _ _ _ _ _ f113 n1 (by omega) (by omega)).mono ?_
  rintro e w16 ⟨rfl, f113', kp⟩
  replace g80 := g80.keep kp (by omega)
  replace f93 := f93.keep kp (by omega)
  replace g132 := g132.keep kp (by omega)
  replace P0 := P0.keep kp (by omega)
  replace Xf93 := Xf93.keep kp (by omega)
  have z := kp.size
  replace B := B.trans (kp.below (by omega) B.size)
  clear kp f113
  have f113 := f113'; clear f113'
  clear f93
  clear f113
  obtain ⟨P0a, P0b, -⟩ := id P0
  obtain ⟨Xf93a, Xf93b, -⟩ := id Xf93
  go_wp2_with fail
  clear P0a P0b
  clear Xf93a Xf93b
  refine (eqIntSS_std _ _ _ _ g132.in_ g80.in_ m0).mono ?_
  rintro e w17 ⟨rfl, b⟩
  replace g80 := g80.grow b
  replace g132 := g132.grow b
  replace P0 := P0.below b
  replace Xf93 := Xf93.below b
  have z := b.size
  replace B := B.trans (b.mono B.size)
  clear b
  obtain ⟨P0a, P0b, -⟩ := id P0
  obtain ⟨Xf93a, Xf93b, -⟩ := id Xf93
  go_wp2_with fail
  clear P0a P0b
  clear Xf93a Xf93b
  refine (markIntSS_std _ _ _ _ _ _ g132 m0 (by omega) (by omega)).mono ?_
  rintro e w18 ⟨rfl, g132', kp⟩
  replace g80 := g80.keep kp (by omega)
  replace P0 := P0.keep kp (by omega)
  replace Xf93 := Xf93.keep kp (by omega)
  have z := kp.size
  replace B := B.trans (kp.below (by omega) B.size)
  clear kp g132
  have g132 := g132'; clear g132'
  obtain ⟨P0a, P0b, -⟩ := id P0
  obtain ⟨Xf93a, Xf93b, -⟩ := id Xf93
  go_wp2_with fail
  clear P0a P0b
  clear Xf93a Xf93b
  refine (heldIntSS_std _ ((settleF x0 x1)) _ _ g132.in_ m0 (by omega) (by omega)).mono ?_
  rintro e w19 ⟨rfl, b⟩
  replace g80 := g80.grow b
  replace g132 := g132.grow b
  replace P0 := P0.below b
  replace Xf93 := Xf93.below b
  have z := b.size
  replace B := B.trans (b.mono B.size)
  clear b
  obtain ⟨P0a, P0b, -⟩ := id P0
  obtain ⟨Xf93a, Xf93b, -⟩ := id Xf93
  go_wp2_with fail
  clear P0a P0b
  clear Xf93a Xf93b
  refine (toTour_std _ x0 _ (h0.below B) n0).mono ?_
  rintro e w20 ⟨u280, rfl, f280, b⟩
  replace g80 := g80.grow b
  replace g132 := g132.grow b
  replace P0 := P0.below b
  replace Xf93 := Xf93.below b
  have z := b.size
  replace B := B.trans (b.mono B.size)
  clear b
  obtain ⟨P0a, P0b, -⟩ := id P0
  obtain ⟨Xf93a, Xf93b, -⟩ := id Xf93
  go_wp2_with fail
  clear P0a P0b
  clear Xf93a Xf93b
  refine (toIntS_std _ x1 _ (h1.below B) n1).mono ?_
  rintro e w21 ⟨u294, rfl, f294, b⟩
  replace g80 := g80.grow b
  replace g132 := g132.grow b
  replace f280 := f280.grow b
  replace P0 := P0.below b
  replace Xf93 := Xf93.below b
  have z := b.size
  replace B := B.trans (b.mono B.size)
  clear b
  obtain ⟨P0a, P0b, -⟩ := id P0
  obtain ⟨Xf93a, Xf93b, -⟩ := id Xf93
  go_wp2_with fail
  clear P0a P0b
  clear Xf93a Xf93b
  refine (implSettle_std _ x0 _ x1 _ f280.in_ n0 f294.in_ n1).mono ?_
  rintro e w22 ⟨r309, rfl, g309, b⟩
  replace g80 := g80.grow b
  replace g132 := g132.grow b
  replace f280 := f280.grow b
  replace f294 := f294.grow b
  replace P0 := P0.below b
  replace Xf93 := Xf93.below b
  have z := b.size
  replace B := B.trans (b.mono B.size)
  clear b
  clear f280
  clear f294
  obtain ⟨P0a, P0b, -⟩ := id P0
  obtain ⟨Xf93a, Xf93b, -⟩ := id Xf93
  go_wp2_with fail
  clear P0a P0b
  clear Xf93a Xf93b
  refine (eqIntSS_std _ _ _ _ g309.in_ g80.in_ m0).mono ?_
  rintro e w23 ⟨rfl, b⟩
  replace g80 := g80.grow b
  replace g132 := g132.grow b
  replace g309 := g309.grow b
  replace P0 := P0.below b
  replace Xf93 := Xf93.below b
  have z := b.size
  replace B := B.trans (b.mono B.size)
  clear b
  obtain ⟨P0a, P0b, -⟩ := id P0
  obtain ⟨Xf93a, Xf93b, -⟩ := id Xf93
  go_wp2_with fail
  clear P0a P0b
  clear Xf93a Xf93b
  refine (heldIntSS_std _ ((settleF x0 x1)) _ _ g132.in_ m0 (by omega) (by omega)).mono ?_
  rintro e w24 ⟨rfl, b⟩
  replace g80 := g80.grow b
  replace g132 := g132.grow b
  replace g309 := g309.grow b
  replace P0 := P0.below b
  replace Xf93 := Xf93.below b
  have z := b.size
  replace B := B.trans (b.mono B.size)
  clear b
  go_wp2
  go_ret
  exact ⟨rfl, B⟩
end Go.Proofs.Ytkfpgbmlopfabaa
