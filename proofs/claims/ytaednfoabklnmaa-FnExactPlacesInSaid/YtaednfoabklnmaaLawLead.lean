/- The walks of the exact laws over slices (leaders and places). -/
import Derived.Test.YtaednfoabklnmaaLd
import Derived.Test.YtaednfoabklnmaaRepl
namespace Go.Proofs.Ytaednfoabklnmaa
open Go.ChangeShapes Go.WideShapes Go.ChangeAt Go.RowKit

set_option maxHeartbeats 2000000 in
set_option maxRecDepth 100000 in
theorem lawFnExactLeadersOf (v0 : Value) (x0 : LeagueV) (w : World) (h0 : InL w v0 x0) :
    Calls Try.prog 10 #[v0] w fun e w' => e = .returned (.bool true) ∧ Below w.heap.size w w' := by
  have H0 := Lib.hid h0
  obtain ⟨A0, c0, rfl, hc0, hm0, -⟩ := h0
  have h0 := H0.out; clear H0; unfold maxLen at hm0
  by_cases l0 : ((x0.results.length : Nat) : Int) ≤ (1048576 : Int)
  case neg =>
    have B := Below.refl w.heap.size w
    have hal : Below w.heap.size w (w.alloc (.cells #[.int .i64 x0.clubs, .slice A0 x0.results.length c0] 24)) := (Below.refl _ w).alloc (Nat.le_refl _) _
    replace B := Lib.hid (B.trans (hal.mono B.size))
    have P0 : Hid (Bx (w.alloc (.cells #[.int .i64 x0.clubs, .slice A0 x0.results.length c0] 24)) w.heap.size (.int .i64 x0.clubs) (.slice A0 x0.results.length c0)) := ⟨by simp, by simp, by simp⟩
    clear hal
    go_enter Try.func10, Try.ntmps10
    go_wp2_with fail
    generalize (w.alloc (.cells #[.int .i64 x0.clubs, .slice A0 x0.results.length c0] 24)) = w1 at *
    replace B := B.out
    replace P0 := P0.out
    have zP0 := P0.2.2
    refine (szLeague_any _ x0 _ _ (h0.below B) (by omega) (by omega)).mono ?_
    rintro e w2 ⟨rfl, b⟩
    replace P0 := P0.below b
    have z := b.size
    replace B := B.trans (b.mono B.size)
    clear b
    rw [szQ_neg (by omega)]
    go_wp2
    go_ret
    exact ⟨rfl, B⟩
  have n0 : x0.results.length ≤ 1048576 := by omega
  have m0 : (leadersF x0).length ≤ 1048576 := leadersF_len
  have B := Below.refl w.heap.size w
  have hal : Below w.heap.size w (w.alloc (.cells #[.int .i64 x0.clubs, .slice A0 x0.results.length c0] 24)) := (Below.refl _ w).alloc (Nat.le_refl _) _
  replace B := Lib.hid (B.trans (hal.mono B.size))
  have P0 : Hid (Bx (w.alloc (.cells #[.int .i64 x0.clubs, .slice A0 x0.results.length c0] 24)) w.heap.size (.int .i64 x0.clubs) (.slice A0 x0.results.length c0)) := ⟨by simp, by simp, by simp⟩
  clear hal
  go_enter Try.func10, Try.ntmps10
  go_wp2_with fail
  generalize (w.alloc (.cells #[.int .i64 x0.clubs, .slice A0 x0.results.length c0] 24)) = w1 at *
  replace B := B.out
  replace P0 := P0.out
  have zP0 := P0.2.2
  refine (szLeague_any _ x0 _ _ (h0.below B) (by omega) (by omega)).mono ?_
  rintro e w2 ⟨rfl, b⟩
  replace P0 := P0.below b
  have z := b.size
  replace B := B.trans (b.mono B.size)
  clear b
  rw [szQ_pos (by omega)]
  obtain ⟨P0a, P0b, -⟩ := id P0
  go_wp2_with fail
  clear P0a P0b
  refine (toLeague_std _ x0 _ (h0.below B) n0).mono ?_
  rintro e w3 ⟨u51, rfl, f51, b⟩
  replace P0 := P0.below b
  have z := b.size
  replace B := B.trans (b.mono B.size)
  clear b
  obtain ⟨P0a, P0b, -⟩ := id P0
  go_wp2_with fail
  clear P0a P0b
  refine (specLeadersOf_std _ x0 _ f51.in_ n0).mono ?_
  rintro e w4 ⟨r60, rfl, g60, b⟩
  replace f51 := f51.grow b
  replace P0 := P0.below b
  have z := b.size
  replace B := B.trans (b.mono B.size)
  clear b
  clear f51
  obtain ⟨P0a, P0b, -⟩ := id P0
  go_wp2_with fail
  clear P0a P0b
  refine (toLeague_std _ x0 _ (h0.below B) n0).mono ?_
  rintro e w5 ⟨u71, rfl, f71, b⟩
  replace g60 := g60.grow b
  replace P0 := P0.below b
  have z := b.size
  replace B := B.trans (b.mono B.size)
  clear b
  obtain ⟨Af71, cf71, rfl⟩ := f71.form
  have hal : Below w5.heap.size w5 (w5.alloc (.cells #[.int .i64 x0.clubs, .slice Af71 x0.results.length cf71] 28)) := (Below.refl _ w5).alloc (Nat.le_refl _) _
  obtain ⟨P0a, P0b, P0l⟩ := id P0
  have P0n : ¬ w.heap.size = w5.heap.size := by omega
  replace g60 := Lib.hid (g60.grow hal)
  replace f71 := Lib.hid (f71.grow hal)
  replace P0 := Lib.hid (P0.below hal)
  replace B := Lib.hid (B.trans (hal.mono B.size))
  have Xf71 : Hid (Bx (w5.alloc (.cells #[.int .i64 x0.clubs, .slice Af71 x0.results.length cf71] 28)) w5.heap.size (.int .i64 x0.clubs) (.slice Af71 x0.results.length cf71)) := ⟨by simp, by simp, by simp⟩
  clear hal
  go_wp2_with fail
  generalize (w5.alloc (.cells #[.int .i64 x0.clubs, .slice Af71 x0.results.length cf71] 28)) = w6 at *
  try clear P0a P0b P0l P0n
  replace g60 := g60.out
  replace f71 := f71.out
  replace P0 := P0.out
  replace B := B.out
  replace Xf71 := Xf71.out
  generalize w5.heap.size = pXf71 at *
  have zpXf71 := Xf71.2.2
  refine (implLeadersOf_std _ x0 _ f71.in_ n0).mono ?_
  rintro e w7 ⟨r91, rfl, g91, b⟩
  replace g60 := g60.grow b
  replace f71 := f71.grow b
  replace P0 := P0.below b
  replace Xf71 := Xf71.below b
  have z := b.size
  replace B := B.trans (b.mono B.size)
  clear b
  obtain ⟨P0a, P0b, -⟩ := id P0
  obtain ⟨Xf71a, Xf71b, -⟩ := id Xf71
  go_wp2_with fail
  clear P0a P0b
  clear Xf71a Xf71b
  refine (eqIntS_std _ _ _ _ g91.in_ g60.in_ m0).mono ?_
  rintro e w8 ⟨rfl, b⟩
  replace g60 := g60.grow b
  replace f71 := f71.grow b
  replace g91 := g91.grow b
  replace P0 := P0.below b
  replace Xf71 := Xf71.below b
  have z := b.size
  replace B := B.trans (b.mono B.size)
  clear b
  obtain ⟨P0a, P0b, -⟩ := id P0
  obtain ⟨Xf71a, Xf71b, -⟩ := id Xf71
  go_wp2_with fail
  go_region_held3 (fun W => W.cell? ⟨w.heap.size, 0, none⟩ = some (.int .i64 x0.clubs) ∧ W.cell? ⟨w.heap.size, 1, none⟩ = some (.slice A0 x0.results.length c0) ∧ W.cell? ⟨pXf71, 0, none⟩ = some (.int .i64 x0.clubs) ∧ W.cell? ⟨pXf71, 1, none⟩ = some (.slice Af71 x0.results.length cf71)) (first | exact ⟨P0a, P0b, Xf71a, Xf71b⟩) (first
    | (go_at_call 16; refine (toLeague_std _ x0 _ (h0.below (below_drewL B)) n0).mono ?_; rintro e w9 ⟨ut128, rfl, t128, b⟩; replace g60 := g60.drew.grow b; replace f71 := f71.drew.grow b; replace g91 := g91.drew.grow b; replace P0 := P0.drew.below b; replace Xf71 := Xf71.drew.below b; have z : w8.heap.size ≤ w9.heap.size := b.size; replace B := below_drewL B; replace B := B.trans (b.mono B.size); clear b P0a P0b Xf71a Xf71b; obtain ⟨P0a, P0b, -⟩ := id P0; obtain ⟨Xf71a, Xf71b, -⟩ := id Xf71)
    | (go_at_call 18; refine (eqLeague_std _ _ _ _ f71.in_ t128.in_ n0).mono ?_; rintro e w10 ⟨rfl, b⟩; replace g60 := g60.grow b; replace f71 := f71.grow b; replace g91 := g91.grow b; replace t128 := t128.grow b; replace P0 := P0.below b; replace Xf71 := Xf71.below b; have z : w9.heap.size ≤ w10.heap.size := b.size; replace B := B.trans (b.mono B.size); clear b P0a P0b Xf71a Xf71b; obtain ⟨P0a, P0b, -⟩ := id P0; obtain ⟨Xf71a, Xf71b, -⟩ := id Xf71))
  clear t128 P0a P0b Xf71a Xf71b
  obtain ⟨P0a, P0b, -⟩ := id P0
  obtain ⟨Xf71a, Xf71b, -⟩ := id Xf71
  go_wp2_with fail
  clear P0a P0b
  clear Xf71a Xf71b
  refine (markLeague_std _ _ _ _ _ _ f71 n0 (by omega) (by omega)).mono ?_
  rintro e w11 ⟨rfl, f71', kp⟩
  replace g60 := g60.keep kp (by omega)
  replace g91 := g91.keep kp (by omega)
  replace P0 := P0.keep kp (by omega)
  replace Xf71 := Xf71.keep kp (by omega)
  have z := kp.size
  replace B := B.trans (kp.below (by omega) B.size)
  clear kp f71
  have f71 := f71'; clear f71'
  clear f71
  obtain ⟨P0a, P0b, -⟩ := id P0
  obtain ⟨Xf71a, Xf71b, -⟩ := id Xf71
  go_wp2_with fail
  clear P0a P0b
  clear Xf71a Xf71b
  refine (eqIntS_std _ _ _ _ g91.in_ g60.in_ m0).mono ?_
  rintro e w12 ⟨rfl, b⟩
  replace g60 := g60.grow b
  replace g91 := g91.grow b
  replace P0 := P0.below b
  replace Xf71 := Xf71.below b
  have z := b.size
  replace B := B.trans (b.mono B.size)
  clear b
  obtain ⟨P0a, P0b, -⟩ := id P0
  obtain ⟨Xf71a, Xf71b, -⟩ := id Xf71
  go_wp2_with fail
  clear P0a P0b
  clear Xf71a Xf71b
  refine (markIntS_std _ _ _ _ _ _ g91 m0 (by omega) (by omega)).mono ?_
  rintro e w13 ⟨rfl, g91', kp⟩
  replace g60 := g60.keep kp (by omega)
  replace P0 := P0.keep kp (by omega)
  replace Xf71 := Xf71.keep kp (by omega)
  have z := kp.size
  replace B := B.trans (kp.below (by omega) B.size)
  clear kp g91
  have g91 := g91'; clear g91'
  obtain ⟨P0a, P0b, -⟩ := id P0
  obtain ⟨Xf71a, Xf71b, -⟩ := id Xf71
  go_wp2_with fail
  clear P0a P0b
  clear Xf71a Xf71b
  refine (heldIntS_std _ ((leadersF x0).length) _ _ g91.in_ m0 (by omega) (by omega)).mono ?_
  rintro e w14 ⟨rfl, b⟩
  replace g60 := g60.grow b
  replace g91 := g91.grow b
  replace P0 := P0.below b
  replace Xf71 := Xf71.below b
  have z := b.size
  replace B := B.trans (b.mono B.size)
  clear b
  obtain ⟨P0a, P0b, -⟩ := id P0
  obtain ⟨Xf71a, Xf71b, -⟩ := id Xf71
  go_wp2_with fail
  clear P0a P0b
  clear Xf71a Xf71b
  refine (toLeague_std _ x0 _ (h0.below B) n0).mono ?_
  rintro e w15 ⟨u190, rfl, f190, b⟩
  replace g60 := g60.grow b
  replace g91 := g91.grow b
  replace P0 := P0.below b
  replace Xf71 := Xf71.below b
  have z := b.size
  replace B := B.trans (b.mono B.size)
  clear b
  obtain ⟨P0a, P0b, -⟩ := id P0
  obtain ⟨Xf71a, Xf71b, -⟩ := id Xf71
  go_wp2_with fail
  clear P0a P0b
  clear Xf71a Xf71b
  refine (implLeadersOf_std _ x0 _ f190.in_ n0).mono ?_
  rintro e w16 ⟨r204, rfl, g204, b⟩
  replace g60 := g60.grow b
  replace g91 := g91.grow b
  replace f190 := f190.grow b
  replace P0 := P0.below b
  replace Xf71 := Xf71.below b
  have z := b.size
  replace B := B.trans (b.mono B.size)
  clear b
  clear f190
  obtain ⟨P0a, P0b, -⟩ := id P0
  obtain ⟨Xf71a, Xf71b, -⟩ := id Xf71
  go_wp2_with fail
  clear P0a P0b
  clear Xf71a Xf71b
  refine (eqIntS_std _ _ _ _ g204.in_ g60.in_ m0).mono ?_
  rintro e w17 ⟨rfl, b⟩
  replace g60 := g60.grow b
  replace g91 := g91.grow b
  replace g204 := g204.grow b
  replace P0 := P0.below b
  replace Xf71 := Xf71.below b
  have z := b.size
  replace B := B.trans (b.mono B.size)
  clear b
  obtain ⟨P0a, P0b, -⟩ := id P0
  obtain ⟨Xf71a, Xf71b, -⟩ := id Xf71
  go_wp2_with fail
  clear P0a P0b
  clear Xf71a Xf71b
  refine (heldIntS_std _ ((leadersF x0).length) _ _ g91.in_ m0 (by omega) (by omega)).mono ?_
  rintro e w18 ⟨rfl, b⟩
  replace g60 := g60.grow b
  replace g91 := g91.grow b
  replace g204 := g204.grow b
  replace P0 := P0.below b
  replace Xf71 := Xf71.below b
  have z := b.size
  replace B := B.trans (b.mono B.size)
  clear b
  go_wp2
  go_ret
  exact ⟨rfl, B⟩

set_option maxHeartbeats 2000000 in
set_option maxRecDepth 100000 in
theorem lawFnExactPlacesIn (v0 : Value) (x0 : LeagueV) (x1 : Int) (w : World) (h0 : InL w v0 x0) (_n1 : (Lit.int .i64 x1).wf = true) :
    Calls Try.prog 12 #[v0, .int .i64 x1] w fun e w' => e = .returned (.bool true) ∧ Below w.heap.size w w' := by
  have n1 := _n1
  have H0 := Lib.hid h0
  obtain ⟨A0, c0, rfl, hc0, hm0, -⟩ := h0
  have h0 := H0.out; clear H0; unfold maxLen at hm0
  by_cases l0 : ((x0.results.length : Nat) : Int) ≤ (1048576 : Int)
  case neg =>
    have B := Below.refl w.heap.size w
    have hal : Below w.heap.size w (w.alloc (.cells #[.int .i64 x0.clubs, .slice A0 x0.results.length c0] 24)) := (Below.refl _ w).alloc (Nat.le_refl _) _
    replace B := Lib.hid (B.trans (hal.mono B.size))
    have P0 : Hid (Bx (w.alloc (.cells #[.int .i64 x0.clubs, .slice A0 x0.results.length c0] 24)) w.heap.size (.int .i64 x0.clubs) (.slice A0 x0.results.length c0)) := ⟨by simp, by simp, by simp⟩
    clear hal
    go_enter Try.func12, Try.ntmps12
    go_wp2_with fail
    generalize (w.alloc (.cells #[.int .i64 x0.clubs, .slice A0 x0.results.length c0] 24)) = w1 at *
    replace B := B.out
    replace P0 := P0.out
    have zP0 := P0.2.2
    refine (szLeague_any _ x0 _ _ (h0.below B) (by omega) (by omega)).mono ?_
    rintro e w2 ⟨rfl, b⟩
    replace P0 := P0.below b
    have z := b.size
    replace B := B.trans (b.mono B.size)
    clear b
    rw [szQ_neg (by omega)]
    go_wp2
    go_ret
    exact ⟨rfl, B⟩
  have n0 : x0.results.length ≤ 1048576 := by omega
  have m0 : (placesF x0 x1).length ≤ 1048576 := placesF_len
  have B := Below.refl w.heap.size w
  have hal : Below w.heap.size w (w.alloc (.cells #[.int .i64 x0.clubs, .slice A0 x0.results.length c0] 24)) := (Below.refl _ w).alloc (Nat.le_refl _) _
  replace B := Lib.hid (B.trans (hal.mono B.size))
  have P0 : Hid (Bx (w.alloc (.cells #[.int .i64 x0.clubs, .slice A0 x0.results.length c0] 24)) w.heap.size (.int .i64 x0.clubs) (.slice A0 x0.results.length c0)) := ⟨by simp, by simp, by simp⟩
  clear hal
  go_enter Try.func12, Try.ntmps12
  go_wp2_with fail
  generalize (w.alloc (.cells #[.int .i64 x0.clubs, .slice A0 x0.results.length c0] 24)) = w1 at *
  replace B := B.out
  replace P0 := P0.out
  have zP0 := P0.2.2
  refine (szLeague_any _ x0 _ _ (h0.below B) (by omega) (by omega)).mono ?_
  rintro e w2 ⟨rfl, b⟩
  replace P0 := P0.below b
  have z := b.size
  replace B := B.trans (b.mono B.size)
  clear b
  rw [szQ_pos (by omega)]
  obtain ⟨P0a, P0b, -⟩ := id P0
  go_wp2_with fail
  clear P0a P0b
  refine (toLeague_std _ x0 _ (h0.below B) n0).mono ?_
  rintro e w3 ⟨u52, rfl, f52, b⟩
  replace P0 := P0.below b
  have z := b.size
  replace B := B.trans (b.mono B.size)
  clear b
  obtain ⟨P0a, P0b, -⟩ := id P0
  go_wp2_with fail
  clear P0a P0b
  refine (specPlacesIn_std _ x0 x1 _ f52.in_ n0 n1).mono ?_
  rintro e w4 ⟨r61, rfl, g61, b⟩
  replace f52 := f52.grow b
  replace P0 := P0.below b
  have z := b.size
  replace B := B.trans (b.mono B.size)
  clear b
  clear f52
  obtain ⟨P0a, P0b, -⟩ := id P0
  go_wp2_with fail
  clear P0a P0b
  refine (toLeague_std _ x0 _ (h0.below B) n0).mono ?_
  rintro e w5 ⟨u72, rfl, f72, b⟩
  replace g61 := g61.grow b
  replace P0 := P0.below b
  have z := b.size
  replace B := B.trans (b.mono B.size)
  clear b
  obtain ⟨Af72, cf72, rfl⟩ := f72.form
  have hal : Below w5.heap.size w5 (w5.alloc (.cells #[.int .i64 x0.clubs, .slice Af72 x0.results.length cf72] 28)) := (Below.refl _ w5).alloc (Nat.le_refl _) _
  obtain ⟨P0a, P0b, P0l⟩ := id P0
  have P0n : ¬ w.heap.size = w5.heap.size := by omega
  replace g61 := Lib.hid (g61.grow hal)
  replace f72 := Lib.hid (f72.grow hal)
  replace P0 := Lib.hid (P0.below hal)
  replace B := Lib.hid (B.trans (hal.mono B.size))
  have Xf72 : Hid (Bx (w5.alloc (.cells #[.int .i64 x0.clubs, .slice Af72 x0.results.length cf72] 28)) w5.heap.size (.int .i64 x0.clubs) (.slice Af72 x0.results.length cf72)) := ⟨by simp, by simp, by simp⟩
  clear hal
  go_wp2_with fail
  generalize (w5.alloc (.cells #[.int .i64 x0.clubs, .slice Af72 x0.results.length cf72] 28)) = w6 at *
  try clear P0a P0b P0l P0n
  replace g61 := g61.out
  replace f72 := f72.out
  replace P0 := P0.out
  replace B := B.out
  replace Xf72 := Xf72.out
  generalize w5.heap.size = pXf72 at *
  have zpXf72 := Xf72.2.2
  refine (implPlacesIn_std _ x0 x1 _ f72.in_ n0 n1).mono ?_
  rintro e w7 ⟨r92, rfl, g92, b⟩
  replace g61 := g61.grow b
  replace f72 := f72.grow b
  replace P0 := P0.below b
  replace Xf72 := Xf72.below b
  have z := b.size
  replace B := B.trans (b.mono B.size)
  clear b
  obtain ⟨P0a, P0b, -⟩ := id P0
  obtain ⟨Xf72a, Xf72b, -⟩ := id Xf72
  go_wp2_with fail
  clear P0a P0b
  clear Xf72a Xf72b
  refine (eqIntS_std _ _ _ _ g92.in_ g61.in_ m0).mono ?_
  rintro e w8 ⟨rfl, b⟩
  replace g61 := g61.grow b
  replace f72 := f72.grow b
  replace g92 := g92.grow b
  replace P0 := P0.below b
  replace Xf72 := Xf72.below b
  have z := b.size
  replace B := B.trans (b.mono B.size)
  clear b
  obtain ⟨P0a, P0b, -⟩ := id P0
  obtain ⟨Xf72a, Xf72b, -⟩ := id Xf72
  go_wp2_with fail
  go_region_held3 (fun W => W.cell? ⟨w.heap.size, 0, none⟩ = some (.int .i64 x0.clubs) ∧ W.cell? ⟨w.heap.size, 1, none⟩ = some (.slice A0 x0.results.length c0) ∧ W.cell? ⟨pXf72, 0, none⟩ = some (.int .i64 x0.clubs) ∧ W.cell? ⟨pXf72, 1, none⟩ = some (.slice Af72 x0.results.length cf72)) (first | exact ⟨P0a, P0b, Xf72a, Xf72b⟩) (first
    | (go_at_call 16; refine (toLeague_std _ x0 _ (h0.below (below_drewL B)) n0).mono ?_; rintro e w9 ⟨ut129, rfl, t129, b⟩; replace g61 := g61.drew.grow b; replace f72 := f72.drew.grow b; replace g92 := g92.drew.grow b; replace P0 := P0.drew.below b; replace Xf72 := Xf72.drew.below b; have z : w8.heap.size ≤ w9.heap.size := b.size; replace B := below_drewL B; replace B := B.trans (b.mono B.size); clear b P0a P0b Xf72a Xf72b; obtain ⟨P0a, P0b, -⟩ := id P0; obtain ⟨Xf72a, Xf72b, -⟩ := id Xf72)
    | (go_at_call 18; refine (eqLeague_std _ _ _ _ f72.in_ t129.in_ n0).mono ?_; rintro e w10 ⟨rfl, b⟩; replace g61 := g61.grow b; replace f72 := f72.grow b; replace g92 := g92.grow b; replace t129 := t129.grow b; replace P0 := P0.below b; replace Xf72 := Xf72.below b; have z : w9.heap.size ≤ w10.heap.size := b.size; replace B := B.trans (b.mono B.size); clear b P0a P0b Xf72a Xf72b; obtain ⟨P0a, P0b, -⟩ := id P0; obtain ⟨Xf72a, Xf72b, -⟩ := id Xf72))
  clear t129 P0a P0b Xf72a Xf72b
  obtain ⟨P0a, P0b, -⟩ := id P0
  obtain ⟨Xf72a, Xf72b, -⟩ := id Xf72
  go_wp2_with fail
  clear P0a P0b
  clear Xf72a Xf72b
  refine (markLeague_std _ _ _ _ _ _ f72 n0 (by omega) (by omega)).mono ?_
  rintro e w11 ⟨rfl, f72', kp⟩
  replace g61 := g61.keep kp (by omega)
  replace g92 := g92.keep kp (by omega)
  replace P0 := P0.keep kp (by omega)
  replace Xf72 := Xf72.keep kp (by omega)
  have z := kp.size
  replace B := B.trans (kp.below (by omega) B.size)
  clear kp f72
  have f72 := f72'; clear f72'
  clear f72
  obtain ⟨P0a, P0b, -⟩ := id P0
  obtain ⟨Xf72a, Xf72b, -⟩ := id Xf72
  go_wp2_with fail
  clear P0a P0b
  clear Xf72a Xf72b
  refine (eqIntS_std _ _ _ _ g92.in_ g61.in_ m0).mono ?_
  rintro e w12 ⟨rfl, b⟩
  replace g61 := g61.grow b
  replace g92 := g92.grow b
  replace P0 := P0.below b
  replace Xf72 := Xf72.below b
  have z := b.size
  replace B := B.trans (b.mono B.size)
  clear b
  obtain ⟨P0a, P0b, -⟩ := id P0
  obtain ⟨Xf72a, Xf72b, -⟩ := id Xf72
  go_wp2_with fail
  clear P0a P0b
  clear Xf72a Xf72b
  refine (markIntS_std _ _ _ _ _ _ g92 m0 (by omega) (by omega)).mono ?_
  rintro e w13 ⟨rfl, g92', kp⟩
  replace g61 := g61.keep kp (by omega)
  replace P0 := P0.keep kp (by omega)
  replace Xf72 := Xf72.keep kp (by omega)
  have z := kp.size
  replace B := B.trans (kp.below (by omega) B.size)
  clear kp g92
  have g92 := g92'; clear g92'
  obtain ⟨P0a, P0b, -⟩ := id P0
  obtain ⟨Xf72a, Xf72b, -⟩ := id Xf72
  go_wp2_with fail
  clear P0a P0b
  clear Xf72a Xf72b
  refine (heldIntS_std _ ((placesF x0 x1).length) _ _ g92.in_ m0 (by omega) (by omega)).mono ?_
  rintro e w14 ⟨rfl, b⟩
  replace g61 := g61.grow b
  replace g92 := g92.grow b
  replace P0 := P0.below b
  replace Xf72 := Xf72.below b
  have z := b.size
  replace B := B.trans (b.mono B.size)
  clear b
  obtain ⟨P0a, P0b, -⟩ := id P0
  obtain ⟨Xf72a, Xf72b, -⟩ := id Xf72
  go_wp2_with fail
  clear P0a P0b
  clear Xf72a Xf72b
  refine (toLeague_std _ x0 _ (h0.below B) n0).mono ?_
  rintro e w15 ⟨u191, rfl, f191, b⟩
  replace g61 := g61.grow b
  replace g92 := g92.grow b
  replace P0 := P0.below b
  replace Xf72 := Xf72.below b
  have z := b.size
  replace B := B.trans (b.mono B.size)
  clear b
  obtain ⟨P0a, P0b, -⟩ := id P0
  obtain ⟨Xf72a, Xf72b, -⟩ := id Xf72
  go_wp2_with fail
  clear P0a P0b
  clear Xf72a Xf72b
  refine (implPlacesIn_std _ x0 x1 _ f191.in_ n0 n1).mono ?_
  rintro e w16 ⟨r205, rfl, g205, b⟩
  replace g61 := g61.grow b
  replace g92 := g92.grow b
  replace f191 := f191.grow b
  replace P0 := P0.below b
  replace Xf72 := Xf72.below b
  have z := b.size
  replace B := B.trans (b.mono B.size)
  clear b
  clear f191
  obtain ⟨P0a, P0b, -⟩ := id P0
  obtain ⟨Xf72a, Xf72b, -⟩ := id Xf72
  go_wp2_with fail
  clear P0a P0b
  clear Xf72a Xf72b
  refine (eqIntS_std _ _ _ _ g205.in_ g61.in_ m0).mono ?_
  rintro e w17 ⟨rfl, b⟩
  replace g61 := g61.grow b
  replace g92 := g92.grow b
  replace g205 := g205.grow b
  replace P0 := P0.below b
  replace Xf72 := Xf72.below b
  have z := b.size
  replace B := B.trans (b.mono B.size)
  clear b
  obtain ⟨P0a, P0b, -⟩ := id P0
  obtain ⟨Xf72a, Xf72b, -⟩ := id Xf72
  go_wp2_with fail
  clear P0a P0b
  clear Xf72a Xf72b
  refine (heldIntS_std _ ((placesF x0 x1).length) _ _ g92.in_ m0 (by omega) (by omega)).mono ?_
  rintro e w18 ⟨rfl, b⟩
  replace g61 := g61.grow b
  replace g92 := g92.grow b
  replace g205 := g205.grow b
  replace P0 := P0.below b
  replace Xf72 := Xf72.below b
  have z := b.size
  replace B := B.trans (b.mono B.size)
  clear b
  go_wp2
  go_ret
  exact ⟨rfl, B⟩
end Go.Proofs.Ytaednfoabklnmaa
