/- The walks of the exact laws over slices (corrections). -/
import Derived.Test.YtaednfoabklnmaaRepl
namespace Go.Proofs.Ytaednfoabklnmaa
open Go.ChangeShapes Go.WideShapes Go.ChangeAt Go.RowKit

set_option maxHeartbeats 2000000 in
set_option maxRecDepth 100000 in
theorem lawFnExactReplaceResult (v0 : Value) (x0 : LeagueV) (x1 : Int) (x2 : Int) (x3 : Int) (w : World) (h0 : InL w v0 x0) (_n1 : (Lit.int .i64 x1).wf = true) (_n2 : (Lit.int .i64 x2).wf = true) (_n3 : (Lit.int .i64 x3).wf = true) :
    Calls Try.prog 3 #[v0, .int .i64 x1, .int .i64 x2, .int .i64 x3] w fun e w' => e = .returned (.bool true) ∧ Below w.heap.size w w' := by
  have n1 := _n1
  have n2 := _n2
  have n3 := _n3
  have H0 := Lib.hid h0
  obtain ⟨A0, c0, rfl, hc0, hm0, -⟩ := h0
  have h0 := H0.out; clear H0; unfold maxLen at hm0
  by_cases l0 : ((x0.results.length : Nat) : Int) ≤ (1048576 : Int)
  case neg =>
    have B := Below.refl w.heap.size w
    have hal : Below w.heap.size w (w.alloc (.cells #[.int .i64 x0.clubs, .slice A0 x0.results.length c0] 24)) := (Below.refl _ w).alloc (Nat.le_refl _) _
    replace B := Lib.hid (B.trans (hal.mono B.size))
    have P0 : Hid (Bx (w.alloc (.cells #[.int .i64 x0.clubs, .slice A0 x0.results.length c0] 24)) w.heap.size (.int .i64 x0.clubs) (.slice A0 x0.results.length c0)) := ⟨by simp, by simp, by simp⟩
    clear hal
    go_enter Try.func3, Try.ntmps3
    go_wp2_with fail
    generalize (w.alloc (.cells #[.int .i64 x0.clubs, .slice A0 x0.results.length c0] 24)) = w1 at *
    replace B := B.out
    replace P0 := P0.out
    have zP0 := P0.2.2
    refine (szLeague_any _ x0 _ _ (h0.below B) (by omega) (by omega)).mono ?_
    rintro e w2 ⟨rfl, b⟩
    replace P0 := P0.below b
    have z := b.size
    replace B := B.trans (b.mono B.size)
    clear b
    rw [szQ_neg (by omega)]
    go_wp2
    go_ret
    exact ⟨rfl, B⟩
  have n0 : x0.results.length ≤ 1048576 := by omega
  have m0 : (replF x0 x1 x2 x3).results.length ≤ 1048576 := replF_len n0
  have B := Below.refl w.heap.size w
  have hal : Below w.heap.size w (w.alloc (.cells #[.int .i64 x0.clubs, .slice A0 x0.results.length c0] 24)) := (Below.refl _ w).alloc (Nat.le_refl _) _
  replace B := Lib.hid (B.trans (hal.mono B.size))
  have P0 : Hid (Bx (w.alloc (.cells #[.int .i64 x0.clubs, .slice A0 x0.results.length c0] 24)) w.heap.size (.int .i64 x0.clubs) (.slice A0 x0.results.length c0)) := ⟨by simp, by simp, by simp⟩
  clear hal
  go_enter Try.func3, Try.ntmps3
  go_wp2_with fail
  generalize (w.alloc (.cells #[.int .i64 x0.clubs, .slice A0 x0.results.length c0] 24)) = w1 at *
  replace B := B.out
  replace P0 := P0.out
  have zP0 := P0.2.2
  refine (szLeague_any _ x0 _ _ (h0.below B) (by omega) (by omega)).mono ?_
  rintro e w2 ⟨rfl, b⟩
  replace P0 := P0.below b
  have z := b.size
  replace B := B.trans (b.mono B.size)
  clear b
  rw [szQ_pos (by omega)]
  obtain ⟨P0a, P0b, -⟩ := id P0
  go_wp2_with fail
  clear P0a P0b
  refine (toLeague_std _ x0 _ (h0.below B) n0).mono ?_
  rintro e w3 ⟨u54, rfl, f54, b⟩
  replace P0 := P0.below b
  have z := b.size
  replace B := B.trans (b.mono B.size)
  clear b
  obtain ⟨P0a, P0b, -⟩ := id P0
  go_wp2_with fail
  clear P0a P0b
  refine (specReplaceResult_std _ x0 x1 x2 x3 _ f54.in_ n0 n1 n2 n3).mono ?_
  rintro e w4 ⟨r63, rfl, g63, b⟩
  replace f54 := f54.grow b
  replace P0 := P0.below b
  have z := b.size
  replace B := B.trans (b.mono B.size)
  clear b
  obtain ⟨Ag63, cg63, rfl⟩ := g63.form
  have hal : Below w4.heap.size w4 (w4.alloc (.cells #[.int .i64 (replF x0 x1 x2 x3).clubs, .slice Ag63 (replF x0 x1 x2 x3).results.length cg63] 28)) := (Below.refl _ w4).alloc (Nat.le_refl _) _
  obtain ⟨P0a, P0b, P0l⟩ := id P0
  have P0n : ¬ w.heap.size = w4.heap.size := by omega
  replace f54 := Lib.hid (f54.grow hal)
  replace g63 := Lib.hid (g63.grow hal)
  replace P0 := Lib.hid (P0.below hal)
  replace B := Lib.hid (B.trans (hal.mono B.size))
  have Xg63 : Hid (Bx (w4.alloc (.cells #[.int .i64 (replF x0 x1 x2 x3).clubs, .slice Ag63 (replF x0 x1 x2 x3).results.length cg63] 28)) w4.heap.size (.int .i64 (replF x0 x1 x2 x3).clubs) (.slice Ag63 (replF x0 x1 x2 x3).results.length cg63)) := ⟨by simp, by simp, by simp⟩
  clear hal
  clear f54
  go_wp2_with fail
  generalize (w4.alloc (.cells #[.int .i64 (replF x0 x1 x2 x3).clubs, .slice Ag63 (replF x0 x1 x2 x3).results.length cg63] 28)) = w5 at *
  try clear P0a P0b P0l P0n
  replace g63 := g63.out
  replace P0 := P0.out
  replace B := B.out
  replace Xg63 := Xg63.out
  generalize w4.heap.size = pXg63 at *
  have zpXg63 := Xg63.2.2
  refine (toLeague_std _ x0 _ (h0.below B) n0).mono ?_
  rintro e w6 ⟨u84, rfl, f84, b⟩
  replace g63 := g63.grow b
  replace P0 := P0.below b
  replace Xg63 := Xg63.below b
  have z := b.size
  replace B := B.trans (b.mono B.size)
  clear b
  obtain ⟨Af84, cf84, rfl⟩ := f84.form
  have hal : Below w6.heap.size w6 (w6.alloc (.cells #[.int .i64 x0.clubs, .slice Af84 x0.results.length cf84] 28)) := (Below.refl _ w6).alloc (Nat.le_refl _) _
  obtain ⟨P0a, P0b, P0l⟩ := id P0
  have P0n : ¬ w.heap.size = w6.heap.size := by omega
  obtain ⟨Xg63a, Xg63b, Xg63l⟩ := id Xg63
  have Xg63n : ¬ pXg63 = w6.heap.size := by omega
  replace g63 := Lib.hid (g63.grow hal)
  replace f84 := Lib.hid (f84.grow hal)
  replace P0 := Lib.hid (P0.below hal)
  replace Xg63 := Lib.hid (Xg63.below hal)
  replace B := Lib.hid (B.trans (hal.mono B.size))
  have Xf84 : Hid (Bx (w6.alloc (.cells #[.int .i64 x0.clubs, .slice Af84 x0.results.length cf84] 28)) w6.heap.size (.int .i64 x0.clubs) (.slice Af84 x0.results.length cf84)) := ⟨by simp, by simp, by simp⟩
  clear hal
  go_wp2_with fail
  generalize (w6.alloc (.cells #[.int .i64 x0.clubs, .slice Af84 x0.results.length cf84] 28)) = w7 at *
  try clear P0a P0b P0l P0n Xg63a Xg63b Xg63l Xg63n
  replace g63 := g63.out
  replace f84 := f84.out
  replace P0 := P0.out
  replace Xg63 := Xg63.out
  replace B := B.out
  replace Xf84 := Xf84.out
  generalize w6.heap.size = pXf84 at *
  have zpXf84 := Xf84.2.2
  refine (implReplaceResult_std _ x0 x1 x2 x3 _ f84.in_ n0 n1 n2 n3).mono ?_
  rintro e w8 ⟨r114, rfl, g114, b⟩
  replace g63 := g63.grow b
  replace f84 := f84.grow b
  replace P0 := P0.below b
  replace Xg63 := Xg63.below b
  replace Xf84 := Xf84.below b
  have z := b.size
  replace B := B.trans (b.mono B.size)
  clear b
  obtain ⟨Ag114, cg114, rfl⟩ := g114.form
  have hal : Below w8.heap.size w8 (w8.alloc (.cells #[.int .i64 (replF x0 x1 x2 x3).clubs, .slice Ag114 (replF x0 x1 x2 x3).results.length cg114] 28)) := (Below.refl _ w8).alloc (Nat.le_refl _) _
  obtain ⟨P0a, P0b, P0l⟩ := id P0
  have P0n : ¬ w.heap.size = w8.heap.size := by omega
  obtain ⟨Xg63a, Xg63b, Xg63l⟩ := id Xg63
  have Xg63n : ¬ pXg63 = w8.heap.size := by omega
  obtain ⟨Xf84a, Xf84b, Xf84l⟩ := id Xf84
  have Xf84n : ¬ pXf84 = w8.heap.size := by omega
  replace g63 := Lib.hid (g63.grow hal)
  replace f84 := Lib.hid (f84.grow hal)
  replace g114 := Lib.hid (g114.grow hal)
  replace P0 := Lib.hid (P0.below hal)
  replace Xg63 := Lib.hid (Xg63.below hal)
  replace Xf84 := Lib.hid (Xf84.below hal)
  replace B := Lib.hid (B.trans (hal.mono B.size))
  have Xg114 : Hid (Bx (w8.alloc (.cells #[.int .i64 (replF x0 x1 x2 x3).clubs, .slice Ag114 (replF x0 x1 x2 x3).results.length cg114] 28)) w8.heap.size (.int .i64 (replF x0 x1 x2 x3).clubs) (.slice Ag114 (replF x0 x1 x2 x3).results.length cg114)) := ⟨by simp, by simp, by simp⟩
  clear hal
  go_wp2_with fail
  generalize (w8.alloc (.cells #[.int .i64 (replF x0 x1 x2 x3).clubs, .slice Ag114 (replF x0 x1 x2 x3).results.length cg114] 28)) = w9 at *
  try clear P0a P0b P0l P0n Xg63a Xg63b Xg63l Xg63n Xf84a Xf84b Xf84l Xf84n
  replace g63 := g63.out
  replace f84 := f84.out
  replace g114 := g114.out
  replace P0 := P0.out
  replace Xg63 := Xg63.out
  replace Xf84 := Xf84.out
  replace B := B.out
  replace Xg114 := Xg114.out
  generalize w8.heap.size = pXg114 at *
  have zpXg114 := Xg114.2.2
  refine (eqLeague_std _ _ _ _ g114.in_ g63.in_ m0).mono ?_
  rintro e w10 ⟨rfl, b⟩
  replace g63 := g63.grow b
  replace f84 := f84.grow b
  replace g114 := g114.grow b
  replace P0 := P0.below b
  replace Xg63 := Xg63.below b
  replace Xf84 := Xf84.below b
  replace Xg114 := Xg114.below b
  have z := b.size
  replace B := B.trans (b.mono B.size)
  clear b
  obtain ⟨P0a, P0b, -⟩ := id P0
  obtain ⟨Xf84a, Xf84b, -⟩ := id Xf84
  go_wp2_with fail
  go_region_held3 (fun W => W.cell? ⟨w.heap.size, 0, none⟩ = some (.int .i64 x0.clubs) ∧ W.cell? ⟨w.heap.size, 1, none⟩ = some (.slice A0 x0.results.length c0) ∧ W.cell? ⟨pXf84, 0, none⟩ = some (.int .i64 x0.clubs) ∧ W.cell? ⟨pXf84, 1, none⟩ = some (.slice Af84 x0.results.length cf84)) (first | exact ⟨P0a, P0b, Xf84a, Xf84b⟩) (first
    | (go_at_call 16; refine (toLeague_std _ x0 _ (h0.below (below_drewL B)) n0).mono ?_; rintro e w11 ⟨ut180, rfl, t180, b⟩; replace g63 := g63.drew.grow b; replace f84 := f84.drew.grow b; replace g114 := g114.drew.grow b; replace P0 := P0.drew.below b; replace Xg63 := Xg63.drew.below b; replace Xf84 := Xf84.drew.below b; replace Xg114 := Xg114.drew.below b; have z : w10.heap.size ≤ w11.heap.size := b.size; replace B := below_drewL B; replace B := B.trans (b.mono B.size); clear b P0a P0b Xf84a Xf84b; obtain ⟨P0a, P0b, -⟩ := id P0; obtain ⟨Xf84a, Xf84b, -⟩ := id Xf84)
    | (go_at_call 18; refine (eqLeague_std _ _ _ _ f84.in_ t180.in_ n0).mono ?_; rintro e w12 ⟨rfl, b⟩; replace g63 := g63.grow b; replace f84 := f84.grow b; replace g114 := g114.grow b; replace t180 := t180.grow b; replace P0 := P0.below b; replace Xg63 := Xg63.below b; replace Xf84 := Xf84.below b; replace Xg114 := Xg114.below b; have z : w11.heap.size ≤ w12.heap.size := b.size; replace B := B.trans (b.mono B.size); clear b P0a P0b Xf84a Xf84b; obtain ⟨P0a, P0b, -⟩ := id P0; obtain ⟨Xf84a, Xf84b, -⟩ := id Xf84))
  clear t180 P0a P0b Xf84a Xf84b
  obtain ⟨P0a, P0b, -⟩ := id P0
  obtain ⟨Xg63a, Xg63b, -⟩ := id Xg63
  obtain ⟨Xf84a, Xf84b, -⟩ := id Xf84
  obtain ⟨Xg114a, Xg114b, -⟩ := id Xg114
  go_wp2_with fail
  clear P0a P0b
  clear Xg63a Xg63b
  clear Xf84a Xf84b
  clear Xg114a Xg114b
  refine (markLeague_std _ _ _ _ _ _ f84 n0 (by omega) (by omega)).mono ?_
  rintro e w13 ⟨rfl, f84', kp⟩
  replace g63 := g63.keep kp (by omega)
  replace g114 := g114.keep kp (by omega)
  replace P0 := P0.keep kp (by omega)
  replace Xg63 := Xg63.keep kp (by omega)
  replace Xf84 := Xf84.keep kp (by omega)
  replace Xg114 := Xg114.keep kp (by omega)
  have z := kp.size
  replace B := B.trans (kp.below (by omega) B.size)
  clear kp f84
  have f84 := f84'; clear f84'
  clear f84
  obtain ⟨P0a, P0b, -⟩ := id P0
  obtain ⟨Xg63a, Xg63b, -⟩ := id Xg63
  obtain ⟨Xf84a, Xf84b, -⟩ := id Xf84
  obtain ⟨Xg114a, Xg114b, -⟩ := id Xg114
  go_wp2_with fail
  clear P0a P0b
  clear Xg63a Xg63b
  clear Xf84a Xf84b
  clear Xg114a Xg114b
  refine (eqLeague_std _ _ _ _ g114.in_ g63.in_ m0).mono ?_
  rintro e w14 ⟨rfl, b⟩
  replace g63 := g63.grow b
  replace g114 := g114.grow b
  replace P0 := P0.below b
  replace Xg63 := Xg63.below b
  replace Xf84 := Xf84.below b
  replace Xg114 := Xg114.below b
  have z := b.size
  replace B := B.trans (b.mono B.size)
  clear b
  obtain ⟨P0a, P0b, -⟩ := id P0
  obtain ⟨Xg63a, Xg63b, -⟩ := id Xg63
  obtain ⟨Xf84a, Xf84b, -⟩ := id Xf84
  obtain ⟨Xg114a, Xg114b, -⟩ := id Xg114
  go_wp2_with fail
  clear P0a P0b
  clear Xg63a Xg63b
  clear Xf84a Xf84b
  clear Xg114a Xg114b
  refine (markLeague_std _ _ _ _ _ _ g114 m0 (by omega) (by omega)).mono ?_
  rintro e w15 ⟨rfl, g114', kp⟩
  replace g63 := g63.keep kp (by omega)
  replace P0 := P0.keep kp (by omega)
  replace Xg63 := Xg63.keep kp (by omega)
  replace Xf84 := Xf84.keep kp (by omega)
  replace Xg114 := Xg114.keep kp (by omega)
  have z := kp.size
  replace B := B.trans (kp.below (by omega) B.size)
  clear kp g114
  have g114 := g114'; clear g114'
  obtain ⟨P0a, P0b, -⟩ := id P0
  obtain ⟨Xg63a, Xg63b, -⟩ := id Xg63
  obtain ⟨Xf84a, Xf84b, -⟩ := id Xf84
  obtain ⟨Xg114a, Xg114b, -⟩ := id Xg114
  go_wp2_with fail
  clear P0a P0b
  clear Xg63a Xg63b
  clear Xf84a Xf84b
  clear Xg114a Xg114b
  refine (heldLeague_std _ ((replF x0 x1 x2 x3)) _ _ g114.in_ m0 (by omega) (by omega)).mono ?_
  rintro e w16 ⟨rfl, b⟩
  replace g63 := g63.grow b
  replace g114 := g114.grow b
  replace P0 := P0.below b
  replace Xg63 := Xg63.below b
  replace Xf84 := Xf84.below b
  replace Xg114 := Xg114.below b
  have z := b.size
  replace B := B.trans (b.mono B.size)
  clear b
  obtain ⟨P0a, P0b, -⟩ := id P0
  obtain ⟨Xg63a, Xg63b, -⟩ := id Xg63
  obtain ⟨Xf84a, Xf84b, -⟩ := id Xf84
  obtain ⟨Xg114a, Xg114b, -⟩ := id Xg114
  go_wp2_with fail
  clear P0a P0b
  clear Xg63a Xg63b
  clear Xf84a Xf84b
  clear Xg114a Xg114b
  refine (toLeague_std _ x0 _ (h0.below B) n0).mono ?_
  rintro e w17 ⟨u266, rfl, f266, b⟩
  replace g63 := g63.grow b
  replace g114 := g114.grow b
  replace P0 := P0.below b
  replace Xg63 := Xg63.below b
  replace Xf84 := Xf84.below b
  replace Xg114 := Xg114.below b
  have z := b.size
  replace B := B.trans (b.mono B.size)
  clear b
  obtain ⟨P0a, P0b, -⟩ := id P0
  obtain ⟨Xg63a, Xg63b, -⟩ := id Xg63
  obtain ⟨Xf84a, Xf84b, -⟩ := id Xf84
  obtain ⟨Xg114a, Xg114b, -⟩ := id Xg114
  go_wp2_with fail
  clear P0a P0b
  clear Xg63a Xg63b
  clear Xf84a Xf84b
  clear Xg114a Xg114b
  refine (implReplaceResult_std _ x0 x1 x2 x3 _ f266.in_ n0 n1 n2 n3).mono ?_
  rintro e w18 ⟨r286, rfl, g286, b⟩
  replace g63 := g63.grow b
  replace g114 := g114.grow b
  replace f266 := f266.grow b
  replace P0 := P0.below b
  replace Xg63 := Xg63.below b
  replace Xf84 := Xf84.below b
  replace Xg114 := Xg114.below b
  have z := b.size
  replace B := B.trans (b.mono B.size)
  clear b
  obtain ⟨Ag286, cg286, rfl⟩ := g286.form
  have hal : Below w18.heap.size w18 (w18.alloc (.cells #[.int .i64 (replF x0 x1 x2 x3).clubs, .slice Ag286 (replF x0 x1 x2 x3).results.length cg286] 28)) := (Below.refl _ w18).alloc (Nat.le_refl _) _
  obtain ⟨P0a, P0b, P0l⟩ := id P0
  have P0n : ¬ w.heap.size = w18.heap.size := by omega
  obtain ⟨Xg63a, Xg63b, Xg63l⟩ := id Xg63
  have Xg63n : ¬ pXg63 = w18.heap.size := by omega
  obtain ⟨Xf84a, Xf84b, Xf84l⟩ := id Xf84
  have Xf84n : ¬ pXf84 = w18.heap.size := by omega
  obtain ⟨Xg114a, Xg114b, Xg114l⟩ := id Xg114
  have Xg114n : ¬ pXg114 = w18.heap.size := by omega
  replace g63 := Lib.hid (g63.grow hal)
  replace g114 := Lib.hid (g114.grow hal)
  replace f266 := Lib.hid (f266.grow hal)
  replace g286 := Lib.hid (g286.grow hal)
  replace P0 := Lib.hid (P0.below hal)
  replace Xg63 := Lib.hid (Xg63.below hal)
  replace Xf84 := Lib.hid (Xf84.below hal)
  replace Xg114 := Lib.hid (Xg114.below hal)
  replace B := Lib.hid (B.trans (hal.mono B.size))
  have Xg286 : Hid (Bx (w18.alloc (.cells #[.int .i64 (replF x0 x1 x2 x3).clubs, .slice Ag286 (replF x0 x1 x2 x3).results.length cg286] 28)) w18.heap.size (.int .i64 (replF x0 x1 x2 x3).clubs) (.slice Ag286 (replF x0 x1 x2 x3).results.length cg286)) := ⟨by simp, by simp, by simp⟩
  clear hal
  clear f266
  go_wp2_with fail
  generalize (w18.alloc (.cells #[.int .i64 (replF x0 x1 x2 x3).clubs, .slice Ag286 (replF x0 x1 x2 x3).results.length cg286] 28)) = w19 at *
  try clear P0a P0b P0l P0n Xg63a Xg63b Xg63l Xg63n Xf84a Xf84b Xf84l Xf84n Xg114a Xg114b Xg114l Xg114n
  replace g63 := g63.out
  replace g114 := g114.out
  replace g286 := g286.out
  replace P0 := P0.out
  replace Xg63 := Xg63.out
  replace Xf84 := Xf84.out
  replace Xg114 := Xg114.out
  replace B := B.out
  replace Xg286 := Xg286.out
  generalize w18.heap.size = pXg286 at *
  have zpXg286 := Xg286.2.2
  refine (eqLeague_std _ _ _ _ g286.in_ g63.in_ m0).mono ?_
  rintro e w20 ⟨rfl, b⟩
  replace g63 := g63.grow b
  replace g114 := g114.grow b
  replace g286 := g286.grow b
  replace P0 := P0.below b
  replace Xg63 := Xg63.below b
  replace Xf84 := Xf84.below b
  replace Xg114 := Xg114.below b
  replace Xg286 := Xg286.below b
  have z := b.size
  replace B := B.trans (b.mono B.size)
  clear b
  obtain ⟨P0a, P0b, -⟩ := id P0
  obtain ⟨Xg63a, Xg63b, -⟩ := id Xg63
  obtain ⟨Xf84a, Xf84b, -⟩ := id Xf84
  obtain ⟨Xg114a, Xg114b, -⟩ := id Xg114
  obtain ⟨Xg286a, Xg286b, -⟩ := id Xg286
  go_wp2_with fail
  clear P0a P0b
  clear Xg63a Xg63b
  clear Xf84a Xf84b
  clear Xg114a Xg114b
  clear Xg286a Xg286b
  refine (heldLeague_std _ ((replF x0 x1 x2 x3)) _ _ g114.in_ m0 (by omega) (by omega)).mono ?_
  rintro e w21 ⟨rfl, b⟩
  replace g63 := g63.grow b
  replace g114 := g114.grow b
  replace g286 := g286.grow b
  replace P0 := P0.below b
  replace Xg63 := Xg63.below b
  replace Xf84 := Xf84.below b
  replace Xg114 := Xg114.below b
  replace Xg286 := Xg286.below b
  have z := b.size
  replace B := B.trans (b.mono B.size)
  clear b
  go_wp2
  go_ret
  exact ⟨rfl, B⟩
end Go.Proofs.Ytaednfoabklnmaa
