/- The walks of the exact laws over slices (corrections). -/
import Derived.Test.YthfllppknngfpaaRe
namespace Go.Proofs.Ythfllppknngfpaa
open Go.ChangeShapes Go.WideShapes Go.ChangeAt Go.RowKit

set_option maxHeartbeats 2000000 in
set_option maxRecDepth 100000 in
theorem lawFnExactRemoveResult (v0 : Value) (x0 : LeagueV) (x1 : Int) (w : World) (h0 : InL w v0 x0) (_n1 : (Lit.int .i64 x1).wf = true) :
    Calls Try.prog 3 #[v0, .int .i64 x1] w fun e w' => e = .returned (.bool true) ∧ Below w.heap.size w w' := by
  have n1 := _n1
  have H0 := Lib.hid h0
  obtain ⟨A0, c0, rfl, hc0, hm0, -⟩ := h0
  have h0 := H0.out; clear H0; unfold maxLen at hm0
  by_cases l0 : ((x0.results.length : Nat) : Int) ≤ (1048576 : Int)
  case neg =>
    have B := Below.refl w.heap.size w
    have hal : Below w.heap.size w (w.alloc (.cells #[.int .i64 x0.clubs, .slice A0 x0.results.length c0] 24)) := (Below.refl _ w).alloc (Nat.le_refl _) _
    replace B := Lib.hid (B.trans (hal.mono B.size))
    have P0 : Hid (Bx (w.alloc (.cells #[.int .i64 x0.clubs, .slice A0 x0.results.length c0] 24)) w.heap.size (.int .i64 x0.clubs) (.slice A0 x0.results.length c0)) := ⟨by simp, by simp, by simp⟩
    clear hal
    go_enter Try.func3, Try.ntmps3
    go_wp2_with fail
    generalize (w.alloc (.cells #[.int .i64 x0.clubs, .slice A0 x0.results.length c0] 24)) = w1 at *
    replace B := B.out
    replace P0 := P0.out
    have zP0 := P0.2.2
    refine (szLeague_any _ x0 _ _ (h0.below B) (by omega) (by omega)).mono ?_
    rintro e w2 ⟨rfl, b⟩
    replace P0 := P0.below b
    have z := b.size
    replace B := B.trans (b.mono B.size)
    clear b
    rw [szQ_neg (by omega)]
    go_wp2
    go_ret
    exact ⟨rfl, B⟩
  have n0 : x0.results.length ≤ 1048576 := by omega
  have m0 : (removeF x0 x1).results.length ≤ 1048576 := removeF_len n0
  have B := Below.refl w.heap.size w
  have hal : Below w.heap.size w (w.alloc (.cells #[.int .i64 x0.clubs, .slice A0 x0.results.length c0] 24)) := (Below.refl _ w).alloc (Nat.le_refl _) _
  replace B := Lib.hid (B.trans (hal.mono B.size))
  have P0 : Hid (Bx (w.alloc (.cells #[.int .i64 x0.clubs, .slice A0 x0.results.length c0] 24)) w.heap.size (.int .i64 x0.clubs) (.slice A0 x0.results.length c0)) := ⟨by simp, by simp, by simp⟩
  clear hal
  go_enter Try.func3, Try.ntmps3
  go_wp2_with fail
  generalize (w.alloc (.cells #[.int .i64 x0.clubs, .slice A0 x0.results.length c0] 24)) = w1 at *
  replace B := B.out
  replace P0 := P0.out
  have zP0 := P0.2.2
  refine (szLeague_any _ x0 _ _ (h0.below B) (by omega) (by omega)).mono ?_
  rintro e w2 ⟨rfl, b⟩
  replace P0 := P0.below b
  have z := b.size
  replace B := B.trans (b.mono B.size)
  clear b
  rw [szQ_pos (by omega)]
  obtain ⟨P0a, P0b, -⟩ := id P0
  go_wp2_with fail
  clear P0a P0b
  refine (toLeague_std _ x0 _ (h0.below B) n0).mono ?_
  rintro e w3 ⟨u52, rfl, f52, b⟩
  replace P0 := P0.below b
  have z := b.size
  replace B := B.trans (b.mono B.size)
  clear b
  obtain ⟨P0a, P0b, -⟩ := id P0
  go_wp2_with fail
  clear P0a P0b
  refine (specRemoveResult_std _ x0 x1 _ f52.in_ n0 n1).mono ?_
  rintro e w4 ⟨r61, rfl, g61, b⟩
  replace f52 := f52.grow b
  replace P0 := P0.below b
  have z := b.size
  replace B := B.trans (b.mono B.size)
  clear b
  obtain ⟨Ag61, cg61, rfl⟩ := g61.form
  have hal : Below w4.heap.size w4 (w4.alloc (.cells #[.int .i64 (removeF x0 x1).clubs, .slice Ag61 (removeF x0 x1).results.length cg61] 28)) := (Below.refl _ w4).alloc (Nat.le_refl _) _
  obtain ⟨P0a, P0b, P0l⟩ := id P0
  have P0n : ¬ w.heap.size = w4.heap.size := by omega
  replace f52 := Lib.hid (f52.grow hal)
  replace g61 := Lib.hid (g61.grow hal)
  replace P0 := Lib.hid (P0.below hal)
  replace B := Lib.hid (B.trans (hal.mono B.size))
  have Xg61 : Hid (Bx (w4.alloc (.cells #[.int .i64 (removeF x0 x1).clubs, .slice Ag61 (removeF x0 x1).results.length cg61] 28)) w4.heap.size (.int .i64 (removeF x0 x1).clubs) (.slice Ag61 (removeF x0 x1).results.length cg61)) := ⟨by simp, by simp, by simp⟩
  clear hal
  clear f52
  go_wp2_with fail
  generalize (w4.alloc (.cells #[.int .i64 (removeF x0 x1).clubs, .slice Ag61 (removeF x0 x1).results.length cg61] 28)) = w5 at *
  try clear P0a P0b P0l P0n
  replace g61 := g61.out
  replace P0 := P0.out
  replace B := B.out
  replace Xg61 := Xg61.out
  generalize w4.heap.size = pXg61 at *
  have zpXg61 := Xg61.2.2
  refine (toLeague_std _ x0 _ (h0.below B) n0).mono ?_
  rintro e w6 ⟨u82, rfl, f82, b⟩
  replace g61 := g61.grow b
  replace P0 := P0.below b
  replace Xg61 := Xg61.below b
  have z := b.size
  replace B := B.trans (b.mono B.size)
  clear b
  obtain ⟨Af82, cf82, rfl⟩ := f82.form
  have hal : Below w6.heap.size w6 (w6.alloc (.cells #[.int .i64 x0.clubs, .slice Af82 x0.results.length cf82] 28)) := (Below.refl _ w6).alloc (Nat.le_refl _) _
  obtain ⟨P0a, P0b, P0l⟩ := id P0
  have P0n : ¬ w.heap.size = w6.heap.size := by omega
  obtain ⟨Xg61a, Xg61b, Xg61l⟩ := id Xg61
  have Xg61n : ¬ pXg61 = w6.heap.size := by omega
  replace g61 := Lib.hid (g61.grow hal)
  replace f82 := Lib.hid (f82.grow hal)
  replace P0 := Lib.hid (P0.below hal)
  replace Xg61 := Lib.hid (Xg61.below hal)
  replace B := Lib.hid (B.trans (hal.mono B.size))
  have Xf82 : Hid (Bx (w6.alloc (.cells #[.int .i64 x0.clubs, .slice Af82 x0.results.length cf82] 28)) w6.heap.size (.int .i64 x0.clubs) (.slice Af82 x0.results.length cf82)) := ⟨by simp, by simp, by simp⟩
  clear hal
  go_wp2_with fail
  generalize (w6.alloc (.cells #[.int .i64 x0.clubs, .slice Af82 x0.results.length cf82] 28)) = w7 at *
  try clear P0a P0b P0l P0n Xg61a Xg61b Xg61l Xg61n
  replace g61 := g61.out
  replace f82 := f82.out
  replace P0 := P0.out
  replace Xg61 := Xg61.out
  replace B := B.out
  replace Xf82 := Xf82.out
  generalize w6.heap.size = pXf82 at *
  have zpXf82 := Xf82.2.2
  refine (implRemoveResult_std _ x0 x1 _ f82.in_ n0 n1).mono ?_
  rintro e w8 ⟨r112, rfl, g112, b⟩
  replace g61 := g61.grow b
  replace f82 := f82.grow b
  replace P0 := P0.below b
  replace Xg61 := Xg61.below b
  replace Xf82 := Xf82.below b
  have z := b.size
  replace B := B.trans (b.mono B.size)
  clear b
  obtain ⟨Ag112, cg112, rfl⟩ := g112.form
  have hal : Below w8.heap.size w8 (w8.alloc (.cells #[.int .i64 (removeF x0 x1).clubs, .slice Ag112 (removeF x0 x1).results.length cg112] 28)) := (Below.refl _ w8).alloc (Nat.le_refl _) _
  obtain ⟨P0a, P0b, P0l⟩ := id P0
  have P0n : ¬ w.heap.size = w8.heap.size := by omega
  obtain ⟨Xg61a, Xg61b, Xg61l⟩ := id Xg61
  have Xg61n : ¬ pXg61 = w8.heap.size := by omega
  obtain ⟨Xf82a, Xf82b, Xf82l⟩ := id Xf82
  have Xf82n : ¬ pXf82 = w8.heap.size := by omega
  replace g61 := Lib.hid (g61.grow hal)
  replace f82 := Lib.hid (f82.grow hal)
  replace g112 := Lib.hid (g112.grow hal)
  replace P0 := Lib.hid (P0.below hal)
  replace Xg61 := Lib.hid (Xg61.below hal)
  replace Xf82 := Lib.hid (Xf82.below hal)
  replace B := Lib.hid (B.trans (hal.mono B.size))
  have Xg112 : Hid (Bx (w8.alloc (.cells #[.int .i64 (removeF x0 x1).clubs, .slice Ag112 (removeF x0 x1).results.length cg112] 28)) w8.heap.size (.int .i64 (removeF x0 x1).clubs) (.slice Ag112 (removeF x0 x1).results.length cg112)) := ⟨by simp, by simp, by simp⟩
  clear hal
  go_wp2_with fail
  generalize (w8.alloc (.cells #[.int .i64 (removeF x0 x1).clubs, .slice Ag112 (removeF x0 x1).results.length cg112] 28)) = w9 at *
  try clear P0a P0b P0l P0n Xg61a Xg61b Xg61l Xg61n Xf82a Xf82b Xf82l Xf82n
  replace g61 := g61.out
  replace f82 := f82.out
  replace g112 := g112.out
  replace P0 := P0.out
  replace Xg61 := Xg61.out
  replace Xf82 := Xf82.out
  replace B := B.out
  replace Xg112 := Xg112.out
  generalize w8.heap.size = pXg112 at *
  have zpXg112 := Xg112.2.2
  refine (eqLeague_std _ _ _ _ g112.in_ g61.in_ m0).mono ?_
  rintro e w10 ⟨rfl, b⟩
  replace g61 := g61.grow b
  replace f82 := f82.grow b
  replace g112 := g112.grow b
  replace P0 := P0.below b
  replace Xg61 := Xg61.below b
  replace Xf82 := Xf82.below b
  replace Xg112 := Xg112.below b
  have z := b.size
  replace B := B.trans (b.mono B.size)
  clear b
  obtain ⟨P0a, P0b, -⟩ := id P0
  obtain ⟨Xf82a, Xf82b, -⟩ := id Xf82
  go_wp2_with fail
  go_region_held3 (fun W => W.cell? ⟨w.heap.size, 0, none⟩ = some (.int .i64 x0.clubs) ∧ W.cell? ⟨w.heap.size, 1, none⟩ = some (.slice A0 x0.results.length c0) ∧ W.cell? ⟨pXf82, 0, none⟩ = some (.int .i64 x0.clubs) ∧ W.cell? ⟨pXf82, 1, none⟩ = some (.slice Af82 x0.results.length cf82)) (first | exact ⟨P0a, P0b, Xf82a, Xf82b⟩) (first
    | (go_at_call 7; refine (toLeague_std _ x0 _ (h0.below (below_drewL B)) n0).mono ?_; rintro e w11 ⟨ut178, rfl, t178, b⟩; replace g61 := g61.drew.grow b; replace f82 := f82.drew.grow b; replace g112 := g112.drew.grow b; replace P0 := P0.drew.below b; replace Xg61 := Xg61.drew.below b; replace Xf82 := Xf82.drew.below b; replace Xg112 := Xg112.drew.below b; have z : w10.heap.size ≤ w11.heap.size := b.size; replace B := below_drewL B; replace B := B.trans (b.mono B.size); clear b P0a P0b Xf82a Xf82b; obtain ⟨P0a, P0b, -⟩ := id P0; obtain ⟨Xf82a, Xf82b, -⟩ := id Xf82)
    | (go_at_call 9; refine (eqLeague_std _ _ _ _ f82.in_ t178.in_ n0).mono ?_; rintro e w12 ⟨rfl, b⟩; replace g61 := g61.grow b; replace f82 := f82.grow b; replace g112 := g112.grow b; replace t178 := t178.grow b; replace P0 := P0.below b; replace Xg61 := Xg61.below b; replace Xf82 := Xf82.below b; replace Xg112 := Xg112.below b; have z : w11.heap.size ≤ w12.heap.size := b.size; replace B := B.trans (b.mono B.size); clear b P0a P0b Xf82a Xf82b; obtain ⟨P0a, P0b, -⟩ := id P0; obtain ⟨Xf82a, Xf82b, -⟩ := id Xf82))
  clear t178 P0a P0b Xf82a Xf82b
  obtain ⟨P0a, P0b, -⟩ := id P0
  obtain ⟨Xg61a, Xg61b, -⟩ := id Xg61
  obtain ⟨Xf82a, Xf82b, -⟩ := id Xf82
  obtain ⟨Xg112a, Xg112b, -⟩ := id Xg112
  go_wp2_with fail
  clear P0a P0b
  clear Xg61a Xg61b
  clear Xf82a Xf82b
  clear Xg112a Xg112b
  refine (markLeague_std _ _ _ _ _ _ f82 n0 (by omega) (by omega)).mono ?_
  rintro e w13 ⟨rfl, f82', kp⟩
  replace g61 := g61.keep kp (by omega)
  replace g112 := g112.keep kp (by omega)
  replace P0 := P0.keep kp (by omega)
  replace Xg61 := Xg61.keep kp (by omega)
  replace Xf82 := Xf82.keep kp (by omega)
  replace Xg112 := Xg112.keep kp (by omega)
  have z := kp.size
  replace B := B.trans (kp.below (by omega) B.size)
  clear kp f82
  have f82 := f82'; clear f82'
  clear f82
  obtain ⟨P0a, P0b, -⟩ := id P0
  obtain ⟨Xg61a, Xg61b, -⟩ := id Xg61
  obtain ⟨Xf82a, Xf82b, -⟩ := id Xf82
  obtain ⟨Xg112a, Xg112b, -⟩ := id Xg112
  go_wp2_with fail
  clear P0a P0b
  clear Xg61a Xg61b
  clear Xf82a Xf82b
  clear Xg112a Xg112b
  refine (eqLeague_std _ _ _ _ g112.in_ g61.in_ m0).mono ?_
  rintro e w14 ⟨rfl, b⟩
  replace g61 := g61.grow b
  replace g112 := g112.grow b
  replace P0 := P0.below b
  replace Xg61 := Xg61.below b
  replace Xf82 := Xf82.below b
  replace Xg112 := Xg112.below b
  have z := b.size
  replace B := B.trans (b.mono B.size)
  clear b
  obtain ⟨P0a, P0b, -⟩ := id P0
  obtain ⟨Xg61a, Xg61b, -⟩ := id Xg61
  obtain ⟨Xf82a, Xf82b, -⟩ := id Xf82
  obtain ⟨Xg112a, Xg112b, -⟩ := id Xg112
  go_wp2_with fail
  clear P0a P0b
  clear Xg61a Xg61b
  clear Xf82a Xf82b
  clear Xg112a Xg112b
  refine (markLeague_std _ _ _ _ _ _ g112 m0 (by omega) (by omega)).mono ?_
  rintro e w15 ⟨rfl, g112', kp⟩
  replace g61 := g61.keep kp (by omega)
  replace P0 := P0.keep kp (by omega)
  replace Xg61 := Xg61.keep kp (by omega)
  replace Xf82 := Xf82.keep kp (by omega)
  replace Xg112 := Xg112.keep kp (by omega)
  have z := kp.size
  replace B := B.trans (kp.below (by omega) B.size)
  clear kp g112
  have g112 := g112'; clear g112'
  obtain ⟨P0a, P0b, -⟩ := id P0
  obtain ⟨Xg61a, Xg61b, -⟩ := id Xg61
  obtain ⟨Xf82a, Xf82b, -⟩ := id Xf82
  obtain ⟨Xg112a, Xg112b, -⟩ := id Xg112
  go_wp2_with fail
  clear P0a P0b
  clear Xg61a Xg61b
  clear Xf82a Xf82b
  clear Xg112a Xg112b
  refine (heldLeague_std _ ((removeF x0 x1)) _ _ g112.in_ m0 (by omega) (by omega)).mono ?_
  rintro e w16 ⟨rfl, b⟩
  replace g61 := g61.grow b
  replace g112 := g112.grow b
  replace P0 := P0.below b
  replace Xg61 := Xg61.below b
  replace Xf82 := Xf82.below b
  replace Xg112 := Xg112.below b
  have z := b.size
  replace B := B.trans (b.mono B.size)
  clear b
  obtain ⟨P0a, P0b, -⟩ := id P0
  obtain ⟨Xg61a, Xg61b, -⟩ := id Xg61
  obtain ⟨Xf82a, Xf82b, -⟩ := id Xf82
  obtain ⟨Xg112a, Xg112b, -⟩ := id Xg112
  go_wp2_with fail
  clear P0a P0b
  clear Xg61a Xg61b
  clear Xf82a Xf82b
  clear Xg112a Xg112b
  refine (toLeague_std _ x0 _ (h0.below B) n0).mono ?_
  rintro e w17 ⟨u264, rfl, f264, b⟩
  replace g61 := g61.grow b
  replace g112 := g112.grow b
  replace P0 := P0.below b
  replace Xg61 := Xg61.below b
  replace Xf82 := Xf82.below b
  replace Xg112 := Xg112.below b
  have z := b.size
  replace B := B.trans (b.mono B.size)
  clear b
  obtain ⟨P0a, P0b, -⟩ := id P0
  obtain ⟨Xg61a, Xg61b, -⟩ := id Xg61
  obtain ⟨Xf82a, Xf82b, -⟩ := id Xf82
  obtain ⟨Xg112a, Xg112b, -⟩ := id Xg112
  go_wp2_with fail
  clear P0a P0b
  clear Xg61a Xg61b
  clear Xf82a Xf82b
  clear Xg112a Xg112b
  refine (implRemoveResult_std _ x0 x1 _ f264.in_ n0 n1).mono ?_
  rintro e w18 ⟨r284, rfl, g284, b⟩
  replace g61 := g61.grow b
  replace g112 := g112.grow b
  replace f264 := f264.grow b
  replace P0 := P0.below b
  replace Xg61 := Xg61.below b
  replace Xf82 := Xf82.below b
  replace Xg112 := Xg112.below b
  have z := b.size
  replace B := B.trans (b.mono B.size)
  clear b
  obtain ⟨Ag284, cg284, rfl⟩ := g284.form
  have hal : Below w18.heap.size w18 (w18.alloc (.cells #[.int .i64 (removeF x0 x1).clubs, .slice Ag284 (removeF x0 x1).results.length cg284] 28)) := (Below.refl _ w18).alloc (Nat.le_refl _) _
  obtain ⟨P0a, P0b, P0l⟩ := id P0
  have P0n : ¬ w.heap.size = w18.heap.size := by omega
  obtain ⟨Xg61a, Xg61b, Xg61l⟩ := id Xg61
  have Xg61n : ¬ pXg61 = w18.heap.size := by omega
  obtain ⟨Xf82a, Xf82b, Xf82l⟩ := id Xf82
  have Xf82n : ¬ pXf82 = w18.heap.size := by omega
  obtain ⟨Xg112a, Xg112b, Xg112l⟩ := id Xg112
  have Xg112n : ¬ pXg112 = w18.heap.size := by omega
  replace g61 := Lib.hid (g61.grow hal)
  replace g112 := Lib.hid (g112.grow hal)
  replace f264 := Lib.hid (f264.grow hal)
  replace g284 := Lib.hid (g284.grow hal)
  replace P0 := Lib.hid (P0.below hal)
  replace Xg61 := Lib.hid (Xg61.below hal)
  replace Xf82 := Lib.hid (Xf82.below hal)
  replace Xg112 := Lib.hid (Xg112.below hal)
  replace B := Lib.hid (B.trans (hal.mono B.size))
  have Xg284 : Hid (Bx (w18.alloc (.cells #[.int .i64 (removeF x0 x1).clubs, .slice Ag284 (removeF x0 x1).results.length cg284] 28)) w18.heap.size (.int .i64 (removeF x0 x1).clubs) (.slice Ag284 (removeF x0 x1).results.length cg284)) := ⟨by simp, by simp, by simp⟩
  clear hal
  clear f264
  go_wp2_with fail
  generalize (w18.alloc (.cells #[.int .i64 (removeF x0 x1).clubs, .slice Ag284 (removeF x0 x1).results.length cg284] 28)) = w19 at *
  try clear P0a P0b P0l P0n Xg61a Xg61b Xg61l Xg61n Xf82a Xf82b Xf82l Xf82n Xg112a Xg112b Xg112l Xg112n
  replace g61 := g61.out
  replace g112 := g112.out
  replace g284 := g284.out
  replace P0 := P0.out
  replace Xg61 := Xg61.out
  replace Xf82 := Xf82.out
  replace Xg112 := Xg112.out
  replace B := B.out
  replace Xg284 := Xg284.out
  generalize w18.heap.size = pXg284 at *
  have zpXg284 := Xg284.2.2
  refine (eqLeague_std _ _ _ _ g284.in_ g61.in_ m0).mono ?_
  rintro e w20 ⟨rfl, b⟩
  replace g61 := g61.grow b
  replace g112 := g112.grow b
  replace g284 := g284.grow b
  replace P0 := P0.below b
  replace Xg61 := Xg61.below b
  replace Xf82 := Xf82.below b
  replace Xg112 := Xg112.below b
  replace Xg284 := Xg284.below b
  have z := b.size
  replace B := B.trans (b.mono B.size)
  clear b
  obtain ⟨P0a, P0b, -⟩ := id P0
  obtain ⟨Xg61a, Xg61b, -⟩ := id Xg61
  obtain ⟨Xf82a, Xf82b, -⟩ := id Xf82
  obtain ⟨Xg112a, Xg112b, -⟩ := id Xg112
  obtain ⟨Xg284a, Xg284b, -⟩ := id Xg284
  go_wp2_with fail
  clear P0a P0b
  clear Xg61a Xg61b
  clear Xf82a Xf82b
  clear Xg112a Xg112b
  clear Xg284a Xg284b
  refine (heldLeague_std _ ((removeF x0 x1)) _ _ g112.in_ m0 (by omega) (by omega)).mono ?_
  rintro e w21 ⟨rfl, b⟩
  replace g61 := g61.grow b
  replace g112 := g112.grow b
  replace g284 := g284.grow b
  replace P0 := P0.below b
  replace Xg61 := Xg61.below b
  replace Xf82 := Xf82.below b
  replace Xg112 := Xg112.below b
  replace Xg284 := Xg284.below b
  have z := b.size
  replace B := B.trans (b.mono B.size)
  clear b
  go_wp2
  go_ret
  exact ⟨rfl, B⟩
end Go.Proofs.Ythfllppknngfpaa
