/- The walks of the exact laws over slices (corrections). -/
import Derived.Test.YtaednfoabklnmaaForf
namespace Go.Proofs.Ytaednfoabklnmaa
open Go.ChangeShapes Go.WideShapes Go.ChangeAt Go.RowKit

set_option maxHeartbeats 2000000 in
set_option maxRecDepth 100000 in
theorem lawFnExactForfeitResult (v0 : Value) (x0 : LeagueV) (x1 : Int) (x2 : Int) (w : World) (h0 : InL w v0 x0) (_n1 : (Lit.int .i64 x1).wf = true) (_n2 : (Lit.int .i64 x2).wf = true) :
    Calls Try.prog 5 #[v0, .int .i64 x1, .int .i64 x2] w fun e w' => e = .returned (.bool true) ∧ Below w.heap.size w w' := by
  have n1 := _n1
  have n2 := _n2
  have H0 := Lib.hid h0
  obtain ⟨A0, c0, rfl, hc0, hm0, -⟩ := h0
  have h0 := H0.out; clear H0; unfold maxLen at hm0
  by_cases l0 : ((x0.results.length : Nat) : Int) ≤ (1048576 : Int)
  case neg =>
    have B := Below.refl w.heap.size w
    have hal : Below w.heap.size w (w.alloc (.cells #[.int .i64 x0.clubs, .slice A0 x0.results.length c0] 24)) := (Below.refl _ w).alloc (Nat.le_refl _) _
    replace B := Lib.hid (B.trans (hal.mono B.size))
    have P0 : Hid (Bx (w.alloc (.cells #[.int .i64 x0.clubs, .slice A0 x0.results.length c0] 24)) w.heap.size (.int .i64 x0.clubs) (.slice A0 x0.results.length c0)) := ⟨by simp, by simp, by simp⟩
    clear hal
    go_enter Try.func5, Try.ntmps5
    go_wp2_with fail
    generalize (w.alloc (.cells #[.int .i64 x0.clubs, .slice A0 x0.results.length c0] 24)) = w1 at *
    replace B := B.out
    replace P0 := P0.out
    have zP0 := P0.2.2
    refine (szLeague_any _ x0 _ _ (h0.below B) (by omega) (by omega)).mono ?_
    rintro e w2 ⟨rfl, b⟩
    replace P0 := P0.below b
    have z := b.size
    replace B := B.trans (b.mono B.size)
    clear b
    rw [szQ_neg (by omega)]
    go_wp2
    go_ret
    exact ⟨rfl, B⟩
  have n0 : x0.results.length ≤ 1048576 := by omega
  have m0 : (forfF x0 x1 x2).results.length ≤ 1048576 := forfF_len n0
  have B := Below.refl w.heap.size w
  have hal : Below w.heap.size w (w.alloc (.cells #[.int .i64 x0.clubs, .slice A0 x0.results.length c0] 24)) := (Below.refl _ w).alloc (Nat.le_refl _) _
  replace B := Lib.hid (B.trans (hal.mono B.size))
  have P0 : Hid (Bx (w.alloc (.cells #[.int .i64 x0.clubs, .slice A0 x0.results.length c0] 24)) w.heap.size (.int .i64 x0.clubs) (.slice A0 x0.results.length c0)) := ⟨by simp, by simp, by simp⟩
  clear hal
  go_enter Try.func5, Try.ntmps5
  go_wp2_with fail
  generalize (w.alloc (.cells #[.int .i64 x0.clubs, .slice A0 x0.results.length c0] 24)) = w1 at *
  replace B := B.out
  replace P0 := P0.out
  have zP0 := P0.2.2
  refine (szLeague_any _ x0 _ _ (h0.below B) (by omega) (by omega)).mono ?_
  rintro e w2 ⟨rfl, b⟩
  replace P0 := P0.below b
  have z := b.size
  replace B := B.trans (b.mono B.size)
  clear b
  rw [szQ_pos (by omega)]
  obtain ⟨P0a, P0b, -⟩ := id P0
  go_wp2_with fail
  clear P0a P0b
  refine (toLeague_std _ x0 _ (h0.below B) n0).mono ?_
  rintro e w3 ⟨u53, rfl, f53, b⟩
  replace P0 := P0.below b
  have z := b.size
  replace B := B.trans (b.mono B.size)
  clear b
  obtain ⟨P0a, P0b, -⟩ := id P0
  go_wp2_with fail
  clear P0a P0b
  refine (specForfeitResult_std _ x0 x1 x2 _ f53.in_ n0 n1 n2).mono ?_
  rintro e w4 ⟨r62, rfl, g62, b⟩
  replace f53 := f53.grow b
  replace P0 := P0.below b
  have z := b.size
  replace B := B.trans (b.mono B.size)
  clear b
  obtain ⟨Ag62, cg62, rfl⟩ := g62.form
  have hal : Below w4.heap.size w4 (w4.alloc (.cells #[.int .i64 (forfF x0 x1 x2).clubs, .slice Ag62 (forfF x0 x1 x2).results.length cg62] 28)) := (Below.refl _ w4).alloc (Nat.le_refl _) _
  obtain ⟨P0a, P0b, P0l⟩ := id P0
  have P0n : ¬ w.heap.size = w4.heap.size := by omega
  replace f53 := Lib.hid (f53.grow hal)
  replace g62 := Lib.hid (g62.grow hal)
  replace P0 := Lib.hid (P0.below hal)
  replace B := Lib.hid (B.trans (hal.mono B.size))
  have Xg62 : Hid (Bx (w4.alloc (.cells #[.int .i64 (forfF x0 x1 x2).clubs, .slice Ag62 (forfF x0 x1 x2).results.length cg62] 28)) w4.heap.size (.int .i64 (forfF x0 x1 x2).clubs) (.slice Ag62 (forfF x0 x1 x2).results.length cg62)) := ⟨by simp, by simp, by simp⟩
  clear hal
  clear f53
  go_wp2_with fail
  generalize (w4.alloc (.cells #[.int .i64 (forfF x0 x1 x2).clubs, .slice Ag62 (forfF x0 x1 x2).results.length cg62] 28)) = w5 at *
  try clear P0a P0b P0l P0n
  replace g62 := g62.out
  replace P0 := P0.out
  replace B := B.out
  replace Xg62 := Xg62.out
  generalize w4.heap.size = pXg62 at *
  have zpXg62 := Xg62.2.2
  refine (toLeague_std _ x0 _ (h0.below B) n0).mono ?_
  rintro e w6 ⟨u83, rfl, f83, b⟩
  replace g62 := g62.grow b
  replace P0 := P0.below b
  replace Xg62 := Xg62.below b
  have z := b.size
  replace B := B.trans (b.mono B.size)
  clear b
  obtain ⟨Af83, cf83, rfl⟩ := f83.form
  have hal : Below w6.heap.size w6 (w6.alloc (.cells #[.int .i64 x0.clubs, .slice Af83 x0.results.length cf83] 28)) := (Below.refl _ w6).alloc (Nat.le_refl _) _
  obtain ⟨P0a, P0b, P0l⟩ := id P0
  have P0n : ¬ w.heap.size = w6.heap.size := by omega
  obtain ⟨Xg62a, Xg62b, Xg62l⟩ := id Xg62
  have Xg62n : ¬ pXg62 = w6.heap.size := by omega
  replace g62 := Lib.hid (g62.grow hal)
  replace f83 := Lib.hid (f83.grow hal)
  replace P0 := Lib.hid (P0.below hal)
  replace Xg62 := Lib.hid (Xg62.below hal)
  replace B := Lib.hid (B.trans (hal.mono B.size))
  have Xf83 : Hid (Bx (w6.alloc (.cells #[.int .i64 x0.clubs, .slice Af83 x0.results.length cf83] 28)) w6.heap.size (.int .i64 x0.clubs) (.slice Af83 x0.results.length cf83)) := ⟨by simp, by simp, by simp⟩
  clear hal
  go_wp2_with fail
  generalize (w6.alloc (.cells #[.int .i64 x0.clubs, .slice Af83 x0.results.length cf83] 28)) = w7 at *
  try clear P0a P0b P0l P0n Xg62a Xg62b Xg62l Xg62n
  replace g62 := g62.out
  replace f83 := f83.out
  replace P0 := P0.out
  replace Xg62 := Xg62.out
  replace B := B.out
  replace Xf83 := Xf83.out
  generalize w6.heap.size = pXf83 at *
  have zpXf83 := Xf83.2.2
  refine (implForfeitResult_std _ x0 x1 x2 _ f83.in_ n0 n1 n2).mono ?_
  rintro e w8 ⟨r113, rfl, g113, b⟩
  replace g62 := g62.grow b
  replace f83 := f83.grow b
  replace P0 := P0.below b
  replace Xg62 := Xg62.below b
  replace Xf83 := Xf83.below b
  have z := b.size
  replace B := B.trans (b.mono B.size)
  clear b
  obtain ⟨Ag113, cg113, rfl⟩ := g113.form
  have hal : Below w8.heap.size w8 (w8.alloc (.cells #[.int .i64 (forfF x0 x1 x2).clubs, .slice Ag113 (forfF x0 x1 x2).results.length cg113] 28)) := (Below.refl _ w8).alloc (Nat.le_refl _) _
  obtain ⟨P0a, P0b, P0l⟩ := id P0
  have P0n : ¬ w.heap.size = w8.heap.size := by omega
  obtain ⟨Xg62a, Xg62b, Xg62l⟩ := id Xg62
  have Xg62n : ¬ pXg62 = w8.heap.size := by omega
  obtain ⟨Xf83a, Xf83b, Xf83l⟩ := id Xf83
  have Xf83n : ¬ pXf83 = w8.heap.size := by omega
  replace g62 := Lib.hid (g62.grow hal)
  replace f83 := Lib.hid (f83.grow hal)
  replace g113 := Lib.hid (g113.grow hal)
  replace P0 := Lib.hid (P0.below hal)
  replace Xg62 := Lib.hid (Xg62.below hal)
  replace Xf83 := Lib.hid (Xf83.below hal)
  replace B := Lib.hid (B.trans (hal.mono B.size))
  have Xg113 : Hid (Bx (w8.alloc (.cells #[.int .i64 (forfF x0 x1 x2).clubs, .slice Ag113 (forfF x0 x1 x2).results.length cg113] 28)) w8.heap.size (.int .i64 (forfF x0 x1 x2).clubs) (.slice Ag113 (forfF x0 x1 x2).results.length cg113)) := ⟨by simp, by simp, by simp⟩
  clear hal
  go_wp2_with fail
  generalize (w8.alloc (.cells #[.int .i64 (forfF x0 x1 x2).clubs, .slice Ag113 (forfF x0 x1 x2).results.length cg113] 28)) = w9 at *
  try clear P0a P0b P0l P0n Xg62a Xg62b Xg62l Xg62n Xf83a Xf83b Xf83l Xf83n
  replace g62 := g62.out
  replace f83 := f83.out
  replace g113 := g113.out
  replace P0 := P0.out
  replace Xg62 := Xg62.out
  replace Xf83 := Xf83.out
  replace B := B.out
  replace Xg113 := Xg113.out
  generalize w8.heap.size = pXg113 at *
  have zpXg113 := Xg113.2.2
  refine (eqLeague_std _ _ _ _ g113.in_ g62.in_ m0).mono ?_
  rintro e w10 ⟨rfl, b⟩
  replace g62 := g62.grow b
  replace f83 := f83.grow b
  replace g113 := g113.grow b
  replace P0 := P0.below b
  replace Xg62 := Xg62.below b
  replace Xf83 := Xf83.below b
  replace Xg113 := Xg113.below b
  have z := b.size
  replace B := B.trans (b.mono B.size)
  clear b
  obtain ⟨P0a, P0b, -⟩ := id P0
  obtain ⟨Xf83a, Xf83b, -⟩ := id Xf83
  go_wp2_with fail
  go_region_held3 (fun W => W.cell? ⟨w.heap.size, 0, none⟩ = some (.int .i64 x0.clubs) ∧ W.cell? ⟨w.heap.size, 1, none⟩ = some (.slice A0 x0.results.length c0) ∧ W.cell? ⟨pXf83, 0, none⟩ = some (.int .i64 x0.clubs) ∧ W.cell? ⟨pXf83, 1, none⟩ = some (.slice Af83 x0.results.length cf83)) (first | exact ⟨P0a, P0b, Xf83a, Xf83b⟩) (first
    | (go_at_call 16; refine (toLeague_std _ x0 _ (h0.below (below_drewL B)) n0).mono ?_; rintro e w11 ⟨ut179, rfl, t179, b⟩; replace g62 := g62.drew.grow b; replace f83 := f83.drew.grow b; replace g113 := g113.drew.grow b; replace P0 := P0.drew.below b; replace Xg62 := Xg62.drew.below b; replace Xf83 := Xf83.drew.below b; replace Xg113 := Xg113.drew.below b; have z : w10.heap.size ≤ w11.heap.size := b.size; replace B := below_drewL B; replace B := B.trans (b.mono B.size); clear b P0a P0b Xf83a Xf83b; obtain ⟨P0a, P0b, -⟩ := id P0; obtain ⟨Xf83a, Xf83b, -⟩ := id Xf83)
    | (go_at_call 18; refine (eqLeague_std _ _ _ _ f83.in_ t179.in_ n0).mono ?_; rintro e w12 ⟨rfl, b⟩; replace g62 := g62.grow b; replace f83 := f83.grow b; replace g113 := g113.grow b; replace t179 := t179.grow b; replace P0 := P0.below b; replace Xg62 := Xg62.below b; replace Xf83 := Xf83.below b; replace Xg113 := Xg113.below b; have z : w11.heap.size ≤ w12.heap.size := b.size; replace B := B.trans (b.mono B.size); clear b P0a P0b Xf83a Xf83b; obtain ⟨P0a, P0b, -⟩ := id P0; obtain ⟨Xf83a, Xf83b, -⟩ := id Xf83))
  clear t179 P0a P0b Xf83a Xf83b
  obtain ⟨P0a, P0b, -⟩ := id P0
  obtain ⟨Xg62a, Xg62b, -⟩ := id Xg62
  obtain ⟨Xf83a, Xf83b, -⟩ := id Xf83
  obtain ⟨Xg113a, Xg113b, -⟩ := id Xg113
  go_wp2_with fail
  clear P0a P0b
  clear Xg62a Xg62b
  clear Xf83a Xf83b
  clear Xg113a Xg113b
  refine (markLeague_std _ _ _ _ _ _ f83 n0 (by omega) (by omega)).mono ?_
  rintro e w13 ⟨rfl, f83', kp⟩
  replace g62 := g62.keep kp (by omega)
  replace g113 := g113.keep kp (by omega)
  replace P0 := P0.keep kp (by omega)
  replace Xg62 := Xg62.keep kp (by omega)
  replace Xf83 := Xf83.keep kp (by omega)
  replace Xg113 := Xg113.keep kp (by omega)
  have z := kp.size
  replace B := B.trans (kp.below (by omega) B.size)
  clear kp f83
  have f83 := f83'; clear f83'
  clear f83
  obtain ⟨P0a, P0b, -⟩ := id P0
  obtain ⟨Xg62a, Xg62b, -⟩ := id Xg62
  obtain ⟨Xf83a, Xf83b, -⟩ := id Xf83
  obtain ⟨Xg113a, Xg113b, -⟩ := id Xg113
  go_wp2_with fail
  clear P0a P0b
  clear Xg62a Xg62b
  clear Xf83a Xf83b
  clear Xg113a Xg113b
  refine (eqLeague_std _ _ _ _ g113.in_ g62.in_ m0).mono ?_
  rintro e w14 ⟨rfl, b⟩
  replace g62 := g62.grow b
  replace g113 := g113.grow b
  replace P0 := P0.below b
  replace Xg62 := Xg62.below b
  replace Xf83 := Xf83.below b
  replace Xg113 := Xg113.below b
  have z := b.size
  replace B := B.trans (b.mono B.size)
  clear b
  obtain ⟨P0a, P0b, -⟩ := id P0
  obtain ⟨Xg62a, Xg62b, -⟩ := id Xg62
  obtain ⟨Xf83a, Xf83b, -⟩ := id Xf83
  obtain ⟨Xg113a, Xg113b, -⟩ := id Xg113
  go_wp2_with fail
  clear P0a P0b
  clear Xg62a Xg62b
  clear Xf83a Xf83b
  clear Xg113a Xg113b
  refine (markLeague_std _ _ _ _ _ _ g113 m0 (by omega) (by omega)).mono ?_
  rintro e w15 ⟨rfl, g113', kp⟩
  replace g62 := g62.keep kp (by omega)
  replace P0 := P0.keep kp (by omega)
  replace Xg62 := Xg62.keep kp (by omega)
  replace Xf83 := Xf83.keep kp (by omega)
  replace Xg113 := Xg113.keep kp (by omega)
  have z := kp.size
  replace B := B.trans (kp.below (by omega) B.size)
  clear kp g113
  have g113 := g113'; clear g113'
  obtain ⟨P0a, P0b, -⟩ := id P0
  obtain ⟨Xg62a, Xg62b, -⟩ := id Xg62
  obtain ⟨Xf83a, Xf83b, -⟩ := id Xf83
  obtain ⟨Xg113a, Xg113b, -⟩ := id Xg113
  go_wp2_with fail
  clear P0a P0b
  clear Xg62a Xg62b
  clear Xf83a Xf83b
  clear Xg113a Xg113b
  refine (heldLeague_std _ ((forfF x0 x1 x2)) _ _ g113.in_ m0 (by omega) (by omega)).mono ?_
  rintro e w16 ⟨rfl, b⟩
  replace g62 := g62.grow b
  replace g113 := g113.grow b
  replace P0 := P0.below b
  replace Xg62 := Xg62.below b
  replace Xf83 := Xf83.below b
  replace Xg113 := Xg113.below b
  have z := b.size
  replace B := B.trans (b.mono B.size)
  clear b
  obtain ⟨P0a, P0b, -⟩ := id P0
  obtain ⟨Xg62a, Xg62b, -⟩ := id Xg62
  obtain ⟨Xf83a, Xf83b, -⟩ := id Xf83
  obtain ⟨Xg113a, Xg113b, -⟩ := id Xg113
  go_wp2_with fail
  clear P0a P0b
  clear Xg62a Xg62b
  clear Xf83a Xf83b
  clear Xg113a Xg113b
  refine (toLeague_std _ x0 _ (h0.below B) n0).mono ?_
  rintro e w17 ⟨u265, rfl, f265, b⟩
  replace g62 := g62.grow b
  replace g113 := g113.grow b
  replace P0 := P0.below b
  replace Xg62 := Xg62.below b
  replace Xf83 := Xf83.below b
  replace Xg113 := Xg113.below b
  have z := b.size
  replace B := B.trans (b.mono B.size)
  clear b
  obtain ⟨P0a, P0b, -⟩ := id P0
  obtain ⟨Xg62a, Xg62b, -⟩ := id Xg62
  obtain ⟨Xf83a, Xf83b, -⟩ := id Xf83
  obtain ⟨Xg113a, Xg113b, -⟩ := id Xg113
  go_wp2_with fail
  clear P0a P0b
  clear Xg62a Xg62b
  clear Xf83a Xf83b
  clear Xg113a Xg113b
  refine (implForfeitResult_std _ x0 x1 x2 _ f265.in_ n0 n1 n2).mono ?_
  rintro e w18 ⟨r285, rfl, g285, b⟩
  replace g62 := g62.grow b
  replace g113 := g113.grow b
  replace f265 := f265.grow b
  replace P0 := P0.below b
  replace Xg62 := Xg62.below b
  replace Xf83 := Xf83.below b
  replace Xg113 := Xg113.below b
  have z := b.size
  replace B := B.trans (b.mono B.size)
  clear b
  obtain ⟨Ag285, cg285, rfl⟩ := g285.form
  have hal : Below w18.heap.size w18 (w18.alloc (.cells #[.int .i64 (forfF x0 x1 x2).clubs, .slice Ag285 (forfF x0 x1 x2).results.length cg285] 28)) := (Below.refl _ w18).alloc (Nat.le_refl _) _
  obtain ⟨P0a, P0b, P0l⟩ := id P0
  have P0n : ¬ w.heap.size = w18.heap.size := by omega
  obtain ⟨Xg62a, Xg62b, Xg62l⟩ := id Xg62
  have Xg62n : ¬ pXg62 = w18.heap.size := by omega
  obtain ⟨Xf83a, Xf83b, Xf83l⟩ := id Xf83
  have Xf83n : ¬ pXf83 = w18.heap.size := by omega
  obtain ⟨Xg113a, Xg113b, Xg113l⟩ := id Xg113
  have Xg113n : ¬ pXg113 = w18.heap.size := by omega
  replace g62 := Lib.hid (g62.grow hal)
  replace g113 := Lib.hid (g113.grow hal)
  replace f265 := Lib.hid (f265.grow hal)
  replace g285 := Lib.hid (g285.grow hal)
  replace P0 := Lib.hid (P0.below hal)
  replace Xg62 := Lib.hid (Xg62.below hal)
  replace Xf83 := Lib.hid (Xf83.below hal)
  replace Xg113 := Lib.hid (Xg113.below hal)
  replace B := Lib.hid (B.trans (hal.mono B.size))
  have Xg285 : Hid (Bx (w18.alloc (.cells #[.int .i64 (forfF x0 x1 x2).clubs, .slice Ag285 (forfF x0 x1 x2).results.length cg285] 28)) w18.heap.size (.int .i64 (forfF x0 x1 x2).clubs) (.slice Ag285 (forfF x0 x1 x2).results.length cg285)) := ⟨by simp, by simp, by simp⟩
  clear hal
  clear f265
  go_wp2_with fail
  generalize (w18.alloc (.cells #[.int .i64 (forfF x0 x1 x2).clubs, .slice Ag285 (forfF x0 x1 x2).results.length cg285] 28)) = w19 at *
  try clear P0a P0b P0l P0n Xg62a Xg62b Xg62l Xg62n Xf83a Xf83b Xf83l Xf83n Xg113a Xg113b Xg113l Xg113n
  replace g62 := g62.out
  replace g113 := g113.out
  replace g285 := g285.out
  replace P0 := P0.out
  replace Xg62 := Xg62.out
  replace Xf83 := Xf83.out
  replace Xg113 := Xg113.out
  replace B := B.out
  replace Xg285 := Xg285.out
  generalize w18.heap.size = pXg285 at *
  have zpXg285 := Xg285.2.2
  refine (eqLeague_std _ _ _ _ g285.in_ g62.in_ m0).mono ?_
  rintro e w20 ⟨rfl, b⟩
  replace g62 := g62.grow b
  replace g113 := g113.grow b
  replace g285 := g285.grow b
  replace P0 := P0.below b
  replace Xg62 := Xg62.below b
  replace Xf83 := Xf83.below b
  replace Xg113 := Xg113.below b
  replace Xg285 := Xg285.below b
  have z := b.size
  replace B := B.trans (b.mono B.size)
  clear b
  obtain ⟨P0a, P0b, -⟩ := id P0
  obtain ⟨Xg62a, Xg62b, -⟩ := id Xg62
  obtain ⟨Xf83a, Xf83b, -⟩ := id Xf83
  obtain ⟨Xg113a, Xg113b, -⟩ := id Xg113
  obtain ⟨Xg285a, Xg285b, -⟩ := id Xg285
  go_wp2_with fail
  clear P0a P0b
  clear Xg62a Xg62b
  clear Xf83a Xf83b
  clear Xg113a Xg113b
  clear Xg285a Xg285b
  refine (heldLeague_std _ ((forfF x0 x1 x2)) _ _ g113.in_ m0 (by omega) (by omega)).mono ?_
  rintro e w21 ⟨rfl, b⟩
  replace g62 := g62.grow b
  replace g113 := g113.grow b
  replace g285 := g285.grow b
  replace P0 := P0.below b
  replace Xg62 := Xg62.below b
  replace Xf83 := Xf83.below b
  replace Xg113 := Xg113.below b
  replace Xg285 := Xg285.below b
  have z := b.size
  replace B := B.trans (b.mono B.size)
  clear b
  go_wp2
  go_ret
  exact ⟨rfl, B⟩
end Go.Proofs.Ytaednfoabklnmaa
