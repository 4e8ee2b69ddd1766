/- The walks of the exact laws over slices (corrections). -/
import Derived.Test.YthfllppknngfpaaCc
namespace Go.Proofs.Ythfllppknngfpaa
open Go.ChangeShapes Go.WideShapes Go.ChangeAt Go.RowKit

set_option maxHeartbeats 2000000 in
set_option maxRecDepth 100000 in
theorem lawFnExactCorrectAll (v0 : Value) (x0 : LeagueV) (v1 : Value) (x1 : List (List Int)) (w : World) (h0 : InL w v0 x0) (h1 : InS w v1 x1) :
    Calls Try.prog 4 #[v0, v1] w fun e w' => e = .returned (.bool true) ∧ Below w.heap.size w w' := by
  have H0 := Lib.hid h0
  obtain ⟨A0, c0, rfl, hc0, hm0, -⟩ := h0
  have h0 := H0.out; clear H0; unfold maxLen at hm0
  by_cases l0 : ((x0.results.length : Nat) : Int) ≤ (1048576 : Int)
  case neg =>
    have B := Below.refl w.heap.size w
    have hal : Below w.heap.size w (w.alloc (.cells #[.int .i64 x0.clubs, .slice A0 x0.results.length c0] 24)) := (Below.refl _ w).alloc (Nat.le_refl _) _
    replace B := Lib.hid (B.trans (hal.mono B.size))
    have P0 : Hid (Bx (w.alloc (.cells #[.int .i64 x0.clubs, .slice A0 x0.results.length c0] 24)) w.heap.size (.int .i64 x0.clubs) (.slice A0 x0.results.length c0)) := ⟨by simp, by simp, by simp⟩
    clear hal
    go_enter Try.func4, Try.ntmps4
    go_wp2_with fail
    generalize (w.alloc (.cells #[.int .i64 x0.clubs, .slice A0 x0.results.length c0] 24)) = w1 at *
    replace B := B.out
    replace P0 := P0.out
    have zP0 := P0.2.2
    refine (szLeague_any _ x0 _ _ (h0.below B) (by omega) (by omega)).mono ?_
    rintro e w2 ⟨rfl, b⟩
    replace P0 := P0.below b
    have z := b.size
    replace B := B.trans (b.mono B.size)
    clear b
    rw [szQ_neg (by omega)]
    go_wp2
    go_ret
    exact ⟨rfl, B⟩
  have n0 : x0.results.length ≤ 1048576 := by omega
  by_cases l1 : ((bulk x1 : Nat) : Int) ≤ (1048576 : Int) - ((x0.results.length : Nat) : Int)
  case neg =>
    have B := Below.refl w.heap.size w
    have hal : Below w.heap.size w (w.alloc (.cells #[.int .i64 x0.clubs, .slice A0 x0.results.length c0] 24)) := (Below.refl _ w).alloc (Nat.le_refl _) _
    replace B := Lib.hid (B.trans (hal.mono B.size))
    have P0 : Hid (Bx (w.alloc (.cells #[.int .i64 x0.clubs, .slice A0 x0.results.length c0] 24)) w.heap.size (.int .i64 x0.clubs) (.slice A0 x0.results.length c0)) := ⟨by simp, by simp, by simp⟩
    clear hal
    go_enter Try.func4, Try.ntmps4
    go_wp2_with fail
    generalize (w.alloc (.cells #[.int .i64 x0.clubs, .slice A0 x0.results.length c0] 24)) = w1 at *
    replace B := B.out
    replace P0 := P0.out
    have zP0 := P0.2.2
    refine (szLeague_any _ x0 _ _ (h0.below B) (by omega) (by omega)).mono ?_
    rintro e w2 ⟨rfl, b⟩
    replace P0 := P0.below b
    have z := b.size
    replace B := B.trans (b.mono B.size)
    clear b
    rw [szQ_pos (by omega)]
    obtain ⟨P0a, P0b, -⟩ := id P0
    go_wp2_with fail
    clear P0a P0b
    refine (szIntSS_any _ x1 _ _ (h1.below B) (by omega) (by omega)).mono ?_; rintro e w' ⟨rfl, rfl⟩
    rw [szR_neg (by omega)]
    go_wp2
    go_ret
    exact ⟨rfl, B⟩
  have n1 : bulk x1 ≤ 1048576 := by omega
  have m0 : (corrF x0 x1).results.length ≤ 1048576 := corrF_len n0
  have n1' : rowsLen x1 ≤ 1048576 := by rw [bulk_eq] at n1; omega
  have B := Below.refl w.heap.size w
  have hal : Below w.heap.size w (w.alloc (.cells #[.int .i64 x0.clubs, .slice A0 x0.results.length c0] 24)) := (Below.refl _ w).alloc (Nat.le_refl _) _
  replace B := Lib.hid (B.trans (hal.mono B.size))
  have P0 : Hid (Bx (w.alloc (.cells #[.int .i64 x0.clubs, .slice A0 x0.results.length c0] 24)) w.heap.size (.int .i64 x0.clubs) (.slice A0 x0.results.length c0)) := ⟨by simp, by simp, by simp⟩
  clear hal
  go_enter Try.func4, Try.ntmps4
  go_wp2_with fail
  generalize (w.alloc (.cells #[.int .i64 x0.clubs, .slice A0 x0.results.length c0] 24)) = w1 at *
  replace B := B.out
  replace P0 := P0.out
  have zP0 := P0.2.2
  refine (szLeague_any _ x0 _ _ (h0.below B) (by omega) (by omega)).mono ?_
  rintro e w2 ⟨rfl, b⟩
  replace P0 := P0.below b
  have z := b.size
  replace B := B.trans (b.mono B.size)
  clear b
  rw [szQ_pos (by omega)]
  obtain ⟨P0a, P0b, -⟩ := id P0
  go_wp2_with fail
  clear P0a P0b
  refine (szIntSS_any _ x1 _ _ (h1.below B) (by omega) (by omega)).mono ?_; rintro e w' ⟨rfl, rfl⟩
  rw [szR_pos (by omega)]
  obtain ⟨P0a, P0b, -⟩ := id P0
  go_wp2_with fail
  clear P0a P0b
  refine (toLeague_std _ x0 _ (h0.below B) n0).mono ?_
  rintro e w3 ⟨u86, rfl, f86, b⟩
  replace P0 := P0.below b
  have z := b.size
  replace B := B.trans (b.mono B.size)
  clear b
  obtain ⟨P0a, P0b, -⟩ := id P0
  go_wp2_with fail
  clear P0a P0b
  refine (toIntSS_std _ x1 _ (h1.below B) n1).mono ?_
  rintro e w4 ⟨u95, rfl, f95, b⟩
  replace f86 := f86.grow b
  replace P0 := P0.below b
  have z := b.size
  replace B := B.trans (b.mono B.size)
  clear b
  obtain ⟨P0a, P0b, -⟩ := id P0
  go_wp2_with fail
  clear P0a P0b
  refine (specCorrectAll_std _ x0 _ x1 _ f86.in_ n0 f95.in_ n1).mono ?_
  rintro e w5 ⟨r105, rfl, g105, b⟩
  replace f86 := f86.grow b
  replace f95 := f95.grow b
  replace P0 := P0.below b
  have z := b.size
  replace B := B.trans (b.mono B.size)
  clear b
  obtain ⟨Ag105, cg105, rfl⟩ := g105.form
  have hal : Below w5.heap.size w5 (w5.alloc (.cells #[.int .i64 (corrF x0 x1).clubs, .slice Ag105 (corrF x0 x1).results.length cg105] 28)) := (Below.refl _ w5).alloc (Nat.le_refl _) _
  obtain ⟨P0a, P0b, P0l⟩ := id P0
  have P0n : ¬ w.heap.size = w5.heap.size := by omega
  replace f86 := Lib.hid (f86.grow hal)
  replace f95 := Lib.hid (f95.grow hal)
  replace g105 := Lib.hid (g105.grow hal)
  replace P0 := Lib.hid (P0.below hal)
  replace B := Lib.hid (B.trans (hal.mono B.size))
  have Xg105 : Hid (Bx (w5.alloc (.cells #[.int .i64 (corrF x0 x1).clubs, .slice Ag105 (corrF x0 x1).results.length cg105] 28)) w5.heap.size (.int .i64 (corrF x0 x1).clubs) (.slice Ag105 (corrF x0 x1).results.length cg105)) := ⟨by simp, by simp, by simp⟩
  clear hal
  clear f86
  clear f95
  go_wp2_with fail
  generalize (w5.alloc (.cells #[.int .i64 (corrF x0 x1).clubs, .slice Ag105 (corrF x0 x1).results.length cg105] 28)) = w6 at *
  try clear P0a P0b P0l P0n
  replace g105 := g105.out
  replace P0 := P0.out
  replace B := B.out
  replace Xg105 := Xg105.out
  generalize w5.heap.size = pXg105 at *
  have zpXg105 := Xg105.2.2
  refine (toLeague_std _ x0 _ (h0.below B) n0).mono ?_
  rintro e w7 ⟨u129, rfl, f129, b⟩
  replace g105 := g105.grow b
  replace P0 := P0.below b
  replace Xg105 := Xg105.below b
  have z := b.size
  replace B := B.trans (b.mono B.size)
  clear b
  obtain ⟨Af129, cf129, rfl⟩ := f129.form
  have hal : Below w7.heap.size w7 (w7.alloc (.cells #[.int .i64 x0.clubs, .slice Af129 x0.results.length cf129] 28)) := (Below.refl _ w7).alloc (Nat.le_refl _) _
  obtain ⟨P0a, P0b, P0l⟩ := id P0
  have P0n : ¬ w.heap.size = w7.heap.size := by omega
  obtain ⟨Xg105a, Xg105b, Xg105l⟩ := id Xg105
  have Xg105n : ¬ pXg105 = w7.heap.size := by omega
  replace g105 := Lib.hid (g105.grow hal)
  replace f129 := Lib.hid (f129.grow hal)
  replace P0 := Lib.hid (P0.below hal)
  replace Xg105 := Lib.hid (Xg105.below hal)
  replace B := Lib.hid (B.trans (hal.mono B.size))
  have Xf129 : Hid (Bx (w7.alloc (.cells #[.int .i64 x0.clubs, .slice Af129 x0.results.length cf129] 28)) w7.heap.size (.int .i64 x0.clubs) (.slice Af129 x0.results.length cf129)) := ⟨by simp, by simp, by simp⟩
  clear hal
  go_wp2_with fail
  generalize (w7.alloc (.cells #[.int .i64 x0.clubs, .slice Af129 x0.results.length cf129] 28)) = w8 at *
  try clear P0a P0b P0l P0n Xg105a Xg105b Xg105l Xg105n
  replace g105 := g105.out
  replace f129 := f129.out
  replace P0 := P0.out
  replace Xg105 := Xg105.out
  replace B := B.out
  replace Xf129 := Xf129.out
  generalize w7.heap.size = pXf129 at *
  have zpXf129 := Xf129.2.2
  refine (toIntSS_std _ x1 _ (h1.below B) n1).mono ?_
  rintro e w9 ⟨u159, rfl, f159, b⟩
  replace g105 := g105.grow b
  replace f129 := f129.grow b
  replace P0 := P0.below b
  replace Xg105 := Xg105.below b
  replace Xf129 := Xf129.below b
  have z := b.size
  replace B := B.trans (b.mono B.size)
  clear b
  obtain ⟨P0a, P0b, -⟩ := id P0
  obtain ⟨Xg105a, Xg105b, -⟩ := id Xg105
  obtain ⟨Xf129a, Xf129b, -⟩ := id Xf129
  go_wp2_with fail
  clear P0a P0b
  clear Xg105a Xg105b
  clear Xf129a Xf129b
  refine (implCorrectAll_std _ x0 _ x1 _ f129.in_ n0 f159.in_ n1).mono ?_
  rintro e w10 ⟨r180, rfl, g180, b⟩
  replace g105 := g105.grow b
  replace f129 := f129.grow b
  replace f159 := f159.grow b
  replace P0 := P0.below b
  replace Xg105 := Xg105.below b
  replace Xf129 := Xf129.below b
  have z := b.size
  replace B := B.trans (b.mono B.size)
  clear b
  obtain ⟨Ag180, cg180, rfl⟩ := g180.form
  have hal : Below w10.heap.size w10 (w10.alloc (.cells #[.int .i64 (corrF x0 x1).clubs, .slice Ag180 (corrF x0 x1).results.length cg180] 28)) := (Below.refl _ w10).alloc (Nat.le_refl _) _
  obtain ⟨P0a, P0b, P0l⟩ := id P0
  have P0n : ¬ w.heap.size = w10.heap.size := by omega
  obtain ⟨Xg105a, Xg105b, Xg105l⟩ := id Xg105
  have Xg105n : ¬ pXg105 = w10.heap.size := by omega
  obtain ⟨Xf129a, Xf129b, Xf129l⟩ := id Xf129
  have Xf129n : ¬ pXf129 = w10.heap.size := by omega
  replace g105 := Lib.hid (g105.grow hal)
  replace f129 := Lib.hid (f129.grow hal)
  replace f159 := Lib.hid (f159.grow hal)
  replace g180 := Lib.hid (g180.grow hal)
  replace P0 := Lib.hid (P0.below hal)
  replace Xg105 := Lib.hid (Xg105.below hal)
  replace Xf129 := Lib.hid (Xf129.below hal)
  replace B := Lib.hid (B.trans (hal.mono B.size))
  have Xg180 : Hid (Bx (w10.alloc (.cells #[.int .i64 (corrF x0 x1).clubs, .slice Ag180 (corrF x0 x1).results.length cg180] 28)) w10.heap.size (.int .i64 (corrF x0 x1).clubs) (.slice Ag180 (corrF x0 x1).results.length cg180)) := ⟨by simp, by simp, by simp⟩
  clear hal
  go_wp2_with fail
  generalize (w10.alloc (.cells #[.int .i64 (corrF x0 x1).clubs, .slice Ag180 (corrF x0 x1).results.length cg180] 28)) = w11 at *
  try clear P0a P0b P0l P0n Xg105a Xg105b Xg105l Xg105n Xf129a Xf129b Xf129l Xf129n
  replace g105 := g105.out
  replace f129 := f129.out
  replace f159 := f159.out
  replace g180 := g180.out
  replace P0 := P0.out
  replace Xg105 := Xg105.out
  replace Xf129 := Xf129.out
  replace B := B.out
  replace Xg180 := Xg180.out
  generalize w10.heap.size = pXg180 at *
  have zpXg180 := Xg180.2.2
  refine (eqLeague_std _ _ _ _ g180.in_ g105.in_ m0).mono ?_
  rintro e w12 ⟨rfl, b⟩
  replace g105 := g105.grow b
  replace f129 := f129.grow b
  replace f159 := f159.grow b
  replace g180 := g180.grow b
  replace P0 := P0.below b
  replace Xg105 := Xg105.below b
  replace Xf129 := Xf129.below b
  replace Xg180 := Xg180.below b
  have z := b.size
  replace B := B.trans (b.mono B.size)
  clear b
  obtain ⟨P0a, P0b, -⟩ := id P0
  obtain ⟨Xf129a, Xf129b, -⟩ := id Xf129
  go_wp2_with fail
  go_region_held3 (fun W => W.cell? ⟨w.heap.size, 0, none⟩ = some (.int .i64 x0.clubs) ∧ W.cell? ⟨w.heap.size, 1, none⟩ = some (.slice A0 x0.results.length c0) ∧ W.cell? ⟨pXf129, 0, none⟩ = some (.int .i64 x0.clubs) ∧ W.cell? ⟨pXf129, 1, none⟩ = some (.slice Af129 x0.results.length cf129)) (first | exact ⟨P0a, P0b, Xf129a, Xf129b⟩) (first
    | (go_at_call 7; refine (toLeague_std _ x0 _ (h0.below (below_drewL B)) n0).mono ?_; rintro e w13 ⟨ut246, rfl, t246, b⟩; replace g105 := g105.drew.grow b; replace f129 := f129.drew.grow b; replace f159 := f159.drew.grow b; replace g180 := g180.drew.grow b; replace P0 := P0.drew.below b; replace Xg105 := Xg105.drew.below b; replace Xf129 := Xf129.drew.below b; replace Xg180 := Xg180.drew.below b; have z : w12.heap.size ≤ w13.heap.size := b.size; replace B := below_drewL B; replace B := B.trans (b.mono B.size); clear b P0a P0b Xf129a Xf129b; obtain ⟨P0a, P0b, -⟩ := id P0; obtain ⟨Xf129a, Xf129b, -⟩ := id Xf129)
    | (go_at_call 9; refine (eqLeague_std _ _ _ _ f129.in_ t246.in_ n0).mono ?_; rintro e w14 ⟨rfl, b⟩; replace g105 := g105.grow b; replace f129 := f129.grow b; replace f159 := f159.grow b; replace g180 := g180.grow b; replace t246 := t246.grow b; replace P0 := P0.below b; replace Xg105 := Xg105.below b; replace Xf129 := Xf129.below b; replace Xg180 := Xg180.below b; have z : w13.heap.size ≤ w14.heap.size := b.size; replace B := B.trans (b.mono B.size); clear b P0a P0b Xf129a Xf129b; obtain ⟨P0a, P0b, -⟩ := id P0; obtain ⟨Xf129a, Xf129b, -⟩ := id Xf129))
  clear t246 P0a P0b Xf129a Xf129b
  obtain ⟨P0a, P0b, -⟩ := id P0
  obtain ⟨Xg105a, Xg105b, -⟩ := id Xg105
  obtain ⟨Xf129a, Xf129b, -⟩ := id Xf129
  obtain ⟨Xg180a, Xg180b, -⟩ := id Xg180
  go_wp2_with fail
  clear P0a P0b
  clear Xg105a Xg105b
  clear Xf129a Xf129b
  clear Xg180a Xg180b
  refine (toIntSS_std _ x1 _ (h1.below B) n1).mono ?_
  rintro e w15 ⟨u250, rfl, f250, b⟩
  replace g105 := g105.grow b
  replace f129 := f129.grow b
  replace f159 := f159.grow b
  replace g180 := g180.grow b
  replace P0 := P0.below b
  replace Xg105 := Xg105.below b
  replace Xf129 := Xf129.below b
  replace Xg180 := Xg180.below b
  have z := b.size
  replace B := B.trans (b.mono B.size)
  clear b
  obtain ⟨P0a, P0b, -⟩ := id P0
  obtain ⟨Xg105a, Xg105b, -⟩ := id Xg105
  obtain ⟨Xf129a, Xf129b, -⟩ := id Xf129
  obtain ⟨Xg180a, Xg180b, -⟩ := id Xg180
  go_wp2_with fail
  clear P0a P0b
  clear Xg105a Xg105b
  clear Xf129a Xf129b
  clear Xg180a Xg180b
  refine (eqIntSS_std _ _ _ _ f159.in_ f250.in_ n1).mono ?_
  rintro e w16 ⟨rfl, b⟩
  replace g105 := g105.grow b
  replace f129 := f129.grow b
  replace f159 := f159.grow b
  replace g180 := g180.grow b
  replace f250 := f250.grow b
  replace P0 := P0.below b
  replace Xg105 := Xg105.below b
  replace Xf129 := Xf129.below b
  replace Xg180 := Xg180.below b
  have z := b.size
  replace B := B.trans (b.mono B.size)
  clear b
  clear f250
  obtain ⟨P0a, P0b, -⟩ := id P0
  obtain ⟨Xg105a, Xg105b, -⟩ := id Xg105
  obtain ⟨Xf129a, Xf129b, -⟩ := id Xf129
  obtain ⟨Xg180a, Xg180b, -⟩ := id Xg180
  go_wp2_with fail
  clear P0a P0b
  clear Xg105a Xg105b
  clear Xf129a Xf129b
  clear Xg180a Xg180b
  refine (markLeague_std _ _ _ _ _ _ f129 n0 (by omega) (by omega)).mono ?_
  rintro e w17 ⟨rfl, f129', kp⟩
  replace g105 := g105.keep kp (by omega)
  replace f159 := f159.keep kp (by omega)
  replace g180 := g180.keep kp (by omega)
  replace P0 := P0.keep kp (by omega)
  replace Xg105 := Xg105.keep kp (by omega)
  replace Xf129 := Xf129.keep kp (by omega)
  replace Xg180 := Xg180.keep kp (by omega)
  have z := kp.size
  replace B := B.trans (kp.below (by omega) B.size)
  clear kp f129
  have f129 := f129'; clear f129'
  obtain ⟨P0a, P0b, -⟩ := id P0
  obtain ⟨Xg105a, Xg105b, -⟩ := id Xg105
  obtain ⟨Xf129a, Xf129b, -⟩ := id Xf129
  obtain ⟨Xg180a, Xg180b, -⟩ := id Xg180
  go_wp2_with fail
  clear P0a P0b
  clear Xg105a Xg105b
  clear Xf129a Xf129b
  clear Xg180a Xg180b
  refine (markIntSS_std _ _ _ _ _ _ f159 n1 (by omega) (by omega)).mono ?_
  rintro e w18 ⟨rfl, f159', kp⟩
  replace g105 := g105.keep kp (by omega)
  replace f129 := f129.keep kp (by omega)
  replace g180 := g180.keep kp (by omega)
  replace P0 := P0.keep kp (by omega)
  replace Xg105 := Xg105.keep kp (by omega)
  replace Xf129 := Xf129.keep kp (by omega)
  replace Xg180 := Xg180.keep kp (by omega)
  have z := kp.size
  replace B := B.trans (kp.below (by omega) B.size)
  clear kp f159
  have f159 := f159'; clear f159'
  clear f129
  clear f159
  obtain ⟨P0a, P0b, -⟩ := id P0
  obtain ⟨Xg105a, Xg105b, -⟩ := id Xg105
  obtain ⟨Xf129a, Xf129b, -⟩ := id Xf129
  obtain ⟨Xg180a, Xg180b, -⟩ := id Xg180
  go_wp2_with fail
  clear P0a P0b
  clear Xg105a Xg105b
  clear Xf129a Xf129b
  clear Xg180a Xg180b
  refine (eqLeague_std _ _ _ _ g180.in_ g105.in_ m0).mono ?_
  rintro e w19 ⟨rfl, b⟩
  replace g105 := g105.grow b
  replace g180 := g180.grow b
  replace P0 := P0.below b
  replace Xg105 := Xg105.below b
  replace Xf129 := Xf129.below b
  replace Xg180 := Xg180.below b
  have z := b.size
  replace B := B.trans (b.mono B.size)
  clear b
  obtain ⟨P0a, P0b, -⟩ := id P0
  obtain ⟨Xg105a, Xg105b, -⟩ := id Xg105
  obtain ⟨Xf129a, Xf129b, -⟩ := id Xf129
  obtain ⟨Xg180a, Xg180b, -⟩ := id Xg180
  go_wp2_with fail
  clear P0a P0b
  clear Xg105a Xg105b
  clear Xf129a Xf129b
  clear Xg180a Xg180b
  refine (markLeague_std _ _ _ _ _ _ g180 m0 (by omega) (by omega)).mono ?_
  rintro e w20 ⟨rfl, g180', kp⟩
  replace g105 := g105.keep kp (by omega)
  replace P0 := P0.keep kp (by omega)
  replace Xg105 := Xg105.keep kp (by omega)
  replace Xf129 := Xf129.keep kp (by omega)
  replace Xg180 := Xg180.keep kp (by omega)
  have z := kp.size
  replace B := B.trans (kp.below (by omega) B.size)
  clear kp g180
  have g180 := g180'; clear g180'
  obtain ⟨P0a, P0b, -⟩ := id P0
  obtain ⟨Xg105a, Xg105b, -⟩ := id Xg105
  obtain ⟨Xf129a, Xf129b, -⟩ := id Xf129
  obtain ⟨Xg180a, Xg180b, -⟩ := id Xg180
  go_wp2_with fail
  clear P0a P0b
  clear Xg105a Xg105b
  clear Xf129a Xf129b
  clear Xg180a Xg180b
  refine (heldLeague_std _ ((corrF x0 x1)) _ _ g180.in_ m0 (by omega) (by omega)).mono ?_
  rintro e w21 ⟨rfl, b⟩
  replace g105 := g105.grow b
  replace g180 := g180.grow b
  replace P0 := P0.below b
  replace Xg105 := Xg105.below b
  replace Xf129 := Xf129.below b
  replace Xg180 := Xg180.below b
  have z := b.size
  replace B := B.trans (b.mono B.size)
  clear b
  obtain ⟨P0a, P0b, -⟩ := id P0
  obtain ⟨Xg105a, Xg105b, -⟩ := id Xg105
  obtain ⟨Xf129a, Xf129b, -⟩ := id Xf129
  obtain ⟨Xg180a, Xg180b, -⟩ := id Xg180
  go_wp2_with fail
  clear P0a P0b
  clear Xg105a Xg105b
  clear Xf129a Xf129b
  clear Xg180a Xg180b
  refine (toLeague_std _ x0 _ (h0.below B) n0).mono ?_
  rintro e w22 ⟨u402, rfl, f402, b⟩
  replace g105 := g105.grow b
  replace g180 := g180.grow b
  replace P0 := P0.below b
  replace Xg105 := Xg105.below b
  replace Xf129 := Xf129.below b
  replace Xg180 := Xg180.below b
  have z := b.size
  replace B := B.trans (b.mono B.size)
  clear b
  obtain ⟨P0a, P0b, -⟩ := id P0
  obtain ⟨Xg105a, Xg105b, -⟩ := id Xg105
  obtain ⟨Xf129a, Xf129b, -⟩ := id Xf129
  obtain ⟨Xg180a, Xg180b, -⟩ := id Xg180
  go_wp2_with fail
  clear P0a P0b
  clear Xg105a Xg105b
  clear Xf129a Xf129b
  clear Xg180a Xg180b
  refine (toIntSS_std _ x1 _ (h1.below B) n1).mono ?_
  rintro e w23 ⟨u422, rfl, f422, b⟩
  replace g105 := g105.grow b
  replace g180 := g180.grow b
  replace f402 := f402.grow b
  replace P0 := P0.below b
  replace Xg105 := Xg105.below b
  replace Xf129 := Xf129.below b
  replace Xg180 := Xg180.below b
  have z := b.size
  replace B := B.trans (b.mono B.size)
  clear b
  obtain ⟨P0a, P0b, -⟩ := id P0
  obtain ⟨Xg105a, Xg105b, -⟩ := id Xg105
  obtain ⟨Xf129a, Xf129b, -⟩ := id Xf129
  obtain ⟨Xg180a, Xg180b, -⟩ := id Xg180
  go_wp2_with fail
  clear P0a P0b
  clear Xg105a Xg105b
  clear Xf129a Xf129b
  clear Xg180a Xg180b
  refine (implCorrectAll_std _ x0 _ x1 _ f402.in_ n0 f422.in_ n1).mono ?_
  rintro e w24 ⟨r443, rfl, g443, b⟩
  replace g105 := g105.grow b
  replace g180 := g180.grow b
  replace f402 := f402.grow b
  replace f422 := f422.grow b
  replace P0 := P0.below b
  replace Xg105 := Xg105.below b
  replace Xf129 := Xf129.below b
  replace Xg180 := Xg180.below b
  have z := b.size
  replace B := B.trans (b.mono B.size)
  clear b
  obtain ⟨Ag443, cg443, rfl⟩ := g443.form
  have hal : Below w24.heap.size w24 (w24.alloc (.cells #[.int .i64 (corrF x0 x1).clubs, .slice Ag443 (corrF x0 x1).results.length cg443] 28)) := (Below.refl _ w24).alloc (Nat.le_refl _) _
  obtain ⟨P0a, P0b, P0l⟩ := id P0
  have P0n : ¬ w.heap.size = w24.heap.size := by omega
  obtain ⟨Xg105a, Xg105b, Xg105l⟩ := id Xg105
  have Xg105n : ¬ pXg105 = w24.heap.size := by omega
  obtain ⟨Xf129a, Xf129b, Xf129l⟩ := id Xf129
  have Xf129n : ¬ pXf129 = w24.heap.size := by omega
  obtain ⟨Xg180a, Xg180b, Xg180l⟩ := id Xg180
  have Xg180n : ¬ pXg180 = w24.heap.size := by omega
  replace g105 := Lib.hid (g105.grow hal)
  replace g180 := Lib.hid (g180.grow hal)
  replace f402 := Lib.hid (f402.grow hal)
  replace f422 := Lib.hid (f422.grow hal)
  replace g443 := Lib.hid (g443.grow hal)
  replace P0 := Lib.hid (P0.below hal)
  replace Xg105 := Lib.hid (Xg105.below hal)
  replace Xf129 := Lib.hid (Xf129.below hal)
  replace Xg180 := Lib.hid (Xg180.below hal)
  replace B := Lib.hid (B.trans (hal.mono B.size))
  have Xg443 : Hid (Bx (w24.alloc (.cells #[.int .i64 (corrF x0 x1).clubs, .slice Ag443 (corrF x0 x1).results.length cg443] 28)) w24.heap.size (.int .i64 (corrF x0 x1).clubs) (.slice Ag443 (corrF x0 x1).results.length cg443)) := ⟨by simp, by simp, by simp⟩
  clear hal
  clear f402
  clear f422
  go_wp2_with fail
  generalize (w24.alloc (.cells #[.int .i64 (corrF x0 x1).clubs, .slice Ag443 (corrF x0 x1).results.length cg443] 28)) = w25 at *
  try clear P0a P0b P0l P0n Xg105a Xg105b Xg105l Xg105n Xf129a Xf129b Xf129l Xf129n Xg180a Xg180b Xg180l Xg180n
  replace g105 := g105.out
  replace g180 := g180.out
  replace g443 := g443.out
  replace P0 := P0.out
  replace Xg105 := Xg105.out
  replace Xf129 := Xf129.out
  replace Xg180 := Xg180.out
  replace B := B.out
  replace Xg443 := Xg443.out
  generalize w24.heap.size = pXg443 at *
  have zpXg443 := Xg443.2.2
  refine (eqLeague_std _ _ _ _ g443.in_ g105.in_ m0).mono ?_
  rintro e w26 ⟨rfl, b⟩
  replace g105 := g105.grow b
  replace g180 := g180.grow b
  replace g443 := g443.grow b
  replace P0 := P0.below b
  replace Xg105 := Xg105.below b
  replace Xf129 := Xf129.below b
  replace Xg180 := Xg180.below b
  replace Xg443 := Xg443.below b
  have z := b.size
  replace B := B.trans (b.mono B.size)
  clear b
  obtain ⟨P0a, P0b, -⟩ := id P0
  obtain ⟨Xg105a, Xg105b, -⟩ := id Xg105
  obtain ⟨Xf129a, Xf129b, -⟩ := id Xf129
  obtain ⟨Xg180a, Xg180b, -⟩ := id Xg180
  obtain ⟨Xg443a, Xg443b, -⟩ := id Xg443
  go_wp2_with fail
  clear P0a P0b
  clear Xg105a Xg105b
  clear Xf129a Xf129b
  clear Xg180a Xg180b
  clear Xg443a Xg443b
  refine (heldLeague_std _ ((corrF x0 x1)) _ _ g180.in_ m0 (by omega) (by omega)).mono ?_
  rintro e w27 ⟨rfl, b⟩
  replace g105 := g105.grow b
  replace g180 := g180.grow b
  replace g443 := g443.grow b
  replace P0 := P0.below b
  replace Xg105 := Xg105.below b
  replace Xf129 := Xf129.below b
  replace Xg180 := Xg180.below b
  replace Xg443 := Xg443.below b
  have z := b.size
  replace B := B.trans (b.mono B.size)
  clear b
  go_wp2
  go_ret
  exact ⟨rfl, B⟩
end Go.Proofs.Ythfllppknngfpaa
