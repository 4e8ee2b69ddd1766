/- The walks of the exact laws over slices (moved clubs). -/
import Derived.Test.YtaednfoabklnmaaMv
import Derived.Test.YtaednfoabklnmaaRepl
namespace Go.Proofs.Ytaednfoabklnmaa
open Go.ChangeShapes Go.WideShapes Go.ChangeAt Go.RowKit

set_option maxHeartbeats 2000000 in
set_option maxRecDepth 100000 in
theorem lawFnExactMovedClubs (v0 : Value) (x0 : LeagueV) (v1 : Value) (x1 : LeagueV) (w : World) (h0 : InL w v0 x0) (h1 : InL w v1 x1) :
    Calls Try.prog 7 #[v0, v1] w fun e w' => e = .returned (.bool true) ∧ Below w.heap.size w w' := by
  have H0 := Lib.hid h0
  obtain ⟨A0, c0, rfl, hc0, hm0, -⟩ := h0
  have h0 := H0.out; clear H0; unfold maxLen at hm0
  have H1 := Lib.hid h1
  obtain ⟨A1, c1, rfl, hc1, hm1, -⟩ := h1
  have h1 := H1.out; clear H1; unfold maxLen at hm1
  by_cases l0 : ((x0.results.length : Nat) : Int) ≤ (1048576 : Int)
  case neg =>
    have B := Below.refl w.heap.size w
    have hal : Below w.heap.size w (w.alloc (.cells #[.int .i64 x0.clubs, .slice A0 x0.results.length c0] 24)) := (Below.refl _ w).alloc (Nat.le_refl _) _
    replace B := Lib.hid (B.trans (hal.mono B.size))
    have P0 : Hid (Bx (w.alloc (.cells #[.int .i64 x0.clubs, .slice A0 x0.results.length c0] 24)) w.heap.size (.int .i64 x0.clubs) (.slice A0 x0.results.length c0)) := ⟨by simp, by simp, by simp⟩
    clear hal
    have hal : Below ((w.alloc (.cells #[.int .i64 x0.clubs, .slice A0 x0.results.length c0] 24))).heap.size (w.alloc (.cells #[.int .i64 x0.clubs, .slice A0 x0.results.length c0] 24)) ((w.alloc (.cells #[.int .i64 x0.clubs, .slice A0 x0.results.length c0] 24)).alloc (.cells #[.int .i64 x1.clubs, .slice A1 x1.results.length c1] 24)) := (Below.refl _ (w.alloc (.cells #[.int .i64 x0.clubs, .slice A0 x0.results.length c0] 24))).alloc (Nat.le_refl _) _
    replace P0 := Lib.hid (P0.out.below hal)
    replace B := Lib.hid (B.out.trans (hal.mono B.out.size))
    have P1 : Hid (Bx ((w.alloc (.cells #[.int .i64 x0.clubs, .slice A0 x0.results.length c0] 24)).alloc (.cells #[.int .i64 x1.clubs, .slice A1 x1.results.length c1] 24)) (w.heap.size + 1) (.int .i64 x1.clubs) (.slice A1 x1.results.length c1)) := ⟨by simp, by simp, by simp⟩
    clear hal
    go_enter Try.func7, Try.ntmps7
    go_wp2_with fail
    generalize ((w.alloc (.cells #[.int .i64 x0.clubs, .slice A0 x0.results.length c0] 24)).alloc (.cells #[.int .i64 x1.clubs, .slice A1 x1.results.length c1] 24)) = w1 at *
    replace P0 := P0.out
    replace B := B.out
    replace P1 := P1.out
    have zP0 := P0.2.2
    have zP1 := P1.2.2
    refine (szLeague_any _ x0 _ _ (h0.below B) (by omega) (by omega)).mono ?_
    rintro e w2 ⟨rfl, b⟩
    replace P0 := P0.below b
    replace P1 := P1.below b
    have z := b.size
    replace B := B.trans (b.mono B.size)
    clear b
    rw [szQ_neg (by omega)]
    go_wp2
    go_ret
    exact ⟨rfl, B⟩
  have n0 : x0.results.length ≤ 1048576 := by omega
  by_cases l1 : ((x1.results.length : Nat) : Int) ≤ (1048576 : Int) - ((x0.results.length : Nat) : Int)
  case neg =>
    have B := Below.refl w.heap.size w
    have hal : Below w.heap.size w (w.alloc (.cells #[.int .i64 x0.clubs, .slice A0 x0.results.length c0] 24)) := (Below.refl _ w).alloc (Nat.le_refl _) _
    replace B := Lib.hid (B.trans (hal.mono B.size))
    have P0 : Hid (Bx (w.alloc (.cells #[.int .i64 x0.clubs, .slice A0 x0.results.length c0] 24)) w.heap.size (.int .i64 x0.clubs) (.slice A0 x0.results.length c0)) := ⟨by simp, by simp, by simp⟩
    clear hal
    have hal : Below ((w.alloc (.cells #[.int .i64 x0.clubs, .slice A0 x0.results.length c0] 24))).heap.size (w.alloc (.cells #[.int .i64 x0.clubs, .slice A0 x0.results.length c0] 24)) ((w.alloc (.cells #[.int .i64 x0.clubs, .slice A0 x0.results.length c0] 24)).alloc (.cells #[.int .i64 x1.clubs, .slice A1 x1.results.length c1] 24)) := (Below.refl _ (w.alloc (.cells #[.int .i64 x0.clubs, .slice A0 x0.results.length c0] 24))).alloc (Nat.le_refl _) _
    replace P0 := Lib.hid (P0.out.below hal)
    replace B := Lib.hid (B.out.trans (hal.mono B.out.size))
    have P1 : Hid (Bx ((w.alloc (.cells #[.int .i64 x0.clubs, .slice A0 x0.results.length c0] 24)).alloc (.cells #[.int .i64 x1.clubs, .slice A1 x1.results.length c1] 24)) (w.heap.size + 1) (.int .i64 x1.clubs) (.slice A1 x1.results.length c1)) := ⟨by simp, by simp, by simp⟩
    clear hal
    go_enter Try.func7, Try.ntmps7
    go_wp2_with fail
    generalize ((w.alloc (.cells #[.int .i64 x0.clubs, .slice A0 x0.results.length c0] 24)).alloc (.cells #[.int .i64 x1.clubs, .slice A1 x1.results.length c1] 24)) = w1 at *
    replace P0 := P0.out
    replace B := B.out
    replace P1 := P1.out
    have zP0 := P0.2.2
    have zP1 := P1.2.2
    refine (szLeague_any _ x0 _ _ (h0.below B) (by omega) (by omega)).mono ?_
    rintro e w2 ⟨rfl, b⟩
    replace P0 := P0.below b
    replace P1 := P1.below b
    have z := b.size
    replace B := B.trans (b.mono B.size)
    clear b
    rw [szQ_pos (by omega)]
    obtain ⟨P0a, P0b, -⟩ := id P0
    obtain ⟨P1a, P1b, -⟩ := id P1
    go_wp2_with fail
    clear P0a P0b
    clear P1a P1b
    refine (szLeague_any _ x1 _ _ (h1.below B) (by omega) (by omega)).mono ?_
    rintro e w3 ⟨rfl, b⟩
    replace P0 := P0.below b
    replace P1 := P1.below b
    have z := b.size
    replace B := B.trans (b.mono B.size)
    clear b
    rw [szQ_neg (by omega)]
    go_wp2
    go_ret
    exact ⟨rfl, B⟩
  have n1 : x1.results.length ≤ 1048576 := by omega
  have B := Below.refl w.heap.size w
  have hal : Below w.heap.size w (w.alloc (.cells #[.int .i64 x0.clubs, .slice A0 x0.results.length c0] 24)) := (Below.refl _ w).alloc (Nat.le_refl _) _
  replace B := Lib.hid (B.trans (hal.mono B.size))
  have P0 : Hid (Bx (w.alloc (.cells #[.int .i64 x0.clubs, .slice A0 x0.results.length c0] 24)) w.heap.size (.int .i64 x0.clubs) (.slice A0 x0.results.length c0)) := ⟨by simp, by simp, by simp⟩
  clear hal
  have hal : Below ((w.alloc (.cells #[.int .i64 x0.clubs, .slice A0 x0.results.length c0] 24))).heap.size (w.alloc (.cells #[.int .i64 x0.clubs, .slice A0 x0.results.length c0] 24)) ((w.alloc (.cells #[.int .i64 x0.clubs, .slice A0 x0.results.length c0] 24)).alloc (.cells #[.int .i64 x1.clubs, .slice A1 x1.results.length c1] 24)) := (Below.refl _ (w.alloc (.cells #[.int .i64 x0.clubs, .slice A0 x0.results.length c0] 24))).alloc (Nat.le_refl _) _
  replace P0 := Lib.hid (P0.out.below hal)
  replace B := Lib.hid (B.out.trans (hal.mono B.out.size))
  have P1 : Hid (Bx ((w.alloc (.cells #[.int .i64 x0.clubs, .slice A0 x0.results.length c0] 24)).alloc (.cells #[.int .i64 x1.clubs, .slice A1 x1.results.length c1] 24)) (w.heap.size + 1) (.int .i64 x1.clubs) (.slice A1 x1.results.length c1)) := ⟨by simp, by simp, by simp⟩
  clear hal
  go_enter Try.func7, Try.ntmps7
  go_wp2_with fail
  generalize ((w.alloc (.cells #[.int .i64 x0.clubs, .slice A0 x0.results.length c0] 24)).alloc (.cells #[.int .i64 x1.clubs, .slice A1 x1.results.length c1] 24)) = w1 at *
  replace P0 := P0.out
  replace B := B.out
  replace P1 := P1.out
  have zP0 := P0.2.2
  have zP1 := P1.2.2
  refine (szLeague_any _ x0 _ _ (h0.below B) (by omega) (by omega)).mono ?_
  rintro e w2 ⟨rfl, b⟩
  replace P0 := P0.below b
  replace P1 := P1.below b
  have z := b.size
  replace B := B.trans (b.mono B.size)
  clear b
  rw [szQ_pos (by omega)]
  obtain ⟨P0a, P0b, -⟩ := id P0
  obtain ⟨P1a, P1b, -⟩ := id P1
  go_wp2_with fail
  clear P0a P0b
  clear P1a P1b
  refine (szLeague_any _ x1 _ _ (h1.below B) (by omega) (by omega)).mono ?_
  rintro e w3 ⟨rfl, b⟩
  replace P0 := P0.below b
  replace P1 := P1.below b
  have z := b.size
  replace B := B.trans (b.mono B.size)
  clear b
  rw [szQ_pos (by omega)]
  obtain ⟨P0a, P0b, -⟩ := id P0
  obtain ⟨P1a, P1b, -⟩ := id P1
  go_wp2_with fail
  have tok0 : True := trivial
  have tok1 : True := trivial
  go_region_held3 (fun W => W.cell? ⟨w.heap.size, 0, none⟩ = some (.int .i64 x0.clubs) ∧ W.cell? ⟨w.heap.size, 1, none⟩ = some (.slice A0 x0.results.length c0) ∧ W.cell? ⟨(w.heap.size + 1), 0, none⟩ = some (.int .i64 x1.clubs) ∧ W.cell? ⟨(w.heap.size + 1), 1, none⟩ = some (.slice A1 x1.results.length c1)) (first | exact ⟨P0a, P0b, P1a, P1b⟩) (first
    | (go_at_call 16; clear tok0; refine (toLeague_std _ x0 _ (h0.below (below_drewL B)) n0).mono ?_; rintro e w4 ⟨ut130_0, rfl, t130_0, b⟩; replace P0 := P0.drew.below b; replace P1 := P1.drew.below b; have z : w3.heap.size ≤ w4.heap.size := b.size; replace B := below_drewL B; replace B := B.trans (b.mono B.size); clear b P0a P0b P1a P1b; obtain ⟨P0a, P0b, -⟩ := id P0; obtain ⟨P1a, P1b, -⟩ := id P1)
    | (go_at_call 16; clear tok1; refine (toLeague_std _ x1 _ (h1.below B) n1).mono ?_; rintro e w5 ⟨ut130_1, rfl, t130_1, b⟩; replace t130_0 := t130_0.grow b; replace P0 := P0.below b; replace P1 := P1.below b; have z : w4.heap.size ≤ w5.heap.size := b.size; replace B := B.trans (b.mono B.size); clear b P0a P0b P1a P1b; obtain ⟨P0a, P0b, -⟩ := id P0; obtain ⟨P1a, P1b, -⟩ := id P1)
    | (go_at_call 31; refine (specMovedClubs_std _ x0 _ x1 _ t130_0.in_ n0 t130_1.in_ n1).mono ?_; rintro e w6 ⟨rfl, b⟩; replace t130_0 := t130_0.grow b; replace t130_1 := t130_1.grow b; replace P0 := P0.below b; replace P1 := P1.below b; have z : w5.heap.size ≤ w6.heap.size := b.size; replace B := B.trans (b.mono B.size); clear b P0a P0b P1a P1b; obtain ⟨P0a, P0b, -⟩ := id P0; obtain ⟨P1a, P1b, -⟩ := id P1))
  clear t130_0 t130_1 P0a P0b P1a P1b
  obtain ⟨P0a, P0b, -⟩ := id P0
  obtain ⟨P1a, P1b, -⟩ := id P1
  go_wp2_with fail
  clear P0a P0b
  clear P1a P1b
  refine (toLeague_std _ x0 _ (h0.below B) n0).mono ?_
  rintro e w7 ⟨u137, rfl, f137, b⟩
  replace P0 := P0.below b
  replace P1 := P1.below b
  have z := b.size
  replace B := B.trans (b.mono B.size)
  clear b
  obtain ⟨Af137, cf137, rfl⟩ := f137.form
  have hal : Below w7.heap.size w7 (w7.alloc (.cells #[.int .i64 x0.clubs, .slice Af137 x0.results.length cf137] 28)) := (Below.refl _ w7).alloc (Nat.le_refl _) _
  obtain ⟨P0a, P0b, P0l⟩ := id P0
  have P0n : ¬ w.heap.size = w7.heap.size := by omega
  obtain ⟨P1a, P1b, P1l⟩ := id P1
  have P1n : ¬ (w.heap.size + 1) = w7.heap.size := by omega
  replace f137 := Lib.hid (f137.grow hal)
  replace P0 := Lib.hid (P0.below hal)
  replace P1 := Lib.hid (P1.below hal)
  replace B := Lib.hid (B.trans (hal.mono B.size))
  have Xf137 : Hid (Bx (w7.alloc (.cells #[.int .i64 x0.clubs, .slice Af137 x0.results.length cf137] 28)) w7.heap.size (.int .i64 x0.clubs) (.slice Af137 x0.results.length cf137)) := ⟨by simp, by simp, by simp⟩
  clear hal
  go_wp2_with fail
  generalize (w7.alloc (.cells #[.int .i64 x0.clubs, .slice Af137 x0.results.length cf137] 28)) = w8 at *
  try clear P0a P0b P0l P0n P1a P1b P1l P1n
  replace f137 := f137.out
  replace P0 := P0.out
  replace P1 := P1.out
  replace B := B.out
  replace Xf137 := Xf137.out
  generalize w7.heap.size = pXf137 at *
  have zpXf137 := Xf137.2.2
  refine (toLeague_std _ x1 _ (h1.below B) n1).mono ?_
  rintro e w9 ⟨u161, rfl, f161, b⟩
  replace f137 := f137.grow b
  replace P0 := P0.below b
  replace P1 := P1.below b
  replace Xf137 := Xf137.below b
  have z := b.size
  replace B := B.trans (b.mono B.size)
  clear b
  obtain ⟨Af161, cf161, rfl⟩ := f161.form
  have hal : Below w9.heap.size w9 (w9.alloc (.cells #[.int .i64 x1.clubs, .slice Af161 x1.results.length cf161] 28)) := (Below.refl _ w9).alloc (Nat.le_refl _) _
  obtain ⟨P0a, P0b, P0l⟩ := id P0
  have P0n : ¬ w.heap.size = w9.heap.size := by omega
  obtain ⟨P1a, P1b, P1l⟩ := id P1
  have P1n : ¬ (w.heap.size + 1) = w9.heap.size := by omega
  obtain ⟨Xf137a, Xf137b, Xf137l⟩ := id Xf137
  have Xf137n : ¬ pXf137 = w9.heap.size := by omega
  replace f137 := Lib.hid (f137.grow hal)
  replace f161 := Lib.hid (f161.grow hal)
  replace P0 := Lib.hid (P0.below hal)
  replace P1 := Lib.hid (P1.below hal)
  replace Xf137 := Lib.hid (Xf137.below hal)
  replace B := Lib.hid (B.trans (hal.mono B.size))
  have Xf161 : Hid (Bx (w9.alloc (.cells #[.int .i64 x1.clubs, .slice Af161 x1.results.length cf161] 28)) w9.heap.size (.int .i64 x1.clubs) (.slice Af161 x1.results.length cf161)) := ⟨by simp, by simp, by simp⟩
  clear hal
  go_wp2_with fail
  generalize (w9.alloc (.cells #[.int .i64 x1.clubs, .slice Af161 x1.results.length cf161] 28)) = w10 at *
  try clear P0a P0b P0l P0n P1a P1b P1l P1n Xf137a Xf137b Xf137l Xf137n
  replace f137 := f137.out
  replace f161 := f161.out
  replace P0 := P0.out
  replace P1 := P1.out
  replace Xf137 := Xf137.out
  replace B := B.out
  replace Xf161 := Xf161.out
  generalize w9.heap.size = pXf161 at *
  have zpXf161 := Xf161.2.2
  refine (implMovedClubs_std _ x0 _ x1 _ f137.in_ n0 f161.in_ n1).mono ?_
  rintro e w11 ⟨rfl, b⟩
  replace f137 := f137.grow b
  replace f161 := f161.grow b
  replace P0 := P0.below b
  replace P1 := P1.below b
  replace Xf137 := Xf137.below b
  replace Xf161 := Xf161.below b
  have z := b.size
  replace B := B.trans (b.mono B.size)
  clear b
  obtain ⟨P0a, P0b, -⟩ := id P0
  obtain ⟨Xf137a, Xf137b, -⟩ := id Xf137
  go_wp2_with fail
  go_region_held3 (fun W => W.cell? ⟨w.heap.size, 0, none⟩ = some (.int .i64 x0.clubs) ∧ W.cell? ⟨w.heap.size, 1, none⟩ = some (.slice A0 x0.results.length c0) ∧ W.cell? ⟨pXf137, 0, none⟩ = some (.int .i64 x0.clubs) ∧ W.cell? ⟨pXf137, 1, none⟩ = some (.slice Af137 x0.results.length cf137)) (first | exact ⟨P0a, P0b, Xf137a, Xf137b⟩) (first
    | (go_at_call 16; refine (toLeague_std _ x0 _ (h0.below (below_drewL B)) n0).mono ?_; rintro e w12 ⟨ut222, rfl, t222, b⟩; replace f137 := f137.drew.grow b; replace f161 := f161.drew.grow b; replace P0 := P0.drew.below b; replace P1 := P1.drew.below b; replace Xf137 := Xf137.drew.below b; replace Xf161 := Xf161.drew.below b; have z : w11.heap.size ≤ w12.heap.size := b.size; replace B := below_drewL B; replace B := B.trans (b.mono B.size); clear b P0a P0b Xf137a Xf137b; obtain ⟨P0a, P0b, -⟩ := id P0; obtain ⟨Xf137a, Xf137b, -⟩ := id Xf137)
    | (go_at_call 18; refine (eqLeague_std _ _ _ _ f137.in_ t222.in_ n0).mono ?_; rintro e w13 ⟨rfl, b⟩; replace f137 := f137.grow b; replace f161 := f161.grow b; replace t222 := t222.grow b; replace P0 := P0.below b; replace P1 := P1.below b; replace Xf137 := Xf137.below b; replace Xf161 := Xf161.below b; have z : w12.heap.size ≤ w13.heap.size := b.size; replace B := B.trans (b.mono B.size); clear b P0a P0b Xf137a Xf137b; obtain ⟨P0a, P0b, -⟩ := id P0; obtain ⟨Xf137a, Xf137b, -⟩ := id Xf137))
  clear t222 P0a P0b Xf137a Xf137b
  obtain ⟨P1a, P1b, -⟩ := id P1
  obtain ⟨Xf161a, Xf161b, -⟩ := id Xf161
  go_wp2_with fail
  go_region_held3 (fun W => W.cell? ⟨(w.heap.size + 1), 0, none⟩ = some (.int .i64 x1.clubs) ∧ W.cell? ⟨(w.heap.size + 1), 1, none⟩ = some (.slice A1 x1.results.length c1) ∧ W.cell? ⟨pXf161, 0, none⟩ = some (.int .i64 x1.clubs) ∧ W.cell? ⟨pXf161, 1, none⟩ = some (.slice Af161 x1.results.length cf161)) (first | exact ⟨P1a, P1b, Xf161a, Xf161b⟩) (first
    | (go_at_call 16; refine (toLeague_std _ x1 _ (h1.below (below_drewL B)) n1).mono ?_; rintro e w14 ⟨ut229, rfl, t229, b⟩; replace f137 := f137.drew.grow b; replace f161 := f161.drew.grow b; replace P0 := P0.drew.below b; replace P1 := P1.drew.below b; replace Xf137 := Xf137.drew.below b; replace Xf161 := Xf161.drew.below b; have z : w13.heap.size ≤ w14.heap.size := b.size; replace B := below_drewL B; replace B := B.trans (b.mono B.size); clear b P1a P1b Xf161a Xf161b; obtain ⟨P1a, P1b, -⟩ := id P1; obtain ⟨Xf161a, Xf161b, -⟩ := id Xf161)
    | (go_at_call 18; refine (eqLeague_std _ _ _ _ f161.in_ t229.in_ n1).mono ?_; rintro e w15 ⟨rfl, b⟩; replace f137 := f137.grow b; replace f161 := f161.grow b; replace t229 := t229.grow b; replace P0 := P0.below b; replace P1 := P1.below b; replace Xf137 := Xf137.below b; replace Xf161 := Xf161.below b; have z : w14.heap.size ≤ w15.heap.size := b.size; replace B := B.trans (b.mono B.size); clear b P1a P1b Xf161a Xf161b; obtain ⟨P1a, P1b, -⟩ := id P1; obtain ⟨Xf161a, Xf161b, -⟩ := id Xf161))
  clear t229 P1a P1b Xf161a Xf161b
  go_wp2
  go_ret
  exact ⟨rfl, B⟩
end Go.Proofs.Ytaednfoabklnmaa
