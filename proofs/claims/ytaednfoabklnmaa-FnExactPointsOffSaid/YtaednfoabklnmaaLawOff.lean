/- The walks of the exact laws over slices (points off). -/
import Derived.Test.YtaednfoabklnmaaOh
import Derived.Test.YtaednfoabklnmaaRepl
namespace Go.Proofs.Ytaednfoabklnmaa
open Go.ChangeShapes Go.WideShapes Go.ChangeAt Go.RowKit

set_option maxHeartbeats 2000000 in
set_option maxRecDepth 100000 in
theorem lawFnExactPointsOff (v0 : Value) (x0 : LeagueV) (v1 : Value) (x1 : List Int) (w : World) (h0 : InL w v0 x0) (h1 : InI w v1 x1) :
    Calls Try.prog 11 #[v0, v1] w fun e w' => e = .returned (.bool true) ∧ Below w.heap.size w w' := by
  have H1 := Lib.hid h1
  obtain ⟨A1, c1, rfl, hc1, hm1, -⟩ := h1
  have h1 := H1.out; clear H1; unfold maxLen at hm1
  have H0 := Lib.hid h0
  obtain ⟨A0, c0, rfl, hc0, hm0, -⟩ := h0
  have h0 := H0.out; clear H0; unfold maxLen at hm0
  by_cases n1 : x1.length ≤ 1048576
  case neg =>
    go_enter Try.func11, Try.ntmps11
    go_wp2
    go_ret
    first | exact ⟨rfl, (Below.refl _ w).alloc (Nat.le_refl _) _⟩ | exact ⟨rfl, ((Below.refl _ w).alloc (Nat.le_refl _) _).alloc (by simp) _⟩
  by_cases l0 : ((x0.results.length : Nat) : Int) ≤ (1048576 : Int)
  case neg =>
    have B := Below.refl w.heap.size w
    have hal : Below w.heap.size w (w.alloc (.cells #[.int .i64 x0.clubs, .slice A0 x0.results.length c0] 24)) := (Below.refl _ w).alloc (Nat.le_refl _) _
    replace B := Lib.hid (B.trans (hal.mono B.size))
    have P0 : Hid (Bx (w.alloc (.cells #[.int .i64 x0.clubs, .slice A0 x0.results.length c0] 24)) w.heap.size (.int .i64 x0.clubs) (.slice A0 x0.results.length c0)) := ⟨by simp, by simp, by simp⟩
    clear hal
    go_enter Try.func11, Try.ntmps11
    go_wp2_with fail
    generalize (w.alloc (.cells #[.int .i64 x0.clubs, .slice A0 x0.results.length c0] 24)) = w1 at *
    replace B := B.out
    replace P0 := P0.out
    have zP0 := P0.2.2
    refine (szLeague_any _ x0 _ _ (h0.below B) (by omega) (by omega)).mono ?_
    rintro e w2 ⟨rfl, b⟩
    replace P0 := P0.below b
    have z := b.size
    replace B := B.trans (b.mono B.size)
    clear b
    rw [szQ_neg (by omega)]
    go_wp2
    go_ret
    exact ⟨rfl, B⟩
  have n0 : x0.results.length ≤ 1048576 := by omega
  have m0 : (offF x0 x1).length ≤ 1048576 := offF_len
  have B := Below.refl w.heap.size w
  have hal : Below w.heap.size w (w.alloc (.cells #[.int .i64 x0.clubs, .slice A0 x0.results.length c0] 24)) := (Below.refl _ w).alloc (Nat.le_refl _) _
  replace B := Lib.hid (B.trans (hal.mono B.size))
  have P0 : Hid (Bx (w.alloc (.cells #[.int .i64 x0.clubs, .slice A0 x0.results.length c0] 24)) w.heap.size (.int .i64 x0.clubs) (.slice A0 x0.results.length c0)) := ⟨by simp, by simp, by simp⟩
  clear hal
  go_enter Try.func11, Try.ntmps11
  go_wp2_with fail
  generalize (w.alloc (.cells #[.int .i64 x0.clubs, .slice A0 x0.results.length c0] 24)) = w1 at *
  replace B := B.out
  replace P0 := P0.out
  have zP0 := P0.2.2
  refine (szLeague_any _ x0 _ _ (h0.below B) (by omega) (by omega)).mono ?_
  rintro e w2 ⟨rfl, b⟩
  replace P0 := P0.below b
  have z := b.size
  replace B := B.trans (b.mono B.size)
  clear b
  rw [szQ_pos (by omega)]
  obtain ⟨P0a, P0b, -⟩ := id P0
  go_wp2_with fail
  clear P0a P0b
  refine (toLeague_std _ x0 _ (h0.below B) n0).mono ?_
  rintro e w3 ⟨u60, rfl, f60, b⟩
  replace P0 := P0.below b
  have z := b.size
  replace B := B.trans (b.mono B.size)
  clear b
  obtain ⟨P0a, P0b, -⟩ := id P0
  go_wp2_with fail
  clear P0a P0b
  refine (toIntS_std _ x1 _ (h1.below B) n1).mono ?_
  rintro e w4 ⟨u69, rfl, f69, b⟩
  replace f60 := f60.grow b
  replace P0 := P0.below b
  have z := b.size
  replace B := B.trans (b.mono B.size)
  clear b
  obtain ⟨P0a, P0b, -⟩ := id P0
  go_wp2_with fail
  clear P0a P0b
  refine (specPointsOff_std _ x0 _ x1 _ f60.in_ n0 f69.in_ n1).mono ?_
  rintro e w5 ⟨r79, rfl, g79, b⟩
  replace f60 := f60.grow b
  replace f69 := f69.grow b
  replace P0 := P0.below b
  have z := b.size
  replace B := B.trans (b.mono B.size)
  clear b
  clear f60
  clear f69
  obtain ⟨P0a, P0b, -⟩ := id P0
  go_wp2_with fail
  clear P0a P0b
  refine (toLeague_std _ x0 _ (h0.below B) n0).mono ?_
  rintro e w6 ⟨u92, rfl, f92, b⟩
  replace g79 := g79.grow b
  replace P0 := P0.below b
  have z := b.size
  replace B := B.trans (b.mono B.size)
  clear b
  obtain ⟨Af92, cf92, rfl⟩ := f92.form
  have hal : Below w6.heap.size w6 (w6.alloc (.cells #[.int .i64 x0.clubs, .slice Af92 x0.results.length cf92] 28)) := (Below.refl _ w6).alloc (Nat.le_refl _) _
  obtain ⟨P0a, P0b, P0l⟩ := id P0
  have P0n : ¬ w.heap.size = w6.heap.size := by omega
  replace g79 := Lib.hid (g79.grow hal)
  replace f92 := Lib.hid (f92.grow hal)
  replace P0 := Lib.hid (P0.below hal)
  replace B := Lib.hid (B.trans (hal.mono B.size))
  have Xf92 : Hid (Bx (w6.alloc (.cells #[.int .i64 x0.clubs, .slice Af92 x0.results.length cf92] 28)) w6.heap.size (.int .i64 x0.clubs) (.slice Af92 x0.results.length cf92)) := ⟨by simp, by simp, by simp⟩
  clear hal
  go_wp2_with fail
  generalize (w6.alloc (.cells #[.int .i64 x0.clubs, .slice Af92 x0.results.length cf92] 28)) = w7 at *
  try clear P0a P0b P0l P0n
  replace g79 := g79.out
  replace f92 := f92.out
  replace P0 := P0.out
  replace B := B.out
  replace Xf92 := Xf92.out
  generalize w6.heap.size = pXf92 at *
  have zpXf92 := Xf92.2.2
  refine (toIntS_std _ x1 _ (h1.below B) n1).mono ?_
  rintro e w8 ⟨u112, rfl, f112, b⟩
  replace g79 := g79.grow b
  replace f92 := f92.grow b
  replace P0 := P0.below b
  replace Xf92 := Xf92.below b
  have z := b.size
  replace B := B.trans (b.mono B.size)
  clear b
  obtain ⟨P0a, P0b, -⟩ := id P0
  obtain ⟨Xf92a, Xf92b, -⟩ := id Xf92
  go_wp2_with fail
  clear P0a P0b
  clear Xf92a Xf92b
  refine (implPointsOff_std _ x0 _ x1 _ f92.in_ n0 f112.in_ n1).mono ?_
  rintro e w9 ⟨r131, rfl, g131, b⟩
  replace g79 := g79.grow b
  replace f92 := f92.grow b
  replace f112 := f112.grow b
  replace P0 := P0.below b
  replace Xf92 := Xf92.below b
  have z := b.size
  replace B := B.trans (b.mono B.size)
  clear b
  obtain ⟨P0a, P0b, -⟩ := id P0
  obtain ⟨Xf92a, Xf92b, -⟩ := id Xf92
  go_wp2_with fail
  clear P0a P0b
  clear Xf92a Xf92b
  refine (eqIntS_std _ _ _ _ g131.in_ g79.in_ m0).mono ?_
  rintro e w10 ⟨rfl, b⟩
  replace g79 := g79.grow b
  replace f92 := f92.grow b
  replace f112 := f112.grow b
  replace g131 := g131.grow b
  replace P0 := P0.below b
  replace Xf92 := Xf92.below b
  have z := b.size
  replace B := B.trans (b.mono B.size)
  clear b
  obtain ⟨P0a, P0b, -⟩ := id P0
  obtain ⟨Xf92a, Xf92b, -⟩ := id Xf92
  go_wp2_with fail
  go_region_held3 (fun W => W.cell? ⟨w.heap.size, 0, none⟩ = some (.int .i64 x0.clubs) ∧ W.cell? ⟨w.heap.size, 1, none⟩ = some (.slice A0 x0.results.length c0) ∧ W.cell? ⟨pXf92, 0, none⟩ = some (.int .i64 x0.clubs) ∧ W.cell? ⟨pXf92, 1, none⟩ = some (.slice Af92 x0.results.length cf92)) (first | exact ⟨P0a, P0b, Xf92a, Xf92b⟩) (first
    | (go_at_call 16; refine (toLeague_std _ x0 _ (h0.below (below_drewL B)) n0).mono ?_; rintro e w11 ⟨ut165, rfl, t165, b⟩; replace g79 := g79.drew.grow b; replace f92 := f92.drew.grow b; replace f112 := f112.drew.grow b; replace g131 := g131.drew.grow b; replace P0 := P0.drew.below b; replace Xf92 := Xf92.drew.below b; have z : w10.heap.size ≤ w11.heap.size := b.size; replace B := below_drewL B; replace B := B.trans (b.mono B.size); clear b P0a P0b Xf92a Xf92b; obtain ⟨P0a, P0b, -⟩ := id P0; obtain ⟨Xf92a, Xf92b, -⟩ := id Xf92)
    | (go_at_call 18; refine (eqLeague_std _ _ _ _ f92.in_ t165.in_ n0).mono ?_; rintro e w12 ⟨rfl, b⟩; replace g79 := g79.grow b; replace f92 := f92.grow b; replace f112 := f112.grow b; replace g131 := g131.grow b; replace t165 := t165.grow b; replace P0 := P0.below b; replace Xf92 := Xf92.below b; have z : w11.heap.size ≤ w12.heap.size := b.size; replace B := B.trans (b.mono B.size); clear b P0a P0b Xf92a Xf92b; obtain ⟨P0a, P0b, -⟩ := id P0; obtain ⟨Xf92a, Xf92b, -⟩ := id Xf92))
  clear t165 P0a P0b Xf92a Xf92b
  obtain ⟨P0a, P0b, -⟩ := id P0
  obtain ⟨Xf92a, Xf92b, -⟩ := id Xf92
  go_wp2_with fail
  clear P0a P0b
  clear Xf92a Xf92b
  refine (toIntS_std _ x1 _ (h1.below B) n1).mono ?_
  rintro e w13 ⟨u169, rfl, f169, b⟩
  replace g79 := g79.grow b
  replace f92 := f92.grow b
  replace f112 := f112.grow b
  replace g131 := g131.grow b
  replace P0 := P0.below b
  replace Xf92 := Xf92.below b
  have z := b.size
  replace B := B.trans (b.mono B.size)
  clear b
  obtain ⟨P0a, P0b, -⟩ := id P0
  obtain ⟨Xf92a, Xf92b, -⟩ := id Xf92
  go_wp2_with fail
  clear P0a P0b
  clear Xf92a Xf92b
  refine (eqIntS_std _ _ _ _ f112.in_ f169.in_ n1).mono ?_
  rintro e w14 ⟨rfl, b⟩
  replace g79 := g79.grow b
  replace f92 := f92.grow b
  replace f112 := f112.grow b
  replace g131 := g131.grow b
  replace f169 := f169.grow b
  replace P0 := P0.below b
  replace Xf92 := Xf92.below b
  have z := b.size
  replace B := B.trans (b.mono B.size)
  clear b
  clear f169
  obtain ⟨P0a, P0b, -⟩ := id P0
  obtain ⟨Xf92a, Xf92b, -⟩ := id Xf92
  go_wp2_with fail
  clear P0a P0b
  clear Xf92a Xf92b
  refine (markLeague_std _ _ _ _ _ _ f92 n0 (by omega) (by omega)).mono ?_
  rintro e w15 ⟨rfl, f92', kp⟩
  replace g79 := g79.keep kp (by omega)
  replace f112 := f112.keep kp (by omega)
  replace g131 := g131.keep kp (by omega)
  replace P0 := P0.keep kp (by omega)
  replace Xf92 := Xf92.keep kp (by omega)
  have z := kp.size
  replace B := B.trans (kp.below (by omega) B.size)
  clear kp f92
  have f92 := f92'; clear f92'
  obtain ⟨P0a, P0b, -⟩ := id P0
  obtain ⟨Xf92a, Xf92b, -⟩ := id Xf92
  go_wp2_with fail
  clear P0a P0b
  clear Xf92a Xf92b
  refine (markIntS_std _ _ _ _ _ _ f112 n1 (by omega) (by omega)).mono ?_
  rintro e w16 ⟨rfl, f112', kp⟩
  replace g79 := g79.keep kp (by omega)
  replace f92 := f92.keep kp (by omega)
  replace g131 := g131.keep kp (by omega)
  replace P0 := P0.keep kp (by omega)
  replace Xf92 := Xf92.keep kp (by omega)
  have z := kp.size
  replace B := B.trans (kp.below (by omega) B.size)
  clear kp f112
  have f112 := f112'; clear f112'
  clear f92
  clear f112
  obtain ⟨P0a, P0b, -⟩ := id P0
  obtain ⟨Xf92a, Xf92b, -⟩ := id Xf92
  go_wp2_with fail
  clear P0a P0b
  clear Xf92a Xf92b
  refine (eqIntS_std _ _ _ _ g131.in_ g79.in_ m0).mono ?_
  rintro e w17 ⟨rfl, b⟩
  replace g79 := g79.grow b
  replace g131 := g131.grow b
  replace P0 := P0.below b
  replace Xf92 := Xf92.below b
  have z := b.size
  replace B := B.trans (b.mono B.size)
  clear b
  obtain ⟨P0a, P0b, -⟩ := id P0
  obtain ⟨Xf92a, Xf92b, -⟩ := id Xf92
  go_wp2_with fail
  clear P0a P0b
  clear Xf92a Xf92b
  refine (markIntS_std _ _ _ _ _ _ g131 m0 (by omega) (by omega)).mono ?_
  rintro e w18 ⟨rfl, g131', kp⟩
  replace g79 := g79.keep kp (by omega)
  replace P0 := P0.keep kp (by omega)
  replace Xf92 := Xf92.keep kp (by omega)
  have z := kp.size
  replace B := B.trans (kp.below (by omega) B.size)
  clear kp g131
  have g131 := g131'; clear g131'
  obtain ⟨P0a, P0b, -⟩ := id P0
  obtain ⟨Xf92a, Xf92b, -⟩ := id Xf92
  go_wp2_with fail
  clear P0a P0b
  clear Xf92a Xf92b
  refine (heldIntS_std _ ((offF x0 x1).length) _ _ g131.in_ m0 (by omega) (by omega)).mono ?_
  rintro e w19 ⟨rfl, b⟩
  replace g79 := g79.grow b
  replace g131 := g131.grow b
  replace P0 := P0.below b
  replace Xf92 := Xf92.below b
  have z := b.size
  replace B := B.trans (b.mono B.size)
  clear b
  obtain ⟨P0a, P0b, -⟩ := id P0
  obtain ⟨Xf92a, Xf92b, -⟩ := id Xf92
  go_wp2_with fail
  clear P0a P0b
  clear Xf92a Xf92b
  refine (toLeague_std _ x0 _ (h0.below B) n0).mono ?_
  rintro e w20 ⟨u279, rfl, f279, b⟩
  replace g79 := g79.grow b
  replace g131 := g131.grow b
  replace P0 := P0.below b
  replace Xf92 := Xf92.below b
  have z := b.size
  replace B := B.trans (b.mono B.size)
  clear b
  obtain ⟨P0a, P0b, -⟩ := id P0
  obtain ⟨Xf92a, Xf92b, -⟩ := id Xf92
  go_wp2_with fail
  clear P0a P0b
  clear Xf92a Xf92b
  refine (toIntS_std _ x1 _ (h1.below B) n1).mono ?_
  rintro e w21 ⟨u293, rfl, f293, b⟩
  replace g79 := g79.grow b
  replace g131 := g131.grow b
  replace f279 := f279.grow b
  replace P0 := P0.below b
  replace Xf92 := Xf92.below b
  have z := b.size
  replace B := B.trans (b.mono B.size)
  clear b
  obtain ⟨P0a, P0b, -⟩ := id P0
  obtain ⟨Xf92a, Xf92b, -⟩ := id Xf92
  go_wp2_with fail
  clear P0a P0b
  clear Xf92a Xf92b
  refine (implPointsOff_std _ x0 _ x1 _ f279.in_ n0 f293.in_ n1).mono ?_
  rintro e w22 ⟨r308, rfl, g308, b⟩
  replace g79 := g79.grow b
  replace g131 := g131.grow b
  replace f279 := f279.grow b
  replace f293 := f293.grow b
  replace P0 := P0.below b
  replace Xf92 := Xf92.below b
  have z := b.size
  replace B := B.trans (b.mono B.size)
  clear b
  clear f279
  clear f293
  obtain ⟨P0a, P0b, -⟩ := id P0
  obtain ⟨Xf92a, Xf92b, -⟩ := id Xf92
  go_wp2_with fail
  clear P0a P0b
  clear Xf92a Xf92b
  refine (eqIntS_std _ _ _ _ g308.in_ g79.in_ m0).mono ?_
  rintro e w23 ⟨rfl, b⟩
  replace g79 := g79.grow b
  replace g131 := g131.grow b
  replace g308 := g308.grow b
  replace P0 := P0.below b
  replace Xf92 := Xf92.below b
  have z := b.size
  replace B := B.trans (b.mono B.size)
  clear b
  obtain ⟨P0a, P0b, -⟩ := id P0
  obtain ⟨Xf92a, Xf92b, -⟩ := id Xf92
  go_wp2_with fail
  clear P0a P0b
  clear Xf92a Xf92b
  refine (heldIntS_std _ ((offF x0 x1).length) _ _ g131.in_ m0 (by omega) (by omega)).mono ?_
  rintro e w24 ⟨rfl, b⟩
  replace g79 := g79.grow b
  replace g131 := g131.grow b
  replace g308 := g308.grow b
  replace P0 := P0.below b
  replace Xf92 := Xf92.below b
  have z := b.size
  replace B := B.trans (b.mono B.size)
  clear b
  go_wp2
  go_ret
  exact ⟨rfl, B⟩
end Go.Proofs.Ytaednfoabklnmaa
