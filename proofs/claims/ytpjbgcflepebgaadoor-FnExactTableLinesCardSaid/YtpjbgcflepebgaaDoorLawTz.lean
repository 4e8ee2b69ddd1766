/- The walks of the exact laws over slices (tables as lines). -/
import Derived.Test.YtpjbgcflepebgaaDoorTz
import Derived.Test.YtpjbgcflepebgaaDoorZu
import Derived.Test.YtpjbgcflepebgaaDoorBox
import Derived.Test.YtpjbgcflepebgaaDoorOpen
import Derived.Test.YtpjbgcflepebgaaDoorRepl
namespace Go.Proofs.YtpjbgcflepebgaaDoor
open Go.ChangeShapes Go.WideShapes Go.ChangeAt Go.RowKit

set_option maxHeartbeats 2000000 in
set_option maxRecDepth 100000 in
theorem lawFnExactTableLines (v0 : Value) (x0 : LeagueV) (w : World) (h0 : InL w v0 x0) (ht : tabP w) :
    Calls Tryd.prog 3 #[v0] w fun e w' => e = .returned (.bool true) ∧ Below w.heap.size w w' := by
  have HT := Lib.hid ht
  clear ht
  have H0 := Lib.hid h0
  obtain ⟨A0, c0, rfl, hc0, hm0, -⟩ := h0
  have h0 := H0.out; clear H0; unfold maxLen at hm0
  by_cases l0 : ((x0.results.length : Nat) : Int) ≤ (1048576 : Int)
  case neg =>
    have B := Below.refl w.heap.size w
    have hal : Below w.heap.size w (w.alloc (.cells #[.int .i64 x0.clubs, .slice A0 x0.results.length c0] 24)) := (Below.refl _ w).alloc (Nat.le_refl _) _
    replace B := Lib.hid (B.trans (hal.mono B.size))
    have P0 : Hid (Bx (w.alloc (.cells #[.int .i64 x0.clubs, .slice A0 x0.results.length c0] 24)) w.heap.size (.int .i64 x0.clubs) (.slice A0 x0.results.length c0)) := ⟨by simp, by simp, by simp⟩
    clear hal
    go_enter Tryd.func3, Tryd.ntmps3
    go_wp2_with fail
    generalize (w.alloc (.cells #[.int .i64 x0.clubs, .slice A0 x0.results.length c0] 24)) = w1 at *
    replace B := B.out
    replace P0 := P0.out
    have zP0 := P0.2.2
    refine (szLeague_any _ x0 _ _ (h0.below B) (by omega) (by omega)).mono ?_
    rintro e w2 ⟨rfl, b⟩
    replace P0 := P0.below b
    have z := b.size
    replace B := B.trans (b.mono B.size)
    clear b
    rw [szQ_neg (by omega)]
    go_wp2
    go_ret
    exact ⟨rfl, B⟩
  have n0 : x0.results.length ≤ 1048576 := by omega
  have m0 : (linesF x0).length ≤ 1048576 := linesF_len
  have B := Below.refl w.heap.size w
  have hal : Below w.heap.size w (w.alloc (.cells #[.int .i64 x0.clubs, .slice A0 x0.results.length c0] 24)) := (Below.refl _ w).alloc (Nat.le_refl _) _
  replace B := Lib.hid (B.trans (hal.mono B.size))
  have P0 : Hid (Bx (w.alloc (.cells #[.int .i64 x0.clubs, .slice A0 x0.results.length c0] 24)) w.heap.size (.int .i64 x0.clubs) (.slice A0 x0.results.length c0)) := ⟨by simp, by simp, by simp⟩
  clear hal
  go_enter Tryd.func3, Tryd.ntmps3
  go_wp2_with fail
  generalize (w.alloc (.cells #[.int .i64 x0.clubs, .slice A0 x0.results.length c0] 24)) = w1 at *
  replace B := B.out
  replace P0 := P0.out
  have zP0 := P0.2.2
  refine (szLeague_any _ x0 _ _ (h0.below B) (by omega) (by omega)).mono ?_
  rintro e w2 ⟨rfl, b⟩
  replace P0 := P0.below b
  have z := b.size
  replace B := B.trans (b.mono B.size)
  clear b
  rw [szQ_pos (by omega)]
  obtain ⟨P0a, P0b, -⟩ := id P0
  go_wp2_with fail
  clear P0a P0b
  refine (toLeague_std _ x0 _ (h0.below B) n0).mono ?_
  rintro e w3 ⟨u53, rfl, f53, b⟩
  replace P0 := P0.below b
  have z := b.size
  replace B := B.trans (b.mono B.size)
  clear b
  obtain ⟨P0a, P0b, -⟩ := id P0
  go_wp2_with fail
  clear P0a P0b
  refine (specTableLines_std _ x0 _ f53.in_ n0).mono ?_
  rintro e w4 ⟨r62, rfl, g62, b⟩
  replace f53 := f53.grow b
  replace P0 := P0.below b
  have z := b.size
  replace B := B.trans (b.mono B.size)
  clear b
  clear f53
  obtain ⟨P0a, P0b, -⟩ := id P0
  go_wp2_with fail
  clear P0a P0b
  refine (toLeague_std _ x0 _ (h0.below B) n0).mono ?_
  rintro e w5 ⟨u73, rfl, f73, b⟩
  replace g62 := g62.grow b
  replace P0 := P0.below b
  have z := b.size
  replace B := B.trans (b.mono B.size)
  clear b
  obtain ⟨Af73, cf73, rfl⟩ := f73.form
  have hal : Below w5.heap.size w5 (w5.alloc (.cells #[.int .i64 x0.clubs, .slice Af73 x0.results.length cf73] 30)) := (Below.refl _ w5).alloc (Nat.le_refl _) _
  obtain ⟨P0a, P0b, P0l⟩ := id P0
  have P0n : ¬ w.heap.size = w5.heap.size := by omega
  replace g62 := Lib.hid (g62.grow hal)
  replace f73 := Lib.hid (f73.grow hal)
  replace P0 := Lib.hid (P0.below hal)
  replace B := Lib.hid (B.trans (hal.mono B.size))
  have Xf73 : Hid (Bx (w5.alloc (.cells #[.int .i64 x0.clubs, .slice Af73 x0.results.length cf73] 30)) w5.heap.size (.int .i64 x0.clubs) (.slice Af73 x0.results.length cf73)) := ⟨by simp, by simp, by simp⟩
  clear hal
  go_wp2_with fail
  generalize (w5.alloc (.cells #[.int .i64 x0.clubs, .slice Af73 x0.results.length cf73] 30)) = w6 at *
  try clear P0a P0b P0l P0n
  replace g62 := g62.out
  replace f73 := f73.out
  replace P0 := P0.out
  replace B := B.out
  replace Xf73 := Xf73.out
  generalize w5.heap.size = pXf73 at *
  have zpXf73 := Xf73.2.2
  refine (implTableLines_std _ x0 _ f73.in_ n0 (HT.out.below B (Nat.le_refl _))).mono ?_
  rintro e w7 ⟨r93, rfl, g93, b⟩
  replace g62 := g62.grow b
  replace f73 := f73.grow b
  replace P0 := P0.below b
  replace Xf73 := Xf73.below b
  have z := b.size
  replace B := B.trans (b.mono B.size)
  clear b
  obtain ⟨P0a, P0b, -⟩ := id P0
  obtain ⟨Xf73a, Xf73b, -⟩ := id Xf73
  go_wp2_with fail
  clear P0a P0b
  clear Xf73a Xf73b
  refine (eqStringS_std _ _ _ _ g93.in_ g62.in_ m0).mono ?_
  rintro e w8 ⟨rfl, b⟩
  replace g62 := g62.grow b
  replace f73 := f73.grow b
  replace g93 := g93.grow b
  replace P0 := P0.below b
  replace Xf73 := Xf73.below b
  have z := b.size
  replace B := B.trans (b.mono B.size)
  clear b
  obtain ⟨P0a, P0b, -⟩ := id P0
  obtain ⟨Xf73a, Xf73b, -⟩ := id Xf73
  go_wp2_with fail
  go_region_held3 (fun W => W.cell? ⟨w.heap.size, 0, none⟩ = some (.int .i64 x0.clubs) ∧ W.cell? ⟨w.heap.size, 1, none⟩ = some (.slice A0 x0.results.length c0) ∧ W.cell? ⟨pXf73, 0, none⟩ = some (.int .i64 x0.clubs) ∧ W.cell? ⟨pXf73, 1, none⟩ = some (.slice Af73 x0.results.length cf73)) (first | exact ⟨P0a, P0b, Xf73a, Xf73b⟩) (first
    | (go_at_call 6; refine (toLeague_std _ x0 _ (h0.below (below_drewL B)) n0).mono ?_; rintro e w9 ⟨ut130, rfl, t130, b⟩; replace g62 := g62.drew.grow b; replace f73 := f73.drew.grow b; replace g93 := g93.drew.grow b; replace P0 := P0.drew.below b; replace Xf73 := Xf73.drew.below b; have z : w8.heap.size ≤ w9.heap.size := b.size; replace B := below_drewL B; replace B := B.trans (b.mono B.size); clear b P0a P0b Xf73a Xf73b; obtain ⟨P0a, P0b, -⟩ := id P0; obtain ⟨Xf73a, Xf73b, -⟩ := id Xf73)
    | (go_at_call 9; refine (eqLeague_std _ _ _ _ f73.in_ t130.in_ n0).mono ?_; rintro e w10 ⟨rfl, b⟩; replace g62 := g62.grow b; replace f73 := f73.grow b; replace g93 := g93.grow b; replace t130 := t130.grow b; replace P0 := P0.below b; replace Xf73 := Xf73.below b; have z : w9.heap.size ≤ w10.heap.size := b.size; replace B := B.trans (b.mono B.size); clear b P0a P0b Xf73a Xf73b; obtain ⟨P0a, P0b, -⟩ := id P0; obtain ⟨Xf73a, Xf73b, -⟩ := id Xf73))
  clear t130 P0a P0b Xf73a Xf73b
  obtain ⟨P0a, P0b, -⟩ := id P0
  obtain ⟨Xf73a, Xf73b, -⟩ := id Xf73
  go_wp2_with fail
  clear P0a P0b
  clear Xf73a Xf73b
  refine (markLeague_std _ _ _ _ _ _ f73 n0 (by omega) (by omega)).mono ?_
  rintro e w11 ⟨rfl, f73', kp⟩
  replace g62 := g62.keep kp (by omega)
  replace g93 := g93.keep kp (by omega)
  replace P0 := P0.keep kp (by omega)
  replace Xf73 := Xf73.keep kp (by omega)
  have z := kp.size
  replace B := B.trans (kp.below (by omega) B.size)
  clear kp f73
  have f73 := f73'; clear f73'
  clear f73
  obtain ⟨P0a, P0b, -⟩ := id P0
  obtain ⟨Xf73a, Xf73b, -⟩ := id Xf73
  go_wp2_with fail
  clear P0a P0b
  clear Xf73a Xf73b
  refine (eqStringS_std _ _ _ _ g93.in_ g62.in_ m0).mono ?_
  rintro e w12 ⟨rfl, b⟩
  replace g62 := g62.grow b
  replace g93 := g93.grow b
  replace P0 := P0.below b
  replace Xf73 := Xf73.below b
  have z := b.size
  replace B := B.trans (b.mono B.size)
  clear b
  obtain ⟨P0a, P0b, -⟩ := id P0
  obtain ⟨Xf73a, Xf73b, -⟩ := id Xf73
  go_wp2_with fail
  clear P0a P0b
  clear Xf73a Xf73b
  refine (markStringS_std _ _ _ _ _ _ g93 m0 (by omega) (by omega)).mono ?_
  rintro e w13 ⟨rfl, g93', kp⟩
  replace g62 := g62.keep kp (by omega)
  replace P0 := P0.keep kp (by omega)
  replace Xf73 := Xf73.keep kp (by omega)
  have z := kp.size
  replace B := B.trans (kp.below (by omega) B.size)
  clear kp g93
  have g93 := g93'; clear g93'
  obtain ⟨P0a, P0b, -⟩ := id P0
  obtain ⟨Xf73a, Xf73b, -⟩ := id Xf73
  go_wp2_with fail
  clear P0a P0b
  clear Xf73a Xf73b
  refine (heldStringS_std _ ((linesF x0).length) _ _ g93.in_ m0 (by omega) (by omega)).mono ?_
  rintro e w14 ⟨rfl, b⟩
  replace g62 := g62.grow b
  replace g93 := g93.grow b
  replace P0 := P0.below b
  replace Xf73 := Xf73.below b
  have z := b.size
  replace B := B.trans (b.mono B.size)
  clear b
  obtain ⟨P0a, P0b, -⟩ := id P0
  obtain ⟨Xf73a, Xf73b, -⟩ := id Xf73
  go_wp2_with fail
  clear P0a P0b
  clear Xf73a Xf73b
  refine (toLeague_std _ x0 _ (h0.below B) n0).mono ?_
  rintro e w15 ⟨u192, rfl, f192, b⟩
  replace g62 := g62.grow b
  replace g93 := g93.grow b
  replace P0 := P0.below b
  replace Xf73 := Xf73.below b
  have z := b.size
  replace B := B.trans (b.mono B.size)
  clear b
  obtain ⟨P0a, P0b, -⟩ := id P0
  obtain ⟨Xf73a, Xf73b, -⟩ := id Xf73
  go_wp2_with fail
  clear P0a P0b
  clear Xf73a Xf73b
  refine (implTableLines_std _ x0 _ f192.in_ n0 (HT.out.below B (Nat.le_refl _))).mono ?_
  rintro e w16 ⟨r206, rfl, g206, b⟩
  replace g62 := g62.grow b
  replace g93 := g93.grow b
  replace f192 := f192.grow b
  replace P0 := P0.below b
  replace Xf73 := Xf73.below b
  have z := b.size
  replace B := B.trans (b.mono B.size)
  clear b
  clear f192
  obtain ⟨P0a, P0b, -⟩ := id P0
  obtain ⟨Xf73a, Xf73b, -⟩ := id Xf73
  go_wp2_with fail
  clear P0a P0b
  clear Xf73a Xf73b
  refine (eqStringS_std _ _ _ _ g206.in_ g62.in_ m0).mono ?_
  rintro e w17 ⟨rfl, b⟩
  replace g62 := g62.grow b
  replace g93 := g93.grow b
  replace g206 := g206.grow b
  replace P0 := P0.below b
  replace Xf73 := Xf73.below b
  have z := b.size
  replace B := B.trans (b.mono B.size)
  clear b
  obtain ⟨P0a, P0b, -⟩ := id P0
  obtain ⟨Xf73a, Xf73b, -⟩ := id Xf73
  go_wp2_with fail
  clear P0a P0b
  clear Xf73a Xf73b
  refine (heldStringS_std _ ((linesF x0).length) _ _ g93.in_ m0 (by omega) (by omega)).mono ?_
  rintro e w18 ⟨rfl, b⟩
  replace g62 := g62.grow b
  replace g93 := g93.grow b
  replace g206 := g206.grow b
  replace P0 := P0.below b
  replace Xf73 := Xf73.below b
  have z := b.size
  replace B := B.trans (b.mono B.size)
  clear b
  go_wp2
  go_ret
  exact ⟨rfl, B⟩
end Go.Proofs.YtpjbgcflepebgaaDoor
