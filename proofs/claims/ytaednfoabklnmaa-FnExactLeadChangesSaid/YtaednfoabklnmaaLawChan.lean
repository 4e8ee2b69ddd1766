/- The walks of the exact laws over slices (changes of the leader). -/
import Derived.Test.YtaednfoabklnmaaLc
import Derived.Test.YtaednfoabklnmaaRepl
namespace Go.Proofs.Ytaednfoabklnmaa
open Go.ChangeShapes Go.WideShapes Go.ChangeAt Go.RowKit

set_option maxHeartbeats 2000000 in
set_option maxRecDepth 100000 in
theorem lawFnExactLeadChanges (v0 : Value) (x0 : LeagueV) (w : World) (h0 : InL w v0 x0) :
    Calls Try.prog 9 #[v0] w fun e w' => e = .returned (.bool true) ∧ Below w.heap.size w w' := by
  have H0 := Lib.hid h0
  obtain ⟨A0, c0, rfl, hc0, hm0, -⟩ := h0
  have h0 := H0.out; clear H0; unfold maxLen at hm0
  by_cases l0 : ((x0.results.length : Nat) : Int) ≤ (1048576 : Int)
  case neg =>
    have B := Below.refl w.heap.size w
    have hal : Below w.heap.size w (w.alloc (.cells #[.int .i64 x0.clubs, .slice A0 x0.results.length c0] 24)) := (Below.refl _ w).alloc (Nat.le_refl _) _
    replace B := Lib.hid (B.trans (hal.mono B.size))
    have P0 : Hid (Bx (w.alloc (.cells #[.int .i64 x0.clubs, .slice A0 x0.results.length c0] 24)) w.heap.size (.int .i64 x0.clubs) (.slice A0 x0.results.length c0)) := ⟨by simp, by simp, by simp⟩
    clear hal
    go_enter Try.func9, Try.ntmps9
    go_wp2_with fail
    generalize (w.alloc (.cells #[.int .i64 x0.clubs, .slice A0 x0.results.length c0] 24)) = w1 at *
    replace B := B.out
    replace P0 := P0.out
    have zP0 := P0.2.2
    refine (szLeague_any _ x0 _ _ (h0.below B) (by omega) (by omega)).mono ?_
    rintro e w2 ⟨rfl, b⟩
    replace P0 := P0.below b
    have z := b.size
    replace B := B.trans (b.mono B.size)
    clear b
    rw [szQ_neg (by omega)]
    go_wp2
    go_ret
    exact ⟨rfl, B⟩
  have n0 : x0.results.length ≤ 1048576 := by omega
  have B := Below.refl w.heap.size w
  have hal : Below w.heap.size w (w.alloc (.cells #[.int .i64 x0.clubs, .slice A0 x0.results.length c0] 24)) := (Below.refl _ w).alloc (Nat.le_refl _) _
  replace B := Lib.hid (B.trans (hal.mono B.size))
  have P0 : Hid (Bx (w.alloc (.cells #[.int .i64 x0.clubs, .slice A0 x0.results.length c0] 24)) w.heap.size (.int .i64 x0.clubs) (.slice A0 x0.results.length c0)) := ⟨by simp, by simp, by simp⟩
  clear hal
  go_enter Try.func9, Try.ntmps9
  go_wp2_with fail
  generalize (w.alloc (.cells #[.int .i64 x0.clubs, .slice A0 x0.results.length c0] 24)) = w1 at *
  replace B := B.out
  replace P0 := P0.out
  have zP0 := P0.2.2
  refine (szLeague_any _ x0 _ _ (h0.below B) (by omega) (by omega)).mono ?_
  rintro e w2 ⟨rfl, b⟩
  replace P0 := P0.below b
  have z := b.size
  replace B := B.trans (b.mono B.size)
  clear b
  rw [szQ_pos (by omega)]
  obtain ⟨P0a, P0b, -⟩ := id P0
  go_wp2_with fail
  clear P0a P0b
  refine (toLeague_std _ x0 _ (h0.below B) n0).mono ?_
  rintro e w3 ⟨u50, rfl, f50, b⟩
  replace P0 := P0.below b
  have z := b.size
  replace B := B.trans (b.mono B.size)
  clear b
  obtain ⟨P0a, P0b, -⟩ := id P0
  go_wp2_with fail
  clear P0a P0b
  refine (specLeadChanges_std _ x0 _ f50.in_ n0).mono ?_
  rintro e w4 ⟨rfl, b⟩
  replace f50 := f50.grow b
  replace P0 := P0.below b
  have z := b.size
  replace B := B.trans (b.mono B.size)
  clear b
  clear f50
  obtain ⟨P0a, P0b, -⟩ := id P0
  go_wp2_with fail
  clear P0a P0b
  refine (toLeague_std _ x0 _ (h0.below B) n0).mono ?_
  rintro e w5 ⟨u70, rfl, f70, b⟩
  replace P0 := P0.below b
  have z := b.size
  replace B := B.trans (b.mono B.size)
  clear b
  obtain ⟨Af70, cf70, rfl⟩ := f70.form
  have hal : Below w5.heap.size w5 (w5.alloc (.cells #[.int .i64 x0.clubs, .slice Af70 x0.results.length cf70] 28)) := (Below.refl _ w5).alloc (Nat.le_refl _) _
  obtain ⟨P0a, P0b, P0l⟩ := id P0
  have P0n : ¬ w.heap.size = w5.heap.size := by omega
  replace f70 := Lib.hid (f70.grow hal)
  replace P0 := Lib.hid (P0.below hal)
  replace B := Lib.hid (B.trans (hal.mono B.size))
  have Xf70 : Hid (Bx (w5.alloc (.cells #[.int .i64 x0.clubs, .slice Af70 x0.results.length cf70] 28)) w5.heap.size (.int .i64 x0.clubs) (.slice Af70 x0.results.length cf70)) := ⟨by simp, by simp, by simp⟩
  clear hal
  go_wp2_with fail
  generalize (w5.alloc (.cells #[.int .i64 x0.clubs, .slice Af70 x0.results.length cf70] 28)) = w6 at *
  try clear P0a P0b P0l P0n
  replace f70 := f70.out
  replace P0 := P0.out
  replace B := B.out
  replace Xf70 := Xf70.out
  generalize w5.heap.size = pXf70 at *
  have zpXf70 := Xf70.2.2
  refine (implLeadChanges_std _ x0 _ f70.in_ n0).mono ?_
  rintro e w7 ⟨rfl, b⟩
  replace f70 := f70.grow b
  replace P0 := P0.below b
  replace Xf70 := Xf70.below b
  have z := b.size
  replace B := B.trans (b.mono B.size)
  clear b
  obtain ⟨P0a, P0b, -⟩ := id P0
  obtain ⟨Xf70a, Xf70b, -⟩ := id Xf70
  go_wp2_with fail
  go_region_held3 (fun W => W.cell? ⟨w.heap.size, 0, none⟩ = some (.int .i64 x0.clubs) ∧ W.cell? ⟨w.heap.size, 1, none⟩ = some (.slice A0 x0.results.length c0) ∧ W.cell? ⟨pXf70, 0, none⟩ = some (.int .i64 x0.clubs) ∧ W.cell? ⟨pXf70, 1, none⟩ = some (.slice Af70 x0.results.length cf70)) (first | exact ⟨P0a, P0b, Xf70a, Xf70b⟩) (first
    | (go_at_call 16; refine (toLeague_std _ x0 _ (h0.below (below_drewL B)) n0).mono ?_; rintro e w8 ⟨ut108, rfl, t108, b⟩; replace f70 := f70.drew.grow b; replace P0 := P0.drew.below b; replace Xf70 := Xf70.drew.below b; have z : w7.heap.size ≤ w8.heap.size := b.size; replace B := below_drewL B; replace B := B.trans (b.mono B.size); clear b P0a P0b Xf70a Xf70b; obtain ⟨P0a, P0b, -⟩ := id P0; obtain ⟨Xf70a, Xf70b, -⟩ := id Xf70)
    | (go_at_call 18; refine (eqLeague_std _ _ _ _ f70.in_ t108.in_ n0).mono ?_; rintro e w9 ⟨rfl, b⟩; replace f70 := f70.grow b; replace t108 := t108.grow b; replace P0 := P0.below b; replace Xf70 := Xf70.below b; have z : w8.heap.size ≤ w9.heap.size := b.size; replace B := B.trans (b.mono B.size); clear b P0a P0b Xf70a Xf70b; obtain ⟨P0a, P0b, -⟩ := id P0; obtain ⟨Xf70a, Xf70b, -⟩ := id Xf70))
  clear t108 P0a P0b Xf70a Xf70b
  go_wp2
  go_ret
  exact ⟨rfl, B⟩
end Go.Proofs.Ytaednfoabklnmaa
