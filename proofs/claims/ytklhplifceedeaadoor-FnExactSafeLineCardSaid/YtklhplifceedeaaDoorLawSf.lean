/- The walks of the exact laws over slices (safe strategies as lines). -/
import Derived.Test.YtklhplifceedeaaDoorSkz
import Derived.Test.YtklhplifceedeaaDoorBox
import Derived.Test.YtklhplifceedeaaDoorTo
import Derived.Test.YtklhplifceedeaaDoorOpen
namespace Go.Proofs.YtklhplifceedeaaDoor
open Go.ChangeShapes Go.WideShapes Go.ChangeAt Go.RowKit

set_option maxHeartbeats 2000000 in
set_option maxRecDepth 100000 in
theorem lawFnExactSafeLine (v0 : Value) (x0 : TourV) (w : World) (h0 : InT w v0 x0) (ht : tabP w) :
    Calls Tryd.prog 3 #[v0] w fun e w' => e = .returned (.bool true) ∧ Below w.heap.size w w' := by
  have HT := Lib.hid ht
  clear ht
  have H0 := Lib.hid h0
  obtain ⟨_, rfl, A0, c0, rfl, hc0, hm0, -⟩ := h0
  have h0 := H0.out; clear H0; unfold maxLen at hm0
  by_cases l0 : ((x0.wins.length : Nat) : Int) ≤ (1048576 : Int)
  case neg =>
    have B := Below.refl w.heap.size w
    have hal : Below w.heap.size w (w.alloc (.cells #[.int .i64 x0.size, .slice A0 x0.wins.length c0] 24)) := (Below.refl _ w).alloc (Nat.le_refl _) _
    replace B := Lib.hid (B.trans (hal.mono B.size))
    have P0 : Hid (Bx (w.alloc (.cells #[.int .i64 x0.size, .slice A0 x0.wins.length c0] 24)) w.heap.size (.int .i64 x0.size) (.slice A0 x0.wins.length c0)) := ⟨by simp, by simp, by simp⟩
    clear hal
    go_enter Tryd.func3, Tryd.ntmps3
    go_wp2_with fail
    generalize (w.alloc (.cells #[.int .i64 x0.size, .slice A0 x0.wins.length c0] 24)) = w1 at *
    replace B := B.out
    replace P0 := P0.out
    have zP0 := P0.2.2
    refine (szTour_any _ x0 _ _ (h0.below B) (by omega) (by omega)).mono ?_
    rintro e w2 ⟨rfl, b⟩
    replace P0 := P0.below b
    have z := b.size
    replace B := B.trans (b.mono B.size)
    clear b
    rw [szR_neg (by omega)]
    go_wp2
    go_ret
    exact ⟨rfl, B⟩
  have n0 : x0.wins.length ≤ 1048576 := by omega
  have B := Below.refl w.heap.size w
  have hal : Below w.heap.size w (w.alloc (.cells #[.int .i64 x0.size, .slice A0 x0.wins.length c0] 24)) := (Below.refl _ w).alloc (Nat.le_refl _) _
  replace B := Lib.hid (B.trans (hal.mono B.size))
  have P0 : Hid (Bx (w.alloc (.cells #[.int .i64 x0.size, .slice A0 x0.wins.length c0] 24)) w.heap.size (.int .i64 x0.size) (.slice A0 x0.wins.length c0)) := ⟨by simp, by simp, by simp⟩
  clear hal
  go_enter Tryd.func3, Tryd.ntmps3
  go_wp2_with fail
  generalize (w.alloc (.cells #[.int .i64 x0.size, .slice A0 x0.wins.length c0] 24)) = w1 at *
  replace B := B.out
  replace P0 := P0.out
  have zP0 := P0.2.2
  refine (szTour_any _ x0 _ _ (h0.below B) (by omega) (by omega)).mono ?_
  rintro e w2 ⟨rfl, b⟩
  replace P0 := P0.below b
  have z := b.size
  replace B := B.trans (b.mono B.size)
  clear b
  rw [szR_pos (by omega)]
  obtain ⟨P0a, P0b, -⟩ := id P0
  go_wp2_with fail
  clear P0a P0b
  refine (toTour_std _ x0 _ (h0.below B) n0).mono ?_
  rintro e w3 ⟨u52, rfl, f52, b⟩
  replace P0 := P0.below b
  have z := b.size
  replace B := B.trans (b.mono B.size)
  clear b
  obtain ⟨P0a, P0b, -⟩ := id P0
  go_wp2_with fail
  clear P0a P0b
  refine (specSafeLine_std _ x0 _ f52.in_ n0).mono ?_
  rintro e w4 ⟨rfl, b⟩
  replace f52 := f52.grow b
  replace P0 := P0.below b
  have z := b.size
  replace B := B.trans (b.mono B.size)
  clear b
  clear f52
  obtain ⟨P0a, P0b, -⟩ := id P0
  go_wp2_with fail
  clear P0a P0b
  refine (toTour_std _ x0 _ (h0.below B) n0).mono ?_
  rintro e w5 ⟨u72, rfl, f72, b⟩
  replace P0 := P0.below b
  have z := b.size
  replace B := B.trans (b.mono B.size)
  clear b
  obtain ⟨Af72, cf72, rfl⟩ := f72.form
  have hal : Below w5.heap.size w5 (w5.alloc (.cells #[.int .i64 x0.size, .slice Af72 x0.wins.length cf72] 27)) := (Below.refl _ w5).alloc (Nat.le_refl _) _
  obtain ⟨P0a, P0b, P0l⟩ := id P0
  have P0n : ¬ w.heap.size = w5.heap.size := by omega
  replace f72 := Lib.hid (f72.grow hal)
  replace P0 := Lib.hid (P0.below hal)
  replace B := Lib.hid (B.trans (hal.mono B.size))
  have Xf72 : Hid (Bx (w5.alloc (.cells #[.int .i64 x0.size, .slice Af72 x0.wins.length cf72] 27)) w5.heap.size (.int .i64 x0.size) (.slice Af72 x0.wins.length cf72)) := ⟨by simp, by simp, by simp⟩
  clear hal
  go_wp2_with fail
  generalize (w5.alloc (.cells #[.int .i64 x0.size, .slice Af72 x0.wins.length cf72] 27)) = w6 at *
  try clear P0a P0b P0l P0n
  replace f72 := f72.out
  replace P0 := P0.out
  replace B := B.out
  replace Xf72 := Xf72.out
  generalize w5.heap.size = pXf72 at *
  have zpXf72 := Xf72.2.2
  refine (implSafeLine_std _ x0 _ f72.in_ n0 (HT.out.below B (Nat.le_refl _))).mono ?_
  rintro e w7 ⟨rfl, b⟩
  replace f72 := f72.grow b
  replace P0 := P0.below b
  replace Xf72 := Xf72.below b
  have z := b.size
  replace B := B.trans (b.mono B.size)
  clear b
  obtain ⟨P0a, P0b, -⟩ := id P0
  obtain ⟨Xf72a, Xf72b, -⟩ := id Xf72
  go_wp2_with fail
  go_region_held3 (fun W => W.cell? ⟨w.heap.size, 0, none⟩ = some (.int .i64 x0.size) ∧ W.cell? ⟨w.heap.size, 1, none⟩ = some (.slice A0 x0.wins.length c0) ∧ W.cell? ⟨pXf72, 0, none⟩ = some (.int .i64 x0.size) ∧ W.cell? ⟨pXf72, 1, none⟩ = some (.slice Af72 x0.wins.length cf72)) (first | exact ⟨P0a, P0b, Xf72a, Xf72b⟩) (first
    | (go_at_call 6; refine (toTour_std _ x0 _ (h0.below (below_drewL B)) n0).mono ?_; rintro e w8 ⟨ut110, rfl, t110, b⟩; replace f72 := f72.drew.grow b; replace P0 := P0.drew.below b; replace Xf72 := Xf72.drew.below b; have z : w7.heap.size ≤ w8.heap.size := b.size; replace B := below_drewL B; replace B := B.trans (b.mono B.size); clear b P0a P0b Xf72a Xf72b; obtain ⟨P0a, P0b, -⟩ := id P0; obtain ⟨Xf72a, Xf72b, -⟩ := id Xf72)
    | (go_at_call 8; refine (eqTour_std _ _ _ _ f72.in_ t110.in_ n0).mono ?_; rintro e w9 ⟨rfl, b⟩; replace f72 := f72.grow b; replace t110 := t110.grow b; replace P0 := P0.below b; replace Xf72 := Xf72.below b; have z : w8.heap.size ≤ w9.heap.size := b.size; replace B := B.trans (b.mono B.size); clear b P0a P0b Xf72a Xf72b; obtain ⟨P0a, P0b, -⟩ := id P0; obtain ⟨Xf72a, Xf72b, -⟩ := id Xf72))
  clear t110 P0a P0b Xf72a Xf72b
  go_wp2
  go_ret
  exact ⟨rfl, B⟩
end Go.Proofs.YtklhplifceedeaaDoor
