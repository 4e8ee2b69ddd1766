/- The walks of the exact laws over slices (brackets as lines). -/
import Derived.Test.YthpphojodohboaaDoorBl
import Derived.Test.YthpphojodohboaaDoorBox
import Derived.Test.YthpphojodohboaaDoorTo
import Derived.Test.YthpphojodohboaaDoorOpen
namespace Go.Proofs.YthpphojodohboaaDoor
open Go.ChangeShapes Go.WideShapes Go.ChangeAt Go.RowKit

set_option maxHeartbeats 2000000 in
set_option maxRecDepth 100000 in
theorem lawFnExactBracketLine (v0 : Value) (x0 : TourV) (v1 : Value) (x1 : List Int) (w : World) (h0 : InT w v0 x0) (h1 : InI w v1 x1) (ht : tabP w) :
    Calls Tryd.prog 3 #[v0, v1] w fun e w' => e = .returned (.bool true) ∧ Below w.heap.size w w' := by
  have HT := Lib.hid ht
  clear ht
  have H1 := Lib.hid h1
  obtain ⟨A1, c1, rfl, hc1, hm1, -⟩ := h1
  have h1 := H1.out; clear H1; unfold maxLen at hm1
  have H0 := Lib.hid h0
  obtain ⟨_, rfl, A0, c0, rfl, hc0, hm0, -⟩ := h0
  have h0 := H0.out; clear H0; unfold maxLen at hm0
  by_cases n1 : x1.length ≤ 1048576
  case neg =>
    go_enter Tryd.func3, Tryd.ntmps3
    go_wp2
    go_ret
    first | exact ⟨rfl, (Below.refl _ w).alloc (Nat.le_refl _) _⟩ | exact ⟨rfl, ((Below.refl _ w).alloc (Nat.le_refl _) _).alloc (by simp) _⟩
  by_cases l0 : ((x0.wins.length : Nat) : Int) ≤ (1048576 : Int)
  case neg =>
    have B := Below.refl w.heap.size w
    have hal : Below w.heap.size w (w.alloc (.cells #[.int .i64 x0.size, .slice A0 x0.wins.length c0] 24)) := (Below.refl _ w).alloc (Nat.le_refl _) _
    replace B := Lib.hid (B.trans (hal.mono B.size))
    have P0 : Hid (Bx (w.alloc (.cells #[.int .i64 x0.size, .slice A0 x0.wins.length c0] 24)) w.heap.size (.int .i64 x0.size) (.slice A0 x0.wins.length c0)) := ⟨by simp, by simp, by simp⟩
    clear hal
    go_enter Tryd.func3, Tryd.ntmps3
    go_wp2_with fail
    generalize (w.alloc (.cells #[.int .i64 x0.size, .slice A0 x0.wins.length c0] 24)) = w1 at *
    replace B := B.out
    replace P0 := P0.out
    have zP0 := P0.2.2
    refine (szTour_any _ x0 _ _ (h0.below B) (by omega) (by omega)).mono ?_
    rintro e w2 ⟨rfl, b⟩
    replace P0 := P0.below b
    have z := b.size
    replace B := B.trans (b.mono B.size)
    clear b
    rw [szR_neg (by omega)]
    go_wp2
    go_ret
    exact ⟨rfl, B⟩
  have n0 : x0.wins.length ≤ 1048576 := by omega
  have B := Below.refl w.heap.size w
  have hal : Below w.heap.size w (w.alloc (.cells #[.int .i64 x0.size, .slice A0 x0.wins.length c0] 24)) := (Below.refl _ w).alloc (Nat.le_refl _) _
  replace B := Lib.hid (B.trans (hal.mono B.size))
  have P0 : Hid (Bx (w.alloc (.cells #[.int .i64 x0.size, .slice A0 x0.wins.length c0] 24)) w.heap.size (.int .i64 x0.size) (.slice A0 x0.wins.length c0)) := ⟨by simp, by simp, by simp⟩
  clear hal
  go_enter Tryd.func3, Tryd.ntmps3
  go_wp2_with fail
  generalize (w.alloc (.cells #[.int .i64 x0.size, .slice A0 x0.wins.length c0] 24)) = w1 at *
  replace B := B.out
  replace P0 := P0.out
  have zP0 := P0.2.2
  refine (szTour_any _ x0 _ _ (h0.below B) (by omega) (by omega)).mono ?_
  rintro e w2 ⟨rfl, b⟩
  replace P0 := P0.below b
  have z := b.size
  replace B := B.trans (b.mono B.size)
  clear b
  rw [szR_pos (by omega)]
  obtain ⟨P0a, P0b, -⟩ := id P0
  go_wp2_with fail
  clear P0a P0b
  refine (toTour_std _ x0 _ (h0.below B) n0).mono ?_
  rintro e w3 ⟨u61, rfl, f61, b⟩
  replace P0 := P0.below b
  have z := b.size
  replace B := B.trans (b.mono B.size)
  clear b
  obtain ⟨P0a, P0b, -⟩ := id P0
  go_wp2_with fail
  clear P0a P0b
  refine (toIntS_std _ x1 _ (h1.below B) n1).mono ?_
  rintro e w4 ⟨u70, rfl, f70, b⟩
  replace f61 := f61.grow b
  replace P0 := P0.below b
  have z := b.size
  replace B := B.trans (b.mono B.size)
  clear b
  obtain ⟨P0a, P0b, -⟩ := id P0
  go_wp2_with fail
  clear P0a P0b
  refine (specBracketLine_std _ x0 _ x1 _ f61.in_ n0 f70.in_ n1).mono ?_
  rintro e w5 ⟨rfl, b⟩
  replace f61 := f61.grow b
  replace f70 := f70.grow b
  replace P0 := P0.below b
  have z := b.size
  replace B := B.trans (b.mono B.size)
  clear b
  clear f61
  clear f70
  obtain ⟨P0a, P0b, -⟩ := id P0
  go_wp2_with fail
  clear P0a P0b
  refine (toTour_std _ x0 _ (h0.below B) n0).mono ?_
  rintro e w6 ⟨u93, rfl, f93, b⟩
  replace P0 := P0.below b
  have z := b.size
  replace B := B.trans (b.mono B.size)
  clear b
  obtain ⟨Af93, cf93, rfl⟩ := f93.form
  have hal : Below w6.heap.size w6 (w6.alloc (.cells #[.int .i64 x0.size, .slice Af93 x0.wins.length cf93] 27)) := (Below.refl _ w6).alloc (Nat.le_refl _) _
  obtain ⟨P0a, P0b, P0l⟩ := id P0
  have P0n : ¬ w.heap.size = w6.heap.size := by omega
  replace f93 := Lib.hid (f93.grow hal)
  replace P0 := Lib.hid (P0.below hal)
  replace B := Lib.hid (B.trans (hal.mono B.size))
  have Xf93 : Hid (Bx (w6.alloc (.cells #[.int .i64 x0.size, .slice Af93 x0.wins.length cf93] 27)) w6.heap.size (.int .i64 x0.size) (.slice Af93 x0.wins.length cf93)) := ⟨by simp, by simp, by simp⟩
  clear hal
  go_wp2_with fail
  generalize (w6.alloc (.cells #[.int .i64 x0.size, .slice Af93 x0.wins.length cf93] 27)) = w7 at *
  try clear P0a P0b P0l P0n
  replace f93 := f93.out
  replace P0 := P0.out
  replace B := B.out
  replace Xf93 := Xf93.out
  generalize w6.heap.size = pXf93 at *
  have zpXf93 := Xf93.2.2
  refine (toIntS_std _ x1 _ (h1.below B) n1).mono ?_
  rintro e w8 ⟨u111, rfl, f111, b⟩
  replace f93 := f93.grow b
  replace P0 := P0.below b
  replace Xf93 := Xf93.below b
  have z := b.size
  replace B := B.trans (b.mono B.size)
  clear b
  obtain ⟨P0a, P0b, -⟩ := id P0
  obtain ⟨Xf93a, Xf93b, -⟩ := id Xf93
  go_wp2_with fail
  clear P0a P0b
  clear Xf93a Xf93b
  refine (implBracketLine_std _ x0 _ x1 _ f93.in_ n0 f111.in_ n1 (HT.out.below B (Nat.le_refl _))).mono ?_
  rintro e w9 ⟨rfl, b⟩
  replace f93 := f93.grow b
  replace f111 := f111.grow b
  replace P0 := P0.below b
  replace Xf93 := Xf93.below b
  have z := b.size
  replace B := B.trans (b.mono B.size)
  clear b
  obtain ⟨P0a, P0b, -⟩ := id P0
  obtain ⟨Xf93a, Xf93b, -⟩ := id Xf93
  go_wp2_with fail
  go_region_held3 (fun W => W.cell? ⟨w.heap.size, 0, none⟩ = some (.int .i64 x0.size) ∧ W.cell? ⟨w.heap.size, 1, none⟩ = some (.slice A0 x0.wins.length c0) ∧ W.cell? ⟨pXf93, 0, none⟩ = some (.int .i64 x0.size) ∧ W.cell? ⟨pXf93, 1, none⟩ = some (.slice Af93 x0.wins.length cf93)) (first | exact ⟨P0a, P0b, Xf93a, Xf93b⟩) (first
    | (go_at_call 6; refine (toTour_std _ x0 _ (h0.below (below_drewL B)) n0).mono ?_; rintro e w10 ⟨ut145, rfl, t145, b⟩; replace f93 := f93.drew.grow b; replace f111 := f111.drew.grow b; replace P0 := P0.drew.below b; replace Xf93 := Xf93.drew.below b; have z : w9.heap.size ≤ w10.heap.size := b.size; replace B := below_drewL B; replace B := B.trans (b.mono B.size); clear b P0a P0b Xf93a Xf93b; obtain ⟨P0a, P0b, -⟩ := id P0; obtain ⟨Xf93a, Xf93b, -⟩ := id Xf93)
    | (go_at_call 9; refine (eqTour_std _ _ _ _ f93.in_ t145.in_ n0).mono ?_; rintro e w11 ⟨rfl, b⟩; replace f93 := f93.grow b; replace f111 := f111.grow b; replace t145 := t145.grow b; replace P0 := P0.below b; replace Xf93 := Xf93.below b; have z : w10.heap.size ≤ w11.heap.size := b.size; replace B := B.trans (b.mono B.size); clear b P0a P0b Xf93a Xf93b; obtain ⟨P0a, P0b, -⟩ := id P0; obtain ⟨Xf93a, Xf93b, -⟩ := id Xf93))
  clear t145 P0a P0b Xf93a Xf93b
  obtain ⟨P0a, P0b, -⟩ := id P0
  obtain ⟨Xf93a, Xf93b, -⟩ := id Xf93
  go_wp2_with fail
  clear P0a P0b
  clear Xf93a Xf93b
  refine (toIntS_std _ x1 _ (h1.below B) n1).mono ?_
  rintro e w12 ⟨u149, rfl, f149, b⟩
  replace f93 := f93.grow b
  replace f111 := f111.grow b
  replace P0 := P0.below b
  replace Xf93 := Xf93.below b
  have z := b.size
  replace B := B.trans (b.mono B.size)
  clear b
  obtain ⟨P0a, P0b, -⟩ := id P0
  obtain ⟨Xf93a, Xf93b, -⟩ := id Xf93
  go_wp2_with fail
  clear P0a P0b
  clear Xf93a Xf93b
  refine (eqIntS_std _ _ _ _ f111.in_ f149.in_ n1).mono ?_
  rintro e w13 ⟨rfl, b⟩
  replace f93 := f93.grow b
  replace f111 := f111.grow b
  replace f149 := f149.grow b
  replace P0 := P0.below b
  replace Xf93 := Xf93.below b
  have z := b.size
  replace B := B.trans (b.mono B.size)
  clear b
  clear f149
  go_wp2
  go_ret
  exact ⟨rfl, B⟩
end Go.Proofs.YthpphojodohboaaDoor
