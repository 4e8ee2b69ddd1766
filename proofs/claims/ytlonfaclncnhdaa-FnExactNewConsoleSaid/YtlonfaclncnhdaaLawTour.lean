/- The walk of the exact law of the new console. -/
import Derived.Test.YtlonfaclncnhdaaTour
namespace Go.Proofs.Ytlonfaclncnhdaa
open Go.ChangeShapes Go.WideShapes Go.ChangeAt Go.RowKit

/-- The block b holds the two cells of a struct. -/
def Bx (w : World) (b : Nat) (x y : Value) : Prop := w.cell? ⟨b, 0, none⟩ = some x ∧ w.cell? ⟨b, 1, none⟩ = some y ∧ b < w.heap.size
theorem Bx.below {w w' : World} {b : Nat} {x y : Value} (h : Bx w b x y) (hb : Below w.heap.size w w') : Bx w' b x y :=
  ⟨(hb.cell (p := ⟨b, 0, none⟩) h.2.2).trans h.1, (hb.cell (p := ⟨b, 1, none⟩) h.2.2).trans h.2.1, Nat.lt_of_lt_of_le h.2.2 hb.size⟩
theorem Bx.keep {w w' : World} {b lo hi : Nat} {x y : Value} (h : Bx w b x y) (hk : Keep lo hi w w') (hd : b < lo ∨ hi ≤ b) : Bx w' b x y :=
  ⟨(hk.cell (p := ⟨b, 0, none⟩) h.2.2 hd).trans h.1, (hk.cell (p := ⟨b, 1, none⟩) h.2.2 hd).trans h.2.1, Nat.lt_of_lt_of_le h.2.2 hk.size⟩
set_option maxHeartbeats 2000000 in
set_option maxRecDepth 100000 in
theorem lawFnExactNewConsole (w : World) :
    Calls Try.prog 12 #[] w fun e w' => e = .returned (.bool true) ∧ Below w.heap.size w w' := by
  have hn : console4.wins.length ≤ 1048576 := by decide
  have HN := Lib.hid hn
  clear hn
  go_enter Try.func12, Try.ntmps12
  go_wp2_with fail
  refine (specNewConsole_any w).mono ?_
  rintro e w1 ⟨v0, rfl, o0, b0⟩
  obtain ⟨A0, c0, rfl⟩ := o0.form
  have H1 : Hid (OwT (w1.alloc (.cells #[.int .i64 console4.size, .slice A0 console4.wins.length c0] 36)) w.heap.size w1.heap.size (.agg #[.int .i64 console4.size, .slice A0 console4.wins.length c0]) console4 ∧ Below w.heap.size w (w1.alloc (.cells #[.int .i64 console4.size, .slice A0 console4.wins.length c0] 36)) ∧
      Bx (w1.alloc (.cells #[.int .i64 console4.size, .slice A0 console4.wins.length c0] 36)) w1.heap.size (.int .i64 console4.size) (.slice A0 console4.wins.length c0)) :=
    ⟨o0.grow ((Below.refl _ w1).alloc (Nat.le_refl _) _), b0.alloc b0.size _, by simp, by simp, by simp⟩
  clear o0 b0
  go_wp2_with fail
  generalize w1.alloc (.cells #[.int .i64 console4.size, .slice A0 console4.wins.length c0] 36) = w2 at *
  generalize w1.heap.size = p1 at *
  have hp1 := H1.out.2.2.2.2
  have hw2 := H1.out.2.1.size
  refine (implNewConsole_any w2).mono ?_
  rintro e w3 ⟨v1, rfl, o1, b1⟩
  obtain ⟨A1, c1, rfl⟩ := o1.form
  obtain ⟨k0, k1, hlt⟩ := H1.out.2.2.below b1
  have hne : ¬ p1 = w3.heap.size := by omega
  have hal : Below w3.heap.size w3 (w3.alloc (.cells #[.int .i64 console4.size, .slice A1 console4.wins.length c1] 36)) := (Below.refl _ w3).alloc (Nat.le_refl _) _
  have H2 : Hid (OwT (w3.alloc (.cells #[.int .i64 console4.size, .slice A1 console4.wins.length c1] 36)) w2.heap.size w3.heap.size (.agg #[.int .i64 console4.size, .slice A1 console4.wins.length c1]) console4 ∧ OwT (w3.alloc (.cells #[.int .i64 console4.size, .slice A1 console4.wins.length c1] 36)) w.heap.size p1 (.agg #[.int .i64 console4.size, .slice A0 console4.wins.length c0]) console4 ∧ Below w.heap.size w (w3.alloc (.cells #[.int .i64 console4.size, .slice A1 console4.wins.length c1] 36)) ∧ Bx (w3.alloc (.cells #[.int .i64 console4.size, .slice A1 console4.wins.length c1] 36)) p1 (.int .i64 console4.size) (.slice A0 console4.wins.length c0) ∧ Bx (w3.alloc (.cells #[.int .i64 console4.size, .slice A1 console4.wins.length c1] 36)) w3.heap.size (.int .i64 console4.size) (.slice A1 console4.wins.length c1)) :=
    ⟨o1.grow hal, (H1.out.1.grow b1).grow hal, H1.out.2.1.trans ((b1.trans (hal.mono b1.size)).mono hw2), Bx.below ⟨k0, k1, hlt⟩ hal, by simp, by simp, by simp⟩
  clear o1 b1 hal
  go_wp2_with fail
  generalize (w3.alloc (.cells #[.int .i64 console4.size, .slice A1 console4.wins.length c1] 36)) = w4 at *
  clear k0 k1 hlt hne
  generalize w3.heap.size = p2 at *
  refine (eqTour_std _ _ console4 w4 H2.out.1.in_ H2.out.2.1.in_ HN.out).mono ?_
  rintro e w5 ⟨rfl, b5⟩
  have H3 : Hid (OwT w5 w2.heap.size p2 (.agg #[.int .i64 console4.size, .slice A1 console4.wins.length c1]) console4 ∧ OwT w5 w.heap.size p1 (.agg #[.int .i64 console4.size, .slice A0 console4.wins.length c0]) console4 ∧ Below w.heap.size w w5 ∧ Bx w5 p1 (.int .i64 console4.size) (.slice A0 console4.wins.length c0) ∧ Bx w5 p2 (.int .i64 console4.size) (.slice A1 console4.wins.length c1)) :=
    ⟨H2.out.1.grow b5, H2.out.2.1.grow b5, H2.out.2.2.1.trans (b5.mono H2.out.2.2.1.size), H2.out.2.2.2.1.below b5, H2.out.2.2.2.2.below b5⟩
  clear b5
  obtain ⟨k2, k3, -⟩ := H3.out.2.2.2.2
  go_wp2_with fail
  refine (markTour_std _ w2.heap.size p2 console4 1 w5 H3.out.1 HN.out (by omega) (by omega)).mono ?_
  rintro e w6 ⟨rfl, o6, kp6⟩
  clear k2 k3
  have H4 : Hid (OwT w6 w2.heap.size p2 (.agg #[.int .i64 console4.size, .slice A1 console4.wins.length c1]) (markedT 1 console4) ∧ OwT w6 w.heap.size p1 (.agg #[.int .i64 console4.size, .slice A0 console4.wins.length c0]) console4 ∧ Below w.heap.size w w6 ∧ Bx w6 p1 (.int .i64 console4.size) (.slice A0 console4.wins.length c0) ∧ Bx w6 p2 (.int .i64 console4.size) (.slice A1 console4.wins.length c1)) :=
    ⟨o6, H3.out.2.1.keep kp6 (.inl (by omega)), H3.out.2.2.1.trans (kp6.below hw2 H3.out.2.2.1.size), H3.out.2.2.2.1.keep kp6 (.inl hp1), H3.out.2.2.2.2.keep kp6 (.inr (Nat.le_refl _))⟩
  clear o6 kp6
  obtain ⟨k2, k3, -⟩ := H4.out.2.2.2.2
  go_wp2_with fail
  refine (heldTour_std _ console4 1 w6 H4.out.1.in_ HN.out (by omega) (by omega)).mono ?_
  rintro e w7 ⟨rfl, b7⟩
  clear k2 k3
  have H5 : Hid (OwT w7 w2.heap.size p2 (.agg #[.int .i64 console4.size, .slice A1 console4.wins.length c1]) (markedT 1 console4) ∧ OwT w7 w.heap.size p1 (.agg #[.int .i64 console4.size, .slice A0 console4.wins.length c0]) console4 ∧ Below w.heap.size w w7 ∧ Bx w7 p1 (.int .i64 console4.size) (.slice A0 console4.wins.length c0) ∧ Bx w7 p2 (.int .i64 console4.size) (.slice A1 console4.wins.length c1)) :=
    ⟨H4.out.1.grow b7, H4.out.2.1.grow b7, H4.out.2.2.1.trans (b7.mono H4.out.2.2.1.size), H4.out.2.2.2.1.below b7, H4.out.2.2.2.2.below b7⟩
  clear b7
  go_wp2_with fail
  refine (implNewConsole_any w7).mono ?_
  rintro e w8 ⟨v8, rfl, o8, b8⟩
  obtain ⟨A8, c8, rfl⟩ := o8.form
  obtain ⟨k0, k1, hlt⟩ := H5.out.2.2.2.1.below b8
  have hne : ¬ p1 = w8.heap.size := by omega
  have hal : Below w8.heap.size w8 (w8.alloc (.cells #[.int .i64 console4.size, .slice A8 console4.wins.length c8] 36)) := (Below.refl _ w8).alloc (Nat.le_refl _) _
  have H6 : Hid (OwT (w8.alloc (.cells #[.int .i64 console4.size, .slice A8 console4.wins.length c8] 36)) w7.heap.size w8.heap.size (.agg #[.int .i64 console4.size, .slice A8 console4.wins.length c8]) console4 ∧ OwT (w8.alloc (.cells #[.int .i64 console4.size, .slice A8 console4.wins.length c8] 36)) w2.heap.size p2 (.agg #[.int .i64 console4.size, .slice A1 console4.wins.length c1]) (markedT 1 console4) ∧ OwT (w8.alloc (.cells #[.int .i64 console4.size, .slice A8 console4.wins.length c8] 36)) w.heap.size p1 (.agg #[.int .i64 console4.size, .slice A0 console4.wins.length c0]) console4 ∧ Below w.heap.size w (w8.alloc (.cells #[.int .i64 console4.size, .slice A8 console4.wins.length c8] 36)) ∧ Bx (w8.alloc (.cells #[.int .i64 console4.size, .slice A8 console4.wins.length c8] 36)) p2 (.int .i64 console4.size) (.slice A1 console4.wins.length c1)) :=
    ⟨o8.grow hal, (H5.out.1.grow b8).grow hal, (H5.out.2.1.grow b8).grow hal, H5.out.2.2.1.trans ((b8.trans (hal.mono b8.size)).mono H5.out.2.2.1.size), (H5.out.2.2.2.2.below b8).below hal⟩
  clear o8 b8 hal
  go_wp2_with fail
  generalize (w8.alloc (.cells #[.int .i64 console4.size, .slice A8 console4.wins.length c8] 36)) = w9 at *
  clear k0 k1 hlt hne
  refine (eqTour_std _ _ console4 w9 H6.out.1.in_ H6.out.2.2.1.in_ HN.out).mono ?_
  rintro e w10 ⟨rfl, b10⟩
  have H7 : Hid (OwT w10 w2.heap.size p2 (.agg #[.int .i64 console4.size, .slice A1 console4.wins.length c1]) (markedT 1 console4) ∧ Below w.heap.size w w10 ∧ Bx w10 p2 (.int .i64 console4.size) (.slice A1 console4.wins.length c1)) :=
    ⟨H6.out.2.1.grow b10, H6.out.2.2.2.1.trans (b10.mono H6.out.2.2.2.1.size), H6.out.2.2.2.2.below b10⟩
  clear b10
  obtain ⟨k2, k3, -⟩ := H7.out.2.2
  go_wp2_with fail
  refine (heldTour_std _ console4 1 w10 H7.out.1.in_ HN.out (by omega) (by omega)).mono ?_
  rintro e w11 ⟨rfl, b11⟩
  clear k2 k3
  have H8 : Hid (Below w.heap.size w w11) := H7.out.2.1.trans (b11.mono H7.out.2.1.size)
  clear b11
  go_wp2
  go_ret
  exact ⟨rfl, H8.out⟩
end Go.Proofs.Ytlonfaclncnhdaa
