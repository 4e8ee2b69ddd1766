/- Breaks of plans: the walks. -/
import Derived.Test.YtnlhelhpalimnaaDoorBk
import Derived.Deep.Draws
namespace Go.Proofs.YtnlhelhpalimnaaDoor
open Go.ChangeShapes Go.WideShapes Go.ChangeAt Go.RowKit

/-- An entry of a valid plan in memory. -/
theorem planCell {w : World} {A : Option Addr} {c n k r : Nat} {P : List (List Int)} (hpl : planB n P = true) (hs : InS w (.slice A P.length c) P) (hr : r < P.length) (hk : k < n) :
    ∃ b off b2 o2 c1 x, A = some ⟨b, off, none⟩ ∧ w.cell? ⟨b, off + r, none⟩ = some (.slice (some ⟨b2, o2, none⟩) n c1) ∧ w.cell? ⟨b2, o2 + k, none⟩ = some (.int .i64 x) ∧ elP P r k = x ∧ n ≤ c1 := by
  obtain ⟨b, off, u, R, rfl, hu, hcell, hin, -⟩ := hs.at_ (k := r) hr
  obtain ⟨A1, c1, rfl, hc1, hm1, hsl⟩ := hin
  have hl : R.length = n := by have := (planB_row hpl hu).2.2.1; omega
  obtain ⟨b2, o2, x, rfl, hx, hcx, -⟩ := hsl.at_ (k := k) (by omega)
  refine ⟨b, off, b2, o2, c1, x, rfl, by rw [hcell, hl], hcx, ?_, by omega⟩
  unfold elP
  rw [show P.getD r [] = R from by rw [List.getD_eq_getElem?_getD, hu]; rfl, List.getD_eq_getElem?_getD, hx]; rfl
theorem sgn_hm {P : List (List Int)} {r r' k : Nat} {x y s t : Int} (hx : elP P r k = x) (hy : elP P r' k = y) (hs : sgn x = s) (ht : sgn y = t) : (s == t) = decide (hmB P r k = hmB P r' k) := by
  unfold hmB
  rw [hx, hy, ← hs, ← ht]
  unfold sgn
  by_cases h1 : 0 < x <;> by_cases h2 : 0 < y <;> simp [h1, h2]
theorem pos_hm {P : List (List Int)} {r r' k : Nat} {x y : Int} (hx : elP P r k = x) (hy : elP P r' k = y) : (decide (0 < x) == decide (0 < y)) = decide (hmB P r k = hmB P r' k) := by
  unfold hmB
  rw [hx, hy]
  by_cases h1 : 0 < x <;> by_cases h2 : 0 < y <;> simp [h1, h2]

set_option maxHeartbeats 2000000 in
theorem implBreaks_any (v : Value) (P : List (List Int)) (n k : Nat) (w : World) (hs : InS w v P) (hpl : planB n P = true) (hk : k < n) :
    Calls Tryd.prog 30 #[v, .int .i64 k] w fun e w' => ∃ v', e = .returned v' ∧ (∃ A c, v' = .slice A (brkF P k) c) ∧ Below w.heap.size w w' := by
  have HS := Lib.hid hs
  obtain ⟨A, c, vs, rfl, hvl, hc, hm, -, -⟩ := hs
  have hcap := planB_cap hpl
  have HPL := Lib.hid hpl
  have HCE : Hid (∀ (wr : World) (r : Nat), InS wr (.slice A P.length c) P → r < P.length → ∃ b off b2 o2 c1 x, A = some ⟨b, off, none⟩ ∧ wr.cell? ⟨b, off + r, none⟩ = some (.slice (some ⟨b2, o2, none⟩) n c1) ∧ wr.cell? ⟨b2, o2 + k, none⟩ = some (.int .i64 x) ∧ elP P r k = x ∧ n ≤ c1) :=
    fun wr r h1 h2 => planCell hpl h1 h2 hk
  clear hpl
  generalize hN : P.length = N at *
  have HN := Lib.hid hN
  clear hN hvl
  unfold maxLen at hm
  go_enter Tryd.func30, Tryd.ntmps30
  go_wp2
  go_loopw [5, 6] (fun v i wr => ∃ (q : Nat) (fv : Value) (xs : List Int), 1 ≤ q ∧ i = .int .i64 q ∧ fv = v ∧ Hid ((q ≤ N ∨ q = 1) ∧ Fr wr w.heap.size wr.heap.size fv xs ∧ xs.length = brkTo P k (q - 1) ∧ Below w.heap.size w wr)) (fun _ i _ => N - (intOf i).toNat)
  case atStart => exact ⟨1, _, [], by omega, rfl, rfl, .inr rfl, Fr.nil _ (Nat.le_refl _), rfl, Below.refl _ _⟩
  case round =>
    obtain ⟨q, fv, xs, hq1, rfl, rfl, HR⟩ := hrel
    by_cases hlt : q < N
    case neg =>
      have HZ : Hid (xs.length = brkF P k) := by
        show _ = _
        rw [HR.out.2.2.1, brkF, HN.out]; congr 1; have := HR.out.1; omega
      go_wp2
      go_ret
      obtain ⟨A2, c2, h2, _⟩ := HR.out.2.1.form
      exact ⟨_, rfl, ⟨A2, c2, by rw [h2, HZ.out]; rfl⟩, HR.out.2.2.2⟩
    obtain ⟨j, hj⟩ : ∃ j, q = j + 1 := ⟨q - 1, by omega⟩
    have HJ := Lib.hid hj
    have hjl : j < N := by omega
    have J : IntKind.i64.wrap ((q : Int) - 1) = (j : Int) := by rw [IntKind.wrap_i64]; omega
    clear hj
    have hsW : InS wr (.slice A N c) P := InS.below HS.out HR.out.2.2.2
    obtain ⟨b, off, b2, o2, c1, x, rfl, hc1, hx1, HX, hn1⟩ := HCE.out wr q hsW hlt
    obtain ⟨b', off', b3, o3, c2, y, e3, hc2, hx2, HY, hn2⟩ := HCE.out wr j hsW hjl
    injection e3 with e3; injection e3 with r1 r2 _; subst r1; subst r2
    obtain ⟨s, hs⟩ : ∃ s, sgn x = s := ⟨_, rfl⟩
    obtain ⟨t, ht⟩ : ∃ t, sgn y = t := ⟨_, rfl⟩
    have HB : Hid ((s == t) = decide (hmB P q k = hmB P j k)) := sgn_hm HX HY hs ht
    have HSX := Lib.hid hs
    have HSY := Lib.hid ht
    have HXL : Hid (xs.length ≤ 36) := by show _ ≤ _; rw [HR.out.2.2.1]; have := brkTo_le P k (q - 1); omega
    have HQ1 : Hid (q - 1 = j ∧ brkTo P k (q + 1 - 1) = brkTo P k (j + 1)) := ⟨by have := HJ.out; omega, by rw [HJ.out]; rfl⟩
    clear hs ht HX HY hsW
    cases e : (s == t)
    case false =>
      have HW : Hid (brkTo P k (q + 1 - 1) = brkTo P k (q - 1)) := by
        show _ = _
        rw [HQ1.out.2, HQ1.out.1]
        exact brkTo_no (by have := HB.out; rw [e] at this; rw [← HJ.out]; simpa using this.symm)
      go_wp2
      go_quiet (first | (go_at_call 28; exact quiet_left (sign_any x s _ HSX.out)) | (go_at_call 28; exact quiet_left (sign_any y t _ HSY.out)))
      go_wp2
      go_roundw
      case rel => exact ⟨q + 1, fv, xs, by omega, by go_num, rfl, .inl (by omega), HR.out.2.1.drewN _, by rw [HW.out]; exact HR.out.2.2.1, below_drewN HR.out.2.2.2 _⟩
      case measure => simp [intOf]; omega
    · have HW : Hid (brkTo P k (q + 1 - 1) = brkTo P k (q - 1) + 1) := by
        show _ = _
        rw [HQ1.out.2, HQ1.out.1]
        exact brkTo_yes (by have := HB.out; rw [e] at this; rw [← HJ.out]; simpa using this.symm)
      go_wp2
      go_quiet (first | (go_at_call 28; exact quiet_left (sign_any x s _ HSX.out)) | (go_at_call 28; exact quiet_left (sign_any y t _ HSY.out)))
      go_wp2_with (at_builtin; refine app1 rfl _ _ rfl _ w.heap.size fv xs.length xs rfl ((HR.out.2.1.drewN _).own) (q : Int) rfl (by have := HXL.out; omega) (below_drewN HR.out.2.2.2 _).size ?_; intro v' w3 hown3 hb3 hsz3 _; have H3 : Hid (Fr w3 w.heap.size w3.heap.size v' (xs ++ [(q : Int)]) ∧ Below w.heap.size w w3) := ⟨Fr.of_own (by rw [List.length_append, List.length_singleton]; exact hown3), (below_drewN HR.out.2.2.2 _).trans (hb3 w.heap.size (Nat.le_refl _) (below_drewN HR.out.2.2.2 _).size)⟩; clear hown3 hb3 hsz3)
      go_roundw
      case rel => exact ⟨q + 1, _, xs ++ [(q : Int)], by omega, by go_num, rfl, .inl (by omega), H3.out.1, by rw [HW.out, List.length_append, List.length_singleton, HR.out.2.2.1], H3.out.2⟩
      case measure => simp [intOf]; omega

set_option maxHeartbeats 2000000 in
theorem specBreaks_any (v : Value) (P : List (List Int)) (n k : Nat) (w : World) (hs : InS w v P) (hpl : planB n P = true) (hk : k < n) :
    Calls Tryd.prog 23 #[v, .int .i64 k] w fun e w' => ∃ v', e = .returned v' ∧ (∃ A c, v' = .slice A (brkF P k) c) ∧ Below w.heap.size w w' := by
  have HS := Lib.hid hs
  obtain ⟨A, c, vs, rfl, hvl, hc, hm, -, -⟩ := hs
  have hcap := planB_cap hpl
  have HPL := Lib.hid hpl
  have HCE : Hid (∀ (wr : World) (r : Nat), InS wr (.slice A P.length c) P → r < P.length → ∃ b off b2 o2 c1 x, A = some ⟨b, off, none⟩ ∧ wr.cell? ⟨b, off + r, none⟩ = some (.slice (some ⟨b2, o2, none⟩) n c1) ∧ wr.cell? ⟨b2, o2 + k, none⟩ = some (.int .i64 x) ∧ elP P r k = x ∧ n ≤ c1) :=
    fun wr r h1 h2 => planCell hpl h1 h2 hk
  clear hpl
  generalize hN : P.length = N at *
  have HN := Lib.hid hN
  clear hN hvl
  unfold maxLen at hm
  go_enter Tryd.func23, Tryd.ntmps23
  go_wp2
  go_loopw [5, 6] (fun v i wr => ∃ (q : Nat) (fv : Value) (xs : List Int), 1 ≤ q ∧ i = .int .i64 q ∧ fv = v ∧ Hid ((q ≤ N ∨ q = 1) ∧ Fr wr w.heap.size wr.heap.size fv xs ∧ xs.length = brkTo P k (q - 1) ∧ Below w.heap.size w wr)) (fun _ i _ => N - (intOf i).toNat)
  case atStart =>
    refine ⟨1, _, [], by omega, rfl, rfl, .inr rfl, ?_, rfl, (Below.refl _ w).alloc (Nat.le_refl _) _⟩
    exact Fr.of_own (World.ownsRow_lit (base := w.heap.size) (e := 3) (size := 1) w #[] 0 (Nat.le_refl _) (by unfold maxLen; omega) rfl)
  case round =>
    obtain ⟨q, fv, xs, hq1, rfl, rfl, HR⟩ := hrel
    by_cases hlt : q < N
    case neg =>
      have HZ : Hid (xs.length = brkF P k) := by
        show _ = _
        rw [HR.out.2.2.1, brkF, HN.out]; congr 1; have := HR.out.1; omega
      go_wp2
      go_ret
      obtain ⟨A2, c2, h2, _⟩ := HR.out.2.1.form
      exact ⟨_, rfl, ⟨A2, c2, by rw [h2, HZ.out]; rfl⟩, HR.out.2.2.2⟩
    obtain ⟨j, hj⟩ : ∃ j, q = j + 1 := ⟨q - 1, by omega⟩
    have HJ := Lib.hid hj
    have hjl : j < N := by omega
    have J : IntKind.i64.wrap ((q : Int) - 1) = (j : Int) := by rw [IntKind.wrap_i64]; omega
    clear hj
    have hsW : InS wr (.slice A N c) P := InS.below HS.out HR.out.2.2.2
    obtain ⟨b, off, b2, o2, c1, x, rfl, hc1, hx1, HX, hn1⟩ := HCE.out wr q hsW hlt
    obtain ⟨b', off', b3, o3, c2, y, e3, hc2, hx2, HY, hn2⟩ := HCE.out wr j hsW hjl
    injection e3 with e3; injection e3 with r1 r2 _; subst r1; subst r2
    have HB : Hid ((decide (0 < x) == decide (0 < y)) = decide (hmB P q k = hmB P j k)) := pos_hm HX HY
    have HXL : Hid (xs.length ≤ 36) := by show _ ≤ _; rw [HR.out.2.2.1]; have := brkTo_le P k (q - 1); omega
    have HQ1 : Hid (q - 1 = j ∧ brkTo P k (q + 1 - 1) = brkTo P k (j + 1)) := ⟨by have := HJ.out; omega, by rw [HJ.out]; rfl⟩
    clear HX HY hsW
    cases e : (decide (0 < x) == decide (0 < y))
    case false =>
      have HW : Hid (brkTo P k (q + 1 - 1) = brkTo P k (q - 1)) := by
        show _ = _
        rw [HQ1.out.2, HQ1.out.1]
        exact brkTo_no (by have := HB.out; rw [e] at this; rw [← HJ.out]; simpa using this.symm)
      go_wp2
      go_quiet (fail)
      go_wp2
      go_roundw
      case rel => exact ⟨q + 1, fv, xs, by omega, by go_num, rfl, .inl (by omega), HR.out.2.1.drewN _, by rw [HW.out]; exact HR.out.2.2.1, below_drewN HR.out.2.2.2 _⟩
      case measure => simp [intOf]; omega
    · have HW : Hid (brkTo P k (q + 1 - 1) = brkTo P k (q - 1) + 1) := by
        show _ = _
        rw [HQ1.out.2, HQ1.out.1]
        exact brkTo_yes (by have := HB.out; rw [e] at this; rw [← HJ.out]; simpa using this.symm)
      go_wp2
      go_quiet (fail)
      go_wp2_with (at_builtin; refine app1 rfl _ _ rfl _ w.heap.size fv xs.length xs rfl ((HR.out.2.1.drewN _).own) (q : Int) rfl (by have := HXL.out; omega) (below_drewN HR.out.2.2.2 _).size ?_; intro v' w3 hown3 hb3 hsz3 _; have H3 : Hid (Fr w3 w.heap.size w3.heap.size v' (xs ++ [(q : Int)]) ∧ Below w.heap.size w w3) := ⟨Fr.of_own (by rw [List.length_append, List.length_singleton]; exact hown3), (below_drewN HR.out.2.2.2 _).trans (hb3 w.heap.size (Nat.le_refl _) (below_drewN HR.out.2.2.2 _).size)⟩; clear hown3 hb3 hsz3)
      go_roundw
      case rel => exact ⟨q + 1, _, xs ++ [(q : Int)], by omega, by go_num, rfl, .inl (by omega), H3.out.1, by rw [HW.out, List.length_append, List.length_singleton, HR.out.2.2.1], H3.out.2⟩
      case measure => simp [intOf]; omega

set_option maxHeartbeats 1000000 in
theorem implCountBreaks_any (v : Value) (P : List (List Int)) (n : Nat) (w : World) (hs : InS w v P) (hn : bulk P ≤ 1048576) (hpl : planB n P = true) :
    Calls Tryd.prog 17 #[.int .i64 n, v] w fun e w' => e = .returned (.int .i64 (brkSum P n)) ∧ Below w.heap.size w w' := by
  have HC := Lib.hid (implPlanOk_any n v P w hs hn)
  have HS := Lib.hid hs
  have hcap := planB_cap hpl
  have HSUM : Hid (∀ k, brkSum P k ≤ 36 * k) := fun k => brkSum_le P hcap.2.2 k
  have HPL := Lib.hid hpl
  clear hs hpl
  go_enter Tryd.func17, Tryd.ntmps17
  go_wp2_with (go_at_call 15; refine HC.out.mono ?_; rintro e w' ⟨rfl, d, rfl⟩; rw [HPL.out])
  have HB0 : Hid (Below w.heap.size w (w.drewN d)) := below_of_drewN _ _ _
  go_loopw [5, 12] (fun s i wr => ∃ k : Nat, k ≤ n ∧ i = .int .i64 k ∧ s = .int .i64 (brkSum P k) ∧ Hid (Below w.heap.size w wr)) (fun _ i _ => n - (intOf i).toNat)
  case atStart => exact ⟨0, Nat.zero_le _, rfl, rfl, HB0.out⟩
  case round =>
    obtain ⟨k, hk, rfl, rfl, HB⟩ := hrel
    by_cases hlt : k < n
    · have h1 := HSUM.out k
      have h2 := HSUM.out (k + 1)
      have HW : Hid (brkSum P (k + 1) = brkSum P k + brkF P k) := rfl
      rw [HW.out] at h2
      go_wp2_with (go_at_call 30; refine (implBreaks_any v P n k _ (InS.below HS.out HB.out) HPL.out hlt).mono ?_; rintro e w2 ⟨u, rfl, ⟨A1, c1, rfl⟩, hb⟩; have HB2 : Hid (Below w.heap.size w w2) := HB.out.trans (hb.mono HB.out.size); clear hb)
      go_roundw
      case rel => exact ⟨k + 1, by omega, by go_num, by rw [HW.out]; go_num, HB2.out⟩
      case measure => simp [intOf]; omega
    · obtain rfl : k = n := by omega
      go_wp2
      go_ret
      exact ⟨rfl, HB.out⟩

set_option maxHeartbeats 1000000 in
theorem specCountBreaks_any (v : Value) (P : List (List Int)) (n : Nat) (w : World) (hs : InS w v P) (hn : bulk P ≤ 1048576) (hpl : planB n P = true) :
    Calls Tryd.prog 12 #[.int .i64 n, v] w fun e w' => e = .returned (.int .i64 (brkSum P n)) ∧ Below w.heap.size w w' := by
  have HC := Lib.hid (specPlanOk_any n v P w hs hn)
  have HS := Lib.hid hs
  have hcap := planB_cap hpl
  have HSUM : Hid (∀ k, brkSum P k ≤ 36 * k) := fun k => brkSum_le P hcap.2.2 k
  have HPL := Lib.hid hpl
  clear hs hpl
  go_enter Tryd.func12, Tryd.ntmps12
  go_wp2_with (go_at_call 10; refine HC.out.mono ?_; rintro e w' ⟨rfl, d, rfl⟩; rw [HPL.out])
  have HB0 : Hid (Below w.heap.size w (w.drewN d)) := below_of_drewN _ _ _
  go_loopw [5, 6] (fun s i wr => ∃ k : Nat, k ≤ n ∧ i = .int .i64 k ∧ s = .int .i64 (brkSum P k) ∧ Hid (Below w.heap.size w wr)) (fun _ i _ => n - (intOf i).toNat)
  case atStart => exact ⟨0, Nat.zero_le _, rfl, rfl, HB0.out⟩
  case round =>
    obtain ⟨k, hk, rfl, rfl, HB⟩ := hrel
    by_cases hlt : k < n
    · have h1 := HSUM.out k
      have h2 := HSUM.out (k + 1)
      have HW : Hid (brkSum P (k + 1) = brkSum P k + brkF P k) := rfl
      rw [HW.out] at h2
      go_wp2_with (go_at_call 23; refine (specBreaks_any v P n k _ (InS.below HS.out HB.out) HPL.out hlt).mono ?_; rintro e w2 ⟨u, rfl, ⟨A1, c1, rfl⟩, hb⟩; have HB2 : Hid (Below w.heap.size w w2) := HB.out.trans (hb.mono HB.out.size); clear hb)
      go_roundw
      case rel => exact ⟨k + 1, by omega, by go_num, by rw [HW.out]; go_num, HB2.out⟩
      case measure => simp [intOf]; omega
    · obtain rfl : k = n := by omega
      go_wp2
      go_ret
      exact ⟨rfl, HB.out⟩
end Go.Proofs.YtnlhelhpalimnaaDoor
