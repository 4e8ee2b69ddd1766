/- The value of a plan's carry-over; a plan as a line: the walks. -/
import Derived.Test.YtofpaekokmkhgaaGreatDoorMbp
import Derived.Lib.SliceRun
namespace Go.Proofs.YtofpaekokmkhgaaGreatDoor
open Go.ChangeShapes Go.WideShapes Go.ChangeAt Go.RowKit

theorem implCarryNone_any (v : Value) (n : Nat) (w : World) (hs : InS w v []) :
    Calls Tryz.prog 41 #[.int .i64 n, v] w fun e w' => e = .returned (.slice none 0 0) ∧ ∃ d, w' = w.drewN d := by
  have HC := Lib.hid (implPlanOk_any n v [] w hs (by simp [bulk]))
  obtain ⟨A, c, vs, rfl, hvl, hc, hm, -, -⟩ := hs
  clear hvl
  cases h1 : planB n []
  all_goals
    go_enter Tryz.func41, Tryz.ntmps41
    go_wp2_with (go_at_call 39; refine HC.out.mono ?_; rintro e w' ⟨rfl, d, rfl⟩; rw [h1])
    go_ret
    exact ⟨rfl, _, rfl⟩

set_option maxHeartbeats 2000000 in
theorem implCarryValue_any (v : Value) (P : List (List Int)) (n : Nat) (w : World) (hs : InS w v P) (hn : bulk P ≤ 1048576) (hpl : planB n P = true) (hne : 0 < P.length) :
    Calls Tryz.prog 20 #[.int .i64 n, v] w fun e w' => e = .returned (.int .i64 (sqS (carR n P P.length))) ∧ Below w.heap.size w w' := by
  have HC := Lib.hid (implCarryTable_any v P n w hs hn hpl hne)
  have hcap := planB_cap hpl
  have HSM : Hid (sqM n 360 (carR n P P.length)) := sqM_all hpl (Nat.le_refl _)
  clear hpl hs hn
  generalize carR n P P.length = M at *
  have HCAP : Hid (∀ q, q ≤ n → 0 ≤ sqS (M.take q) ∧ sqS (M.take q) ≤ 1296000 * q) := fun q hq => sqS_cap HSM.out hcap.2.1 q (by rw [HSM.out.1]; exact hq)
  have qT : ∀ (w : World) (a : Option Addr) (n c n' c' : Nat), (binOp .eql 27 (.slice a n c) (.slice none n' c')).run Tryz.prog w = .ok (.bool a.isNone) w := fun w a n c n' c' => Lib.run_eql_slice_nil w _ _ a n c n' c' Tryz.underlying27
  go_enter Tryz.func20, Tryz.ntmps20
  go_wp2_with fail
  refine HC.out.mono ?_
  rintro e w2 ⟨v2, rfl, hown, hb⟩
  obtain ⟨At, ct, hft, hct, _⟩ := hown.form
  rw [HSM.out.1] at hft hct
  subst hft
  obtain ⟨g0, xs0, hx0, _⟩ : ∃ xs, M[0]? = some xs ∧ True ∧ True := by obtain ⟨xs, h, _⟩ := HSM.out.row (a := 0) (by omega); exact ⟨xs, h, trivial, trivial⟩
  obtain ⟨b0, o0, _, _, hA0, _⟩ := hown.in_.at_ (k := 0) (by rw [HSM.out.1]; omega)
  subst hA0
  have HIN := Lib.hid (And.intro hown.in_ hb)
  clear hown hb hx0 xs0
  go_wp2
  go_loop [6, 18] (fun s i => ∃ q : Nat, q ≤ n ∧ i = .int .i64 q ∧ s = .int .i64 (sqS (M.take q))) (fun _ i => n - (intOf i).toNat)
  case atStart => exact ⟨0, Nat.zero_le _, rfl, rfl⟩
  case round =>
    obtain ⟨q, hq, rfl, rfl⟩ := hrel
    by_cases hlt : q < n
    case neg =>
      obtain rfl : n = q := by omega
      have HE : Hid (M.take n = M) := by show _ = _; rw [List.take_of_length_le (by rw [HSM.out.1]; exact Nat.le_refl _)]
      rw [HE.out]
      go_wp2
      go_ret
      exact ⟨rfl, HIN.out.2⟩
    obtain ⟨b1, o1, u, xs, e1, hx, hcell, hin, -⟩ := HIN.out.1.at_ (k := q) (by rw [HSM.out.1]; exact hlt)
    injection e1 with e1; injection e1 with r1 r2 _; subst r1; subst r2
    obtain ⟨A1, c1, rfl, hc1, hm1, hsl⟩ := hin
    have HX := HSM.out.2 q xs hx
    have HNX := Lib.hid (sqS_take hx)
    have hc0 := HCAP.out q hq
    have HRC : Hid (∀ k, k ≤ xs.length → 0 ≤ sqR (xs.take k) ∧ sqR (xs.take k) ≤ 129600 * k) := fun k hk => sqR_cap HX.2 k hk
    have HXL := Lib.hid HX.1
    have HXC := Lib.hid HX.2
    rw [HX.1] at hcell hc1
    have HSL := Lib.hid hsl
    clear HX hx hsl
    generalize sqS (M.take q) = S0 at *
    go_wp2
    go_loop [6, 24] (fun s i => ∃ k : Nat, k ≤ n ∧ i = .int .i64 k ∧ s = .int .i64 (S0 + sqR (xs.take k))) (fun _ i => n - (intOf i).toNat)
    case atStart => exact ⟨0, Nat.zero_le _, rfl, by simp [sqR]⟩
    case round =>
      obtain ⟨k, hk, rfl, rfl⟩ := hrel
      by_cases hlt2 : k < n
      case neg =>
        obtain rfl : n = k := by omega
        have HE : Hid (xs.take n = xs) := by show _ = _; rw [List.take_of_length_le (by rw [HXL.out]; exact Nat.le_refl _)]
        rw [HE.out]
        go_wp2
        go_round
        case rel => exact ⟨q + 1, by omega, by go_num, by rw [HNX.out]⟩
        case measure => simp [intOf]; omega
      obtain ⟨b2, o2, x, rfl, hx, hcx, -⟩ := HSL.out.at_ (k := k) (by rw [HXL.out]; exact hlt2)
      have hx0 := HXC.out k x hx
      have hxx := sq_cap hx0.1 hx0.2
      have hr0 := HRC.out k (by rw [HXL.out]; exact hk)
      have HRN := Lib.hid (sqR_take hx)
      clear hx
      generalize sqR (xs.take k) = T0 at *
      go_wp2
      go_round
      case rel => exact ⟨k + 1, by omega, by go_num, by rw [HRN.out]; first | rfl | go_num⟩
      case measure => simp [intOf]; omega

theorem planNil {P : List (List Int)} (h : ¬ 0 < P.length) : P = [] := List.eq_nil_of_length_eq_zero (by omega)
set_option maxHeartbeats 1000000 in
theorem implCarryAll_any (v : Value) (P : List (List Int)) (n : Nat) (w : World) (hs : InS w v P) (hn : bulk P ≤ 1048576) (hpl : planB n P = true) :
    Calls Tryz.prog 20 #[.int .i64 n, v] w fun e w' => e = .returned (.int .i64 (carV n P)) ∧ Below w.heap.size w w' := by
  by_cases hne : 0 < P.length
  · have h := implCarryValue_any v P n w hs hn hpl hne
    have e : carV n P = sqS (carR n P P.length) := by unfold carV; rw [if_neg (by intro h; rw [h] at hne; simp at hne)]
    rw [e]; exact h
  · obtain rfl := planNil hne
    have HC := Lib.hid (implCarryNone_any v n w hs)
    clear hs hn hpl hne
    have qT : ∀ (w : World) (a : Option Addr) (n c n' c' : Nat), (binOp .eql 27 (.slice a n c) (.slice none n' c')).run Tryz.prog w = .ok (.bool a.isNone) w := fun w a n c n' c' => Lib.run_eql_slice_nil w _ _ a n c n' c' Tryz.underlying27
    go_enter Tryz.func20, Tryz.ntmps20
    go_wp2_with fail
    refine HC.out.mono ?_
    rintro e w2 ⟨rfl, d, rfl⟩
    go_wp2
    go_ret
    exact ⟨by simp [carV], below_of_drewN _ _ _⟩

theorem brkW_eq : (⟨#[98, 114, 101, 97, 107, 115, 32]⟩ : ByteArray) = ⟨brkW.toArray⟩ := rfl
theorem carW_eq : (⟨#[32, 99, 97, 114, 114, 121, 32]⟩ : ByteArray) = ⟨carW.toArray⟩ := rfl
theorem planText_t {n : Nat} {P : List (List Int)} (h : planB n P = true) : planText n P = ((brkW ++ Lib.itoa (brkSum P n)) ++ carW) ++ Lib.itoa (carV n P) := by
  unfold planText; rw [if_pos h, Int.toNat_natCast]
theorem planText_f {n : Int} {P : List (List Int)} (h : planB n P = false) : planText n P = [110, 111, 110, 101] := by unfold planText; simp [h]
theorem planText_str (a b : List UInt8) : ((((⟨#[98, 114, 101, 97, 107, 115, 32]⟩ : ByteArray) ++ ⟨a.toArray⟩) ++ ⟨#[32, 99, 97, 114, 114, 121, 32]⟩) ++ ⟨b.toArray⟩) = ⟨(((brkW ++ a) ++ carW) ++ b).toArray⟩ := by
  rw [brkW_eq, carW_eq, bcat, bcat, bcat]
theorem carV_cap {n : Nat} {P : List (List Int)} (h : planB n P = true) : -1 ≤ carV n P ∧ carV n P ≤ 12960000 := by
  have hcap := planB_cap h
  unfold carV
  split
  · omega
  · have h1 := sqS_cap (sqM_all h (Nat.le_refl _)) hcap.2.1 (carR n P P.length).length (Nat.le_refl _)
    rw [List.take_length, (sqM_all h (Nat.le_refl _)).1] at h1
    omega

set_option maxHeartbeats 2000000 in
theorem implPlanLine_any (n : Int) (v : Value) (P : List (List Int)) (w : World) (hs : InS w v P) (hn : bulk P ≤ 1048576) (ht : tabP w) :
    Calls Tryz.prog 18 #[.int .i64 n, v] w fun e w' => e = .returned (.string ⟨(planText n P).toArray⟩) ∧ Below w.heap.size w w' := by
  have HC := Lib.hid (implPlanOk_any n v P w hs hn)
  cases h1 : planB n P
  case false =>
    have HT : Hid (planText n P = [110, 111, 110, 101]) := planText_f h1
    go_enter Tryz.func18, Tryz.ntmps18
    go_wp2_with (go_at_call 39; refine HC.out.mono ?_; rintro e w' ⟨rfl, d, rfl⟩; rw [h1])
    go_ret
    exact ⟨by rw [HT.out]; rfl, below_of_drewN _ _ _⟩
  obtain ⟨m, rfl⟩ : ∃ m : Nat, n = m := ⟨n.toNat, by have := h1; unfold planB clubsB at this; simp only [Bool.and_eq_true] at this; have := inB_t.1 this.1.1; omega⟩
  have hcap := planB_cap h1
  have HPL := Lib.hid h1
  have HS := Lib.hid (And.intro hs (And.intro hn ht))
  have hbs := brkSum_le P hcap.2.2 m
  have hcv := carV_cap h1
  have HT := Lib.hid (planText_t h1)
  have hl1 := Lib.itoa_length_le ((brkSum P m : Nat) : Int) (by omega) (by omega)
  have hl2 := Lib.itoa_length_le (carV m P) (by omega) (by omega)
  have HST := Lib.hid (planText_str (Lib.itoa ((brkSum P m : Nat) : Int)) (Lib.itoa (carV m P)))
  clear h1 hs hn ht
  go_enter Tryz.func18, Tryz.ntmps18
  go_wp2_with (go_at_call 39; refine HC.out.mono ?_; rintro e w' ⟨rfl, d, rfl⟩; rw [HPL.out])
  have B1 : Hid (Below w.heap.size w (w.drewN d)) := below_of_drewN _ _ _
  generalize w.drewN d = w1 at *
  refine (implCountBreaks_any v P m w1 (InS.below HS.out.1 B1.out) HS.out.2.1 HPL.out).mono ?_
  rintro e w2 ⟨rfl, hb⟩
  have B2 : Hid (Below w.heap.size w w2) := B1.out.trans (hb.mono B1.out.size)
  clear hb
  go_wp2_with fail
  refine (implFormatInt_any _ w2 (by omega) (by omega) (HS.out.2.2.below B2.out (Nat.le_refl _))).mono ?_
  rintro e w3 ⟨rfl, hb⟩
  have B3 : Hid (Below w.heap.size w w3) := B2.out.trans (hb.mono B2.out.size)
  clear hb
  go_wp2_with fail
  refine (implCarryAll_any v P m w3 (InS.below HS.out.1 B3.out) HS.out.2.1 HPL.out).mono ?_
  rintro e w4 ⟨rfl, hb⟩
  have B4 : Hid (Below w.heap.size w w4) := B3.out.trans (hb.mono B3.out.size)
  clear hb
  go_wp2_with fail
  refine (implFormatInt_any _ w4 (by omega) (by omega) (HS.out.2.2.below B4.out (Nat.le_refl _))).mono ?_
  rintro e w5 ⟨rfl, hb⟩
  have B5 : Hid (Below w.heap.size w w5) := B4.out.trans (hb.mono B4.out.size)
  clear hb
  go_wp2
  go_ret
  exact ⟨by rw [HT.out, ← HST.out]; rfl, B5.out⟩
end Go.Proofs.YtofpaekokmkhgaaGreatDoor
