/- Ratings: contracts of functions on integers. -/
import Derived.Test.YtkkhjjdgpngklaaTools
namespace Go.Proofs.Ytkkhjjdgpngklaa
open Go.ChangeShapes Go.WideShapes Go.ChangeAt Go.RowKit

def isR (a : Int) : Bool := inB a 0 4000
theorem isR_t {a : Int} : isR a = true ↔ 0 ≤ a ∧ a ≤ 4000 := inB_t
def expd (a b : Int) : Int := 500 + (if a - b < -450 then -450 else if 450 < a - b then 450 else a - b)
theorem expd_bd (a b : Int) : 50 ≤ expd a b ∧ expd a b ≤ 950 := by unfold expd; split <;> (try split) <;> omega
def chg (a b h f : Int) : Int :=
  if f * (500 * h - expd a b) < 0 then -((-(f * (500 * h - expd a b)) + 500) / 1000) else (f * (500 * h - expd a b) + 500) / 1000
def expdF (a b : Int) : Int := if isR a && isR b then expd a b else -1
def chgF (a b h f : Int) : Int := if isR a && isR b && inB h 0 2 && inB f 1 100 then chg a b h f else 0
theorem chg_bd (a b h f : Int) (h1 : 0 ≤ h) (h2 : h ≤ 2) (h3 : 1 ≤ f) (h4 : f ≤ 100) : -95 ≤ chg a b h f ∧ chg a b h f ≤ 95 := by
  obtain ⟨e1, e2⟩ := expd_bd a b
  have b1 : f * (500 * h - expd a b) ≤ 100 * 950 := by
    rcases Int.le_total 0 (500 * h - expd a b) with h0 | h0
    · exact Int.mul_le_mul h4 (by omega) h0 (by omega)
    · have := Int.mul_nonneg (show 0 ≤ f by omega) (show 0 ≤ -(500 * h - expd a b) by omega)
      rw [Int.mul_neg] at this; omega
  have b2 : -(100 * 950) ≤ f * (500 * h - expd a b) := by
    rcases Int.le_total 0 (500 * h - expd a b) with h0 | h0
    · have := Int.mul_nonneg (show 0 ≤ f by omega) h0; omega
    · have h5 : f * -(500 * h - expd a b) ≤ 100 * 950 := Int.mul_le_mul h4 (by omega) (by omega) (by omega)
      rw [Int.mul_neg] at h5; omega
  unfold chg; split <;> omega

theorem isRating_any (a : Int) (w : World) : Calls Try.prog 45 #[.int .i64 a] w fun e w' => e = .returned (.bool (isR a)) ∧ w = w' := by
  go_enter Try.func45, Try.ntmps45
  go_wp2_with (go_at_call 49; refine (within_any _ _ _ _).mono ?_; rintro e w' ⟨rfl, rfl⟩)
  go_ret
  exact ⟨rfl, rfl⟩

theorem l26Rating_any (a : Int) (w : World) : Calls Try.prog 43 #[.int .i64 a] w fun e w' => e = .returned (.bool (isR a)) ∧ w = w' := by
  go_enter Try.func43, Try.ntmps43
  go_wp2_with (go_at_call 47; refine (l01In_any _ _ _ _).mono ?_; rintro e w' ⟨rfl, rfl⟩)
  go_ret
  exact ⟨rfl, rfl⟩

theorem expected_any (a b : Int) (w : World) (h1 : -100000 ≤ a) (h2 : a ≤ 100000) (h3 : -100000 ≤ b) (h4 : b ≤ 100000) : Calls Try.prog 46 #[.int .i64 a, .int .i64 b] w fun e w' => e = .returned (.int .i64 (expd a b)) ∧ w = w' := by
  go_enter Try.func46, Try.ntmps46
  go_wp2
  all_goals go_ret
  all_goals exact ⟨ret_int (by unfold expd; split <;> (try split) <;> omega), rfl⟩

theorem l26Expected_any (a b : Int) (w : World) (h1 : -100000 ≤ a) (h2 : a ≤ 100000) (h3 : -100000 ≤ b) (h4 : b ≤ 100000) : Calls Try.prog 44 #[.int .i64 a, .int .i64 b] w fun e w' => e = .returned (.int .i64 (expd a b)) ∧ w = w' := by
  go_enter Try.func44, Try.ntmps44
  go_wp2
  all_goals go_ret
  all_goals exact ⟨ret_int (by unfold expd; split <;> (try split) <;> omega), rfl⟩

theorem change_any (a b h f : Int) (w : World) (h1 : 0 ≤ a) (h2 : a ≤ 4000) (h3 : 0 ≤ b) (h4 : b ≤ 4000) (h5 : 0 ≤ h) (h6 : h ≤ 2) (h7 : 1 ≤ f) (h8 : f ≤ 100) :
    Calls Try.prog 50 #[.int .i64 a, .int .i64 b, .int .i64 h, .int .i64 f] w fun e w' => e = .returned (.int .i64 (chg a b h f)) ∧ w = w' := by
  obtain ⟨e1, e2⟩ := expd_bd a b
  have b1 : f * (500 * h - expd a b) ≤ 100 * 950 := by
    rcases Int.le_total 0 (500 * h - expd a b) with h0 | h0
    · exact Int.mul_le_mul h8 (by omega) h0 (by omega)
    · have := Int.mul_nonneg (show 0 ≤ f by omega) (show 0 ≤ -(500 * h - expd a b) by omega)
      rw [Int.mul_neg] at this; omega
  have b2 : -(100 * 950) ≤ f * (500 * h - expd a b) := by
    rcases Int.le_total 0 (500 * h - expd a b) with h0 | h0
    · have := Int.mul_nonneg (show 0 ≤ f by omega) h0; omega
    · have h5 : f * -(500 * h - expd a b) ≤ 100 * 950 := Int.mul_le_mul h8 (by omega) (by omega) (by omega)
      rw [Int.mul_neg] at h5; omega
  by_cases hs : f * (500 * h - expd a b) < 0
  all_goals
    go_enter Try.func50, Try.ntmps50
    go_wp2_with fail
    refine (expected_any a b _ (by omega) (by omega) (by omega) (by omega)).mono ?_
    rintro e w' ⟨rfl, rfl⟩
    go_wp2
    go_ret
    exact ⟨ret_int (by unfold chg; split <;> first | rfl | omega), rfl⟩

theorem l26Change_any (a b h f : Int) (w : World) (h1 : 0 ≤ a) (h2 : a ≤ 4000) (h3 : 0 ≤ b) (h4 : b ≤ 4000) (h5 : 0 ≤ h) (h6 : h ≤ 2) (h7 : 1 ≤ f) (h8 : f ≤ 100) :
    Calls Try.prog 48 #[.int .i64 a, .int .i64 b, .int .i64 h, .int .i64 f] w fun e w' => e = .returned (.int .i64 (chg a b h f)) ∧ w = w' := by
  obtain ⟨e1, e2⟩ := expd_bd a b
  have b1 : f * (500 * h - expd a b) ≤ 100 * 950 := by
    rcases Int.le_total 0 (500 * h - expd a b) with h0 | h0
    · exact Int.mul_le_mul h8 (by omega) h0 (by omega)
    · have := Int.mul_nonneg (show 0 ≤ f by omega) (show 0 ≤ -(500 * h - expd a b) by omega)
      rw [Int.mul_neg] at this; omega
  have b2 : -(100 * 950) ≤ f * (500 * h - expd a b) := by
    rcases Int.le_total 0 (500 * h - expd a b) with h0 | h0
    · have := Int.mul_nonneg (show 0 ≤ f by omega) h0; omega
    · have h5 : f * -(500 * h - expd a b) ≤ 100 * 950 := Int.mul_le_mul h8 (by omega) (by omega) (by omega)
      rw [Int.mul_neg] at h5; omega
  by_cases hs : f * (500 * h - expd a b) < 0
  all_goals
    go_enter Try.func48, Try.ntmps48
    go_wp2_with fail
    refine (l26Expected_any a b _ (by omega) (by omega) (by omega) (by omega)).mono ?_
    rintro e w' ⟨rfl, rfl⟩
    go_wp2
    go_ret
    exact ⟨ret_int (by unfold chg; split <;> first | rfl | omega), rfl⟩

theorem implExpectedScore_any (a b : Int) (w : World) : Calls Try.prog 14 #[.int .i64 a, .int .i64 b] w fun e w' => e = .returned (.int .i64 (expdF a b)) ∧ w = w' := by
  cases ha : isR a
  · go_enter Try.func14, Try.ntmps14
    go_wp2_with (go_at_call 45; refine (isRating_any _ _).mono ?_; rintro e w' ⟨rfl, rfl⟩)
    go_ret
    exact ⟨by simp [expdF, ha], rfl⟩
  · cases hb : isR b
    · go_enter Try.func14, Try.ntmps14
      go_wp2_with (go_at_call 45; refine (isRating_any _ _).mono ?_; rintro e w' ⟨rfl, rfl⟩)
      go_ret
      exact ⟨by simp [expdF, ha, hb], rfl⟩
    · obtain ⟨a1, a2⟩ := isR_t.1 ha
      obtain ⟨b1, b2⟩ := isR_t.1 hb
      go_enter Try.func14, Try.ntmps14
      go_wp2_with (first | (go_at_call 45; refine (isRating_any _ _).mono ?_; rintro e w' ⟨rfl, rfl⟩) | (go_at_call 46; refine (expected_any _ _ _ (by omega) (by omega) (by omega) (by omega)).mono ?_; rintro e w' ⟨rfl, rfl⟩))
      go_ret
      exact ⟨by simp [expdF, ha, hb], rfl⟩

theorem implChangeFor_any (a b h f : Int) (w : World) : Calls Try.prog 16 #[.int .i64 a, .int .i64 b, .int .i64 h, .int .i64 f] w fun e w' => e = .returned (.int .i64 (chgF a b h f)) ∧ w = w' := by
  cases ha : isR a
  case true =>
    cases hb : isR b
    case true =>
      cases hh : inB h 0 2
      case true =>
        cases hf : inB f 1 100
        case true =>
          obtain ⟨a1, a2⟩ := isR_t.1 ha
          obtain ⟨b1, b2⟩ := isR_t.1 hb
          obtain ⟨c1, c2⟩ := inB_t.1 hh
          obtain ⟨d1, d2⟩ := inB_t.1 hf
          go_enter Try.func16, Try.ntmps16
          go_wp2_with (first | (go_at_call 45; refine (isRating_any _ _).mono ?_; rintro e w' ⟨rfl, rfl⟩) | (go_at_call 49; refine (within_any _ _ _ _).mono ?_; rintro e w' ⟨rfl, rfl⟩) | (go_at_call 50; refine (change_any _ _ _ _ _ (by omega) (by omega) (by omega) (by omega) (by omega) (by omega) (by omega) (by omega)).mono ?_; rintro e w' ⟨rfl, rfl⟩))
          go_ret
          exact ⟨by simp [chgF, ha, hb, hh, hf], rfl⟩
        all_goals
          go_enter Try.func16, Try.ntmps16
          go_wp2_with (first | (go_at_call 45; refine (isRating_any _ _).mono ?_; rintro e w' ⟨rfl, rfl⟩) | (go_at_call 49; refine (within_any _ _ _ _).mono ?_; rintro e w' ⟨rfl, rfl⟩))
          go_ret
          exact ⟨by simp [chgF, ha, hb, hh, hf], rfl⟩
      all_goals
        go_enter Try.func16, Try.ntmps16
        go_wp2_with (first | (go_at_call 45; refine (isRating_any _ _).mono ?_; rintro e w' ⟨rfl, rfl⟩) | (go_at_call 49; refine (within_any _ _ _ _).mono ?_; rintro e w' ⟨rfl, rfl⟩))
        go_ret
        exact ⟨by simp [chgF, ha, hb, hh], rfl⟩
    all_goals
      go_enter Try.func16, Try.ntmps16
      go_wp2_with (go_at_call 45; refine (isRating_any _ _).mono ?_; rintro e w' ⟨rfl, rfl⟩)
      go_ret
      exact ⟨by simp [chgF, ha, hb], rfl⟩
  all_goals
    go_enter Try.func16, Try.ntmps16
    go_wp2_with (go_at_call 45; refine (isRating_any _ _).mono ?_; rintro e w' ⟨rfl, rfl⟩)
    go_ret
    exact ⟨by simp [chgF, ha], rfl⟩

theorem specExpectedScore_any (a b : Int) (w : World) : Calls Try.prog 13 #[.int .i64 a, .int .i64 b] w fun e w' => e = .returned (.int .i64 (expdF a b)) ∧ w = w' := by
  cases ha : isR a
  · go_enter Try.func13, Try.ntmps13
    go_wp2_with (go_at_call 43; refine (l26Rating_any _ _).mono ?_; rintro e w' ⟨rfl, rfl⟩)
    go_ret
    exact ⟨by simp [expdF, ha], rfl⟩
  · cases hb : isR b
    · go_enter Try.func13, Try.ntmps13
      go_wp2_with (go_at_call 43; refine (l26Rating_any _ _).mono ?_; rintro e w' ⟨rfl, rfl⟩)
      go_ret
      exact ⟨by simp [expdF, ha, hb], rfl⟩
    · obtain ⟨a1, a2⟩ := isR_t.1 ha
      obtain ⟨b1, b2⟩ := isR_t.1 hb
      go_enter Try.func13, Try.ntmps13
      go_wp2_with (first | (go_at_call 43; refine (l26Rating_any _ _).mono ?_; rintro e w' ⟨rfl, rfl⟩) | (go_at_call 44; refine (l26Expected_any _ _ _ (by omega) (by omega) (by omega) (by omega)).mono ?_; rintro e w' ⟨rfl, rfl⟩))
      go_ret
      exact ⟨by simp [expdF, ha, hb], rfl⟩

theorem specChangeFor_any (a b h f : Int) (w : World) : Calls Try.prog 15 #[.int .i64 a, .int .i64 b, .int .i64 h, .int .i64 f] w fun e w' => e = .returned (.int .i64 (chgF a b h f)) ∧ w = w' := by
  cases ha : isR a
  case true =>
    cases hb : isR b
    case true =>
      cases hh : inB h 0 2
      case true =>
        cases hf : inB f 1 100
        case true =>
          obtain ⟨a1, a2⟩ := isR_t.1 ha
          obtain ⟨b1, b2⟩ := isR_t.1 hb
          obtain ⟨c1, c2⟩ := inB_t.1 hh
          obtain ⟨d1, d2⟩ := inB_t.1 hf
          go_enter Try.func15, Try.ntmps15
          go_wp2_with (first | (go_at_call 43; refine (l26Rating_any _ _).mono ?_; rintro e w' ⟨rfl, rfl⟩) | (go_at_call 47; refine (l01In_any _ _ _ _).mono ?_; rintro e w' ⟨rfl, rfl⟩) | (go_at_call 48; refine (l26Change_any _ _ _ _ _ (by omega) (by omega) (by omega) (by omega) (by omega) (by omega) (by omega) (by omega)).mono ?_; rintro e w' ⟨rfl, rfl⟩))
          go_ret
          exact ⟨by simp [chgF, ha, hb, hh, hf], rfl⟩
        all_goals
          go_enter Try.func15, Try.ntmps15
          go_wp2_with (first | (go_at_call 43; refine (l26Rating_any _ _).mono ?_; rintro e w' ⟨rfl, rfl⟩) | (go_at_call 47; refine (l01In_any _ _ _ _).mono ?_; rintro e w' ⟨rfl, rfl⟩))
          go_ret
          exact ⟨by simp [chgF, ha, hb, hh, hf], rfl⟩
      all_goals
        go_enter Try.func15, Try.ntmps15
        go_wp2_with (first | (go_at_call 43; refine (l26Rating_any _ _).mono ?_; rintro e w' ⟨rfl, rfl⟩) | (go_at_call 47; refine (l01In_any _ _ _ _).mono ?_; rintro e w' ⟨rfl, rfl⟩))
        go_ret
        exact ⟨by simp [chgF, ha, hb, hh], rfl⟩
    all_goals
      go_enter Try.func15, Try.ntmps15
      go_wp2_with (go_at_call 43; refine (l26Rating_any _ _).mono ?_; rintro e w' ⟨rfl, rfl⟩)
      go_ret
      exact ⟨by simp [chgF, ha, hb], rfl⟩
  all_goals
    go_enter Try.func15, Try.ntmps15
    go_wp2_with (go_at_call 43; refine (l26Rating_any _ _).mono ?_; rintro e w' ⟨rfl, rfl⟩)
    go_ret
    exact ⟨by simp [chgF, ha], rfl⟩
end Go.Proofs.Ytkkhjjdgpngklaa
