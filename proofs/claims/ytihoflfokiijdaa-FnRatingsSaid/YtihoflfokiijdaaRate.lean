/- Ratings: contracts of functions on integers. -/
import Derived.Test.YtihoflfokiijdaaTools
namespace Go.Proofs.Ytihoflfokiijdaa
open Go.ChangeShapes Go.WideShapes Go.ChangeAt Go.RowKit

def isR (a : Int) : Bool := inB a 0 4000
theorem isR_t {a : Int} : isR a = true ↔ 0 ≤ a ∧ a ≤ 4000 := inB_t
def expd (a b : Int) : Int := 500 + (if a - b < -450 then -450 else if 450 < a - b then 450 else a - b)
theorem expd_bd (a b : Int) : 50 ≤ expd a b ∧ expd a b ≤ 950 := by unfold expd; split <;> (try split) <;> omega
def chg (a b h f : Int) : Int :=
  if f * (500 * h - expd a b) < 0 then -((-(f * (500 * h - expd a b)) + 500) / 1000) else (f * (500 * h - expd a b) + 500) / 1000
def expdF (a b : Int) : Int := if isR a && isR b then expd a b else -1
def chgF (a b h f : Int) : Int := if isR a && isR b && inB h 0 2 && inB f 1 100 then chg a b h f else 0
theorem chg_bd (a b h f : Int) (h1 : 0 ≤ h) (h2 : h ≤ 2) (h3 : 1 ≤ f) (h4 : f ≤ 100) : -95 ≤ chg a b h f ∧ chg a b h f ≤ 95 := by
  obtain ⟨e1, e2⟩ := expd_bd a b
  have b1 : f * (500 * h - expd a b) ≤ 100 * 950 := by
    rcases Int.le_total 0 (500 * h - expd a b) with h0 | h0
    · exact Int.mul_le_mul h4 (by omega) h0 (by omega)
    · have := Int.mul_nonneg (show 0 ≤ f by omega) (show 0 ≤ -(500 * h - expd a b) by omega)
      rw [Int.mul_neg] at this; omega
  have b2 : -(100 * 950) ≤ f * (500 * h - expd a b) := by
    rcases Int.le_total 0 (500 * h - expd a b) with h0 | h0
    · have := Int.mul_nonneg (show 0 ≤ f by omega) h0; omega
    · have h5 : f * -(500 * h - expd a b) ≤ 100 * 950 := Int.mul_le_mul h4 (by omega) (by omega) (by omega)
      rw [Int.mul_neg] at h5; omega
  unfold chg; split <;> omega

theorem isRating_any (a : Int) (w : World) : Calls Try.prog 29 #[.int .i64 a] w fun e w' => e = .returned (.bool (isR a)) ∧ w = w' := by
  go_enter Try.func29, Try.ntmps29
  go_wp2_with (go_at_call 20; refine (within_any _ _ _ _).mono ?_; rintro e w' ⟨rfl, rfl⟩)
  go_ret
  exact ⟨rfl, rfl⟩

theorem expected_any (a b : Int) (w : World) (h1 : -100000 ≤ a) (h2 : a ≤ 100000) (h3 : -100000 ≤ b) (h4 : b ≤ 100000) : Calls Try.prog 30 #[.int .i64 a, .int .i64 b] w fun e w' => e = .returned (.int .i64 (expd a b)) ∧ w = w' := by
  go_enter Try.func30, Try.ntmps30
  go_wp2
  all_goals go_ret
  all_goals exact ⟨ret_int (by unfold expd; split <;> (try split) <;> omega), rfl⟩

theorem change_any (a b h f : Int) (w : World) (h1 : 0 ≤ a) (h2 : a ≤ 4000) (h3 : 0 ≤ b) (h4 : b ≤ 4000) (h5 : 0 ≤ h) (h6 : h ≤ 2) (h7 : 1 ≤ f) (h8 : f ≤ 100) :
    Calls Try.prog 23 #[.int .i64 a, .int .i64 b, .int .i64 h, .int .i64 f] w fun e w' => e = .returned (.int .i64 (chg a b h f)) ∧ w = w' := by
  obtain ⟨e1, e2⟩ := expd_bd a b
  have b1 : f * (500 * h - expd a b) ≤ 100 * 950 := by
    rcases Int.le_total 0 (500 * h - expd a b) with h0 | h0
    · exact Int.mul_le_mul h8 (by omega) h0 (by omega)
    · have := Int.mul_nonneg (show 0 ≤ f by omega) (show 0 ≤ -(500 * h - expd a b) by omega)
      rw [Int.mul_neg] at this; omega
  have b2 : -(100 * 950) ≤ f * (500 * h - expd a b) := by
    rcases Int.le_total 0 (500 * h - expd a b) with h0 | h0
    · have := Int.mul_nonneg (show 0 ≤ f by omega) h0; omega
    · have h5 : f * -(500 * h - expd a b) ≤ 100 * 950 := Int.mul_le_mul h8 (by omega) (by omega) (by omega)
      rw [Int.mul_neg] at h5; omega
  by_cases hs : f * (500 * h - expd a b) < 0
  all_goals
    go_enter Try.func23, Try.ntmps23
    go_wp2_with fail
    refine (expected_any a b _ (by omega) (by omega) (by omega) (by omega)).mono ?_
    rintro e w' ⟨rfl, rfl⟩
    go_wp2
    go_ret
    exact ⟨ret_int (by unfold chg; split <;> first | rfl | omega), rfl⟩

theorem implExpectedScore_any (a b : Int) (w : World) : Calls Try.prog 15 #[.int .i64 a, .int .i64 b] w fun e w' => e = .returned (.int .i64 (expdF a b)) ∧ w = w' := by
  cases ha : isR a
  · go_enter Try.func15, Try.ntmps15
    go_wp2_with (go_at_call 29; refine (isRating_any _ _).mono ?_; rintro e w' ⟨rfl, rfl⟩)
    go_ret
    exact ⟨by simp [expdF, ha], rfl⟩
  · cases hb : isR b
    · go_enter Try.func15, Try.ntmps15
      go_wp2_with (go_at_call 29; refine (isRating_any _ _).mono ?_; rintro e w' ⟨rfl, rfl⟩)
      go_ret
      exact ⟨by simp [expdF, ha, hb], rfl⟩
    · obtain ⟨a1, a2⟩ := isR_t.1 ha
      obtain ⟨b1, b2⟩ := isR_t.1 hb
      go_enter Try.func15, Try.ntmps15
      go_wp2_with (first | (go_at_call 29; refine (isRating_any _ _).mono ?_; rintro e w' ⟨rfl, rfl⟩) | (go_at_call 30; refine (expected_any _ _ _ (by omega) (by omega) (by omega) (by omega)).mono ?_; rintro e w' ⟨rfl, rfl⟩))
      go_ret
      exact ⟨by simp [expdF, ha, hb], rfl⟩

theorem implChangeFor_any (a b h f : Int) (w : World) : Calls Try.prog 13 #[.int .i64 a, .int .i64 b, .int .i64 h, .int .i64 f] w fun e w' => e = .returned (.int .i64 (chgF a b h f)) ∧ w = w' := by
  cases ha : isR a
  case true =>
    cases hb : isR b
    case true =>
      cases hh : inB h 0 2
      case true =>
        cases hf : inB f 1 100
        case true =>
          obtain ⟨a1, a2⟩ := isR_t.1 ha
          obtain ⟨b1, b2⟩ := isR_t.1 hb
          obtain ⟨c1, c2⟩ := inB_t.1 hh
          obtain ⟨d1, d2⟩ := inB_t.1 hf
          go_enter Try.func13, Try.ntmps13
          go_wp2_with (first | (go_at_call 29; refine (isRating_any _ _).mono ?_; rintro e w' ⟨rfl, rfl⟩) | (go_at_call 20; refine (within_any _ _ _ _).mono ?_; rintro e w' ⟨rfl, rfl⟩) | (go_at_call 23; refine (change_any _ _ _ _ _ (by omega) (by omega) (by omega) (by omega) (by omega) (by omega) (by omega) (by omega)).mono ?_; rintro e w' ⟨rfl, rfl⟩))
          go_ret
          exact ⟨by simp [chgF, ha, hb, hh, hf], rfl⟩
        all_goals
          go_enter Try.func13, Try.ntmps13
          go_wp2_with (first | (go_at_call 29; refine (isRating_any _ _).mono ?_; rintro e w' ⟨rfl, rfl⟩) | (go_at_call 20; refine (within_any _ _ _ _).mono ?_; rintro e w' ⟨rfl, rfl⟩))
          go_ret
          exact ⟨by simp [chgF, ha, hb, hh, hf], rfl⟩
      all_goals
        go_enter Try.func13, Try.ntmps13
        go_wp2_with (first | (go_at_call 29; refine (isRating_any _ _).mono ?_; rintro e w' ⟨rfl, rfl⟩) | (go_at_call 20; refine (within_any _ _ _ _).mono ?_; rintro e w' ⟨rfl, rfl⟩))
        go_ret
        exact ⟨by simp [chgF, ha, hb, hh], rfl⟩
    all_goals
      go_enter Try.func13, Try.ntmps13
      go_wp2_with (go_at_call 29; refine (isRating_any _ _).mono ?_; rintro e w' ⟨rfl, rfl⟩)
      go_ret
      exact ⟨by simp [chgF, ha, hb], rfl⟩
  all_goals
    go_enter Try.func13, Try.ntmps13
    go_wp2_with (go_at_call 29; refine (isRating_any _ _).mono ?_; rintro e w' ⟨rfl, rfl⟩)
    go_ret
    exact ⟨by simp [chgF, ha], rfl⟩

def ratOk (xs : List Int) : Bool := inB xs.length 1 8 && xs.all isR
theorem ratOk_t {xs : List Int} : ratOk xs = true ↔ (1 ≤ xs.length ∧ xs.length ≤ 8) ∧ ∀ x ∈ xs, isR x = true := by
  simp only [ratOk, Bool.and_eq_true, inB_t, List.all_eq_true]; constructor <;> rintro ⟨h1, h2⟩ <;> exact ⟨by omega, h2⟩

theorem implRatingsOk_any (A : Option Addr) (c : Nat) (xs : List Int) (w : World) (hs : SlI w A xs) (hn : xs.length ≤ 1048576) :
    Calls Try.prog 8 #[.slice A xs.length c] w fun e w' => e = .returned (.bool (ratOk xs)) ∧ Below w.heap.size w w' := by
  cases h : inB xs.length 1 8
  · go_enter Try.func8, Try.ntmps8
    go_wp2_with (go_at_call 20; refine (within_any _ _ _ _).mono ?_; rintro e w' ⟨rfl, rfl⟩)
    go_ret
    exact ⟨by simp [ratOk, h], Below.refl _ _⟩
  · go_enter Try.func8, Try.ntmps8
    go_wp2_with (first | (go_at_call 20; refine (within_any _ _ _ _).mono ?_; rintro e w' ⟨rfl, rfl⟩) | (go_at_call 24; refine (allWithin_any _ _ _ _ _ _ hs hn).mono ?_; rintro e w' ⟨rfl, hb⟩))
    go_ret
    exact ⟨by simp [ratOk, h]; rfl, by assumption⟩

def gameOk (n : Int) (g : List Int) : Bool := match g with
  | [a, b, h] => decide (0 ≤ a) && (decide (a < n) && (decide (0 ≤ b) && (decide (b < n) && ((a != b) && inB h 0 2))))
  | _ => false
theorem gameOk_len {n : Int} {g : List Int} (h : g.length ≠ 3) : gameOk n g = false := by
  match g, h with
  | [], _ => rfl
  | [_], _ => rfl
  | [_, _], _ => rfl
  | [_, _, _], h => simp at h
  | _ :: _ :: _ :: _ :: _, _ => rfl
theorem three {g : List Int} (h : g.length = 3) : ∃ a b c, g = [a, b, c] := by
  match g, h with
  | [a, b, c], _ => exact ⟨a, b, c, rfl⟩
theorem gameOk_t {n : Int} {g : List Int} (h : gameOk n g = true) : ∃ a b c, g = [a, b, c] ∧ 0 ≤ a ∧ a < n ∧ 0 ≤ b ∧ b < n ∧ a ≠ b ∧ 0 ≤ c ∧ c ≤ 2 := by
  by_cases hl : g.length = 3
  · obtain ⟨a, b, c, rfl⟩ := three hl
    simp only [gameOk, Bool.and_eq_true, decide_eq_true_eq, bne_iff_ne, inB_t] at h
    exact ⟨a, b, c, rfl, h.1, h.2.1, h.2.2.1, h.2.2.2.1, h.2.2.2.2.1, h.2.2.2.2.2⟩
  · rw [gameOk_len hl] at h; cases h

set_option maxHeartbeats 2000000 in
theorem isRated_any (n : Int) (A : Option Addr) (c : Nat) (g : List Int) (w : World) (hs : SlI w A g) (hn : g.length ≤ 1048576) :
    Calls Try.prog 27 #[.int .i64 n, .slice A g.length c] w fun e w' => e = .returned (.bool (gameOk n g)) ∧ ∃ q, w' = w.drewN q := by
  by_cases hl : g.length = 3
  · obtain ⟨x, y, z, rfl⟩ := three hl
    obtain ⟨b, off, x', rfl, hx, hc0, _⟩ := hs.at_ (k := 0) (by simp)
    obtain ⟨b', off', y', hA, hy, hc1, _⟩ := hs.at_ (k := 1) (by simp)
    injection hA with hA; injection hA with e1 e2; subst e1; subst e2
    obtain ⟨b', off', z', hA, hz, hc2, _⟩ := hs.at_ (k := 2) (by simp)
    injection hA with hA; injection hA with e1 e2; subst e1; subst e2
    simp at hx hy hz
    subst hx; subst hy; subst hz
    rw [Nat.add_zero] at hc0
    have HF : Hid (gameOk n [x, y, z] = (decide (0 ≤ x) && (decide (x < n) && (decide (0 ≤ y) && (decide (y < n) && ((x != y) && inB z 0 2)))))) := rfl
    clear hs hl hn
    show Calls Try.prog 27 #[.int .i64 n, .slice (some ⟨b, off, none⟩) 3 c] w _
    by_cases h1 : 0 ≤ x
    case neg =>
      have d : decide (0 ≤ x) = false := by simpa using h1
      have HE : Hid (gameOk n [x, y, z] = false) := by show _ = _; rw [HF.out]; simp [h1]
      clear HF
      go_enter Try.func27, Try.ntmps27
      go_wp2
      go_quiet (fail)
      all_goals go_wp2
      all_goals go_ret
      all_goals exact ⟨by rw [HE.out]; rfl, _, rfl⟩
    by_cases h2 : x < n
    case neg =>
      have d : decide (x < n) = false := by simpa using h2
      have HE : Hid (gameOk n [x, y, z] = false) := by show _ = _; rw [HF.out]; simp [h2]
      clear HF
      go_enter Try.func27, Try.ntmps27
      go_wp2
      go_quiet (fail)
      all_goals go_wp2
      all_goals go_ret
      all_goals exact ⟨by rw [HE.out]; rfl, _, rfl⟩
    by_cases h3 : 0 ≤ y
    case neg =>
      have d : decide (0 ≤ y) = false := by simpa using h3
      have HE : Hid (gameOk n [x, y, z] = false) := by show _ = _; rw [HF.out]; simp [h3]
      clear HF
      go_enter Try.func27, Try.ntmps27
      go_wp2
      go_quiet (fail)
      all_goals go_wp2
      all_goals go_ret
      all_goals exact ⟨by rw [HE.out]; rfl, _, rfl⟩
    by_cases h4 : y < n
    case neg =>
      have d : decide (y < n) = false := by simpa using h4
      have HE : Hid (gameOk n [x, y, z] = false) := by show _ = _; rw [HF.out]; simp [h4]
      clear HF
      go_enter Try.func27, Try.ntmps27
      go_wp2
      go_quiet (fail)
      all_goals go_wp2
      all_goals go_ret
      all_goals exact ⟨by rw [HE.out]; rfl, _, rfl⟩
    by_cases h5 : x = y
    case pos =>
      have d : (x != y) = false := by simp [h5]
      have HE : Hid (gameOk n [x, y, z] = false) := by show _ = _; rw [HF.out, d]; simp
      clear HF h5
      go_enter Try.func27, Try.ntmps27
      go_wp2
      go_quiet (fail)
      all_goals go_wp2
      all_goals go_ret
      all_goals exact ⟨by rw [HE.out]; rfl, _, rfl⟩
    have d : (x != y) = true := by simp [h5]
    have HE : Hid (gameOk n [x, y, z] = inB z 0 2) := by show _ = _; rw [HF.out, d]; simp [h1, h2, h3, h4]
    clear HF h5
    go_enter Try.func27, Try.ntmps27
    go_wp2
    go_quiet ((go_at_call 20; exact quiet_left (within_any _ _ _ _)))
    all_goals go_wp2
    all_goals go_ret
    all_goals exact ⟨by rw [HE.out]; rfl, _, rfl⟩
  · have HE : Hid (gameOk n g = false) := gameOk_len hl
    have d : ((g.length : Int) == 3) = false := by simp; omega
    clear hl hs
    generalize g.length = m at *
    go_enter Try.func27, Try.ntmps27
    go_wp2
    go_quiet (fail)
    all_goals go_wp2
    all_goals go_ret
    all_goals exact ⟨by rw [HE.out]; rfl, _, rfl⟩
end Go.Proofs.Ytihoflfokiijdaa
