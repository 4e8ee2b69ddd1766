/- Contracts of functions on integers: ranges, binomial numbers, matches. -/
import Derived.Test.YtcomcpiegfcdeaaDoorBase
namespace Go.Proofs.YtcomcpiegfcdeaaDoor
open Go.ChangeShapes Go.WideShapes Go.ChangeAt Go.RowKit

theorem within_any (n lo hi : Int) (w : World) :
    Calls Tryd.prog 21 #[.int .i64 n, .int .i64 lo, .int .i64 hi] w fun e w' => e = .returned (.bool (inB n lo hi)) ∧ w = w' := by
  by_cases h : lo ≤ n
  all_goals
    go_enter Tryd.func21, Tryd.ntmps21
    go_wp2
    go_ret
    exact ⟨by unfold inB; simp [*]; try omega, rfl⟩

theorem l01In_any (n lo hi : Int) (w : World) :
    Calls Tryd.prog 23 #[.int .i64 n, .int .i64 lo, .int .i64 hi] w fun e w' => e = .returned (.bool (inB n lo hi)) ∧ w = w' := by
  by_cases h : lo ≤ n
  all_goals
    go_enter Tryd.func23, Tryd.ntmps23
    go_wp2
    go_ret
    exact ⟨by unfold inB; simp [*]; try omega, rfl⟩

def mOk (i k : Int) : Bool := inB i 1 20 && inB k 1 20
theorem mOk_t {i k : Int} : mOk i k = true ↔ (1 ≤ i ∧ i ≤ 20) ∧ 1 ≤ k ∧ k ≤ 20 := by simp [mOk, inB_t]

theorem isMatch_any (i k : Int) (w : World) :
    Calls Tryd.prog 16 #[.int .i64 i, .int .i64 k] w fun e w' => e = .returned (.bool (mOk i k)) ∧ w = w' := by
  cases h : inB i 1 20
  all_goals
    go_enter Tryd.func16, Tryd.ntmps16
    go_wp2_with (go_at_call 21; refine (within_any _ _ _ _).mono ?_; rintro e w' ⟨rfl, rfl⟩)
    go_ret
    exact ⟨by simp [mOk, h], rfl⟩

theorem l29Ok_any (i k : Int) (w : World) :
    Calls Tryd.prog 15 #[.int .i64 i, .int .i64 k] w fun e w' => e = .returned (.bool (mOk i k)) ∧ w = w' := by
  cases h : inB i 1 20
  all_goals
    go_enter Tryd.func15, Tryd.ntmps15
    go_wp2_with (go_at_call 23; refine (l01In_any _ _ _ _).mono ?_; rintro e w' ⟨rfl, rfl⟩)
    go_ret
    exact ⟨by simp [mOk, h], rfl⟩

set_option maxHeartbeats 400000 in
theorem choose_any (n k : Int) (w : World) (hn : 0 ≤ n) (hn' : n ≤ 50) (hk : 0 ≤ k) :
    Calls Tryd.prog 22 #[.int .i64 n, .int .i64 k] w fun e w' => e = .returned (.int .i64 (bin n.toNat k.toNat)) ∧ w = w' := by
  obtain ⟨n, rfl⟩ := Int.eq_ofNat_of_zero_le hn
  obtain ⟨k, rfl⟩ := Int.eq_ofNat_of_zero_le hk
  rw [Int.toNat_natCast, Int.toNat_natCast]
  by_cases hkn : n < k
  · go_enter Tryd.func22, Tryd.ntmps22
    go_wp2
    go_ret
    exact ⟨ret_int (by rw [bin_lt n k hkn]; rfl), rfl⟩
  · go_enter Tryd.func22, Tryd.ntmps22
    go_wp2
    go_loop [5, 11] (fun o i => ∃ j : Nat, j ≤ k ∧ i = .int .i64 j ∧ o = .int .i64 (bin n j : Nat)) (fun _ i => k - (intOf i).toNat)
    case atStart => exact ⟨0, Nat.zero_le _, rfl, by rw [bin_zero]; rfl⟩
    case round =>
      obtain ⟨j, hj, rfl, rfl⟩ := hrel
      have hb : (bin n j : Int) ≤ 1125899906842624 := by have := bin_cap (n := n) (by omega) j; omega
      have hb0 : (0 : Int) ≤ (bin n j : Int) := by omega
      by_cases hlt : j < k
      · have hm1 : (0 : Int) ≤ (bin n j : Int) * ((n : Int) - j) := Int.mul_nonneg hb0 (by omega)
        have hm2 : (bin n j : Int) * ((n : Int) - j) ≤ 1125899906842624 * 50 := Int.mul_le_mul hb (by omega) (by omega) (by omega)
        have HS : Hid ((bin n j : Int) * ((n : Int) - j) / ((j : Int) + 1) = (bin n (j + 1) : Nat)) := by
          have h := bin_step n j (by omega)
          have e : ((n : Int) - j) = ((n - j : Nat) : Int) := by omega
          show _ = _
          rw [e, ← h]; push_cast; rfl
        go_wp2
        go_round
        case rel => exact ⟨j + 1, by omega, by go_num, by rw [HS.out]⟩
        case measure => simp [intOf]; omega
      · go_wp2
        go_ret
        obtain rfl : j = k := by omega
        exact ⟨rfl, rfl⟩

set_option maxHeartbeats 400000 in
theorem waysFor_any (i k : Int) (w : World) (h1 : 1 ≤ i) (h2 : i ≤ 20) (h3 : 0 ≤ k) (h4 : k ≤ 20) :
    Calls Tryd.prog 20 #[.int .i64 i, .int .i64 k] w fun e w' => e = .returned (.int .i64 (ways i.toNat k.toNat)) ∧ w = w' := by
  obtain ⟨i, rfl⟩ := Int.eq_ofNat_of_zero_le (show 0 ≤ i by omega)
  obtain ⟨k, rfl⟩ := Int.eq_ofNat_of_zero_le (show 0 ≤ k by omega)
  rw [Int.toNat_natCast, Int.toNat_natCast]
  go_enter Tryd.func20, Tryd.ntmps20
  go_wp2
  go_loop [5, 6] (fun s n => ∃ t : Nat, t ≤ k ∧ n = .int .i64 ((i : Int) + t) ∧ s = .int .i64 (wsum (i + k - 1) i t : Nat)) (fun _ n => i + k - (intOf n).toNat)
  case atStart => exact ⟨0, Nat.zero_le _, by simp, rfl⟩
  case round =>
    obtain ⟨t, ht, rfl, rfl⟩ := hrel
    have hb := wsum_cap (m := i + k - 1) (by omega) i t
    have hc := bin_cap (n := i + k - 1) (by omega) (i + t)
    by_cases hlt : t < k
    · go_wp2_with fail
      refine (choose_any _ _ _ (by omega) (by omega) (by omega)).mono ?_
      rintro e w' ⟨rfl, rfl⟩
      rw [show ((i : Int) + k - 1).toNat = i + k - 1 from by omega, show ((i : Int) + t).toNat = i + t from by omega]
      go_wp2
      go_round
      case rel => exact ⟨t + 1, by omega, by go_num, by rw [wsum]; go_num⟩
      case measure => simp [intOf]; omega
    · go_wp2
      go_ret
      obtain rfl : t = k := by omega
      exact ⟨rfl, rfl⟩

def longest (i k : Int) : Int := if mOk i k then i + k - 1 else -1
def shortest (i k : Int) : Int := if mOk i k then min i k else -1
def waysF (i k : Int) : Int := if mOk i k then (ways i.toNat k.toNat : Nat) else -1
def waysIn (i k n : Int) : Int := if mOk i k && inB n 1 (i + k - 1) then (bin (n - 1).toNat (i - 1).toNat : Nat) else -1
def needOf (g : Int) : Int := if inB g 1 39 && g % 2 != 0 then g / 2 + 1 else -1

theorem implLongest_any (i k : Int) (w : World) :
    Calls Tryd.prog 8 #[.int .i64 i, .int .i64 k] w fun e w' => e = .returned (.int .i64 (longest i k)) ∧ w = w' := by
  cases h : mOk i k
  · go_enter Tryd.func8, Tryd.ntmps8
    go_wp2_with (go_at_call 16; refine (isMatch_any _ _ _).mono ?_; rintro e w' ⟨rfl, rfl⟩)
    go_ret
    exact ⟨by simp [longest, h], rfl⟩
  · obtain ⟨⟨h1, h2⟩, h3, h4⟩ := mOk_t.1 h
    go_enter Tryd.func8, Tryd.ntmps8
    go_wp2_with (go_at_call 16; refine (isMatch_any _ _ _).mono ?_; rintro e w' ⟨rfl, rfl⟩)
    go_ret
    exact ⟨by simp [longest, h], rfl⟩

theorem implShortest_any (i k : Int) (w : World) :
    Calls Tryd.prog 10 #[.int .i64 i, .int .i64 k] w fun e w' => e = .returned (.int .i64 (shortest i k)) ∧ w = w' := by
  cases hm : mOk i k
  · go_enter Tryd.func10, Tryd.ntmps10
    go_wp2_with (go_at_call 16; refine (isMatch_any _ _ _).mono ?_; rintro e w' ⟨rfl, rfl⟩)
    go_ret
    exact ⟨by simp [shortest, hm], rfl⟩
  · obtain ⟨⟨h1, h2⟩, h3, h4⟩ := mOk_t.1 hm
    go_enter Tryd.func10, Tryd.ntmps10
    go_wp2_with (go_at_call 16; refine (isMatch_any _ _ _).mono ?_; rintro e w' ⟨rfl, rfl⟩)
    all_goals go_ret
    all_goals exact ⟨ret_int (by unfold shortest; rw [if_pos hm]; omega), rfl⟩

theorem implWaysFor_any (i k : Int) (w : World) :
    Calls Tryd.prog 9 #[.int .i64 i, .int .i64 k] w fun e w' => e = .returned (.int .i64 (waysF i k)) ∧ w = w' := by
  cases h : mOk i k
  · go_enter Tryd.func9, Tryd.ntmps9
    go_wp2_with (go_at_call 16; refine (isMatch_any _ _ _).mono ?_; rintro e w' ⟨rfl, rfl⟩)
    go_ret
    exact ⟨by simp [waysF, h], rfl⟩
  · obtain ⟨⟨h1, h2⟩, h3, h4⟩ := mOk_t.1 h
    go_enter Tryd.func9, Tryd.ntmps9
    go_wp2_with (first | (go_at_call 16; refine (isMatch_any _ _ _).mono ?_; rintro e w' ⟨rfl, rfl⟩) | (go_at_call 20; refine (waysFor_any _ _ _ (by omega) (by omega) (by omega) (by omega)).mono ?_; rintro e w' ⟨rfl, rfl⟩))
    go_ret
    exact ⟨by simp [waysF, h], rfl⟩

theorem implWaysIn_any (i k n : Int) (w : World) :
    Calls Tryd.prog 11 #[.int .i64 i, .int .i64 k, .int .i64 n] w fun e w' => e = .returned (.int .i64 (waysIn i k n)) ∧ w = w' := by
  cases h : mOk i k
  · go_enter Tryd.func11, Tryd.ntmps11
    go_wp2_with (go_at_call 16; refine (isMatch_any _ _ _).mono ?_; rintro e w' ⟨rfl, rfl⟩)
    go_ret
    exact ⟨by simp [waysIn, h], rfl⟩
  · obtain ⟨⟨h1, h2⟩, h3, h4⟩ := mOk_t.1 h
    cases hn : inB n 1 (i + k - 1)
    · go_enter Tryd.func11, Tryd.ntmps11
      go_wp2_with (first | (go_at_call 16; refine (isMatch_any _ _ _).mono ?_; rintro e w' ⟨rfl, rfl⟩) | (go_at_call 21; refine (within_any _ _ _ _).mono ?_; rintro e w' ⟨rfl, rfl⟩))
      go_ret
      exact ⟨by simp [waysIn, h, hn], rfl⟩
    · obtain ⟨h5, h6⟩ := inB_t.1 hn
      go_enter Tryd.func11, Tryd.ntmps11
      go_wp2_with (first | (go_at_call 16; refine (isMatch_any _ _ _).mono ?_; rintro e w' ⟨rfl, rfl⟩) | (go_at_call 21; refine (within_any _ _ _ _).mono ?_; rintro e w' ⟨rfl, rfl⟩) | (go_at_call 22; refine (choose_any _ _ _ (by omega) (by omega) (by omega)).mono ?_; rintro e w' ⟨rfl, rfl⟩))
      go_ret
      exact ⟨by simp [waysIn, h, hn], rfl⟩

theorem implNeedOf_any (g : Int) (w : World) :
    Calls Tryd.prog 14 #[.int .i64 g] w fun e w' => e = .returned (.int .i64 (needOf g)) ∧ w = w' := by
  cases h : inB g 1 39
  · go_enter Tryd.func14, Tryd.ntmps14
    go_wp2_with (go_at_call 21; refine (within_any _ _ _ _).mono ?_; rintro e w' ⟨rfl, rfl⟩)
    go_ret
    exact ⟨by simp [needOf, h], rfl⟩
  · obtain ⟨h1, h2⟩ := inB_t.1 h
    cases hb : (g % 2 == 0)
    all_goals
      go_enter Tryd.func14, Tryd.ntmps14
      go_wp2_with (go_at_call 21; refine (within_any _ _ _ _).mono ?_; rintro e w' ⟨rfl, rfl⟩)
      go_ret
      exact ⟨by simp [needOf, h, hb, bne], rfl⟩

def shareF (s i k : Int) : Int := if mOk i k && inB s 0 1000000 then s * (ways i.toNat k.toNat : Nat) / 2 ^ ((i + k).toNat - 1) else -1
def evenUpto (i : Nat) : Nat → Nat
  | 0 => 0
  | j + 1 => if 2 * ways i (j + 1) ≤ 2 ^ (i + j) then j + 1 else evenUpto i j
theorem evenUpto_pos (i : Nat) {j : Nat} (h : 0 < j) : evenUpto i j = if 2 * (ways i j : Int) ≤ 2 ^ (i + j - 1) then j else evenUpto i (j - 1) := by
  cases j with
  | zero => omega
  | succ j =>
    rw [evenUpto, show i + (j + 1) - 1 = i + j from by omega, Nat.add_sub_cancel]
    by_cases hc : 2 * ways i (j + 1) ≤ 2 ^ (i + j)
    · have h2 : 2 * (ways i (j + 1) : Int) ≤ 2 ^ (i + j) := by exact_mod_cast hc
      rw [if_pos hc, if_pos h2]
    · have h2 : ¬ 2 * (ways i (j + 1) : Int) ≤ 2 ^ (i + j) := fun h2 => hc (by exact_mod_cast h2)
      rw [if_neg hc, if_neg h2]
def evenF (i m : Int) : Int := if mOk i m then (evenUpto i.toNat m.toNat : Nat) else 0

theorem implShareOf_any (s i k : Int) (w : World) :
    Calls Tryd.prog 13 #[.int .i64 s, .int .i64 i, .int .i64 k] w fun e w' => e = .returned (.int .i64 (shareF s i k)) ∧ w = w' := by
  cases h : mOk i k
  · go_enter Tryd.func13, Tryd.ntmps13
    go_wp2_with (go_at_call 16; refine (isMatch_any _ _ _).mono ?_; rintro e w' ⟨rfl, rfl⟩)
    go_ret
    exact ⟨by simp [shareF, h], rfl⟩
  · obtain ⟨⟨h1, h2⟩, h3, h4⟩ := mOk_t.1 h
    cases hs : inB s 0 1000000
    · go_enter Tryd.func13, Tryd.ntmps13
      go_wp2_with (first | (go_at_call 16; refine (isMatch_any _ _ _).mono ?_; rintro e w' ⟨rfl, rfl⟩) | (go_at_call 21; refine (within_any _ _ _ _).mono ?_; rintro e w' ⟨rfl, rfl⟩))
      go_ret
      exact ⟨by simp [shareF, h, hs], rfl⟩
    · obtain ⟨h5, h6⟩ := inB_t.1 hs
      have hc : (ways i.toNat k.toNat : Int) ≤ 1099511627776 := by have := ways_cap (i := i.toNat) (k := k.toNat) (by omega); omega
      have hm1 : (0 : Int) ≤ s * (ways i.toNat k.toNat : Int) := Int.mul_nonneg h5 (by omega)
      have hm2 : s * (ways i.toNat k.toNat : Int) ≤ 1000000 * 1099511627776 := Int.mul_le_mul h6 hc (by omega) (by omega)
      go_enter Tryd.func13, Tryd.ntmps13
      go_wp2_with (first | (go_at_call 16; refine (isMatch_any _ _ _).mono ?_; rintro e w' ⟨rfl, rfl⟩) | (go_at_call 21; refine (within_any _ _ _ _).mono ?_; rintro e w' ⟨rfl, rfl⟩) | (go_at_call 20; refine (waysFor_any _ _ _ (by omega) (by omega) (by omega) (by omega)).mono ?_; rintro e w' ⟨rfl, rfl⟩))
      go_ret
      exact ⟨by simp [shareF, h, hs], rfl⟩

theorem implEvenNeed_any (i m : Int) (w : World) :
    Calls Tryd.prog 12 #[.int .i64 i, .int .i64 m] w fun e w' => e = .returned (.int .i64 (evenF i m)) ∧ ∃ q, w' = w.drewN q := by
  cases h : mOk i m
  · go_enter Tryd.func12, Tryd.ntmps12
    go_wp2_with (go_at_call 16; refine (isMatch_any _ _ _).mono ?_; rintro e w' ⟨rfl, rfl⟩)
    go_ret
    exact ⟨by simp [evenF, h], 0, rfl⟩
  · obtain ⟨⟨h1, h2⟩, h3, h4⟩ := mOk_t.1 h
    have HF : Hid (evenF i m = (evenUpto i.toNat m.toNat : Nat)) := by show _ = _; simp [evenF, h]
    obtain ⟨i, rfl⟩ := Int.eq_ofNat_of_zero_le (show 0 ≤ i by omega)
    obtain ⟨m, rfl⟩ := Int.eq_ofNat_of_zero_le (show 0 ≤ m by omega)
    rw [Int.toNat_natCast, Int.toNat_natCast] at HF
    go_enter Tryd.func12, Tryd.ntmps12
    go_wp2_with (go_at_call 16; refine (isMatch_any _ _ _).mono ?_; rintro e w' ⟨rfl, rfl⟩)
    go_loopw [5] (fun k wr => ∃ (j : Nat), j ≤ m ∧ k = .int .i64 (j : Int) ∧ Hid (evenUpto i m = evenUpto i j) ∧ Hid (∃ q, wr = w.drewN q)) (fun k _ => (intOf k).toNat)
    case atStart => exact ⟨m, Nat.le_refl _, rfl, rfl, 0, rfl⟩
    case round =>
      obtain ⟨j, hj, rfl, HE, HQ⟩ := hrel
      by_cases h0 : 0 < (j : Int)
      · have hc : (ways i j : Int) ≤ 1099511627776 := by have := ways_cap (i := i) (k := j) (by omega); omega
        have hp : (2 : Int) ^ (i + j - 1) ≤ 2 ^ 39 := by
          have h : 2 ^ (i + j - 1) ≤ 2 ^ 39 := Nat.pow_le_pow_right (by omega) (by omega)
          exact_mod_cast h
        have hp0 : (0 : Int) ≤ (2 : Int) ^ (i + j - 1) := by
          have h : 0 ≤ 2 ^ (i + j - 1) := Nat.zero_le _
          exact_mod_cast h
        have hw : ∀ W : World, Calls Tryd.prog 20 #[.int .i64 (i : Int), .int .i64 (j : Int)] W fun e w' => e = .returned (.int .i64 (ways i j)) ∧ W = w' := by
          intro W
          have h := waysFor_any i j W (by omega) (by omega) (by omega) (by omega)
          rwa [Int.toNat_natCast, Int.toNat_natCast] at h
        have HW := Lib.hid hw
        clear hw
        go_wp2
        go_quiet ((go_at_call 20; exact quiet_left (HW.out _)))
        all_goals
          by_cases hle : 2 * (ways i j : Int) ≤ 2 ^ (i + j - 1)
          · go_wp2
            go_ret
            obtain ⟨q, rfl⟩ := HQ
            exact ⟨by rw [HF.out, HE.out, evenUpto_pos i (by omega), if_pos hle]; rfl, _, World.drewN_drewN _ _ _⟩
          · go_wp2
            go_roundw
            case rel =>
              obtain ⟨q, rfl⟩ := HQ
              refine ⟨j - 1, by omega, by go_num, ?_, _, World.drewN_drewN _ _ _⟩
              show _ = _
              rw [HE.out, evenUpto_pos i (by omega), if_neg hle]
            case measure => simp [intOf]; omega
      · go_wp2
        go_ret
        obtain rfl : j = 0 := by omega
        obtain ⟨q, rfl⟩ := HQ
        exact ⟨by rw [HF.out, HE.out]; rfl, q, rfl⟩
end Go.Proofs.YtcomcpiegfcdeaaDoor
