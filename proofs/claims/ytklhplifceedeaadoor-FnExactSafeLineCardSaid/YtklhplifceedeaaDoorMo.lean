/- Small sets as numbers: the contracts of membersOf, l02List, l02Bits. -/
import Derived.Test.YtklhplifceedeaaDoorSb
import Derived.Laws.BitsLemmas
namespace Go.Proofs.YtklhplifceedeaaDoor
open Go.ChangeShapes Go.WideShapes Go.ChangeAt Go.RowKit

theorem bits_low {s k : Nat} (hs : s < 256) : bits BinOp.and IntKind.i64 ((s : Int) / 2 ^ k) 1 = if s.testBit k then 1 else 0 := by
  have h := and_at hs k
  rwa [Int.natCast_ediv, Int.natCast_pow] at h
theorem bits_low' {d : Nat} (hs : d < 256) : bits BinOp.and IntKind.i64 (d : Int) 1 = if d.testBit 0 then 1 else 0 := by
  have h := and_at hs 0
  simpa using h
theorem half_bit (s k : Nat) : (s / 2 ^ k).testBit 0 = s.testBit k := by rw [Nat.testBit_div_two_pow]; simp
theorem half_next (s k : Nat) : ((s / 2 ^ k : Nat) : Int) / 2 = ((s / 2 ^ (k + 1) : Nat) : Int) := by
  rw [Nat.pow_succ, ← Nat.div_div_eq_div_mul]; rfl

set_option maxHeartbeats 1000000 in
theorem membersOf_any (s : Nat) (w : World) (hs : s < 256) :
    Calls Tryd.prog 26 #[.int .i64 (s : Int)] w fun e w' => ∃ v', e = .returned v' ∧ Fr w' w.heap.size w'.heap.size v' (memL s) ∧ Below w.heap.size w w' := by
  have HS := Lib.hid hs
  clear hs
  go_enter Tryd.func26, Tryd.ntmps26
  go_wp2
  go_loopw [3, 4] (fun v i wr => ∃ (k : Nat) (vv : Value), k ≤ 8 ∧ i = .int .i64 k ∧ vv = v ∧ Hid (Fr wr w.heap.size wr.heap.size vv (memT s k) ∧ Below w.heap.size w wr)) (fun _ i _ => 8 - (intOf i).toNat)
  case atStart => exact ⟨0, _, by omega, rfl, rfl, Fr.nil _ (Nat.le_refl _), Below.refl _ _⟩
  case round =>
    obtain ⟨k, vv, hk, rfl, rfl, HR⟩ := hrel
    have hb := bits_low (k := k) HS.out
    have hD : (s : Int) / 2 ^ k = ((s / 2 ^ k : Nat) : Int) := by rw [Int.natCast_ediv, Int.natCast_pow]; rfl
    rw [hD] at hb
    have HD := Lib.hid hD
    obtain ⟨D, HDe⟩ : ∃ D : Nat, Hid (s / 2 ^ k = D) := ⟨_, rfl⟩
    rw [HDe.out] at hD hb
    by_cases hz : D = 0
    · have HE : Hid (memT s k = memL s) := memT_done hk (by rw [HDe.out]; exact hz)
      have hz' : ¬ (0 : Int) < (D : Int) := by omega
      clear hb hz
      go_wp2
      go_ret
      exact ⟨_, rfl, by rw [← HE.out]; exact HR.out.1, HR.out.2⟩
    · have hz' : (0 : Int) < (D : Int) := by omega
      have hk8 : k < 8 := by
        rcases Nat.lt_or_ge k 8 with h | h
        · exact h
        · obtain rfl : k = 8 := by omega
          exact absurd (HDe.out.symm.trans (div_stop HS.out)) hz
      have HL : Hid ((memT s k).length ≤ 1048576) := by show _ ≤ _; rw [memT_len]; have := cntT_le s k; omega
      clear hz
      cases ht : s.testBit k
      · rw [ht] at hb
        simp only [Bool.false_eq_true, if_false] at hb
        have HN : Hid (memT s (k + 1) = memT s k) := memT_out ht
        clear ht
        go_wp2
        go_roundw
        case rel => exact ⟨k + 1, _, by omega, by go_num, rfl, by rw [HN.out]; exact HR.out⟩
        case measure => simp [intOf]; omega
      · rw [ht] at hb
        simp only [if_true] at hb
        have HN : Hid (memT s (k + 1) = memT s k ++ [(k : Int)]) := memT_in ht
        clear ht
        go_wp2_with (at_builtin; refine app1 rfl _ _ rfl wr w.heap.size vv (memT s k).length (memT s k) rfl HR.out.1.1 (k : Int) rfl HL.out HR.out.2.size ?_; intro v2 w2 hown hb2 _ _; have H2 : Hid (Fr w2 w.heap.size w2.heap.size v2 (memT s (k + 1)) ∧ Below w.heap.size w w2) := ⟨by rw [HN.out]; exact Fr.of_own (by simpa using hown), HR.out.2.trans (hb2 _ (Nat.le_refl _) HR.out.2.size)⟩; clear hown hb2)
        go_roundw
        case rel => exact ⟨k + 1, _, by omega, by go_num, rfl, H2.out⟩
        case measure => simp [intOf]; omega

set_option maxHeartbeats 1000000 in
theorem l02List_any (s : Nat) (w : World) (hs : s < 256) :
    Calls Tryd.prog 19 #[.int .i64 (s : Int)] w fun e w' => ∃ v', e = .returned v' ∧ Fr w' w.heap.size w'.heap.size v' (memL s) ∧ Below w.heap.size w w' := by
  have HS := Lib.hid hs
  clear hs
  have H0 : Hid (Fr (w.alloc (.cells #[] 3)) w.heap.size (w.alloc (.cells #[] 3)).heap.size (.slice (some ⟨w.heap.size, 0, none⟩) 0 0) (memT s 0) ∧ Below w.heap.size w (w.alloc (.cells #[] 3))) :=
    ⟨Fr.of_own (xs := []) (World.ownsRow_lit (base := w.heap.size) (e := 3) (size := 1) w #[] 0 (Nat.le_refl _) (by unfold maxLen; omega) rfl), (Below.refl _ w).alloc (Nat.le_refl _) _⟩
  have hs0 : (s : Int) = ((s / 2 ^ 0 : Nat) : Int) := by simp
  go_enter Tryd.func19, Tryd.ntmps19
  go_wp2
  go_loopw [0, 3, 4] (fun c v i wr => ∃ (k : Nat) (vv : Value), k ≤ 8 ∧ i = .int .i64 k ∧ c = .int .i64 ((s / 2 ^ k : Nat) : Int) ∧ vv = v ∧ Hid (Fr wr w.heap.size wr.heap.size vv (memT s k) ∧ Below w.heap.size w wr)) (fun _ _ i _ => 8 - (intOf i).toNat)
  case atStart => exact ⟨0, _, by omega, rfl, by rw [← hs0], rfl, H0.out⟩
  case round =>
    obtain ⟨k, vv, hk, rfl, rfl, rfl, HR⟩ := hrel
    have hb := bits_low' (d := s / 2 ^ k) (Nat.lt_of_le_of_lt (Nat.div_le_self _ _) HS.out)
    rw [half_bit] at hb
    have hN := half_next s k
    clear H0 hs0
    obtain ⟨D, HDe⟩ : ∃ D : Nat, Hid (s / 2 ^ k = D) := ⟨_, rfl⟩
    have hD8 : D < 256 := by rw [← HDe.out]; exact Nat.lt_of_le_of_lt (Nat.div_le_self _ _) HS.out
    rw [HDe.out] at hb hN ⊢
    have HN2 := Lib.hid hN
    clear hN
    by_cases hz : D = 0
    · have HE : Hid (memT s k = memL s) := memT_done hk (by rw [HDe.out]; exact hz)
      have hz' : ¬ (0 : Int) < (D : Int) := by omega
      clear hb hz
      go_wp2
      go_ret
      exact ⟨_, rfl, by rw [← HE.out]; exact HR.out.1, HR.out.2⟩
    · have hz' : (0 : Int) < (D : Int) := by omega
      have hk8 : k < 8 := by
        rcases Nat.lt_or_ge k 8 with h | h
        · exact h
        · obtain rfl : k = 8 := by omega
          exact absurd (HDe.out.symm.trans (div_stop HS.out)) hz
      have HL : Hid ((memT s k).length ≤ 1048576) := by show _ ≤ _; rw [memT_len]; have := cntT_le s k; omega
      clear hz
      cases ht : s.testBit k
      · rw [ht] at hb
        simp only [Bool.false_eq_true, if_false] at hb
        have HN : Hid (memT s (k + 1) = memT s k) := memT_out ht
        clear ht
        go_wp2
        go_roundw
        case rel => exact ⟨k + 1, _, by omega, by go_num, by rw [← HN2.out]; try go_num, rfl, by rw [HN.out]; exact HR.out⟩
        case measure => simp [intOf]; omega
      · rw [ht] at hb
        simp only [if_true] at hb
        have HN : Hid (memT s (k + 1) = memT s k ++ [(k : Int)]) := memT_in ht
        clear ht
        go_wp2_with (at_builtin; refine app1 rfl _ _ rfl wr w.heap.size vv (memT s k).length (memT s k) rfl HR.out.1.1 (k : Int) rfl HL.out HR.out.2.size ?_; intro v2 w2 hown hb2 _ _; have H2 : Hid (Fr w2 w.heap.size w2.heap.size v2 (memT s (k + 1)) ∧ Below w.heap.size w w2) := ⟨by rw [HN.out]; exact Fr.of_own (by simpa using hown), HR.out.2.trans (hb2 _ (Nat.le_refl _) HR.out.2.size)⟩; clear hown hb2)
        go_roundw
        case rel => exact ⟨k + 1, _, by omega, by go_num, by rw [← HN2.out]; try go_num, rfl, H2.out⟩
        case measure => simp [intOf]; omega

theorem cntT_stop {s k : Nat} (h8 : k ≤ 8) (hs : s / 2 ^ k = 0) : cntT s k = cntL s := by
  rw [← memT_len, ← memL_len, memT_done h8 hs]
set_option maxHeartbeats 1000000 in
theorem l02Bits_any (s : Nat) (w : World) (hs : s < 256) :
    Calls Tryd.prog 18 #[.int .i64 (s : Int)] w fun e w' => e = .returned (.int .i64 (cntL s : Nat)) ∧ w = w' := by
  have HS := Lib.hid hs
  clear hs
  have hs0 : (s : Int) = ((s / 2 ^ 0 : Nat) : Int) := by simp
  go_enter Tryd.func18, Tryd.ntmps18
  go_wp2
  go_loop [0, 3] (fun c v => ∃ (k : Nat), k ≤ 8 ∧ c = .int .i64 ((s / 2 ^ k : Nat) : Int) ∧ v = .int .i64 (cntT s k : Nat)) (fun c _ => (intOf c).toNat)
  case atStart => exact ⟨0, by omega, by rw [← hs0], rfl⟩
  case round =>
    obtain ⟨k, hk, rfl, rfl⟩ := hrel
    have hb := bits_low' (d := s / 2 ^ k) (Nat.lt_of_le_of_lt (Nat.div_le_self _ _) HS.out)
    rw [half_bit] at hb
    have hN := half_next s k
    have hc := cntT_le s k
    have HC := Lib.hid (cntT_succ s k)
    clear hs0
    obtain ⟨D, HDe⟩ : ∃ D : Nat, Hid (s / 2 ^ k = D) := ⟨_, rfl⟩
    have hD8 : D < 256 := by rw [← HDe.out]; exact Nat.lt_of_le_of_lt (Nat.div_le_self _ _) HS.out
    rw [HDe.out] at hb hN ⊢
    have HN2 := Lib.hid hN
    clear hN
    by_cases hz : D = 0
    · have HE : Hid (cntT s k = cntL s) := cntT_stop hk (by rw [HDe.out]; exact hz)
      subst hz
      clear hb
      go_wp2
      go_ret
      exact ⟨by rw [HE.out]; rfl, rfl⟩
    · have hz' : (0 : Int) < (D : Int) := by omega
      have hk8 : k < 8 := by
        rcases Nat.lt_or_ge k 8 with h | h
        · exact h
        · obtain rfl : k = 8 := by omega
          exact absurd (HDe.out.symm.trans (div_stop HS.out)) hz
      cases ht : s.testBit k
      all_goals
        have HT := Lib.hid ht
        rw [ht] at hb
        simp only [Bool.false_eq_true, if_false, if_true] at hb
        clear ht hz
        have HC2 := HC.out
        rw [HT.out] at HC2
        simp only [Bool.false_eq_true, if_false, if_true] at HC2
        have HC3 := Lib.hid HC2
        clear HC2
        go_wp2
        go_round
        case rel => exact ⟨k + 1, by omega, by rw [← HN2.out]; try go_num, by rw [HC3.out]; go_num⟩
        case measure => simp [intOf]; omega
end Go.Proofs.YtklhplifceedeaaDoor
