/- A match after some games: the walks (print/course.py). -/
import Derived.Test.YtcomcpiegfcdeaaDoorAc
import Derived.Test.YtcomcpiegfcdeaaDoorShelf
import Derived.Test.YtcomcpiegfcdeaaDoorSl
import Derived.Shelf.Strings.SlTrimAscii
namespace Go.Proofs.YtcomcpiegfcdeaaDoor
open Go.ChangeShapes Go.WideShapes Go.ChangeAt Go.RowKit

set_option maxHeartbeats 4000000 in
theorem specAfterCourse_any (i k : Int) (s : ByteArray) (w : World) (hs : s.size ≤ 1048576) :
    Calls Tryd.prog 5 #[.int .i64 i, .int .i64 k, .string s] w fun e w' => e = .returned (.tuple #[.int .i64 (afterC i k s.data.toList).1, .int .i64 (afterC i k s.data.toList).2]) ∧ w = w' := by
  have hsl : s.data.toList.length = s.size := by simp
  cases h1 : mOk i k
  case false =>
    have HO := Lib.hid (afterC_m (l := s.data.toList) h1)
    go_enter Tryd.func5, Tryd.ntmps5
    go_wp2_with (go_at_call 15; refine (l29Ok_any i k _).mono ?_; rintro e w' ⟨rfl, rfl⟩; rw [h1])
    go_ret2
    exact ⟨by rw [HO.out]; rfl, rfl⟩
  have h1' := mOk_t.1 h1
  by_cases h2 : s.size ≤ 39
  case neg =>
    have HO := Lib.hid (afterC_l (i := i) (k := k) (l := s.data.toList) (by rw [hsl]; exact h2))
    clear hsl
    go_enter Tryd.func5, Tryd.ntmps5
    go_wp2_with (go_at_call 15; refine (l29Ok_any i k _).mono ?_; rintro e w' ⟨rfl, rfl⟩; rw [h1])
    go_ret2
    exact ⟨by rw [HO.out]; rfl, rfl⟩
  have H1 := Lib.hid (And.intro h1 (And.intro (show s.data.toList.length ≤ 39 by rw [hsl]; exact h2) hsl))
  clear hsl
  go_enter Tryd.func5, Tryd.ntmps5
  go_wp2_with (go_at_call 15; refine (l29Ok_any i k _).mono ?_; rintro e w' ⟨rfl, rfl⟩; rw [h1])
  clear h1
  go_loop [8] (fun x8 => ∃ n : Nat, n ≤ s.size ∧ x8 = .int .i64 n ∧ Hid (courseB (s.data.toList.take n) = true)) (fun x8 => s.size - (intOf x8).toNat)
  case atStart => exact ⟨0, Nat.zero_le _, rfl, rfl⟩
  case round =>
    obtain ⟨n, hn, rfl, HC⟩ := hrel
    by_cases hlt : n < s.size
    case pos =>
      have hx : s.data.toList[n]? = some s[n] := by simp [hlt]; rfl
      have HSN : Hid (courseB (s.data.toList.take (n + 1)) = (courseB (s.data.toList.take n) && (s[n] == 97 || s[n] == 98))) := by
        show _ = _
        unfold courseB
        rw [List.take_add_one, hx]; simp
      have HBAD : Hid ((s[n] == 97 || s[n] == 98) = false → courseB s.data.toList = false) := fun h => by
        unfold courseB
        exact List.all_eq_false.2 ⟨s[n], List.mem_of_getElem? hx, by simpa using h⟩
      clear hx
      by_cases hc : s[n].toNat = 97
      · have HN : Hid (courseB (s.data.toList.take (n + 1)) = true) := by show _ = _; rw [HSN.out, HC.out, show s[n] = 97 from UInt8.toNat_inj.1 (by rw [hc]; rfl)]; rfl
        have e1 : ((s[n].toNat : Int) != 97) = false := by rw [hc]; rfl
        go_wp2
        go_round
        case rel => exact ⟨n + 1, by omega, by go_num, HN⟩
        case measure => simp [intOf]; omega
      have e1 : ((s[n].toNat : Int) != 97) = true := by have : ¬ (s[n].toNat : Int) = 97 := by omega
                                                        simpa using this
      by_cases hd : s[n].toNat = 98
      · have HN : Hid (courseB (s.data.toList.take (n + 1)) = true) := by show _ = _; rw [HSN.out, HC.out, show s[n] = 98 from UInt8.toNat_inj.1 (by rw [hd]; rfl)]; rfl
        have e2 : ((s[n].toNat : Int) != 98) = false := by rw [hd]; rfl
        go_wp2
        go_round
        case rel => exact ⟨n + 1, by omega, by go_num, HN⟩
        case measure => simp [intOf]; omega
      have e2 : ((s[n].toNat : Int) != 98) = true := by have : ¬ (s[n].toNat : Int) = 98 := by omega
                                                        simpa using this
      have HO : Hid (afterC i k s.data.toList = (-1, -1)) := by
        refine afterC_c (HBAD.out ?_)
        simp only [Bool.or_eq_false_iff, beq_eq_false_iff_ne]
        exact ⟨fun h => hc (by rw [h]; rfl), fun h => hd (by rw [h]; rfl)⟩
      go_wp2
      go_ret2
      exact ⟨by rw [HO.out]; rfl, rfl⟩
    obtain rfl : n = s.size := by omega
    have HO : Hid (afterC i k s.data.toList = goF i k s.data.toList) := by
      have h := HC.out
      rw [List.take_of_length_le (by rw [H1.out.2.2]; exact Nat.le_refl _)] at h
      exact afterC_t H1.out.1 H1.out.2.1 h
    go_wp2
    go_loop [0, 1, 9] (fun x0 x1 x8 => ∃ (a b : Int) (n : Nat), n ≤ s.size ∧ x0 = .int .i64 a ∧ x1 = .int .i64 b ∧ x8 = .int .i64 n ∧ 0 ≤ a ∧ a ≤ 20 ∧ 0 ≤ b ∧ b ≤ 20 ∧ Hid (goF i k s.data.toList = goF a b (s.data.toList.drop n))) (fun _ _ x8 => s.size - (intOf x8).toNat)
    case atStart => exact ⟨i, k, 0, Nat.zero_le _, rfl, rfl, rfl, by omega, by omega, by omega, by omega, rfl⟩
    case round =>
      obtain ⟨a, b, n, hn, rfl, rfl, rfl, ha0, ha1, hb0, hb1, HG⟩ := hrel
      by_cases hlt : n < s.size
      case neg =>
        obtain rfl : n = s.size := by omega
        have HE : Hid (goF i k s.data.toList = (a, b)) := by show _ = _; rw [HG.out, List.drop_of_length_le (by simp)]; rfl
        go_wp2
        go_ret2
        exact ⟨by rw [HO.out, HE.out]; rfl, rfl⟩
      by_cases ha : 0 < a
      case neg =>
        have HE : Hid (goF i k s.data.toList = (a, b)) := by show _ = _; rw [HG.out, goF_stop (by omega)]
        go_wp2
        go_ret2
        exact ⟨by rw [HO.out, HE.out]; rfl, rfl⟩
      by_cases hb : 0 < b
      case neg =>
        have HE : Hid (goF i k s.data.toList = (a, b)) := by show _ = _; rw [HG.out, goF_stop (by omega)]
        go_wp2
        go_ret2
        exact ⟨by rw [HO.out, HE.out]; rfl, rfl⟩
      have hx : s.data.toList[n]? = some s[n] := by simp [hlt]; rfl
      by_cases hc : s[n].toNat = 97
      · have HN := Lib.hid (goF_a hx ha hb (UInt8.toNat_inj.1 (by rw [hc]; rfl)))
        clear hx
        have e1 : ((s[n].toNat : Int) == 97) = true := by rw [hc]; rfl
        go_wp2
        go_round
        case rel => exact ⟨a - 1, b, n + 1, by omega, rfl, rfl, by go_num, by omega, by omega, by omega, by omega, by rw [HG.out, HN.out]; rfl⟩
        case measure => simp [intOf]; omega
      · have HN := Lib.hid (goF_b hx ha hb (fun h => hc (by rw [h]; rfl)))
        clear hx
        have e1 : ((s[n].toNat : Int) == 97) = false := by have : ¬ (s[n].toNat : Int) = 97 := by omega
                                                           simpa using this
        go_wp2
        go_round
        case rel => exact ⟨a, b - 1, n + 1, by omega, rfl, rfl, by go_num, by omega, by omega, by omega, by omega, by rw [HG.out, HN.out]; rfl⟩
        case measure => simp [intOf]; omega

set_option maxHeartbeats 4000000 in
theorem trim_any (s : ByteArray) (w : World) (hs : s.size ≤ 1048576) :
    Calls Tryd.prog 17 #[.string s, .string ⟨#[97, 98]⟩] w fun e w' => e = .returned (.string ⟨(Lib.trimS s.data.toList [97, 98]).toArray⟩) ∧ Below w.heap.size w w' :=
  Any.strings_Trim_laid Tryd.lays160 (by kernel_rfl) s ⟨#[97, 98]⟩ w (by omega) (by decide) (Go.Proofs.ascii_of_all (by decide))
set_option maxHeartbeats 4000000 in
theorem implAfterCourse_any (i k : Int) (s : ByteArray) (w : World) (hs : s.size ≤ 1048576) :
    Calls Tryd.prog 6 #[.int .i64 i, .int .i64 k, .string s] w fun e w' => e = .returned (.tuple #[.int .i64 (afterC i k s.data.toList).1, .int .i64 (afterC i k s.data.toList).2]) ∧ Below w.heap.size w w' := by
  have HT := Lib.hid (trim_any s w hs)
  have hsl : s.data.toList.length = s.size := by simp
  cases h1 : mOk i k
  case false =>
    have HO := Lib.hid (afterC_m (l := s.data.toList) h1)
    go_enter Tryd.func6, Tryd.ntmps6
    go_wp2_with (go_at_call 16; refine (isMatch_any i k _).mono ?_; rintro e w' ⟨rfl, rfl⟩; rw [h1])
    go_ret2
    exact ⟨by rw [HO.out]; rfl, Below.refl _ _⟩
  have h1' := mOk_t.1 h1
  by_cases h2 : s.size ≤ 39
  case neg =>
    have HO := Lib.hid (afterC_l (i := i) (k := k) (l := s.data.toList) (by rw [hsl]; exact h2))
    clear hsl
    go_enter Tryd.func6, Tryd.ntmps6
    go_wp2_with (go_at_call 16; refine (isMatch_any i k _).mono ?_; rintro e w' ⟨rfl, rfl⟩; rw [h1])
    go_ret2
    exact ⟨by rw [HO.out]; rfl, Below.refl _ _⟩
  have H1 := Lib.hid (And.intro h1 (And.intro (show s.data.toList.length ≤ 39 by rw [hsl]; exact h2) hsl))
  clear hsl
  cases h3 : courseB s.data.toList
  case false =>
    have HO := Lib.hid (afterC_c (i := i) (k := k) h3)
    obtain ⟨r, hr⟩ : ∃ r, Lib.trimS s.data.toList [97, 98] = r := ⟨_, rfl⟩
    have hrn : r ≠ [] := fun h => by rw [← hr] at h; rw [courseB_trim.2 h] at h3; cases h3
    rw [hr] at HT
    obtain ⟨c, r', rfl⟩ := List.exists_cons_of_ne_nil hrn
    clear h3 hr hrn
    go_enter Tryd.func6, Tryd.ntmps6
    go_wp2_with (first | (go_at_call 16; refine (isMatch_any i k _).mono ?_; rintro e w' ⟨rfl, rfl⟩; rw [h1]) | (go_at_call 17; refine HT.out.mono ?_; rintro e w' ⟨rfl, hb⟩; have HB := Lib.hid hb; clear hb))
    go_ret2
    exact ⟨by rw [HO.out]; rfl, HB.out⟩
  rw [courseB_trim.1 h3] at HT
  have HO : Hid (afterC i k s.data.toList = goF i k s.data.toList) := afterC_t H1.out.1 H1.out.2.1 h3
  clear h3
  go_enter Tryd.func6, Tryd.ntmps6
  go_wp2_with (first | (go_at_call 16; refine (isMatch_any i k _).mono ?_; rintro e w' ⟨rfl, rfl⟩; rw [h1]) | (go_at_call 17; refine HT.out.mono ?_; rintro e w' ⟨rfl, hb⟩; have HB := Lib.hid hb; clear hb))
  clear h1
  go_loop [0, 1, 8] (fun x0 x1 x8 => ∃ (a b : Int) (n : Nat), n ≤ s.size ∧ x0 = .int .i64 a ∧ x1 = .int .i64 b ∧ x8 = .int .i64 n ∧ 0 ≤ a ∧ a ≤ 20 ∧ 0 ≤ b ∧ b ≤ 20 ∧ Hid (goF i k s.data.toList = goF a b (s.data.toList.drop n))) (fun _ _ x8 => s.size - (intOf x8).toNat)
  case atStart => exact ⟨i, k, 0, Nat.zero_le _, rfl, rfl, rfl, by omega, by omega, by omega, by omega, rfl⟩
  case round =>
    obtain ⟨a, b, n, hn, rfl, rfl, rfl, ha0, ha1, hb0, hb1, HG⟩ := hrel
    by_cases hlt : n < s.size
    case neg =>
      obtain rfl : n = s.size := by omega
      have HE : Hid (goF i k s.data.toList = (a, b)) := by show _ = _; rw [HG.out, List.drop_of_length_le (by simp)]; rfl
      go_wp2
      go_ret2
      exact ⟨by rw [HO.out, HE.out]; rfl, HB.out⟩
    by_cases ha : 0 < a
    case neg =>
      have HE : Hid (goF i k s.data.toList = (a, b)) := by show _ = _; rw [HG.out, goF_stop (by omega)]
      go_wp2
      go_ret2
      exact ⟨by rw [HO.out, HE.out]; rfl, HB.out⟩
    by_cases hb : 0 < b
    case neg =>
      have HE : Hid (goF i k s.data.toList = (a, b)) := by show _ = _; rw [HG.out, goF_stop (by omega)]
      go_wp2
      go_ret2
      exact ⟨by rw [HO.out, HE.out]; rfl, HB.out⟩
    have hx : s.data.toList[n]? = some s[n] := by simp [hlt]; rfl
    by_cases hc : s[n].toNat = 97
    · have HN := Lib.hid (goF_a hx ha hb (UInt8.toNat_inj.1 (by rw [hc]; rfl)))
      clear hx
      have e1 : ((s[n].toNat : Int) == 97) = true := by rw [hc]; rfl
      go_wp2
      go_round
      case rel => exact ⟨a - 1, b, n + 1, by omega, rfl, rfl, by go_num, by omega, by omega, by omega, by omega, by rw [HG.out, HN.out]; rfl⟩
      case measure => simp [intOf]; omega
    · have HN := Lib.hid (goF_b hx ha hb (fun h => hc (by rw [h]; rfl)))
      clear hx
      have e1 : ((s[n].toNat : Int) == 97) = false := by have : ¬ (s[n].toNat : Int) = 97 := by omega
                                                         simpa using this
      go_wp2
      go_round
      case rel => exact ⟨a, b - 1, n + 1, by omega, rfl, rfl, by go_num, by omega, by omega, by omega, by omega, by rw [HG.out, HN.out]; rfl⟩
      case measure => simp [intOf]; omega

set_option maxHeartbeats 2000000 in
theorem lawFnExactAfterCourse (x0 x1 : Int) (x2 : ByteArray) (w : World) (_n0 : (Lit.int .i64 x0).wf = true) (_n1 : (Lit.int .i64 x1).wf = true) (_n2 : x2.size ≤ maxLen) :
    Calls Tryd.prog 3 #[.int .i64 x0, .int .i64 x1, .string x2] w fun e w' => e = .returned (.bool true) ∧ Below w.heap.size w w' := by
  unfold maxLen at _n2
  by_cases n1 : x2.size ≤ 1048576
  case neg =>
    go_enter Tryd.func3, Tryd.ntmps3
    go_wp2
    go_ret
    exact ⟨rfl, Below.refl _ _⟩
  have HS := Lib.hid (specAfterCourse_any x0 x1 x2 w n1)
  have HI := Lib.hid (implAfterCourse_any x0 x1 x2 w n1)
  generalize (afterC x0 x1 x2.data.toList).1 = a at *
  generalize (afterC x0 x1 x2.data.toList).2 = b at *
  go_enter Tryd.func3, Tryd.ntmps3
  go_wp2_with fail
  refine HS.out.mono ?_
  rintro e w' ⟨rfl, rfl⟩
  go_wp2_with fail
  refine HI.out.mono ?_
  rintro e w' ⟨rfl, hb⟩
  have HB := Lib.hid hb
  clear hb
  go_wp2
  go_ret
  exact ⟨rfl, HB.out⟩
end Go.Proofs.YtcomcpiegfcdeaaDoor
