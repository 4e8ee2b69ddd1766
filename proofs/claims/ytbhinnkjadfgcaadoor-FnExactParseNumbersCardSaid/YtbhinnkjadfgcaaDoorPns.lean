/- Numbers read from a text: the reference's walks. -/
import Derived.Test.YtbhinnkjadfgcaaDoorPnp
import Derived.Test.YtbhinnkjadfgcaaDoorFz
import Derived.Test.YtbhinnkjadfgcaaDoorStd
import Derived.MapKept
import Derived.Laws.StructEq
namespace Go.Proofs.YtbhinnkjadfgcaaDoor
open Go.ChangeShapes Go.WideShapes Go.ChangeAt Go.RowKit

theorem dig_false {l : List UInt8} {k : Nat} {c : UInt8} (h : l[k]? = some c) (hc : isDig c = false) : l.all isDig = false := by
  rw [List.all_eq_false]
  exact ⟨c, List.mem_of_getElem? h, by rw [hc]; decide⟩
theorem byte_get {s : ByteArray} {n : Nat} (h : n < s.size) : s.data.toList[n]? = some s[n] := by simp [h]; rfl
def digsB (l : List UInt8) : Bool := l.all isDig && decide (0 < l.length)
set_option maxHeartbeats 400000 in
theorem specIsDigits_any (s : ByteArray) (w : World) (hs : s.size ≤ 1048576) :
    Calls Tryd.prog 13 #[.string s] w fun e w' => e = .returned (.bool (digsB s.data.toList)) ∧ w = w' := by
  have HSL : Hid (s.data.toList.length = s.size) := by show _ = _; simp
  go_enter Tryd.func13, Tryd.ntmps13
  go_wp2
  go_loop [3] (fun i => ∃ n : Nat, n ≤ s.size ∧ i = .int .i64 n ∧ Hid ((s.data.toList.take n).all isDig = true)) (fun i => s.size - (intOf i).toNat)
  case atStart => exact ⟨0, Nat.zero_le _, rfl, rfl⟩
  case round =>
    obtain ⟨n, hn, rfl, HC⟩ := hrel
    by_cases hlt : n < s.size
    case neg =>
      obtain rfl : n = s.size := by omega
      have HE : Hid (digsB s.data.toList = decide (0 < s.size)) := by
        have h := HC.out
        rw [List.take_of_length_le (by rw [HSL.out]; exact Nat.le_refl _)] at h
        show _ = _
        unfold digsB
        rw [h, HSL.out, Bool.true_and]
      go_wp2
      go_ret
      exact ⟨ret_bool (by rw [HE.out]), rfl⟩
    have hx := byte_get hlt
    have HX := Lib.hid hx
    clear hx
    by_cases h1 : s[n].toNat < 48
    · have HE : Hid (digsB s.data.toList = false) := by
        show _ = _
        unfold digsB
        rw [dig_false HX.out (by simp [isDig]; omega)]; rfl
      have e1 : (s[n].toNat : Int) < 48 := by omega
      go_wp2
      go_ret
      exact ⟨by rw [HE.out]; rfl, rfl⟩
    have e1 : ¬ (s[n].toNat : Int) < 48 := by omega
    by_cases h2 : 57 < s[n].toNat
    · have HE : Hid (digsB s.data.toList = false) := by
        show _ = _
        unfold digsB
        rw [dig_false HX.out (by simp [isDig]; omega)]; rfl
      have e2 : 57 < (s[n].toNat : Int) := by omega
      go_wp2
      go_ret
      exact ⟨by rw [HE.out]; rfl, rfl⟩
    have e2 : ¬ 57 < (s[n].toNat : Int) := by omega
    have HN : Hid ((s.data.toList.take (n + 1)).all isDig = true) := by
      show _ = _
      rw [List.take_add_one, HX.out, List.all_append, HC.out]
      simp [isDig]; omega
    go_wp2
    go_round
    case rel => exact ⟨n + 1, by omega, by go_num, HN⟩
    case measure => simp [intOf]; omega

theorem specNum_no {l : List UInt8} (h : digsB (tailOf l) = false ∨ ¬ (tailOf l).length ≤ 19) : specNum l = none := by
  unfold specNum
  rw [if_neg]
  rintro ⟨h1, h2, h3⟩
  rcases h with h | h
  · have : 0 < (tailOf l).length := List.length_pos_iff.2 h1
    simp [digsB, h2, this] at h
  · exact h h3
theorem specNum_acc {l : List UInt8} (h : accF 0 (tailOf l) = none) : specNum l = none := by
  unfold specNum
  split
  · rw [h]
  · rfl
theorem digsB_t {l : List UInt8} (h : digsB l = true) : l ≠ [] ∧ l.all isDig = true := by
  unfold digsB at h
  rw [Bool.and_eq_true, decide_eq_true_eq] at h
  exact ⟨List.ne_nil_of_length_pos h.2, h.1⟩
theorem specNum_neg {l : List UInt8} {n : Int} (h1 : digsB (tailOf l) = true) (h2 : (tailOf l).length ≤ 19) (h3 : accF 0 (tailOf l) = some n) (h4 : l.head? = some 45) : specNum l = if Lib.itoa n = l then some n else none := by
  unfold specNum
  rw [if_pos ⟨(digsB_t h1).1, (digsB_t h1).2, h2⟩, h3]
  simp only
  rw [if_pos h4]
theorem specNum_min {l : List UInt8} (h3 : accF 0 (tailOf l) = some (-9223372036854775808)) (h4 : l.head? ≠ some 45) : specNum l = none := by
  unfold specNum
  split
  · rw [h3]; simp [h4]
  · rfl
theorem specNum_pos {l : List UInt8} {n : Int} (h1 : digsB (tailOf l) = true) (h2 : (tailOf l).length ≤ 19) (h3 : accF 0 (tailOf l) = some n) (h4 : l.head? ≠ some 45) (h5 : n ≠ -9223372036854775808) : specNum l = if Lib.itoa (-n) = l then some (-n) else none := by
  unfold specNum
  rw [if_pos ⟨(digsB_t h1).1, (digsB_t h1).2, h2⟩, h3]
  simp only
  rw [if_neg h4, if_neg h5]
theorem str_ne {l : List UInt8} {s : ByteArray} (h : ¬ l = s.data.toList) : (l == s.toList) = false := by
  have h1 : ¬ ((⟨l.toArray⟩ : ByteArray) = s) := by
    rintro rfl
    exact h (by simp)
  have h2 : ((⟨l.toArray⟩ : ByteArray) == s) = false := by
    rw [Bool.eq_false_iff, Ne, MapKept.bytes_beq]; exact h1
  rw [beq_toListBytes] at h2
  simpa [go_sem] using h2
set_option maxHeartbeats 2000000 in
set_option maxRecDepth 100000 in
theorem specParseInt_any (s : ByteArray) (w : World) (hs : s.size ≤ 1048576) :
    Calls Tryd.prog 10 #[.string s] w fun e w' => e = .returned (.tuple #[.int .i64 ((numOf s.data.toList).getD 0), .bool (numOf s.data.toList).isSome]) ∧ Below w.heap.size w w' := by
  have HSL : Hid (s.data.toList.length = s.size) := by show _ = _; simp
  by_cases h0 : 0 < s.size
  case neg =>
    have hz : s.size = 0 := by omega
    have hnil : s.data.toList = [] := List.eq_nil_of_length_eq_zero (by rw [HSL.out]; exact hz)
    have HO : Hid (numOf s.data.toList = none) := by show _ = _; rw [hnil]; rfl
    have HD : Hid (digsB s.data.toList = false) := by show _ = _; rw [hnil]; rfl
    clear hnil
    go_enter Tryd.func10, Tryd.ntmps10
    go_wp2_with (go_at_call 13; refine (specIsDigits_any _ _ hs).mono ?_; rintro e w' ⟨rfl, rfl⟩; rw [HD.out])
    go_ret2
    exact ⟨by rw [HO.out]; rfl, Below.refl _ _⟩
  have hx := byte_get h0
  by_cases hm : s[0].toNat = 45
  · have e1 : ((s[0].toNat : Int) == 45) = true := by rw [hm]; rfl
    have HM : Hid (s.data.toList.head? = some 45) := by
      show _ = _
      rw [List.head?_eq_getElem?, hx]
      exact congrArg some (UInt8.toNat_inj.1 (by rw [hm]; rfl))
    obtain ⟨t, ht⟩ : ∃ t, t = s.extract 1 s.size := ⟨_, rfl⟩
    have HT : Hid (tailOf s.data.toList = t.data.toList) := by
      show _ = _
      unfold tailOf
      rw [if_pos HM.out, ht, ← List.drop_one]
      simp [ByteArray.data_extract]
      rw [List.take_of_length_le (by simp)]
    have hts : t.size ≤ 1048576 := by rw [ht]; simp; omega
    have HTE : Hid (s.extract 1 s.size = t) := ht.symm
    clear ht
    cases hd : digsB t.data.toList
    · have HO : Hid (numOf s.data.toList = none) := by
        show _ = _
        rw [← specNum_eq]
        exact specNum_no (Or.inl (by rw [HT.out]; exact hd))
      go_enter Tryd.func10, Tryd.ntmps10
      go_upto_region 5 with (fail)
      rw [HTE.out]
      go_wp2_with (go_at_call 13; refine (specIsDigits_any _ _ hts).mono ?_; rintro e w' ⟨rfl, rfl⟩; rw [hd])
      go_ret2
      exact ⟨by rw [HO.out]; rfl, Below.refl _ _⟩
    by_cases h19 : t.size ≤ 19
    case neg =>
      have HO : Hid (numOf s.data.toList = none) := by
        show _ = _
        rw [← specNum_eq]
        exact specNum_no (Or.inr (by rw [HT.out]; simpa using h19))
      go_enter Tryd.func10, Tryd.ntmps10
      go_upto_region 5 with (fail)
      rw [HTE.out]
      go_wp2_with (go_at_call 13; refine (specIsDigits_any _ _ hts).mono ?_; rintro e w' ⟨rfl, rfl⟩; rw [hd])
      go_ret2
      exact ⟨by rw [HO.out]; rfl, Below.refl _ _⟩
    have HTL : Hid (t.data.toList.length = t.size) := by show _ = _; simp
    have HDG : Hid (digsB t.data.toList = true ∧ t.data.toList.length ≤ 19) := ⟨hd, by rw [HTL.out]; exact h19⟩
    go_enter Tryd.func10, Tryd.ntmps10
    go_upto_region 5 with (fail)
    rw [HTE.out]
    go_wp2_with (go_at_call 13; refine (specIsDigits_any _ _ hts).mono ?_; rintro e w' ⟨rfl, rfl⟩; rw [hd])
    clear hd
    go_loop [6, 7, 8] (fun a i _d => ∃ (k : Nat) (n : Int), k ≤ t.size ∧ a = .int .i64 n ∧ i = .int .i64 k ∧ -9223372036854775808 ≤ n ∧ n ≤ 0 ∧ Hid (accF 0 t.data.toList = accF n (t.data.toList.drop k))) (fun _ i _ => t.size - (intOf i).toNat)
    case atStart => exact ⟨0, 0, Nat.zero_le _, rfl, rfl, by omega, by omega, rfl⟩
    case round =>
      obtain ⟨k, n, hk, rfl, rfl, n0, n1, HA⟩ := hrel
      by_cases hlt : k < t.size
      · have hx := byte_get hlt
        have HX := Lib.hid hx
        have hdig : isDig t[k] = true := by
          have h := HDG.out.1
          unfold digsB at h
          rw [Bool.and_eq_true, List.all_eq_true] at h
          exact h.1 _ (List.mem_of_getElem? hx)
        have HDI := Lib.hid hdig
        simp only [isDig, Bool.and_eq_true, decide_eq_true_eq] at hdig
        obtain ⟨d0, d1⟩ := hdig
        have HST : Hid (accF n (t.data.toList.drop k) = (accS n t[k]).bind fun m => accF m (t.data.toList.drop (k + 1))) := by
          show _ = _
          obtain ⟨hk2, e⟩ := List.getElem?_eq_some_iff.1 HX.out
          rw [List.drop_eq_getElem_cons hk2, e, accF]
        have HTD := td_min (d := t[k].toNat - 48) (by omega)
        rw [show ((t[k].toNat - 48 : Nat) : Int) = (t[k].toNat : Int) - 48 by omega] at HTD
        have HS : Hid (accS n t[k] = if n < -(((9223372036854775808 - (t[k].toNat - 48)) / 10 : Nat) : Int) then none else some (n * 10 - ((t[k].toNat : Int) - 48))) := by show _ = _; rw [accS, HTD]
        clear hx
        by_cases hq : n < -(((9223372036854775808 - (t[k].toNat - 48)) / 10 : Nat) : Int)
        · have HO : Hid (numOf s.data.toList = none) := by
            show _ = _
            rw [← specNum_eq]
            refine specNum_acc ?_
            rw [HT.out, HA.out, HST.out, HS.out, if_pos hq]; rfl
          go_wp2
          go_ret2
          exact ⟨by rw [HO.out]; rfl, Below.refl _ _⟩
        · have HR := accS_range HDI.out n0 n1 (by rw [HS.out, if_neg hq])
          have HN : Hid (accF 0 t.data.toList = accF (n * 10 - ((t[k].toNat : Int) - 48)) (t.data.toList.drop (k + 1))) := by
            show _ = _
            rw [HA.out, HST.out, HS.out, if_neg hq]; rfl
          have w1 : IntKind.i64.wrap (n * 10) = n * 10 := by rw [IntKind.wrap_i64]; omega
          obtain ⟨r0, r1⟩ := HR
          go_wp2
          go_round
          case rel => exact ⟨k + 1, _, by omega, rfl, by go_num, r0, r1, HN⟩
          case measure => simp [intOf]; omega
      · obtain rfl : k = t.size := by omega
        have HAC : Hid (accF 0 t.data.toList = some n) := by
          show _ = _
          rw [HA.out, List.drop_of_length_le (by rw [HTL.out]; exact Nat.le_refl _)]; rfl
        have HF : Hid (numOf s.data.toList = if Lib.itoa n = s.data.toList then some n else none) := by
          show _ = _
          rw [← specNum_eq]
          exact specNum_neg (by rw [HT.out]; exact HDG.out.1) (by rw [HT.out]; exact HDG.out.2) (by rw [HT.out]; exact HAC.out) HM.out
        by_cases hi : Lib.itoa n = s.data.toList
        · have HO : Hid (numOf s.data.toList = some n) := by show _ = _; rw [HF.out, if_pos hi]
          have hse : (⟨(Lib.itoa n).toArray⟩ : ByteArray) = s := by rw [hi]
          go_wp2_with (go_at_call 14; refine (specFormatInt_any _ _ (by omega) (by omega)).mono ?_; rintro e w2 ⟨rfl, hb⟩; rw [hse]; have HB := Lib.hid hb; clear hb)
          go_ret2
          exact ⟨by rw [HO.out]; rfl, HB.out⟩
        · have HO : Hid (numOf s.data.toList = none) := by show _ = _; rw [HF.out, if_neg hi]
          have hse := str_ne hi
          go_wp2_with (go_at_call 14; refine (specFormatInt_any _ _ (by omega) (by omega)).mono ?_; rintro e w2 ⟨rfl, hb⟩; have HB := Lib.hid hb; clear hb)
          go_ret2
          exact ⟨by rw [HO.out]; rfl, HB.out⟩
  have e1 : ((s[0].toNat : Int) == 45) = false := by
    have : ¬ (s[0].toNat : Int) = 45 := by omega
    simpa using this
  have HM : Hid (s.data.toList.head? ≠ some 45) := by
    show _ ≠ _
    rw [List.head?_eq_getElem?, hx]
    intro e
    injection e with e
    exact hm (by rw [e]; rfl)
  have HT : Hid (tailOf s.data.toList = s.data.toList) := by
    show _ = _
    unfold tailOf
    rw [if_neg HM.out]
  clear hx hm
  cases hd : digsB s.data.toList
  · have HO : Hid (numOf s.data.toList = none) := by
      show _ = _
      rw [← specNum_eq]
      exact specNum_no (Or.inl (by rw [HT.out]; exact hd))
    go_enter Tryd.func10, Tryd.ntmps10
    go_wp2_with (go_at_call 13; refine (specIsDigits_any _ _ hs).mono ?_; rintro e w' ⟨rfl, rfl⟩; rw [hd])
    go_ret2
    exact ⟨by rw [HO.out]; rfl, Below.refl _ _⟩
  by_cases h19 : s.size ≤ 19
  case neg =>
    have HO : Hid (numOf s.data.toList = none) := by
      show _ = _
      rw [← specNum_eq]
      exact specNum_no (Or.inr (by rw [HT.out]; simpa using h19))
    go_enter Tryd.func10, Tryd.ntmps10
    go_wp2_with (go_at_call 13; refine (specIsDigits_any _ _ hs).mono ?_; rintro e w' ⟨rfl, rfl⟩; rw [hd])
    go_ret2
    exact ⟨by rw [HO.out]; rfl, Below.refl _ _⟩
  have HTL : Hid (s.data.toList.length = s.size) := by show _ = _; simp
  have HDG : Hid (digsB s.data.toList = true ∧ s.data.toList.length ≤ 19) := ⟨hd, by rw [HTL.out]; exact h19⟩
  go_enter Tryd.func10, Tryd.ntmps10
  go_wp2_with (go_at_call 13; refine (specIsDigits_any _ _ hs).mono ?_; rintro e w' ⟨rfl, rfl⟩; rw [hd])
  clear hd
  go_loop [6, 7, 8] (fun a i _d => ∃ (k : Nat) (n : Int), k ≤ s.size ∧ a = .int .i64 n ∧ i = .int .i64 k ∧ -9223372036854775808 ≤ n ∧ n ≤ 0 ∧ Hid (accF 0 s.data.toList = accF n (s.data.toList.drop k))) (fun _ i _ => s.size - (intOf i).toNat)
  case atStart => exact ⟨0, 0, Nat.zero_le _, rfl, rfl, by omega, by omega, rfl⟩
  case round =>
    obtain ⟨k, n, hk, rfl, rfl, n0, n1, HA⟩ := hrel
    by_cases hlt : k < s.size
    · have hx := byte_get hlt
      have HX := Lib.hid hx
      have hdig : isDig s[k] = true := by
        have h := HDG.out.1
        unfold digsB at h
        rw [Bool.and_eq_true, List.all_eq_true] at h
        exact h.1 _ (List.mem_of_getElem? hx)
      have HDI := Lib.hid hdig
      simp only [isDig, Bool.and_eq_true, decide_eq_true_eq] at hdig
      obtain ⟨d0, d1⟩ := hdig
      have HST : Hid (accF n (s.data.toList.drop k) = (accS n s[k]).bind fun m => accF m (s.data.toList.drop (k + 1))) := by
        show _ = _
        obtain ⟨hk2, e⟩ := List.getElem?_eq_some_iff.1 HX.out
        rw [List.drop_eq_getElem_cons hk2, e, accF]
      have HTD := td_min (d := s[k].toNat - 48) (by omega)
      rw [show ((s[k].toNat - 48 : Nat) : Int) = (s[k].toNat : Int) - 48 by omega] at HTD
      have HS : Hid (accS n s[k] = if n < -(((9223372036854775808 - (s[k].toNat - 48)) / 10 : Nat) : Int) then none else some (n * 10 - ((s[k].toNat : Int) - 48))) := by show _ = _; rw [accS, HTD]
      clear hx
      by_cases hq : n < -(((9223372036854775808 - (s[k].toNat - 48)) / 10 : Nat) : Int)
      · have HO : Hid (numOf s.data.toList = none) := by
          show _ = _
          rw [← specNum_eq]
          refine specNum_acc ?_
          rw [HT.out, HA.out, HST.out, HS.out, if_pos hq]; rfl
        go_wp2
        go_ret2
        exact ⟨by rw [HO.out]; rfl, Below.refl _ _⟩
      · have HR := accS_range HDI.out n0 n1 (by rw [HS.out, if_neg hq])
        have HN : Hid (accF 0 s.data.toList = accF (n * 10 - ((s[k].toNat : Int) - 48)) (s.data.toList.drop (k + 1))) := by
          show _ = _
          rw [HA.out, HST.out, HS.out, if_neg hq]; rfl
        have w1 : IntKind.i64.wrap (n * 10) = n * 10 := by rw [IntKind.wrap_i64]; omega
        obtain ⟨r0, r1⟩ := HR
        go_wp2
        go_round
        case rel => exact ⟨k + 1, _, by omega, rfl, by go_num, r0, r1, HN⟩
        case measure => simp [intOf]; omega
    · obtain rfl : k = s.size := by omega
      have HAC : Hid (accF 0 s.data.toList = some n) := by
        show _ = _
        rw [HA.out, List.drop_of_length_le (by rw [HTL.out]; exact Nat.le_refl _)]; rfl
      by_cases hmn : n = -9223372036854775808
      · have HO : Hid (numOf s.data.toList = none) := by
          show _ = _
          rw [← specNum_eq]
          exact specNum_min (by rw [HT.out, HAC.out, hmn]) HM.out
        subst hmn
        go_wp2
        go_ret2
        exact ⟨by rw [HO.out]; rfl, Below.refl _ _⟩
      have HF : Hid (numOf s.data.toList = if Lib.itoa (-n) = s.data.toList then some (-n) else none) := by
        show _ = _
        rw [← specNum_eq]
        exact specNum_pos (by rw [HT.out]; exact HDG.out.1) (by rw [HT.out]; exact HDG.out.2) (by rw [HT.out]; exact HAC.out) HM.out hmn
      have hmn' : (n == -9223372036854775808) = false := by simpa using hmn
      by_cases hi : Lib.itoa (-n) = s.data.toList
      · have HO : Hid (numOf s.data.toList = some (-n)) := by show _ = _; rw [HF.out, if_pos hi]
        have hse : (⟨(Lib.itoa (-n)).toArray⟩ : ByteArray) = s := by rw [hi]
        go_wp2_with (go_at_call 14; refine (specFormatInt_any _ _ (by omega) (by omega)).mono ?_; rintro e w2 ⟨rfl, hb⟩; rw [hse]; have HB := Lib.hid hb; clear hb)
        go_ret2
        exact ⟨by rw [HO.out]; rfl, HB.out⟩
      · have HO : Hid (numOf s.data.toList = none) := by show _ = _; rw [HF.out, if_neg hi]
        have hse := str_ne hi
        go_wp2_with (go_at_call 14; refine (specFormatInt_any _ _ (by omega) (by omega)).mono ?_; rintro e w2 ⟨rfl, hb⟩; have HB := Lib.hid hb; clear hb)
        go_ret2
        exact ⟨by rw [HO.out]; rfl, HB.out⟩

theorem take_drop_len {l : List UInt8} {f i : Nat} (h : i ≤ l.length) : ((l.drop f).take (i - f)).length = i - f := by simp; omega
theorem ext_list (s : ByteArray) (f i : Nat) (h : i ≤ s.size) : s.extract f i = ⟨((s.data.toList.drop f).take (i - f)).toArray⟩ := by
  apply ByteArray.ext
  apply Array.toList_inj.1
  simp [ByteArray.data_extract]
/-- Where the cut of a text stands: the words so far, and from where on. -/
structure CutAt (sp : UInt8) (l : List UInt8) (f i : Nat) (ps : List (List UInt8)) : Prop where
  cut : cutB sp l = ps ++ cutB sp (l.drop f)
  no : sp ∉ (l.drop f).take (i - f)
  fi : f ≤ i
  il : i ≤ l.length
  cap : ps.length ≤ f
theorem cutAt_start (sp : UInt8) (l : List UInt8) : CutAt sp l 0 0 [] := ⟨rfl, by simp, Nat.le_refl _, Nat.zero_le _, Nat.le_refl _⟩
theorem cutAt_on {sp : UInt8} {l : List UInt8} {f i : Nat} {ps : List (List UInt8)} {c : UInt8} (h : CutAt sp l f i ps) (hc : l[i]? = some c) (hn : c ≠ sp) : CutAt sp l f (i + 1) ps := by
  have hi : i < l.length := (List.getElem?_eq_some_iff.1 hc).1
  refine ⟨h.cut, ?_, Nat.le_succ_of_le h.fi, hi, h.cap⟩
  have hf := h.fi
  rw [show i + 1 - f = (i - f) + 1 from by omega, List.take_add_one]
  have e : (l.drop f)[i - f]? = some c := by rw [List.getElem?_drop, show f + (i - f) = i from by omega]; exact hc
  rw [e, List.mem_append, not_or]
  exact ⟨h.no, by simp; exact fun e => hn e.symm⟩
theorem cutAt_hit {sp : UInt8} {l : List UInt8} {f i : Nat} {ps : List (List UInt8)} (h : CutAt sp l f i ps) (hc : l[i]? = some sp) : CutAt sp l (i + 1) (i + 1) (ps ++ [(l.drop f).take (i - f)]) := by
  have hi : i < l.length := (List.getElem?_eq_some_iff.1 hc).1
  have hf := h.fi
  have e : (l.drop f)[i - f]? = some sp := by rw [List.getElem?_drop, show f + (i - f) = i from by omega]; exact hc
  refine ⟨?_, by simp, Nat.le_refl _, hi, by rw [List.length_append, List.length_singleton]; have := h.cap; omega⟩
  rw [h.cut, cutB_at h.no e, List.drop_drop, List.append_assoc, show f + (i - f + 1) = i + 1 from by omega]
  rfl
theorem cutAt_end {sp : UInt8} {l : List UInt8} {f : Nat} {ps : List (List UInt8)} (h : CutAt sp l f l.length ps) : cutB sp l = ps ++ [l.drop f] := by
  have hn := h.no
  rw [List.take_of_length_le (by simp)] at hn
  rw [h.cut, cutB_none hn]
structure SpAt (w wr : World) (sp : UInt8) (l : List UInt8) (v : Value) (f i : Nat) (ps : List (List UInt8)) : Prop where
  own : wr.ownsRow w.heap.size 9 1 v ps.length (strs ps)
  be : Below w.heap.size w wr
  at_ : CutAt sp l f i ps
theorem SpAt.drewN {w wr : World} {sp : UInt8} {l : List UInt8} {v : Value} {f i : Nat} {ps : List (List UInt8)} (h : SpAt w wr sp l v f i ps) (q : Nat) : SpAt w (wr.drewN q) sp l v f i ps :=
  ⟨ownZ_below h.own (below_of_drewN _ _ _), below_drewN h.be q, h.at_⟩
set_option maxHeartbeats 4000000 in
set_option maxRecDepth 100000 in
theorem specSplitAny_any (s : ByteArray) (sp : UInt8) (w : World) (hs : s.size ≤ 1048576) :
    Calls Tryd.prog 9 #[.string s, .string ⟨#[sp]⟩] w fun e w' => ∃ v', e = .returned v' ∧ w'.ownsRow w.heap.size 9 1 v' (cutB sp s.data.toList).length (strs (cutB sp s.data.toList)) ∧ Below w.heap.size w w' := by
  have HSL : Hid (s.data.toList.length = s.size) := by show _ = _; simp
  have HL : Hid (s.data.toList.length = s.size ∧ ∀ f i, i ≤ s.size → s.extract f i = ⟨((s.data.toList.drop f).take (i - f)).toArray⟩) := ⟨HSL.out, fun f i h => ext_list s f i h⟩
  have H0 : Hid (SpAt w (w.alloc (.cells #[] 9)) sp s.data.toList (.slice (some ⟨w.heap.size, 0, none⟩) 0 0) 0 0 []) :=
    ⟨World.ownsRow_lit (base := w.heap.size) (e := 9) (size := 1) w #[] 0 (Nat.le_refl _) (by unfold maxLen; omega) rfl, (Below.refl _ w).alloc (Nat.le_refl _) _, cutAt_start _ _⟩
  go_enter Tryd.func9, Tryd.ntmps9
  go_wp2
  go_loopw [5, 6, 7] (fun o f i wr => ∃ (fr k : Nat) (vv : Value) (ps : List (List UInt8)), k ≤ s.size ∧ fr ≤ k ∧ i = .int .i64 k ∧ f = .int .i64 fr ∧ vv = o ∧ Hid (SpAt w wr sp s.data.toList vv fr k ps)) (fun _ _ i _ => s.size - (intOf i).toNat)
  case atStart => exact ⟨0, 0, _, [], Nat.zero_le _, Nat.le_refl _, rfl, rfl, rfl, H0.out⟩
  case round =>
    obtain ⟨fr, k, vv, ps, hk, hfk, rfl, rfl, rfl, HR⟩ := hrel
    clear H0
    obtain ⟨wo, rfl⟩ : ∃ W, W = wr := ⟨wr, rfl⟩
    by_cases hlt : k < s.size
    case neg =>
      obtain rfl : k = s.size := by omega
      have HX : Hid (s.extract fr s.size = ⟨(s.data.toList.drop fr).toArray⟩) := by
        show _ = _
        rw [HL.out.2 fr s.size (Nat.le_refl _), List.take_of_length_le (by simp)]
      have HE : Hid (cutB sp s.data.toList = ps ++ [s.data.toList.drop fr]) := by
        have h := HR.out.at_
        have h2 : CutAt sp s.data.toList fr s.data.toList.length ps := by rw [HSL.out]; exact h
        exact cutAt_end h2
      have hps : ps.length ≤ 1048576 := by have := HR.out.at_.cap; omega
      have hfs : fr ≤ s.size := hfk
      go_wp2_with (at_builtin; rw [HX.out]; refine appZ rfl _ _ rfl wo w.heap.size vv ps.length ps rfl HR.out.own _ rfl hps HR.out.be.size ?_; intro v2 w2 hown hb _ _; have H2 : Hid (w2.ownsRow w.heap.size 9 1 v2 (cutB sp s.data.toList).length (strs (cutB sp s.data.toList)) ∧ Below w.heap.size w w2) := (by rw [HE.out, List.length_append, List.length_singleton]; exact ⟨hown, HR.out.be.trans (hb w.heap.size (Nat.le_refl _) HR.out.be.size)⟩); clear hown hb)
      go_ret
      exact ⟨_, rfl, H2.out⟩
    have hx := byte_get hlt
    have HX := Lib.hid hx
    clear hx
    go_wp2
    go_loopw [5, 6, 8] (fun o f kk wr => ∃ (k2 : Nat) (vv2 : Value), k2 ≤ 1 ∧ kk = .int .i64 k2 ∧ f = .int .i64 fr ∧ vv2 = o ∧ vv2 = vv ∧ Hid (SpAt w wr sp s.data.toList vv2 fr k ps) ∧ Hid (k2 = 1 → s[k] ≠ sp)) (fun _ _ kk _ => 1 - (intOf kk).toNat)
    case atStart => exact ⟨0, _, by omega, rfl, rfl, rfl, rfl, HR.out, fun h => by omega⟩
    case round =>
      obtain ⟨k2, vv2, hk2, rfl, rfl, rfl, rfl, HR2, HK⟩ := hrel
      clear HR
      by_cases hk1 : k2 = 1
      · subst hk1
        have HN := Lib.hid (cutAt_on HR2.out.at_ HX.out (HK.out rfl))
        go_wp2
        go_roundw
        case rel => exact ⟨fr, k + 1, _, ps, by omega, by omega, by go_num, rfl, rfl, HR2.out.own, HR2.out.be, HN.out⟩
        case measure => simp [intOf]; omega
      · obtain rfl : k2 = 0 := by omega
        by_cases hc : s[k].toNat = sp.toNat
        · have e1 : ((s[k].toNat : Int) == (((⟨#[sp]⟩ : ByteArray)[0]'(Nat.zero_lt_one)).toNat : Int)) = true := by show ((s[k].toNat : Int) == (sp.toNat : Int)) = true; rw [hc]; simp
          have hcs : s[k] = sp := UInt8.toNat_inj.1 hc
          have HX2 : Hid (s.data.toList[k]? = some sp) := by show _ = _; rw [HX.out, hcs]
          have HN := Lib.hid (cutAt_hit HR2.out.at_ HX2.out)
          have HE : Hid (s.extract fr k = ⟨((s.data.toList.drop fr).take (k - fr)).toArray⟩) := HL.out.2 fr k hk
          have hps : ps.length ≤ 1048576 := by have := HR2.out.at_.cap; omega
          have hfk2 : (fr : Int) ≤ (k : Int) := by omega
          have HRD : Hid (∀ q, SpAt w (wr.drewN q) sp s.data.toList vv2 fr k ps) := fun q => HR2.out.drewN q
          clear hcs hc
          go_upto_region 9 with (fail)
          go_quiet (fail)
          replace HRD := Lib.hid (HRD.out nq)
          generalize wr.drewN nq = w1 at *
          go_wp2_with (at_builtin; rw [HE.out]; refine appZ rfl _ _ rfl w1 w.heap.size vv2 ps.length ps rfl HRD.out.own _ rfl hps HRD.out.be.size ?_; intro v2 w2 hown hb _ _; have H2 : Hid (SpAt w w2 sp s.data.toList v2 (k + 1) (k + 1) (ps ++ [(s.data.toList.drop fr).take (k - fr)])) := ⟨by rw [List.length_append, List.length_singleton]; exact hown, HRD.out.be.trans (hb w.heap.size (Nat.le_refl _) HRD.out.be.size), HN.out⟩; clear hown hb)
          go_roundw
          case rel => exact ⟨k + 1, k + 1, _, _, by omega, Nat.le_refl _, by go_num, by go_num, rfl, H2.out⟩
          case measure => simp [intOf]; omega
        · have e1 : ((s[k].toNat : Int) == (((⟨#[sp]⟩ : ByteArray)[0]'(Nat.zero_lt_one)).toNat : Int)) = false := by
            show ((s[k].toNat : Int) == (sp.toNat : Int)) = false
            have : ¬ (s[k].toNat : Int) = (sp.toNat : Int) := by omega
            simpa using this
          have HQ : Hid (s[k] ≠ sp) := fun e => hc (by rw [e])
          have HRD : Hid (∀ q, SpAt w (wr.drewN q) sp s.data.toList vv2 fr k ps) := fun q => HR2.out.drewN q
          clear hc
          go_upto_region 9 with (fail)
          go_quiet (fail)
          replace HRD := Lib.hid (HRD.out nq)
          generalize wr.drewN nq = w1 at *
          go_wp2
          go_roundw
          case rel => exact ⟨1, _, by omega, by go_num, rfl, rfl, rfl, HRD.out, fun _ => HQ.out⟩
          case measure => simp [intOf]

theorem str_eq {s : ByteArray} {l : List UInt8} (h : s.data.toList = l) : s = ⟨l.toArray⟩ := by
  apply ByteArray.ext
  apply Array.toList_inj.1
  rw [h]
theorem str_ne2 {l : List UInt8} {s : ByteArray} (h : ¬ s.data.toList = l) : (s.toList == l) = false := by
  have h2 := str_ne (l := l) (s := s) (fun e => h e.symm)
  rw [← h2, Bool.eq_iff_iff, beq_iff_eq, beq_iff_eq]
  exact ⟨Eq.symm, Eq.symm⟩
theorem own_neZ {w : World} {lo lo2 m n s s2 : Nat} {u v : Value} {xs vs : List Value} (h1 : w.ownsRow lo 9 s u m xs) (h2 : w.ownsRow lo2 3 s2 v n vs) : u.ownBlock = none ∨ u.ownBlock ≠ v.ownBlock := by
  cases hu : u.ownBlock with
  | none => exact .inl rfl
  | some g =>
    refine .inr fun hv => ?_
    rcases h1.2 with ⟨rfl, _⟩ | ⟨g1, _, cur1, rfl, _, e1, _⟩
    · cases hu
    · rcases h2.2 with ⟨rfl, _⟩ | ⟨g2, _, cur2, rfl, _, e2, _⟩
      · cases hv
      · simp only [Value.ownBlock, Option.some.injEq] at hu hv
        subst hu; subst hv
        rw [e1] at e2
        injection e2 with e2
        injection e2 with _ e2 _
        exact absurd e2 (by decide)
structure PnAt (w wr : World) (ws : List (List UInt8)) (vz v : Value) (R : List Int) : Prop where
  own : wr.ownsRow w.heap.size 3 1 v R.length (ints R)
  zs : wr.ownsRow w.heap.size 9 1 vz ws.length (strs ws)
  be : Below w.heap.size w wr
theorem PnAt.below {w wr w2 : World} {ws : List (List UInt8)} {vz v : Value} {R : List Int} (h : PnAt w wr ws vz v R) (hb : Below wr.heap.size wr w2) : PnAt w w2 ws vz v R :=
  ⟨ownZ_below h.own hb, ownZ_below h.zs hb, h.be.trans (hb.mono h.be.size)⟩
theorem PnAt.next {w wr w2 : World} {ws : List (List UInt8)} {vz v v2 : Value} {R R2 : List Int} (h : PnAt w wr ws vz v R) (ho : w2.ownsRow w.heap.size 3 1 v2 R2.length (ints R2)) (hb : Below w.heap.size wr w2) (hg : wr.grownBy w2 v.ownBlock) : PnAt w w2 ws vz v2 R2 :=
  ⟨ho, h.zs.kept hg (own_neZ h.zs h.own), h.be.trans hb⟩
/-- What is left of the words, behind the numbers so far. -/
theorem pnU_step {R : List Int} {ws : List (List UInt8)} {j : Nat} {x : List UInt8} (hx : ws[j]? = some x) : pnU R (ws.drop j) = match numOf x with
    | none => none
    | some n => if R.length = 40 then none else pnU (R ++ [n]) (ws.drop (j + 1)) := by
  obtain ⟨hj, rfl⟩ := List.getElem?_eq_some_iff.1 hx
  rw [List.drop_eq_getElem_cons hj, pnU]
  cases numOf ws[j] <;> rfl

set_option maxHeartbeats 4000000 in
set_option maxRecDepth 100000 in
theorem specParseNumbers_any (s : ByteArray) (w : World) (hs : s.size ≤ 1048576) :
    Calls Tryd.prog 4 #[.string s] w fun e w' => ∃ v', e = .returned (.tuple #[v', .bool (pnB s.data.toList)]) ∧ Fr w' w.heap.size w'.heap.size v' (pnF s.data.toList) ∧ Below w.heap.size w w' := by
  have H0 : Hid (w.heap.size < (w.alloc (.cells #[] 3)).heap.size ∧ (w.alloc (.cells #[] 3)).ownsRow w.heap.size 3 1 (.slice (some ⟨w.heap.size, 0, none⟩) 0 0) 0 (ints []) ∧ Below w.heap.size w (w.alloc (.cells #[] 3))) :=
    ⟨by simp, World.ownsRow_lit (base := w.heap.size) (e := 3) (size := 1) w #[] 0 (Nat.le_refl _) (by unfold maxLen; omega) rfl, (Below.refl _ w).alloc (Nat.le_refl _) _⟩
  by_cases h45 : s.data.toList = [45]
  · have hs2 := str_eq h45
    subst hs2
    have HO : Hid (pnB [45] = true ∧ pnF [45] = []) := ⟨rfl, rfl⟩
    go_enter Tryd.func4, Tryd.ntmps4
    go_wp2
    go_ret2
    exact ⟨_, by rw [HO.out.1]; rfl, by rw [HO.out.2]; exact Fr.of_own H0.out.2.1, H0.out.2.2⟩
  have e1 := str_ne2 h45
  have HP : Hid (pnO s.data.toList = pnU [] (cutB 44 s.data.toList)) := by show _ = _; unfold pnO cutC; rw [if_neg h45]
  have HF : Hid (∀ R, pnO s.data.toList = some R → pnB s.data.toList = true ∧ pnF s.data.toList = R) := fun R h => by unfold pnB pnF; rw [h]; exact ⟨rfl, rfl⟩
  have HN : Hid (pnO s.data.toList = none → pnB s.data.toList = false ∧ pnF s.data.toList = []) := fun h => by unfold pnB pnF; rw [h]; exact ⟨rfl, rfl⟩
  have hcl := cutB_length 44 s.data.toList
  have HW : Hid (∀ x ∈ cutB 44 s.data.toList, x.length ≤ 1048576) := fun x hx => by
    have := cutB_word 44 s.data.toList x hx
    have e : s.data.toList.length = s.size := by simp
    omega
  have hcl2 : (cutB 44 s.data.toList).length ≤ 1048577 := by
    have e : s.data.toList.length = s.size := by simp
    omega
  clear hcl h45
  obtain ⟨ws, hws⟩ : ∃ ws, cutB 44 s.data.toList = ws := ⟨_, rfl⟩
  have HSA : Hid (∀ W, Calls Tryd.prog 9 #[.string s, .string ⟨#[44]⟩] W fun e w' => ∃ v', e = .returned v' ∧ w'.ownsRow W.heap.size 9 1 v' ws.length (strs ws) ∧ Below W.heap.size W w') := fun W => by
    have h := specSplitAny_any s 44 W hs
    rwa [hws] at h
  rw [hws] at HP HW hcl2
  clear hws
  go_enter Tryd.func4, Tryd.ntmps4
  go_wp2_with fail
  refine (HSA.out _).mono ?_
  rintro e w1 ⟨vz, rfl, hz, hb⟩
  obtain ⟨Az, cz, rfl, hcz⟩ := ownZ_form hz
  have H1 : Hid (PnAt w w1 ws (.slice Az ws.length cz) (.slice (some ⟨w.heap.size, 0, none⟩) 0 0) []) := by
    have hsz := H0.out.1
    exact ⟨ownZ_below H0.out.2.1 hb, ⟨hz.1, by
      rcases hz.2 with h | ⟨g, cap, cur, h1, h2, h3⟩
      · exact .inl h
      · exact .inr ⟨g, cap, cur, h1, by omega, h3⟩⟩, H0.out.2.2.trans (hb.mono (Nat.le_of_lt hsz))⟩
  clear hz hb H0
  go_wp2
  go_loopw [4, 16] (fun o i wr => ∃ (j : Nat) (vv : Value) (R : List Int), j ≤ ws.length ∧ i = .int .i64 j ∧ vv = o ∧ Hid (pnO s.data.toList = pnU R (ws.drop j) ∧ R.length ≤ 40) ∧ Hid (PnAt w wr ws (.slice Az ws.length cz) vv R)) (fun _ i _ => ws.length - (intOf i).toNat)
  case atStart => exact ⟨0, _, [], Nat.zero_le _, rfl, rfl, ⟨HP.out, by simp⟩, H1.out⟩
  case round =>
    obtain ⟨j, vv, R, hj, rfl, rfl, HU, HR⟩ := hrel
    clear H1
    by_cases hlt : j < ws.length
    case neg =>
      obtain rfl : j = ws.length := by omega
      have HO := Lib.hid (HF.out R (by rw [HU.out.1, List.drop_length]; rfl))
      go_wp2
      go_ret2
      exact ⟨_, by rw [HO.out.1]; rfl, by rw [HO.out.2]; exact Fr.of_own HR.out.own, HR.out.be⟩
    obtain ⟨bk, off, u, rfl, hu, hcu, -⟩ := (SlV.of_own HR.out.zs).at_ (k := j) (by rw [strs_length]; exact hlt)
    obtain ⟨x, hx, rfl⟩ := strs_get hu
    have HX := Lib.hid (pnU_step (R := R) hx)
    have hxl := HW.out x (List.mem_of_getElem? hx)
    have hPI : Hid (∀ W, Calls Tryd.prog 10 #[.string ⟨x.toArray⟩] W fun e w' => e = .returned (.tuple #[.int .i64 ((numOf x).getD 0), .bool (numOf x).isSome]) ∧ Below W.heap.size W w') := fun W => by
      have h := specParseInt_any ⟨x.toArray⟩ W (by simpa [ByteArray.size] using hxl)
      exact h
    clear hu hx hxl
    cases hn : numOf x with
    | none =>
      have HO := Lib.hid (HN.out (by rw [HU.out.1, HX.out, hn]))
      rw [hn] at hPI
      clear hn
      go_wp2_with (go_at_call 10; refine (hPI.out _).mono ?_; rintro e w2 ⟨rfl, hb⟩; have H2 : Hid (Below w.heap.size w w2) := HR.out.be.trans (hb.mono HR.out.be.size); clear hb)
      go_ret2
      exact ⟨_, by rw [HO.out.1]; rfl, by rw [HO.out.2]; exact Fr.nil _ (Nat.le_refl _), H2.out⟩
    | some n =>
      rw [hn] at hPI
      by_cases h40 : R.length = 40
      · have HO := Lib.hid (HN.out (by rw [HU.out.1, HX.out, hn]; simp [h40]))
        obtain ⟨Av, cv, rfl, -⟩ := ownZ_form HR.out.own
        have h40' : ((R.length : Int) == 40) = true := by rw [h40]; rfl
        clear hn
        go_wp2_with (go_at_call 10; refine (hPI.out _).mono ?_; rintro e w2 ⟨rfl, hb⟩; have H2 : Hid (Below w.heap.size w w2) := HR.out.be.trans (hb.mono HR.out.be.size); clear hb)
        go_ret2
        exact ⟨_, by rw [HO.out.1]; rfl, by rw [HO.out.2]; exact Fr.nil _ (Nat.le_refl _), H2.out⟩
      · have HU2 : Hid (pnO s.data.toList = pnU (R ++ [n]) (ws.drop (j + 1)) ∧ (R ++ [n]).length ≤ 40) := by
          have h := HU.out.2
          refine ⟨?_, by rw [List.length_append, List.length_singleton]; omega⟩
          rw [HU.out.1, HX.out, hn]
          simp [h40]
        obtain ⟨Av, cv, rfl, -⟩ := ownZ_form HR.out.own
        have h40' : ((R.length : Int) == 40) = false := by
          have : ¬ (R.length : Int) = 40 := by omega
          simpa using this
        have hRl : R.length ≤ 1048576 := by have := HU.out.2; omega
        clear hn h40
        go_wp2_with (first
          | (go_at_call 10; refine (hPI.out _).mono ?_; rintro e w2 ⟨rfl, hb⟩; have H2 := Lib.hid (HR.out.below hb); clear hb)
          | (at_builtin; refine app1 rfl _ _ rfl w2 w.heap.size (.slice Av R.length cv) R.length R rfl H2.out.own n rfl hRl H2.out.be.size ?_; intro v3 w3 hown hb _ hg; have H3 : Hid (PnAt w w3 ws (.slice (some ⟨bk, off, none⟩) ws.length cz) v3 (R ++ [n])) := H2.out.next (by rw [List.length_append, List.length_singleton]; exact hown) (hb _ (Nat.le_refl _) H2.out.be.size) hg; clear hown hb hg))
        go_roundw
        case rel => exact ⟨j + 1, v3, R ++ [n], by omega, by go_num, rfl, HU2.out, H3.out⟩
        case measure => simp [intOf]; omega
end Go.Proofs.YtbhinnkjadfgcaaDoor
