/- Comparing orders: the contracts that the law FnComparisons calls. -/
import Derived.Test.YtnjomfmmnkjhfaaFcn
import Derived.Test.YtnjomfmmnkjhfaaDto
import Derived.Test.YtnjomfmmnkjhfaaNext
import Derived.Test.YtnjomfmmnkjhfaaMdo
namespace Go.Proofs.Ytnjomfmmnkjhfaa
open Go.ChangeShapes Go.WideShapes Go.ChangeAt Go.RowKit

set_option maxHeartbeats 400000 in
theorem lawsSameB_any (v u : Value) (a b : List Int) (w : World) (hv : InI w v a) (hu : InI w u b) (hn : a.length ≤ 1048576) (hm : b.length ≤ 1048576) :
    Calls Try.prog 17 #[v, u] w fun e w' => e = .returned (.bool (a == b)) ∧ w = w' := by
  obtain ⟨A, c, rfl, _, _, hx⟩ := hv
  obtain ⟨B, d, rfl, _, _, hy⟩ := hu
  by_cases hne : a.length = b.length
  case neg =>
    have HR : Hid ((a == b) = false) := by
      show _ = _
      rw [beq_eq_false_iff_ne]; intro e; exact hne (by rw [e])
    have hle : ((a.length : Int) != (b.length : Int)) = true := by simp; omega
    clear hx hy
    go_enter Try.func17, Try.ntmps17
    go_wp2
    go_ret
    exact ⟨by rw [HR.out]; rfl, rfl⟩
  have HE := Lib.hid hne
  have hle : ((a.length : Int) != a.length) = false := by simp
  rw [← hne]
  generalize hl : a.length = n at *
  have HL := Lib.hid hl
  clear hl hne
  go_enter Try.func17, Try.ntmps17
  go_wp2
  go_loop [14] (fun i => ∃ j : Nat, j ≤ n ∧ i = .int .i64 j ∧ Hid (a.take j = b.take j)) (fun i => n - (intOf i).toNat)
  case atStart => exact ⟨0, Nat.zero_le _, rfl, by show _ = _; simp⟩
  case round =>
    obtain ⟨j, hj, rfl, HT⟩ := hrel
    by_cases hlt : j < n
    · obtain ⟨bk, off, x, rfl, hx1, hx2, _⟩ := hx.at_ (k := j) (by rw [HL.out]; exact hlt)
      obtain ⟨bk', off', y, rfl, hy1, hy2, _⟩ := hy.at_ (k := j) (by rw [← HE.out]; exact hlt)
      have HXY := Lib.hid (And.intro hx1 hy1)
      clear hx1 hy1 hx hy
      by_cases hxy : x = y
      · subst hxy
        have he : (x != x) = false := by simp
        have HT2 : Hid (a.take (j + 1) = b.take (j + 1)) := by
          show _ = _
          rw [take_snoc HXY.out.1, take_snoc HXY.out.2, HT.out]
        clear HT
        go_wp2
        go_round
        case rel => exact ⟨j + 1, by omega, by go_num, HT2⟩
        case measure => simp [intOf]; omega
      · have he : (x != y) = true := by simpa using hxy
        have HR : Hid ((a == b) = false) := by
          show _ = _
          rw [beq_eq_false_iff_ne]; intro e; subst e
          have h := HXY.out.1.symm.trans HXY.out.2
          injection h with h; exact hxy h
        clear hxy HT
        go_wp2
        go_ret
        exact ⟨by rw [HR.out]; rfl, rfl⟩
    · obtain rfl : j = n := by omega
      have HR : Hid ((a == b) = true) := by
        have h := HT.out
        rw [List.take_of_length_le (by rw [HL.out]; exact Nat.le_refl _), List.take_of_length_le (by rw [← HE.out]; exact Nat.le_refl _)] at h
        show _ = _
        rw [h]; simp
      clear HT
      go_wp2
      go_ret
      exact ⟨by rw [HR.out]; rfl, rfl⟩

set_option maxHeartbeats 400000 in
theorem lawsBefore_any (v u : Value) (a b : List Int) (w : World) (hv : InI w v a) (hu : InI w u b) (hn : a.length ≤ 1048576) (hne : a.length = b.length) :
    Calls Try.prog 25 #[v, u] w fun e w' => e = .returned (.bool (beforeF a b)) ∧ w = w' := by
  obtain ⟨A, c, rfl, _, _, hx⟩ := hv
  obtain ⟨B, d, rfl, _, _, hy⟩ := hu
  have HE := Lib.hid hne
  rw [← hne]
  generalize hl : a.length = n at *
  have HL := Lib.hid hl
  clear hl hne
  go_enter Try.func25, Try.ntmps25
  go_wp2
  go_loop [9] (fun i => ∃ j : Nat, j ≤ n ∧ i = .int .i64 j ∧ Hid (beforeF a b = beforeF (a.drop j) (b.drop j))) (fun i => n - (intOf i).toNat)
  case atStart => exact ⟨0, Nat.zero_le _, rfl, by show _ = _; simp⟩
  case round =>
    obtain ⟨j, hj, rfl, HT⟩ := hrel
    by_cases hlt : j < n
    · obtain ⟨bk, off, x, rfl, hx1, hx2, _⟩ := hx.at_ (k := j) (by rw [HL.out]; exact hlt)
      obtain ⟨bk', off', y, rfl, hy1, hy2, _⟩ := hy.at_ (k := j) (by rw [← HE.out]; exact hlt)
      have e1 : a.drop j = x :: a.drop (j + 1) := by
        have := List.getElem?_eq_some_iff.1 hx1
        rw [← this.2, List.getElem_cons_drop]
      have e2 : b.drop j = y :: b.drop (j + 1) := by
        have := List.getElem?_eq_some_iff.1 hy1
        rw [← this.2, List.getElem_cons_drop]
      have HT2 : Hid (beforeF a b = if x = y then beforeF (a.drop (j + 1)) (b.drop (j + 1)) else decide (x < y)) := by
        have h := HT.out
        rw [e1, e2, beforeF] at h; exact h
      clear hx1 hy1 hx hy HT e1 e2
      by_cases hxy : x = y
      · subst hxy
        have he : (x != x) = false := by simp
        have HT3 : Hid (beforeF a b = beforeF (a.drop (j + 1)) (b.drop (j + 1))) := by
          have h := HT2.out
          rw [if_pos rfl] at h; exact h
        clear HT2
        go_wp2
        go_round
        case rel => exact ⟨j + 1, by omega, by go_num, HT3⟩
        case measure => simp [intOf]; omega
      · have he : (x != y) = true := by simpa using hxy
        have HR : Hid (beforeF a b = decide (x < y)) := by
          have h := HT2.out
          rw [if_neg hxy] at h; exact h
        clear hxy HT2
        go_wp2
        go_ret
        exact ⟨by rw [HR.out]; rfl, rfl⟩
    · obtain rfl : j = n := by omega
      have HR : Hid (beforeF a b = false) := by
        have h := HT.out
        rw [List.drop_of_length_le (by rw [HL.out]; exact Nat.le_refl _), beforeF] at h; exact h
      clear HT
      go_wp2
      go_ret
      exact ⟨by rw [HR.out]; rfl, rfl⟩

set_option maxHeartbeats 400000 in
theorem lawsStairs_any (n : Nat) (w : World) (hn : n ≤ 1048576) :
    Calls Try.prog 20 #[.int .i64 (n : Int)] w fun e w' => ∃ v', e = .returned v' ∧ Fr w' w.heap.size w'.heap.size v' (upto n) ∧ Below w.heap.size w w' := by
  have H0 : Hid (Fr (w.alloc (.cells #[] 3)) w.heap.size (w.alloc (.cells #[] 3)).heap.size (.slice (some ⟨w.heap.size, 0, none⟩) 0 0) ((upto n).take 0) ∧ Below w.heap.size w (w.alloc (.cells #[] 3))) :=
    ⟨Fr.of_own (xs := []) (World.ownsRow_lit (base := w.heap.size) (e := 3) (size := 1) w #[] 0 (Nat.le_refl _) (by unfold maxLen; omega) rfl), (Below.refl _ w).alloc (Nat.le_refl _) _⟩
  go_enter Try.func20, Try.ntmps20
  go_wp2
  go_loopw [3, 4] (fun v i wr => ∃ (j : Nat) (vv : Value), j ≤ n ∧ i = .int .i64 j ∧ vv = v ∧ Hid (Fr wr w.heap.size wr.heap.size vv ((upto n).take j) ∧ Below w.heap.size w wr)) (fun _ i _ => n - (intOf i).toNat)
  case atStart => exact ⟨0, _, Nat.zero_le _, rfl, rfl, H0.out⟩
  case round =>
    obtain ⟨j, vv, hj, rfl, rfl, HR⟩ := hrel
    clear H0
    by_cases hlt : j < n
    · have HLJ : Hid (((upto n).take j).length = j) := by show _ = _; simp [upto_length]; omega
      have HJ : Hid (j ≤ 1048576) := by show _ ≤ _; omega
      go_wp2_with (at_builtin; refine app1 rfl _ _ rfl wr w.heap.size vv j ((upto n).take j) rfl (by have h := HR.out.1.own; rw [HLJ.out] at h; exact h) (j : Int) rfl HJ.out HR.out.2.size ?_; intro v5 w5 hown5 hb5 hl5 hg5; have H5 : Hid (Fr w5 w.heap.size w5.heap.size v5 ((upto n).take (j + 1)) ∧ Below w.heap.size w w5) := (by rw [take_snoc (upto_get hlt)]; exact ⟨Fr.of_own (by rw [List.length_append, HLJ.out]; exact hown5), HR.out.2.trans (hb5 _ (Nat.le_refl _) HR.out.2.size)⟩); clear hown5 hb5 hl5 hg5)
      go_roundw
      case rel => exact ⟨j + 1, _, by omega, by go_num, rfl, H5.out⟩
      case measure => simp [intOf]; omega
    · obtain rfl : j = n := by omega
      have HX : Hid (Fr wr w.heap.size wr.heap.size vv (upto j) ∧ Below w.heap.size w wr) := by
        have h := HR.out
        rw [List.take_of_length_le (by rw [upto_length]; omega)] at h; exact h
      clear HR
      go_wp2
      go_ret
      exact ⟨_, rfl, HX.out.1, HX.out.2⟩

set_option maxHeartbeats 400000 in
theorem implLadderDistance_std (va : Value) (a : List Int) (vb : Value) (b : List Int) (w : World) (ha : InI w va a) (hb : InI w vb b) (htwo : twoB a b = true) :
    Calls Try.prog 13 #[va, vb] w fun e w' => e = .returned (.int .i64 (dist a b : Nat)) ∧ w = w' := by
  obtain ⟨A, ca, rfl, ha1, ha2, has⟩ := ha
  obtain ⟨B, cb, rfl, hb1, hb2, hbs⟩ := hb
  obtain ⟨la, lb, hl⟩ := twoB_t htwo
  have h8 := (ladB_t la).1.2
  have LA := Lib.hid (implLadderOk_any A ca a w has (by omega) ha1)
  have LB := Lib.hid (implLadderOk_any B cb b w hbs (by omega) hb1)
  have LD := Lib.hid (ladderDistance_any A B ca cb a b w has h8 ha1 ha2 hbs (by omega))
  rw [la] at LA
  rw [lb] at LB
  rw [← hl] at LB LD ⊢
  have hle : ((a.length : Int) != a.length) = false := by simp
  clear has hbs la lb htwo hl
  generalize a.length = n at *
  go_enter Try.func13, Try.ntmps13
  go_wp2_with (first
    | (go_at_call 24; refine LA.out.mono ?_; rintro e w' ⟨rfl, rfl⟩; clear LA)
    | (go_at_call 24; refine LB.out.mono ?_; rintro e w' ⟨rfl, rfl⟩; clear LB)
    | (go_at_call 32; refine LD.out.mono ?_; rintro e w' ⟨rfl, rfl⟩))
  go_ret
  exact ⟨rfl, rfl⟩

theorem ladN_nm {R : List Int} {N : Nat} (h : Nm R N) (h1 : 1 ≤ N) (h8 : N ≤ 8) : LadN N R :=
  ⟨ladB_mk (by rw [h.len]; exact h1) (by rw [h.len]; exact h8) (fun x hx => by
    obtain ⟨i, hi⟩ := List.getElem?_of_mem hx
    rw [h.len]; exact h.rng i x hi) (by
    rw [List.nodup_iff_pairwise_ne, List.pairwise_iff_getElem]
    intro i j hi hj hij e
    have := h.inj i j R[j] (by rw [List.getElem?_eq_getElem hi, e]) (List.getElem?_eq_getElem hj)
    omega), h.len⟩
set_option maxHeartbeats 2000000 in
theorem makeOrder_any (v : Value) (n m N : Nat) (w : World) (hv : InB w v n) (hn : n ≤ 1048576) (hm : m ≤ 1048576) (h1 : 1 ≤ N) (h8 : N ≤ 8) :
    Calls Try.prog 12 #[v, .int .i64 (m : Int), .int .i64 (N : Int)] w fun e w' => ∃ (v' : Value) (R : List Int), e = .returned v' ∧ LadN N R ∧ InI w' v' R ∧ Below w.heap.size w w' := by
  have HV := Lib.hid hv
  clear hv
  have e1 : min (N : Int) 8 = (N : Int) := by omega
  have e2 : max 1 (N : Int) = (N : Int) := by omega
  go_enter Try.func12, Try.ntmps12
  go_wp2_with (first
    | (go_at_call 34; refine (l32New_any v n m w HV.out hn hm).mono ?_; rintro e w1 ⟨rfl, hc, hb⟩; have HC : Hid (Cur w1 w.heap.size v n ∧ Below w.heap.size w w1) := ⟨hc, hb⟩; clear hc hb)
    | (go_at_call 36; refine (l02Order_any w.heap.size v n N _ HC.out.1 hn h8).mono ?_; rintro e w2 ⟨v2, R, rfl, hN, hI, hc2, hk2⟩; have H2 : Hid (LadN N R ∧ InI w2 v2 R ∧ Below w.heap.size w w2) := ⟨ladN_nm hN h1 h8, hI, HC.out.2.trans (hk2.below (Nat.le_refl _) (Nat.le_of_lt HC.out.1.lt))⟩; clear hN hI hc2 hk2))
  go_ret
  exact ⟨_, R, rfl, H2.out⟩
end Go.Proofs.Ytnjomfmmnkjhfaa
