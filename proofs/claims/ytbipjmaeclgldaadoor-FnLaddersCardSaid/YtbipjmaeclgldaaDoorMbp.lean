/- The laws' comparison of two rows. -/
import Derived.Test.YtbipjmaeclgldaaDoorStd
import Derived.Test.YtbipjmaeclgldaaDoorMau
import Derived.Test.YtbipjmaeclgldaaDoorDto
import Derived.Test.YtbipjmaeclgldaaDoorCq
import Derived.Test.YtbipjmaeclgldaaDoorMap
namespace Go.Proofs.YtbipjmaeclgldaaDoor
open Go.ChangeShapes Go.WideShapes Go.ChangeAt Go.RowKit

set_option maxHeartbeats 400000 in
theorem lawsSameB_any (v u : Value) (a b : List Int) (w : World) (hv : InI w v a) (hu : InI w u b) (hn : a.length ≤ 1048576) (hm : b.length ≤ 1048576) :
    Calls Tryd.prog 12 #[v, u] w fun e w' => e = .returned (.bool (a == b)) ∧ w = w' := by
  obtain ⟨A, c, rfl, _, _, hx⟩ := hv
  obtain ⟨B, d, rfl, _, _, hy⟩ := hu
  by_cases hne : a.length = b.length
  case neg =>
    have HR : Hid ((a == b) = false) := by
      show _ = _
      rw [beq_eq_false_iff_ne]; intro e; exact hne (by rw [e])
    have hle : ((a.length : Int) != (b.length : Int)) = true := by simp; omega
    clear hx hy
    go_enter Tryd.func12, Tryd.ntmps12
    go_wp2
    go_ret
    exact ⟨by rw [HR.out]; rfl, rfl⟩
  have HE := Lib.hid hne
  have hle : ((a.length : Int) != a.length) = false := by simp
  rw [← hne]
  generalize hl : a.length = n at *
  have HL := Lib.hid hl
  clear hl hne
  go_enter Tryd.func12, Tryd.ntmps12
  go_wp2
  go_loop [14] (fun i => ∃ j : Nat, j ≤ n ∧ i = .int .i64 j ∧ Hid (a.take j = b.take j)) (fun i => n - (intOf i).toNat)
  case atStart => exact ⟨0, Nat.zero_le _, rfl, by show _ = _; simp⟩
  case round =>
    obtain ⟨j, hj, rfl, HT⟩ := hrel
    by_cases hlt : j < n
    · obtain ⟨bk, off, x, rfl, hx1, hx2, _⟩ := hx.at_ (k := j) (by rw [HL.out]; exact hlt)
      obtain ⟨bk', off', y, rfl, hy1, hy2, _⟩ := hy.at_ (k := j) (by rw [← HE.out]; exact hlt)
      have HXY := Lib.hid (And.intro hx1 hy1)
      clear hx1 hy1 hx hy
      by_cases hxy : x = y
      · subst hxy
        have he : (x != x) = false := by simp
        have HT2 : Hid (a.take (j + 1) = b.take (j + 1)) := by
          show _ = _
          rw [take_snoc HXY.out.1, take_snoc HXY.out.2, HT.out]
        clear HT
        go_wp2
        go_round
        case rel => exact ⟨j + 1, by omega, by go_num, HT2⟩
        case measure => simp [intOf]; omega
      · have he : (x != y) = true := by simpa using hxy
        have HR : Hid ((a == b) = false) := by
          show _ = _
          rw [beq_eq_false_iff_ne]; intro e; subst e
          have h := HXY.out.1.symm.trans HXY.out.2
          injection h with h; exact hxy h
        clear hxy HT
        go_wp2
        go_ret
        exact ⟨by rw [HR.out]; rfl, rfl⟩
    · obtain rfl : j = n := by omega
      have HR : Hid ((a == b) = true) := by
        have h := HT.out
        rw [List.take_of_length_le (by rw [HL.out]; exact Nat.le_refl _), List.take_of_length_le (by rw [← HE.out]; exact Nat.le_refl _)] at h
        show _ = _
        rw [h]; simp
      clear HT
      go_wp2
      go_ret
      exact ⟨by rw [HR.out]; rfl, rfl⟩
end Go.Proofs.YtbipjmaeclgldaaDoor
namespace Go.Proofs.YtbipjmaeclgldaaDoor
open Go.ChangeShapes Go.WideShapes Go.ChangeAt Go.RowKit

theorem ladN_nm {R : List Int} {N : Nat} (h : Nm R N) (h1 : 1 ≤ N) (h8 : N ≤ 8) : LadN N R :=
  ⟨ladB_mk (by rw [h.len]; exact h1) (by rw [h.len]; exact h8) (fun x hx => by
    obtain ⟨i, hi⟩ := List.getElem?_of_mem hx
    rw [h.len]; exact h.rng i x hi) (by
    rw [List.nodup_iff_pairwise_ne, List.pairwise_iff_getElem]
    intro i j hi hj hij e
    have := h.inj i j R[j] (by rw [List.getElem?_eq_getElem hi, e]) (List.getElem?_eq_getElem hj)
    omega), h.len⟩
set_option maxHeartbeats 2000000 in
theorem makeOrder_any (v : Value) (n m N : Nat) (w : World) (hv : InB w v n) (hn : n ≤ 1048576) (hm : m ≤ 1048576) (h1 : 1 ≤ N) (h8 : N ≤ 8) :
    Calls Tryd.prog 10 #[v, .int .i64 (m : Int), .int .i64 (N : Int)] w fun e w' => ∃ (v' : Value) (R : List Int), e = .returned v' ∧ LadN N R ∧ InI w' v' R ∧ Below w.heap.size w w' := by
  have HV := Lib.hid hv
  clear hv
  have e1 : min (N : Int) 8 = (N : Int) := by omega
  have e2 : max 1 (N : Int) = (N : Int) := by omega
  go_enter Tryd.func10, Tryd.ntmps10
  go_wp2_with (first
    | (go_at_call 31; refine (l32New_any v n m w HV.out hn hm).mono ?_; rintro e w1 ⟨rfl, hc, hb⟩; have HC : Hid (Cur w1 w.heap.size v n ∧ Below w.heap.size w w1) := ⟨hc, hb⟩; clear hc hb)
    | (go_at_call 33; refine (l02Order_any w.heap.size v n N _ HC.out.1 hn h8).mono ?_; rintro e w2 ⟨v2, R, rfl, hN, hI, hc2, hk2⟩; have H2 : Hid (LadN N R ∧ InI w2 v2 R ∧ Below w.heap.size w w2) := ⟨ladN_nm hN h1 h8, hI, HC.out.2.trans (hk2.below (Nat.le_refl _) (Nat.le_of_lt HC.out.1.lt))⟩; clear hN hI hc2 hk2))
  go_ret
  exact ⟨_, R, rfl, H2.out⟩

set_option maxHeartbeats 400000 in
theorem implLadderDistance_std (va : Value) (a : List Int) (vb : Value) (b : List Int) (w : World) (ha : InI w va a) (hb : InI w vb b) (htwo : twoB a b = true) :
    Calls Tryd.prog 11 #[va, vb] w fun e w' => e = .returned (.int .i64 (dist a b : Nat)) ∧ w = w' := by
  obtain ⟨A, ca, rfl, ha1, ha2, has⟩ := ha
  obtain ⟨B, cb, rfl, hb1, hb2, hbs⟩ := hb
  obtain ⟨la, lb, hl⟩ := twoB_t htwo
  have h8 := (ladB_t la).1.2
  have LA := Lib.hid (implLadderOk_any A ca a w has (by omega) ha1)
  have LB := Lib.hid (implLadderOk_any B cb b w hbs (by omega) hb1)
  have LD := Lib.hid (ladderDistance_any A B ca cb a b w has h8 ha1 ha2 hbs (by omega))
  rw [la] at LA
  rw [lb] at LB
  rw [← hl] at LB LD ⊢
  have hle : ((a.length : Int) != a.length) = false := by simp
  clear has hbs la lb htwo hl
  generalize a.length = n at *
  go_enter Tryd.func11, Tryd.ntmps11
  go_wp2_with (first
    | (go_at_call 13; refine LA.out.mono ?_; rintro e w' ⟨rfl, rfl⟩; clear LA)
    | (go_at_call 13; refine LB.out.mono ?_; rintro e w' ⟨rfl, rfl⟩; clear LB)
    | (go_at_call 34; refine LD.out.mono ?_; rintro e w' ⟨rfl, rfl⟩))
  go_ret
  exact ⟨rfl, rfl⟩
end Go.Proofs.YtbipjmaeclgldaaDoor
