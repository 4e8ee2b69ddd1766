/- The laws' comparison of two rows. -/
import Derived.Test.YthlkhmbndaecfaaStd
namespace Go.Proofs.Ythlkhmbndaecfaa
open Go.ChangeShapes Go.WideShapes Go.ChangeAt Go.RowKit

set_option maxHeartbeats 400000 in
theorem lawsSameB_any (v u : Value) (a b : List Int) (w : World) (hv : InI w v a) (hu : InI w u b) (hn : a.length ≤ 1048576) (hm : b.length ≤ 1048576) :
    Calls Try.prog 8 #[v, u] w fun e w' => e = .returned (.bool (a == b)) ∧ w = w' := by
  obtain ⟨A, c, rfl, _, _, hx⟩ := hv
  obtain ⟨B, d, rfl, _, _, hy⟩ := hu
  by_cases hne : a.length = b.length
  case neg =>
    have HR : Hid ((a == b) = false) := by
      show _ = _
      rw [beq_eq_false_iff_ne]; intro e; exact hne (by rw [e])
    have hle : ((a.length : Int) != (b.length : Int)) = true := by simp; omega
    clear hx hy
    go_enter Try.func8, Try.ntmps8
    go_wp2
    go_ret
    exact ⟨by rw [HR.out]; rfl, rfl⟩
  have HE := Lib.hid hne
  have hle : ((a.length : Int) != a.length) = false := by simp
  rw [← hne]
  generalize hl : a.length = n at *
  have HL := Lib.hid hl
  clear hl hne
  go_enter Try.func8, Try.ntmps8
  go_wp2
  go_loop [14] (fun i => ∃ j : Nat, j ≤ n ∧ i = .int .i64 j ∧ Hid (a.take j = b.take j)) (fun i => n - (intOf i).toNat)
  case atStart => exact ⟨0, Nat.zero_le _, rfl, by show _ = _; simp⟩
  case round =>
    obtain ⟨j, hj, rfl, HT⟩ := hrel
    by_cases hlt : j < n
    · obtain ⟨bk, off, x, rfl, hx1, hx2, _⟩ := hx.at_ (k := j) (by rw [HL.out]; exact hlt)
      obtain ⟨bk', off', y, rfl, hy1, hy2, _⟩ := hy.at_ (k := j) (by rw [← HE.out]; exact hlt)
      have HXY := Lib.hid (And.intro hx1 hy1)
      clear hx1 hy1 hx hy
      by_cases hxy : x = y
      · subst hxy
        have he : (x != x) = false := by simp
        have HT2 : Hid (a.take (j + 1) = b.take (j + 1)) := by
          show _ = _
          rw [take_snoc HXY.out.1, take_snoc HXY.out.2, HT.out]
        clear HT
        go_wp2
        go_round
        case rel => exact ⟨j + 1, by omega, by go_num, HT2⟩
        case measure => simp [intOf]; omega
      · have he : (x != y) = true := by simpa using hxy
        have HR : Hid ((a == b) = false) := by
          show _ = _
          rw [beq_eq_false_iff_ne]; intro e; subst e
          have h := HXY.out.1.symm.trans HXY.out.2
          injection h with h; exact hxy h
        clear hxy HT
        go_wp2
        go_ret
        exact ⟨by rw [HR.out]; rfl, rfl⟩
    · obtain rfl : j = n := by omega
      have HR : Hid ((a == b) = true) := by
        have h := HT.out
        rw [List.take_of_length_le (by rw [HL.out]; exact Nat.le_refl _), List.take_of_length_le (by rw [← HE.out]; exact Nat.le_refl _)] at h
        show _ = _
        rw [h]; simp
      clear HT
      go_wp2
      go_ret
      exact ⟨by rw [HR.out]; rfl, rfl⟩
end Go.Proofs.Ythlkhmbndaecfaa
