/- Goals of a league, the reference's points: contracts. -/
import Derived.Test.YthlkhmbndaecfaaPa
namespace Go.Proofs.Ythlkhmbndaecfaa
open Go.ChangeShapes Go.WideShapes Go.ChangeAt Go.RowKit

set_option maxHeartbeats 4000000 in
set_option maxRecDepth 100000 in
theorem implGoals_any (v : Value) (x : LeagueV) (c0 : Int) (w : World) (hs : InL w v x) (hok : leagueB x = true) :
    Calls Try.prog 29 #[v, .int .i64 c0] w fun e w' => e = .returned (.tuple #[.int .i64 (madeF c0 x.results), .int .i64 (lostF c0 x.results)]) ∧ Below w.heap.size w w' := by
  obtain ⟨_, _, l3, l4⟩ := leagueB_t hok
  obtain ⟨A, c, rfl, hc, hm, hs, hw⟩ := hs
  obtain ⟨cl, rs⟩ := x
  simp only at *
  have HS := Lib.hid hs
  have HA := Lib.hid l4
  clear hs hok l4
  unfold maxLen at hm
  generalize hl : rs.length = len at *
  have HL := Lib.hid hl
  clear hl
  have W1 : Hid (SlR (w.alloc (.cells #[.int .i64 cl, .slice A len c] 25)) A rs ∧ Below w.heap.size w (w.alloc (.cells #[.int .i64 cl, .slice A len c] 25))) := ⟨SlI.alloc HS.out _, (Below.refl _ w).alloc (Nat.le_refl _) _⟩
  go_enter Try.func29, Try.ntmps29
  go_wp2_with fail
  generalize w.alloc (.cells #[.int .i64 cl, .slice A len c] 25) = w1 at *
  go_loopw [6, 7, 15] (fun m l i wr => ∃ j : Nat, j ≤ len ∧ i = .int .i64 j ∧ m = .int .i64 (madeF c0 (rs.take j)) ∧ l = .int .i64 (lostF c0 (rs.take j)) ∧ Hid (Below w1.heap.size w1 wr)) (fun _ _ i _ => len - (intOf i).toNat)
  case atStart => exact ⟨0, Nat.zero_le _, rfl, rfl, rfl, Below.refl _ _⟩
  case round =>
    obtain ⟨j, hj, rfl, rfl, rfl, HR⟩ := hrel
    by_cases hlt : j < len
    case neg =>
      obtain rfl : j = len := by omega
      go_wp2
      go_ret2
      exact ⟨by rw [List.take_of_length_le (by rw [HL.out]; exact Nat.le_refl _)]; rfl, W1.out.2.trans (HR.out.mono W1.out.2.size)⟩
    obtain ⟨b, off, r, rfl, hr, q0, q1, q2, q3, _⟩ := SlR.at_ (SlR.below W1.out.1 HR.out) (k := j) (by rw [HL.out]; exact hlt)
    have hB := resB_goals (List.all_eq_true.1 HA.out r (List.mem_of_getElem? hr))
    have hm1 := made_cap (c := c0) (all_take HA.out j)
    have hm2 := lost_cap (c := c0) (all_take HA.out j)
    have hk : (rs.take j).length ≤ 60 := by rw [List.length_take]; have := HL.out; omega
    have hx1 := sum_take (f := ownG c0) hr
    have hx2 := sum_take (f := othG c0) hr
    obtain ⟨rh, ra, rg, rt⟩ := r
    simp only at *
    obtain ⟨a1, a2, a3, a4, a5, a6, a7, a8, a9⟩ := hB
    have HM1 : Hid (madeF c0 (rs.take (j + 1)) = madeF c0 (rs.take j) + ownG c0 ⟨rh, ra, rg, rt⟩) := hx1
    have HM2 : Hid (lostF c0 (rs.take (j + 1)) = lostF c0 (rs.take j) + othG c0 ⟨rh, ra, rg, rt⟩) := hx2
    clear hx1 hx2 hr
    have b1 : 0 ≤ madeF c0 (rs.take j) ∧ madeF c0 (rs.take j) ≤ 5940 := by omega
    have b2 : 0 ≤ lostF c0 (rs.take j) ∧ lostF c0 (rs.take j) ≤ 5940 := by omega
    generalize madeF c0 (rs.take j) = M at *
    generalize lostF c0 (rs.take j) = L at *
    obtain ⟨b11, b12⟩ := b1
    obtain ⟨b21, b22⟩ := b2
    clear hm1 hm2 hk
    by_cases e1 : rh = c0
    · have t1 : (rh == c0) = true := beq_iff_eq.2 e1
      have hG : ownG c0 ⟨rh, ra, rg, rt⟩ = rg ∧ othG c0 ⟨rh, ra, rg, rt⟩ = rt := ⟨by simp [ownG, e1], by simp [othG, e1]⟩
      rw [hG.1] at HM1
      rw [hG.2] at HM2
      clear hG
      have HG := goalsFor_any rh ra rg rt c0
      simp only [if_pos e1.symm] at HG
      have HGH := Lib.hid HG
      clear HG e1
      go_wp2_with (go_at_call 47; refine (HGH.out _).mono ?_; rintro e w2 ⟨rfl, hb⟩; have HB : Hid (Below w1.heap.size w1 w2) := (HR.out.alloc HR.out.size _).trans (hb.mono (by simp; have := HR.out.size; omega)); clear hb)
      go_roundw
      all_goals first | exact ⟨j + 1, by omega, by go_num, by rw [HM1.out], by rw [HM2.out], HB.out⟩ | (simp [intOf]; try omega)
    · have t1 : (rh == c0) = false := beq_eq_false_iff_ne.2 e1
      by_cases e2 : ra = c0
      · have t2 : (ra == c0) = true := beq_iff_eq.2 e2
        have hG : ownG c0 ⟨rh, ra, rg, rt⟩ = rt ∧ othG c0 ⟨rh, ra, rg, rt⟩ = rg := ⟨by simp [ownG, e1, e2], by simp [othG, e1, e2]⟩
        rw [hG.1] at HM1
        rw [hG.2] at HM2
        clear hG
        have HG := goalsFor_any rh ra rg rt c0
        simp only [if_neg (Ne.symm e1)] at HG
        have HGH := Lib.hid HG
        clear HG e1 e2
        go_wp2_with (go_at_call 47; refine (HGH.out _).mono ?_; rintro e w2 ⟨rfl, hb⟩; have HB : Hid (Below w1.heap.size w1 w2) := (HR.out.alloc HR.out.size _).trans (hb.mono (by simp; have := HR.out.size; omega)); clear hb)
        go_roundw
        all_goals first | exact ⟨j + 1, by omega, by go_num, by rw [HM1.out], by rw [HM2.out], HB.out⟩ | (simp [intOf]; try omega)
      · have t2 : (ra == c0) = false := beq_eq_false_iff_ne.2 e2
        have hG : ownG c0 ⟨rh, ra, rg, rt⟩ = 0 ∧ othG c0 ⟨rh, ra, rg, rt⟩ = 0 := ⟨by simp [ownG, e1, e2], by simp [othG, e1, e2]⟩
        rw [hG.1, Int.add_zero] at HM1
        rw [hG.2, Int.add_zero] at HM2
        clear hG e1 e2
        have HB : Hid (Below w1.heap.size w1 (wr.alloc (.cells #[.int .i64 rh, .int .i64 ra, .int .i64 rg, .int .i64 rt] 39))) := HR.out.alloc HR.out.size _
        go_wp2
        go_roundw
        all_goals first | exact ⟨j + 1, by omega, by go_num, by rw [HM1.out], by rw [HM2.out], HB.out⟩ | (simp [intOf]; try omega)
end Go.Proofs.Ythlkhmbndaecfaa
