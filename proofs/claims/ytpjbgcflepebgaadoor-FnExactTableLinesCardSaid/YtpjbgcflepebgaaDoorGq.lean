/- Goals of a league, the reference's points: contracts. -/
import Derived.Test.YtpjbgcflepebgaaDoorPa
namespace Go.Proofs.YtpjbgcflepebgaaDoor
open Go.ChangeShapes Go.WideShapes Go.ChangeAt Go.RowKit

set_option maxHeartbeats 4000000 in
set_option maxRecDepth 100000 in
theorem implGoals_any (v : Value) (x : LeagueV) (c0 : Int) (w : World) (hs : InL w v x) (hok : leagueB x = true) :
    Calls Tryd.prog 40 #[v, .int .i64 c0] w fun e w' => e = .returned (.tuple #[.int .i64 (madeF c0 x.results), .int .i64 (lostF c0 x.results)]) ∧ Below w.heap.size w w' := by
  obtain ⟨_, _, l3, l4⟩ := leagueB_t hok
  obtain ⟨A, c, rfl, hc, hm, hs, hw⟩ := hs
  obtain ⟨cl, rs⟩ := x
  simp only at *
  have HS := Lib.hid hs
  have HA := Lib.hid l4
  clear hs hok l4
  unfold maxLen at hm
  generalize hl : rs.length = len at *
  have HL := Lib.hid hl
  clear hl
  have W1 : Hid (SlR (w.alloc (.cells #[.int .i64 cl, .slice A len c] 30)) A rs ∧ Below w.heap.size w (w.alloc (.cells #[.int .i64 cl, .slice A len c] 30))) := ⟨SlI.alloc HS.out _, (Below.refl _ w).alloc (Nat.le_refl _) _⟩
  go_enter Tryd.func40, Tryd.ntmps40
  go_wp2_with fail
  generalize w.alloc (.cells #[.int .i64 cl, .slice A len c] 30) = w1 at *
  go_loopw [6, 7, 15] (fun m l i wr => ∃ j : Nat, j ≤ len ∧ i = .int .i64 j ∧ m = .int .i64 (madeF c0 (rs.take j)) ∧ l = .int .i64 (lostF c0 (rs.take j)) ∧ Hid (Below w1.heap.size w1 wr)) (fun _ _ i _ => len - (intOf i).toNat)
  case atStart => exact ⟨0, Nat.zero_le _, rfl, rfl, rfl, Below.refl _ _⟩
  case round =>
    obtain ⟨j, hj, rfl, rfl, rfl, HR⟩ := hrel
    by_cases hlt : j < len
    case neg =>
      obtain rfl : j = len := by omega
      go_wp2
      go_ret2
      exact ⟨by rw [List.take_of_length_le (by rw [HL.out]; exact Nat.le_refl _)]; rfl, W1.out.2.trans (HR.out.mono W1.out.2.size)⟩
    obtain ⟨b, off, r, rfl, hr, q0, q1, q2, q3, _⟩ := SlR.at_ (SlR.below W1.out.1 HR.out) (k := j) (by rw [HL.out]; exact hlt)
    have hB := resB_goals (List.all_eq_true.1 HA.out r (List.mem_of_getElem? hr))
    have hm1 := made_cap (c := c0) (all_take HA.out j)
    have hm2 := lost_cap (c := c0) (all_take HA.out j)
    have hk : (rs.take j).length ≤ 60 := by rw [List.length_take]; have := HL.out; omega
    have hx1 := sum_take (f := ownG c0) hr
    have hx2 := sum_take (f := othG c0) hr
    obtain ⟨rh, ra, rg, rt⟩ := r
    simp only at *
    obtain ⟨a1, a2, a3, a4, a5, a6, a7, a8, a9⟩ := hB
    have HM1 : Hid (madeF c0 (rs.take (j + 1)) = madeF c0 (rs.take j) + ownG c0 ⟨rh, ra, rg, rt⟩) := hx1
    have HM2 : Hid (lostF c0 (rs.take (j + 1)) = lostF c0 (rs.take j) + othG c0 ⟨rh, ra, rg, rt⟩) := hx2
    clear hx1 hx2 hr
    have b1 : 0 ≤ madeF c0 (rs.take j) ∧ madeF c0 (rs.take j) ≤ 5940 := by omega
    have b2 : 0 ≤ lostF c0 (rs.take j) ∧ lostF c0 (rs.take j) ≤ 5940 := by omega
    generalize madeF c0 (rs.take j) = M at *
    generalize lostF c0 (rs.take j) = L at *
    obtain ⟨b11, b12⟩ := b1
    obtain ⟨b21, b22⟩ := b2
    clear hm1 hm2 hk
    by_cases e1 : rh = c0
    · have t1 : (rh == c0) = true := beq_iff_eq.2 e1
      have hG : ownG c0 ⟨rh, ra, rg, rt⟩ = rg ∧ othG c0 ⟨rh, ra, rg, rt⟩ = rt := ⟨by simp [ownG, e1], by simp [othG, e1]⟩
      rw [hG.1] at HM1
      rw [hG.2] at HM2
      clear hG
      have HG := goalsFor_any rh ra rg rt c0
      simp only [if_pos e1.symm] at HG
      have HGH := Lib.hid HG
      clear HG e1
      go_wp2_with (go_at_call 52; refine (HGH.out _).mono ?_; rintro e w2 ⟨rfl, hb⟩; have HB : Hid (Below w1.heap.size w1 w2) := (HR.out.alloc HR.out.size _).trans (hb.mono (by simp; have := HR.out.size; omega)); clear hb)
      go_roundw
      all_goals first | exact ⟨j + 1, by omega, by go_num, by rw [HM1.out], by rw [HM2.out], HB.out⟩ | (simp [intOf]; try omega)
    · have t1 : (rh == c0) = false := beq_eq_false_iff_ne.2 e1
      by_cases e2 : ra = c0
      · have t2 : (ra == c0) = true := beq_iff_eq.2 e2
        have hG : ownG c0 ⟨rh, ra, rg, rt⟩ = rt ∧ othG c0 ⟨rh, ra, rg, rt⟩ = rg := ⟨by simp [ownG, e1, e2], by simp [othG, e1, e2]⟩
        rw [hG.1] at HM1
        rw [hG.2] at HM2
        clear hG
        have HG := goalsFor_any rh ra rg rt c0
        simp only [if_neg (Ne.symm e1)] at HG
        have HGH := Lib.hid HG
        clear HG e1 e2
        go_wp2_with (go_at_call 52; refine (HGH.out _).mono ?_; rintro e w2 ⟨rfl, hb⟩; have HB : Hid (Below w1.heap.size w1 w2) := (HR.out.alloc HR.out.size _).trans (hb.mono (by simp; have := HR.out.size; omega)); clear hb)
        go_roundw
        all_goals first | exact ⟨j + 1, by omega, by go_num, by rw [HM1.out], by rw [HM2.out], HB.out⟩ | (simp [intOf]; try omega)
      · have t2 : (ra == c0) = false := beq_eq_false_iff_ne.2 e2
        have hG : ownG c0 ⟨rh, ra, rg, rt⟩ = 0 ∧ othG c0 ⟨rh, ra, rg, rt⟩ = 0 := ⟨by simp [ownG, e1, e2], by simp [othG, e1, e2]⟩
        rw [hG.1, Int.add_zero] at HM1
        rw [hG.2, Int.add_zero] at HM2
        clear hG e1 e2
        have HB : Hid (Below w1.heap.size w1 (wr.alloc (.cells #[.int .i64 rh, .int .i64 ra, .int .i64 rg, .int .i64 rt] 52))) := HR.out.alloc HR.out.size _
        go_wp2
        go_roundw
        all_goals first | exact ⟨j + 1, by omega, by go_num, by rw [HM1.out], by rw [HM2.out], HB.out⟩ | (simp [intOf]; try omega)

set_option maxHeartbeats 4000000 in
set_option maxRecDepth 100000 in
theorem l12Goals_any (v : Value) (x : LeagueV) (c0 : Int) (w : World) (hs : InL w v x) (hok : leagueB x = true) :
    Calls Tryd.prog 18 #[v, .int .i64 c0] w fun e w' => e = .returned (.tuple #[.int .i64 (madeF c0 x.results), .int .i64 (lostF c0 x.results)]) ∧ Below w.heap.size w w' := by
  obtain ⟨_, _, l3, l4⟩ := leagueB_t hok
  obtain ⟨A, c, rfl, hc, hm, hs, hw⟩ := hs
  obtain ⟨cl, rs⟩ := x
  simp only at *
  have HS := Lib.hid hs
  have HA := Lib.hid l4
  clear hs hok l4
  unfold maxLen at hm
  generalize hl : rs.length = len at *
  have HL := Lib.hid hl
  clear hl
  have W1 : Hid (SlR (w.alloc (.cells #[.int .i64 cl, .slice A len c] 30)) A rs ∧ Below w.heap.size w (w.alloc (.cells #[.int .i64 cl, .slice A len c] 30))) := ⟨SlI.alloc HS.out _, (Below.refl _ w).alloc (Nat.le_refl _) _⟩
  go_enter Tryd.func18, Tryd.ntmps18
  go_wp2_with fail
  generalize w.alloc (.cells #[.int .i64 cl, .slice A len c] 30) = w1 at *
  go_loopw [6, 7, 13] (fun m l i wr => ∃ j : Nat, j ≤ len ∧ i = .int .i64 j ∧ m = .int .i64 (madeF c0 (rs.take j)) ∧ l = .int .i64 (lostF c0 (rs.take j)) ∧ Hid (Below w1.heap.size w1 wr)) (fun _ _ i _ => len - (intOf i).toNat)
  case atStart => exact ⟨0, Nat.zero_le _, rfl, rfl, rfl, Below.refl _ _⟩
  case round =>
    obtain ⟨j, hj, rfl, rfl, rfl, HR⟩ := hrel
    by_cases hlt : j < len
    case neg =>
      obtain rfl : j = len := by omega
      go_wp2
      go_ret2
      exact ⟨by rw [List.take_of_length_le (by rw [HL.out]; exact Nat.le_refl _)]; rfl, W1.out.2.trans (HR.out.mono W1.out.2.size)⟩
    obtain ⟨b, off, r, rfl, hr, q0, q1, q2, q3, _⟩ := SlR.at_ (SlR.below W1.out.1 HR.out) (k := j) (by rw [HL.out]; exact hlt)
    have hB := resB_goals (List.all_eq_true.1 HA.out r (List.mem_of_getElem? hr))
    have hm1 := made_cap (c := c0) (all_take HA.out j)
    have hm2 := lost_cap (c := c0) (all_take HA.out j)
    have hk : (rs.take j).length ≤ 60 := by rw [List.length_take]; have := HL.out; omega
    have hx1 := sum_take (f := ownG c0) hr
    have hx2 := sum_take (f := othG c0) hr
    obtain ⟨rh, ra, rg, rt⟩ := r
    simp only at *
    obtain ⟨a1, a2, a3, a4, a5, a6, a7, a8, a9⟩ := hB
    have HM1 : Hid (madeF c0 (rs.take (j + 1)) = madeF c0 (rs.take j) + ownG c0 ⟨rh, ra, rg, rt⟩) := hx1
    have HM2 : Hid (lostF c0 (rs.take (j + 1)) = lostF c0 (rs.take j) + othG c0 ⟨rh, ra, rg, rt⟩) := hx2
    clear hx1 hx2 hr
    have b1 : 0 ≤ madeF c0 (rs.take j) ∧ madeF c0 (rs.take j) ≤ 5940 := by omega
    have b2 : 0 ≤ lostF c0 (rs.take j) ∧ lostF c0 (rs.take j) ≤ 5940 := by omega
    generalize madeF c0 (rs.take j) = M at *
    generalize lostF c0 (rs.take j) = L at *
    obtain ⟨b11, b12⟩ := b1
    obtain ⟨b21, b22⟩ := b2
    clear hm1 hm2 hk
    have HB : Hid (Below w1.heap.size w1 (wr.alloc (.cells #[.int .i64 rh, .int .i64 ra, .int .i64 rg, .int .i64 rt] 52))) := HR.out.alloc HR.out.size _
    by_cases e1 : rh = c0
    · have t1 : (rh == c0) = true := beq_iff_eq.2 e1
      have t2 : (ra == c0) = false := beq_eq_false_iff_ne.2 (fun h => a5 (e1.trans h.symm))
      have hG : ownG c0 ⟨rh, ra, rg, rt⟩ = rg ∧ othG c0 ⟨rh, ra, rg, rt⟩ = rt := ⟨by simp [ownG, e1], by simp [othG, e1]⟩
      rw [hG.1] at HM1
      rw [hG.2] at HM2
      clear hG e1 a5
      go_wp2
      go_roundw
      all_goals first | exact ⟨j + 1, by omega, by go_num, by rw [HM1.out], by rw [HM2.out], HB.out⟩ | (simp [intOf]; try omega)
    · have t1 : (rh == c0) = false := beq_eq_false_iff_ne.2 e1
      by_cases e2 : ra = c0
      · have t2 : (ra == c0) = true := beq_iff_eq.2 e2
        have hG : ownG c0 ⟨rh, ra, rg, rt⟩ = rt ∧ othG c0 ⟨rh, ra, rg, rt⟩ = rg := ⟨by simp [ownG, e1, e2], by simp [othG, e1, e2]⟩
        rw [hG.1] at HM1
        rw [hG.2] at HM2
        clear hG e1 e2 a5
        go_wp2
        go_roundw
        all_goals first | exact ⟨j + 1, by omega, by go_num, by rw [HM1.out], by rw [HM2.out], HB.out⟩ | (simp [intOf]; try omega)
      · have t2 : (ra == c0) = false := beq_eq_false_iff_ne.2 e2
        have hG : ownG c0 ⟨rh, ra, rg, rt⟩ = 0 ∧ othG c0 ⟨rh, ra, rg, rt⟩ = 0 := ⟨by simp [ownG, e1, e2], by simp [othG, e1, e2]⟩
        rw [hG.1, Int.add_zero] at HM1
        rw [hG.2, Int.add_zero] at HM2
        clear hG e1 e2 a5
        go_wp2
        go_roundw
        all_goals first | exact ⟨j + 1, by omega, by go_num, by rw [HM1.out], by rw [HM2.out], HB.out⟩ | (simp [intOf]; try omega)

set_option maxHeartbeats 4000000 in
set_option maxRecDepth 100000 in
theorem l12All_any (v : Value) (x : LeagueV) (w : World) (hs : InL w v x) (hok : leagueB x = true) :
    Calls Tryd.prog 15 #[v] w fun e w' => ∃ v', e = .returned v' ∧ Fr w' w.heap.size w'.heap.size v' (ptsF x.clubs.toNat x.results) ∧ Below w.heap.size w w' := by
  obtain ⟨l1, l2, l3, l4⟩ := leagueB_t hok
  obtain ⟨A, c, rfl, hc, hm, hs, hw⟩ := hs
  obtain ⟨cl, rs⟩ := x
  simp only at *
  obtain ⟨n, rfl⟩ := Int.eq_ofNat_of_zero_le (show 0 ≤ cl by omega)
  rw [Int.toNat_natCast]
  have HS := Lib.hid hs
  have HA := Lib.hid l4
  clear hs hok l4
  unfold maxLen at hm
  have hn2 : n ≤ 8 := by omega
  generalize hl : rs.length = len at *
  have HL := Lib.hid hl
  clear hl
  have hB0 : Hid (Below w.heap.size w (w.alloc (.cells #[.int .i64 (n : Int), .slice A len c] 30))) := (Below.refl _ w).alloc (Nat.le_refl _) _
  go_enter Tryd.func15, Tryd.ntmps15
  go_wp2_with (at_make; refine makeI rfl _ _ rfl (w.alloc (.cells #[.int .i64 (n : Int), .slice A len c] 30)) n rfl rfl (by omega) ?_; intro w1 hfr hb hsz; have q1 : w1.cell? ⟨w.heap.size, 1, none⟩ = some (.slice A len c) := (by rw [hb.cell (p := ⟨w.heap.size, 1, none⟩) (by simp)]; simp); rw [World.size_alloc] at hfr)
  have HF : Hid (Fr w1 w.heap.size w1.heap.size (.slice (some ⟨w.heap.size + 1, 0, none⟩) n n) (ptsF n (rs.take 0))) := hfr.wide (by omega) (Nat.le_refl _) (Nat.le_refl _)
  have HB : Hid (Below w.heap.size w w1) := hB0.out.trans (hb.mono (by simp))
  clear hfr hb hsz q1 hB0
  go_loopw [14] (fun i wr => ∃ j : Nat, j ≤ len ∧ i = .int .i64 j ∧ Hid (Fr wr w.heap.size wr.heap.size (.slice (some ⟨w.heap.size + 1, 0, none⟩) n n) (ptsF n (rs.take j)) ∧ Below w.heap.size w wr)) (fun i _ => len - (intOf i).toNat)
  case atStart => exact ⟨0, Nat.zero_le _, rfl, HF.out, HB.out⟩
  case round =>
    obtain ⟨j, hj, rfl, HR⟩ := hrel
    clear HF HB
    by_cases hlt : j < len
    case neg =>
      obtain rfl : j = len := by omega
      go_wp2
      go_ret
      have h := HR.out.1
      rw [List.take_of_length_le (by rw [HL.out]; exact Nat.le_refl _)] at h
      exact ⟨_, rfl, h, HR.out.2⟩
    obtain ⟨b, off, r, rfl, hr, c0, c1, c2, c3, _⟩ := SlR.at_ (SlR.below HS.out HR.out.2) (k := j) (by rw [HL.out]; exact hlt)
    have hB := resB_goals (List.all_eq_true.1 HA.out r (List.mem_of_getElem? hr))
    have HX := Lib.hid hr
    clear hr
    obtain ⟨rh, ra, rg, rt⟩ := r
    simp only at *
    obtain ⟨a1, a2, a3, a4, a5, a6, a7, a8, a9⟩ := hB
    obtain ⟨h, rfl⟩ := Int.eq_ofNat_of_zero_le a1
    obtain ⟨a, rfl⟩ := Int.eq_ofNat_of_zero_le a3
    have hh : h < (ptsF n (rs.take j)).length := by rw [ptsF_length]; omega
    have HH := Lib.hid hh
    clear hh
    obtain ⟨p1, p2⟩ := ptsOf_le rg rt
    obtain ⟨p3, p4⟩ := ptsOf_le rt rg
    have HD : Hid (PtAt w (wr.alloc (.cells #[.int .i64 (h : Int), .int .i64 (a : Int), .int .i64 rg, .int .i64 rt] 52)) wr.heap.size (w.heap.size + 1) n ⟨h, a, rg, rt⟩ (ptsF n (rs.take j))) := ptAt_new (r := ⟨(h : Int), (a : Int), rg, rt⟩) HR.out.1 HR.out.2
    go_wp2_with (go_at_call 31; refine (l12Points_any _ _ _ _ _).mono ?_; rintro e w3 ⟨rfl, hb⟩; have HD2 := Lib.hid (HD.out.below hb); clear hb)
    clear c0 c1 c2 c3 HR HD
    generalize wr.heap.size = p at *
    obtain ⟨y, ey, _, cy, fy⟩ := HD2.out.get HH.out
    obtain ⟨y1, y2⟩ := pt_caps (by rw [HL.out]; exact l3) ey
    have D := HD2.out
    have wp1 : w.heap.size + 1 < p := by have := D.fr.2.1 _ rfl; exact this
    have hlt2 : (h : Int) < (n : Int) := by omega
    have EQ : Hid ((ptsF n (rs.take j)).set h (y + ptsOf rg rt) = addAt (ptsF n (rs.take j)) h (ptsOf rg rt)) := addAt_eq ey
    clear ey HD2
    obtain ⟨d0, d1, d2, d3⟩ := And.intro D.c0 (And.intro D.c1 (And.intro D.c2 D.c3))
    go_region
    have HC : Hid (PtAt w ((w3.setCell ⟨w.heap.size + 1, h, none⟩ (.int .i64 (y + ptsOf rg rt))).drew) p (w.heap.size + 1) n ⟨h, a, rg, rt⟩ (addAt (ptsF n (rs.take j)) h (ptsOf rg rt))) := (by show PtAt _ _ _ _ _ _ _; rw [← EQ.out]; exact PtAt.drew (D.set HH.out _))
    generalize (w3.setCell ⟨w.heap.size + 1, h, none⟩ (.int .i64 (y + ptsOf rg rt))).drew = w4 at *
    clear D d0 d1 d2 d3 cy fy EQ
    obtain ⟨y', ey, _, cy, fy⟩ := HC.out.get (k := a) (by rw [addAt_length, ptsF_length]; omega)
    have hh : a < (addAt (ptsF n (rs.take j)) h (ptsOf rg rt)).length := by rw [addAt_length, ptsF_length]; omega
    have HH2 := Lib.hid hh
    clear hh
    obtain ⟨y3, y4⟩ := pt_caps2 (by rw [HL.out]; exact l3) ⟨p1, p2⟩ ey
    have D := HC.out
    have hlt3 : (a : Int) < (n : Int) := by omega
    have EQ : Hid ((addAt (ptsF n (rs.take j)) h (ptsOf rg rt)).set a (y' + ptsOf rt rg) = ptsF n (rs.take (j + 1))) := by
      show _ = _
      rw [addAt_eq ey, ptsF_take HX.out]; rfl
    clear ey HC
    obtain ⟨d0, d1, d2, d3⟩ := And.intro D.c0 (And.intro D.c1 (And.intro D.c2 D.c3))
    go_wp2_with fail
    go_region
    have HC : Hid (PtAt w ((w4.setCell ⟨w.heap.size + 1, a, none⟩ (.int .i64 (y' + ptsOf rt rg))).drew) p (w.heap.size + 1) n ⟨h, a, rg, rt⟩ (ptsF n (rs.take (j + 1)))) := (by show PtAt _ _ _ _ _ _ _; rw [← EQ.out]; exact PtAt.drew (D.set HH2.out _))
    generalize (w4.setCell ⟨w.heap.size + 1, a, none⟩ (.int .i64 (y' + ptsOf rt rg))).drew = w5 at *
    clear D d0 d1 d2 d3 cy fy EQ
    go_wp2
    go_roundw
    all_goals first | exact ⟨j + 1, by omega, by go_num, HC.out.fr.wide (Nat.le_refl _) (Nat.le_of_lt HC.out.hp) (Nat.le_refl _), HC.out.be⟩ | (simp [intOf]; try omega)
end Go.Proofs.YtpjbgcflepebgaaDoor
