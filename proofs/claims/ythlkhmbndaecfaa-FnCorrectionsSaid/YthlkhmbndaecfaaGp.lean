/- Points of a league: contracts. -/
import Derived.Test.YthlkhmbndaecfaaPa
import Derived.Deep.Cut
import Derived.Deep.CutRange
import Derived.Deep.DeepCutAuto
import Derived.Deep.RegionWith
namespace Go.Proofs.Ythlkhmbndaecfaa
open Go.ChangeShapes Go.WideShapes Go.ChangeAt Go.RowKit

set_option maxHeartbeats 8000000 in
set_option maxRecDepth 100000 in
theorem implPoints_any (v : Value) (x : LeagueV) (w : World) (hs : InL w v x) (hok : leagueB x = true) :
    Calls Try.prog 24 #[v] w fun e w' => ∃ v', e = .returned v' ∧ Fr w' w.heap.size w'.heap.size v' (ptsF x.clubs.toNat x.results) ∧ Below w.heap.size w w' := by
  obtain ⟨l1, l2, l3, l4⟩ := leagueB_t hok
  obtain ⟨A, c, rfl, hc, hm, hs, hw⟩ := hs
  obtain ⟨cl, rs⟩ := x
  simp only at *
  obtain ⟨n, rfl⟩ := Int.eq_ofNat_of_zero_le (show 0 ≤ cl by omega)
  rw [Int.toNat_natCast]
  have HS := Lib.hid hs
  have HA := Lib.hid l4
  clear hs hok l4
  unfold maxLen at hm
  have hn2 : n ≤ 8 := by omega
  generalize hl : rs.length = len at *
  have HL := Lib.hid hl
  clear hl
  have hB0 : Hid (Below w.heap.size w (w.alloc (.cells #[.int .i64 (n : Int), .slice A len c] 25))) := (Below.refl _ w).alloc (Nat.le_refl _) _
  go_enter Try.func24, Try.ntmps24
  go_wp2_with (at_make; refine makeI rfl _ _ rfl (w.alloc (.cells #[.int .i64 (n : Int), .slice A len c] 25)) n rfl rfl (by omega) ?_; intro w1 hfr hb hsz; have q1 : w1.cell? ⟨w.heap.size, 1, none⟩ = some (.slice A len c) := (by rw [hb.cell (p := ⟨w.heap.size, 1, none⟩) (by simp)]; simp); rw [World.size_alloc] at hfr)
  have HF : Hid (Fr w1 w.heap.size w1.heap.size (.slice (some ⟨w.heap.size + 1, 0, none⟩) n n) (ptsF n (rs.take 0))) := hfr.wide (by omega) (Nat.le_refl _) (Nat.le_refl _)
  have HB : Hid (Below w.heap.size w w1) := hB0.out.trans (hb.mono (by simp))
  clear hfr hb hsz q1 hB0
  go_loopw [12] (fun i wr => ∃ j : Nat, j ≤ len ∧ i = .int .i64 j ∧ Hid (Fr wr w.heap.size wr.heap.size (.slice (some ⟨w.heap.size + 1, 0, none⟩) n n) (ptsF n (rs.take j)) ∧ Below w.heap.size w wr)) (fun i _ => len - (intOf i).toNat)
  case atStart => exact ⟨0, Nat.zero_le _, rfl, HF.out, HB.out⟩
  case round =>
    obtain ⟨j, hj, rfl, HR⟩ := hrel
    clear HF HB
    by_cases hlt : j < len
    case neg =>
      obtain rfl : j = len := by omega
      go_wp2
      go_ret
      have h := HR.out.1
      rw [List.take_of_length_le (by rw [HL.out]; exact Nat.le_refl _)] at h
      exact ⟨_, rfl, h, HR.out.2⟩
    obtain ⟨b, off, r, rfl, hr, c0, c1, c2, c3, _⟩ := SlR.at_ (SlR.below HS.out HR.out.2) (k := j) (by rw [HL.out]; exact hlt)
    have hB := resB_goals (List.all_eq_true.1 HA.out r (List.mem_of_getElem? hr))
    have HX := Lib.hid hr
    clear hr
    obtain ⟨rh, ra, rg, rt⟩ := r
    simp only at *
    obtain ⟨a1, a2, a3, a4, a5, a6, a7, a8, a9⟩ := hB
    obtain ⟨h, rfl⟩ := Int.eq_ofNat_of_zero_le a1
    obtain ⟨a, rfl⟩ := Int.eq_ofNat_of_zero_le a3
    have hh : h < (ptsF n (rs.take j)).length := by rw [ptsF_length]; omega
    have HH := Lib.hid hh
    clear hh
    obtain ⟨p1, p2⟩ := ptsOf_le rg rt
    obtain ⟨p3, p4⟩ := ptsOf_le rt rg
    have HD : Hid (PtAt w (wr.alloc (.cells #[.int .i64 (h : Int), .int .i64 (a : Int), .int .i64 rg, .int .i64 rt] 39)) wr.heap.size (w.heap.size + 1) n ⟨h, a, rg, rt⟩ (ptsF n (rs.take j))) := ptAt_new (r := ⟨(h : Int), (a : Int), rg, rt⟩) HR.out.1 HR.out.2
    go_upto_region 5 with fail
    generalize (wr.alloc (.cells #[.int .i64 (h : Int), .int .i64 (a : Int), .int .i64 rg, .int .i64 rt] 39)) = w2 at *
    clear c0 c1 c2 c3 HR
    generalize wr.heap.size = p at *
    obtain ⟨y, ey, _, cy, fy⟩ := HD.out.get HH.out
    obtain ⟨y1, y2⟩ := pt_caps (by rw [HL.out]; exact l3) ey
    have D := HD.out
    have wp1 : w.heap.size + 1 < p := by have := D.fr.2.1 _ rfl; exact this
    have hlt2 : (h : Int) < (n : Int) := by omega
    have WR : Hid (IntKind.i64.wrap (y + ptsOf rg rt) = y + ptsOf rg rt) := by show _ = _; rw [IntKind.wrap_i64]; omega
    have EQ : Hid ((ptsF n (rs.take j)).set h (y + ptsOf rg rt) = addAt (ptsF n (rs.take j)) h (ptsOf rg rt)) := addAt_eq ey
    have HY := Lib.hid ey
    clear ey HD
    obtain ⟨d0, d1, d2, d3⟩ := And.intro D.c0 (And.intro D.c1 (And.intro D.c2 D.c3))
    go_cut [] (fun wx => Hid (PtAt w wx p (w.heap.size + 1) n ⟨h, a, rg, rt⟩ (addAt (ptsF n (rs.take j)) h (ptsOf rg rt))))
    case first =>
      go_region_with (go_at_call 45; refine (pointsHome_any _ _ _ _ _).mono ?_; rintro e w3 ⟨rfl, hb⟩; replace D := D.drew.below hb; clear hb d0 d1 d2 d3 cy fy; obtain ⟨d0, d1, d2, d3⟩ := And.intro D.c0 (And.intro D.c1 (And.intro D.c2 D.c3)); obtain ⟨cy, fy⟩ := D.at_ HY.out)
      all_goals (go_wp2_with fail; go_meet; show PtAt _ _ _ _ _ _ _; (try rw [WR.out]); rw [← EQ.out]; exact D.set HH.out _)
    case rest =>
      have HC := hcut
      clear hcut D d0 d1 d2 d3 cy fy EQ y1 y2 hlt2
      obtain ⟨y, ey, _, cy, fy⟩ := HC.out.get (k := a) (by rw [addAt_length, ptsF_length]; omega)
      have hh : a < (addAt (ptsF n (rs.take j)) h (ptsOf rg rt)).length := by rw [addAt_length, ptsF_length]; omega
      have HH2 := Lib.hid hh
      clear hh
      obtain ⟨y1, y2⟩ := pt_caps2 (by rw [HL.out]; exact l3) ⟨p1, p2⟩ ey
      have D := HC.out
      have hlt2 : (a : Int) < (n : Int) := by omega
      have WR2 : Hid (IntKind.i64.wrap (y + ptsOf rt rg) = y + ptsOf rt rg) := by show _ = _; rw [IntKind.wrap_i64]; omega
      have EQ : Hid ((addAt (ptsF n (rs.take j)) h (ptsOf rg rt)).set a (y + ptsOf rt rg) = ptsF n (rs.take (j + 1))) := by
        show _ = _
        rw [addAt_eq ey, ptsF_take HX.out]; rfl
      have HY2 := Lib.hid ey
      clear ey HC
      obtain ⟨d0, d1, d2, d3⟩ := And.intro D.c0 (And.intro D.c1 (And.intro D.c2 D.c3))
      go_wp2_with fail
      go_region_with (go_at_call 45; refine (pointsAway_any _ _ _ _ _ a5).mono ?_; rintro e w3 ⟨rfl, hb⟩; replace D := D.drew.below hb; clear hb d0 d1 d2 d3 cy fy; obtain ⟨d0, d1, d2, d3⟩ := And.intro D.c0 (And.intro D.c1 (And.intro D.c2 D.c3)); obtain ⟨cy, fy⟩ := D.at_ HY2.out)
      all_goals
        (try simp only [WR2.out])
        have HC : Hid (PtAt w (w3.setCell ⟨w.heap.size + 1, a, none⟩ (.int .i64 (y + ptsOf rt rg))) p (w.heap.size + 1) n ⟨h, a, rg, rt⟩ (ptsF n (rs.take (j + 1)))) := (by show PtAt _ _ _ _ _ _ _; rw [← EQ.out]; exact D.set HH2.out _)
        generalize (w3.setCell ⟨w.heap.size + 1, a, none⟩ (.int .i64 (y + ptsOf rt rg))) = w5 at *
        clear D d0 d1 d2 d3 cy fy EQ
        go_wp2
        go_roundw
        all_goals first | exact ⟨j + 1, by omega, by go_num, HC.out.fr.wide (Nat.le_refl _) (Nat.le_of_lt HC.out.hp) (Nat.le_refl _), HC.out.be⟩ | (simp [intOf]; try omega)
end Go.Proofs.Ythlkhmbndaecfaa
