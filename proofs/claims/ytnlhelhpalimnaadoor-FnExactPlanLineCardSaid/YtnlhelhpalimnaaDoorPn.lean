/- Valid plans of rounds: the reference's walk. -/
import Derived.Test.YtnlhelhpalimnaaDoorPl
import Derived.Deep.Draws
namespace Go.Proofs.YtnlhelhpalimnaaDoor
open Go.ChangeShapes Go.WideShapes Go.ChangeAt Go.RowKit

set_option maxHeartbeats 4000000 in
set_option maxRecDepth 100000 in
theorem specPlanOk_any (n : Int) (v : Value) (P : List (List Int)) (w : World) (hs : InS w v P) (hn : bulk P ≤ 1048576) :
    Calls Tryd.prog 10 #[.int .i64 n, v] w fun e w' => e = .returned (.bool (planB n P)) ∧ ∃ d, w' = w.drewN d := by
  have HS := Lib.hid hs
  obtain ⟨A, c, vs, rfl, hvl, hc, hm, -, -⟩ := hs
  have hbl := bulk_len P
  have HBR : Hid (∀ (k : Nat) (xs : List Int), P[k]? = some xs → xs.length ≤ 1048576) := fun k xs h => Nat.le_trans (bulk_row h) hn
  generalize hl : P.length = N at *
  have HL := Lib.hid hl
  clear hl hvl
  unfold maxLen at hm
  cases h1 : clubsB n
  case false =>
    go_enter Tryd.func10, Tryd.ntmps10
    go_wp2_with (go_at_call 20; refine (l16Size_any _ _).mono ?_; rintro e w' ⟨rfl, rfl⟩; rw [h1])
    go_ret
    exact ⟨ret_bool (planB_n h1).symm, 0, rfl⟩
  by_cases h2 : N ≤ 36
  case neg =>
    go_enter Tryd.func10, Tryd.ntmps10
    go_wp2_with (go_at_call 20; refine (l16Size_any _ _).mono ?_; rintro e w' ⟨rfl, rfl⟩; rw [h1])
    go_ret
    exact ⟨ret_bool (planB_len (by rw [HL.out]; exact h2)).symm, 0, rfl⟩
  have hnr : 2 ≤ n ∧ n ≤ 10 := by
    unfold clubsB at h1
    rw [Bool.and_eq_true] at h1
    exact inB_t.1 h1.1
  have H1 := Lib.hid h1
  go_enter Tryd.func10, Tryd.ntmps10
  go_wp2_with (go_at_call 20; refine (l16Size_any _ _).mono ?_; rintro e w' ⟨rfl, rfl⟩; rw [h1])
  clear h1
  go_loopw [22] (fun i wr => ∃ j : Nat, j ≤ N ∧ i = .int .i64 j ∧ Hid ((P.take j).all (roundB n) = true) ∧ Hid (∃ d, wr = w.drewN d)) (fun i _ => N - (intOf i).toNat)
  case atStart => exact ⟨0, Nat.zero_le _, rfl, rfl, 0, rfl⟩
  case round =>
    obtain ⟨j, hj, rfl, HP, HD⟩ := hrel
    have HSW : Hid (InS wr (.slice A N c) P) := by obtain ⟨d, rfl⟩ := HD.out; exact InS.below HS.out (below_of_drewN _ _ _)
    by_cases hlt : j < N
    case neg =>
      obtain rfl : j = N := by omega
      go_wp2
      go_ret
      exact ⟨ret_bool (planB_t H1.out (by rw [HL.out]; exact h2) (by rw [HL.out]; exact HP.out)).symm, HD.out⟩
    obtain ⟨b, off, u, R, rfl, hu, hcell, hin, -⟩ := HSW.out.at_ (k := j) (by rw [HL.out]; exact hlt)
    have HU := Lib.hid hu
    have hRl := HBR.out j R hu
    obtain ⟨A1, c1, rfl, hc1, hm1, hsl⟩ := hin
    unfold maxLen at hm1
    have HR := Lib.hid hsl
    clear hu hsl
    generalize hrl : R.length = m at *
    have HRL := Lib.hid hrl
    clear hrl
    by_cases h3 : (m : Int) = n
    case neg =>
      go_wp2
      go_ret
      exact ⟨ret_bool (planB_hit HU.out (roundB_len (by rw [HRL.out]; exact h3))).symm, HD.out⟩
    subst h3
    have J1 : IntKind.i64.wrap (-(m : Int)) = -(m : Int) := by rw [IntKind.wrap_i64]; omega
    go_wp2
    go_loopw [32] (fun i wt => ∃ q : Nat, q ≤ m ∧ i = .int .i64 q ∧ Hid (allTo (el1 m R) q = true) ∧ Hid (SlI wt A1 R) ∧ Hid (∃ d, wt = w.drewN d)) (fun i _ => m - (intOf i).toNat)
    case atStart => exact ⟨0, Nat.zero_le _, rfl, rfl, HR.out, HD.out⟩
    case round =>
      rename_i wt
      obtain ⟨q, hq, rfl, HQ, HR, HDD⟩ := hrel
      by_cases hlt2 : q < m
      case pos =>
        obtain ⟨b2, o2, x, rfl, hx, hcx, -⟩ := HR.out.at_ (k := q) (by rw [HRL.out]; exact hlt2)
        have HX : Hid (R.getD q 0 = x) := by show _ = _; rw [List.getD_eq_getElem?_getD, hx]; rfl
        have HBAD : Hid (el1 m R q = false → planB m P = false) := fun h => planB_hit HU.out (roundB_hit1 (by rw [HRL.out]; exact hlt2) h)
        clear hx
        cases e1 : inB x (-m) m
        case false =>
          go_wp2_with (go_at_call 21; refine (l01In_any _ _ _ _).mono ?_; rintro e w' ⟨rfl, rfl⟩)
          go_ret
          exact ⟨ret_bool (HBAD.out (by unfold el1; rw [HX.out, e1]; rfl)).symm, HDD.out⟩
        cases e0 : (x == 0)
        case true =>
          go_wp2_with (go_at_call 21; refine (l01In_any _ _ _ _).mono ?_; rintro e w' ⟨rfl, rfl⟩)
          go_ret
          exact ⟨ret_bool (HBAD.out (by unfold el1; rw [HX.out, e0]; simp)).symm, HDD.out⟩
        have HN2 : Hid (allTo (el1 m R) (q + 1) = true) := by show _ = _; unfold allTo el1; rw [HX.out, e0, e1]; have := HQ.out; unfold el1 at this; rw [this]; rfl
        go_wp2_with (go_at_call 21; refine (l01In_any _ _ _ _).mono ?_; rintro e w' ⟨rfl, rfl⟩)
        go_roundw
        case rel => exact ⟨q + 1, by omega, by go_num, HN2, HR.out, HDD.out⟩
        case measure => simp [intOf]; omega
      obtain rfl : q = m := by omega
      go_wp2
      go_loopw [49] (fun i wt => ∃ p : Nat, p ≤ q ∧ i = .int .i64 p ∧ Hid (allTo (el2 R) p = true) ∧ Hid (SlI wt A1 R) ∧ Hid (∃ d, wt = w.drewN d)) (fun i _ => q - (intOf i).toNat)
      case atStart => exact ⟨0, Nat.zero_le _, rfl, rfl, HR.out, HDD.out⟩
      case round =>
        rename_i wu
        obtain ⟨p, hp, rfl, HP2, HR2, HD2⟩ := hrel
        by_cases hlt3 : p < q
        case neg =>
          obtain rfl : p = q := by omega
          have HN : Hid ((P.take (j + 1)).all (roundB (p : Int)) = true) := all_snoc HU.out HP.out (roundB_t2 (by rw [HRL.out]) (by rw [HRL.out]; exact HQ.out) (by rw [HRL.out]; exact HP2.out))
          go_wp2
          go_roundw
          case rel => exact ⟨j + 1, by omega, by go_num, HN, HD2.out⟩
          case measure => simp [intOf]; omega
        have hall := allTo_t.1 HQ.out
        obtain ⟨b2, o2, x, rfl, hx, hcx, -⟩ := HR2.out.at_ (k := p) (by rw [HRL.out]; exact hlt3)
        have HX : Hid (R.getD p 0 = x) := by show _ = _; rw [List.getD_eq_getElem?_getD, hx]; rfl
        have HBAD : Hid (el2 R p = false → planB q P = false) := fun h => planB_hit HU.out (roundB_hit2 (by rw [HRL.out]) (by rw [HRL.out]; exact HQ.out) (by rw [HRL.out]; exact hlt3) h)
        have hx1 := hall p hlt3
        unfold el1 at hx1
        rw [Bool.and_eq_true, HX.out] at hx1
        have hxr := inB_t.1 hx1.1
        have hx0 : x ≠ 0 := by simpa using hx1.2
        have HK0 : ∃ k : Nat, opp x = (k : Int) ∧ k < q := by
          have h5 : 0 ≤ opp x ∧ opp x < q := by rw [opp_eq]; split <;> omega
          exact ⟨(opp x).toNat, by omega, by omega⟩
        obtain ⟨k, hk, hkm⟩ := HK0
        have HK := Lib.hid hk
        obtain ⟨b3, o3, y, e3, hy, hcy, -⟩ := HR2.out.at_ (k := k) (by rw [HRL.out]; exact hkm)
        injection e3 with e3; injection e3 with r1 r2 _; subst r1; subst r2
        have HY : Hid (R.getD k 0 = y) := by show _ = _; rw [List.getD_eq_getElem?_getD, hy]; rfl
        have hy1 := hall k hkm
        unfold el1 at hy1
        rw [Bool.and_eq_true, HY.out] at hy1
        have hyr := inB_t.1 hy1.1
        have HE : Hid (el2 R p = (!((k : Int) == (p : Int)) && (opp y == (p : Int) && !(decide (0 < x) == decide (0 < y))))) := by
          show _ = _
          unfold el2
          rw [HX.out, HK.out, Int.toNat_natCast, HY.out]
        have HO0 : ∃ o : Int, opp y = o := ⟨_, rfl⟩
        obtain ⟨o, ho⟩ := HO0
        have HO := Lib.hid ho
        rw [ho] at HE
        clear hk hy hx ho hx1 hy1 hall
        have HNX : Hid (el2 R p = true → allTo (el2 R) (p + 1) = true) := fun h => by unfold allTo; rw [HP2.out, h]; rfl
        cases e2 : ((k : Int) == (p : Int))
        case true =>
          go_wp2_with (go_at_call 22; refine (l16Other_any x k _ HK.out (by omega) (by omega)).mono ?_; rintro e w' ⟨rfl, rfl⟩)
          go_ret
          exact ⟨ret_bool (HBAD.out (by rw [HE.out, e2]; rfl)).symm, HD2.out⟩
        cases e4 : (o == (p : Int))
        case false =>
          have e4' : (o != (p : Int)) = true := by simp [bne, e4]
          go_wp2_with (first | (go_at_call 22; refine (l16Other_any x k _ HK.out (by omega) (by omega)).mono ?_; rintro e w' ⟨rfl, rfl⟩) | (go_at_call 22; refine (l16Other_any y o _ HO.out (by omega) (by omega)).mono ?_; rintro e w' ⟨rfl, rfl⟩))
          go_ret
          exact ⟨ret_bool (HBAD.out (by rw [HE.out, e2, e4]; rfl)).symm, HD2.out⟩
        have e4' : (o != (p : Int)) = false := by simp [bne, e4]
        cases e7 : (decide (0 < x) == decide (0 < y))
        case true =>
          go_wp2_with (first | (go_at_call 22; refine (l16Other_any x k _ HK.out (by omega) (by omega)).mono ?_; rintro e w' ⟨rfl, rfl⟩) | (go_at_call 22; refine (l16Other_any y o _ HO.out (by omega) (by omega)).mono ?_; rintro e w' ⟨rfl, rfl⟩))
          go_ret
          exact ⟨ret_bool (HBAD.out (by rw [HE.out, e2, e4, e7]; rfl)).symm, HD2.out⟩
        have HN2 := Lib.hid (HNX.out (by rw [HE.out, e2, e4, e7]; rfl))
        go_wp2_with (first | (go_at_call 22; refine (l16Other_any x k _ HK.out (by omega) (by omega)).mono ?_; rintro e w' ⟨rfl, rfl⟩) | (go_at_call 22; refine (l16Other_any y o _ HO.out (by omega) (by omega)).mono ?_; rintro e w' ⟨rfl, rfl⟩))
        all_goals exact ⟨⟨p + 1, by omega, by go_num, HN2, HR2.out, HD2.out⟩, by simp [intOf]; omega⟩
end Go.Proofs.YtnlhelhpalimnaaDoor
