/- Valid plans of rounds: the walks. -/
import Derived.Test.YtofpaekokmkhgaaGreatDoorMbe
import Derived.Deep.Draws
import Derived.Test.YtofpaekokmkhgaaGreatDoorSl
import Derived.Lib.ItoaNum
import Derived.Lib.ItoaLen
import Derived.Lib.ItoaMem
import Derived.Below
import Derived.Laws.IdiomStrings
import Derived.Laws.Concat
import Derived.Deep.RegionHeld3
import Derived.Deep.RegionWith
import Derived.Deep.Cut
import Derived.Deep.CutRange
import Derived.Lib.Hide
namespace Go.Proofs.YtofpaekokmkhgaaGreatDoor
open Go.ChangeShapes Go.WideShapes Go.ChangeAt Go.RowKit

set_option maxHeartbeats 4000000 in
set_option maxRecDepth 100000 in
theorem implPlanOk_any (n : Int) (v : Value) (P : List (List Int)) (w : World) (hs : InS w v P) (hn : bulk P ≤ 1048576) :
    Calls Tryz.prog 39 #[.int .i64 n, v] w fun e w' => e = .returned (.bool (planB n P)) ∧ ∃ d, w' = w.drewN d := by
  have HS := Lib.hid hs
  obtain ⟨A, c, vs, rfl, hvl, hc, hm, -, -⟩ := hs
  have hbl := bulk_len P
  have HBR : Hid (∀ (k : Nat) (xs : List Int), P[k]? = some xs → xs.length ≤ 1048576) := fun k xs h => Nat.le_trans (bulk_row h) hn
  generalize hl : P.length = N at *
  have HL := Lib.hid hl
  clear hl hvl
  unfold maxLen at hm
  cases h1 : clubsB n
  case false =>
    go_enter Tryz.func39, Tryz.ntmps39
    go_wp2_with (go_at_call 68; refine (isClubs_any _ _).mono ?_; rintro e w' ⟨rfl, rfl⟩; rw [h1])
    go_ret
    exact ⟨ret_bool (planB_n h1).symm, 0, rfl⟩
  by_cases h2 : N ≤ 36
  case neg =>
    go_enter Tryz.func39, Tryz.ntmps39
    go_wp2_with (go_at_call 68; refine (isClubs_any _ _).mono ?_; rintro e w' ⟨rfl, rfl⟩; rw [h1])
    go_ret
    exact ⟨ret_bool (planB_len (by rw [HL.out]; exact h2)).symm, 0, rfl⟩
  have hnr : 2 ≤ n ∧ n ≤ 10 := by
    unfold clubsB at h1
    rw [Bool.and_eq_true] at h1
    exact inB_t.1 h1.1
  have H1 := Lib.hid h1
  go_enter Tryz.func39, Tryz.ntmps39
  go_wp2_with (go_at_call 68; refine (isClubs_any _ _).mono ?_; rintro e w' ⟨rfl, rfl⟩; rw [h1])
  clear h1
  go_loopw [19] (fun i wr => ∃ j : Nat, j ≤ N ∧ i = .int .i64 j ∧ Hid ((P.take j).all (roundB n) = true) ∧ Hid (∃ d, wr = w.drewN d)) (fun i _ => N - (intOf i).toNat)
  case atStart => exact ⟨0, Nat.zero_le _, rfl, rfl, 0, rfl⟩
  case round =>
    obtain ⟨j, hj, rfl, HP, HD⟩ := hrel
    have HSW : Hid (InS wr (.slice A N c) P) := by obtain ⟨d, rfl⟩ := HD.out; exact InS.below HS.out (below_of_drewN _ _ _)
    by_cases hlt : j < N
    case neg =>
      obtain rfl : j = N := by omega
      go_wp2
      go_ret
      exact ⟨ret_bool (planB_t H1.out (by rw [HL.out]; exact h2) (by rw [HL.out]; exact HP.out)).symm, HD.out⟩
    obtain ⟨b, off, u, R, rfl, hu, hcell, hin, -⟩ := HSW.out.at_ (k := j) (by rw [HL.out]; exact hlt)
    have HU := Lib.hid hu
    have hRl := HBR.out j R hu
    obtain ⟨A1, c1, rfl, hc1, hm1, hsl⟩ := hin
    unfold maxLen at hm1
    have HR := Lib.hid hsl
    clear hu hsl
    generalize hrl : R.length = m at *
    have HRL := Lib.hid hrl
    clear hrl
    by_cases h3 : (m : Int) = n
    case neg =>
      go_wp2
      go_ret
      exact ⟨ret_bool (planB_hit HU.out (roundB_len (by rw [HRL.out]; exact h3))).symm, HD.out⟩
    subst h3
    go_wp2
    go_loopw [29] (fun i wt => ∃ q : Nat, q ≤ m ∧ i = .int .i64 q ∧ Hid (allTo (elB m R) q = true) ∧ Hid (SlI wt A1 R) ∧ Hid (∃ d, wt = w.drewN d)) (fun i _ => m - (intOf i).toNat)
    case atStart => exact ⟨0, Nat.zero_le _, rfl, rfl, HR.out, HD.out⟩
    case round =>
      rename_i wt
      obtain ⟨q, hq, rfl, HQ, HR, HDD⟩ := hrel
      by_cases hlt2 : q < m
      case neg =>
        obtain rfl : q = m := by omega
        have HN : Hid ((P.take (j + 1)).all (roundB (q : Int)) = true) := all_snoc HU.out HP.out (roundB_t (by rw [HRL.out]) (by rw [HRL.out]; exact HQ.out))
        go_wp2
        go_roundw
        case rel => exact ⟨j + 1, by omega, by go_num, HN, HDD.out⟩
        case measure => simp [intOf]; omega
      obtain ⟨b2, o2, x, rfl, hx, hcx, -⟩ := HR.out.at_ (k := q) (by rw [HRL.out]; exact hlt2)
      have HX : Hid (R.getD q 0 = x) := by show _ = _; rw [List.getD_eq_getElem?_getD, hx]; rfl
      have HBAD : Hid (elB m R q = false → planB m P = false) := fun h => planB_hit HU.out (roundB_hit (by rw [HRL.out]; exact hlt2) h)
      clear hx
      by_cases e0 : x = 0
      · have e0' : (x == 0) = true := by simpa using e0
        go_wp2
        go_quiet (fail)
        go_wp2
        go_ret
        exact ⟨ret_bool (HBAD.out (by unfold elB; rw [HX.out, e0']; rfl)).symm, dd HDD.out _⟩
      have e0' : (x == 0) = false := by simpa using e0
      cases e1 : inB x (-m) m
      case false =>
        have J1 : IntKind.i64.wrap (-(m : Int)) = -(m : Int) := by rw [IntKind.wrap_i64]; omega
        go_wp2
        go_quiet ((go_at_call 55; exact quiet_left (within_any _ _ _ _)))
        go_wp2
        go_ret
        exact ⟨ret_bool (HBAD.out (by unfold elB; rw [HX.out, e1]; simp)).symm, dd HDD.out _⟩
      have hxr := inB_t.1 e1
      have HK0 : ∃ k : Nat, opp x = (k : Int) ∧ k < m := by
        have h5 : 0 ≤ opp x ∧ opp x < m := by rw [opp_eq]; split <;> omega
        exact ⟨(opp x).toNat, by omega, by omega⟩
      obtain ⟨k, hk, hkm⟩ := HK0
      have HK := Lib.hid hk
      obtain ⟨b3, o3, y, e3, hy, hcy, -⟩ := HR.out.at_ (k := k) (by rw [HRL.out]; exact hkm)
      injection e3 with e3; injection e3 with r1 r2 _; subst r1; subst r2
      have HY : Hid (R.getD k 0 = y) := by show _ = _; rw [List.getD_eq_getElem?_getD, hy]; rfl
      have J1 : IntKind.i64.wrap (-(m : Int)) = -(m : Int) := by rw [IntKind.wrap_i64]; omega
      have J2 : IntKind.i64.wrap (-x) = -x := by rw [IntKind.wrap_i64]; omega
      have HE : Hid (elB m R q = (!((k : Int) == (q : Int)) && (y == ((q : Int) + 1) * sgn (-x)))) := by
        show _ = _
        unfold elB
        rw [HX.out, e1, HK.out, Int.toNat_natCast, HY.out, e0']; rfl
      clear hk hy
      by_cases e2 : k = q
      · have e2' : ((k : Int) == (q : Int)) = true := by simp [e2]
        go_wp2
        go_quiet (first | (go_at_call 55; exact quiet_left (within_any _ _ _ _)) | (go_at_call 69; exact Calls.quiet_of (opponent_any _ _ _ R q x k _ (HR.out.drewN _) HRL.out hlt2 HX.out HK.out (by omega) (by omega))) | (go_at_call 70; exact quiet_left (sign_any _ _ _ HSG.out)))
        go_wp2
        go_ret
        exact ⟨ret_bool (HBAD.out (by rw [HE.out, e2']; rfl)).symm, dd HDD.out _⟩
      have e2' : ((k : Int) == (q : Int)) = false := by have : ¬ (k : Int) = (q : Int) := by omega
                                                        simpa using this
      have HNX : Hid (elB m R q = true → allTo (elB m R) (q + 1) = true) := fun h => by unfold allTo; rw [HQ.out, h]; rfl
      have HS0 : ∃ s z : Int, Hid (sgn (-x) = s) ∧ Hid (((q : Int) + 1) * s = z) ∧ IntKind.i64.wrap (((q : Int) + 1) * s) = z := ⟨_, _, rfl, rfl, wrapS q _ (-x) rfl (by omega)⟩
      obtain ⟨s, z, HSG, HZ, J3⟩ := HS0
      have HE2 : Hid (elB m R q = (y == z)) := by show _ = _; rw [HE.out, HSG.out, HZ.out, e2']; rfl
      clear HE
      cases e4 : (y == z)
      case true =>
        have e4' : (y != z) = false := by simp [bne, e4]
        have HN2 := Lib.hid (HNX.out (by rw [HE2.out, e4]))
        go_wp2
        go_quiet (first | (go_at_call 55; exact quiet_left (within_any _ _ _ _)) | (go_at_call 69; exact Calls.quiet_of (opponent_any _ _ _ R q x k _ (HR.out.drewN _) HRL.out hlt2 HX.out HK.out (by omega) (by omega))) | (go_at_call 70; exact quiet_left (sign_any _ _ _ HSG.out)))
        go_wp2
        go_roundw
        case rel => exact ⟨q + 1, by omega, by go_num, HN2, HR.out.drewN _, dd HDD.out _⟩
        case measure => simp [intOf]; omega
      · have e4' : (y != z) = true := by simp [bne, e4]
        go_wp2
        go_quiet (first | (go_at_call 55; exact quiet_left (within_any _ _ _ _)) | (go_at_call 69; exact Calls.quiet_of (opponent_any _ _ _ R q x k _ (HR.out.drewN _) HRL.out hlt2 HX.out HK.out (by omega) (by omega))) | (go_at_call 70; exact quiet_left (sign_any _ _ _ HSG.out)))
        go_wp2
        go_ret
        exact ⟨ret_bool (HBAD.out (by rw [HE2.out, e4])).symm, dd HDD.out _⟩
end Go.Proofs.YtofpaekokmkhgaaGreatDoor
namespace Go.Proofs.YtofpaekokmkhgaaGreatDoor
open Go.ChangeShapes Go.WideShapes Go.ChangeAt Go.RowKit

theorem decDigits_big {u : Nat} (h : ¬ u < 10) : Lib.decDigits u = Lib.decDigits (u / 10) ++ [UInt8.ofNat (48 + u % 10)] := by rw [Lib.decDigits, dif_neg h]
theorem dec_len {n : Nat} (h : n ≤ 9223372036854775807) : (Lib.decDigits n).length ≤ 21 := by
  have := Lib.itoa_length_le (n : Int) (by omega) (by omega)
  rwa [Lib.itoa_nonneg] at this
theorem bcat (a b : List UInt8) : (⟨a.toArray⟩ : ByteArray) ++ ⟨b.toArray⟩ = ⟨(a ++ b).toArray⟩ := by
  apply ByteArray.ext; simp
theorem bcat1 (x : UInt8) (b : List UInt8) : (⟨#[x]⟩ : ByteArray) ++ ⟨b.toArray⟩ = ⟨(x :: b).toArray⟩ := bcat [x] b
theorem drew_lt (w : World) (o : Obj) : w.heap.size < ((w.alloc o).drew).heap.size := by show w.heap.size < (w.alloc o).heap.size; simp
set_option maxRecDepth 100000 in
theorem byteAt (W : World) (g : Nat) (x : Int) (h0 : 0 ≤ x) (h1 : x < 256) (hg : W.cell? ⟨g, 0, none⟩ = some (.int .u8 x)) :
    (convert 22 9 (.slice (some ⟨g, 0, none⟩) 1 1)).run Tryz.prog W = .ok (.string ⟨#[UInt8.ofNat x.toNat]⟩) W :=
  run_convert_bytes_back (P := Tryz.prog) W 22 9 5 ⟨g, 0, none⟩ 1 [UInt8.ofNat x.toNat] Tryz.underlying22 Tryz.underlying5 Tryz.underlying9 (fun j hj => by
    have hj0 : j = 0 := by simpa using hj
    subst hj0
    have e : ((UInt8.ofNat x.toNat).toNat : Int) = x := by
      rw [UInt8.toNat_ofNat']; omega
    simp only [Addr.add, Nat.add_zero, List.getElem_cons_zero]
    rw [e]; exact hg)
set_option maxRecDepth 100000 in
/-- 'string([]byte{b})'. -/
theorem byteStr (W : World) (x : Int) (h0 : 0 ≤ x) (h1 : x < 256) :
    (convert 22 9 (.slice (some ⟨W.heap.size, 0, none⟩) 1 1)).run Tryz.prog (W.alloc (.cells #[.int .u8 x] 5)) = .ok (.string ⟨#[UInt8.ofNat x.toNat]⟩) (W.alloc (.cells #[.int .u8 x] 5)) := by
  have h := run_convert_bytes_back (P := Tryz.prog) (W.alloc (.cells #[.int .u8 x] 5)) 22 9 5 ⟨W.heap.size, 0, none⟩ 1 [UInt8.ofNat x.toNat] Tryz.underlying22 Tryz.underlying5 Tryz.underlying9 (fun j hj => by
    have hj0 : j = 0 := by simpa using hj
    subst hj0
    have e : ((UInt8.ofNat x.toNat).toNat : Int) = x := by
      rw [UInt8.toNat_ofNat']; omega
    simp [Addr.add, go_sem]
    omega)
  exact h
/-- One digit more behind a negative number's text. -/
theorem td10 (u : Nat) : (-(u : Int)).tdiv 10 = -((u / 10 : Nat) : Int) := by
  rw [Int.neg_tdiv, Int.tdiv_eq_ediv_of_nonneg (by omega)]; rfl
theorem tm10 (u : Nat) : (-(u : Int)).tmod 10 = -((u % 10 : Nat) : Int) := by
  rw [Int.neg_tmod, Int.tmod_eq_emod_of_nonneg (by omega)]; rfl
theorem itoa_more {u : Nat} (h : 10 ≤ u) : Lib.itoa (-(u : Int)) = Lib.itoa (-((u / 10 : Nat) : Int)) ++ [UInt8.ofNat (48 + u % 10)] := by
  rw [Lib.itoa_neg u (by omega), Lib.itoa_neg (u / 10) (by omega), decDigits_big (u := u) (by omega)]
  simp
theorem itoa_one {u : Nat} (h : 1 ≤ u) (h2 : u < 10) : Lib.itoa (-(u : Int)) = [45, UInt8.ofNat (48 + u)] := by
  rw [Lib.itoa_neg u (by omega), Lib.decDigits_one (by omega)]
end Go.Proofs.YtofpaekokmkhgaaGreatDoor
