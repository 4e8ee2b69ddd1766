/- Scores, triangles: both packages' contracts. -/
import Derived.Test.YtcnbmcglfkhepaaDoorRcw
import Derived.Test.YtcnbmcglfkhepaaDoorPop
import Derived.Test.YtcnbmcglfkhepaaDoorTq
import Derived.Test.YtcnbmcglfkhepaaDoorTs
namespace Go.Proofs.YtcnbmcglfkhepaaDoor
open Go.ChangeShapes Go.WideShapes Go.ChangeAt Go.RowKit

def scN (x : TourV) (a : Nat) : Nat := cntL (winN x a)
def scoresL (x : TourV) : List Int := (List.range x.wins.length).map (fun a => ((scN x a : Nat) : Int))
theorem scoresL_len (x : TourV) : (scoresL x).length = x.wins.length := by simp [scoresL]
theorem scoresL_at {x : TourV} {a : Nat} (h : a < x.wins.length) : (scoresL x)[a]? = some ((scN x a : Nat) : Int) := by simp [scoresL, h]
theorem scN_le (x : TourV) (a : Nat) : scN x a ≤ 8 := cntL_le _
theorem scoresL_take {x : TourV} {a : Nat} (h : a < x.wins.length) : (scoresL x).take (a + 1) = (scoresL x).take a ++ [((scN x a : Nat) : Int)] := take_snoc (scoresL_at h)
theorem scoresL_all (x : TourV) : (scoresL x).take x.wins.length = scoresL x := List.take_of_length_le (by rw [scoresL_len]; exact Nat.le_refl _)
theorem scoresL_bd {x : TourV} : ∀ y ∈ scoresL x, 0 ≤ y ∧ y ≤ 8 := by
  intro y hy
  simp only [scoresL, List.mem_map, List.mem_range] at hy
  obtain ⟨a, _, rfl⟩ := hy
  have := scN_le x a
  omega

set_option maxHeartbeats 2000000 in
set_option maxRecDepth 100000 in
theorem implScore_any (v : Value) (x : TourV) (a : Nat) (w : World) (hs : InT w v x) (hok : tourB x = true) (ha : a < x.wins.length) :
    Calls Tryd.prog 34 #[v, .int .i64 (a : Int)] w fun e w' => e = .returned (.int .i64 (scN x a : Nat)) ∧ Below w.heap.size w w' := by
  obtain ⟨u, rfl, A, c, rfl, hc, hm, hsl⟩ := hs
  obtain ⟨t1, t2, t3, _, _⟩ := tourB_t hok
  have hn8 : x.wins.length ≤ 8 := by omega
  obtain ⟨b, off, rfl, qc, hlt, hw2, hwb⟩ := win_at hok hsl ha
  have hw256 : winN x a < 256 := Nat.lt_of_lt_of_le hw2 (Nat.pow_le_pow_right (by omega) hn8)
  have HCO := Lib.hid (fun W => onesCount_any _ W hw256)
  have HE : Hid (scN x a = cntL (winN x a)) := rfl
  have hal : (a : Int) < x.wins.length := by omega
  have hne : ¬ b = w.heap.size := by omega
  generalize winN x a = W at *
  obtain ⟨C, hC⟩ : ∃ C, cntL W = C := ⟨_, rfl⟩
  rw [hC] at HCO HE
  clear hC hsl hok hwb hw2
  go_enter Tryd.func34, Tryd.ntmps34
  go_wp2_with (go_at_call 43; refine (HCO.out _).mono ?_; rintro e w' ⟨rfl, rfl⟩)
  go_ret
  exact ⟨by rw [HE.out]; rfl, (Below.refl _ w).alloc (Nat.le_refl _) _⟩

set_option maxHeartbeats 2000000 in
set_option maxRecDepth 100000 in
theorem implScoresOf_any (v : Value) (x : TourV) (w : World) (hs : InT w v x) (hok : tourB x = true) :
    Calls Tryd.prog 20 #[v] w fun e w' => ∃ v', e = .returned v' ∧ Fr w' w.heap.size w'.heap.size v' (scoresL x) ∧ Below w.heap.size w w' := by
  have HIT := Lib.hid hs
  have HOK := Lib.hid hok
  obtain ⟨u, rfl, A, c, rfl, hc, hm, hsl⟩ := hs
  obtain ⟨t1, t2, t3, _, _⟩ := tourB_t hok
  have hn8 : x.wins.length ≤ 8 := by omega
  have HTO : Hid (∀ W, Below w.heap.size w W → Calls Tryd.prog 17 #[.agg #[.int .i64 x.size, .slice A x.wins.length c]] W fun e w' => e = .returned (.bool true) ∧ Below W.heap.size W w') := fun W hW => by
    have h := implTourOk_any _ x W (HIT.out.below hW)
    rwa [HOK.out] at h
  have HSC : Hid (∀ W (a : Nat), Below w.heap.size w W → a < x.wins.length → Calls Tryd.prog 34 #[.agg #[.int .i64 x.size, .slice A x.wins.length c], .int .i64 (a : Int)] W fun e w' => e = .returned (.int .i64 (scN x a : Nat)) ∧ Below W.heap.size W w') := fun W a hW ha => implScore_any _ x a W (HIT.out.below hW) HOK.out ha
  have HSZ : Hid (x.size = (x.wins.length : Int)) := t3.symm
  have HBX : Hid (Bx (w.alloc (.cells #[.int .i64 x.size, .slice A x.wins.length c] 27)) w.heap.size (.int .i64 x.size) (.slice A x.wins.length c) ∧ Below w.heap.size w (w.alloc (.cells #[.int .i64 x.size, .slice A x.wins.length c] 27)) ∧ w.heap.size < (w.alloc (.cells #[.int .i64 x.size, .slice A x.wins.length c] 27)).heap.size) := ⟨⟨by simp, by simp, by simp⟩, (Below.refl _ w).alloc (Nat.le_refl _) _, by simp⟩
  rw [HSZ.out] at HBX HTO HSC
  rw [HSZ.out]
  clear hsl hok t1 t2 t3
  go_enter Tryd.func20, Tryd.ntmps20
  go_wp2_with (go_at_call 17; refine (HTO.out _ HBX.out.2.1).mono ?_; rintro e w0 ⟨rfl, hb⟩; have H0 : Hid (Fr w0 (w.heap.size + 1) w0.heap.size (.slice none 0 0) ((scoresL x).take 0) ∧ Bx w0 w.heap.size (.int .i64 (x.wins.length : Int)) (.slice A x.wins.length c) ∧ Below w.heap.size w w0 ∧ w.heap.size + 1 ≤ w0.heap.size) := (show _ ∧ _ from ⟨by simpa using Fr.nil w0 (lo := w.heap.size + 1) (Nat.le_refl _), HBX.out.1.below hb, HBX.out.2.1.trans (hb.mono (Nat.le_of_lt HBX.out.2.2)), Nat.lt_of_lt_of_le HBX.out.2.2 hb.size⟩); clear hb HBX; obtain ⟨q0, q1, q2⟩ := id H0.out.2.1)
  go_loopw [3, 10] (fun v i wr => ∃ (j : Nat) (vv : Value), j ≤ x.wins.length ∧ i = .int .i64 j ∧ vv = v ∧ Hid (Fr wr (w.heap.size + 1) wr.heap.size vv ((scoresL x).take j) ∧ Bx wr w.heap.size (.int .i64 (x.wins.length : Int)) (.slice A x.wins.length c) ∧ Below w.heap.size w wr ∧ w.heap.size + 1 ≤ wr.heap.size)) (fun _ i _ => x.wins.length - (intOf i).toNat)
  case atStart => exact ⟨0, _, Nat.zero_le _, rfl, rfl, H0.out⟩
  case round =>
    obtain ⟨j, vv, hj, rfl, rfl, HR⟩ := hrel
    clear H0 q0 q1 q2
    by_cases hlt : j < x.wins.length
    case neg =>
      obtain rfl : j = x.wins.length := by omega
      have h := HR.out.1
      rw [scoresL_all] at h
      have HF := Lib.hid h
      clear h
      go_wp2
      go_ret
      exact ⟨_, rfl, HF.out.wide (by omega) (Nat.le_refl _) (Nat.le_refl _), HR.out.2.2.1⟩
    obtain ⟨q0, q1, q2⟩ := id HR.out.2.1
    have HTK := Lib.hid (scoresL_take hlt)
    have HS := Lib.hid (HSC.out wr j HR.out.2.2.1 hlt)
    have HL : Hid (((scoresL x).take j).length = j) := by show _ = _; rw [List.length_take, scoresL_len]; omega
    obtain ⟨C, HC⟩ : ∃ C : Nat, Hid (scN x j = C) := ⟨_, rfl⟩
    rw [HC.out] at HTK HS
    go_wp2_with (first
      | (go_at_call 34; refine HS.out.mono ?_; rintro e w2 ⟨rfl, hb⟩; have H2 : Hid (Fr w2 (w.heap.size + 1) w2.heap.size vv ((scoresL x).take j) ∧ Bx w2 w.heap.size (.int .i64 (x.wins.length : Int)) (.slice A x.wins.length c) ∧ Below w.heap.size w w2 ∧ w.heap.size + 1 ≤ w2.heap.size) := (show _ ∧ _ from ⟨(HR.out.1.grow hb).wide (Nat.le_refl _) hb.size (Nat.le_refl _), HR.out.2.1.below hb, HR.out.2.2.1.trans (hb.mono HR.out.2.2.1.size), Nat.le_trans HR.out.2.2.2 hb.size⟩); clear hb q0 q1 q2)
      | (at_builtin; refine app1 rfl _ _ rfl w2 (w.heap.size + 1) vv j ((scoresL x).take j) rfl (by have h := H2.out.1.1; rw [HL.out] at h; exact h) (C : Int) rfl (by omega) H2.out.2.2.2 ?_; intro v3 w3 hown hb3 _ _; have hB := hb3 _ (Nat.le_refl _) H2.out.2.2.2; have H3 : Hid (Fr w3 (w.heap.size + 1) w3.heap.size v3 ((scoresL x).take (j + 1)) ∧ Bx w3 w.heap.size (.int .i64 (x.wins.length : Int)) (.slice A x.wins.length c) ∧ Below w.heap.size w w3 ∧ w.heap.size + 1 ≤ w3.heap.size) := (show _ ∧ _ from ⟨by rw [HTK.out]; exact Fr.of_own (by rw [List.length_append, HL.out]; exact hown), H2.out.2.1.under hB (Nat.lt_succ_self _), H2.out.2.2.1.trans (hB.mono (Nat.le_succ _)), Nat.le_trans H2.out.2.2.2 hB.size⟩); clear hown hb3 hB))
    go_roundw
    case rel => exact ⟨j + 1, _, by omega, by go_num, rfl, H3.out⟩
    case measure => simp [intOf]; omega

set_option maxHeartbeats 2000000 in
set_option maxRecDepth 100000 in
theorem l02Scores_any (v : Value) (x : TourV) (w : World) (hs : InT w v x) (hok : tourB x = true) :
    Calls Tryd.prog 12 #[v] w fun e w' => ∃ v', e = .returned v' ∧ Fr w' w.heap.size w'.heap.size v' (scoresL x) ∧ Below w.heap.size w w' := by
  have HIT := Lib.hid hs
  have HOK := Lib.hid hok
  obtain ⟨u, rfl, A, c, rfl, hc, hm, hsl⟩ := hs
  obtain ⟨t1, t2, t3, _, _⟩ := tourB_t hok
  have hn8 : x.wins.length ≤ 8 := by omega
  obtain ⟨bk, off, rfl, hlt, hcell⟩ := win_cells hok hsl
  have HC := Lib.hid (And.intro hlt hcell)
  have HW : Hid (∀ b, winN x b < 256) := fun b => Nat.lt_of_lt_of_le (win_all hok b) (Nat.pow_le_pow_right (by omega) hn8)
  have H0 : Hid (Fr ((w.alloc (.cells #[.int .i64 x.size, .slice (some ⟨bk, off, none⟩) x.wins.length c] 27)).alloc (.cells #[] 3)) (w.heap.size + 1) ((w.alloc (.cells #[.int .i64 x.size, .slice (some ⟨bk, off, none⟩) x.wins.length c] 27)).alloc (.cells #[] 3)).heap.size (.slice (some ⟨w.heap.size + 1, 0, none⟩) 0 0) ((scoresL x).take 0) ∧ Below w.heap.size w ((w.alloc (.cells #[.int .i64 x.size, .slice (some ⟨bk, off, none⟩) x.wins.length c] 27)).alloc (.cells #[] 3)) ∧ w.heap.size + 1 ≤ ((w.alloc (.cells #[.int .i64 x.size, .slice (some ⟨bk, off, none⟩) x.wins.length c] 27)).alloc (.cells #[] 3)).heap.size) := by
    have b1 : Below w.heap.size w (w.alloc (.cells #[.int .i64 x.size, .slice (some ⟨bk, off, none⟩) x.wins.length c] 27)) := (Below.refl _ w).alloc (Nat.le_refl _) _
    have z1 : (w.alloc (.cells #[.int .i64 x.size, .slice (some ⟨bk, off, none⟩) x.wins.length c] 27)).heap.size = w.heap.size + 1 := World.size_alloc _ _
    generalize w.alloc (.cells #[.int .i64 x.size, .slice (some ⟨bk, off, none⟩) x.wins.length c] 27) = W at *
    refine ⟨?_, b1.alloc b1.size _, by rw [World.size_alloc]; omega⟩
    have h := World.ownsRow_lit (base := w.heap.size + 1) (e := 3) (size := 1) W #[] 0 (by omega) (by unfold maxLen; omega) rfl
    rw [z1] at h
    exact Fr.of_own (xs := []) h
  clear hsl hok hcell
  have hne : ¬ bk = w.heap.size := by omega
  have hne2 : ¬ bk = w.heap.size + 1 := by omega
  go_enter Tryd.func12, Tryd.ntmps12
  go_wp2
  go_loopw [3, 10] (fun v i wr => ∃ (j : Nat) (vv : Value), j ≤ x.wins.length ∧ i = .int .i64 j ∧ vv = v ∧ Hid (Fr wr (w.heap.size + 1) wr.heap.size vv ((scoresL x).take j) ∧ Below w.heap.size w wr ∧ w.heap.size + 1 ≤ wr.heap.size)) (fun _ i _ => x.wins.length - (intOf i).toNat)
  case atStart => exact ⟨0, _, Nat.zero_le _, rfl, rfl, H0.out⟩
  case round =>
    obtain ⟨j, vv, hj, rfl, rfl, HR⟩ := hrel
    clear H0
    by_cases hlt : j < x.wins.length
    case neg =>
      obtain rfl : j = x.wins.length := by omega
      have h := HR.out.1
      rw [scoresL_all] at h
      have HF := Lib.hid h
      clear h
      go_wp2
      go_ret
      exact ⟨_, rfl, HF.out.wide (by omega) (Nat.le_refl _) (Nat.le_refl _), HR.out.2.1⟩
    have q : wr.cell? ⟨bk, off + j, none⟩ = some (.int .i64 (winN x j : Nat)) := (HR.out.2.1.cell (p := ⟨bk, off + j, none⟩) HC.out.1).trans (HC.out.2 j hlt)
    have HTK := Lib.hid (scoresL_take hlt)
    have HS := Lib.hid (l02Bits_any (winN x j) wr (HW.out j))
    have HL : Hid (((scoresL x).take j).length = j) := by show _ = _; rw [List.length_take, scoresL_len]; omega
    obtain ⟨C, HCe⟩ : ∃ C : Nat, Hid (scN x j = C) := ⟨_, rfl⟩
    rw [HCe.out] at HTK
    rw [show cntL (winN x j) = C from HCe.out] at HS
    go_wp2_with (first
      | (go_at_call 27; refine HS.out.mono ?_; rintro e w2 ⟨rfl, rfl⟩)
      | (at_builtin; refine app1 rfl _ _ rfl wr (w.heap.size + 1) vv j ((scoresL x).take j) rfl (by have h := HR.out.1.1; rw [HL.out] at h; exact h) (C : Int) rfl (by omega) HR.out.2.2 ?_; intro v3 w3 hown hb3 _ _; have hB := hb3 _ (Nat.le_refl _) HR.out.2.2; have H3 : Hid (Fr w3 (w.heap.size + 1) w3.heap.size v3 ((scoresL x).take (j + 1)) ∧ Below w.heap.size w w3 ∧ w.heap.size + 1 ≤ w3.heap.size) := (show _ ∧ _ from ⟨by rw [HTK.out]; exact Fr.of_own (by rw [List.length_append, HL.out]; exact hown), HR.out.2.1.trans (hB.mono (Nat.le_succ _)), Nat.le_trans HR.out.2.2 hB.size⟩); clear hown hb3 hB))
    go_roundw
    case rel => exact ⟨j + 1, _, by omega, by go_num, rfl, H3.out⟩
    case measure => simp [intOf]; omega
end Go.Proofs.YtcnbmcglfkhepaaDoor
