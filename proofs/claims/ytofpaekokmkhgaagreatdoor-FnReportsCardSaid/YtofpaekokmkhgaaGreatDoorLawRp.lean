/- The law FnReports: the walk. -/
import Derived.Test.YtofpaekokmkhgaaGreatDoorMbu
import Derived.Test.YtofpaekokmkhgaaGreatDoorMba
import Derived.Deep.RegionHeld3
namespace Go.Proofs.YtofpaekokmkhgaaGreatDoor
open Go.ChangeShapes Go.WideShapes Go.ChangeAt Go.RowKit

theorem memT_all {S n : Nat} (h : S < 2 ^ n) (hn : n ≤ 8) : memT S n = memL S := memT_done hn (Nat.div_eq_of_lt h)
theorem makePlanZ (v : Value) (n : Nat) (M : Int) (w : World) (hv : InB w v n) (hn : n ≤ 1048576) (h0 : 0 ≤ M) (h1 : M ≤ 1048576) :
    Calls Tryz.prog 5 #[v, .int .i64 M] w fun e w' => ∃ (N : Nat) (vp : Value) (P : List (List Int)), e = .returned (.tuple #[.int .i64 (N : Int), vp]) ∧ planB (N : Int) P = true ∧ InS w' vp P ∧ Below w.heap.size w w' := by
  obtain ⟨k, rfl⟩ := Int.eq_ofNat_of_zero_le h0
  exact makePlan_any v n k w hv hn (by omega)
theorem makeRaceZ (v : Value) (n : Nat) (M : Int) (w : World) (hv : InB w v n) (hn : n ≤ 1048576) (h0 : 0 ≤ M) (h1 : M ≤ 1048576) :
    Calls Tryz.prog 6 #[v, .int .i64 M] w fun e w' => ∃ (vr vg : Value) (r : List Int) (gs : List (List Int)), e = .returned (.tuple #[vr, vg]) ∧ (raceB r gs = true ∧ r.length ≤ 5) ∧ InI w' vr r ∧ InS w' vg gs ∧ Below w.heap.size w w' := by
  obtain ⟨k, rfl⟩ := Int.eq_ofNat_of_zero_le h0
  exact makeRace_any v n k w hv hn (by omega)
/-- What is made of the code. -/
structure RpM (w wr : World) (bt m : Nat) (A : Option Addr) (c N : Nat) (vp vr vg : Value) (xs : List Int) (P : List (List Int)) (ws : List Int) (gs : List (List Int)) : Prop where
  box : Bx wr bt (.int .i64 (m : Int)) (.slice A m c)
  len : xs.length = m
  ok : tourB ⟨(m : Int), xs⟩ = true
  tour : InI wr (.slice A m c) xs
  pl : planB (N : Int) P = true
  plan : InS wr vp P
  race : raceB ws gs = true
  r5 : ws.length ≤ 5
  wins : InI wr vr ws
  left : InS wr vg gs
  be : Below w.heap.size w wr
theorem RpM.below {w wr w2 : World} {bt m c N : Nat} {A : Option Addr} {vp vr vg : Value} {xs ws : List Int} {P gs : List (List Int)} (h : RpM w wr bt m A c N vp vr vg xs P ws gs) (hb : Below wr.heap.size wr w2) : RpM w w2 bt m A c N vp vr vg xs P ws gs :=
  ⟨h.box.below hb, h.len, h.ok, h.tour.below hb, h.pl, h.plan.below hb, h.race, h.r5, h.wins.below hb, h.left.below hb, h.be.trans (hb.mono h.be.size)⟩
/-- The two lists being made. -/
structure RpL (w3 wr : World) (vi vm : Value) (bs ms : List Int) : Prop where
  two : Two wr w3.heap.size vi vm bs ms
  be : Below w3.heap.size w3 wr
theorem RpL.start (w3 : World) : RpL w3 ((w3.alloc (.cells #[] 3)).alloc (.cells #[] 3)) (.slice (some ⟨w3.heap.size, 0, none⟩) 0 0) (.slice (some ⟨w3.heap.size + 1, 0, none⟩) 0 0) [] [] := by
  have h1 : Fr (w3.alloc (.cells #[] 3)) w3.heap.size (w3.alloc (.cells #[] 3)).heap.size (.slice (some ⟨w3.heap.size, 0, none⟩) 0 0) [] := Fr.of_own (xs := []) (World.ownsRow_lit (base := w3.heap.size) (e := 3) (size := 1) w3 #[] 0 (Nat.le_refl _) (by unfold maxLen; omega) rfl)
  have hz : (w3.alloc (.cells #[] 3)).heap.size = w3.heap.size + 1 := by simp
  have b1 : Below w3.heap.size w3 (w3.alloc (.cells #[] 3)) := (Below.refl _ _).alloc (Nat.le_refl _) _
  generalize w3.alloc (.cells #[] 3) = W at *
  have b2 : Below W.heap.size W (W.alloc (.cells #[] 3)) := (Below.refl _ _).alloc (Nat.le_refl _) _
  have h2 : Fr (W.alloc (.cells #[] 3)) W.heap.size (W.alloc (.cells #[] 3)).heap.size (.slice (some ⟨W.heap.size, 0, none⟩) 0 0) [] := Fr.of_own (xs := []) (World.ownsRow_lit (base := W.heap.size) (e := 3) (size := 1) W #[] 0 (Nat.le_refl _) (by unfold maxLen; omega) rfl)
  rw [hz] at h2
  refine ⟨⟨(h1.grow b2).wide (Nat.le_refl _) b2.size (Nat.le_refl _), h2.wide (Nat.le_succ _) (Nat.le_refl _) (Nat.le_refl _), fun g hg hg2 => ?_⟩, b1.trans (b2.mono b1.size)⟩
  simp only [Value.ownBlock, Option.some.injEq] at hg hg2
  omega
theorem RpL.grow {w3 wr w2 : World} {vi vm : Value} {bs ms : List Int} (h : RpL w3 wr vi vm bs ms) (hb : Below wr.heap.size wr w2) : RpL w3 w2 vi vm bs ms := ⟨h.two.below hb, h.be.trans (hb.mono h.be.size)⟩
set_option maxHeartbeats 8000000 in
set_option maxRecDepth 100000 in
theorem lawFnReports (v : Value) (n : Nat) (w : World) (hv : InB w v n) (ht : tabP w) :
    Calls Tryz.prog 3 #[v] w fun e w' => e = .returned (.bool true) ∧ Below w.heap.size w w' := by
  have HV := Lib.hid hv
  have HT := Lib.hid ht
  obtain ⟨A0, c0, rfl, hc, hm, -⟩ := hv
  unfold maxLen at hm
  clear ht
  by_cases hn : n ≤ 1048576
  case neg =>
    go_enter Tryz.func3, Tryz.ntmps3
    go_wp2
    go_ret
    exact ⟨rfl, Below.refl _ _⟩
  go_enter Tryz.func3, Tryz.ntmps3
  go_wp2_with fail
  refine (makeTour_any _ n w HV.out hn).mono ?_
  rintro e w1 ⟨m, A, c, xs, rfl, hl, hok, hin, hb1⟩
  have b2 : Below w1.heap.size w1 (w1.alloc (.cells #[.int .i64 (m : Int), .slice A m c] 25)) := (Below.refl _ w1).alloc (Nat.le_refl _) _
  have H1 : Hid (Bx (w1.alloc (.cells #[.int .i64 (m : Int), .slice A m c] 25)) w1.heap.size (.int .i64 (m : Int)) (.slice A m c) ∧ xs.length = m ∧ tourB ⟨(m : Int), xs⟩ = true ∧ InI (w1.alloc (.cells #[.int .i64 (m : Int), .slice A m c] 25)) (.slice A m c) xs ∧ Below w.heap.size w (w1.alloc (.cells #[.int .i64 (m : Int), .slice A m c] 25))) :=
    ⟨⟨by simp, by simp, by simp⟩, hl, hok, hin.below b2, hb1.trans (b2.mono hb1.size)⟩
  clear hl hok hin hb1 b2
  go_wp2_with fail
  refine (makePlanZ _ n 20 _ (HV.out.below H1.out.2.2.2.2) hn (by decide) (by decide)).mono ?_
  rintro e w2 ⟨N, vp, P, rfl, hpl, hp, hb2⟩
  obtain ⟨bt, hbt⟩ : ∃ bt, w1.heap.size = bt := ⟨_, rfl⟩
  rw [hbt] at H1 ⊢
  have H2 : Hid (Bx w2 bt (.int .i64 (m : Int)) (.slice A m c) ∧ xs.length = m ∧ tourB ⟨(m : Int), xs⟩ = true ∧ InI w2 (.slice A m c) xs ∧ Below w.heap.size w w2 ∧ planB (N : Int) P = true ∧ InS w2 vp P) :=
    ⟨H1.out.1.below hb2, H1.out.2.1, H1.out.2.2.1, H1.out.2.2.2.1.below hb2, H1.out.2.2.2.2.trans (hb2.mono H1.out.2.2.2.2.size), hpl, hp⟩
  clear hpl hp hb2 hbt H1
  go_wp2_with fail
  refine (makeRaceZ _ n 40 _ (HV.out.below H2.out.2.2.2.2.1) hn (by decide) (by decide)).mono ?_
  rintro e w3 ⟨vr, vg, ws, gs, rfl, ⟨hrace, hr5⟩, hvr, hvg, hb3⟩
  have H3 : Hid (RpM w w3 bt m A c N vp vr vg xs P ws gs) := by
    obtain ⟨h1, h2, h3, h4, h5, h6, h7⟩ := H2.out
    exact ⟨h1.below hb3, h2, h3, h4.below hb3, h6, h7.below hb3, hrace, hr5, hvr, hvg, h5.trans (hb3.mono h5.size)⟩
  clear hrace hvr hvg hb3 H2
  have HL := Lib.hid (RpL.start w3)
  have hS5 : stillF ws gs < 2 ^ ws.length := stT_lt ws gs ws.length
  have hS256 : stillF ws gs < 256 := stillF_lt (raceB_t H3.out.race)
  have HME : Hid (memT (stillF ws gs) ws.length = memL (stillF ws gs)) := memT_all hS5 (by omega)
  have HSI : Hid (∀ W, Below w3.heap.size w3 W → Calls Tryz.prog 7 #[vr, vg] W fun e w' => e = .returned (.int .i64 (stillF ws gs : Nat)) ∧ Below W.heap.size W w') := fun W hW => implStillIn_any vr vg ws gs W (H3.out.wins.below hW) (H3.out.left.below hW) H3.out.race
  have HMG : Hid (∀ W j, Below w3.heap.size w3 W → j < ws.length → Calls Tryz.prog 8 #[vr, vg, .int .i64 (j : Int)] W fun e w' => e = .returned (.int .i64 (magF ws gs j)) ∧ Below W.heap.size W w') := fun W j hW hj => implMagic_any vr vg ws gs j W (H3.out.wins.below hW) (H3.out.left.below hW) H3.out.race hj
  obtain ⟨Ar, cr, hvr, hcr, hmr, -⟩ := id H3.out.wins
  subst hvr
  unfold maxLen at hmr
  obtain ⟨S, hS⟩ : ∃ S, stillF ws gs = S := ⟨_, rfl⟩
  have HSe := Lib.hid hS
  rw [hS] at HSI HME hS256
  clear hS hS5
  go_wp2_with fail
  refine (HSI.out _ HL.out.be).mono ?_
  rintro e w4 ⟨rfl, hb4⟩
  have H4 := Lib.hid (HL.out.grow hb4)
  have HMT : Hid (memT S 0 = []) := rfl
  clear hb4 HL HSI
  go_wp2_with fail
  go_loopw [8, 9, 34] (fun s8 s9 i wr => ∃ (a : Nat) (vi vm : Value), a ≤ ws.length ∧ i = .int .i64 a ∧ vi = s8 ∧ vm = s9 ∧ Hid (RpL w3 wr vi vm (memT S a) ((magsF ws gs).take a))) (fun _ _ i _ => ws.length - (intOf i).toNat)
  case atStart => exact ⟨0, _, _, Nat.zero_le _, rfl, rfl, rfl, H4.out⟩
  case round =>
    obtain ⟨a, vi, vm, ha, rfl, rfl, rfl, HR⟩ := hrel
    clear H4
    by_cases hlt : a < ws.length
    case pos =>
      have hb := bits_low (k := a) hS256
      have hD : (S : Int) / 2 ^ a = ((S / 2 ^ a : Nat) : Int) := by rw [Int.natCast_ediv, Int.natCast_pow]; rfl
      rw [hD] at hb
      have HD := Lib.hid hD
      obtain ⟨D, HDe⟩ : ∃ D : Nat, Hid (S / 2 ^ a = D) := ⟨_, rfl⟩
      rw [HDe.out] at hD hb
      have ha64 : (a : Int) < 64 := by omega
      have hK1 : Hid ((memT S a).length ≤ 1048576) := by show _ ≤ _; rw [memT_len]; have := cntT_le S a; omega
      have hK2 : Hid (((magsF ws gs).take a).length ≤ 1048576) := by show _ ≤ _; rw [List.length_take]; omega
      have HTK := Lib.hid (magsF_take (gs := gs) hlt)
      cases ht : S.testBit a
      · rw [ht] at hb
        simp only [Bool.false_eq_true, if_false] at hb
        have HN : Hid (memT S (a + 1) = memT S a) := memT_out ht
        clear ht
        go_wp2_with (first
          | (go_at_call 8; refine (HMG.out _ a HR.out.be hlt).mono ?_; rintro e w5 ⟨rfl, hb5⟩; have H5 := Lib.hid (HR.out.grow hb5); clear hb5)
          | (at_builtin; refine app1At rfl _ _ rfl w5 w3.heap.size vm _ ((magsF ws gs).take a) rfl H5.out.two.fw.own _ rfl hK2.out H5.out.be.size ?_; intro v6 w6 hown6 hb6 hl6 hg6 ho6; have H6 : Hid (RpL w3 w6 vi v6 (memT S (a + 1)) ((magsF ws gs).take (a + 1))) := (show RpL _ _ _ _ _ _ from (by rw [HN.out, HTK.out]; exact ⟨H5.out.two.right hown6 hg6 ho6, H5.out.be.trans (hb6 _ (Nat.le_refl _) H5.out.be.size)⟩)); clear hown6 hb6 hl6 hg6 ho6))
        go_roundw
        case rel => exact ⟨a + 1, _, _, by omega, by go_num, rfl, rfl, H6.out⟩
        case measure => simp [intOf]; omega
      · rw [ht] at hb
        simp only [if_true] at hb
        have HN : Hid (memT S (a + 1) = memT S a ++ [(a : Int)]) := memT_in ht
        clear ht
        go_wp2_with (first
          | (at_builtin; have h_ := HR.out; clear h_; refine app1At rfl _ _ rfl wr w3.heap.size vi _ (memT S a) rfl HR.out.two.fb.own _ rfl hK1.out HR.out.be.size ?_; intro v4 w4' hown4 hb4 hl4 hg4 ho4; have H4 : Hid (RpL w3 w4' v4 vm (memT S (a + 1)) ((magsF ws gs).take a)) := (show RpL _ _ _ _ _ _ from (by rw [HN.out]; exact ⟨HR.out.two.left hown4 hg4 ho4, HR.out.be.trans (hb4 _ (Nat.le_refl _) HR.out.be.size)⟩)); clear hown4 hb4 hl4 hg4 ho4 HR)
          | (go_at_call 8; refine (HMG.out _ a H4.out.be hlt).mono ?_; rintro e w5 ⟨rfl, hb5⟩; have H5 := Lib.hid (H4.out.grow hb5); clear hb5)
          | (at_builtin; refine app1At rfl _ _ rfl w5 w3.heap.size vm _ ((magsF ws gs).take a) rfl H5.out.two.fw.own _ rfl hK2.out H5.out.be.size ?_; intro v6 w6 hown6 hb6 hl6 hg6 ho6; have H6 : Hid (RpL w3 w6 v4 v6 (memT S (a + 1)) ((magsF ws gs).take (a + 1))) := (show RpL _ _ _ _ _ _ from (by rw [HTK.out]; exact ⟨H5.out.two.right hown6 hg6 ho6, H5.out.be.trans (hb6 _ (Nat.le_refl _) H5.out.be.size)⟩)); clear hown6 hb6 hl6 hg6 ho6))
        go_roundw
        case rel => exact ⟨a + 1, _, _, by omega, by go_num, rfl, rfl, H6.out⟩
        case measure => simp [intOf]; omega
    obtain rfl : a = ws.length := by omega
    clear HMG
    obtain ⟨wq, rfl⟩ : ∃ W, W = wr := ⟨wr, rfl⟩
    have hRQ := H3.out.below HR.out.be
    have hII : InI wq vi (memL (stillF ws gs)) := by have h := HR.out.two.fb.in_; rw [HME.out, ← HSe.out] at h; exact h
    have hIM : InI wq vm (magsF ws gs) := by have h := HR.out.two.fw.in_; rw [magsF_all] at h; exact h
    obtain ⟨SL, OL, TR, FE, PN, BR, CV, T1, T2, T3, T4, T5, T6, T7, T8, T9, hC⟩ := rpC_of hRQ.len hRQ.ok hRQ.tour hRQ.pl hRQ.plan hRQ.race hRQ.r5 hRQ.wins hRQ.left hII hIM (HT.out.below hRQ.be (Nat.le_refl _))
    have C := Lib.hid hC
    have HE := Lib.hid hRQ.be
    have KQ : Hid (∀ W, Below wq.heap.size wq W → W.cell? ⟨bt, 0, none⟩ = some (.int .i64 (m : Int)) ∧ W.cell? ⟨bt, 1, none⟩ = some (.slice A m c)) := fun W hW => ⟨(hRQ.box.below hW).1, (hRQ.box.below hW).2.1⟩
    obtain ⟨q0, q1⟩ := KQ.out _ (Below.refl _ _)
    obtain ⟨g1, g2, g3, g4, g5, g6, g7, g8, g9⟩ := hC.len
    have HB : Hid (Below wq.heap.size wq wq.drew) := below_drewL (Below.refl _ _)
    clear hRQ hII hIM hC HR H3 HME HSe hr5 hS256
    have n1 : ¬ 9223372036854775807 < 7 + T1.length := by omega
    have n2 : ¬ 9223372036854775807 < 7 + T1.length + 11 := by omega
    have n3 : ¬ 9223372036854775807 < 7 + T1.length + 11 + T2.length := by omega
    have n4 : ¬ 9223372036854775807 < 7 + T1.length + 11 + T2.length + 7 := by omega
    have n5 : ¬ 9223372036854775807 < 7 + T1.length + 11 + T2.length + 7 + T3.length := by omega
    have n6 : ¬ 9223372036854775807 < T4.length + 1 := by omega
    have n7 : ¬ 9223372036854775807 < T4.length + 1 + T5.length := by omega
    have n8 : ¬ 9223372036854775807 < 7 + T6.length := by omega
    have n9 : ¬ 9223372036854775807 < 7 + T6.length + 7 := by omega
    have n10 : ¬ 9223372036854775807 < 7 + T6.length + 7 + T7.length := by omega
    have n11 : ¬ 9223372036854775807 < 3 + T8.length := by omega
    have n12 : ¬ 9223372036854775807 < 3 + T8.length + 7 := by omega
    have n13 : ¬ 9223372036854775807 < 3 + T8.length + 7 + T9.length := by omega
    clear g1 g2 g3 g4 g5 g6 g7 g8 g9
    go_wp2_with fail
    simp only [List.append]
    -- region 16
    have k0 : Hid True := trivial
    go_region_held3 (fun W => W.cell? ⟨bt, 0, none⟩ = some (.int .i64 (m : Int)) ∧ W.cell? ⟨bt, 1, none⟩ = some (.slice A m c)) (first | exact ⟨q0, q1⟩ | exact KQ.out _ HB.out | exact KQ.out _ (HB.out.trans (((Below.refl _ _).alloc (Nat.le_refl _) _).mono HB.out.size))) (first
      | (go_at_call 9; have h_ := k0.out; clear h_ k0; (with_reducible refine (C.out.cScore _ HB.out).mono ?_); rintro e x0 ⟨rfl, hb⟩; replace HB : Hid (Below wq.heap.size wq x0) := HB.out.trans (hb.mono HB.out.size); clear hb; have k1 : Hid True := trivial)
      | (go_at_call 11; have h_ := k1.out; clear h_ k1; (with_reducible refine (C.out.cScores _ HB.out).mono ?_); rintro e x1 ⟨v1, rfl, hi, hb⟩; have HI1 := Lib.hid hi; clear hi; replace HB : Hid (Below wq.heap.size wq x1) := HB.out.trans (hb.mono HB.out.size); clear hb; have k2 : Hid True := trivial)
      | (go_at_call 10; have h_ := k2.out; clear h_ k2; (with_reducible refine (C.out.cF1 _ _ HI1.out HB.out).mono ?_); rintro e x2 ⟨rfl, hb⟩; clear HI1; replace HB : Hid (Below wq.heap.size wq x2) := HB.out.trans (hb.mono HB.out.size); clear hb; have k3 : Hid True := trivial)
      | (go_at_call 13; have h_ := k3.out; clear h_ k3; (with_reducible refine (C.out.cTri _ HB.out).mono ?_); rintro e x3 ⟨rfl, hb⟩; replace HB : Hid (Below wq.heap.size wq x3) := HB.out.trans (hb.mono HB.out.size); clear hb; have k4 : Hid True := trivial)
      | (go_at_call 12; have h_ := k4.out; clear h_ k4; (with_reducible refine (C.out.cF2 _ HB.out).mono ?_); rintro e x4 ⟨rfl, hb⟩; replace HB : Hid (Below wq.heap.size wq x4) := HB.out.trans (hb.mono HB.out.size); clear hb; have k5 : Hid True := trivial)
      | (go_at_call 14; have h_ := k5.out; clear h_ k5; (with_reducible refine (C.out.cParts _ HB.out).mono ?_); rintro e x5 ⟨B6, d6, rfl, hb⟩; replace HB : Hid (Below wq.heap.size wq x5) := HB.out.trans (hb.mono HB.out.size); clear hb; have k6 : Hid True := trivial)
      | (go_at_call 12; have h_ := k6.out; clear h_ k6; (with_reducible refine (C.out.cF3 _ HB.out).mono ?_); rintro e x6 ⟨rfl, hb⟩; replace HB : Hid (Below wq.heap.size wq x6) := HB.out.trans (hb.mono HB.out.size); clear hb; have k7 : Hid True := trivial)
      | (go_at_call 15; have h_ := k7.out; clear h_ k7; (with_reducible refine (C.out.cOrder _ HB.out).mono ?_); rintro e x7 ⟨rfl, hb⟩; replace HB : Hid (Below wq.heap.size wq x7) := HB.out.trans (hb.mono HB.out.size); clear hb; have k8 : Hid True := trivial)
      | (go_at_call 16; have h_ := k8.out; clear h_ k8; (with_reducible refine (C.out.cBest _ HB.out).mono ?_); rintro e x8 ⟨v2, rfl, hi, hb⟩; have HI2 := Lib.hid hi; clear hi; replace HB : Hid (Below wq.heap.size wq x8) := HB.out.trans (hb.mono HB.out.size); clear hb; have k9 : Hid True := trivial)
      | (go_at_call 10; have h_ := k9.out; clear h_ k9; (with_reducible refine (C.out.cF4 _ _ HI2.out HB.out).mono ?_); rintro e x9 ⟨rfl, hb⟩; clear HI2; replace HB : Hid (Below wq.heap.size wq x9) := HB.out.trans (hb.mono HB.out.size); clear hb; have k10 : Hid True := trivial)
      | (go_at_call 17; have h_ := k10.out; clear h_ k10; (with_reducible refine (C.out.cFew _ HB.out).mono ?_); rintro e x10 ⟨rfl, hb⟩; replace HB : Hid (Below wq.heap.size wq x10) := HB.out.trans (hb.mono HB.out.size); clear hb; have k11 : Hid True := trivial)
      | (go_at_call 12; have h_ := k11.out; clear h_ k11; (with_reducible refine (C.out.cF5 _ HB.out).mono ?_); rintro e x11 ⟨rfl, hb⟩; replace HB : Hid (Below wq.heap.size wq x11) := HB.out.trans (hb.mono HB.out.size); clear hb; have k12 : Hid True := trivial)
      | (go_at_call 18; have h_ := k12.out; clear h_ k12; (with_reducible refine (C.out.cPlan _ HB.out).mono ?_); rintro e x12 ⟨rfl, hb⟩; replace HB : Hid (Below wq.heap.size wq x12) := HB.out.trans (hb.mono HB.out.size); clear hb; have k13 : Hid True := trivial)
      | (go_at_call 19; have h_ := k13.out; clear h_ k13; (with_reducible refine (C.out.cBreaks _ HB.out).mono ?_); rintro e x13 ⟨rfl, hb⟩; replace HB : Hid (Below wq.heap.size wq x13) := HB.out.trans (hb.mono HB.out.size); clear hb; have k14 : Hid True := trivial)
      | (go_at_call 12; have h_ := k14.out; clear h_ k14; (with_reducible refine (C.out.cF6 _ HB.out).mono ?_); rintro e x14 ⟨rfl, hb⟩; replace HB : Hid (Below wq.heap.size wq x14) := HB.out.trans (hb.mono HB.out.size); clear hb; have k15 : Hid True := trivial)
      | (go_at_call 20; have h_ := k15.out; clear h_ k15; (with_reducible refine (C.out.cCarry _ HB.out).mono ?_); rintro e x15 ⟨rfl, hb⟩; replace HB : Hid (Below wq.heap.size wq x15) := HB.out.trans (hb.mono HB.out.size); clear hb; have k16 : Hid True := trivial)
      | (go_at_call 12; have h_ := k16.out; clear h_ k16; (with_reducible refine (C.out.cF7 _ HB.out).mono ?_); rintro e x16 ⟨rfl, hb⟩; replace HB : Hid (Below wq.heap.size wq x16) := HB.out.trans (hb.mono HB.out.size); clear hb; have k17 : Hid True := trivial)
      | (go_at_call 21; have h_ := k17.out; clear h_ k17; (with_reducible refine (C.out.cRace _ HB.out).mono ?_); rintro e x17 ⟨rfl, hb⟩; replace HB : Hid (Below wq.heap.size wq x17) := HB.out.trans (hb.mono HB.out.size); clear hb; have k18 : Hid True := trivial)
      | (go_at_call 10; have h_ := k18.out; clear h_ k18; (with_reducible refine (C.out.cF8 _ HB.out).mono ?_); rintro e x18 ⟨rfl, hb⟩; replace HB : Hid (Below wq.heap.size wq x18) := HB.out.trans (hb.mono HB.out.size); clear hb; have k19 : Hid True := trivial)
      | (go_at_call 10; have h_ := k19.out; clear h_ k19; (with_reducible refine (C.out.cF9 _ HB.out).mono ?_); rintro e x19 ⟨rfl, hb⟩; replace HB : Hid (Below wq.heap.size wq x19) := HB.out.trans (hb.mono HB.out.size); clear hb; have k20 : Hid True := trivial)
      | (go_at_call 10; have h_ := k20.out; clear h_ k20; (with_reducible refine (C.out.cLit _ HB.out).mono ?_); rintro e x20 ⟨rfl, hb⟩; replace HB : Hid (Below wq.heap.size wq x20) := HB.out.trans (hb.mono HB.out.size); clear hb; have k21 : Hid True := trivial))
    -- end of region 16
    all_goals go_wp2
    all_goals go_ret
    all_goals exact ⟨rfl, HE.out.trans (HB.out.mono HE.out.size)⟩
end Go.Proofs.YtofpaekokmkhgaaGreatDoor
