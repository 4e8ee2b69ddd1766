/- The circle's plan at a few clubs: the walk. -/
import Derived.Test.YtofpaekokmkhgaaGreatDoorPld
import Derived.Deep.Cut
import Derived.Deep.CutRange
import Derived.Deep.DeepCutAuto
namespace Go.Proofs.YtofpaekokmkhgaaGreatDoor
open Go.ChangeShapes Go.WideShapes Go.ChangeAt Go.RowKit

theorem tm_cast {a : Int} {q m : Nat} (h0 : 0 ≤ a) (h : a.toNat % m = q) : Int.tmod a (m : Int) = (q : Int) ∧ a % (m : Int) = (q : Int) := by
  obtain ⟨k, rfl⟩ := Int.eq_ofNat_of_zero_le h0
  rw [Int.tmod_eq_emod_of_nonneg h0]
  subst h
  exact ⟨rfl, rfl⟩
theorem even2 {n : Nat} (h : n % 2 = 0) : 2 * (n / 2) = n := by omega
/-- A round being laid: its row, the world below it. -/
structure CiR (wr : World) (w1 : World) (g n : Nat) (xs : List Int) : Prop where
  fr : Fr w1 wr.heap.size w1.heap.size (.slice (some ⟨g, 0, none⟩) n n) xs
  be : Below wr.heap.size wr w1
theorem CiR.len {wr w1 : World} {g n : Nat} {xs : List Int} (h : CiR wr w1 g n xs) : xs.length = n := h.fr.len.symm
theorem CiR.set {wr w1 : World} {g n : Nat} {xs : List Int} (h : CiR wr w1 g n xs) {k : Nat} (hk : k < n) : (∃ z, w1.cell? ⟨g, k, none⟩ = some z) ∧ w1.frozen? ⟨g, k, none⟩ = false ∧ ∀ y, CiR wr (w1.setCell ⟨g, k, none⟩ (.int .i64 y)) g n (xs.set k y) := by
  obtain ⟨g', x, e, hg1, hg2, hx, hc, hf, hst⟩ := h.fr.at_ (k := k) (by rw [h.len]; exact hk)
  injection e with e
  injection e with e
  subst e
  exact ⟨⟨_, hc⟩, hf, fun y => ⟨(hst y).1.wide (Nat.le_refl _) (hst y).2.size (Nat.le_refl _), h.be.trans ((hst y).2.below (Nat.le_refl _) h.be.size)⟩⟩
set_option maxHeartbeats 4000000 in
set_option maxRecDepth 100000 in
theorem circle_any (n M H : Nat) (w : World) (h2 : 2 ≤ n) (h8 : n ≤ 8) (hMn : n = M + 1) (hHn : 2 * H = n) (hcb : clubsB (n : Int) = true) :
    Calls Tryz.prog 52 #[.int .i64 (n : Int)] w fun e w' => ∃ v', e = .returned (.tuple #[v', .bool true]) ∧ OwS w' w.heap.size w'.heap.size v' (circP n M) ∧ Below w.heap.size w w' := by
  have HT := Lib.hid (TuP.start w)
  have HMn := Lib.hid hMn
  have HHn := Lib.hid hHn
  have hM : (n : Int) - 1 = (M : Int) := by omega
  have hH1 : Int.tdiv (n : Int) 2 = (H : Int) := by rw [Int.tdiv_eq_ediv_of_nonneg (by omega)]; omega
  have hH2 : (n : Int) / 2 = (H : Int) := by omega
  have hM1 : 1 ≤ M := by omega
  have hMl : (M : Int) < n := by omega
  clear hMn hHn
  go_enter Tryz.func52, Tryz.ntmps52
  go_wp2_with fail
  refine (l16Size_any (n : Int) w).mono ?_
  rintro e w1 ⟨rfl, rfl⟩
  rw [hcb]
  clear hcb
  go_wp2_with fail
  go_loopw [4, 5] (fun g i wr => ∃ (r : Nat) (gv : Value), r ≤ M ∧ i = .int .i64 r ∧ gv = g ∧ Hid (TuP w w.heap.size wr gv (circP n r))) (fun _ i _ => M - (intOf i).toNat)
  case atStart => exact ⟨0, _, Nat.zero_le _, rfl, rfl, HT.out⟩
  case round =>
    obtain ⟨r, gv, hr, rfl, rfl, HR⟩ := hrel
    clear HT
    by_cases hlt : r < M
    case neg =>
      obtain rfl : r = M := by omega
      go_wp2
      go_ret2
      exact ⟨_, rfl, HR.out.ow, HR.out.be⟩
    have hri : (r : Int) < M := by omega
    have hrn : (r : Int) < n := by omega
    obtain ⟨wz, rfl⟩ : ∃ W, W = wr := ⟨wr, rfl⟩
    have hin : r < n := by omega
    have hMn2 : M < n := by omega
    go_upto_if 24 with (at_make; refine makeI rfl _ _ rfl _ n rfl rfl (by omega) ?_; intro w1 hfr hb hsz; have H1 : Hid (CiR wz w1 wz.heap.size n (List.replicate n 0)) := ⟨hfr, hb⟩; clear hfr hb hsz)
    go_cut [] (fun wx => Hid (CiR wz wx wz.heap.size n (cir0 n r)))
    case first =>
      have hM2 : n - 1 = M := by have := HMn.out; omega
      rcases Nat.mod_two_eq_zero_or_one r with hr2 | hr2
      · have hc0 : cir0 n r = ((List.replicate n 0).set r (n : Int)).set M (-(r : Int) - 1) := by rw [cir0, if_neg (by omega), hM2]
        have HC0 := Lib.hid hc0
        have ht : ((r : Int) % 2 == 1) = false := by rw [show (r : Int) % 2 = 0 from by omega]; rfl
        obtain ⟨⟨z1, d1⟩, f1, s1⟩ := H1.out.set (k := r) hin
        obtain ⟨⟨z2, d2⟩, f2, s2⟩ := (s1 ((n : Int))).set (k := M) hMn2
        have HS2 := Lib.hid (s2 (-(r : Int) - 1))
        clear s1 s2
        clear hc0 hM2 hr2
        go_wp2
        go_meet
        show Hid _
        rw [HC0.out]
        exact HS2
      · have hc0 : cir0 n r = ((List.replicate n 0).set M ((r : Int) + 1)).set r (-(n : Int)) := by rw [cir0, if_pos hr2, hM2]
        have HC0 := Lib.hid hc0
        have ht : ((r : Int) % 2 == 1) = true := by rw [show (r : Int) % 2 = 1 from by omega]; rfl
        obtain ⟨⟨z1, d1⟩, f1, s1⟩ := H1.out.set (k := M) hMn2
        obtain ⟨⟨z2, d2⟩, f2, s2⟩ := (s1 ((r : Int) + 1)).set (k := r) hin
        have HS2 := Lib.hid (s2 (-(n : Int)))
        clear s1 s2
        clear hc0 hM2 hr2
        go_wp2
        go_meet
        show Hid _
        rw [HC0.out]
        exact HS2
    case rest =>
      clear H1
      go_wp2
      go_loopw [7] (fun s wr => ∃ j : Nat, j + 1 ≤ H ∧ s = .int .i64 ((j + 1 : Nat) : Int) ∧ Hid (CiR wz wr wz.heap.size n (cirR n r j))) (fun s _ => H - (intOf s).toNat)
      case atStart => exact ⟨0, by have := HHn.out; omega, rfl, hcut.out⟩
      case round =>
        clear hcut
        obtain ⟨j, hj, rfl, HI⟩ := hrel
        by_cases hlt2 : j + 1 < H
        case neg =>
          have hjH : j = n / 2 - 1 := by have := HHn.out; omega
          have HI2 : Hid (CiR wz wr wz.heap.size n (cirR n r (n / 2 - 1))) := by rw [← hjH]; exact HI.out
          have hgl : (circP n r).length ≤ 1048576 := by rw [circP, List.length_map, List.length_range]; omega
          have HGL := Lib.hid hgl
          have hjI : ¬ ((j : Int) + 1 < H) := by omega
          obtain ⟨vs, hown6, hpush⟩ := HR.out.ow.pushed HI2.out.be HI2.out.fr
          have HO := Lib.hid hown6
          have HP := Lib.hid hpush
          clear hown6 hpush hgl hjH HI
          go_wp2_with (at_builtin; refine appS rfl _ _ rfl wr w.heap.size gv (circP n r).length vs rfl HO.out _ _ _ rfl HGL.out (Nat.le_trans HR.out.lo1 HI2.out.be.size) ?_; intro v7 w7 hown7 hb7 _ hg7; have H7 : Hid (TuP w w.heap.size w7 v7 (circP n (r + 1))) := (by rw [circP_snoc]; exact HR.out.next HI2.out.be hb7 (HP.out _ _ hown7 hg7)); clear hown7 hb7 hg7)
          go_roundw
          case rel => exact ⟨r + 1, _, by omega, by go_num, rfl, H7.out⟩
          case measure => simp [intOf]; omega
        have hjI : (j : Int) + 1 < H := by omega
        have hHn := HHn.out
        have hMn := HMn.out
        obtain ⟨I, hI⟩ : ∃ I, cirI n r (j + 1) = I := ⟨_, rfl⟩
        obtain ⟨K, hK⟩ : ∃ K, cirK n r (j + 1) = K := ⟨_, rfl⟩
        have hIe : (r + (j + 1)) % M = I := by rw [← hI, cirI, hMn, Nat.add_sub_cancel]
        have hKe : (r + M - (j + 1)) % M = K := by rw [← hK, cirK, hMn, Nat.add_sub_cancel]
        have hIM : I < M := by rw [← hIe]; exact Nat.mod_lt _ (by omega)
        have hKM : K < M := by rw [← hKe]; exact Nat.mod_lt _ (by omega)
        obtain ⟨p3, p4⟩ := tm_cast (a := (r : Int) + ((j : Int) + 1)) (m := M) (q := I) (by omega) (by rw [show ((r : Int) + ((j : Int) + 1)).toNat = r + (j + 1) from by omega]; exact hIe)
        obtain ⟨p5, p6⟩ := tm_cast (a := (r : Int) - ((j : Int) + 1) + (n : Int) - 1) (m := M) (q := K) (by omega) (by rw [show ((r : Int) - ((j : Int) + 1) + (n : Int) - 1).toNat = r + M - (j + 1) from by omega]; exact hKe)
        have HIK : Hid (cirI n r (j + 1) = I ∧ cirK n r (j + 1) = K) := ⟨hI, hK⟩
        have hIi : (I : Int) < n := by omega
        have hKi : (K : Int) < n := by omega
        have hIn : I < n := by omega
        have hKn : K < n := by omega
        clear hI hK hIe hKe hHn hMn
        rcases Nat.mod_two_eq_zero_or_one (j + 1) with hr2 | hr2
        · have hc0 : cirR n r (j + 1) = ((cirR n r j).set K ((I : Int) + 1)).set I (-(K : Int) - 1) := by rw [cirR, cirS, if_neg (by omega), HIK.out.1, HIK.out.2]
          have HC0 := Lib.hid hc0
          have ht1 : ((j : Int) + 1) % 2 = 0 := by omega
          have ht2 : Int.tmod ((j : Int) + 1) 2 = 0 := by rw [Int.tmod_eq_emod_of_nonneg (by omega)]; exact ht1
          obtain ⟨⟨z1, d1⟩, f1, s1⟩ := HI.out.set (k := K) hKn
          obtain ⟨⟨z2, d2⟩, f2, s2⟩ := (s1 ((I : Int) + 1)).set (k := I) hIn
          have HS2 := Lib.hid (s2 (-(K : Int) - 1))
          clear s1 s2
          clear hc0 hr2
          go_wp2
          go_roundw
          case rel => exact ⟨j + 1, by omega, by go_num, by rw [HC0.out]; exact HS2.out⟩
          case measure => simp [intOf]; omega
        · have hc0 : cirR n r (j + 1) = ((cirR n r j).set I ((K : Int) + 1)).set K (-(I : Int) - 1) := by rw [cirR, cirS, if_pos hr2, HIK.out.1, HIK.out.2]
          have HC0 := Lib.hid hc0
          have ht1 : ((j : Int) + 1) % 2 = 1 := by omega
          have ht2 : Int.tmod ((j : Int) + 1) 2 = 1 := by rw [Int.tmod_eq_emod_of_nonneg (by omega)]; exact ht1
          obtain ⟨⟨z1, d1⟩, f1, s1⟩ := HI.out.set (k := I) hIn
          obtain ⟨⟨z2, d2⟩, f2, s2⟩ := (s1 ((K : Int) + 1)).set (k := K) hKn
          have HS2 := Lib.hid (s2 (-(I : Int) - 1))
          clear s1 s2
          clear hc0 hr2
          go_wp2
          go_roundw
          case rel => exact ⟨j + 1, by omega, by go_num, by rw [HC0.out]; exact HS2.out⟩
          case measure => simp [intOf]; omega
end Go.Proofs.YtofpaekokmkhgaaGreatDoor
namespace Go.Proofs.YtofpaekokmkhgaaGreatDoor
open Go.ChangeShapes Go.WideShapes Go.ChangeAt Go.RowKit

/-- A plan that is drawn, the cursor beside it. -/
structure PdR (w wr : World) (p : Nat) (v : Value) (n N : Nat) (vp : Value) (P : List (List Int)) : Prop where
  cur : Cur wr p v n
  keep : Keep p (p + 1) w wr
  far : InSF w.heap.size wr vp P
  pl : planB (N : Int) P = true
theorem PdR.draw {w wr w2 : World} {p n N : Nat} {v vp : Value} {P : List (List Int)} (h : PdR w wr p v n N vp P) (hp : p < w.heap.size) (hc : Cur w2 p v n) (hk : Keep p (p + 1) wr w2) : PdR w w2 p v n N vp P :=
  ⟨hc, h.keep.trans hk, h.far.keep hk hp, h.pl⟩
theorem PdR.next {w wr w2 : World} {p n N : Nat} {v vp vp' : Value} {P P' : List (List Int)} (h : PdR w wr p v n N vp P) (hc0 : Cur w p v n) (hf : InSF wr.heap.size w2 vp' P') (hpl : planB (N : Int) P' = true) (hb : Below wr.heap.size wr w2) : PdR w w2 p v n N vp' P' :=
  ⟨hc0.far h.cur h.keep.size hb, h.keep.far hb h.keep.size, hf.wide h.keep.size, hpl⟩
set_option maxHeartbeats 4000000 in
set_option maxRecDepth 100000 in
theorem l16Draw_any (p : Nat) (v : Value) (n : Nat) (w : World) (hc : Cur w p v n) (hn : n ≤ 1048576) :
    Calls Tryz.prog 24 #[.pointer (some ⟨p, 0, none⟩)] w fun e w' => ∃ (N : Nat) (vp : Value) (P : List (List Int)), e = .returned (.tuple #[.int .i64 (N : Int), vp]) ∧ planB (N : Int) P = true ∧ InS w' vp P ∧ Cur w' p v n ∧ Keep p (p + 1) w w' := by
  have HC := Lib.hid hc
  have hp := hc.lt
  clear hc
  go_enter Tryz.func24, Tryz.ntmps24
  go_wp2_with fail
  refine (l01Pick_any p v n w HC.out hn).mono ?_
  rintro e w1 ⟨N, hN, rfl, hc1, hk1⟩
  have H1 : Hid (Cur w1 p v n ∧ Keep p (p + 1) w w1) := ⟨hc1, hk1⟩
  clear hc1 hk1
  obtain ⟨M, H, hMn, hHn, hcb, hM7⟩ : ∃ M H, N = M + 1 ∧ 2 * H = N ∧ clubsB (N : Int) = true ∧ 1 ≤ M ∧ M ≤ 7 := ⟨N - 1, N / 2, by omega, by omega, by rcases hN with rfl | rfl | rfl | rfl <;> rfl, by omega, by omega⟩
  have HNM := Lib.hid (And.intro hN hMn)
  have HCP : Hid (planB (N : Int) (circP N M) = true ∧ (circP N M).length = M) := ⟨by have h := circP_ok hN; rw [hMn, Nat.add_sub_cancel] at h; rw [hMn]; exact h, by rw [circP, List.length_map, List.length_range]⟩
  have HCC := Lib.hid (circle_any N M H w1 (by omega) (by omega) hMn hHn hcb)
  have hNM : (N : Int) - 1 = (M : Int) := by omega
  clear hN hMn hHn hcb H
  go_wp2_with fail
  refine HCC.out.mono ?_
  rintro e w2 ⟨v2, rfl, ho2, hb2⟩
  have H2 : Hid (PdR w w2 p v n N v2 (circP N M)) := ⟨HC.out.far H1.out.1 H1.out.2.size hb2, H1.out.2.far hb2 H1.out.2.size, ho2.far.wide H1.out.2.size, HCP.out.1⟩
  clear ho2 hb2 H1 HCC
  go_wp2_with fail
  refine (l01Below_any p v n 4 _ H2.out.cur hn (by omega) (by omega)).mono ?_
  rintro e w3 ⟨k, hk, rfl, hc3, hk3⟩
  have H3 := Lib.hid (H2.out.draw hp hc3 hk3)
  clear hc3 hk3 H2
  obtain ⟨k, rfl⟩ := Int.eq_ofNat_of_zero_le hk.1
  have hk4 : k ≤ 3 := by omega
  clear hk
  go_wp2_with fail
  go_loopw [5, 7] (fun s i wr => ∃ (k : Nat) (vp : Value) (P : List (List Int)), k ≤ 3 ∧ i = .int .i64 (k : Int) ∧ vp = s ∧ Hid (PdR w wr p v n N vp P ∧ P.length = M)) (fun _ i _ => (intOf i).toNat)
  case atStart => exact ⟨k, _, _, hk4, rfl, rfl, H3.out, HCP.out.2⟩
  case round =>
    clear H3 HCP hk4
    obtain ⟨k, vp, P, hk4, rfl, rfl, HR⟩ := hrel
    by_cases hk0 : 0 < k
    case pos =>
      have hM1 : (1 : Int) ≤ M := by omega
      have hM2 : (M : Int) ≤ 7 := by omega
      go_wp2_with fail
      refine (l01Below_any p v n (M : Int) _ HR.out.1.cur hn (by omega) (by omega)).mono ?_
      rintro e w4 ⟨r, hr, rfl, hc4, hk4'⟩
      have H4 : Hid (PdR w w4 p v n N vp P ∧ P.length = M) := ⟨HR.out.1.draw hp hc4 hk4', HR.out.2⟩
      clear hc4 hk4' HR
      obtain ⟨r, rfl⟩ := Int.eq_ofNat_of_zero_le hr.1
      have hrM : r < M := by omega
      clear hr
      go_wp2_with fail
      refine (l01Below_any p v n (M : Int) _ H4.out.1.cur hn (by omega) (by omega)).mono ?_
      rintro e w5 ⟨s, hs, rfl, hc5, hk5⟩
      have H5 : Hid (PdR w w5 p v n N vp P ∧ P.length = M) := ⟨H4.out.1.draw hp hc5 hk5, H4.out.2⟩
      clear hc5 hk5 H4
      obtain ⟨s, rfl⟩ := Int.eq_ofNat_of_zero_le hs.1
      have hsM : s < M := by omega
      clear hs
      go_wp2_with fail
      refine (swapRounds_any (N : Int) vp P r s w5 H5.out.1.far.in_ H5.out.1.pl (by rw [H5.out.2]; exact hrM) (by rw [H5.out.2]; exact hsM)).mono ?_
      rintro e w6 ⟨vp', P', rfl, hpl', hf', hb6⟩
      have H6 : Hid (PdR w w6 p v n N vp' P' ∧ P'.length = M) := ⟨H5.out.1.next HC.out hf' hpl'.1 hb6, hpl'.2.trans H5.out.2⟩
      clear hpl' hf' hb6 H5
      go_wp2
      go_roundw
      case rel => exact ⟨k - 1, vp', P', by omega, by go_num, rfl, H6.out⟩
      case measure => simp [intOf]; omega
    obtain rfl : k = 0 := by omega
    clear hk0 hk4
    go_upto_if 36 with ((go_at_call 43; refine (l01Once_any p v n 4 _ HR.out.1.cur hn (by omega) (by omega)).mono ?_; rintro e w4 ⟨c4, rfl, hc4, hk4⟩; have H4 : Hid (PdR w w4 p v n N vp P ∧ P.length = M) := ⟨HR.out.1.draw hp hc4 hk4, HR.out.2⟩; clear hc4 hk4 HR))
    go_cut [5] (fun s wx => ∃ P, Hid (PdR w wx p v n N s P))
    case first =>
      cases c4
      · go_wp2
        go_meet
        exact ⟨P, H4.out.1⟩
      · go_wp2_with fail
        refine (doublePlan_any (N : Int) vp P w4 H4.out.1.far.in_ H4.out.1.pl (by rw [H4.out.2]; omega) (by rw [H4.out.2]; omega)).mono ?_
        rintro e w6 ⟨vp', P', rfl, hpl', hf', hb6⟩
        have H6 : Hid (PdR w w6 p v n N vp' P') := H4.out.1.next HC.out hf' hpl' hb6
        clear hpl' hf' hb6 H4
        go_wp2_with fail
        go_meet
        exact ⟨P', H6.out⟩
    case rest =>
      clear H4
      obtain ⟨P5, HP5⟩ := hcut
      have hs5 := HP5.out.far.in_
      obtain ⟨A5, c5, vs5, rfl, -, hcl5, hcm5, -, -⟩ := hs5
      unfold maxLen at hcm5
      have hl36 : P5.length ≤ 36 := (planB_p HP5.out.pl).2.1
      have hli : (P5.length : Int) ≤ 36 := by omega
      go_upto_if 41 with ((go_at_call 43; refine (l01Once_any p v n 6 _ HP5.out.cur hn (by omega) (by omega)).mono ?_; rintro e w6 ⟨c6, rfl, hc6, hk6⟩; have H6 : Hid (PdR w w6 p v n N (.slice A5 P5.length c5) P5) := HP5.out.draw hp hc6 hk6; clear hc6 hk6 HP5))
      cases c6
      · go_wp2
        go_ret2
        exact ⟨N, _, P5, rfl, H6.out.pl, H6.out.far.in_, H6.out.cur, H6.out.keep⟩
      · go_wp2_with fail
        refine (l01Below_any p v n ((P5.length : Int) + 1) _ H6.out.cur hn (by omega) (by omega)).mono ?_
        rintro e w7 ⟨x, hx, rfl, hc7, hk7⟩
        have H7 := Lib.hid (H6.out.draw hp hc7 hk7)
        clear hc7 hk7 H6
        obtain ⟨x, rfl⟩ := Int.eq_ofNat_of_zero_le hx.1
        have hxl : x ≤ P5.length := by omega
        have hxc : (x : Int) ≤ c5 := by omega
        clear hx
        have HT : Hid (InS w7 (.slice A5 x c5) (P5.take x)) := InS.take H7.out.far.in_ x hxl
        go_wp2
        go_ret2
        exact ⟨N, _, P5.take x, rfl, planB_take H7.out.pl x, HT.out, H7.out.cur, H7.out.keep⟩
end Go.Proofs.YtofpaekokmkhgaaGreatDoor
