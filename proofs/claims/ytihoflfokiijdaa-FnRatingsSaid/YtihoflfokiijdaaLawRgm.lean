/- Laws: ratings. -/
import Derived.Test.YtihoflfokiijdaaDr
import Derived.Test.YtihoflfokiijdaaBox
import Derived.Test.YtihoflfokiijdaaLx
import Derived.Test.YtihoflfokiijdaaLawRh
import Derived.Deep.RegionHeld3
import Derived.Deep.Cut
import Derived.Deep.CutRange
namespace Go.Proofs.Ytihoflfokiijdaa
open Go.ChangeShapes Go.WideShapes Go.ChangeAt Go.RowKit

set_option maxHeartbeats 400000 in
theorem lawsSame_any (v u : Value) (xs : List Int) (w : World) (hv : InI w v xs) (hu : InI w u xs) (hn : xs.length ≤ 1048576) :
    Calls Try.prog 14 #[v, u] w fun e w' => e = .returned (.bool true) ∧ w = w' := by
  obtain ⟨A, c, rfl, _, _, hx⟩ := hv
  obtain ⟨B, d, rfl, _, _, hy⟩ := hu
  have hle : ((xs.length : Int) != xs.length) = false := by simp
  generalize hl : xs.length = n at *
  have HL := Lib.hid hl
  clear hl
  go_enter Try.func14, Try.ntmps14
  go_wp2
  go_loop [14] (fun i => ∃ j : Nat, j ≤ n ∧ i = .int .i64 j) (fun i => n - (intOf i).toNat)
  case atStart => exact ⟨0, Nat.zero_le _, rfl⟩
  case round =>
    obtain ⟨j, hj, rfl⟩ := hrel
    by_cases hlt : j < n
    · obtain ⟨b, off, x, rfl, hx1, hx2, _⟩ := hx.at_ (k := j) (by rw [HL.out]; exact hlt)
      obtain ⟨b', off', y, rfl, hy1, hy2, _⟩ := hy.at_ (k := j) (by rw [HL.out]; exact hlt)
      rw [hx1] at hy1
      injection hy1 with hy1
      subst hy1
      have he : (x != x) = false := by simp
      clear hx1 hx hy
      go_wp2
      go_round
      case rel => exact ⟨j + 1, by omega, by go_num⟩
      case measure => simp [intOf]; omega
    · obtain rfl : j = n := by omega
      go_wp2
      go_ret
      exact ⟨rfl, rfl⟩


set_option maxHeartbeats 400000 in
theorem lawsSum_any (v : Value) (xs : List Int) (w : World) (hv : InI w v xs) (hn : xs.length ≤ 1048576) (hb : sumB xs) :
    Calls Try.prog 11 #[v] w fun e w' => e = .returned (.int .i64 xs.sum) ∧ w = w' := by
  obtain ⟨A, c, rfl, _, _, hs⟩ := hv
  have HB := Lib.hid hb
  clear hb
  generalize hl : xs.length = n at *
  have HL := Lib.hid hl
  clear hl
  go_enter Try.func11, Try.ntmps11
  go_wp2
  go_loop [3, 8] (fun s i => ∃ (j : Nat) (y : Int), j ≤ n ∧ i = .int .i64 j ∧ s = .int .i64 y ∧ Hid (y = (xs.take j).sum)) (fun _ i => n - (intOf i).toNat)
  case atStart => exact ⟨0, 0, Nat.zero_le _, rfl, rfl, by show _ = _; simp⟩
  case round =>
    obtain ⟨j, y, hj, rfl, rfl, HY⟩ := hrel
    by_cases hlt : j < n
    · obtain ⟨b, off, x, rfl, hx1, hx2, _⟩ := hs.at_ (k := j) (by rw [HL.out]; exact hlt)
      have h1 := sumB_take HB.out j (by rw [HL.out]; omega)
      rw [← HY.out] at h1
      obtain ⟨h1a, h1b⟩ := h1
      obtain ⟨h2a, h2b⟩ := HB.out x (List.mem_of_getElem? hx1)
      have HX := Lib.hid hx1
      clear hx1 hs
      go_wp2
      go_round
      case rel => exact ⟨j + 1, _, by omega, by go_num, rfl, by show _ = _; rw [sum_snoc HX.out, HY.out]⟩
      case measure => simp [intOf]; omega
    · obtain rfl : j = n := by omega
      go_wp2
      go_ret
      have h := HY.out
      rw [List.take_of_length_le (by rw [HL.out]; exact Nat.le_refl _)] at h
      exact ⟨ret_int h, rfl⟩

theorem makeRatingsZ (v : Value) (n : Nat) (M : Int) (w : World) (hv : InB w v n) (hn : n ≤ 1048576) (h0 : 0 ≤ M) (h1 : M ≤ 1048576) :
    Calls Try.prog 4 #[v, .int .i64 M] w fun e w' => ∃ (vr vg : Value) (r : List Int) (gs : List (List Int)), e = .returned (.tuple #[vr, vg]) ∧ Drawn r gs ∧ InI w' vr r ∧ InS w' vg gs ∧ Below w.heap.size w w' := by
  obtain ⟨m, rfl⟩ := Int.eq_ofNat_of_zero_le h0
  exact makeRatings_any v n m w hv hn (by omega)
theorem makeNumZ (v : Value) (n : Nat) (M : Int) (w : World) (hv : InB w v n) (hn : n ≤ 1048576) (h0 : 0 ≤ M) (h1 : M ≤ 1048576) :
    Calls Try.prog 5 #[v, .int .i64 M] w fun e w' => ∃ q : Nat, q ≤ 65535 ∧ e = .returned (.int .i64 (q : Int)) ∧ Below w.heap.size w w' := by
  obtain ⟨m, rfl⟩ := Int.eq_ofNat_of_zero_le h0
  exact makeNum_any v n m w hv hn (by omega)
theorem near_sumB {r : List Int} {m : Nat} (h : nearR r m) (hm : m ≤ 6) : sumB r := fun x hx => by have := h x hx; omega
set_option maxHeartbeats 8000000 in
set_option maxRecDepth 100000 in
theorem lawFnRatings (v : Value) (n : Nat) (w : World) (hv : InB w v n) :
    Calls Try.prog 3 #[v] w fun e w' => e = .returned (.bool true) ∧ Below w.heap.size w w' := by
  have HV0 := Lib.hid hv
  obtain ⟨A, c, rfl, hc, hm, -⟩ := hv
  unfold maxLen at hm
  by_cases hn : n ≤ 1048576
  case neg =>
    go_enter Try.func3, Try.ntmps3
    go_wp2
    go_ret
    exact ⟨rfl, Below.refl _ _⟩
  go_enter Try.func3, Try.ntmps3
  go_wp2_with (first
    | (go_at_call 4; refine (makeRatingsZ _ n _ _ HV0.out hn (by decide) (by decide)).mono ?_; rintro e w1 ⟨vr, vg, r, gs, rfl, hd, h1, h2, hb1⟩; have H1 : Hid (Drawn r gs ∧ InI w1 vr r ∧ InS w1 vg gs ∧ Below w.heap.size w w1) := ⟨hd, h1, h2, hb1⟩; obtain ⟨A1, c1, rfl, -⟩ := id h1; obtain ⟨A2, c2, -, rfl, -⟩ := id h2; have hr5 := hd.n5; have hr2 := hd.n2; have hg5 := hd.m5; clear hd h1 h2 hb1)
    | (go_at_call 5; refine (makeNumZ _ n _ _ (HV0.out.below H1.out.2.2.2) hn (by decide) (by decide)).mono ?_; rintro e w2 ⟨q2, hq2, rfl, hb2⟩; have H2 : Hid (Drawn r gs ∧ InI w2 (.slice A1 r.length c1) r ∧ InS w2 (.slice A2 gs.length c2) gs ∧ Below w.heap.size w w2) := ⟨H1.out.1, H1.out.2.1.below hb2, H1.out.2.2.1.below hb2, H1.out.2.2.2.trans (hb2.mono H1.out.2.2.2.size)⟩; clear hb2 H1))
  obtain ⟨f, hf⟩ : ∃ f : Int, 1 + (q2 : Int) % 40 = f := ⟨_, rfl⟩
  have hf1 : 1 ≤ f ∧ f ≤ 40 := by omega
  rw [hf]
  clear hf hq2
  have hfw : (Lit.int .i64 f).wf = true := WalkArith.wf_i64 (by omega)
  have hrw : (Lit.int .i64 (r.length : Int)).wf = true := WalkArith.wf_i64 (by omega)
  have HD := Lib.hid H2.out.1
  have HF := Lib.hid (And.intro hfw hrw)
  clear hfw hrw
  have HALL : Hid (afterAllF r gs f = afterGs r f gs) := by show _ = _; rw [afterAllF, HD.out.all hf1.1 hf1.2]; rfl
  have HAL : Hid ((afterGs r f gs).length = r.length) := afterGs_len r f gs
  go_upto_region 8 with (first
    | (go_at_call 6; refine (implAfterAll_std _ r _ gs f _ H2.out.2.1 (by omega) H2.out.2.2.1 HD.out.bulk HF.out.1).mono ?_; rintro e w3 ⟨va, rfl, hfa, hb3⟩; rw [HALL.out] at hfa; have H3 : Hid (InI w3 (.slice A1 r.length c1) r ∧ InS w3 (.slice A2 gs.length c2) gs ∧ InI w3 va (afterGs r f gs) ∧ Below w.heap.size w w3) := ⟨H2.out.2.1.below hb3, H2.out.2.2.1.below hb3, hfa.in_, H2.out.2.2.2.trans (hb3.mono H2.out.2.2.2.size)⟩; clear hb3 hfa H2)
    | (go_at_call 7; refine (implAtOnce_std _ r _ gs f _ H3.out.1 (by omega) H3.out.2.1 HD.out.bulk HF.out.1).mono ?_; rintro e w4 ⟨vb, rfl, hfb, hb4⟩; have H4 : Hid (InI w4 (.slice A1 r.length c1) r ∧ InS w4 (.slice A2 gs.length c2) gs ∧ InI w4 va (afterGs r f gs) ∧ InI w4 vb (onceF r gs f) ∧ Below w.heap.size w w4) := ⟨H3.out.1.below hb4, H3.out.2.1.below hb4, H3.out.2.2.1.below hb4, hfb.in_, H3.out.2.2.2.trans (hb4.mono H3.out.2.2.2.size)⟩; obtain ⟨A4, c4, rfl, -⟩ := id H3.out.2.2.1; obtain ⟨A5, c5, rfl, -⟩ := hfb.in_; clear hb4 hfb H3))
  rw [HAL.out]
  obtain ⟨b1, o1, -, rfl, -⟩ : ∃ b1 o1, ∃ _x : Int, A1 = some ⟨b1, o1, none⟩ ∧ True := by
    obtain ⟨A', c', e, _, _, hs⟩ := H4.out.1
    injection e with e1 e2 e3
    subst e1
    obtain ⟨b1, o1, x, h, _⟩ := hs.at_ (k := 0) (by omega)
    exact ⟨b1, o1, x, h, trivial⟩
  obtain ⟨S, HS⟩ : ∃ S, Hid (r.sum = S) := ⟨_, rfl⟩
  have HRO : Hid (∀ W, Below w4.heap.size w4 W → Calls Try.prog 8 #[.slice (some ⟨b1, o1, none⟩) r.length c1] W fun e w' => e = .returned (.bool true) ∧ Below W.heap.size W w') := by
    intro W hW
    have h := implRatingsOk_std _ r W (H4.out.1.below hW) (by omega)
    rwa [HD.out.rat] at h
  have HGR : Hid (∀ W, Below w4.heap.size w4 W → Calls Try.prog 9 #[.int .i64 (r.length : Int), .slice A2 gs.length c2] W fun e w' => e = .returned (.bool true) ∧ Below W.heap.size W w') := by
    intro W hW
    have h := implGamesRated_std (r.length : Int) _ gs W HF.out.2 (H4.out.2.1.below hW) HD.out.bulk
    rwa [HD.out.gam] at h
  have HSA : Hid (∀ W, Below w4.heap.size w4 W → Calls Try.prog 10 #[.slice A4 r.length c4] W fun e w' => e = .returned (.int .i64 S) ∧ Below W.heap.size W w') := by
    intro W hW
    have h := implSumOfRatings_std _ (afterGs r f gs) W (H4.out.2.2.1.below hW) (by rw [HAL.out]; omega)
    rwa [sumRF, if_pos (afterGs_ok f gs HD.out.rat), afterGs_sum f HD.out.games, HS.out, HAL.out] at h
  have HSR : Hid (∀ W, Below w4.heap.size w4 W → Calls Try.prog 10 #[.slice (some ⟨b1, o1, none⟩) r.length c1] W fun e w' => e = .returned (.int .i64 S) ∧ Below W.heap.size W w') := by
    intro W hW
    have h := implSumOfRatings_std _ r W (H4.out.1.below hW) (by omega)
    rwa [sumRF, if_pos HD.out.rat, HS.out] at h
  have HSU : Hid (∀ W, Below w4.heap.size w4 W → Calls Try.prog 11 #[.slice (some ⟨b1, o1, none⟩) r.length c1] W fun e w' => e = .returned (.int .i64 S) ∧ W = w') := by
    intro W hW
    have h := lawsSum_any _ r W (H4.out.1.below hW) (by omega) (near_sumB HD.out.near (by omega))
    rwa [HS.out] at h
  have HSB : Hid (0 < (onceF r gs f).length → ∀ W, Below w4.heap.size w4 W → Calls Try.prog 10 #[.slice A5 (onceF r gs f).length c5] W fun e w' => e = .returned (.int .i64 S) ∧ Below W.heap.size W w') := by
    intro h0 W hW
    have h := implSumOfRatings_std _ (onceF r gs f) W (H4.out.2.2.2.1.below hW) (onceF_len (by omega))
    by_cases hk : ratOk (onceG r f gs) = true
    · have e1 : onceF r gs f = onceG r f gs := by rw [onceF, if_pos (HD.out.all hf1.1 hf1.2), if_pos hk]
      rw [e1] at h ⊢
      rwa [sumRF, if_pos hk, onceG_sum f HD.out.games, HS.out] at h
    · have e1 : onceF r gs f = [] := by rw [onceF, if_pos (HD.out.all hf1.1 hf1.2), if_neg hk]
      rw [e1] at h0; simp at h0
  obtain ⟨lb, HLB⟩ : ∃ lb : Nat, Hid ((onceF r gs f).length = lb) := ⟨_, rfl⟩
  rw [HLB.out] at HSB ⊢
  have HB : Hid (Below w4.heap.size w4 w4) := Below.refl _ _
  have hne : ((r.length : Int) != r.length) = false := by simp
  have hnS : (S != S) = false := by simp
  have HNOW : Hid (∀ W, Below w4.heap.size w4 W → SlI W (some ⟨b1, o1, none⟩) r) := by
    intro W hW
    obtain ⟨A', c', e, _, _, hs⟩ := H4.out.1.below hW
    injection e with e1 e2 e3
    subst e1
    exact hs
  go_cut [86] from 24 to 85 (fun s86 wx => s86 = .bool false ∧ Hid (Below w4.heap.size w4 wx))
  case first =>
    have hlb : ¬ 0 < (lb : Int) ∨ 0 < (lb : Int) := by omega
    rcases hlb with hlb | hlb
    all_goals
      have HLP := Lib.hid hlb
      go_wp2_with (first
        | (go_at_call 8; with_reducible refine (HRO.out _ HB.out).mono ?_; rintro e wn ⟨rfl, hb⟩; have HB := Lib.hid (HB.out.trans (hb.mono HB.out.size)); clear hb)
        | (go_at_call 9; with_reducible refine (HGR.out _ HB.out).mono ?_; rintro e wn ⟨rfl, hb⟩; have HB := Lib.hid (HB.out.trans (hb.mono HB.out.size)); clear hb)
        | (go_at_call 11; with_reducible refine (HSU.out _ HB.out).mono ?_; rintro e wn ⟨rfl, rfl⟩)
        | (go_at_call 10; with_reducible refine (HSA.out _ HB.out).mono ?_; rintro e wn ⟨rfl, hb⟩; have HB := Lib.hid (HB.out.trans (hb.mono HB.out.size)); clear hb)
        | (go_at_call 10; with_reducible refine (HSR.out _ HB.out).mono ?_; rintro e wn ⟨rfl, hb⟩; have HB := Lib.hid (HB.out.trans (hb.mono HB.out.size)); clear hb)
        | (go_at_call 10; with_reducible refine (HSB.out (Int.natCast_pos.1 HLP.out) _ HB.out).mono ?_; rintro e wn ⟨rfl, hb⟩; have HB := Lib.hid (HB.out.trans (hb.mono HB.out.size)); clear hb))
      go_meet
      case rel => exact ⟨rfl, HB.out⟩
  case rest =>
    obtain ⟨rfl, HB1⟩ := hcut
    clear HB
    go_wp2_with (first
      | (at_builtin; refine appSrc rfl _ _ rfl (wc.alloc (.cells #[] 3)) wc.heap.size _ 0 [] rfl (World.ownsRow_made wc #[] 0 (Nat.le_refl _) (by unfold maxLen; omega) rfl) ⟨b1, o1, none⟩ r.length c1 r rfl rfl ((HNOW.out _ HB1.out).alloc _) (by omega) (by simp) ?_; intro v6 w6 hown6 hbo6 _; have HB6 : Hid (Below w4.heap.size w4 w6 ∧ InI w6 v6 r) := ⟨HB1.out.trans (((Below.refl wc.heap.size wc).alloc (Nat.le_refl _) (.cells #[] 3)).trans (hbo6 wc.heap.size (Nat.le_refl _) (by simp)) |>.mono HB1.out.size), (Fr.of_own (xs := r) (by simpa using hown6)).in_⟩; clear hown6 hbo6))
    have H5 : Hid (Below w4.heap.size w4 w6 ∧ InI w6 v6 (afterGs r f (gs.take 0))) := HB6
    clear HB6
    go_loopw [9, 92] (fun a i wr => ∃ (j : Nat) (nv : Value), j ≤ gs.length ∧ i = .int .i64 j ∧ nv = a ∧ Hid (Below w4.heap.size w4 wr ∧ InI wr nv (afterGs r f (gs.take j)))) (fun _ i _ => gs.length - (intOf i).toNat)
    case atStart => exact ⟨0, _, Nat.zero_le _, rfl, rfl, H5.out⟩
    case round =>
      obtain ⟨j, nv, hj, rfl, rfl, HR⟩ := hrel
      clear H5
      by_cases hlt : j < gs.length
      case pos =>
        obtain ⟨b2, o2, u, g, rfl, hg1, hg2, hg3, _⟩ := (H4.out.2.1.below HR.out.1).at_ (k := j) hlt
        have hnr := afterGs_near HD.out hf1.1 hf1.2 j (by omega)
        have hro := afterGs_ok f (gs.take j) HD.out.rat
        have hrl := afterGs_len r f (gs.take j)
        have hsn := afterGs_snoc r f (gs.take j) g
        rw [← take_snoc hg1] at hsn
        have hgo := HD.out.games g (List.mem_of_getElem? hg1)
        obtain ⟨R, HRe⟩ : ∃ R, Hid (afterGs r f (gs.take j) = R) := ⟨_, rfl⟩
        rw [HRe.out] at hnr hro hrl hsn
        have HR0 : Hid (Below w4.heap.size w4 wr ∧ InI wr nv R) := by have h := HR.out; rwa [HRe.out] at h
        rw [← hrl] at hgo
        have hgo' := hgo
        obtain ⟨i, k, h, x, y, rfl, hx, hy, hij, h0, h2⟩ := game_at hgo
        have hgoal := afterG_go hnr (by omega) hro hx hy hij h0 h2 hf1.1 hf1.2
        have hturn := afterG_turn hnr (by omega) hro hx hy hij h0 h2 hf1.1 hf1.2
        have HX : Hid (R[i]? = some x ∧ R[k]? = some y ∧ i < 5 ∧ k < 5) := ⟨hx, hy, by have := (List.getElem?_eq_some_iff.1 hx).1; omega, by have := (List.getElem?_eq_some_iff.1 hy).1; omega⟩
        have hi5 : i < r.length := by have := (List.getElem?_eq_some_iff.1 hx).1; omega
        have hk5 : k < r.length := by have := (List.getElem?_eq_some_iff.1 hy).1; omega
        have hxr := hnr x (List.mem_of_getElem? hx)
        have hyr := hnr y (List.mem_of_getElem? hy)
        have hj5 : j ≤ 5 := by omega
        have hxr' : 1200 ≤ x ∧ x ≤ 2392 := by omega
        have hyr' : 1200 ≤ y ∧ y ≤ 2392 := by omega
        have hclim := chg_lim (a := x) (b := y) h0 h2 hf1.1
        have hcw := chg_win (a := x) (b := y) hf1.1
        have hcl := chg_lose (a := x) (b := y) hf1.1
        have hcf := chg_flip x y h f
        have hef := expd_flip x y
        have heb := expd_bd x y
        obtain ⟨D, HDe⟩ : ∃ D, Hid (chg x y h f = D) := ⟨_, rfl⟩
        obtain ⟨E, HEe⟩ : ∃ E, Hid (expd x y = E) := ⟨_, rfl⟩
        rw [HDe.out] at hgoal hclim hcf
        rw [HEe.out] at hef heb
        obtain ⟨R2, HR2⟩ : ∃ R2, Hid ((R.set i (x + D)).set k (y - D) = R2) := ⟨_, rfl⟩
        rw [HR2.out] at hgoal
        have hx2 : R2[i]? = some (x + D) := by rw [← HR2.out, List.getElem?_set_ne (fun e => hij e.symm), List.getElem?_set_self (by omega)]
        have hy2 : R2[k]? = some (y - D) := by rw [← HR2.out, List.getElem?_set_self (by rw [List.length_set]; omega)]
        have hl2 : R2.length = r.length := by rw [← HR2.out, List.length_set, List.length_set]; omega
        have HS2 : Hid (afterGs r f (gs.take (j + 1)) = R2) := by show _ = _; rw [hsn, hgoal.1]
        have HAF : Hid (afterF R [(i : Int), (k : Int), h] f = R2) := by show _ = _; rw [afterF, hro, hgo', inB_mk (by omega) (by omega)]; exact hgoal.1
        have hgo2 : gameOk R.length [(k : Int), (i : Int), 2 - h] = true := by
          simp only [gameOk, Bool.and_eq_true, decide_eq_true_eq, bne_iff_ne, inB_t]
          omega
        have HAT : Hid (afterF R [(k : Int), (i : Int), 2 - h] f = R2) := by show _ = _; rw [afterF, hro, hgo2, inB_mk (by omega) (by omega)]; exact hturn.trans hgoal.1
        have HL2 := Lib.hid (And.intro hx2 (And.intro hy2 (And.intro hl2 hrl)))
        clear hx hy hxr hyr hnr hro hrl hsn hgo hgo' hgo2 hgoal hturn hg1 hx2 hy2 hl2 HR
        obtain ⟨A6, c6, rfl, -, -, hsl6⟩ := id hg3
        obtain ⟨bg, og, y0, rfl, e0, q0, hbg⟩ := hsl6.at_ (k := 0) (by simp)
        obtain ⟨bg', og', y1, ea1, e1, q1, _⟩ := hsl6.at_ (k := 1) (by simp)
        injection ea1 with ea1; injection ea1 with ea1 ea2 _; subst ea1; subst ea2
        obtain ⟨bg', og', y2, ea1, e2, q2', _⟩ := hsl6.at_ (k := 2) (by simp)
        injection ea1 with ea1; injection ea1 with ea1 ea2 _; subst ea1; subst ea2
        simp only [List.getElem?_cons_zero, List.getElem?_cons_succ, Option.some.injEq] at e0 e1 e2
        subst e0; subst e1; subst e2
        have HQ : Hid (wr.cell? ⟨bg, og, none⟩ = some (.int .i64 (i : Int)) ∧ wr.cell? ⟨bg, og + 1, none⟩ = some (.int .i64 (k : Int)) ∧ wr.cell? ⟨bg, og + 2, none⟩ = some (.int .i64 h) ∧ bg < wr.heap.size) := ⟨q0, q1, q2', hbg⟩
        have HG := Lib.hid hg3
        clear hsl6 hg3 q0 q1 q2' hbg
        go_wp2_with (go_at_call 12; refine (implAfterGame_std _ R _ [(i : Int), (k : Int), h] f _ HR0.out.2 (by have := HL2.out.2.2.2; omega) HG.out (by simp) HF.out.1).mono ?_; rintro e w7 ⟨v7, rfl, hf7, hb7⟩; rw [HAF.out] at hf7; have H7 : Hid (Below w4.heap.size w4 w7 ∧ InI w7 nv R ∧ InI w7 v7 R2 ∧ Below wr.heap.size wr w7) := ⟨HR0.out.1.trans (hb7.mono HR0.out.1.size), HR0.out.2.below hb7, hf7.in_, hb7⟩; clear hf7 hb7)
        have p0 : w7.cell? ⟨bg, og, none⟩ = some (.int .i64 (i : Int)) := (H7.out.2.2.2.cell (p := ⟨bg, og, none⟩) HQ.out.2.2.2).trans HQ.out.1
        have p1 : w7.cell? ⟨bg, og + 1, none⟩ = some (.int .i64 (k : Int)) := (H7.out.2.2.2.cell (p := ⟨bg, og + 1, none⟩) HQ.out.2.2.2).trans HQ.out.2.1
        have p2 : w7.cell? ⟨bg, og + 2, none⟩ = some (.int .i64 h) := (H7.out.2.2.2.cell (p := ⟨bg, og + 2, none⟩) HQ.out.2.2.2).trans HQ.out.2.2.1
        have ew : IntKind.i64.wrap (2 - h) = 2 - h := by rw [IntKind.wrap_i64]; omega
        have HX7 : Hid (Below w7.heap.size w7 (w7.alloc (.cells #[.int .i64 (k : Int), .int .i64 (i : Int), .int .i64 (2 - h)] 3)).drew ∧ InI ((w7.alloc (.cells #[.int .i64 (k : Int), .int .i64 (i : Int), .int .i64 (2 - h)] 3)).drew) (.slice (some ⟨w7.heap.size, 0, none⟩) 3 3) [(k : Int), (i : Int), 2 - h]) := ⟨below_drewL ((Below.refl _ w7).alloc (Nat.le_refl _) _), (rowLit w7 k i (2 - h)).in_⟩
        go_region_held3 (fun W => W.cell? ⟨bg, og, none⟩ = some (.int .i64 (i : Int)) ∧ W.cell? ⟨bg, og + 1, none⟩ = some (.int .i64 (k : Int)) ∧ W.cell? ⟨bg, og + 2, none⟩ = some (.int .i64 h)) (first | go_keep | exact ⟨p0, p1, p2⟩) (first
          | (go_at_call 12; refine (implAfterGame_std _ R _ [(k : Int), (i : Int), 2 - h] f _ (H7.out.2.1.below HX7.out.1) (by have := HL2.out.2.2.2; omega) HX7.out.2 (by simp) HF.out.1).mono ?_; rintro e w8 ⟨v8, rfl, hf8, hb8⟩; rw [HAT.out] at hf8; have hb78 := HX7.out.1.trans (hb8.mono HX7.out.1.size); clear p0 p1 p2; have p0 : w8.cell? ⟨bg, og, none⟩ = some (.int .i64 (i : Int)) := ((H7.out.2.2.2.trans (hb78.mono H7.out.2.2.2.size)).cell (p := ⟨bg, og, none⟩) HQ.out.2.2.2).trans HQ.out.1; have p1 : w8.cell? ⟨bg, og + 1, none⟩ = some (.int .i64 (k : Int)) := ((H7.out.2.2.2.trans (hb78.mono H7.out.2.2.2.size)).cell (p := ⟨bg, og + 1, none⟩) HQ.out.2.2.2).trans HQ.out.2.1; have p2 : w8.cell? ⟨bg, og + 2, none⟩ = some (.int .i64 h) := ((H7.out.2.2.2.trans (hb78.mono H7.out.2.2.2.size)).cell (p := ⟨bg, og + 2, none⟩) HQ.out.2.2.2).trans HQ.out.2.2.1; have H8 : Hid (Below w4.heap.size w4 w8 ∧ InI w8 nv R ∧ InI w8 v7 R2 ∧ InI w8 v8 R2) := ⟨H7.out.1.trans (hb78.mono H7.out.1.size), H7.out.2.1.below hb78, H7.out.2.2.1.below hb78, hf8.in_⟩; clear hf8 hb8 hb78))
        have HCF : Hid (∀ W, Calls Try.prog 13 #[.int .i64 x, .int .i64 y, .int .i64 h, .int .i64 f] W fun e w' => e = .returned (.int .i64 D) ∧ W = w') := by
          intro W
          have h1 := implChangeFor_any x y h f W
          rwa [chgF, if_pos (by rw [isR_t.2 (by omega), isR_t.2 (by omega), inB_mk h0 h2, inB_mk hf1.1 (by omega)]; rfl), HDe.out] at h1
        have HCB : Hid (∀ W, Calls Try.prog 13 #[.int .i64 y, .int .i64 x, .int .i64 (2 - h), .int .i64 f] W fun e w' => e = .returned (.int .i64 (-D)) ∧ W = w') := by
          intro W
          have h1 := implChangeFor_any y x (2 - h) f W
          rwa [chgF, if_pos (by rw [isR_t.2 (by omega), isR_t.2 (by omega), inB_mk (by omega) (by omega), inB_mk hf1.1 (by omega)]; rfl), hcf] at h1
        have HEF : Hid (∀ W, Calls Try.prog 15 #[.int .i64 x, .int .i64 y] W fun e w' => e = .returned (.int .i64 E) ∧ W = w') := by
          intro W
          have h1 := implExpectedScore_any x y W
          rwa [expdF, if_pos (by rw [isR_t.2 (by omega), isR_t.2 (by omega)]; rfl), HEe.out] at h1
        have HEB : Hid (∀ W, Calls Try.prog 15 #[.int .i64 y, .int .i64 x] W fun e w' => e = .returned (.int .i64 (1000 - E)) ∧ W = w') := by
          intro W
          have h1 := implExpectedScore_any y x W
          rwa [expdF, if_pos (by rw [isR_t.2 (by omega), isR_t.2 (by omega)]; rfl), hef] at h1
        have HSA8 : Hid (∀ q, Calls Try.prog 14 #[v8, v7] (w8.drewN q) fun e w' => e = .returned (.bool true) ∧ w8.drewN q = w') := fun q => lawsSame_any v8 v7 R2 _ (H8.out.2.2.2.drewN q) (H8.out.2.2.1.drewN q) (by have := HL2.out.2.2.1; omega)
        obtain ⟨A7, c7, rfl, -, -, hsl7⟩ := id H8.out.2.2.1
        obtain ⟨An, cn, rfl, -, -, hsln⟩ := id H8.out.2.1
        rw [HL2.out.2.2.1]
        rw [HL2.out.2.2.2]
        have hRl : R.length = r.length := HL2.out.2.2.2
        obtain ⟨bn, on, x', rfl, ex, qx, _⟩ := hsln.at_ (k := i) (by omega)
        rw [HX.out.1] at ex
        injection ex with ex
        subst ex
        obtain ⟨bn', on', y', ea1, ey, qy, _⟩ := hsln.at_ (k := k) (by omega)
        injection ea1 with ea1; injection ea1 with ea1 ea2 _; subst ea1; subst ea2
        rw [HX.out.2.1] at ey
        injection ey with ey
        subst ey
        have hR2l : R2.length = r.length := HL2.out.2.2.1
        obtain ⟨b7, o7, x2, rfl, ex, qx2, _⟩ := hsl7.at_ (k := i) (by omega)
        rw [HL2.out.1] at ex
        injection ex with ex
        subst ex
        obtain ⟨b7', o7', y2, ea1, ey, qy2, _⟩ := hsl7.at_ (k := k) (by omega)
        injection ea1 with ea1; injection ea1 with ea1 ea2 _; subst ea1; subst ea2
        rw [HL2.out.2.1] at ey
        injection ey with ey
        subst ey
        clear hsln hsl7 hR2l hRl hij
        have hi0 : (i : Int) < (r.length : Int) := by omega
        have hk0 : (k : Int) < (r.length : Int) := by omega
        go_wp2_with fail
        go_quiet (first
          | (go_at_call 13; with_reducible exact quiet_left (HCF.out _)))
        have ewx : IntKind.i64.wrap (x + D) = x + D := by rw [IntKind.wrap_i64]; omega
        have ewy : IntKind.i64.wrap (y - D) = y - D := by rw [IntKind.wrap_i64]; omega
        have ewn : IntKind.i64.wrap (- -D) = D := by rw [IntKind.wrap_i64]; omega
        have ewd : IntKind.i64.wrap D = D := by rw [IntKind.wrap_i64]; omega
        have ewf : IntKind.i64.wrap (-f) = -f := by rw [IntKind.wrap_i64]; omega
        have ewE : IntKind.i64.wrap (E + (1000 - E)) = 1000 := by rw [IntKind.wrap_i64]; omega
        have ewT : IntKind.i64.wrap 1000 = 1000 := by rw [IntKind.wrap_i64]; omega
        have hbx : (x + D != x + D) = false := by simp
        have hby : (y - D != y - D) = false := by simp
        have hbd : (D != D) = false := by simp
        have hd1 : decide (f < D) = false := decide_eq_false (by omega)
        have hd2 : decide (D < -f) = false := decide_eq_false (by omega)
        have HSA9 : Hid (∀ q, Calls Try.prog 14 #[v8, .slice (some ⟨b7, o7, none⟩) r.length c7] ((w8.drewN nq).drewN q) fun e w' => e = .returned (.bool true) ∧ (w8.drewN nq).drewN q = w') := by
          intro q
          have h1 := HSA8.out (nq + q)
          rwa [HL2.out.2.2.1, ← World.drewN_drewN] at h1
        obtain ⟨wq, hwq⟩ : ∃ W, w8.drewN nq = W := ⟨_, rfl⟩
        have p0 : wq.cell? ⟨bg, og, none⟩ = some (.int .i64 (i : Int)) := by rw [← hwq]; exact p0
        have p1 : wq.cell? ⟨bg, og + 1, none⟩ = some (.int .i64 (k : Int)) := by rw [← hwq]; exact p1
        have p2 : wq.cell? ⟨bg, og + 2, none⟩ = some (.int .i64 h) := by rw [← hwq]; exact p2
        have qx : wq.cell? ⟨bn, on + i, none⟩ = some (.int .i64 x) := by rw [← hwq]; exact qx
        have qy : wq.cell? ⟨bn, on + k, none⟩ = some (.int .i64 y) := by rw [← hwq]; exact qy
        have qx2 : wq.cell? ⟨b7, o7 + i, none⟩ = some (.int .i64 (x + D)) := by rw [← hwq]; exact qx2
        have qy2 : wq.cell? ⟨b7, o7 + k, none⟩ = some (.int .i64 (y - D)) := by rw [← hwq]; exact qy2
        have H9 : Hid (Below w4.heap.size w4 wq ∧ InI wq (.slice (some ⟨b7, o7, none⟩) r.length c7) R2) := by
          rw [← hwq]
          refine ⟨below_drewN H8.out.1 _, ?_⟩
          have h1 := H8.out.2.2.1.drewN nq
          rwa [HL2.out.2.2.1] at h1
        rw [hwq] at HSA9 ⊢
        clear hwq H8 HSA8
        have hcase : (h = 2 ∧ ¬ D < 0) ∨ (h = 0 ∧ ¬ 0 < D) ∨ (h ≠ 2 ∧ h ≠ 0) := by
          have h3 : h = 0 ∨ h = 1 ∨ h = 2 := by omega
          rcases h3 with h3 | h3 | h3
          · rw [h3] at HDe
            rw [HDe.out] at hcl
            exact .inr (.inl ⟨h3, by omega⟩)
          · exact .inr (.inr ⟨by omega, by omega⟩)
          · rw [h3] at HDe
            rw [HDe.out] at hcw
            exact .inl ⟨h3, by omega⟩
        clear hcw hcl
        go_wp2_with fail
        refine wp_region_quiet_lit (by kernel_rfl) (lexB_pairs _ (by kernel_rfl) (by as_aux_lemma => kernel_rfl)) ?_
        repeat (go_big_quiet_step (first
            | (go_at_call 13; with_reducible exact quiet_left (HCB.out _))
            | (go_at_call 14; with_reducible exact quiet_left (HSA9.out _))))
        rcases hcase with ⟨h3, h4⟩ | ⟨h3, h4⟩ | ⟨h3, h4⟩
        · as_aux_lemma =>
            have t1 : (h == 2) = true := by simp [h3]
            rw [t1]
            have t2 : (h == 0) = false := by simp [h3]
            have t3 : decide (D < 0) = false := decide_eq_false (by omega)
            clear h3 h0 h2 h4
            repeat (go_big_quiet_step (first
              | (go_at_call 15; with_reducible exact quiet_left (HEF.out _))
              | (go_at_call 15; with_reducible exact quiet_left (HEB.out _))))
            refine wpQuiet_nil ?_
            intro _ hw'
            obtain ⟨nq2, hw''⟩ := hw'
            subst hw''
            go_wp2
            go_roundw
            case rel => exact ⟨j + 1, _, by omega, by go_num, rfl, by rw [HS2.out]; exact ⟨below_drewN H9.out.1 _, H9.out.2.drewN _⟩⟩
            case measure => simp [intOf]; omega
        · as_aux_lemma =>
            have t1 : (h == 2) = false := by simp [h3]
            rw [t1]
            have t2 : (h == 0) = true := by simp [h3]
            have t3 : decide (0 < D) = false := decide_eq_false (by omega)
            clear h3 h0 h2 h4
            repeat (go_big_quiet_step (first
              | (go_at_call 15; with_reducible exact quiet_left (HEF.out _))
              | (go_at_call 15; with_reducible exact quiet_left (HEB.out _))))
            refine wpQuiet_nil ?_
            intro _ hw'
            obtain ⟨nq2, hw''⟩ := hw'
            subst hw''
            go_wp2
            go_roundw
            case rel => exact ⟨j + 1, _, by omega, by go_num, rfl, by rw [HS2.out]; exact ⟨below_drewN H9.out.1 _, H9.out.2.drewN _⟩⟩
            case measure => simp [intOf]; omega
        · as_aux_lemma =>
            have t1 : (h == 2) = false := by simp [h3]
            rw [t1]
            have t2 : (h == 0) = false := by simp [h4]
            clear h3 h4 h0 h2
            repeat (go_big_quiet_step (first
              | (go_at_call 15; with_reducible exact quiet_left (HEF.out _))
              | (go_at_call 15; with_reducible exact quiet_left (HEB.out _))))
            refine wpQuiet_nil ?_
            intro _ hw'
            obtain ⟨nq2, hw''⟩ := hw'
            subst hw''
            go_wp2
            go_roundw
            case rel => exact ⟨j + 1, _, by omega, by go_num, rfl, by rw [HS2.out]; exact ⟨below_drewN H9.out.1 _, H9.out.2.drewN _⟩⟩
            case measure => simp [intOf]; omega
      obtain rfl : j = gs.length := by omega
      have HN : Hid (Below w4.heap.size w4 wr ∧ InI wr nv (afterGs r f gs)) := by have h := HR.out; rwa [List.take_length] at h
      clear HR hj hlt
      obtain ⟨wo, hwo⟩ : ∃ W, W = wr := ⟨wr, rfl⟩
      go_wp2_with fail
      clear hwo wo
      refine ratLoop2 wr r gs b1 o1 c1 c2 A2 hr5 hr2 hg5 HD ⟨H4.out.1.below HN.out.1, H4.out.2.1.below HN.out.1⟩ _ _ _ _ _ _ _ _ _ _ _ _ _ _ _ _ _ _ _ _ _ _ _ _ _ _ _ _ _ _ _ _ _ _ _ _ _ _ _ _ _ _ _ _ _ _ _ _ _ _ _ _ _ _ _ _ _ _ _ _ _ _ _ _ _ _ _ _ _ _ _ _ _ _ _ _ _ _ _ _ _ _ _ _ _ _ _ _ _ _ _ _ _ _ _ _ _ _ _ _ _ _ _ _ _ _ _ _ _ _ _ _ _ _ _ _ _ _ _ _ _ _ _ _ _ _ _ _ _ _ _ _ _ _ _ _ _ _ _ _ _ _ _ _ _ _ _ _ _ _ _ _ _ _ _ _ _ _ _ _ _ _ _ _ _ _ _ _ _ _ _ _ _ _ _ _ _ _ _ _ _ _ _ _ _ _ _ _ _ _ _ _ _ _ _ _ _ _ _ _ _ _ _ _ _ _ _ _ _ _ _ _ _ _ _ _ _ _ _ _ _ _ _ _ _ _ _ _ _ _ _ _ _ _ _ _ _ _ _ _ _ _ _ _ _ _ _ _ _ _ _ _ _ _ _ _ _ _ _ _ _ _ _ _ _ _ _ _ _ _ _ _ _ _ _ _ _ _ _ _ _ _ _ _ _ _ _ _ _ _ _ _ _ _ _ _ _ _ _ _ _ _ _ _ _ _ _ _ _ _ _ _ _ _ _ _ _ _ _ _ _ _ _ _ _ _ _ _ _ _ _ _ _ _ _ _ _ _ _ _ _ _ _ _ _ _ _ _ _ _ _ _ _ _ _ _ _ _ _ _ _ _ _ _ _ _ _ _ _ _ _ _ _ _ _ _ _ _ _ ?_
      intro a' w'' hx
      obtain ⟨hB, hx⟩ := hx
      obtain ⟨e2, hx⟩ := hx
      obtain ⟨e15, hx⟩ := hx
      obtain ⟨e16, hx⟩ := hx
      obtain ⟨e17, hx⟩ := hx
      obtain ⟨e18, hx⟩ := hx
      obtain ⟨e19, hx⟩ := hx
      obtain ⟨e20, hx⟩ := hx
      obtain ⟨e22, hx⟩ := hx
      obtain ⟨e23, hx⟩ := hx
      obtain ⟨e261, hx⟩ := hx
      obtain ⟨e262, hx⟩ := hx
      obtain ⟨e263, hx⟩ := hx
      obtain ⟨e264, hx⟩ := hx
      obtain ⟨e265, hx⟩ := hx
      obtain ⟨e266, hx⟩ := hx
      obtain ⟨e267, hx⟩ := hx
      obtain ⟨e268, hx⟩ := hx
      obtain ⟨e269, hx⟩ := hx
      obtain ⟨e270, hx⟩ := hx
      obtain ⟨e271, hx⟩ := hx
      obtain ⟨e272, hx⟩ := hx
      obtain ⟨e273, hx⟩ := hx
      obtain ⟨e274, hx⟩ := hx
      obtain ⟨e275, hx⟩ := hx
      obtain ⟨e276, hx⟩ := hx
      obtain ⟨e277, hx⟩ := hx
      obtain ⟨e278, hx⟩ := hx
      obtain ⟨e279, hx⟩ := hx
      obtain ⟨e280, hx⟩ := hx
      obtain ⟨e281, hx⟩ := hx
      obtain ⟨e282, hx⟩ := hx
      obtain ⟨e283, hx⟩ := hx
      obtain ⟨e284, hx⟩ := hx
      obtain ⟨e285, hx⟩ := hx
      obtain ⟨e286, hx⟩ := hx
      obtain ⟨e287, hx⟩ := hx
      obtain ⟨e288, hx⟩ := hx
      obtain ⟨e289, hx⟩ := hx
      obtain ⟨e290, hx⟩ := hx
      obtain ⟨e291, hx⟩ := hx
      obtain ⟨e292, hx⟩ := hx
      obtain ⟨e293, hx⟩ := hx
      obtain ⟨e294, hx⟩ := hx
      obtain ⟨e295, hx⟩ := hx
      obtain ⟨e296, hx⟩ := hx
      obtain ⟨e297, hx⟩ := hx
      obtain ⟨e298, hx⟩ := hx
      obtain ⟨e299, hx⟩ := hx
      obtain ⟨e300, hx⟩ := hx
      obtain ⟨e301, hx⟩ := hx
      obtain ⟨e302, hx⟩ := hx
      obtain ⟨e303, hx⟩ := hx
      obtain ⟨e304, hx⟩ := hx
      obtain ⟨e305, hx⟩ := hx
      obtain ⟨e306, hx⟩ := hx
      obtain ⟨e307, hx⟩ := hx
      obtain ⟨e308, hx⟩ := hx
      obtain ⟨e309, hx⟩ := hx
      obtain ⟨e310, hx⟩ := hx
      obtain ⟨e311, hx⟩ := hx
      obtain ⟨e312, hx⟩ := hx
      obtain ⟨e313, hx⟩ := hx
      obtain ⟨e314, hx⟩ := hx
      obtain ⟨e315, hx⟩ := hx
      obtain ⟨e316, hx⟩ := hx
      obtain ⟨e317, hx⟩ := hx
      obtain ⟨e318, hx⟩ := hx
      obtain ⟨e319, hx⟩ := hx
      obtain ⟨e320, hx⟩ := hx
      obtain ⟨e321, hx⟩ := hx
      obtain ⟨e322, hx⟩ := hx
      obtain ⟨e323, hx⟩ := hx
      obtain ⟨e324, hx⟩ := hx
      obtain ⟨e325, hx⟩ := hx
      obtain ⟨e326, hx⟩ := hx
      obtain ⟨e327, hx⟩ := hx
      obtain ⟨e328, hx⟩ := hx
      obtain ⟨e329, hx⟩ := hx
      obtain ⟨e330, hx⟩ := hx
      obtain ⟨e331, hx⟩ := hx
      obtain ⟨e332, hx⟩ := hx
      obtain ⟨e333, hx⟩ := hx
      obtain ⟨e334, hx⟩ := hx
      obtain ⟨e335, hx⟩ := hx
      obtain ⟨e336, hx⟩ := hx
      obtain ⟨e337, hx⟩ := hx
      obtain ⟨e338, hx⟩ := hx
      obtain ⟨e339, hx⟩ := hx
      obtain ⟨e340, hx⟩ := hx
      obtain ⟨e341, hx⟩ := hx
      obtain ⟨e342, hx⟩ := hx
      obtain ⟨e343, hx⟩ := hx
      obtain ⟨e344, hx⟩ := hx
      obtain ⟨e345, hx⟩ := hx
      obtain ⟨e346, hx⟩ := hx
      obtain ⟨e347, hx⟩ := hx
      obtain ⟨e348, hx⟩ := hx
      obtain ⟨e349, hx⟩ := hx
      obtain ⟨e350, hx⟩ := hx
      obtain ⟨e351, hx⟩ := hx
      obtain ⟨e352, hx⟩ := hx
      obtain ⟨e353, hx⟩ := hx
      obtain ⟨e354, hx⟩ := hx
      obtain ⟨e355, hx⟩ := hx
      obtain ⟨e356, hx⟩ := hx
      obtain ⟨e357, hx⟩ := hx
      obtain ⟨e358, hx⟩ := hx
      obtain ⟨e359, hx⟩ := hx
      obtain ⟨e360, hx⟩ := hx
      obtain ⟨e361, hx⟩ := hx
      obtain ⟨e362, hx⟩ := hx
      obtain ⟨e363, hx⟩ := hx
      obtain ⟨e364, hx⟩ := hx
      obtain ⟨e365, hx⟩ := hx
      obtain ⟨e366, hx⟩ := hx
      obtain ⟨e367, hx⟩ := hx
      obtain ⟨e368, hx⟩ := hx
      obtain ⟨e369, hx⟩ := hx
      obtain ⟨e370, hx⟩ := hx
      subst hx
      have HE : Hid (Below w4.heap.size w4 w'' ∧ InI w'' nv (afterGs r f gs)) := ⟨HN.out.1.trans (hB.mono HN.out.1.size), HN.out.2.below hB⟩
      clear hB HN
      go_wp2_with (first
        | (go_at_call 14; refine (lawsSame_any nv _ (afterGs r f gs) _ HE.out.2 (by have h := H4.out.2.2.1.below HE.out.1; rwa [HAL.out] at h) (by rw [HAL.out]; omega)).mono ?_; rintro e w' ⟨rfl, rfl⟩)
        | (go_at_call 15; refine (implExpectedScore_any 2000 1000 _).mono ?_; rintro e w' ⟨rfl, rfl⟩; rw [show expdF 2000 1000 = 950 by decide])
        | (go_at_call 13; refine (implChangeFor_any 1500 1500 2 32 _).mono ?_; rintro e w' ⟨rfl, rfl⟩; rw [show chgF 1500 1500 2 32 = 16 by decide]))
      go_ret
      exact ⟨rfl, H4.out.2.2.2.2.trans (HE.out.1.mono H4.out.2.2.2.2.size)⟩
end Go.Proofs.Ytihoflfokiijdaa
