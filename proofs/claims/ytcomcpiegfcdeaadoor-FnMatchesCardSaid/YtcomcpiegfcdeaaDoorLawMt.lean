/- Laws: matches. -/
import Derived.Test.YtcomcpiegfcdeaaDoorMt
import Derived.Test.YtcomcpiegfcdeaaDoorCq
import Derived.Test.YtcomcpiegfcdeaaDoorAw
namespace Go.Proofs.YtcomcpiegfcdeaaDoor
open Go.ChangeShapes Go.WideShapes Go.ChangeAt Go.RowKit

theorem makeNumZ (v : Value) (n : Nat) (M : Int) (w : World) (hv : InB w v n) (hn : n ≤ 1048576) (h0 : 0 ≤ M) (h1 : M ≤ 1048576) :
    Calls Tryd.prog 7 #[v, .int .i64 M] w fun e w' => ∃ q : Nat, q ≤ 65535 ∧ e = .returned (.int .i64 (q : Int)) ∧ Below w.heap.size w w' := by
  obtain ⟨m, rfl⟩ := Int.eq_ofNat_of_zero_le h0
  exact makeNum_any v n m w hv hn (by omega)
theorem mt_ok {i k : Nat} (hi : 1 ≤ i ∧ i ≤ 10) (hk : 1 ≤ k ∧ k ≤ 10) : mOk (i : Int) (k : Int) = true := mOk_t.2 (by omega)
theorem longest_e {i k : Nat} (hi : 1 ≤ i ∧ i ≤ 10) (hk : 1 ≤ k ∧ k ≤ 10) (w : World) :
    Calls Tryd.prog 8 #[.int .i64 (i : Int), .int .i64 (k : Int)] w fun e w' => e = .returned (.int .i64 ((i : Int) + k - 1)) ∧ w = w' := by
  have h := implLongest_any i k w
  rwa [longest, if_pos (mt_ok hi hk)] at h
theorem ways_e {i k : Nat} (hi : 1 ≤ i ∧ i ≤ 10) (hk : 1 ≤ k ∧ k ≤ 10) (w : World) :
    Calls Tryd.prog 9 #[.int .i64 (i : Int), .int .i64 (k : Int)] w fun e w' => e = .returned (.int .i64 (ways i k : Nat)) ∧ w = w' := by
  have h := implWaysFor_any i k w
  rwa [waysF, if_pos (mt_ok hi hk), Int.toNat_natCast, Int.toNat_natCast] at h
theorem shortest_e {i k : Nat} (hi : 1 ≤ i ∧ i ≤ 10) (hk : 1 ≤ k ∧ k ≤ 10) (w : World) :
    Calls Tryd.prog 10 #[.int .i64 (i : Int), .int .i64 (k : Int)] w fun e w' => e = .returned (.int .i64 (min (i : Int) k)) ∧ w = w' := by
  have h := implShortest_any i k w
  rwa [shortest, if_pos (mt_ok hi hk)] at h
theorem waysIn_e {i k q : Nat} (hi : 1 ≤ i ∧ i ≤ 10) (hk : 1 ≤ k ∧ k ≤ 10) (hq : q < i + k - 1) (w : World) :
    Calls Tryd.prog 11 #[.int .i64 (i : Int), .int .i64 (k : Int), .int .i64 ((q : Int) + 1)] w fun e w' => e = .returned (.int .i64 (bin q (i - 1) : Nat)) ∧ w = w' := by
  have h := implWaysIn_any i k ((q : Int) + 1) w
  have hb : (mOk (i : Int) k && inB ((q : Int) + 1) 1 ((i : Int) + k - 1)) = true := by
    rw [mt_ok hi hk, inB_mk (by omega) (by omega)]
    rfl
  rwa [waysIn, if_pos hb, show ((q : Int) + 1 - 1).toNat = q by omega, show ((i : Int) - 1).toNat = i - 1 by omega] at h
theorem ways_l {i k : Nat} (hi : 1 < i ∧ i ≤ 10) (hk : 1 ≤ k ∧ k ≤ 10) (w : World) :
    Calls Tryd.prog 9 #[.int .i64 ((i : Int) - 1), .int .i64 (k : Int)] w fun e w' => e = .returned (.int .i64 (ways (i - 1) k : Nat)) ∧ w = w' := by
  have h := ways_e (i := i - 1) (k := k) (by omega) hk w
  rwa [show ((i - 1 : Nat) : Int) = (i : Int) - 1 by omega] at h
theorem ways_r {i k : Nat} (hi : 1 ≤ i ∧ i ≤ 10) (hk : 1 < k ∧ k ≤ 10) (w : World) :
    Calls Tryd.prog 9 #[.int .i64 (i : Int), .int .i64 ((k : Int) - 1)] w fun e w' => e = .returned (.int .i64 (ways i (k - 1) : Nat)) ∧ w = w' := by
  have h := ways_e (i := i) (k := k - 1) hi (by omega) w
  rwa [show ((k - 1 : Nat) : Int) = (k : Int) - 1 by omega] at h
theorem even_e {i k : Nat} (hi : 1 ≤ i ∧ i ≤ 10) (hk : 1 ≤ k ∧ k ≤ 10) (w : World) :
    Calls Tryd.prog 12 #[.int .i64 (i : Int), .int .i64 (k : Int)] w fun e w' => e = .returned (.int .i64 (min (i : Int) k)) ∧ ∃ q, w' = w.drewN q := by
  have h := implEvenNeed_any i k w
  rwa [evenF, if_pos (mt_ok hi hk), Int.toNat_natCast, Int.toNat_natCast, (facts_of hi.1 hi.2 hk.1 hk.2).even, show ((min i k : Nat) : Int) = min (i : Int) k by omega] at h
theorem share_pair {i k q : Nat} (hi : 1 ≤ i ∧ i ≤ 10) (hk : 1 ≤ k ∧ k ≤ 10) (hq : q ≤ 65535) :
    ∃ s r : Int, 0 ≤ s ∧ 0 ≤ r ∧ s + r ≤ q ∧ (q : Int) - 1 ≤ s + r ∧ Hid ((∀ w, Calls Tryd.prog 13 #[.int .i64 (q : Int), .int .i64 (i : Int), .int .i64 (k : Int)] w fun e w' => e = .returned (.int .i64 s) ∧ w = w')
      ∧ (∀ w, Calls Tryd.prog 13 #[.int .i64 (q : Int), .int .i64 (k : Int), .int .i64 (i : Int)] w fun e w' => e = .returned (.int .i64 r) ∧ w = w')) := by
  have hF := (facts_of hi.1 hi.2 hk.1 hk.2).two
  have hD : (0 : Int) < 2 ^ (i + k - 1) := Int.pow_pos (by omega)
  have hs : ((ways i k : Nat) : Int) + (ways k i : Nat) = 2 ^ (i + k - 1) := by exact_mod_cast hF
  have h := share_two (s := (q : Int)) hD hs (by omega) (by omega) (by omega)
  have hq2 : inB (q : Int) 0 1000000 = true := inB_mk (by omega) (by omega)
  refine ⟨_, _, h.1, h.2.1, h.2.2.1, h.2.2.2, fun w => ?_, fun w => ?_⟩
  · have h := implShareOf_any q i k w
    rwa [shareF, if_pos (by rw [mt_ok hi hk, hq2]; rfl), Int.toNat_natCast, Int.toNat_natCast, show ((i : Int) + k).toNat - 1 = i + k - 1 by omega] at h
  · have h := implShareOf_any q k i w
    rwa [shareF, if_pos (by rw [mt_ok hk hi, hq2]; rfl), Int.toNat_natCast, Int.toNat_natCast, show ((k : Int) + i).toNat - 1 = i + k - 1 by omega] at h
theorem wrap_sum {T Y : Nat} (h : T + Y ≤ 524288) : wrap64 ((T : Int) + wrap64 (Y : Int)) = ((T + Y : Nat) : Int) := by unfold wrap64; omega
structure CState (i k : Int) (s : ByteArray) (x y m : Nat) : Prop where
  size : s.size = m
  course : courseB s.data.toList = true
  go : goF i k s.data.toList = (i - x, k - y)
theorem add_data (s : ByteArray) (c : UInt8) : (s ++ ⟨#[c]⟩).data.toList = s.data.toList ++ [c] := by simp [ByteArray.data_append]
theorem course_add {l : List UInt8} {c : UInt8} (h : courseB l = true) (hc : c = 97 ∨ c = 98) : courseB (l ++ [c]) = true := by
  unfold courseB at h ⊢
  rw [List.all_append, h]
  rcases hc with rfl | rfl <;> rfl
theorem CState.next {i k : Int} {s : ByteArray} {x y m x' y' : Nat} (h : CState i k s x y m) {c : UInt8} (hc : c = 97 ∨ c = 98)
    (hg : goF (i - x) (k - y) [c] = (i - x', k - y')) : CState i k (s ++ ⟨#[c]⟩) x' y' (m + 1) := by
  refine ⟨by rw [ByteArray.size_append, h.size]; rfl, by rw [add_data]; exact course_add h.course hc, ?_⟩
  rw [add_data, goF_append, h.go]
  exact hg
theorem CState.a_go {i k : Int} {s : ByteArray} {x y m : Nat} (h : CState i k s x y m) (hx : (x : Int) < i) (hy : (y : Int) < k) : CState i k (s ++ ⟨#[97]⟩) (x + 1) y (m + 1) :=
  h.next (.inl rfl) (by rw [goF_one, if_pos (by omega), if_pos rfl]; congr 1; omega)
theorem CState.b_go {i k : Int} {s : ByteArray} {x y m : Nat} (h : CState i k s x y m) (hx : (x : Int) < i) (hy : (y : Int) < k) : CState i k (s ++ ⟨#[98]⟩) x (y + 1) (m + 1) :=
  h.next (.inr rfl) (by rw [goF_one, if_pos (by omega), if_neg (by decide)]; congr 1; omega)
theorem CState.stop {i k : Int} {s : ByteArray} {x y m : Nat} (h : CState i k s x y m) (hx : ¬ ((x : Int) < i ∧ (y : Int) < k)) {c : UInt8} (hc : c = 97 ∨ c = 98) : CState i k (s ++ ⟨#[c]⟩) x y (m + 1) :=
  h.next hc (by rw [goF_stop (by omega)])
theorem course_e {i k x y m : Nat} {s : ByteArray} (hi : 1 ≤ i ∧ i ≤ 10) (hk : 1 ≤ k ∧ k ≤ 10) (h : CState i k s x y m) (hm : m ≤ 12) (w : World) :
    Calls Tryd.prog 6 #[.int .i64 (i : Int), .int .i64 (k : Int), .string s] w fun e w' => e = .returned (.tuple #[.int .i64 ((i : Int) - x), .int .i64 ((k : Int) - y)]) ∧ Below w.heap.size w w' := by
  have h1 := implAfterCourse_any i k s w (by rw [h.size]; omega)
  rwa [afterC_t (mt_ok hi hk) (by have := h.size; simp; omega) h.course, h.go] at h1
theorem need_odd {i : Nat} (hi : 1 ≤ i ∧ i ≤ 10) (w : World) : Calls Tryd.prog 14 #[.int .i64 (2 * (i : Int) - 1)] w fun e w' => e = .returned (.int .i64 (i : Int)) ∧ w = w' := by
  have h := implNeedOf_any (2 * (i : Int) - 1) w
  have hb : (inB (2 * (i : Int) - 1) 1 39 && (2 * (i : Int) - 1) % 2 != 0) = true := by
    rw [inB_mk (by omega) (by omega), Bool.true_and, bne_iff_ne]
    omega
  rwa [needOf, if_pos hb, show (2 * (i : Int) - 1) / 2 + 1 = i by omega] at h
theorem need_even {i : Nat} (w : World) : Calls Tryd.prog 14 #[.int .i64 (2 * (i : Int))] w fun e w' => e = .returned (.int .i64 (-1)) ∧ w = w' := by
  have h := implNeedOf_any (2 * (i : Int)) w
  have hb : ¬ (inB (2 * (i : Int)) 1 39 && (2 * (i : Int)) % 2 != 0) = true := by
    rw [show (2 * (i : Int)) % 2 = 0 by omega]
    simp
  rwa [needOf, if_neg hb] at h
set_option maxHeartbeats 8000000 in
set_option maxRecDepth 100000 in
theorem lawFnMatches (v : Value) (n : Nat) (w : World) (hv : InB w v n) :
    Calls Tryd.prog 4 #[v] w fun e w' => e = .returned (.bool true) ∧ Below w.heap.size w w' := by
  have HV0 := Lib.hid hv
  obtain ⟨A, c, rfl, hc, hm, -⟩ := hv
  unfold maxLen at hm
  by_cases hn : n ≤ 1048576
  case neg =>
    go_enter Tryd.func4, Tryd.ntmps4
    go_wp2
    go_ret
    exact ⟨rfl, Below.refl _ _⟩
  have HV := HV0
  go_enter Tryd.func4, Tryd.ntmps4
  go_wp2_with (first
    | (go_at_call 7; refine (makeNumZ _ n _ _ HV.out hn (by decide) (by decide)).mono ?_; rintro e w1 ⟨q1, hq1, rfl, hb1⟩; have H1 : Hid (Below w.heap.size w w1) := hb1; clear hb1 HV)
    | (go_at_call 7; refine (makeNumZ _ n _ _ (HV0.out.below H1.out) hn (by decide) (by decide)).mono ?_; rintro e w2 ⟨q2, hq2, rfl, hb2⟩; have H2 : Hid (Below w.heap.size w w2) := H1.out.trans (hb2.mono H1.out.size); clear hb2 H1))
  obtain ⟨i, hi⟩ : ∃ i : Nat, 1 + (q1 : Int) % 10 = i := ⟨1 + q1 % 10, by omega⟩
  obtain ⟨k, hk⟩ : ∃ k : Nat, 1 + (q2 : Int) % 10 = k := ⟨1 + q2 % 10, by omega⟩
  have hi1 : 1 ≤ i ∧ i ≤ 10 := by omega
  have hk1 : 1 ≤ k ∧ k ≤ 10 := by omega
  rw [hi, hk]
  clear hi hk hq1 hq2
  have HF := Lib.hid (facts_of hi1.1 hi1.2 hk1.1 hk1.2)
  have HI := Lib.hid (And.intro hi1 hk1)
  have hF1 := HF.out.one
  have hF2 := HF.out.two
  have hF3 := HF.out.cap
  have hF4 := (facts_of hk1.1 hk1.2 hi1.1 hi1.2).cap
  have HLo := Lib.hid (fun m => longest_e hi1 hk1 (w2.drewN m))
  have HW := Lib.hid (fun m => ways_e hi1 hk1 (w2.drewN m))
  have HW' := Lib.hid (fun m => ways_e hk1 hi1 (w2.drewN m))
  have HSh := Lib.hid (fun m => shortest_e hi1 hk1 (w2.drewN m))
  have hWk : ways i k ≤ 1048576 := by omega
  obtain ⟨W, HWe⟩ : ∃ W, Hid (ways i k = W) := ⟨_, rfl⟩
  obtain ⟨W', HWe'⟩ : ∃ W, Hid (ways k i = W) := ⟨_, rfl⟩
  rw [HWe.out] at hF1 hF2 hF3 HW
  rw [HWe'.out] at hF2 hF4 HW'
  go_wp2_with (first
    | (go_at_call 8; refine (longest_e HI.out.1 HI.out.2 _).mono ?_; rintro e w' ⟨rfl, rfl⟩)
    | (go_at_call 9; refine (ways_e HI.out.1 HI.out.2 _).mono ?_; rintro e w' ⟨rfl, rfl⟩; rw [HWe.out]))
  have ew1 : IntKind.i64.wrap ((i : Int) + k) = i + k := by rw [IntKind.wrap_i64]; omega
  have ew2 : IntKind.i64.wrap ((i : Int) + k - 1) = i + k - 1 := by rw [IntKind.wrap_i64]; omega
  have ew3 : IntKind.i64.wrap ((W : Int) + W') = W + W' := by rw [IntKind.wrap_i64]; omega
  have ew4 : ¬ (W : Int) < 1 := by omega
  have hSh : IntKind.i64.wrap (2 ^ (((i : Int) + k).toNat - 1)) = W + W' := by
    rw [show ((i : Int) + k).toNat - 1 = i + k - 1 by omega, show (2 : Int) ^ (i + k - 1) = W + W' by exact_mod_cast hF2.symm]
    exact ew3
  go_quiet (first
    | (go_at_call 9; with_reducible exact quiet_left (HW'.out _))
    | (go_at_call 10; with_reducible exact quiet_left (HSh.out _)))
  have H3 : Hid (Below w.heap.size w (w2.drewN nq)) := below_drewN H2.out _
  generalize w2.drewN nq = w3 at H3 ⊢
  clear H2 HLo HW HW' HSh
  go_wp2
  go_loop [7, 8] (fun t g => ∃ q : Nat, q ≤ i + k - 1 ∧ t = .int .i64 (totE i (i + k - 1) q : Nat) ∧ g = .int .i64 ((q : Int) + 1)) (fun _ g => i + k - (intOf g).toNat)
  case atStart => exact ⟨0, Nat.zero_le _, rfl, rfl⟩
  case round =>
    obtain ⟨q, hq, rfl, rfl⟩ := hrel
    by_cases hlt : q < i + k - 1
    case pos =>
      have hX := HF.out.pos q hlt
      have hXc := HF.out.bcap q hlt
      have hTc := HF.out.tcap q hlt
      rw [totE, ← binQ_eq] at hTc
      have HT : Hid (totE i (i + k - 1) (q + 1) = totE i (i + k - 1) q + bin q (i - 1) * 2 ^ (i + k - 1 - (q + 1))) := by show _ = _; rw [totE, ← binQ_eq]
      obtain ⟨X, HX⟩ : ∃ X, Hid (bin q (i - 1) = X) := ⟨_, rfl⟩
      rw [HX.out] at hX hXc hTc HT
      have e1 : (X : Int) * 2 ^ (i + k - 1 - (q + 1)) = ((X * 2 ^ (i + k - 1 - (q + 1)) : Nat) : Int) := by push_cast; rfl
      obtain ⟨Y, hY⟩ : ∃ Y, X * 2 ^ (i + k - 1 - (q + 1)) = Y := ⟨_, rfl⟩
      rw [hY] at e1 hTc HT
      have HE := Lib.hid e1
      clear hY e1
      by_cases hig : i ≤ q + 1
      · have hXp : 0 < X := hX.2 hig
        have hXi : (0 : Int) < X := by omega
        have hii : (i : Int) ≤ (q : Int) + 1 := by omega
        clear hX
        go_wp2_with (go_at_call 11; refine (waysIn_e HI.out.1 HI.out.2 hlt _).mono ?_; rintro e w' ⟨rfl, rfl⟩; rw [HX.out])
        all_goals go_round
        case rel => exact ⟨q + 1, hlt, by rw [HT.out, HE.out]; exact congrArg (Value.int .i64) (wrap_sum hTc), by go_num⟩
        case measure => simp [intOf]; omega
      · have hXp : X = 0 := by omega
        have hii : ¬ (i : Int) ≤ (q : Int) + 1 := by omega
        clear hX
        subst hXp
        go_wp2_with (go_at_call 11; refine (waysIn_e HI.out.1 HI.out.2 hlt _).mono ?_; rintro e w' ⟨rfl, rfl⟩; rw [HX.out])
        all_goals go_round
        case rel => exact ⟨q + 1, hlt, by rw [HT.out, show Y = 0 by have hy := HE.out; simp at hy; omega]; rfl, by go_num⟩
        case measure => simp [intOf]; omega
    obtain rfl : q = i + k - 1 := by omega
    rw [HF.out.tot, HWe.out]
    have hS := HF.out.step
    obtain ⟨U, HU⟩ : ∃ U, Hid (ways (i - 1) k = U) := ⟨_, rfl⟩
    obtain ⟨V, HVv⟩ : ∃ V, Hid (ways i (k - 1) = V) := ⟨_, rfl⟩
    rw [HU.out, HVv.out, HWe.out] at hS
    have HB3 : (¬ (1 : Int) < i) ∨ ((1 : Int) < i ∧ ¬ (1 : Int) < k) ∨ ((1 : Int) < i ∧ (1 : Int) < k ∧ (U : Int) + V = W) := by omega
    clear hS hF2
    have HM := Lib.hid (fun (M : Int) (h0 : 0 ≤ M) (h1 : M ≤ 1048576) (wr : World) (hb : Below w.heap.size w wr) => makeNumZ _ n M wr (HV0.out.below hb) hn h0 h1)
    rcases HB3 with h1 | ⟨h1, h2⟩ | ⟨h1, h2, hUV⟩
    all_goals
      go_wp2_with (first
        | (go_at_call 9; with_reducible refine (ways_l ⟨by omega, HI.out.1.2⟩ HI.out.2 _).mono ?_; rintro e w' ⟨rfl, rfl⟩; rw [HU.out])
        | (go_at_call 9; with_reducible refine (ways_r HI.out.1 ⟨by omega, HI.out.2.2⟩ _).mono ?_; rintro e w' ⟨rfl, rfl⟩; rw [HVv.out])
        | (go_at_call 12; refine (even_e HI.out.1 HI.out.2 _).mono ?_; rintro e w' ⟨rfl, qe, rfl⟩; have H4 : Hid (Below w.heap.size w (w3.drewN qe)) := below_drewN H3.out _)
        | (go_at_call 7; refine (makeNumZ _ n _ _ (HV0.out.below H4.out) hn (by decide) (by decide)).mono ?_; rintro e w5 ⟨q5, hq5, rfl, hb5⟩; obtain ⟨s5, r5, hs5, hr5, hsr, hsr', HS5⟩ := share_pair HI.out.1 HI.out.2 hq5; have H5 : Hid (Below w.heap.size w w5) := H4.out.trans (hb5.mono H4.out.size); clear hb5 H4)
        | (go_at_call 13; with_reducible refine (HS5.out.1 _).mono ?_; rintro e w' ⟨rfl, rfl⟩)
        | (go_at_call 13; with_reducible refine (HS5.out.2 _).mono ?_; rintro e w' ⟨rfl, rfl⟩))
      clear hs5 hr5 hsr hsr' HS5
      go_loopw [13, 14, 15, 16] (fun cs a b g wr => ∃ (s : ByteArray) (x y m : Nat), m ≤ 12 ∧ cs = .string s ∧ a = .int .i64 (x : Int) ∧ b = .int .i64 (y : Int) ∧ g = .int .i64 (m : Int) ∧ s.size = m ∧ x ≤ i ∧ y ≤ k ∧ Hid (CState i k s x y m ∧ Below w.heap.size w wr)) (fun _ _ _ g _ => 12 - (intOf g).toNat)
      case atStart => exact ⟨ByteArray.empty, 0, 0, 0, by omega, rfl, rfl, rfl, rfl, rfl, by omega, by omega, ⟨⟨rfl, rfl, by simp [goF]⟩, H5.out⟩⟩
      case round =>
        obtain ⟨s, x, y, m, hm12, rfl, rfl, rfl, rfl, hsz, hx, hy, HR⟩ := hrel
        have hs12 : s.size ≤ 12 := by omega
        by_cases hlt : m < 12
        case pos =>
          go_wp2_with (fail)
          go_at_call 7
          refine (makeNumZ _ n _ _ (HV0.out.below HR.out.2) hn (by omega) (by omega)).mono ?_
          rintro e w7 ⟨q7, hq7, rfl, hb7⟩
          have H7 : Hid (Below w.heap.size w w7) := HR.out.2.trans (hb7.mono HR.out.2.size)
          have HC := Lib.hid HR.out.1
          clear hb7 HR
          by_cases he : (q7 : Int) % 2 = 0
          all_goals by_cases hxi : (x : Int) < i
          all_goals by_cases hyk : (y : Int) < k
          all_goals go_wp2
          all_goals go_round
          all_goals first
            | exact ⟨_, x + 1, y, m + 1, by omega, rfl, rfl, rfl, rfl, (HC.out.a_go hxi hyk).size, by omega, hy, ⟨HC.out.a_go hxi hyk, H7.out⟩⟩
            | exact ⟨_, x, y + 1, m + 1, by omega, rfl, rfl, rfl, rfl, (HC.out.b_go hxi hyk).size, hx, by omega, ⟨HC.out.b_go hxi hyk, H7.out⟩⟩
            | exact ⟨_, x, y, m + 1, by omega, rfl, rfl, rfl, rfl, (HC.out.stop (by omega) (.inl rfl)).size, hx, hy, ⟨HC.out.stop (by omega) (.inl rfl), H7.out⟩⟩
            | exact ⟨_, x, y, m + 1, by omega, rfl, rfl, rfl, rfl, (HC.out.stop (by omega) (.inr rfl)).size, hx, hy, ⟨HC.out.stop (by omega) (.inr rfl), H7.out⟩⟩
            | (simp [intOf]; omega)
        go_wp2_with (first
          | (go_at_call 6; refine (course_e HI.out.1 HI.out.2 HR.out.1 hm12 _).mono ?_; rintro e w9 ⟨rfl, hb9⟩; have H9 : Hid (Below w.heap.size w w9) := HR.out.2.trans (hb9.mono HR.out.2.size); clear hb9)
          | (go_at_call 14; with_reducible refine (need_odd HI.out.1 _).mono ?_; rintro e w' ⟨rfl, rfl⟩)
          | (go_at_call 14; with_reducible refine (need_even _).mono ?_; rintro e w' ⟨rfl, rfl⟩))
        go_ret
        exact ⟨rfl, H9.out⟩
end Go.Proofs.YtcomcpiegfcdeaaDoor
