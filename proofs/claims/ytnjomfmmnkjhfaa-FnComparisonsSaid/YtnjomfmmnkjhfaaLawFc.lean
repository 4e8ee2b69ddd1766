/- The law FnComparisons: the walk (printed by print/fcl.py). -/
import Derived.Test.YtnjomfmmnkjhfaaFco
import Derived.Test.YtnjomfmmnkjhfaaMds
namespace Go.Proofs.Ytnjomfmmnkjhfaa
open Go.ChangeShapes Go.WideShapes Go.ChangeAt Go.RowKit

theorem LadN.sm {n : Nat} {a : List Int} (h : LadN n a) : a.length ≤ 1048576 := by have := h.bd; have := h.len; omega
theorem fcNumZ (v : Value) (n : Nat) (M : Int) (w : World) (hv : InB w v n) (hn : n ≤ 1048576) (h0 : 0 ≤ M) (h1 : M ≤ 1048576) :
    Calls Try.prog 11 #[v, .int .i64 M] w fun e w' => ∃ q : Nat, q ≤ 65535 ∧ e = .returned (.int .i64 (q : Int)) ∧ Below w.heap.size w w' := by
  obtain ⟨m, rfl⟩ := Int.eq_ofNat_of_zero_le h0
  exact makeNum_any v n m w hv hn (by omega)
theorem makeOrderZ (v : Value) (n : Nat) (M : Int) (N : Nat) (w : World) (hv : InB w v n) (hn : n ≤ 1048576) (h0 : 0 ≤ M) (hm : M ≤ 1048576) (h1 : 1 ≤ N) (h8 : N ≤ 8) :
    Calls Try.prog 12 #[v, .int .i64 M, .int .i64 (N : Int)] w fun e w' => ∃ (v' : Value) (R : List Int), e = .returned v' ∧ LadN N R ∧ InI w' v' R ∧ Below w.heap.size w w' := by
  obtain ⟨m, rfl⟩ := Int.eq_ofNat_of_zero_le h0
  exact makeOrder_any v n m N w hv hn (by omega) h1 h8
set_option maxHeartbeats 8000000 in
set_option maxRecDepth 100000 in
theorem lawFnComparisons (v : Value) (m : Nat) (w : World) (hv : InB w v m) :
    Calls Try.prog 4 #[v] w fun e w' => e = .returned (.bool true) ∧ Below w.heap.size w w' := by
  have HV := Lib.hid hv
  obtain ⟨A0, c0, rfl, hc, hm, -⟩ := hv
  unfold maxLen at hm
  by_cases hn : m ≤ 1048576
  case neg =>
    go_enter Try.func4, Try.ntmps4
    go_wp2
    go_ret
    exact ⟨rfl, Below.refl _ _⟩
  go_enter Try.func4, Try.ntmps4
  go_wp2_with fail
  refine (fcNumZ _ m _ _ HV.out hn (by decide) (by decide)).mono ?_
  rintro e w0 ⟨q, hq, rfl, hb⟩
  have HB0 : Hid (Below w.heap.size w w0) := hb
  clear hb
  obtain ⟨r, hr, hr6⟩ : ∃ r : Nat, Int.tmod (q : Int) 6 = (r : Int) ∧ r < 6 := ⟨q % 6, by rw [Int.tmod_eq_emod_of_nonneg (by omega)]; omega, by omega⟩
  obtain ⟨n, hnr⟩ : ∃ n : Nat, n = r + 1 := ⟨_, rfl⟩
  have h1 : 1 ≤ n := by omega
  have h6 : n ≤ 6 := by omega
  have hnw : IntKind.i64.wrap (1 + (r : Int)) = (n : Int) := by rw [IntKind.wrap_i64]; omega
  clear hq hr6 hnr
  go_wp2_with fail
  refine (makeOrderZ _ m _ n _ (HV.out.below HB0.out) hn (by decide) (by decide) h1 (by omega)).mono ?_
  rintro e w1 ⟨va, a, rfl, hl, hi, hb⟩
  clear hr hnw
  have HB1 : Hid (Below w.heap.size w w1) := HB0.out.trans (hb.mono HB0.out.size)
  have La := Lib.hid hl
  have Ha := Lib.hid hi
  clear hl hi hb HB0
  go_wp2_with fail
  refine (makeOrderZ _ m _ n _ (HV.out.below HB1.out) hn (by decide) (by decide) h1 (by omega)).mono ?_
  rintro e w2 ⟨vb, b, rfl, hl, hi, hb⟩
  have HB2 : Hid (Below w.heap.size w w2) := HB1.out.trans (hb.mono HB1.out.size)
  replace Ha := Lib.hid (Ha.out.below hb)
  have Lb := Lib.hid hl
  have Hb := Lib.hid hi
  clear hl hi hb HB1
  go_wp2_with fail
  refine (makeOrderZ _ m _ n _ (HV.out.below HB2.out) hn (by decide) (by decide) h1 (by omega)).mono ?_
  rintro e w3 ⟨vc, c, rfl, hl, hi, hb⟩
  have HB3 : Hid (Below w.heap.size w w3) := HB2.out.trans (hb.mono HB2.out.size)
  replace Ha := Lib.hid (Ha.out.below hb)
  replace Hb := Lib.hid (Hb.out.below hb)
  have Lc := Lib.hid hl
  have Hc := Lib.hid hi
  clear hl hi hb HB2
  clear HV hc hm hn
  have F1 := Lib.hid (fcm1_of La.out Lb.out Lc.out h6)
  have F2 := Lib.hid (fcm2_of La.out Lb.out Lc.out h6)
  have HDa : Hid (∀ W, InI W va a → InI W vb b → Calls Try.prog 13 #[va, vb] W fun e w' => e = .returned (.int .i64 (dist a b : Nat)) ∧ W = w') := fun W h1 h2 => implLadderDistance_std va a vb b W h1 h2 (La.out.two Lb.out)
  have HDc : Hid (∀ W, InI W va a → InI W vc c → Calls Try.prog 13 #[va, vc] W fun e w' => e = .returned (.int .i64 (dist a c : Nat)) ∧ W = w') := fun W h1 h2 => implLadderDistance_std va a vc c W h1 h2 (La.out.two Lc.out)
  have HDb : Hid (∀ W, InI W vc c → InI W vb b → Calls Try.prog 13 #[vc, vb] W fun e w' => e = .returned (.int .i64 (dist c b : Nat)) ∧ W = w') := fun W h1 h2 => implLadderDistance_std vc c vb b W h1 h2 (Lc.out.two Lb.out)
  have HFa : Hid (∀ W, InI W va a → InI W vb b → Calls Try.prog 14 #[va, vb] W fun e w' => e = .returned (.int .i64 (footF a b)) ∧ Below W.heap.size W w') := fun W h1 h2 => implFootruleOf_std va a vb b W h1 La.out.sm h2 Lb.out.sm
  have HFb : Hid (∀ W, InI W va a → InI W vb b → Calls Try.prog 14 #[vb, va] W fun e w' => e = .returned (.int .i64 (footF a b)) ∧ Below W.heap.size W w') := fun W h1 h2 => by
    have h := implFootruleOf_std vb b va a W h2 Lb.out.sm h1 La.out.sm
    rw [F1.out.f3] at h; exact h
  have HCa : Hid (∀ W, InI W va a → InI W vb b → Calls Try.prog 15 #[va, vb] W fun e w' => e = .returned (.int .i64 (commonF a b)) ∧ Below W.heap.size W w') := fun W h1 h2 => implLongestCommon_std va a vb b W h1 La.out.sm h2 Lb.out.sm
  have HCb : Hid (∀ W, InI W va a → InI W vb b → Calls Try.prog 15 #[vb, va] W fun e w' => e = .returned (.int .i64 (commonF a b)) ∧ Below W.heap.size W w') := fun W h1 h2 => by
    have h := implLongestCommon_std vb b va a W h2 Lb.out.sm h1 La.out.sm
    rw [F1.out.l3] at h; exact h
  have HMa : Hid (∀ W, InI W va a → InI W vb b → Calls Try.prog 16 #[va, vb] W fun e w' => e = .returned (.int .i64 (movesF a b)) ∧ Below W.heap.size W w') := fun W h1 h2 => implLeastMoves_std va a vb b W h1 La.out.sm h2 Lb.out.sm
  have hS : (movesF a b == 0) = (a == b) := by
    by_cases h : a = b
    · rw [F1.out.m2.2 h, h]; simp
    · rw [beq_eq_false_iff_ne.2 h, beq_eq_false_iff_ne]; exact fun e => h (F1.out.m2.1 e)
  have HSm : Hid (∀ W, InI W va a → InI W vb b → Calls Try.prog 17 #[va, vb] W fun e w' => e = .returned (.bool (a == b)) ∧ W = w') := fun W h1 h2 => lawsSameB_any va vb a b W h1 h2 La.out.sm Lb.out.sm
  have f1 := F1.out.f1
  have f2 := F1.out.f2
  have l1 := F1.out.l1
  have l2 := F1.out.l2
  have m1 := F1.out.m1
  have d1 := F1.out.d1
  have p1 := dist_cap (a := a) (b := b) (by have := La.out.bd; have := La.out.len; omega)
  have p2 := dist_cap (a := a) (b := c) (by have := La.out.bd; have := La.out.len; omega)
  have p3 := dist_cap (a := c) (b := b) (by have := Lc.out.bd; have := Lc.out.len; omega)
  have HU : Hid (∀ W vu vw, InI W vu (composeF c a) → InI W vw (composeF c b) → (Calls Try.prog 13 #[vu, vw] W fun e w' => e = .returned (.int .i64 (dist a b : Nat)) ∧ W = w') ∧ (Calls Try.prog 15 #[vu, vw] W fun e w' => e = .returned (.int .i64 (commonF a b)) ∧ Below W.heap.size W w')) := fun W vu vw hu hw => by
    have h1 := implLadderDistance_std vu _ vw _ W hu hw (F2.out.u.two F2.out.v)
    have h2 := implLongestCommon_std vu _ vw _ W hu F2.out.u.sm hw F2.out.v.sm
    rw [F2.out.d] at h1
    rw [F2.out.l] at h2
    exact ⟨h1, h2⟩
  have HBt : Hid (∀ W, InI W va a → InI W vb b → InI W vc c → (Calls Try.prog 21 #[va, vc, vb] W fun e w' => e = .returned (.bool (decide (((dist a b : Nat) : Int) = ((dist a c : Nat) : Int) + ((dist c b : Nat) : Int)))) ∧ Below W.heap.size W w') ∧ (Calls Try.prog 21 #[va, va, vb] W fun e w' => e = .returned (.bool true) ∧ Below W.heap.size W w')) := fun W h1 h2 h3 => by
    have k1 := implBetweenOrders_std va a vc c vb b W h1 La.out.sm h3 Lc.out.sm h2 Lb.out.sm
    have k2 := implBetweenOrders_std va a va a vb b W h1 La.out.sm h1 La.out.sm h2 Lb.out.sm
    rw [F2.out.bt] at k1
    rw [F2.out.b0] at k2
    exact ⟨k1, k2⟩
  have F4 : Hid (n ≤ 5 → Fcm4 n a b c) := fun h => fcm4_of La.out Lb.out Lc.out h
  generalize hD : dist a b = D at *
  generalize hE : dist a c = E at *
  generalize hG : dist c b = G at *
  have HDEG := Lib.hid (And.intro hD (And.intro hE hG))
  generalize hF : footF a b = F at *
  generalize hLc : commonF a b = lc at *
  generalize hMv : movesF a b = M at *
  generalize (a == b) = S at *
  clear hD hE hG hF hLc hMv F1
  have g1 : ¬ ((D : Int) < 0) := by omega
  have g2 : ¬ (F < (D : Int)) := by omega
  have g3 : ¬ (2 * (D : Int) < F) := by omega
  have g4 : IntKind.i64.wrap (2 * (D : Int)) = 2 * (D : Int) := by rw [IntKind.wrap_i64]; omega
  have g5 : ¬ (lc < 1) := by omega
  have g6 : IntKind.i64.wrap (lc + M) = (n : Int) := by rw [IntKind.wrap_i64]; omega
  have g7 : ¬ ((D : Int) < M) := by omega
  have g8 : IntKind.i64.wrap ((E : Int) + (G : Int)) = (E : Int) + (G : Int) := by rw [IntKind.wrap_i64]; omega
  have g9 : ¬ ((E : Int) + (G : Int) < (D : Int)) := by omega
  have x1 : (F != F) = false := by simp
  have x2 : ((n : Int) != (n : Int)) = false := by simp
  have x3 : (S != S) = false := by simp
  have x4 : (lc != lc) = false := by simp
  have x5 : ((D : Int) != (D : Int)) = false := by simp
  clear f1 f2 l1 l2 m1 d1
  go_wp2_with fail
  refine (HDa.out _ Ha.out Hb.out).mono ?_
  rintro e w_ ⟨rfl, rfl⟩
  go_wp2_with fail
  refine (HFa.out _ Ha.out Hb.out).mono ?_
  rintro e w4 ⟨rfl, hb⟩
  have HB4 : Hid (Below w.heap.size w w4) := HB3.out.trans (hb.mono HB3.out.size)
  replace Ha := Lib.hid (Ha.out.below hb)
  replace Hb := Lib.hid (Hb.out.below hb)
  replace Hc := Lib.hid (Hc.out.below hb)
  clear hb HB3
  go_wp2_with fail
  refine (HCa.out _ Ha.out Hb.out).mono ?_
  rintro e w5 ⟨rfl, hb⟩
  have HB5 : Hid (Below w.heap.size w w5) := HB4.out.trans (hb.mono HB4.out.size)
  replace Ha := Lib.hid (Ha.out.below hb)
  replace Hb := Lib.hid (Hb.out.below hb)
  replace Hc := Lib.hid (Hc.out.below hb)
  clear hb HB4
  go_wp2_with fail
  refine (HMa.out _ Ha.out Hb.out).mono ?_
  rintro e w6 ⟨rfl, hb⟩
  have HB6 : Hid (Below w.heap.size w w6) := HB5.out.trans (hb.mono HB5.out.size)
  replace Ha := Lib.hid (Ha.out.below hb)
  replace Hb := Lib.hid (Hb.out.below hb)
  replace Hc := Lib.hid (Hc.out.below hb)
  clear hb HB5
  go_wp2_with fail
  refine (HFb.out _ Ha.out Hb.out).mono ?_
  rintro e w7 ⟨rfl, hb⟩
  have HB7 : Hid (Below w.heap.size w w7) := HB6.out.trans (hb.mono HB6.out.size)
  replace Ha := Lib.hid (Ha.out.below hb)
  replace Hb := Lib.hid (Hb.out.below hb)
  replace Hc := Lib.hid (Hc.out.below hb)
  clear hb HB6
  go_wp2_with fail
  refine (HSm.out _ Ha.out Hb.out).mono ?_
  rintro e w_ ⟨rfl, rfl⟩
  go_wp2_with fail
  refine (HCb.out _ Ha.out Hb.out).mono ?_
  rintro e w8 ⟨rfl, hb⟩
  have HB8 : Hid (Below w.heap.size w w8) := HB7.out.trans (hb.mono HB7.out.size)
  replace Ha := Lib.hid (Ha.out.below hb)
  replace Hb := Lib.hid (Hb.out.below hb)
  replace Hc := Lib.hid (Hc.out.below hb)
  clear hb HB7
  go_wp2_with fail
  refine (HDc.out _ Ha.out Hc.out).mono ?_
  rintro e w_ ⟨rfl, rfl⟩
  go_wp2_with fail
  refine (HDb.out _ Hc.out Hb.out).mono ?_
  rintro e w_ ⟨rfl, rfl⟩
  go_wp2_with fail
  clear g1 g2 g3 g4 g5 g6 g7 g9 x1 hS HFa HFb HCa HCb HMa HSm
  refine (implInverseOrder_std _ a _ Ha.out La.out.sm).mono ?_
  rintro e w9 ⟨vi, rfl, hf, hb⟩
  have HB9 : Hid (Below w.heap.size w w9) := HB8.out.trans (hb.mono HB8.out.size)
  replace Ha := Lib.hid (Ha.out.below hb)
  replace Hb := Lib.hid (Hb.out.below hb)
  replace Hc := Lib.hid (Hc.out.below hb)
  have Hi := Lib.hid hf.in_
  clear hf
  clear hb HB8
  go_wp2_with fail
  refine (implComposeOrders_std _ a _ (inverseF a) _ Ha.out La.out.sm Hi.out F2.out.inv.sm).mono ?_
  rintro e w10 ⟨vx, rfl, hf, hb⟩
  have HB10 : Hid (Below w.heap.size w w10) := HB9.out.trans (hb.mono HB9.out.size)
  replace Ha := Lib.hid (Ha.out.below hb)
  replace Hb := Lib.hid (Hb.out.below hb)
  replace Hc := Lib.hid (Hc.out.below hb)
  replace Hi := Lib.hid (Hi.out.below hb)
  have Hx := Lib.hid hf.in_
  clear hf
  clear hb HB9
  rw [F2.out.x] at Hx
  go_wp2_with fail
  refine (implComposeOrders_std _ (inverseF a) _ a _ Hi.out F2.out.inv.sm Ha.out La.out.sm).mono ?_
  rintro e w11 ⟨vy, rfl, hf, hb⟩
  have HB11 : Hid (Below w.heap.size w w11) := HB10.out.trans (hb.mono HB10.out.size)
  replace Ha := Lib.hid (Ha.out.below hb)
  replace Hb := Lib.hid (Hb.out.below hb)
  replace Hc := Lib.hid (Hc.out.below hb)
  replace Hi := Lib.hid (Hi.out.below hb)
  replace Hx := Lib.hid (Hx.out.below hb)
  have Hy := Lib.hid hf.in_
  clear hf
  clear hb HB10
  rw [F2.out.y] at Hy
  clear Hi
  go_wp2_with fail
  refine (implComposeOrders_std _ c _ a _ Hc.out Lc.out.sm Ha.out La.out.sm).mono ?_
  rintro e w12 ⟨vu, rfl, hf, hb⟩
  have HB12 : Hid (Below w.heap.size w w12) := HB11.out.trans (hb.mono HB11.out.size)
  replace Ha := Lib.hid (Ha.out.below hb)
  replace Hb := Lib.hid (Hb.out.below hb)
  replace Hc := Lib.hid (Hc.out.below hb)
  replace Hx := Lib.hid (Hx.out.below hb)
  replace Hy := Lib.hid (Hy.out.below hb)
  have Hu := Lib.hid hf.in_
  clear hf
  clear hb HB11
  go_wp2_with fail
  refine (implComposeOrders_std _ c _ b _ Hc.out Lc.out.sm Hb.out Lb.out.sm).mono ?_
  rintro e w13 ⟨vv, rfl, hf, hb⟩
  have HB13 : Hid (Below w.heap.size w w13) := HB12.out.trans (hb.mono HB12.out.size)
  replace Ha := Lib.hid (Ha.out.below hb)
  replace Hb := Lib.hid (Hb.out.below hb)
  replace Hc := Lib.hid (Hc.out.below hb)
  replace Hx := Lib.hid (Hx.out.below hb)
  replace Hy := Lib.hid (Hy.out.below hb)
  replace Hu := Lib.hid (Hu.out.below hb)
  have Hv := Lib.hid hf.in_
  clear hf
  clear hb HB12
  have HLU : Hid (LadN n (upto n)) := ladN_upto h1 (by omega)
  have HSU : Hid (∀ W v1 v2, InI W v1 (upto n) → InI W v2 (upto n) → Calls Try.prog 17 #[v1, v2] W fun e w' => e = .returned (.bool true) ∧ W = w') := fun W v1 v2 h1 h2 => by
    have h := lawsSameB_any v1 v2 _ _ W h1 h2 HLU.out.sm HLU.out.sm
    rw [show (upto n == upto n) = true from by simp] at h; exact h
  go_wp2_with fail
  refine (lawsStairs_any n _ (by omega)).mono ?_
  rintro e w14 ⟨vs, rfl, hf, hb⟩
  have HB14 : Hid (Below w.heap.size w w14) := HB13.out.trans (hb.mono HB13.out.size)
  replace Ha := Lib.hid (Ha.out.below hb)
  replace Hb := Lib.hid (Hb.out.below hb)
  replace Hc := Lib.hid (Hc.out.below hb)
  replace Hx := Lib.hid (Hx.out.below hb)
  replace Hy := Lib.hid (Hy.out.below hb)
  replace Hu := Lib.hid (Hu.out.below hb)
  replace Hv := Lib.hid (Hv.out.below hb)
  have Hs := Lib.hid hf.in_
  clear hf
  clear hb HB13
  go_wp2_with fail
  refine (HSU.out _ _ _ Hx.out Hs.out).mono ?_
  rintro e w_ ⟨rfl, rfl⟩
  clear Hx Hs
  go_wp2_with fail
  refine (lawsStairs_any n _ (by omega)).mono ?_
  rintro e w15 ⟨vs2, rfl, hf, hb⟩
  have HB15 : Hid (Below w.heap.size w w15) := HB14.out.trans (hb.mono HB14.out.size)
  replace Ha := Lib.hid (Ha.out.below hb)
  replace Hb := Lib.hid (Hb.out.below hb)
  replace Hc := Lib.hid (Hc.out.below hb)
  replace Hy := Lib.hid (Hy.out.below hb)
  replace Hu := Lib.hid (Hu.out.below hb)
  replace Hv := Lib.hid (Hv.out.below hb)
  have Hs := Lib.hid hf.in_
  clear hf
  clear hb HB14
  go_wp2_with fail
  refine (HSU.out _ _ _ Hy.out Hs.out).mono ?_
  rintro e w_ ⟨rfl, rfl⟩
  clear Hy Hs
  go_wp2_with fail
  refine ((HU.out _ _ _ Hu.out Hv.out).1).mono ?_
  rintro e w_ ⟨rfl, rfl⟩
  go_wp2_with fail
  refine ((HU.out _ _ _ Hu.out Hv.out).2).mono ?_
  rintro e w16 ⟨rfl, hb⟩
  have HB16 : Hid (Below w.heap.size w w16) := HB15.out.trans (hb.mono HB15.out.size)
  replace Ha := Lib.hid (Ha.out.below hb)
  replace Hb := Lib.hid (Hb.out.below hb)
  replace Hc := Lib.hid (Hc.out.below hb)
  replace Hu := Lib.hid (Hu.out.below hb)
  replace Hv := Lib.hid (Hv.out.below hb)
  clear hb HB15
  clear Hu Hv HU
  go_wp2_with fail
  refine ((HBt.out _ Ha.out Hb.out Hc.out).1).mono ?_
  rintro e w17 ⟨rfl, hb⟩
  have HB17 : Hid (Below w.heap.size w w17) := HB16.out.trans (hb.mono HB16.out.size)
  replace Ha := Lib.hid (Ha.out.below hb)
  replace Hb := Lib.hid (Hb.out.below hb)
  replace Hc := Lib.hid (Hc.out.below hb)
  clear hb HB16
  have xT : (decide ((D : Int) = (E : Int) + (G : Int)) != ((D : Int) == (E : Int) + (G : Int))) = false := by by_cases h : (D : Int) = (E : Int) + (G : Int) <;> simp [h]
  go_wp2_with fail
  refine (HDc.out _ Ha.out Hc.out).mono ?_
  rintro e w_ ⟨rfl, rfl⟩
  go_wp2_with fail
  refine (HDb.out _ Hc.out Hb.out).mono ?_
  rintro e w_ ⟨rfl, rfl⟩
  go_wp2_with fail
  refine ((HBt.out _ Ha.out Hb.out Hc.out).2).mono ?_
  rintro e w18 ⟨rfl, hb⟩
  have HB18 : Hid (Below w.heap.size w w18) := HB17.out.trans (hb.mono HB17.out.size)
  replace Ha := Lib.hid (Ha.out.below hb)
  replace Hb := Lib.hid (Hb.out.below hb)
  replace Hc := Lib.hid (Hc.out.below hb)
  clear hb HB17
  clear HBt
  clear xT HLU HSU F2
  go_wp2_with fail
  go_loop [17, 18] (fun f k => ∃ j : Nat, j + 1 ≤ n ∧ k = .int .i64 ((j : Int) + 2) ∧ f = .int .i64 (factF (j + 1))) (fun _ k => n + 1 - (intOf k).toNat)
  case atStart => exact ⟨0, by omega, rfl, rfl⟩
  case round =>
    obtain ⟨j, hj, rfl, rfl⟩ := hrel
    by_cases hlt : j + 1 < n
    case pos =>
      have hjn : (j : Int) + 2 ≤ (n : Int) := by omega
      have hw : IntKind.i64.wrap (factF (j + 1) * ((j : Int) + 2)) = factF (j + 1 + 1) := by
        have h := (fact_all ⟨j + 1 + 1, by omega⟩)
        have e : factF (j + 1 + 1) = factF (j + 1) * ((j : Int) + 2) := by
          rw [factF]; push_cast; rfl
        dsimp only at h
        rw [← e, IntKind.wrap_i64]; omega
      generalize factF (j + 1) = fj at *
      go_wp2
      go_round
      case rel => exact ⟨j + 1, by omega, by go_num, rfl⟩
      case measure => simp [intOf]; omega
    have hjn : ¬ ((j : Int) + 2 ≤ (n : Int)) := by omega
    have HTF : Hid (factF (j + 1) = totF n 29) := by
      obtain rfl : n = j + 1 := by omega
      exact (tot_all ⟨j + 1, by omega⟩ (by simp)).1.symm
    generalize factF (j + 1) = fj at *
    go_wp2
    have HBA : Hid (Below w.heap.size w w18 ∧ InI w18 va a ∧ InI w18 vb b ∧ InI w18 vc c) := ⟨HB18.out, Ha.out, Hb.out, Hc.out⟩
    clear HB18 Ha Hb Hc hjn hj hlt
    go_loopw [16, 19] (fun t k wr => ∃ k1 : Nat, k1 ≤ 29 ∧ k = .int .i64 (k1 : Int) ∧ t = .int .i64 (totF n k1) ∧ Hid (Below w.heap.size w wr ∧ InI wr va a ∧ InI wr vb b ∧ InI wr vc c)) (fun _ k _ => 29 - (intOf k).toNat)
    case atStart => exact ⟨0, by omega, rfl, rfl, HBA⟩
    case round =>
      obtain ⟨k1, hk1, rfl, rfl, HR⟩ := hrel
      clear HBA
      by_cases hlt : k1 < 29
      case pos =>
        have hw : IntKind.i64.wrap (totF n k1 + countF n k1) = totF n (k1 + 1) := by
          have h := (tot_all ⟨n, by omega⟩ h1).2
          have t1 := h.1 ⟨k1, by omega⟩
          have t2 := h.2 ⟨k1, by omega⟩
          dsimp only at t1 t2
          rw [totF, IntKind.wrap_i64]; omega
        have hk28 : (k1 : Int) ≤ 28 := by omega
        have HCT := Lib.hid (implCountAt_std n k1 wr (WalkArith.wf_i64 (by omega)) (WalkArith.wf_i64 (by omega)))
        generalize countF n k1 = ck at *
        obtain ⟨tk, hgt⟩ : ∃ tk : Int, Hid (totF n (k1 + 1) = tk) := ⟨_, rfl⟩
        rw [hgt.out] at hw
        go_wp2_with fail
        refine HCT.out.mono ?_
        rintro e w2 ⟨rfl, hb⟩
        have HR2 : Hid (Below w.heap.size w w2 ∧ InI w2 va a ∧ InI w2 vb b ∧ InI w2 vc c) := ⟨HR.out.1.trans (hb.mono HR.out.1.size), HR.out.2.1.below hb, HR.out.2.2.1.below hb, HR.out.2.2.2.below hb⟩
        clear hb HR
        go_wp2
        go_roundw
        case rel => exact ⟨k1 + 1, by omega, by go_num, by rw [hgt.out], HR2⟩
        case measure => simp [intOf]; omega
      have hk28 : ¬ ((k1 : Int) ≤ 28) := by omega
      obtain rfl : k1 = 29 := by omega
      rw [← HTF.out]
      have HB20 : Hid (Below w.heap.size w wr) := HR.out.1
      have Ha : Hid (InI wr va a) := HR.out.2.1
      have Hb : Hid (InI wr vb b) := HR.out.2.2.1
      have Hc : Hid (InI wr vc c) := HR.out.2.2.2
      clear HR HTF hk1
      have xf : (fj != fj) = false := by simp
      have F3 := Lib.hid (fcm3_of La.out h6)
      have HNx : Hid (∀ W, InI W va a → Calls Try.prog 23 #[va] W fun e w' => ∃ v', e = .returned (.tuple #[v', .bool (nextOk a)]) ∧ Fr w' W.heap.size w'.heap.size v' (nextF a) ∧ Below W.heap.size W w') := fun W h => implNextOrder_std va a W h La.out.sm
      have HLN : Hid (∀ W v' xs, InI W v' xs → ladB xs = true → Calls Try.prog 24 #[v'] W fun e w' => e = .returned (.bool true) ∧ W = w') := fun W v' xs h hl => by
        obtain ⟨A, c', rfl, h1, h2, h3⟩ := h
        have h8 := (ladB_t hl).1.2
        have h := implLadderOk_any A c' xs W h3 (by omega) h1
        rw [hl] at h; exact h
      have hB6 : ¬ n ≤ 5 → countF (n : Int) 1 = (n : Int) - 1 := fun h => by
        obtain rfl : n = 6 := by omega
        exact count61
      have y1 : IntKind.i64.wrap ((n : Int) - 1) = (n : Int) - 1 := by rw [IntKind.wrap_i64]; omega
      have xn : (((n : Int) - 1) == ((n : Int) - 1)) = true := by simp
      have HCT := Lib.hid (fun W => implCountAt_std n 1 W (WalkArith.wf_i64 (by omega)) (WalkArith.wf_i64 (by omega)))
      have HDs : Hid (∀ W v', InI W v' (upto n) → InI W va a → Calls Try.prog 13 #[va, v'] W fun e w' => e = .returned (.int .i64 (dist a (upto n) : Nat)) ∧ W = w') := fun W v' h2 h3 => implLadderDistance_std va a v' _ W h3 h2 (La.out.two (ladN_upto h1 (by omega)))
      have HN := Lib.hid h1
      cases hk : nextOk a

      case true =>
        rw [hk] at HNx
        obtain ⟨z1, z2⟩ := F3.out.n1 hk
        have HZ : Hid (ladB (nextF a) = true ∧ beforeF a (nextF a) = true ∧ a.length = (nextF a).length) := ⟨z1, z2, (by simp only [nextOk, Bool.and_eq_true, decide_eq_true_eq] at hk; have h0 := (ladB_t hk.1).1.1; rw [nextF, if_pos (by simp [nextOk, hk]), nextL_length hk.2 (by omega)])⟩
        clear z1 z2 hk F3
        go_wp2_with fail
        refine (HNx.out _ Ha.out).mono ?_
        rintro e w21 ⟨vn, rfl, hf, hb⟩
        have HB21 : Hid (Below w.heap.size w w21) := HB20.out.trans (hb.mono HB20.out.size)
        replace Ha := Lib.hid (Ha.out.below hb)
        replace Hb := Lib.hid (Hb.out.below hb)
        replace Hc := Lib.hid (Hc.out.below hb)
        have Hn := Lib.hid hf.in_
        clear hf
        clear hb HB20
        go_wp2_with fail
        refine (HLN.out _ _ _ Hn.out HZ.out.1).mono ?_
        rintro e w_ ⟨rfl, rfl⟩
        have HBf := Lib.hid (lawsBefore_any _ _ _ _ _ Ha.out Hn.out La.out.sm HZ.out.2.2)
        rw [HZ.out.2.1] at HBf
        go_wp2_with fail
        refine (HBf.out).mono ?_
        rintro e w_ ⟨rfl, rfl⟩
        clear HBf HZ Hn
        by_cases h5 : n ≤ 5
        case neg =>
          have hn5 : ¬ ((n : Int) ≤ 5) := by omega
          rw [hB6 h5] at HCT
          go_wp2_with fail
          refine (HCT.out _).mono ?_
          rintro e w22 ⟨rfl, hb⟩
          have HB22 : Hid (Below w.heap.size w w22) := HB21.out.trans (hb.mono HB21.out.size)
          replace Ha := Lib.hid (Ha.out.below hb)
          replace Hb := Lib.hid (Hb.out.below hb)
          replace Hc := Lib.hid (Hc.out.below hb)
          clear hb HB21
          go_wp2
          go_ret
          exact ⟨rfl, HB22.out⟩
        have hn5 : (n : Int) ≤ 5 := by omega
        have F5 := Lib.hid (F4.out h5)
        go_wp2_with fail
        refine (implMiddle_std _ a _ b _ c _ Ha.out La.out.sm Hb.out Lb.out.sm Hc.out Lc.out.sm).mono ?_
        rintro e w22 ⟨vh, rfl, hf, hb⟩
        have HB22 : Hid (Below w.heap.size w w22) := HB21.out.trans (hb.mono HB21.out.size)
        replace Ha := Lib.hid (Ha.out.below hb)
        replace Hb := Lib.hid (Hb.out.below hb)
        replace Hc := Lib.hid (Hc.out.below hb)
        have Hh := Lib.hid hf.in_
        clear hf
        clear hb HB21
        have HHa := Lib.hid (implLadderDistance_std _ _ _ _ _ Hh.out Ha.out (F5.out.ok.two La.out))
        have HHb := Lib.hid (implLadderDistance_std _ _ _ _ _ Hh.out Hb.out (F5.out.ok.two Lb.out))
        have HHc := Lib.hid (implLadderDistance_std _ _ _ _ _ Hh.out Hc.out (F5.out.ok.two Lc.out))
        have HBc := Lib.hid (implLadderDistance_std _ _ _ _ _ Hb.out Hc.out (Lb.out.two Lc.out))
        have s1 := F5.out.s1
        have s2 := F5.out.s2
        rw [HDEG.out.1, HDEG.out.2.1] at s1 s2
        have s3 : sum3 a b c (midF a b c) = ((dist (midF a b c) a : Nat) : Int) + ((dist (midF a b c) b : Nat) : Int) + ((dist (midF a b c) c : Nat) : Int) := rfl
        rw [s3] at s1 s2
        have HL8 : Hid ((midF a b c).length ≤ 8 ∧ b.length ≤ 8) := ⟨(ladB_t F5.out.ok.lad).1.2, (ladB_t Lb.out.lad).1.2⟩
        have c1 := dist_cap (a := midF a b c) (b := a) HL8.out.1
        have c2 := dist_cap (a := midF a b c) (b := b) HL8.out.1
        have c3 := dist_cap (a := midF a b c) (b := c) HL8.out.1
        have c4 := dist_cap (a := b) (b := c) HL8.out.2
        have HLh := Lib.hid (HLN.out _ _ _ Hh.out F5.out.ok.lad)
        clear s3 HL8 Hh
        generalize dist (midF a b c) a = X at *
        generalize dist (midF a b c) b = Y at *
        generalize dist (midF a b c) c = Z at *
        generalize dist b c = U at *
        have t1 : IntKind.i64.wrap ((X : Int) + (Y : Int)) = (X : Int) + (Y : Int) := by rw [IntKind.wrap_i64]; omega
        have t2 : IntKind.i64.wrap ((X : Int) + (Y : Int) + (Z : Int)) = (X : Int) + (Y : Int) + (Z : Int) := by rw [IntKind.wrap_i64]; omega
        have t3 : IntKind.i64.wrap ((D : Int) + (E : Int)) = (D : Int) + (E : Int) := by rw [IntKind.wrap_i64]; omega
        have t4 : IntKind.i64.wrap (2 * ((X : Int) + (Y : Int) + (Z : Int))) = 2 * ((X : Int) + (Y : Int) + (Z : Int)) := by rw [IntKind.wrap_i64]; omega
        have t5 : IntKind.i64.wrap ((D : Int) + (E : Int) + (U : Int)) = (D : Int) + (E : Int) + (U : Int) := by rw [IntKind.wrap_i64]; omega
        have t6 : (X : Int) + (Y : Int) + (Z : Int) ≤ (D : Int) + (E : Int) := s1
        have t7 : (D : Int) + (E : Int) + (U : Int) ≤ 2 * ((X : Int) + (Y : Int) + (Z : Int)) := s2
        clear s1 s2
        go_wp2_with fail
        refine (HHa.out).mono ?_
        rintro e w_ ⟨rfl, rfl⟩
        go_wp2_with fail
        refine (HHb.out).mono ?_
        rintro e w_ ⟨rfl, rfl⟩
        go_wp2_with fail
        refine (HHc.out).mono ?_
        rintro e w_ ⟨rfl, rfl⟩
        go_wp2_with fail
        refine (HDc.out _ Ha.out Hc.out).mono ?_
        rintro e w_ ⟨rfl, rfl⟩
        go_wp2_with fail
        refine (HLh.out).mono ?_
        rintro e w_ ⟨rfl, rfl⟩
        go_wp2_with fail
        refine (HDc.out _ Ha.out Hc.out).mono ?_
        rintro e w_ ⟨rfl, rfl⟩
        go_wp2_with fail
        refine (HBc.out).mono ?_
        rintro e w_ ⟨rfl, rfl⟩
        clear HHa HHb HHc HLh HBc
        go_wp2_with fail
        refine (implMiddle_std _ a _ a _ b _ Ha.out La.out.sm Ha.out La.out.sm Hb.out Lb.out.sm).mono ?_
        rintro e w23 ⟨vg, rfl, hf, hb⟩
        have HB23 : Hid (Below w.heap.size w w23) := HB22.out.trans (hb.mono HB22.out.size)
        replace Ha := Lib.hid (Ha.out.below hb)
        replace Hb := Lib.hid (Hb.out.below hb)
        replace Hc := Lib.hid (Hc.out.below hb)
        have Hg := Lib.hid hf.in_
        clear hf
        clear hb HB22
        rw [F5.out.aab] at Hg
        have HSm := Lib.hid (lawsSameB_any _ _ _ _ _ Hg.out Ha.out La.out.sm La.out.sm)
        rw [show (a == a) = true from by simp] at HSm
        go_wp2_with fail
        refine (HSm.out).mono ?_
        rintro e w_ ⟨rfl, rfl⟩
        go_wp2
        go_ret
        exact ⟨rfl, HB23.out⟩
      case false =>
        rw [hk] at HNx
        have z2 := F3.out.n2 hk
        have y5 := dist_cap (a := a) (b := upto n) (by have := La.out.bd; have := La.out.len; omega)
        generalize dist a (upto n) = Q at *
        have y6 : (n : Int) * ((n : Int) - 1) = (n : Int) * (n : Int) - (n : Int) := by rw [Int.mul_sub, Int.mul_one]
        have y7 : 0 ≤ (n : Int) * ((n : Int) - 1) ∧ (n : Int) * ((n : Int) - 1) ≤ 1000 := by rcases (show n = 1 ∨ n = 2 ∨ n = 3 ∨ n = 4 ∨ n = 5 ∨ n = 6 by omega) with rfl | rfl | rfl | rfl | rfl | rfl <;> decide
        have y2 : IntKind.i64.wrap ((n : Int) * ((n : Int) - 1)) = (n : Int) * ((n : Int) - 1) := by rw [IntKind.wrap_i64]; omega
        have y3 : Int.tdiv ((n : Int) * ((n : Int) - 1)) 2 = (Q : Int) := by rw [Int.tdiv_eq_ediv_of_nonneg y7.1]; exact z2.symm
        have y4 : ((Q : Int) != (Q : Int)) = false := by simp
        have y9 : wrap64 (Q : Int) = (Q : Int) := by unfold wrap64; omega
        clear z2 hk F3 y6 y7
        go_wp2_with fail
        refine (HNx.out _ Ha.out).mono ?_
        rintro e w21 ⟨vn, rfl, hf, hb⟩
        have HB21 : Hid (Below w.heap.size w w21) := HB20.out.trans (hb.mono HB20.out.size)
        replace Ha := Lib.hid (Ha.out.below hb)
        replace Hb := Lib.hid (Hb.out.below hb)
        replace Hc := Lib.hid (Hc.out.below hb)
        have Hn := Lib.hid hf.in_
        clear hf
        clear hb HB20
        clear Hn
        go_wp2_with fail
        refine (lawsStairs_any n _ (by omega)).mono ?_
        rintro e w22 ⟨vs3, rfl, hf, hb⟩
        have HB22 : Hid (Below w.heap.size w w22) := HB21.out.trans (hb.mono HB21.out.size)
        replace Ha := Lib.hid (Ha.out.below hb)
        replace Hb := Lib.hid (Hb.out.below hb)
        replace Hc := Lib.hid (Hc.out.below hb)
        have Hs := Lib.hid hf.in_
        clear hf
        clear hb HB21
        go_wp2_with fail
        refine (HDs.out _ _ Hs.out Ha.out).mono ?_
        rintro e w_ ⟨rfl, rfl⟩
        clear Hs y5
        by_cases h5 : n ≤ 5
        case neg =>
          have hn5 : ¬ ((n : Int) ≤ 5) := by omega
          rw [hB6 h5] at HCT
          go_wp2_with fail
          refine (HCT.out _).mono ?_
          rintro e w23 ⟨rfl, hb⟩
          have HB23 : Hid (Below w.heap.size w w23) := HB22.out.trans (hb.mono HB22.out.size)
          replace Ha := Lib.hid (Ha.out.below hb)
          replace Hb := Lib.hid (Hb.out.below hb)
          replace Hc := Lib.hid (Hc.out.below hb)
          clear hb HB22
          go_wp2
          go_ret
          exact ⟨rfl, HB23.out⟩
        have hn5 : (n : Int) ≤ 5 := by omega
        have F5 := Lib.hid (F4.out h5)
        go_wp2_with fail
        refine (implMiddle_std _ a _ b _ c _ Ha.out La.out.sm Hb.out Lb.out.sm Hc.out Lc.out.sm).mono ?_
        rintro e w23 ⟨vh, rfl, hf, hb⟩
        have HB23 : Hid (Below w.heap.size w w23) := HB22.out.trans (hb.mono HB22.out.size)
        replace Ha := Lib.hid (Ha.out.below hb)
        replace Hb := Lib.hid (Hb.out.below hb)
        replace Hc := Lib.hid (Hc.out.below hb)
        have Hh := Lib.hid hf.in_
        clear hf
        clear hb HB22
        have HHa := Lib.hid (implLadderDistance_std _ _ _ _ _ Hh.out Ha.out (F5.out.ok.two La.out))
        have HHb := Lib.hid (implLadderDistance_std _ _ _ _ _ Hh.out Hb.out (F5.out.ok.two Lb.out))
        have HHc := Lib.hid (implLadderDistance_std _ _ _ _ _ Hh.out Hc.out (F5.out.ok.two Lc.out))
        have HBc := Lib.hid (implLadderDistance_std _ _ _ _ _ Hb.out Hc.out (Lb.out.two Lc.out))
        have s1 := F5.out.s1
        have s2 := F5.out.s2
        rw [HDEG.out.1, HDEG.out.2.1] at s1 s2
        have s3 : sum3 a b c (midF a b c) = ((dist (midF a b c) a : Nat) : Int) + ((dist (midF a b c) b : Nat) : Int) + ((dist (midF a b c) c : Nat) : Int) := rfl
        rw [s3] at s1 s2
        have HL8 : Hid ((midF a b c).length ≤ 8 ∧ b.length ≤ 8) := ⟨(ladB_t F5.out.ok.lad).1.2, (ladB_t Lb.out.lad).1.2⟩
        have c1 := dist_cap (a := midF a b c) (b := a) HL8.out.1
        have c2 := dist_cap (a := midF a b c) (b := b) HL8.out.1
        have c3 := dist_cap (a := midF a b c) (b := c) HL8.out.1
        have c4 := dist_cap (a := b) (b := c) HL8.out.2
        have HLh := Lib.hid (HLN.out _ _ _ Hh.out F5.out.ok.lad)
        clear s3 HL8 Hh
        generalize dist (midF a b c) a = X at *
        generalize dist (midF a b c) b = Y at *
        generalize dist (midF a b c) c = Z at *
        generalize dist b c = U at *
        have t1 : IntKind.i64.wrap ((X : Int) + (Y : Int)) = (X : Int) + (Y : Int) := by rw [IntKind.wrap_i64]; omega
        have t2 : IntKind.i64.wrap ((X : Int) + (Y : Int) + (Z : Int)) = (X : Int) + (Y : Int) + (Z : Int) := by rw [IntKind.wrap_i64]; omega
        have t3 : IntKind.i64.wrap ((D : Int) + (E : Int)) = (D : Int) + (E : Int) := by rw [IntKind.wrap_i64]; omega
        have t4 : IntKind.i64.wrap (2 * ((X : Int) + (Y : Int) + (Z : Int))) = 2 * ((X : Int) + (Y : Int) + (Z : Int)) := by rw [IntKind.wrap_i64]; omega
        have t5 : IntKind.i64.wrap ((D : Int) + (E : Int) + (U : Int)) = (D : Int) + (E : Int) + (U : Int) := by rw [IntKind.wrap_i64]; omega
        have t6 : (X : Int) + (Y : Int) + (Z : Int) ≤ (D : Int) + (E : Int) := s1
        have t7 : (D : Int) + (E : Int) + (U : Int) ≤ 2 * ((X : Int) + (Y : Int) + (Z : Int)) := s2
        clear s1 s2
        go_wp2_with fail
        refine (HHa.out).mono ?_
        rintro e w_ ⟨rfl, rfl⟩
        go_wp2_with fail
        refine (HHb.out).mono ?_
        rintro e w_ ⟨rfl, rfl⟩
        go_wp2_with fail
        refine (HHc.out).mono ?_
        rintro e w_ ⟨rfl, rfl⟩
        go_wp2_with fail
        refine (HDc.out _ Ha.out Hc.out).mono ?_
        rintro e w_ ⟨rfl, rfl⟩
        go_wp2_with fail
        refine (HLh.out).mono ?_
        rintro e w_ ⟨rfl, rfl⟩
        go_wp2_with fail
        refine (HDc.out _ Ha.out Hc.out).mono ?_
        rintro e w_ ⟨rfl, rfl⟩
        go_wp2_with fail
        refine (HBc.out).mono ?_
        rintro e w_ ⟨rfl, rfl⟩
        clear HHa HHb HHc HLh HBc
        go_wp2_with fail
        refine (implMiddle_std _ a _ a _ b _ Ha.out La.out.sm Ha.out La.out.sm Hb.out Lb.out.sm).mono ?_
        rintro e w24 ⟨vg, rfl, hf, hb⟩
        have HB24 : Hid (Below w.heap.size w w24) := HB23.out.trans (hb.mono HB23.out.size)
        replace Ha := Lib.hid (Ha.out.below hb)
        replace Hb := Lib.hid (Hb.out.below hb)
        replace Hc := Lib.hid (Hc.out.below hb)
        have Hg := Lib.hid hf.in_
        clear hf
        clear hb HB23
        rw [F5.out.aab] at Hg
        have HSm := Lib.hid (lawsSameB_any _ _ _ _ _ Hg.out Ha.out La.out.sm La.out.sm)
        rw [show (a == a) = true from by simp] at HSm
        go_wp2_with fail
        refine (HSm.out).mono ?_
        rintro e w_ ⟨rfl, rfl⟩
        go_wp2
        go_ret
        exact ⟨rfl, HB24.out⟩
end Go.Proofs.Ytnjomfmmnkjhfaa
