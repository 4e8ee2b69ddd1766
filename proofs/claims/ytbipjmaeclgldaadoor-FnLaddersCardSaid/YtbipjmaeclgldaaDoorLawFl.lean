/- The law FnLadders: the walk. -/
import Derived.Test.YtbipjmaeclgldaaDoorMaz
import Derived.Test.YtbipjmaeclgldaaDoorFlm
import Derived.Test.YtbipjmaeclgldaaDoorMbp
import Derived.Test.YtbipjmaeclgldaaDoorFwj
import Derived.Test.YtbipjmaeclgldaaDoorClimb
import Derived.Test.YtbipjmaeclgldaaDoorSx
namespace Go.Proofs.YtbipjmaeclgldaaDoor
open Go.ChangeShapes Go.WideShapes Go.ChangeAt Go.RowKit

theorem ldNumZ (v : Value) (n : Nat) (M : Int) (w : World) (hv : InB w v n) (hn : n ≤ 1048576) (h0 : 0 ≤ M) (h1 : M ≤ 1048576) :
    Calls Tryd.prog 9 #[v, .int .i64 M] w fun e w' => ∃ q : Nat, q ≤ 65535 ∧ e = .returned (.int .i64 (q : Int)) ∧ Below w.heap.size w w' := by
  obtain ⟨m, rfl⟩ := Int.eq_ofNat_of_zero_le h0
  exact makeNum_any v n m w hv hn (by omega)
theorem ldOrderZ (v : Value) (n : Nat) (M : Int) (N : Nat) (w : World) (hv : InB w v n) (hn : n ≤ 1048576) (h0 : 0 ≤ M) (hm : M ≤ 1048576) (h1 : 1 ≤ N) (h8 : N ≤ 8) :
    Calls Tryd.prog 10 #[v, .int .i64 M, .int .i64 (N : Int)] w fun e w' => ∃ (A : Option Addr) (c : Nat) (R : List Int), e = .returned (.slice A N c) ∧ N ≤ c ∧ LadN N R ∧ InI w' (.slice A N c) R ∧ Below w.heap.size w w' := by
  obtain ⟨m, rfl⟩ := Int.eq_ofNat_of_zero_le h0
  refine (makeOrder_any v n m N w hv hn (by omega) h1 h8).mono ?_
  rintro e w' ⟨v', R, rfl, hl, hi, hb⟩
  have hi0 := hi
  obtain ⟨A, c, rfl, hc, _, _⟩ := hi
  rw [hl.len] at hi0 hc ⊢
  exact ⟨A, c, R, rfl, hc, hl, hi0, hb⟩
/-- The facts on the two ladders that the law asks first. -/
structure LdOne (n : Nat) (a b : List Int) (D G : Nat) : Prop where
  d1 : dist a b = D
  d2 : dist b a = D
  f1 : fewF a b 1 = (D : Int)
  f4 : fewF a b 4 = (G : Int)
  g1 : G ≤ D
  g2 : ((G : Int) == 0) = (a == b)
  g3 : D / 4 ≤ G
  cap : D ≤ 64
theorem ldOne_of {n : Nat} {a b : List Int} (ha : LadN n a) (hb : LadN n b) (h5 : n ≤ 5) : ∃ D G, LdOne n a b D G := by
  obtain ⟨h1, G, h2, h3, h4, h6⟩ := fewF_law ha hb h5
  refine ⟨dist a b, G, rfl, dist_symm hb.nd ha.nd (hb.perm2 ha), h1, h2, h3, ?_, h6, dist_cap (by rw [ha.len]; omega)⟩
  by_cases h : a = b
  · rw [h4.2 h, h]; simp
  · rw [beq_eq_false_iff_ne.2 h, beq_eq_false_iff_ne]
    intro e
    exact h (h4.1 (by omega))
set_option maxHeartbeats 8000000 in
set_option maxRecDepth 100000 in
theorem lawFnLadders (v : Value) (m : Nat) (w : World) (hv : InB w v m) (htab : tabP w) :
    Calls Tryd.prog 4 #[v] w fun e w' => e = .returned (.bool true) ∧ Below w.heap.size w w' := by
  have HV := Lib.hid hv
  have HTB := Lib.hid htab
  clear htab
  obtain ⟨A0, c0, rfl, hc, hm, -⟩ := hv
  unfold maxLen at hm
  by_cases hn : m ≤ 1048576
  case neg =>
    go_enter Tryd.func4, Tryd.ntmps4
    go_wp2
    go_ret
    exact ⟨rfl, Below.refl _ _⟩
  go_enter Tryd.func4, Tryd.ntmps4
  go_wp2_with fail
  refine (ldNumZ _ m _ _ HV.out hn (by decide) (by decide)).mono ?_
  rintro e w0 ⟨q, hq, rfl, hb⟩
  have HB0 : Hid (Below w.heap.size w w0) := hb
  clear hb
  obtain ⟨r, hr, hr6⟩ : ∃ r : Nat, Int.tmod (q : Int) 5 = (r : Int) ∧ r < 5 := ⟨q % 5, by rw [Int.tmod_eq_emod_of_nonneg (by omega)]; omega, by omega⟩
  obtain ⟨n, hnr⟩ : ∃ n : Nat, n = r + 1 := ⟨_, rfl⟩
  have h1 : 1 ≤ n := by omega
  have h5 : n ≤ 5 := by omega
  have hnw : IntKind.i64.wrap (1 + (r : Int)) = (n : Int) := by rw [IntKind.wrap_i64]; omega
  clear hq hr6 hnr
  go_wp2_with fail
  refine (ldOrderZ _ m _ n _ (HV.out.below HB0.out) hn (by decide) (by decide) h1 (by omega)).mono ?_
  rintro e w1 ⟨Aa, ca, a, rfl, hca, hl, hi, hb⟩
  clear hr hnw
  have HB1 : Hid (Below w.heap.size w w1) := HB0.out.trans (hb.mono HB0.out.size)
  have La := Lib.hid hl
  have Ha := Lib.hid hi
  clear hl hi hb HB0
  go_wp2_with fail
  refine (ldOrderZ _ m _ n _ (HV.out.below HB1.out) hn (by decide) (by decide) h1 (by omega)).mono ?_
  rintro e w2 ⟨Ab, cb, b, rfl, hcb, hl, hi, hb⟩
  have HB2 : Hid (Below w.heap.size w w2) := HB1.out.trans (hb.mono HB1.out.size)
  replace Ha := Lib.hid (Ha.out.below hb)
  have Lb := Lib.hid hl
  have Hb := Lib.hid hi
  clear hl hi hb HB1
  obtain ⟨D, G, hone⟩ := ldOne_of La.out Lb.out h5
  have H1 := Lib.hid hone
  clear hone
  have HDa : Hid (∀ W, Below w2.heap.size w2 W → Calls Tryd.prog 11 #[.slice Aa n ca, .slice Ab n cb] W fun e w' => e = .returned (.int .i64 (D : Int)) ∧ W = w') := fun W hW => by
    have h := implLadderDistance_std _ a _ b W (Ha.out.below hW) (Hb.out.below hW) (La.out.two Lb.out)
    rwa [H1.out.d1] at h
  have HDb : Hid (∀ W, Below w2.heap.size w2 W → Calls Tryd.prog 11 #[.slice Ab n cb, .slice Aa n ca] W fun e w' => e = .returned (.int .i64 (D : Int)) ∧ W = w') := fun W hW => by
    have h := implLadderDistance_std _ b _ a W (Hb.out.below hW) (Ha.out.below hW) (Lb.out.two La.out)
    rwa [H1.out.d2] at h
  have sa : a.length ≤ 1048576 := by rw [La.out.len]; omega
  have sb : b.length ≤ 1048576 := by rw [Lb.out.len]; omega
  have HF1 : Hid (∀ W, Below w2.heap.size w2 W → Calls Tryd.prog 7 #[.slice Aa n ca, .slice Ab n cb, .int .i64 1] W fun e w' => e = .returned (.int .i64 (D : Int)) ∧ Below W.heap.size W w') := fun W hW => by
    have h := implFewCh_std _ a _ b 1 W (Ha.out.below hW) sa (Hb.out.below hW) sb (by decide) (HTB.out.below (HB2.out.trans (hW.mono HB2.out.size)) (Nat.le_refl _))
    rwa [H1.out.f1] at h
  have HF4 : Hid (∀ W, Below w2.heap.size w2 W → Calls Tryd.prog 7 #[.slice Aa n ca, .slice Ab n cb, .int .i64 4] W fun e w' => e = .returned (.int .i64 (G : Int)) ∧ Below W.heap.size W w') := fun W hW => by
    have h := implFewCh_std _ a _ b 4 W (Ha.out.below hW) sa (Hb.out.below hW) sb (by decide) (HTB.out.below (HB2.out.trans (hW.mono HB2.out.size)) (Nat.le_refl _))
    rwa [H1.out.f4] at h
  have HSm : Hid (∀ W, Below w2.heap.size w2 W → Calls Tryd.prog 12 #[.slice Aa n ca, .slice Ab n cb] W fun e w' => e = .returned (.bool (a == b)) ∧ W = w') := fun W hW => lawsSameB_any _ _ a b W (Ha.out.below hW) (Hb.out.below hW) sa sb
  have HLO : Hid (∀ W, Below w2.heap.size w2 W → Calls Tryd.prog 13 #[.slice Aa n ca] W fun e w' => e = .returned (.bool true) ∧ W = w') := fun W hW => by
    have h := implLadderOk_any Aa ca a W (inI_sl (Ha.out.below hW)) sa (by rw [La.out.len]; exact hca)
    rwa [La.out.len, La.out.lad] at h
  clear sa sb
  go_wp2_with fail
  refine (HDa.out _ (Below.refl _ _)).mono ?_
  rintro e w_ ⟨rfl, rfl⟩
  go_wp2_with fail
  refine (HF1.out _ (Below.refl _ _)).mono ?_
  rintro e w3 ⟨rfl, hb⟩
  have B3 : Hid (Below w2.heap.size w2 w3) := hb
  clear hb
  go_wp2_with fail
  refine (HF4.out _ B3.out).mono ?_
  rintro e w4 ⟨rfl, hb⟩
  have B4 : Hid (Below w2.heap.size w2 w4) := B3.out.trans (hb.mono B3.out.size)
  clear hb B3
  have hS := H1.out.g2
  have g1 := H1.out.g1
  have g3 := H1.out.g3
  have g9 := H1.out.cap
  generalize (a == b) = S at *
  have c1 : ¬ ((D : Int) < 0) := by omega
  have c2 : ((D : Int) != (D : Int)) = false := by simp
  have c3 : ¬ ((D : Int) < (G : Int)) := by omega
  have c4 : ¬ ((G : Int) < 0) := by omega
  have c5 : (S != S) = false := by simp
  have c6 : ¬ ((G : Int) < (D : Int) / 4) := by omega
  have c7 : Int.tdiv (D : Int) 4 = (D : Int) / 4 := Int.tdiv_eq_ediv_of_nonneg (by omega)
  clear g1 g3
  go_wp2_with fail
  refine (HDb.out _ B4.out).mono ?_
  rintro e w_ ⟨rfl, rfl⟩
  go_wp2_with fail
  refine (HSm.out _ B4.out).mono ?_
  rintro e w_ ⟨rfl, rfl⟩
  go_wp2_with fail
  refine (HLO.out _ B4.out).mono ?_
  rintro e w_ ⟨rfl, rfl⟩
  go_wp2_with fail
  refine (makeOf_any _ m 22 n _ (HV.out.below (HB2.out.trans (B4.out.mono HB2.out.size))) hn (by decide) (by decide) h1 (by omega)).mono ?_
  rintro e w5 ⟨At, ct, ts, rfl, htl, htt, hti, hb⟩
  clear c1 c2 c3 c4 c5 c6 c7 hS g9 HDb HSm HLO HF1 HF4
  have B5 : Hid (Below w2.heap.size w2 w5) := B4.out.trans (hb.mono B4.out.size)
  clear hb B4
  obtain ⟨M, hset⟩ := settle_law (x := ⟨(n : Int), ts⟩) htt La.out.lad (by show (a.length : Int) = n; rw [La.out.len]) (by rw [La.out.len]; exact h5)
  have HS := Lib.hid hset
  have HTT : Hid (tourB ⟨(n : Int), ts⟩ = true ∧ ts.length = n) := ⟨htt, htl⟩
  have hti2 : InT w5 (.agg #[.int .i64 (n : Int), .slice At n ct]) ⟨(n : Int), ts⟩ := ⟨_, rfl, hti⟩
  have HTI := Lib.hid hti2
  clear hset htt htl hti hti2
  obtain ⟨K, hK⟩ : ∃ K, (settleF ⟨(n : Int), ts⟩ a).length = K := ⟨_, rfl⟩
  have HML : Hid (LadN n M) := ⟨HS.out.lad, by rw [HS.out.len, La.out.len]⟩
  have HK := Lib.hid hK
  have HSE : Hid (∀ W, Below w5.heap.size w5 W → Calls Tryd.prog 15 #[.agg #[.int .i64 (n : Int), .slice At n ct], .slice Aa n ca] W fun e w' => ∃ As cs, e = .returned (.slice As K cs) ∧ InS w' (.slice As K cs) (settleF ⟨(n : Int), ts⟩ a) ∧ Below W.heap.size W w') := fun W hW => by
    refine (implSettle_std _ ⟨(n : Int), ts⟩ _ a W (HTI.out.below hW) (by show ts.length ≤ _; rw [HTT.out.2]; omega) (Ha.out.below (B5.out.trans (hW.mono B5.out.size))) (by rw [La.out.len]; omega)).mono ?_
    rintro e w' ⟨v', rfl, ho, hb⟩
    have hin := ho.in_
    obtain ⟨As, cs, rfl, _⟩ := ho.form
    rw [HK.out] at hin ⊢
    exact ⟨As, cs, rfl, hin, hb⟩
  have HCL : Hid (∀ W As cs, Below w5.heap.size w5 W → InS W (.slice As K cs) (settleF ⟨(n : Int), ts⟩ a) → Calls Tryd.prog 16 #[.slice Aa n ca, .int .i64 1, .slice As K cs] W fun e w' => ∃ Am cm, e = .returned (.tuple #[.slice Am n cm, .int .i64 (K : Int)]) ∧ InI w' (.slice Am n cm) M ∧ Below W.heap.size W w') := fun W As cs hW hs => by
    refine (implClimbLadder_std _ a 1 _ _ W (Ha.out.below (B5.out.trans (hW.mono B5.out.size))) (by rw [La.out.len]; omega) (by decide) hs (by have := settleF_len ⟨(n : Int), ts⟩ a; omega)).mono ?_
    rintro e w' ⟨v', rfl, hf, hb⟩
    rw [HS.out.climb] at hf
    have hin := hf.in_
    obtain ⟨Am, cm, rfl, _⟩ := hf.form
    rw [HML.out.len] at hin ⊢
    exact ⟨Am, cm, by rw [HS.out.many, HK.out], hin, hb⟩
  have x6 : Bx (w5.alloc (.cells #[.int .i64 (n : Int), .slice At n ct] 33)) w5.heap.size (.int .i64 (n : Int)) (.slice At n ct) := ⟨by simp, by simp, by simp⟩
  have HX6 : Hid (Bx (w5.alloc (.cells #[.int .i64 (n : Int), .slice At n ct] 33)) w5.heap.size (.int .i64 (n : Int)) (.slice At n ct) ∧ Below w5.heap.size w5 (w5.alloc (.cells #[.int .i64 (n : Int), .slice At n ct] 33))) := ⟨x6, (Below.refl _ w5).alloc (Nat.le_refl _) _⟩
  clear hK
  obtain ⟨q0, q1, q2⟩ := x6
  go_wp2_with fail
  refine (HSE.out _ HX6.out.2).mono ?_
  rintro e w7 ⟨As, cs, rfl, his, hb⟩
  have HX7 : Hid (Bx w7 w5.heap.size (.int .i64 (n : Int)) (.slice At n ct) ∧ Below w5.heap.size w5 w7) := ⟨HX6.out.1.below hb, HX6.out.2.trans (hb.mono HX6.out.2.size)⟩
  have HIS := Lib.hid his
  clear hb his HX6 q0 q1 q2
  obtain ⟨q0, q1, q2⟩ := id HX7.out.1
  go_wp2_with fail
  refine (HCL.out _ _ _ HX7.out.2 HIS.out).mono ?_
  rintro e w8 ⟨Am, cm, rfl, him, hb⟩
  have HX8 : Hid (Bx w8 w5.heap.size (.int .i64 (n : Int)) (.slice At n ct) ∧ Below w5.heap.size w5 w8) := ⟨HX7.out.1.below hb, HX7.out.2.trans (hb.mono HX7.out.2.size)⟩
  have HM := Lib.hid him
  clear hb him HX7 q0 q1 q2 HCL HSE HIS
  obtain ⟨q0, q1, q2⟩ := id HX8.out.1
  obtain ⟨R0, hR0⟩ : ∃ R, rev ts a = R := ⟨_, rfl⟩
  obtain ⟨R1, hR1⟩ : ∃ R, rev ts M = R := ⟨_, rfl⟩
  have hcnt : R0 = R1 + K := by
    have h := HS.out.cnt
    rw [HK.out] at h
    have h2 : rev ts a = rev ts M + K := h
    omega
  have hcap : R0 ≤ 64 := by
    have h := rev_le ts a
    have h2 : a.length * a.length ≤ 8 * 8 := Nat.mul_le_mul (by rw [La.out.len]; omega) (by rw [La.out.len]; omega)
    omega
  have HTW : Hid (∀ W, Below w8.heap.size w8 W → InT W (.agg #[.int .i64 (n : Int), .slice At n ct]) ⟨(n : Int), ts⟩) := fun W hW => HTI.out.below (HX8.out.2.trans (hW.mono HX8.out.2.size))
  have HAW : Hid (∀ W, Below w8.heap.size w8 W → InI W (.slice Aa n ca) a) := fun W hW => Ha.out.below (B5.out.trans ((HX8.out.2.trans (hW.mono HX8.out.2.size)).mono B5.out.size))
  have HWY : Hid (∀ W, Below w8.heap.size w8 W → Calls Tryd.prog 17 #[.agg #[.int .i64 (n : Int), .slice At n ct], .slice Am n cm] W fun e w' => e = .returned (.bool true) ∧ Below W.heap.size W w') := fun W hW => by
    have h := implIsWay_any _ ⟨(n : Int), ts⟩ Am cm M W (HTW.out W hW) HTT.out.1 (by rw [HML.out.len]; exact HM.out.below hW) HML.out.lad (by show M.length = ts.length; rw [HML.out.len, HTT.out.2]) (way_of HTT.out.1 HML.out.lad (by show M.length = ts.length; rw [HML.out.len, HTT.out.2]) HS.out.way)
    rwa [HML.out.len] at h
  have HC1 : Hid (∀ W, Below w8.heap.size w8 W → Calls Tryd.prog 18 #[.agg #[.int .i64 (n : Int), .slice At n ct], .slice Am n cm] W fun e w' => e = .returned (.int .i64 (R1 : Int)) ∧ Below W.heap.size W w') := fun W hW => by
    have h := implCountRev_any _ ⟨(n : Int), ts⟩ Am cm M W (HTW.out W hW) HTT.out.1 (by rw [HML.out.len]; exact HM.out.below hW) HML.out.lad (by show M.length = ts.length; rw [HML.out.len, HTT.out.2])
    rw [HML.out.len, show rev (TourV.wins ⟨(n : Int), ts⟩) M = R1 from hR1] at h
    exact h
  have HC0 : Hid (∀ W, Below w8.heap.size w8 W → Calls Tryd.prog 18 #[.agg #[.int .i64 (n : Int), .slice At n ct], .slice Aa n ca] W fun e w' => e = .returned (.int .i64 (R0 : Int)) ∧ Below W.heap.size W w') := fun W hW => by
    have h := implCountRev_any _ ⟨(n : Int), ts⟩ Aa ca a W (HTW.out W hW) HTT.out.1 (by rw [La.out.len]; exact HAW.out W hW) La.out.lad (by show a.length = ts.length; rw [La.out.len, HTT.out.2])
    rw [La.out.len, show rev (TourV.wins ⟨(n : Int), ts⟩) a = R0 from hR0] at h
    exact h
  have n1 : ((K : Int) != (K : Int)) = false := by simp
  have n2 : ((n : Int) != (n : Int)) = false := by simp
  have n3 : K ≤ R0 := by omega
  have n4 : IntKind.i64.wrap ((R0 : Int) - (K : Int)) = (R1 : Int) := by rw [IntKind.wrap_i64]; omega
  have n5 : ((R1 : Int) != (R1 : Int)) = false := by simp
  have HX9 : Hid (∀ W, Below w8.heap.size w8 W → W.cell? ⟨w5.heap.size, 0, none⟩ = some (.int .i64 (n : Int)) ∧ W.cell? ⟨w5.heap.size, 1, none⟩ = some (.slice At n ct)) := fun W hW => ⟨(HX8.out.1.below hW).1, (HX8.out.1.below hW).2.1⟩
  have HD8 : Hid (Below w8.heap.size w8 w8.drew) := below_of_drewN _ w8 1
  clear hR0 hR1 hcnt hcap HTI HK HS HDa
  go_upto_region 14 with (fail)
  refine wp_region_noPanic ?_
  refine wp_region_held_drew (S := fun W => W.cell? ⟨w5.heap.size, 0, none⟩ = some (.int .i64 (n : Int)) ∧ W.cell? ⟨w5.heap.size, 1, none⟩ = some (.slice At n ct)) (by kernel_rfl) ⟨q0, q1⟩ (fun hHeld => ?_)
  refine wpAnyH_take (i := 0) (v := ?v0) (by simp only [List.getElem?_toArray, List.getElem?_cons_succ, List.getElem?_cons_zero]; exact rfl) (by kernel_rfl) (by kernel_rfl) (by kernel_rfl) (fun _ _ _ h => h) (Or.inl ⟨by kernel_rfl, ?hy0⟩) (by assumption) ?_
  case hy0 => (intro w hSw; (try dsimp only at hSw); go_simp <;> (try with_reducible rfl))
  try simp only [Act.put, List.setIfInBounds_toArray, List.set_cons_zero, List.set_cons_succ]
  refine wpAnyH_take (i := 1) (v := ?v1) (by simp only [List.getElem?_toArray, List.getElem?_cons_succ, List.getElem?_cons_zero]; exact rfl) (by kernel_rfl) (by kernel_rfl) (by kernel_rfl) (fun _ _ _ h => h) (Or.inl ⟨by kernel_rfl, ?hy1⟩) (by assumption) ?_
  case hy1 => (intro w hSw; (try dsimp only at hSw); go_simp <;> (try with_reducible rfl))
  try simp only [Act.put, List.setIfInBounds_toArray, List.set_cons_zero, List.set_cons_succ]
  refine wpAnyH_take (i := 2) (v := ?v2) (by simp only [List.getElem?_toArray, List.getElem?_cons_succ, List.getElem?_cons_zero]; exact rfl) (by kernel_rfl) (by kernel_rfl) (by kernel_rfl) (fun _ _ _ h => h) (Or.inl ⟨by kernel_rfl, ?hy2⟩) (by assumption) ?_
  case hy2 => (intro w hSw; (try dsimp only at hSw); go_simp <;> (try with_reducible rfl))
  try simp only [Act.put, List.setIfInBounds_toArray, List.set_cons_zero, List.set_cons_succ]
  refine wpAnyH_take (i := 3) (v := ?v3) (by simp only [List.getElem?_toArray, List.getElem?_cons_succ, List.getElem?_cons_zero]; exact rfl) (by kernel_rfl) (by kernel_rfl) (by kernel_rfl) (fun _ _ _ h => h) (Or.inl ⟨by kernel_rfl, ?hy3⟩) (by assumption) ?_
  case hy3 => (intro w hSw; (try dsimp only at hSw); go_simp <;> (try with_reducible rfl))
  try simp only [Act.put, List.setIfInBounds_toArray, List.set_cons_zero, List.set_cons_succ]
  refine wpAnyH_take (i := 4) (v := ?v4) (by simp only [List.getElem?_toArray, List.getElem?_cons_succ, List.getElem?_cons_zero]; exact rfl) (by kernel_rfl) (by kernel_rfl) (by kernel_rfl) (fun _ _ _ h => h) (Or.inl ⟨by kernel_rfl, ?hy4⟩) (by assumption) ?_
  case hy4 => (intro w hSw; (try dsimp only at hSw); go_simp <;> (try with_reducible rfl))
  try simp only [Act.put, List.setIfInBounds_toArray, List.set_cons_zero, List.set_cons_succ]
  refine wpAnyH_take (i := 5) (v := ?v5) (by simp only [List.getElem?_toArray, List.getElem?_cons_succ, List.getElem?_cons_zero]; exact rfl) (by kernel_rfl) (by kernel_rfl) (by kernel_rfl) (fun _ _ _ h => h) (Or.inl ⟨by kernel_rfl, ?hy5⟩) (by assumption) ?_
  case hy5 => (intro w hSw; (try dsimp only at hSw); go_simp <;> (try with_reducible rfl))
  try simp only [Act.put, List.setIfInBounds_toArray, List.set_cons_zero, List.set_cons_succ]
  refine wpAnyH_take (i := 6) (v := ?v6) (by simp only [List.getElem?_toArray, List.getElem?_cons_succ, List.getElem?_cons_zero]; exact rfl) (by kernel_rfl) (by kernel_rfl) (by kernel_rfl) (fun _ _ _ h => h) (Or.inl ⟨by kernel_rfl, ?hy6⟩) (by assumption) ?_
  case hy6 => (intro w hSw; (try dsimp only at hSw); go_simp <;> (try with_reducible rfl))
  try simp only [Act.put, List.setIfInBounds_toArray, List.set_cons_zero, List.set_cons_succ]
  refine wpAnyH_ready (rs := [7]) (by kernel_rfl) (by simp) ?_
  refine AllReadyH.cons rfl (fun K hK => ?_) AllReadyH.nil
  go_simp
  go_at_call 17
  (with_reducible refine (HWY.out _ HD8.out).mono ?_)
  rintro e w9 ⟨rfl, hb⟩
  have B9 : Hid (Below w8.heap.size w8 w9) := HD8.out.trans (hb.mono HD8.out.size)
  try (go_wp2_with fail)
  refine hK.out _ _ (HX9.out _ B9.out) (fun hHeld => ?_)
  clear hK K
  try simp only [Act.put, List.setIfInBounds_toArray, List.set_cons_zero, List.set_cons_succ]
  clear hb q0 q1 q2
  refine wpAnyH_take (i := 8) (v := ?v8) (by simp only [List.getElem?_toArray, List.getElem?_cons_succ, List.getElem?_cons_zero]; exact rfl) (by kernel_rfl) (by kernel_rfl) (by kernel_rfl) (fun _ _ _ h => h) (Or.inl ⟨by kernel_rfl, ?hy8⟩) (by assumption) ?_
  case hy8 => (intro w hSw; (try dsimp only at hSw); go_simp <;> (try with_reducible rfl))
  try simp only [Act.put, List.setIfInBounds_toArray, List.set_cons_zero, List.set_cons_succ]
  refine wpAnyH_take (i := 9) (v := ?v9) (by simp only [List.getElem?_toArray, List.getElem?_cons_succ, List.getElem?_cons_zero]; exact rfl) (by kernel_rfl) (by kernel_rfl) (by kernel_rfl) (fun _ _ _ h => h) (Or.inl ⟨by kernel_rfl, ?hy9⟩) (by assumption) ?_
  case hy9 => (intro w hSw; (try dsimp only at hSw); go_simp <;> (try with_reducible rfl))
  try simp only [Act.put, List.setIfInBounds_toArray, List.set_cons_zero, List.set_cons_succ]
  refine wpAnyH_take (i := 10) (v := ?v10) (by simp only [List.getElem?_toArray, List.getElem?_cons_succ, List.getElem?_cons_zero]; exact rfl) (by kernel_rfl) (by kernel_rfl) (by kernel_rfl) (fun _ _ _ h => h) (Or.inl ⟨by kernel_rfl, ?hy10⟩) (by assumption) ?_
  case hy10 => (intro w hSw; (try dsimp only at hSw); go_simp <;> (try with_reducible rfl))
  try simp only [Act.put, List.setIfInBounds_toArray, List.set_cons_zero, List.set_cons_succ]
  refine wpAnyH_take (i := 11) (v := ?v11) (by simp only [List.getElem?_toArray, List.getElem?_cons_succ, List.getElem?_cons_zero]; exact rfl) (by kernel_rfl) (by kernel_rfl) (by kernel_rfl) (fun _ _ _ h => h) (Or.inl ⟨by kernel_rfl, ?hy11⟩) (by assumption) ?_
  case hy11 => (intro w hSw; (try dsimp only at hSw); go_simp <;> (try with_reducible rfl))
  try simp only [Act.put, List.setIfInBounds_toArray, List.set_cons_zero, List.set_cons_succ]
  refine wpAnyH_take (i := 12) (v := ?v12) (by simp only [List.getElem?_toArray, List.getElem?_cons_succ, List.getElem?_cons_zero]; exact rfl) (by kernel_rfl) (by kernel_rfl) (by kernel_rfl) (fun _ _ _ h => h) (Or.inl ⟨by kernel_rfl, ?hy12⟩) (by assumption) ?_
  case hy12 => (intro w hSw; (try dsimp only at hSw); go_simp <;> (try with_reducible rfl))
  try simp only [Act.put, List.setIfInBounds_toArray, List.set_cons_zero, List.set_cons_succ]
  refine wpAnyH_take (i := 13) (v := ?v13) (by simp only [List.getElem?_toArray, List.getElem?_cons_succ, List.getElem?_cons_zero]; exact rfl) (by kernel_rfl) (by kernel_rfl) (by kernel_rfl) (fun _ _ _ h => h) (Or.inl ⟨by kernel_rfl, ?hy13⟩) (by assumption) ?_
  case hy13 => (intro w hSw; (try dsimp only at hSw); go_simp <;> (try with_reducible rfl))
  try simp only [Act.put, List.setIfInBounds_toArray, List.set_cons_zero, List.set_cons_succ]
  refine wpAnyH_take (i := 14) (v := ?v14) (by simp only [List.getElem?_toArray, List.getElem?_cons_succ, List.getElem?_cons_zero]; exact rfl) (by kernel_rfl) (by kernel_rfl) (by kernel_rfl) (fun _ _ _ h => h) (Or.inl ⟨by kernel_rfl, ?hy14⟩) (by assumption) ?_
  case hy14 => (intro w hSw; (try dsimp only at hSw); go_simp <;> (try with_reducible rfl))
  try simp only [Act.put, List.setIfInBounds_toArray, List.set_cons_zero, List.set_cons_succ]
  refine wpAnyH_take (i := 15) (v := ?v15) (by simp only [List.getElem?_toArray, List.getElem?_cons_succ, List.getElem?_cons_zero]; exact rfl) (by kernel_rfl) (by kernel_rfl) (by kernel_rfl) (fun _ _ _ h => h) (Or.inl ⟨by kernel_rfl, ?hy15⟩) (by assumption) ?_
  case hy15 => (intro w hSw; (try dsimp only at hSw); go_simp <;> (try with_reducible rfl))
  try simp only [Act.put, List.setIfInBounds_toArray, List.set_cons_zero, List.set_cons_succ]
  refine wpAnyH_take (i := 16) (v := ?v16) (by simp only [List.getElem?_toArray, List.getElem?_cons_succ, List.getElem?_cons_zero]; exact rfl) (by kernel_rfl) (by kernel_rfl) (by kernel_rfl) (fun _ _ _ h => h) (Or.inl ⟨by kernel_rfl, ?hy16⟩) (by assumption) ?_
  case hy16 => (intro w hSw; (try dsimp only at hSw); go_simp <;> (try with_reducible rfl))
  try simp only [Act.put, List.setIfInBounds_toArray, List.set_cons_zero, List.set_cons_succ]
  refine wpAnyH_take (i := 17) (v := ?v17) (by simp only [List.getElem?_toArray, List.getElem?_cons_succ, List.getElem?_cons_zero]; exact rfl) (by kernel_rfl) (by kernel_rfl) (by kernel_rfl) (fun _ _ _ h => h) (Or.inl ⟨by kernel_rfl, ?hy17⟩) (by assumption) ?_
  case hy17 => (intro w hSw; (try dsimp only at hSw); go_simp <;> (try with_reducible rfl))
  try simp only [Act.put, List.setIfInBounds_toArray, List.set_cons_zero, List.set_cons_succ]
  refine wpAnyH_take (i := 18) (v := ?v18) (by simp only [List.getElem?_toArray, List.getElem?_cons_succ, List.getElem?_cons_zero]; exact rfl) (by kernel_rfl) (by kernel_rfl) (by kernel_rfl) (fun _ _ _ h => h) (Or.inl ⟨by kernel_rfl, ?hy18⟩) (by assumption) ?_
  case hy18 => (intro w hSw; (try dsimp only at hSw); go_simp <;> (try with_reducible rfl))
  try simp only [Act.put, List.setIfInBounds_toArray, List.set_cons_zero, List.set_cons_succ]
  refine wpAnyH_take (i := 19) (v := ?v19) (by simp only [List.getElem?_toArray, List.getElem?_cons_succ, List.getElem?_cons_zero]; exact rfl) (by kernel_rfl) (by kernel_rfl) (by kernel_rfl) (fun _ _ _ h => h) (Or.inl ⟨by kernel_rfl, ?hy19⟩) (by assumption) ?_
  case hy19 => (intro w hSw; (try dsimp only at hSw); go_simp <;> (try with_reducible rfl))
  try simp only [Act.put, List.setIfInBounds_toArray, List.set_cons_zero, List.set_cons_succ]
  refine wpAnyH_take (i := 20) (v := ?v20) (by simp only [List.getElem?_toArray, List.getElem?_cons_succ, List.getElem?_cons_zero]; exact rfl) (by kernel_rfl) (by kernel_rfl) (by kernel_rfl) (fun _ _ _ h => h) (Or.inl ⟨by kernel_rfl, ?hy20⟩) (by assumption) ?_
  case hy20 => (intro w hSw; (try dsimp only at hSw); go_simp <;> (try with_reducible rfl))
  try simp only [Act.put, List.setIfInBounds_toArray, List.set_cons_zero, List.set_cons_succ]
  refine wpAnyH_ready (rs := [21]) (by kernel_rfl) (by simp) ?_
  refine AllReadyH.cons rfl (fun K hK => ?_) AllReadyH.nil
  go_simp
  go_at_call 18
  (with_reducible refine (HC0.out _ B9.out).mono ?_)
  rintro e w10 ⟨rfl, hb⟩
  have B10 : Hid (Below w8.heap.size w8 w10) := B9.out.trans (hb.mono B9.out.size)
  try (go_wp2_with fail)
  refine hK.out _ _ (HX9.out _ B10.out) (fun hHeld => ?_)
  clear hK K
  try simp only [Act.put, List.setIfInBounds_toArray, List.set_cons_zero, List.set_cons_succ]
  clear hb
  refine wpAnyH_take (i := 22) (v := .bool false) (by simp only [List.getElem?_toArray, List.getElem?_cons_succ, List.getElem?_cons_zero]; exact rfl) (by kernel_rfl) (by kernel_rfl) (by kernel_rfl) (fun _ _ _ h => h) (Or.inl ⟨by kernel_rfl, ?hy22⟩) (by assumption) ?_
  case hy22 => (intro w hSw; (try dsimp only at hSw); go_simp)
  try simp only [Act.put, List.setIfInBounds_toArray, List.set_cons_zero, List.set_cons_succ]
  refine wpAnyH_take (i := 23) (v := ?v23) (by simp only [List.getElem?_toArray, List.getElem?_cons_succ, List.getElem?_cons_zero]; exact rfl) (by kernel_rfl) (by kernel_rfl) (by kernel_rfl) (fun _ _ _ h => h) (Or.inl ⟨by kernel_rfl, ?hy23⟩) (by assumption) ?_
  case hy23 => (intro w hSw; (try dsimp only at hSw); go_simp <;> (try with_reducible rfl))
  try simp only [Act.put, List.setIfInBounds_toArray, List.set_cons_zero, List.set_cons_succ]
  refine wpAnyH_take (i := 24) (v := ?v24) (by simp only [List.getElem?_toArray, List.getElem?_cons_succ, List.getElem?_cons_zero]; exact rfl) (by kernel_rfl) (by kernel_rfl) (by kernel_rfl) (fun _ _ _ h => h) (Or.inl ⟨by kernel_rfl, ?hy24⟩) (by assumption) ?_
  case hy24 => (intro w hSw; (try dsimp only at hSw); go_simp <;> (try with_reducible rfl))
  try simp only [Act.put, List.setIfInBounds_toArray, List.set_cons_zero, List.set_cons_succ]
  refine wpAnyH_take (i := 25) (v := ?v25) (by simp only [List.getElem?_toArray, List.getElem?_cons_succ, List.getElem?_cons_zero]; exact rfl) (by kernel_rfl) (by kernel_rfl) (by kernel_rfl) (fun _ _ _ h => h) (Or.inl ⟨by kernel_rfl, ?hy25⟩) (by assumption) ?_
  case hy25 => (intro w hSw; (try dsimp only at hSw); go_simp <;> (try with_reducible rfl))
  try simp only [Act.put, List.setIfInBounds_toArray, List.set_cons_zero, List.set_cons_succ]
  refine wpAnyH_take (i := 26) (v := ?v26) (by simp only [List.getElem?_toArray, List.getElem?_cons_succ, List.getElem?_cons_zero]; exact rfl) (by kernel_rfl) (by kernel_rfl) (by kernel_rfl) (fun _ _ _ h => h) (Or.inl ⟨by kernel_rfl, ?hy26⟩) (by assumption) ?_
  case hy26 => (intro w hSw; (try dsimp only at hSw); go_simp <;> (try with_reducible rfl))
  try simp only [Act.put, List.setIfInBounds_toArray, List.set_cons_zero, List.set_cons_succ]
  refine wpAnyH_take (i := 28) (v := ?v28) (by simp only [List.getElem?_toArray, List.getElem?_cons_succ, List.getElem?_cons_zero]; exact rfl) (by kernel_rfl) (by kernel_rfl) (by kernel_rfl) (fun _ _ _ h => h) (Or.inl ⟨by kernel_rfl, ?hy28⟩) (by assumption) ?_
  case hy28 => (intro w hSw; (try dsimp only at hSw); go_simp <;> (try with_reducible rfl))
  try simp only [Act.put, List.setIfInBounds_toArray, List.set_cons_zero, List.set_cons_succ]
  refine wpAnyH_take (i := 29) (v := ?v29) (by simp only [List.getElem?_toArray, List.getElem?_cons_succ, List.getElem?_cons_zero]; exact rfl) (by kernel_rfl) (by kernel_rfl) (by kernel_rfl) (fun _ _ _ h => h) (Or.inl ⟨by kernel_rfl, ?hy29⟩) (by assumption) ?_
  case hy29 => (intro w hSw; (try dsimp only at hSw); go_simp <;> (try with_reducible rfl))
  try simp only [Act.put, List.setIfInBounds_toArray, List.set_cons_zero, List.set_cons_succ]
  refine wpAnyH_take (i := 31) (v := ?v31) (by simp only [List.getElem?_toArray, List.getElem?_cons_succ, List.getElem?_cons_zero]; exact rfl) (by kernel_rfl) (by kernel_rfl) (by kernel_rfl) (fun _ _ _ h => h) (Or.inl ⟨by kernel_rfl, ?hy31⟩) (by assumption) ?_
  case hy31 => (intro w hSw; (try dsimp only at hSw); go_simp <;> (try with_reducible rfl))
  try simp only [Act.put, List.setIfInBounds_toArray, List.set_cons_zero, List.set_cons_succ]
  refine wpAnyH_take (i := 32) (v := ?v32) (by simp only [List.getElem?_toArray, List.getElem?_cons_succ, List.getElem?_cons_zero]; exact rfl) (by kernel_rfl) (by kernel_rfl) (by kernel_rfl) (fun _ _ _ h => h) (Or.inl ⟨by kernel_rfl, ?hy32⟩) (by assumption) ?_
  case hy32 => (intro w hSw; (try dsimp only at hSw); go_simp <;> (try with_reducible rfl))
  try simp only [Act.put, List.setIfInBounds_toArray, List.set_cons_zero, List.set_cons_succ]
  refine wpAnyH_ready (rs := [27]) (by kernel_rfl) (by simp) ?_
  refine AllReadyH.cons rfl (fun K hK => ?_) AllReadyH.nil
  go_simp
  go_at_call 18
  (with_reducible refine (HC1.out _ B10.out).mono ?_)
  rintro e w11 ⟨rfl, hb⟩
  have B11 : Hid (Below w8.heap.size w8 w11) := B10.out.trans (hb.mono B10.out.size)
  try (go_wp2_with fail)
  refine hK.out _ _ (HX9.out _ B11.out) (fun hHeld => ?_)
  clear hK K
  try simp only [Act.put, List.setIfInBounds_toArray, List.set_cons_zero, List.set_cons_succ]
  clear hb
  refine wpAnyH_ready (rs := [30]) (by kernel_rfl) (by simp) ?_
  refine AllReadyH.cons rfl (fun K hK => ?_) AllReadyH.nil
  go_simp
  go_at_call 18
  (with_reducible refine (HC0.out _ B11.out).mono ?_)
  rintro e w12 ⟨rfl, hb⟩
  have B12 : Hid (Below w8.heap.size w8 w12) := B11.out.trans (hb.mono B11.out.size)
  try (go_wp2_with fail)
  refine hK.out _ _ (HX9.out _ B12.out) (fun hHeld => ?_)
  clear hK K
  try simp only [Act.put, List.setIfInBounds_toArray, List.set_cons_zero, List.set_cons_succ]
  clear hb
  refine wpAnyH_take (i := 33) (v := ?v33) (by simp only [List.getElem?_toArray, List.getElem?_cons_succ, List.getElem?_cons_zero]; exact rfl) (by kernel_rfl) (by kernel_rfl) (by kernel_rfl) (fun _ _ _ h => h) (Or.inl ⟨by kernel_rfl, ?hy33⟩) (by assumption) ?_
  case hy33 => (intro w hSw; (try dsimp only at hSw); go_simp <;> (try with_reducible rfl))
  try simp only [Act.put, List.setIfInBounds_toArray, List.set_cons_zero, List.set_cons_succ]
  refine wpAnyH_take (i := 34) (v := .bool false) (by simp only [List.getElem?_toArray, List.getElem?_cons_succ, List.getElem?_cons_zero]; exact rfl) (by kernel_rfl) (by kernel_rfl) (by kernel_rfl) (fun _ _ _ h => h) (Or.inl ⟨by kernel_rfl, ?hy34⟩) (by assumption) ?_
  case hy34 => (intro w hSw; (try dsimp only at hSw); go_simp)
  try simp only [Act.put, List.setIfInBounds_toArray, List.set_cons_zero, List.set_cons_succ]
  refine wpAnyH_take (i := 35) (v := ?v35) (by simp only [List.getElem?_toArray, List.getElem?_cons_succ, List.getElem?_cons_zero]; exact rfl) (by kernel_rfl) (by kernel_rfl) (by kernel_rfl) (fun _ _ _ h => h) (Or.inl ⟨by kernel_rfl, ?hy35⟩) (by assumption) ?_
  case hy35 => (intro w hSw; (try dsimp only at hSw); go_simp <;> (try with_reducible rfl))
  try simp only [Act.put, List.setIfInBounds_toArray, List.set_cons_zero, List.set_cons_succ]
  refine wpAnyH_done (by kernel_rfl) ?_ _
  refine NoPanic.normal ?_
  have HZ : Hid (Below w.heap.size w w12) := HB2.out.trans ((B5.out.trans ((HX8.out.2.trans (B12.out.mono HX8.out.2.size)).mono B5.out.size)).mono HB2.out.size)
  have HAZ : Hid (∀ W, Below w12.heap.size w12 W → InI W (.slice Aa n ca) a) := fun W hW => HAW.out W (B12.out.trans (hW.mono B12.out.size))
  have HPA : Hid (∀ W z, Below w12.heap.size w12 W → Calls Tryd.prog 19 #[.slice Aa n ca, .int .i64 z] W fun e w' => e = .returned (.int .i64 (plc a z + 1)) ∧ W = w') := fun W z hW => by
    have h := implPlaceOf_any Aa ca a z W (inI_sl (HAZ.out W hW)) (by rw [La.out.len]; omega) (by rw [La.out.len]; exact hca) La.out.lad
    rwa [La.out.len] at h
  have HPN : Hid (∀ W, Below w12.heap.size w12 W → Calls Tryd.prog 19 #[.slice Aa n ca, .int .i64 (n : Int)] W fun e w' => e = .returned (.int .i64 0) ∧ W = w') := fun W hW => by
    have h := HPA.out W (n : Int) hW
    have h2 : plc a (n : Int) = -1 := plc_none fun hm => by
      have := (ladB_t La.out.lad).2.1 _ hm
      have := La.out.len
      omega
    rwa [h2] at h
  have HMY : Hid (∀ W x y, Below w12.heap.size w12 W → Calls Tryd.prog 20 #[.slice Aa n ca, .int .i64 2, .int .i64 x, .int .i64 y] W fun e w' => e = .returned (.bool (mayB a 2 x y)) ∧ W = w') := fun W x y hW => by
    have h := implMay_any Aa ca a 2 x y W (inI_sl (HAZ.out W hW)) (by rw [La.out.len]; omega) (by rw [La.out.len]; exact hca)
    rwa [La.out.len] at h
  have HAC : Hid (∀ W x y z, Below w12.heap.size w12 W → Calls Tryd.prog 21 #[.slice Aa n ca, .int .i64 2, .slice (some ⟨W.heap.size, 0, none⟩) 3 3] (W.alloc (.cells #[.int .i64 x, .int .i64 y, .int .i64 z] 3)) fun e w' => ∃ v', e = .returned (.tuple #[v', .bool (chOk a 2 [x, y, z])]) ∧ InI w' v' (chalF a 2 [x, y, z]) ∧ Below W.heap.size W w') := fun W x y z hW => by
    have b1 : Below W.heap.size W (W.alloc (.cells #[.int .i64 x, .int .i64 y, .int .i64 z] 3)) := (Below.refl _ W).alloc (Nat.le_refl _) _
    have hf : Fr (W.alloc (.cells #[.int .i64 x, .int .i64 y, .int .i64 z] 3)) W.heap.size (W.alloc (.cells #[.int .i64 x, .int .i64 y, .int .i64 z] 3)).heap.size (.slice (some ⟨W.heap.size, 0, none⟩) 3 3) [x, y, z] :=
      Fr.of_own (xs := [x, y, z]) (World.ownsRow_lit (base := W.heap.size) (e := 3) (size := 1) W #[.int .i64 x, .int .i64 y, .int .i64 z] 3 (Nat.le_refl _) (by unfold maxLen; omega) rfl)
    refine (implAfterChallenge_std _ a 2 _ [x, y, z] _ ((HAZ.out W hW).below b1) (by rw [La.out.len]; omega) (by decide) hf.in_ (by simp)).mono ?_
    rintro e w' ⟨v', rfl, hf2, hb⟩
    exact ⟨v', rfl, hf2.in_, b1.trans (hb.mono b1.size)⟩
  clear HTW HAW HWY HC1 HC0 HX9 HM HX8 n1 n2 n3 n4 n5 B9 B10 B11 B12 B5 HD8 HTT HML Ha Hb Lb H1
  go_wp2
  go_loopw [136] (fun i wr => ∃ j : Nat, j ≤ n ∧ i = .int .i64 j ∧ Hid (Below w12.heap.size w12 wr)) (fun i _ => n - (intOf i).toNat)
  case atStart => exact ⟨0, Nat.zero_le _, rfl, Below.refl _ _⟩
  case round =>
    obtain ⟨j, hj, rfl, HR⟩ := hrel
    by_cases hlt : j < n
    case neg =>
      obtain rfl : j = n := by omega
      go_wp2_with fail
      refine (HPN.out _ HR.out).mono ?_
      rintro e w_ ⟨rfl, rfl⟩
      go_wp2
      go_ret
      exact ⟨rfl, HZ.out.trans (HR.out.mono HZ.out.size)⟩
    obtain ⟨bk, off, x, rfl, hx, hcx, -⟩ := (inI_sl (HAZ.out _ HR.out)).at_ (k := j) (by rw [La.out.len]; exact hlt)
    have HX := Lib.hid hx
    have HPX : Hid (∀ W, Below w12.heap.size w12 W → Calls Tryd.prog 19 #[.slice (some ⟨bk, off, none⟩) n ca, .int .i64 x] W fun e w' => e = .returned (.int .i64 ((j : Int) + 1)) ∧ W = w') := fun W hW => by
      have h := HPA.out W x hW
      rwa [plc_at La.out.nd HX.out] at h
    have z1 : (((j : Int) + 1) != ((j : Int) + 1)) = false := by simp
    clear hx
    go_wp2_with fail
    refine (HPX.out _ HR.out).mono ?_
    rintro e w_ ⟨rfl, rfl⟩
    go_wp2
    clear z1
    obtain ⟨wy, rfl⟩ : ∃ W, W = wr := ⟨wr, rfl⟩
    go_loopw [149] (fun i wr => ∃ k : Nat, k ≤ n ∧ i = .int .i64 k ∧ Hid (Below w12.heap.size w12 wr)) (fun i _ => n - (intOf i).toNat)
    case atStart => exact ⟨0, Nat.zero_le _, rfl, HR.out⟩
    case round =>
      obtain ⟨k, hk, rfl, HR2⟩ := hrel
      by_cases hlt2 : k < n
      case neg =>
        go_wp2
        go_roundw
        case rel => exact ⟨j + 1, by omega, by go_num, HR2.out⟩
        case measure => simp [intOf]; omega
      obtain ⟨bk2, off2, y, he, hy, hcy, -⟩ := (inI_sl (HAZ.out _ HR2.out)).at_ (k := k) (by rw [La.out.len]; exact hlt2)
      injection he with he
      injection he with e1 e2 _
      subst e1; subst e2
      have HY := Lib.hid hy
      have s1 : IntKind.i64.wrap ((j : Int) - (k : Int)) = (j : Int) - (k : Int) := by rw [IntKind.wrap_i64]; omega
      clear hy hcx
      by_cases hm : k < j ∧ j ≤ k + 2
      case neg =>
        have hno := chalNo_of La.out (i := j) (k := k) (by omega) HX.out HY.out
        have HNO : Hid (∀ W, Below w12.heap.size w12 W → Calls Tryd.prog 20 #[.slice (some ⟨bk, off, none⟩) n ca, .int .i64 2, .int .i64 x, .int .i64 y] W fun e w' => e = .returned (.bool false) ∧ W = w') := fun W hW => by
          have h := HMY.out W x y hW
          rwa [hno.1] at h
        have HN1 : Hid (∀ W z, Below w12.heap.size w12 W → Calls Tryd.prog 21 #[.slice (some ⟨bk, off, none⟩) n ca, .int .i64 2, .slice (some ⟨W.heap.size, 0, none⟩) 3 3] (W.alloc (.cells #[.int .i64 x, .int .i64 y, .int .i64 z] 3)) fun e w' => ∃ v', e = .returned (.tuple #[v', .bool false]) ∧ Below W.heap.size W w') := fun W z hW => by
          refine (HAC.out W x y z hW).mono ?_
          rintro e w' ⟨v', rfl, _, hb⟩
          exact ⟨v', by rw [hno.2], hb⟩
        clear hno
        have t1 : (false != false) = false := rfl
        rcases (show j ≤ k ∨ k + 2 < j by omega) with hc | hc
        all_goals
          have HC := Lib.hid hc
          have c1 : decide (1 ≤ (j : Int) - (k : Int)) = decide (k + 1 ≤ j) := decide_eq_decide.2 (by omega)
          clear hm
          go_wp2_with fail
          refine (HNO.out _ HR2.out).mono ?_
          rintro e w_ ⟨rfl, rfl⟩
          go_wp2_with fail
          refine (HN1.out _ 1 HR2.out).mono ?_
          rintro e w13 ⟨v13, rfl, hb⟩
          have B13 : Hid (Below w12.heap.size w12 w13) := HR2.out.trans (hb.mono HR2.out.size)
          clear hb
          go_wp2_with fail
          refine (HN1.out _ 0 B13.out).mono ?_
          rintro e w14 ⟨v14, rfl, hb⟩
          have B14 : Hid (Below w12.heap.size w12 w14) := B13.out.trans (hb.mono B13.out.size)
          clear hb
          go_wp2
        · go_roundw
          case rel => exact ⟨k + 1, by omega, by go_num, B14.out⟩
          case measure => simp [intOf]; omega
        · go_roundw
          case rel => exact ⟨k + 1, by omega, by go_num, B14.out⟩
          case measure => simp [intOf]; omega
      have HCW := Lib.hid (chalLaw_of La.out h5 hlt hm.1 hm.2 HX.out HY.out)
      have hsa : a.length ≤ 1048576 := by rw [La.out.len]; omega
      have HYE : Hid (∀ W, Below w12.heap.size w12 W → Calls Tryd.prog 20 #[.slice (some ⟨bk, off, none⟩) n ca, .int .i64 2, .int .i64 x, .int .i64 y] W fun e w' => e = .returned (.bool true) ∧ W = w') := fun W hW => by
        have h := HMY.out W x y hW
        rwa [HCW.out.may] at h
      have HN1 : Hid (∀ W, Below w12.heap.size w12 W → Calls Tryd.prog 21 #[.slice (some ⟨bk, off, none⟩) n ca, .int .i64 2, .slice (some ⟨W.heap.size, 0, none⟩) 3 3] (W.alloc (.cells #[.int .i64 x, .int .i64 y, .int .i64 1] 3)) fun e w' => ∃ Au cu, e = .returned (.tuple #[.slice Au n cu, .bool true]) ∧ n ≤ cu ∧ InI w' (.slice Au n cu) (riseL a j k) ∧ Below W.heap.size W w') := fun W hW => by
        refine (HAC.out W x y 1 hW).mono ?_
        rintro e w' ⟨v', rfl, hi, hb⟩
        rw [HCW.out.f1] at hi
        have hi0 := hi
        obtain ⟨Au, cu, rfl, hcu, _, _⟩ := hi
        rw [HCW.out.lad.len] at hi0 hcu ⊢
        exact ⟨Au, cu, by rw [HCW.out.o1], hcu, hi0, hb⟩
      have HN0 : Hid (∀ W, Below w12.heap.size w12 W → Calls Tryd.prog 21 #[.slice (some ⟨bk, off, none⟩) n ca, .int .i64 2, .slice (some ⟨W.heap.size, 0, none⟩) 3 3] (W.alloc (.cells #[.int .i64 x, .int .i64 y, .int .i64 0] 3)) fun e w' => ∃ v', e = .returned (.tuple #[v', .bool true]) ∧ InI w' v' a ∧ Below W.heap.size W w') := fun W hW => by
        refine (HAC.out W x y 0 hW).mono ?_
        rintro e w' ⟨v', rfl, hi, hb⟩
        rw [HCW.out.f0] at hi
        exact ⟨v', by rw [HCW.out.o0], hi, hb⟩
      have HPU : Hid (∀ W Au cu, n ≤ cu → InI W (.slice Au n cu) (riseL a j k) → (Calls Tryd.prog 19 #[.slice Au n cu, .int .i64 x] W fun e w' => e = .returned (.int .i64 ((k : Int) + 1)) ∧ W = w') ∧ (Calls Tryd.prog 19 #[.slice Au n cu, .int .i64 y] W fun e w' => e = .returned (.int .i64 ((k : Int) + 2)) ∧ W = w')) := fun W Au cu hcu hW => by
        have g1 := implPlaceOf_any Au cu _ x W (inI_sl hW) (by rw [HCW.out.lad.len]; omega) (by rw [HCW.out.lad.len]; exact hcu) HCW.out.lad.lad
        have g2 := implPlaceOf_any Au cu _ y W (inI_sl hW) (by rw [HCW.out.lad.len]; omega) (by rw [HCW.out.lad.len]; exact hcu) HCW.out.lad.lad
        rw [HCW.out.lad.len, HCW.out.px] at g1
        rw [HCW.out.lad.len, HCW.out.py] at g2
        exact ⟨g1, g2⟩
      have HLD : Hid (∀ W Au cu, Below w12.heap.size w12 W → InI W (.slice Au n cu) (riseL a j k) → Calls Tryd.prog 11 #[.slice (some ⟨bk, off, none⟩) n ca, .slice Au n cu] W fun e w' => e = .returned (.int .i64 ((j : Int) - (k : Int))) ∧ W = w') := fun W Au cu hW hI => by
        have h := implLadderDistance_std _ a _ _ W (HAZ.out W hW) hI (La.out.two HCW.out.lad)
        rwa [HCW.out.ds] at h
      have HSA : Hid (∀ W v', Below w12.heap.size w12 W → InI W v' a → Calls Tryd.prog 12 #[v', .slice (some ⟨bk, off, none⟩) n ca] W fun e w' => e = .returned (.bool true) ∧ W = w') := fun W v' hW hI => by
        have h := lawsSameB_any v' _ a a W hI (HAZ.out W hW) hsa hsa
        rwa [show (a == a) = true from by simp] at h
      have t1 : (true != true) = false := rfl
      have t2 : (((k : Int) + 1) != ((k : Int) + 1)) = false := by simp
      have t3 : (((k : Int) + 2) != ((k : Int) + 2)) = false := by simp
      have t4 : (((j : Int) - (k : Int)) != ((j : Int) - (k : Int))) = false := by simp
      have HM2 := Lib.hid hm
      clear hsa
      obtain ⟨m1, m2⟩ := hm
      go_wp2_with fail
      refine (HYE.out _ HR2.out).mono ?_
      rintro e w_ ⟨rfl, rfl⟩
      go_wp2_with fail
      refine (HN1.out _ HR2.out).mono ?_
      rintro e w13 ⟨Au, cu, rfl, hcu, hi, hb⟩
      have B13 : Hid (Below w12.heap.size w12 w13) := HR2.out.trans (hb.mono HR2.out.size)
      have HU := Lib.hid hi
      clear hb hi
      go_wp2_with fail
      refine (HN0.out _ B13.out).mono ?_
      rintro e w14 ⟨v14, rfl, hi, hb⟩
      have B14 : Hid (Below w12.heap.size w12 w14) := B13.out.trans (hb.mono B13.out.size)
      replace HU := Lib.hid (HU.out.below hb)
      have HV14 := Lib.hid hi
      have HPP := Lib.hid (HPU.out w14 Au cu hcu HU.out)
      clear hb hi
      go_wp2_with fail
      refine HPP.out.1.mono ?_
      rintro e w_ ⟨rfl, rfl⟩
      go_wp2_with fail
      refine HPP.out.2.mono ?_
      rintro e w_ ⟨rfl, rfl⟩
      go_wp2_with fail
      refine (HLD.out _ _ _ B14.out HU.out).mono ?_
      rintro e w_ ⟨rfl, rfl⟩
      go_wp2_with fail
      refine (HSA.out _ _ B14.out HV14.out).mono ?_
      rintro e w_ ⟨rfl, rfl⟩
      go_wp2
      go_roundw
      case rel => exact ⟨k + 1, by omega, by go_num, B14.out⟩
      case measure => simp [intOf]; omega
end Go.Proofs.YtbipjmaeclgldaaDoor
