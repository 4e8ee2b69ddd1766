/- The greatest number of numbers in the same order in two orders: contracts. -/
import Derived.Test.YtnjomfmmnkjhfaaDist
import Derived.Deep.QuietTactic
namespace Go.Proofs.Ytnjomfmmnkjhfaa
open Go.ChangeShapes Go.WideShapes Go.ChangeAt Go.RowKit

theorem below_drew1 {B : Nat} {a w : World} (h : Below B a w) : Below B a w.drew := ⟨h.os, h.tape, h.output, h.size, h.block⟩
def stepC (b a best : List Int) (x : Int) : Nat → Int
  | 0 => 1
  | k + 1 => if plc b (a.getD k 0) < plc b x then max (stepC b a best x k) (best.getD k 0 + 1) else stepC b a best x k
theorem stepC_in {b a best : List Int} {x y z : Int} {k : Nat} (hy : a.getD k 0 = y) (hz : best.getD k 0 = z) (h : plc b y < plc b x) : stepC b a best x (k + 1) = max (stepC b a best x k) (z + 1) := by
  rw [stepC, hy, if_pos h, hz]
theorem stepC_out {b a best : List Int} {x y : Int} {k : Nat} (hy : a.getD k 0 = y) (h : ¬ plc b y < plc b x) : stepC b a best x (k + 1) = stepC b a best x k := by
  rw [stepC, hy, if_neg h]
def bestU (a b : List Int) : Nat → List Int
  | 0 => []
  | j + 1 => bestU a b j ++ [stepC b a (bestU a b j) (a.getD j 0) j]
def valC (a b : List Int) (j : Nat) : Int := stepC b a (bestU a b j) (a.getD j 0) j
def mostU (a b : List Int) : Nat → Int
  | 0 => 0
  | j + 1 => max (mostU a b j) (valC a b j)
theorem bestU_length (a b : List Int) : ∀ j, (bestU a b j).length = j
  | 0 => rfl
  | j + 1 => by rw [bestU, List.length_append, bestU_length a b j]; rfl
theorem bestU_get (a b : List Int) : ∀ {j i : Nat}, i < j → (bestU a b j)[i]? = some (valC a b i)
  | j + 1, i, h => by
    rw [bestU]
    by_cases hi : i < j
    · rw [List.getElem?_append_left (by rw [bestU_length]; exact hi)]; exact bestU_get a b hi
    · obtain rfl : i = j := by omega
      rw [List.getElem?_append_right (by rw [bestU_length]; exact Nat.le_refl _), bestU_length, Nat.sub_self]; rfl
theorem bestU_getD {a b : List Int} {j i : Nat} (h : i < j) : (bestU a b j).getD i 0 = valC a b i := by
  rw [List.getD_eq_getElem?_getD, bestU_get a b h]; rfl
theorem stepC_bd {b a best : List Int} (x : Int) (h : ∀ i, best.getD i 0 ≤ (i : Int) + 1) : ∀ k, 1 ≤ stepC b a best x k ∧ stepC b a best x k ≤ (k : Int) + 1
  | 0 => ⟨by simp [stepC], by simp [stepC]⟩
  | k + 1 => by
    have h1 := stepC_bd (b := b) (a := a) x h k
    have h2 := h k
    rw [stepC]
    split <;> push_cast <;> omega
theorem bestU_bd (a b : List Int) : ∀ j i, (bestU a b j).getD i 0 ≤ (i : Int) + 1
  | 0, i => by simp [bestU]; omega
  | j + 1, i => by
    rcases Nat.lt_trichotomy i j with h | h | h
    · have := bestU_bd a b j i
      rw [bestU_getD h] at this
      rw [bestU_getD (by omega)]; exact this
    · subst h
      rw [bestU_getD (by omega)]
      exact (stepC_bd _ (bestU_bd a b i) i).2
    · rw [List.getD_eq_getElem?_getD, List.getElem?_eq_none (by rw [bestU_length]; omega)]
      show (0 : Int) ≤ _
      omega
theorem valC_bd (a b : List Int) (j : Nat) : 1 ≤ valC a b j ∧ valC a b j ≤ (j : Int) + 1 := stepC_bd _ (bestU_bd a b j) j
theorem stepU_bd (a b : List Int) (j : Nat) (x : Int) (k : Nat) : 1 ≤ stepC b a (bestU a b j) x k ∧ stepC b a (bestU a b j) x k ≤ (k : Int) + 1 := stepC_bd _ (bestU_bd a b j) k
theorem mostU_bd (a b : List Int) : ∀ j, 0 ≤ mostU a b j ∧ mostU a b j ≤ (j : Int)
  | 0 => ⟨by simp [mostU], by simp [mostU]⟩
  | j + 1 => by
    have h1 := mostU_bd a b j
    have h2 := valC_bd a b j
    rw [mostU]; push_cast; omega
def mx (xs : List Int) : Nat → Int
  | 0 => xs.getD 0 0
  | j + 1 => max (mx xs j) (xs.getD (j + 1) 0)
theorem mx_best (a b : List Int) {n : Nat} : ∀ {j : Nat}, j < n → mx (bestU a b n) j = mostU a b (j + 1)
  | 0, h => by
    have := valC_bd a b 0
    rw [mx, bestU_getD h, mostU, mostU]; omega
  | j + 1, h => by rw [mx, bestU_getD h, mx_best a b (by omega)]; rfl
def commonF (a b : List Int) : Int := if twoB a b then mostU a b a.length else -1
def movesF (a b : List Int) : Int := if twoB a b then (a.length : Int) - mostU a b a.length else -1
def arrP (a b : List Int) (j : Nat) (c : Int) (p : Nat) : Int := if p < j then valC a b p else if p = j then c else 0
def arrU (n : Nat) (a b : List Int) (j : Nat) (c : Int) : List Int := (List.range n).map (arrP a b j c)
theorem arrU_length (n : Nat) (a b : List Int) (j : Nat) (c : Int) : (arrU n a b j c).length = n := by simp [arrU]
theorem arrU_nth {n : Nat} {a b : List Int} {j : Nat} {c : Int} {p : Nat} (h : p < n) : (arrU n a b j c)[p]? = some (arrP a b j c p) := by simp [arrU, h]
theorem arrU_at {n : Nat} {a b : List Int} {j : Nat} {c : Int} (h : j < n) : (arrU n a b j c)[j]? = some c := by rw [arrU_nth h]; simp [arrP]
theorem arrU_old {n : Nat} {a b : List Int} {j : Nat} {c : Int} {p : Nat} (h : p < j) (hj : j < n) : (arrU n a b j c)[p]? = some (valC a b p) := by rw [arrU_nth (by omega)]; simp [arrP, h]
theorem arrU_ext {n : Nat} {a b : List Int} {j j' : Nat} {c c' : Int} (h : ∀ p, p < n → arrP a b j c p = arrP a b j' c' p) : arrU n a b j c = arrU n a b j' c' := by
  unfold arrU; exact List.map_congr_left fun p hp => h p (List.mem_range.1 hp)
theorem arrU_zero (n : Nat) (a b : List Int) : arrU n a b 0 0 = List.replicate n 0 := by
  apply List.ext_getElem?
  intro p
  by_cases h : p < n
  · rw [arrU_nth h, List.getElem?_replicate, if_pos h]
    unfold arrP
    rw [if_neg (Nat.not_lt_zero _)]
    split <;> rfl
  · rw [List.getElem?_eq_none (by rw [arrU_length]; omega), List.getElem?_eq_none (by simp; omega)]
theorem arrU_set {n : Nat} {a b : List Int} {j : Nat} {c : Int} (c' : Int) : (arrU n a b j c).set j c' = arrU n a b j c' := by
  apply List.ext_getElem?
  intro p
  by_cases h : p < n
  · rw [arrU_nth h]
    by_cases hp : j = p
    · subst hp
      rw [List.getElem?_set_self (by rw [arrU_length]; exact h)]; simp [arrP]
    · rw [List.getElem?_set_ne hp, arrU_nth h]
      unfold arrP
      rw [if_neg (show ¬ p = j from fun e => hp e.symm), if_neg (show ¬ p = j from fun e => hp e.symm)]
  · rw [List.getElem?_eq_none (by rw [List.length_set, arrU_length]; omega), List.getElem?_eq_none (by rw [arrU_length]; omega)]
theorem arrU_roll {n : Nat} {a b : List Int} {j : Nat} : arrU n a b j (valC a b j) = arrU n a b (j + 1) 0 := by
  refine arrU_ext fun p _ => ?_
  unfold arrP
  rcases Nat.lt_trichotomy p j with h | h | h
  · rw [if_pos h, if_pos (by omega)]
  · subst h; rw [if_neg (Nat.lt_irrefl _), if_pos rfl, if_pos (by omega)]
  · rw [if_neg (by omega), if_neg (by omega), if_neg (by omega)]
    split <;> rfl
theorem arrU_all (n : Nat) (a b : List Int) : arrU n a b n 0 = bestU a b n := by
  apply List.ext_getElem?
  intro p
  by_cases h : p < n
  · rw [arrU_nth h, bestU_get a b h]; simp [arrP, h]
  · rw [List.getElem?_eq_none (by rw [arrU_length]; omega), List.getElem?_eq_none (by rw [bestU_length]; omega)]

theorem maxI_any (A : Option Addr) (c : Nat) (xs : List Int) (w : World) (hs : SlI w A xs) (hn : xs.length ≤ 1048576) (h1 : 1 ≤ xs.length) :
    Calls Try.prog 51 #[.slice A xs.length c] w fun e w' => e = .returned (.int .i64 (mx xs (xs.length - 1))) ∧ w = w' := by
  generalize hl : xs.length = n at *
  have HL := Lib.hid hl
  have HS := Lib.hid hs
  clear hl hs
  obtain ⟨b, off, x, rfl, hx1, hx2, _⟩ := HS.out.at_ (k := 0) (by rw [HL.out]; omega)
  rw [Nat.add_zero] at hx2
  have HX : Hid (mx xs 0 = x) := by show _ = _; rw [mx, List.getD_eq_getElem?_getD, hx1]; rfl
  clear hx1
  go_enter Try.func51, Try.ntmps51
  go_wp2
  go_loop [3, 4] (fun m i => ∃ j : Nat, j + 1 ≤ n ∧ i = .int .i64 ((j : Int) + 1) ∧ m = .int .i64 (mx xs j)) (fun _ i => n - (intOf i).toNat)
  case atStart => exact ⟨0, by omega, rfl, by rw [HX.out]⟩
  case round =>
    obtain ⟨j, hj, rfl, rfl⟩ := hrel
    by_cases hlt : j + 1 < n
    · obtain ⟨b2, off2, y, he, hy1, hy2, _⟩ := HS.out.at_ (k := j + 1) (by rw [HL.out]; exact hlt)
      injection he with he; injection he with e1 e2
      subst e1; subst e2
      have HY : Hid (mx xs (j + 1) = max (mx xs j) y) := by show _ = _; rw [mx, List.getD_eq_getElem?_getD, hy1]; rfl
      clear hy1
      go_wp2
      go_round
      case rel => exact ⟨j + 1, by omega, by go_num, by rw [HY.out]; go_num⟩
      case measure => simp [intOf]; omega
    · obtain rfl : n = j + 1 := by omega
      go_wp2
      go_ret
      exact ⟨rfl, rfl⟩

set_option maxHeartbeats 4000000 in
set_option maxRecDepth 100000 in
theorem longestCommon_any (A B : Option Addr) (c d : Nat) (a b : List Int) (w : World) (hsa : SlI w A a) (hca : a.length ≤ c) (_hcm : c ≤ maxLen) (hsb : SlI w B b) (htwo : twoB a b = true) :
    Calls Try.prog 38 #[.slice A a.length c, .slice B b.length d] w fun e w' => e = .returned (.int .i64 (mostU a b a.length)) ∧ Below w.heap.size w w' := by
  obtain ⟨la, lb, hlen⟩ := twoB_t htwo
  have hl8 := (ladB_t la).1
  have HBD := Lib.hid (ladB_t la).2.1
  have LA := Lib.hid la
  have LB := Lib.hid lb
  have HLEN := Lib.hid hlen
  have HS := Lib.hid (And.intro hsa hsb)
  clear htwo la lb hlen hsa hsb
  go_enter Try.func38, Try.ntmps38
  go_wp2_with fail
  refine (inverse_any B d b w HS.out.2 LB.out).mono ?_
  rintro e w1 ⟨v1, rfl, hf1, hb1⟩
  obtain ⟨A1, c1, rfl, hc1, hm1, hs1⟩ := hf1.in_
  have S1 := Lib.hid hs1
  have B1 := Lib.hid hb1
  have SA := Lib.hid (HS.out.1.below hb1)
  clear hf1 hb1 hs1 HS
  rw [invL_length] at hc1
  rw [invL_length, ← HLEN.out]
  rw [← HLEN.out] at hc1
  go_wp2_with (at_make; refine makeI rfl _ _ rfl w1 a.length rfl rfl (by omega) ?_; intro w2 hfr hb hsz)
  have HF := Lib.hid hfr
  have HB := Lib.hid hb
  clear hfr hb hsz
  go_loopw [18] (fun i wr => ∃ j : Nat, j ≤ a.length ∧ i = .int .i64 j ∧ Hid (Fr wr w1.heap.size wr.heap.size (.slice (some ⟨w1.heap.size, 0, none⟩) a.length a.length) (arrU a.length a b j 0) ∧ Below w1.heap.size w1 wr)) (fun i _ => a.length - (intOf i).toNat)
  case atStart => exact ⟨0, Nat.zero_le _, rfl, by rw [arrU_zero]; exact HF.out, HB.out⟩
  case round =>
    obtain ⟨j, hj, rfl, HR⟩ := hrel
    clear HF HB
    obtain ⟨wo, rfl⟩ : ∃ W, W = wr := ⟨wr, rfl⟩
    by_cases hlt : j < a.length
    case neg =>
      obtain rfl : j = a.length := by omega
      have HBE : Hid (SlI wo (some ⟨w1.heap.size, 0, none⟩) (bestU a b a.length)) := by
        have h := HR.out.1
        rw [arrU_all] at h
        exact h.sl
      have HM := Lib.hid (mx_best a b (n := a.length) (j := a.length - 1) (by omega))
      have hbl : (bestU a b a.length).length = a.length := bestU_length a b a.length
      have HMX := Lib.hid (maxI_any (some ⟨w1.heap.size, 0, none⟩) a.length (bestU a b a.length) wo HBE.out (by rw [hbl]; omega) (by rw [hbl]; omega))
      rw [hbl, HM.out, show a.length - 1 + 1 = a.length from by omega] at HMX
      clear hbl
      go_wp2_with fail
      refine HMX.out.mono ?_
      rintro e w3 ⟨rfl, rfl⟩
      go_wp2
      go_ret
      exact ⟨rfl, B1.out.trans (HR.out.2.mono B1.out.size)⟩
    have dx : decide ((j : Int) < a.length) = true := by simp; exact hlt
    obtain ⟨b1, o1, x, rfl, hx1, hx2, _⟩ := (SA.out.below HR.out.2).at_ (k := j) hlt
    obtain ⟨x1, x2⟩ := HBD.out x (List.mem_of_getElem? hx1)
    obtain ⟨vx, rfl⟩ := Int.eq_ofNat_of_zero_le x1
    have hvx : vx < a.length := by omega
    have HXA : Hid (a.getD j 0 = (vx : Int)) := by show _ = _; rw [List.getD_eq_getElem?_getD, hx1]; rfl
    obtain ⟨g, s0, hg, q1, q2, q3, q4, q5, q6⟩ := HR.out.1.at_ (k := j) (by rw [arrU_length]; exact hlt)
    obtain rfl : w1.heap.size = g := congrArg Addr.block (Option.some.inj hg)
    have HST : Hid (Fr (wo.setCell ⟨w1.heap.size, j, none⟩ (.int .i64 1)) w1.heap.size (wo.setCell ⟨w1.heap.size, j, none⟩ (.int .i64 1)).heap.size (.slice (some ⟨w1.heap.size, 0, none⟩) a.length a.length) (arrU a.length a b j (stepC b a (bestU a b j) vx 0)) ∧ Below w1.heap.size w1 (wo.setCell ⟨w1.heap.size, j, none⟩ (.int .i64 1))) := by
      have h := q6 1
      rw [arrU_set] at h
      exact ⟨h.1.wide (Nat.le_refl _) h.2.size (Nat.le_refl _), HR.out.2.trans (h.2.below (Nat.le_refl _) HR.out.2.size)⟩
    clear q6 q3 hg hx1
    go_wp2
    go_loopw [30] (fun i wy => ∃ q : Nat, q ≤ j ∧ i = .int .i64 q ∧ Hid (Fr wy w1.heap.size wy.heap.size (.slice (some ⟨w1.heap.size, 0, none⟩) a.length a.length) (arrU a.length a b j (stepC b a (bestU a b j) vx q)) ∧ Below w1.heap.size w1 wy)) (fun i _ => j - (intOf i).toNat)
    case atStart => exact ⟨0, by omega, rfl, HST.out⟩
    case round =>
      obtain ⟨q, hq, rfl, HY⟩ := hrel
      clear HST HR
      by_cases hq2 : q < j
      case neg =>
        obtain rfl : q = j := by omega
        have HN : Hid (Fr wr w1.heap.size wr.heap.size (.slice (some ⟨w1.heap.size, 0, none⟩) a.length a.length) (arrU a.length a b (q + 1) 0) ∧ Below w1.heap.size w1 wr) := by
          have h := HY.out
          rw [← arrU_roll, valC, HXA.out]
          exact h
        go_wp2
        go_roundw
        case rel => exact ⟨q + 1, by omega, by go_num, HN.out⟩
        case measure => simp [intOf]; omega
      obtain ⟨b2, o2, y, he, hy1, hy2, _⟩ := (SA.out.below HY.out.2).at_ (k := q) (by omega)
      injection he with he; injection he with he1 he2
      subst he1; subst he2
      obtain ⟨y1, y2⟩ := HBD.out y (List.mem_of_getElem? hy1)
      obtain ⟨vy, rfl⟩ := Int.eq_ofNat_of_zero_le y1
      have hvy : vy < a.length := by omega
      have HYA : Hid (a.getD q 0 = (vy : Int)) := by show _ = _; rw [List.getD_eq_getElem?_getD, hy1]; rfl
      clear hy1
      obtain ⟨b3, o3, px, hA1, hp1, hp2, _⟩ := (S1.out.below HY.out.2).at_ (k := vx) (by rw [invL_length, ← HLEN.out]; exact hvx)
      subst hA1
      rw [invL_get (by rw [← HLEN.out]; exact hvx)] at hp1
      injection hp1 with hp1
      obtain ⟨b4, o4, py, he, hr1, hr2, _⟩ := (S1.out.below HY.out.2).at_ (k := vy) (by rw [invL_length, ← HLEN.out]; exact hvy)
      injection he with he; injection he with he1 he2
      subst he1; subst he2
      rw [invL_get (by rw [← HLEN.out]; exact hvy)] at hr1
      injection hr1 with hr1
      have HPX := Lib.hid hp1
      have HPY := Lib.hid hr1
      clear hp1 hr1
      by_cases hc : py < px
      case neg =>
        have HSO : Hid (stepC b a (bestU a b j) vx (q + 1) = stepC b a (bestU a b j) vx q) := stepC_out HYA.out (by rw [HPX.out, HPY.out]; exact hc)
        go_wp2
        go_quiet (fail)
        go_wp2
        go_roundw
        all_goals first | exact ⟨q + 1, by omega, by go_num, by rw [HSO.out]; exact HY.out.1, below_drewN HY.out.2 _⟩ | (simp [intOf]; omega)
      go_wp2
      go_quiet (fail)
      have HY2 : Hid (Fr (wr.drewN nq) w1.heap.size (wr.drewN nq).heap.size (.slice (some ⟨w1.heap.size, 0, none⟩) a.length a.length) (arrU a.length a b j (stepC b a (bestU a b j) vx q)) ∧ Below w1.heap.size w1 (wr.drewN nq)) := ⟨HY.out.1, below_drewN HY.out.2 nq⟩
      clear HY hr2 hp2 hy2
      generalize wr.drewN nq = w4 at *
      obtain ⟨g2, s, hg2, q1, q2, q3, q4, q5, q6⟩ := HY2.out.1.at_ (k := j) (by rw [arrU_length]; exact hlt)
      obtain rfl : w1.heap.size = g2 := congrArg Addr.block (Option.some.inj hg2)
      rw [arrU_at hlt] at q3
      injection q3 with q3
      obtain ⟨g3, z, hg3, r1, r2, r3, r4, r5, r6⟩ := HY2.out.1.at_ (k := q) (by rw [arrU_length]; omega)
      obtain rfl : w1.heap.size = g3 := congrArg Addr.block (Option.some.inj hg3)
      rw [arrU_old hq2 hlt] at r3
      injection r3 with r3
      have hz := valC_bd a b q
      rw [r3] at hz
      have hs := stepU_bd a b j vx q
      rw [q3] at hs
      have HSI : Hid (stepC b a (bestU a b j) vx (q + 1) = if s < z + 1 then z + 1 else s) := by
        have h := stepC_in (b := b) (best := bestU a b j) (x := vx) HYA.out (bestU_getD hq2) (by rw [HPX.out, HPY.out]; exact hc)
        rw [q3, r3] at h
        show _ = _
        rw [h]; split <;> omega
      have HST : Hid (Fr (w4.setCell ⟨w1.heap.size, j, none⟩ (.int .i64 (if s < z + 1 then z + 1 else s))) w1.heap.size (w4.setCell ⟨w1.heap.size, j, none⟩ (.int .i64 (if s < z + 1 then z + 1 else s))).heap.size (.slice (some ⟨w1.heap.size, 0, none⟩) a.length a.length) (arrU a.length a b j (stepC b a (bestU a b j) vx (q + 1))) ∧ Below w1.heap.size w1 (w4.setCell ⟨w1.heap.size, j, none⟩ (.int .i64 (if s < z + 1 then z + 1 else s)))) := by
        have h := q6 (if s < z + 1 then z + 1 else s)
        rw [arrU_set, ← HSI.out] at h
        rw [← HSI.out]
        exact ⟨h.1.wide (Nat.le_refl _) h.2.size (Nat.le_refl _), HY2.out.2.trans (h.2.below (Nat.le_refl _) HY2.out.2.size)⟩
      clear q6 q3 hg2 hg3 r3 r6 HY2
      go_wp2
      go_region
      all_goals go_wp2
      all_goals go_roundw
      all_goals first | exact ⟨q + 1, by omega, by go_num, HST.out.1, below_drew1 HST.out.2⟩ | ((repeat (apply Exists.intro)); refine ⟨?_, rfl⟩; exact ⟨q + 1, by omega, by go_num, HST.out.1, below_drew1 HST.out.2⟩) | (simp [intOf]; omega)

set_option maxHeartbeats 1000000 in
theorem implLongestCommon_std (va : Value) (a : List Int) (vb : Value) (b : List Int) (w : World) (ha : InI w va a) (na : a.length ≤ 1048576) (hb : InI w vb b) (nb : b.length ≤ 1048576) :
    Calls Try.prog 15 #[va, vb] w fun e w' => e = .returned (.int .i64 (commonF a b)) ∧ Below w.heap.size w w' := by
  obtain ⟨A, ka, rfl, hka, hma, hsa⟩ := ha
  obtain ⟨B, kb, rfl, hkb, hmb, hsb⟩ := hb
  have HL := Lib.hid (areOrders_any A B ka kb a b w hsa na hka hsb nb hkb)
  have HS := Lib.hid (And.intro hsa hsb)
  clear hsa hsb
  cases htwo : twoB a b
  · go_enter Try.func15, Try.ntmps15
    go_wp2_with fail
    refine HL.out.mono ?_
    rintro e w1 ⟨rfl, rfl⟩
    rw [htwo]
    have B1 : Hid (Below w.heap.size w w) := Below.refl _ _
    go_wp2
    go_ret
    exact ⟨by simp [commonF, htwo], B1.out⟩
  have hmo := mostU_bd a b a.length
  have n8 := (ladB_t (twoB_t htwo).1).1.2
  have HE : Hid (commonF a b = mostU a b a.length) := by show _ = _; simp [commonF, htwo]
  have HT := Lib.hid htwo
  clear htwo
  go_enter Try.func15, Try.ntmps15
  go_wp2_with fail
  refine HL.out.mono ?_
  rintro e w1 ⟨rfl, rfl⟩
  rw [HT.out]
  have B1 : Hid (Below w.heap.size w w) := Below.refl _ _
  go_wp2_with fail
  refine (longestCommon_any A B ka kb a b w (HS.out.1.below B1.out) hka hma (HS.out.2.below B1.out) HT.out).mono ?_
  rintro e w2 ⟨rfl, hb2⟩
  have B2 := Lib.hid (B1.out.trans (hb2.mono B1.out.size))
  clear hb2
  go_wp2
  go_ret
  exact ⟨ret_int HE.out.symm, B2.out⟩

set_option maxHeartbeats 1000000 in
theorem implLeastMoves_std (va : Value) (a : List Int) (vb : Value) (b : List Int) (w : World) (ha : InI w va a) (na : a.length ≤ 1048576) (hb : InI w vb b) (nb : b.length ≤ 1048576) :
    Calls Try.prog 16 #[va, vb] w fun e w' => e = .returned (.int .i64 (movesF a b)) ∧ Below w.heap.size w w' := by
  obtain ⟨A, ka, rfl, hka, hma, hsa⟩ := ha
  obtain ⟨B, kb, rfl, hkb, hmb, hsb⟩ := hb
  have HL := Lib.hid (areOrders_any A B ka kb a b w hsa na hka hsb nb hkb)
  have HS := Lib.hid (And.intro hsa hsb)
  clear hsa hsb
  cases htwo : twoB a b
  · go_enter Try.func16, Try.ntmps16
    go_wp2_with fail
    refine HL.out.mono ?_
    rintro e w1 ⟨rfl, rfl⟩
    rw [htwo]
    have B1 : Hid (Below w.heap.size w w) := Below.refl _ _
    go_wp2
    go_ret
    exact ⟨by simp [movesF, htwo], B1.out⟩
  have hmo := mostU_bd a b a.length
  have n8 := (ladB_t (twoB_t htwo).1).1.2
  have HE : Hid (movesF a b = (a.length : Int) - mostU a b a.length) := by show _ = _; simp [movesF, htwo]
  have HT := Lib.hid htwo
  clear htwo
  go_enter Try.func16, Try.ntmps16
  go_wp2_with fail
  refine HL.out.mono ?_
  rintro e w1 ⟨rfl, rfl⟩
  rw [HT.out]
  have B1 : Hid (Below w.heap.size w w) := Below.refl _ _
  go_wp2_with fail
  refine (longestCommon_any A B ka kb a b w (HS.out.1.below B1.out) hka hma (HS.out.2.below B1.out) HT.out).mono ?_
  rintro e w2 ⟨rfl, hb2⟩
  have B2 := Lib.hid (B1.out.trans (hb2.mono B1.out.size))
  clear hb2
  go_wp2
  go_ret
  exact ⟨ret_int HE.out.symm, B2.out⟩
end Go.Proofs.Ytnjomfmmnkjhfaa
