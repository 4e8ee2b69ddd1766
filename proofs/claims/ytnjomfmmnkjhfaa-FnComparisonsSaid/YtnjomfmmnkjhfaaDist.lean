/- Distances between orders: contracts. -/
import Derived.Test.YtnjomfmmnkjhfaaCmp
import Derived.Test.YtnjomfmmnkjhfaaCu
namespace Go.Proofs.Ytnjomfmmnkjhfaa
open Go.ChangeShapes Go.WideShapes Go.ChangeAt Go.RowKit

/-- How many of ys stand ahead of x in b. -/
def later (b : List Int) (x : Int) (ys : List Int) : Nat := ys.countP fun y => decide (plc b y < plc b x)
theorem later_snoc {b ys : List Int} {x y : Int} {k : Nat} (h : ys[k]? = some y) (hc : plc b y < plc b x) : later b x (ys.take (k + 1)) = later b x (ys.take k) + 1 := by
  rw [take_snoc h, later, List.countP_append]; simp [hc, later]
theorem later_skip {b ys : List Int} {x y : Int} {k : Nat} (h : ys[k]? = some y) (hc : ¬ plc b y < plc b x) : later b x (ys.take (k + 1)) = later b x (ys.take k) := by
  rw [take_snoc h, later, List.countP_append]; simp [hc, later]
theorem later_le (b : List Int) (x : Int) (ys : List Int) : later b x ys ≤ ys.length := List.countP_le_length
def distU (a b : List Int) : Nat → Nat
  | 0 => 0
  | j + 1 => distU a b j + later b (a.getD j 0) (a.drop (j + 1))
theorem distU_le (a b : List Int) : ∀ j, distU a b j ≤ j * a.length
  | 0 => by simp [distU]
  | j + 1 => by
    have h1 := distU_le a b j
    have h2 := later_le b (a.getD j 0) (a.drop (j + 1))
    rw [List.length_drop] at h2
    rw [distU, Nat.add_mul]; omega
theorem distU_cap {a b : List Int} {j : Nat} (h : a.length ≤ 8) (hj : j ≤ a.length) : distU a b j ≤ 64 := by
  have h1 := distU_le a b j
  have h2 : j * a.length ≤ 8 * 8 := Nat.mul_le_mul (by omega) h
  omega
/-- The number of pairs that two orders have in other order. -/
def dist (a b : List Int) : Nat := distU a b a.length
theorem dist_cap {a b : List Int} (h : a.length ≤ 8) : dist a b ≤ 64 := distU_cap h (Nat.le_refl _)

set_option maxHeartbeats 1000000 in
theorem ladderDistance_any (A B : Option Addr) (c d : Nat) (a b : List Int) (w : World) (ha : SlI w A a) (na : a.length ≤ 8) (hca : a.length ≤ c) (hcm : c ≤ maxLen) (hb : SlI w B b) (nb : b.length ≤ 1048576) :
    Calls Try.prog 32 #[.slice A a.length c, .slice B b.length d] w fun e w' => e = .returned (.int .i64 (dist a b : Nat)) ∧ w = w' := by
  unfold maxLen at hcm
  have HSA := Lib.hid ha
  have HSB := Lib.hid hb
  clear ha hb
  go_enter Try.func32, Try.ntmps32
  go_wp2
  go_loop [5, 12] (fun s i => ∃ j : Nat, j ≤ a.length ∧ i = .int .i64 j ∧ s = .int .i64 (distU a b j : Nat)) (fun _ i => a.length - (intOf i).toNat)
  case atStart => exact ⟨0, Nat.zero_le _, rfl, rfl⟩
  case round =>
    obtain ⟨j, hj, rfl, rfl⟩ := hrel
    have hd := distU_cap (b := b) na hj
    by_cases hlt : j < a.length
    · obtain ⟨b1, o1, x, rfl, hx1, hx2, _⟩ := HSA.out.at_ (k := j) hlt
      have HX : Hid (a.getD j 0 = x) := by show _ = _; simp [List.getD_eq_getElem?_getD, hx1]
      have HSD := Lib.hid (HSA.out.drop_ (j + 1))
      have hdl : (a.drop (j + 1)).length = a.length - (j + 1) := List.length_drop
      have HDL := Lib.hid hdl
      clear hx1 hdl
      by_cases hcj : c = j + 1
      · have hk0 : a.length - (j + 1) = 0 := by omega
        have HD : Hid (distU a b (j + 1) = distU a b j) := by
          show _ = _
          have h := HDL.out
          rw [hk0] at h
          rw [distU, List.eq_nil_of_length_eq_zero h]; rfl
        go_wp2
        go_loop [5, 22] (fun s i => i = .int .i64 0 ∧ s = .int .i64 (distU a b j : Nat)) (fun _ i => 0)
        case atStart => exact ⟨rfl, rfl⟩
        case round =>
          obtain ⟨rfl, rfl⟩ := hrel
          go_wp2
          go_round
          case rel => exact ⟨_, _, _, _, _, ⟨j + 1, by omega, rfl, rfl⟩, by rw [HD.out], rfl, rfl, rfl, by go_num⟩
          case measure => simp [intOf]; omega
      · go_wp2
        go_loop [5, 22] (fun s i => ∃ k : Nat, k ≤ a.length - (j + 1) ∧ i = .int .i64 k ∧ s = .int .i64 ((distU a b j + later b x ((a.drop (j + 1)).take k) : Nat) : Int)) (fun _ i => a.length - (j + 1) - (intOf i).toNat)
        case atStart => exact ⟨0, Nat.zero_le _, rfl, rfl⟩
        case round =>
          obtain ⟨k, hk, rfl, rfl⟩ := hrel
          have hl := later_le b x ((a.drop (j + 1)).take k)
          rw [List.length_take] at hl
          by_cases hk2 : k < a.length - (j + 1)
          · obtain ⟨b2, o2, y, he, hy1, hy2, _⟩ := HSD.out.at_ (k := k) (by rw [HDL.out]; exact hk2)
            injection he with he; injection he with he1 he2
            subst he1; subst he2
            have HY := Lib.hid hy1
            clear hy1
            by_cases hc : plc b y < plc b x
            · have hb1 := plc_bd b y
              have hb2 := plc_bd b x
              go_wp2_with (go_at_call 48; refine (indexI_any _ _ b _ _ HSB.out nb).mono ?_; rintro e w' ⟨rfl, rfl⟩)
              go_round
              case rel => exact ⟨k + 1, by omega, by go_num, by rw [later_snoc HY.out hc]; go_num⟩
              case measure => simp [intOf]; omega
            · have hb1 := plc_bd b y
              have hb2 := plc_bd b x
              go_wp2_with (go_at_call 48; refine (indexI_any _ _ b _ _ HSB.out nb).mono ?_; rintro e w' ⟨rfl, rfl⟩)
              go_round
              case rel => exact ⟨k + 1, by omega, by go_num, by rw [later_skip HY.out (by omega)]; go_num⟩
              case measure => simp [intOf]; omega
          · obtain rfl : k = a.length - (j + 1) := by omega
            go_wp2
            go_round
            case rel =>
              refine ⟨j + 1, by omega, by go_num, ?_⟩
              rw [List.take_of_length_le (by rw [HDL.out]; exact Nat.le_refl _), distU, HX.out]
            case measure => simp [intOf]; omega
    · obtain rfl : j = a.length := by omega
      go_wp2
      go_ret
      exact ⟨rfl, rfl⟩

set_option maxHeartbeats 1000000 in
theorem specLadderDistance_any (A B : Option Addr) (c d : Nat) (a b : List Int) (w : World) (ha : SlI w A a) (hca : a.length ≤ c) (hcm : c ≤ maxLen) (hb : SlI w B b) (htwo : twoB a b = true) :
    Calls Try.prog 43 #[.slice A a.length c, .slice B b.length d] w fun e w' => e = .returned (.int .i64 (dist a b : Nat)) ∧ Below w.heap.size w w' := by
  unfold maxLen at hcm
  obtain ⟨la, lb, hlen⟩ := twoB_t htwo
  clear htwo
  have na : a.length ≤ 8 := (ladB_t la).1.2
  have nb8 : b.length ≤ 8 := (ladB_t lb).1.2
  have nb : b.length ≤ 1048576 := by omega
  have hne : ((a.length : Int) != (b.length : Int)) = false := by simp [hlen]
  have LA := Lib.hid la
  have LB := Lib.hid lb
  clear la lb hlen
  have HB0 := Lib.hid hb
  have H1 := Lib.hid (specLadderOk_any A c a w ha (by omega))
  have HA0 := Lib.hid ha
  clear ha hb
  go_enter Try.func43, Try.ntmps43
  go_wp2_with fail
  refine H1.out.mono ?_
  rintro e w1 ⟨rfl, hb1⟩
  rw [LA.out]
  have B1 := Lib.hid hb1
  clear hb1
  go_wp2_with fail
  refine (specLadderOk_any B d b w1 (HB0.out.below B1.out) nb).mono ?_
  rintro e w2 ⟨rfl, hb2⟩
  rw [LB.out]
  have B2 := Lib.hid (B1.out.trans (hb2.mono B1.out.size))
  have HSA := Lib.hid (HA0.out.below B2.out)
  have HSB := Lib.hid (HB0.out.below B2.out)
  clear hb2 HA0 HB0 H1
  go_wp2
  go_loop [5, 27] (fun s i => ∃ j : Nat, j ≤ a.length ∧ i = .int .i64 j ∧ s = .int .i64 (distU a b j : Nat)) (fun _ i => a.length - (intOf i).toNat)
  case atStart => exact ⟨0, Nat.zero_le _, rfl, rfl⟩
  case round =>
    obtain ⟨j, hj, rfl, rfl⟩ := hrel
    have hd := distU_cap (b := b) na hj
    by_cases hlt : j < a.length
    · obtain ⟨b1, o1, x, rfl, hx1, hx2, _⟩ := HSA.out.at_ (k := j) hlt
      have HX : Hid (a.getD j 0 = x) := by show _ = _; simp [List.getD_eq_getElem?_getD, hx1]
      have HSD := Lib.hid (HSA.out.drop_ (j + 1))
      have hdl : (a.drop (j + 1)).length = a.length - (j + 1) := List.length_drop
      have HDL := Lib.hid hdl
      clear hx1 hdl
      by_cases hcj : c = j + 1
      · have hk0 : a.length - (j + 1) = 0 := by omega
        have HD : Hid (distU a b (j + 1) = distU a b j) := by
          show _ = _
          have h := HDL.out
          rw [hk0] at h
          rw [distU, List.eq_nil_of_length_eq_zero h]; rfl
        go_wp2
        go_loop [5, 37] (fun s i => i = .int .i64 0 ∧ s = .int .i64 (distU a b j : Nat)) (fun _ i => 0)
        case atStart => exact ⟨rfl, rfl⟩
        case round =>
          obtain ⟨rfl, rfl⟩ := hrel
          go_wp2
          go_round
          case rel => exact ⟨_, _, _, _, _, ⟨j + 1, by omega, rfl, rfl⟩, by rw [HD.out], rfl, rfl, rfl, by go_num⟩
          case measure => simp [intOf]; omega
      · go_wp2
        go_loop [5, 37] (fun s i => ∃ k : Nat, k ≤ a.length - (j + 1) ∧ i = .int .i64 k ∧ s = .int .i64 ((distU a b j + later b x ((a.drop (j + 1)).take k) : Nat) : Int)) (fun _ i => a.length - (j + 1) - (intOf i).toNat)
        case atStart => exact ⟨0, Nat.zero_le _, rfl, rfl⟩
        case round =>
          obtain ⟨k, hk, rfl, rfl⟩ := hrel
          have hl := later_le b x ((a.drop (j + 1)).take k)
          rw [List.length_take] at hl
          by_cases hk2 : k < a.length - (j + 1)
          · obtain ⟨b2, o2, y, he, hy1, hy2, _⟩ := HSD.out.at_ (k := k) (by rw [HDL.out]; exact hk2)
            injection he with he; injection he with he1 he2
            subst he1; subst he2
            have HY := Lib.hid hy1
            clear hy1
            by_cases hc : plc b y < plc b x
            · have hb1 := plc_bd b y
              have hb2 := plc_bd b x
              go_wp2_with (go_at_call 54; refine (l25Place_any _ _ b _ _ HSB.out nb).mono ?_; rintro e w' ⟨rfl, rfl⟩)
              go_round
              case rel => exact ⟨k + 1, by omega, by go_num, by rw [later_snoc HY.out hc]; go_num⟩
              case measure => simp [intOf]; omega
            · have hb1 := plc_bd b y
              have hb2 := plc_bd b x
              go_wp2_with (go_at_call 54; refine (l25Place_any _ _ b _ _ HSB.out nb).mono ?_; rintro e w' ⟨rfl, rfl⟩)
              go_round
              case rel => exact ⟨k + 1, by omega, by go_num, by rw [later_skip HY.out (by omega)]; go_num⟩
              case measure => simp [intOf]; omega
          · obtain rfl : k = a.length - (j + 1) := by omega
            go_wp2
            go_round
            case rel =>
              refine ⟨j + 1, by omega, by go_num, ?_⟩
              rw [List.take_of_length_le (by rw [HDL.out]; exact Nat.le_refl _), distU, HX.out]
            case measure => simp [intOf]; omega
    · obtain rfl : j = a.length := by omega
      go_wp2
      go_ret
      exact ⟨rfl, B2.out⟩

def betF (a b c : List Int) : Bool := twoB a b && (twoB b c && ((dist a c : Int) == (dist a b : Int) + (dist b c : Int)))
theorem twoB_mk {a b : List Int} (h1 : ladB a = true) (h2 : ladB b = true) (h3 : a.length = b.length) : twoB a b = true := by simp [twoB, h1, h2, h3]
theorem twoB_trans {a b c : List Int} (h1 : twoB a b = true) (h2 : twoB b c = true) : twoB a c = true := twoB_mk (twoB_t h1).1 (twoB_t h2).2.1 ((twoB_t h1).2.2.trans (twoB_t h2).2.2)
theorem twoB_symm {a b : List Int} (h1 : twoB a b = true) : twoB b a = true := twoB_mk (twoB_t h1).2.1 (twoB_t h1).1 (twoB_t h1).2.2.symm
theorem twoB_len {a b : List Int} (h1 : twoB a b = true) : a.length ≤ 8 := (ladB_t (twoB_t h1).1).1.2

set_option maxHeartbeats 1000000 in
theorem implBetweenOrders_std (va : Value) (a : List Int) (vb : Value) (b : List Int) (vc : Value) (c : List Int) (w : World) (ha : InI w va a) (na : a.length ≤ 1048576) (hb : InI w vb b) (nb : b.length ≤ 1048576) (hc : InI w vc c) (nc : c.length ≤ 1048576) :
    Calls Try.prog 21 #[va, vb, vc] w fun e w' => e = .returned (.bool (betF a b c)) ∧ Below w.heap.size w w' := by
  obtain ⟨A, ka, rfl, hka, hma, hsa⟩ := ha
  obtain ⟨B, kb, rfl, hkb, hmb, hsb⟩ := hb
  obtain ⟨C, kc, rfl, hkc, hmc, hsc⟩ := hc
  have H1 := Lib.hid (areOrders_any A B ka kb a b w hsa na hka hsb nb hkb)
  have H2 := Lib.hid (areOrders_any B C kb kc b c w hsb nb hkb hsc nc hkc)
  have HS := Lib.hid (And.intro hsa (And.intro hsb hsc))
  clear hsa hsb hsc
  cases t1 : twoB a b
  · go_enter Try.func21, Try.ntmps21
    go_wp2_with fail
    refine H1.out.mono ?_
    rintro e w1 ⟨rfl, rfl⟩
    rw [t1]
    go_wp2
    go_ret
    exact ⟨by simp [betF, t1], Below.refl _ _⟩
  cases t2 : twoB b c
  · go_enter Try.func21, Try.ntmps21
    go_wp2_with fail
    refine H1.out.mono ?_
    rintro e w1 ⟨rfl, rfl⟩
    rw [t1]
    go_wp2_with fail
    refine H2.out.mono ?_
    rintro e w1 ⟨rfl, rfl⟩
    rw [t2]
    go_wp2
    go_ret
    exact ⟨by simp [betF, t2], Below.refl _ _⟩
  have n1 := twoB_len t1
  have n2 := twoB_len t2
  have d1 := dist_cap (b := c) n1
  have d2 := dist_cap (b := b) n1
  have d3 := dist_cap (b := c) n2
  have HE : Hid (betF a b c = ((dist a c : Int) == (dist a b : Int) + (dist b c : Int))) := by show _ = _; simp [betF, t1, t2]
  have H3 := Lib.hid (ladderDistance_any A C ka kc a c w HS.out.1 n1 hka hma HS.out.2.2 nc)
  have H4 := Lib.hid (ladderDistance_any A B ka kb a b w HS.out.1 n1 hka hma HS.out.2.1 nb)
  have H5 := Lib.hid (ladderDistance_any B C kb kc b c w HS.out.2.1 n2 hkb hmb HS.out.2.2 nc)
  generalize dist a c = p at *
  generalize dist a b = q at *
  generalize dist b c = r at *
  go_enter Try.func21, Try.ntmps21
  go_wp2_with fail
  refine H1.out.mono ?_
  rintro e w1 ⟨rfl, rfl⟩
  rw [t1]
  go_wp2_with fail
  refine H2.out.mono ?_
  rintro e w1 ⟨rfl, rfl⟩
  rw [t2]
  clear H1 H2
  go_wp2_with fail
  refine H3.out.mono ?_
  rintro e w1 ⟨rfl, rfl⟩
  go_wp2_with fail
  refine H4.out.mono ?_
  rintro e w1 ⟨rfl, rfl⟩
  go_wp2_with fail
  refine H5.out.mono ?_
  rintro e w1 ⟨rfl, rfl⟩
  go_wp2
  go_ret
  exact ⟨ret_bool HE.out.symm, Below.refl _ _⟩
end Go.Proofs.Ytnjomfmmnkjhfaa
