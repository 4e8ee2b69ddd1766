/- Parts of a slice of integers. -/
import Derived.Test.YtbipjmaeclgldaaDoorSl
import Derived.Test.YtbipjmaeclgldaaDoorMai
import Derived.Test.YtbipjmaeclgldaaDoorStd
namespace Go.Proofs.YtbipjmaeclgldaaDoor
open Go.ChangeShapes Go.WideShapes Go.ChangeAt Go.RowKit

theorem SlI.drop_ {w : World} {b off : Nat} {xs : List Int} (h : SlI w (some ⟨b, off, none⟩) xs) (k : Nat) : SlI w (some ⟨b, off + k, none⟩) (xs.drop k) := by
  rcases h with rfl | ⟨b', off', he, h⟩
  · exact .inl (by simp)
  · injection he with he; injection he with h1 h2; subst h1; subst h2
    refine .inr ⟨b, off + k, rfl, fun i x hx => ?_⟩
    rw [List.getElem?_drop] at hx
    have := h _ _ hx
    rw [show off + k + i = off + (k + i) from by omega]; exact this
theorem SlI.take_ {w : World} {A : Option Addr} {xs : List Int} (h : SlI w A xs) (k : Nat) : SlI w A (xs.take k) := by
  rcases h with rfl | ⟨b', off', rfl, h⟩
  · exact .inl (by simp)
  · refine .inr ⟨b', off', rfl, fun i x hx => ?_⟩
    rw [List.getElem?_take] at hx
    split at hx
    · exact h _ _ hx
    · cases hx
end Go.Proofs.YtbipjmaeclgldaaDoor
namespace Go.Proofs.YtbipjmaeclgldaaDoor
open Go.ChangeShapes Go.WideShapes Go.ChangeAt Go.RowKit

/-- How many of ys stand ahead of x in b. -/
def later (b : List Int) (x : Int) (ys : List Int) : Nat := ys.countP fun y => decide (plc b y < plc b x)
theorem later_snoc {b ys : List Int} {x y : Int} {k : Nat} (h : ys[k]? = some y) (hc : plc b y < plc b x) : later b x (ys.take (k + 1)) = later b x (ys.take k) + 1 := by
  rw [take_snoc h, later, List.countP_append]; simp [hc, later]
theorem later_skip {b ys : List Int} {x y : Int} {k : Nat} (h : ys[k]? = some y) (hc : ¬ plc b y < plc b x) : later b x (ys.take (k + 1)) = later b x (ys.take k) := by
  rw [take_snoc h, later, List.countP_append]; simp [hc, later]
theorem later_le (b : List Int) (x : Int) (ys : List Int) : later b x ys ≤ ys.length := List.countP_le_length
def distU (a b : List Int) : Nat → Nat
  | 0 => 0
  | j + 1 => distU a b j + later b (a.getD j 0) (a.drop (j + 1))
theorem distU_le (a b : List Int) : ∀ j, distU a b j ≤ j * a.length
  | 0 => by simp [distU]
  | j + 1 => by
    have h1 := distU_le a b j
    have h2 := later_le b (a.getD j 0) (a.drop (j + 1))
    rw [List.length_drop] at h2
    rw [distU, Nat.add_mul]; omega
theorem distU_cap {a b : List Int} {j : Nat} (h : a.length ≤ 8) (hj : j ≤ a.length) : distU a b j ≤ 64 := by
  have h1 := distU_le a b j
  have h2 : j * a.length ≤ 8 * 8 := Nat.mul_le_mul (by omega) h
  omega
/-- The number of pairs that two orders have in other order. -/
def dist (a b : List Int) : Nat := distU a b a.length
theorem dist_cap {a b : List Int} (h : a.length ≤ 8) : dist a b ≤ 64 := distU_cap h (Nat.le_refl _)

set_option maxHeartbeats 1000000 in
theorem ladderDistance_any (A B : Option Addr) (c d : Nat) (a b : List Int) (w : World) (ha : SlI w A a) (na : a.length ≤ 8) (hca : a.length ≤ c) (hcm : c ≤ maxLen) (hb : SlI w B b) (nb : b.length ≤ 1048576) :
    Calls Tryd.prog 34 #[.slice A a.length c, .slice B b.length d] w fun e w' => e = .returned (.int .i64 (dist a b : Nat)) ∧ w = w' := by
  unfold maxLen at hcm
  have HSA := Lib.hid ha
  have HSB := Lib.hid hb
  clear ha hb
  go_enter Tryd.func34, Tryd.ntmps34
  go_wp2
  go_loop [5, 12] (fun s i => ∃ j : Nat, j ≤ a.length ∧ i = .int .i64 j ∧ s = .int .i64 (distU a b j : Nat)) (fun _ i => a.length - (intOf i).toNat)
  case atStart => exact ⟨0, Nat.zero_le _, rfl, rfl⟩
  case round =>
    obtain ⟨j, hj, rfl, rfl⟩ := hrel
    have hd := distU_cap (b := b) na hj
    by_cases hlt : j < a.length
    · obtain ⟨b1, o1, x, rfl, hx1, hx2, _⟩ := HSA.out.at_ (k := j) hlt
      have HX : Hid (a.getD j 0 = x) := by show _ = _; simp [List.getD_eq_getElem?_getD, hx1]
      have HSD := Lib.hid (HSA.out.drop_ (j + 1))
      have hdl : (a.drop (j + 1)).length = a.length - (j + 1) := List.length_drop
      have HDL := Lib.hid hdl
      clear hx1 hdl
      by_cases hcj : c = j + 1
      · have hk0 : a.length - (j + 1) = 0 := by omega
        have HD : Hid (distU a b (j + 1) = distU a b j) := by
          show _ = _
          have h := HDL.out
          rw [hk0] at h
          rw [distU, List.eq_nil_of_length_eq_zero h]; rfl
        go_wp2
        go_loop [5, 22] (fun s i => i = .int .i64 0 ∧ s = .int .i64 (distU a b j : Nat)) (fun _ i => 0)
        case atStart => exact ⟨rfl, rfl⟩
        case round =>
          obtain ⟨rfl, rfl⟩ := hrel
          go_wp2
          go_round
          case rel => exact ⟨_, _, _, _, _, ⟨j + 1, by omega, rfl, rfl⟩, by rw [HD.out], rfl, rfl, rfl, by go_num⟩
          case measure => simp [intOf]; omega
      · go_wp2
        go_loop [5, 22] (fun s i => ∃ k : Nat, k ≤ a.length - (j + 1) ∧ i = .int .i64 k ∧ s = .int .i64 ((distU a b j + later b x ((a.drop (j + 1)).take k) : Nat) : Int)) (fun _ i => a.length - (j + 1) - (intOf i).toNat)
        case atStart => exact ⟨0, Nat.zero_le _, rfl, rfl⟩
        case round =>
          obtain ⟨k, hk, rfl, rfl⟩ := hrel
          have hl := later_le b x ((a.drop (j + 1)).take k)
          rw [List.length_take] at hl
          by_cases hk2 : k < a.length - (j + 1)
          · obtain ⟨b2, o2, y, he, hy1, hy2, _⟩ := HSD.out.at_ (k := k) (by rw [HDL.out]; exact hk2)
            injection he with he; injection he with he1 he2
            subst he1; subst he2
            have HY := Lib.hid hy1
            clear hy1
            by_cases hc : plc b y < plc b x
            · have hb1 := plc_bd b y
              have hb2 := plc_bd b x
              go_wp2_with (go_at_call 44; refine (indexI_any _ _ b _ _ HSB.out nb).mono ?_; rintro e w' ⟨rfl, rfl⟩)
              go_round
              case rel => exact ⟨k + 1, by omega, by go_num, by rw [later_snoc HY.out hc]; go_num⟩
              case measure => simp [intOf]; omega
            · have hb1 := plc_bd b y
              have hb2 := plc_bd b x
              go_wp2_with (go_at_call 44; refine (indexI_any _ _ b _ _ HSB.out nb).mono ?_; rintro e w' ⟨rfl, rfl⟩)
              go_round
              case rel => exact ⟨k + 1, by omega, by go_num, by rw [later_skip HY.out (by omega)]; go_num⟩
              case measure => simp [intOf]; omega
          · obtain rfl : k = a.length - (j + 1) := by omega
            go_wp2
            go_round
            case rel =>
              refine ⟨j + 1, by omega, by go_num, ?_⟩
              rw [List.take_of_length_le (by rw [HDL.out]; exact Nat.le_refl _), distU, HX.out]
            case measure => simp [intOf]; omega
    · obtain rfl : j = a.length := by omega
      go_wp2
      go_ret
      exact ⟨rfl, rfl⟩

theorem twoB_mk {a b : List Int} (h1 : ladB a = true) (h2 : ladB b = true) (h3 : a.length = b.length) : twoB a b = true := by simp [twoB, h1, h2, h3]
end Go.Proofs.YtbipjmaeclgldaaDoor
namespace Go.Proofs.YtbipjmaeclgldaaDoor
open Go.ChangeShapes Go.WideShapes Go.ChangeAt Go.RowKit

def idxs (n : Nat) : List Int := (List.range n).map (fun (i : Nat) => (i : Int))
theorem idxs_mem {n : Nat} {x : Int} : x ∈ idxs n ↔ 0 ≤ x ∧ x < n := by
  simp only [idxs, List.mem_map, List.mem_range]
  constructor
  · rintro ⟨a, h, rfl⟩; omega
  · intro h; exact ⟨x.toNat, by omega, by omega⟩
end Go.Proofs.YtbipjmaeclgldaaDoor
