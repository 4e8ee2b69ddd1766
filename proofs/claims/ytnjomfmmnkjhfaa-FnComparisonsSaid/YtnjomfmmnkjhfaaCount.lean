/- How many orders have so many pairs in other order: contracts. -/
import Derived.Test.YtnjomfmmnkjhfaaStd
import Derived.Test.YtnjomfmmnkjhfaaNum
namespace Go.Proofs.Ytnjomfmmnkjhfaa
open Go.ChangeShapes Go.WideShapes Go.ChangeAt Go.RowKit

theorem below_drew {B : Nat} {a w : World} (h : Below B a w) : Below B a w.drew := ⟨h.os, h.tape, h.output, h.size, h.block⟩
def sumD (L : List Int) (x : Nat) : Nat → Int
  | 0 => 0
  | y + 1 => sumD L x y + L.getD (x - y) 0
def nextP (L : List Int) (k x y p : Nat) : Int := if p < x then sumD L p (min k (p + 1)) else if p = x then sumD L x y else 0
def nextU (L : List Int) (k x y : Nat) : List Int := (List.range 29).map (nextP L k x y)
def cnt : Nat → List Int
  | 0 => 1 :: List.replicate 28 0
  | j + 1 => nextU (cnt j) (j + 2) 29 0
theorem nextU_length (L : List Int) (k x y : Nat) : (nextU L k x y).length = 29 := by simp [nextU]
theorem nextU_nth {L : List Int} {k x y p : Nat} (h : p < 29) : (nextU L k x y)[p]? = some (nextP L k x y p) := by simp [nextU, h]
theorem nextU_get {L : List Int} {k x y : Nat} (h : x < 29) : (nextU L k x y)[x]? = some (sumD L x y) := by rw [nextU_nth h]; simp [nextP]
theorem cnt_length : ∀ j, (cnt j).length = 29
  | 0 => rfl
  | _ + 1 => nextU_length _ _ _ _
theorem nextU_ext {L M : List Int} {k x y k' x' y' : Nat} (h : ∀ p, p < 29 → nextP L k x y p = nextP M k' x' y' p) : nextU L k x y = nextU M k' x' y' := by
  unfold nextU; exact List.map_congr_left fun p hp => h p (List.mem_range.1 hp)
theorem nextU_zero (L : List Int) (k : Nat) : nextU L k 0 0 = List.replicate 29 0 := by
  apply List.ext_getElem?
  intro p
  by_cases h : p < 29
  · rw [nextU_nth h, List.getElem?_replicate, if_pos h]
    unfold nextP
    rw [if_neg (Nat.not_lt_zero _)]
    split <;> rfl
  · rw [List.getElem?_eq_none (by rw [nextU_length]; omega), List.getElem?_eq_none (by simp; omega)]
theorem nextU_set {L : List Int} {k x y : Nat} : (nextU L k x y).set x (sumD L x y + L.getD (x - y) 0) = nextU L k x (y + 1) := by
  apply List.ext_getElem?
  intro p
  by_cases h : p < 29
  · rw [nextU_nth h]
    by_cases hp : x = p
    · subst hp
      rw [List.getElem?_set_self (by rw [nextU_length]; exact h)]
      simp [nextP, sumD]
    · rw [List.getElem?_set_ne hp, nextU_nth h]
      unfold nextP
      rw [if_neg (show ¬ p = x from fun e => hp e.symm), if_neg (show ¬ p = x from fun e => hp e.symm)]
  · rw [List.getElem?_eq_none (by rw [List.length_set, nextU_length]; omega), List.getElem?_eq_none (by rw [nextU_length]; omega)]
theorem nextU_roll {L : List Int} {k x : Nat} : nextU L k x (min k (x + 1)) = nextU L k (x + 1) 0 := by
  refine nextU_ext fun p _ => ?_
  unfold nextP
  rcases Nat.lt_trichotomy p x with h | h | h
  · rw [if_pos h, if_pos (by omega)]
  · subst h; rw [if_neg (Nat.lt_irrefl _), if_pos rfl, if_pos (by omega)]
  · rw [if_neg (by omega), if_neg (by omega), if_neg (by omega)]
    split <;> rfl
theorem nextU_roll' {L : List Int} {k x m : Nat} (h : m = min k (x + 1)) : nextU L k x m = nextU L k (x + 1) 0 := by subst h; exact nextU_roll
def small (M : Int) (L : List Int) : Prop := ∀ p, 0 ≤ L.getD p 0 ∧ L.getD p 0 ≤ M
theorem sumD_bd {M : Int} {L : List Int} (h : small M L) (x : Nat) : ∀ y : Nat, 0 ≤ sumD L x y ∧ sumD L x y ≤ y * M
  | 0 => by simp [sumD]
  | y + 1 => by
    have h1 := sumD_bd h x y
    have h2 := h (x - y)
    rw [sumD]; push_cast; rw [Int.add_mul]; omega
theorem sumD_cap {M : Int} (hM : 0 ≤ M) {L : List Int} (h : small M L) (x : Nat) {y : Nat} (hy : y ≤ 8) : 0 ≤ sumD L x y ∧ sumD L x y ≤ 8 * M := by
  have h1 := sumD_bd h x y
  have h2 : (y : Int) * M ≤ 8 * M := Int.mul_le_mul_of_nonneg_right (by omega) hM
  omega
theorem cnt_small : ∀ j : Nat, j ≤ 7 → small (8 ^ j) (cnt j)
  | 0, _ => by
    intro p
    match p with
    | 0 => exact ⟨by decide, by decide⟩
    | p + 1 =>
      have e : (cnt 0).getD (p + 1) 0 = 0 := by
        show ((1 : Int) :: List.replicate 28 0).getD (p + 1) 0 = 0
        rw [List.getD_cons_succ, List.getD_eq_getElem?_getD, List.getElem?_replicate]
        split <;> rfl
      rw [e]; exact ⟨by decide, by decide⟩
  | j + 1, hj => by
    intro p
    have h := cnt_small j (by omega)
    have hM : (0 : Int) ≤ 8 ^ j := by
      have : (0 : Int) < 8 ^ j := Int.pow_pos (by decide)
      omega
    rw [Int.pow_succ]
    show 0 ≤ (nextU (cnt j) (j + 2) 29 0).getD p 0 ∧ (nextU (cnt j) (j + 2) 29 0).getD p 0 ≤ _
    rw [List.getD_eq_getElem?_getD]
    by_cases hp : p < 29
    · rw [nextU_nth hp]
      have := sumD_cap hM h p (y := min (j + 2) (p + 1)) (by omega)
      have e : nextP (cnt j) (j + 2) 29 0 p = sumD (cnt j) p (min (j + 2) (p + 1)) := by unfold nextP; rw [if_pos hp]
      rw [Option.getD_some, e]; omega
    · rw [List.getElem?_eq_none (by rw [nextU_length]; omega)]
      simp only [Option.getD_none]; omega
theorem cnt_cap {j : Nat} (hj : j ≤ 7) : small 2097152 (cnt j) := by
  intro p
  have h := cnt_small j hj p
  have h2 : 8 ^ j ≤ 8 ^ 7 := Nat.pow_le_pow_right (by omega) hj
  have h3 : (8 : Int) ^ j ≤ 8 ^ 7 := by exact_mod_cast h2
  omega
def countF (n d : Int) : Int := if inB n 1 8 && inB d 0 28 then (cnt (n.toNat - 1)).getD d.toNat 0 else -1

set_option maxHeartbeats 4000000 in
set_option maxRecDepth 100000 in
theorem implCountAt_std (n d : Int) (w : World) (_hn : (Lit.int .i64 n).wf = true) (_hd : (Lit.int .i64 d).wf = true) :
    Calls Try.prog 22 #[.int .i64 n, .int .i64 d] w fun e w' => e = .returned (.int .i64 (countF n d)) ∧ Below w.heap.size w w' := by
  cases h1 : inB n 1 8
  case false =>
    go_enter Try.func22, Try.ntmps22
    go_wp2_with (go_at_call 39; refine (within_any _ _ _ _).mono ?_; rintro e w' ⟨rfl, rfl⟩)
    go_ret
    exact ⟨by simp [countF, h1], Below.refl _ _⟩
  cases h2 : inB d 0 28
  case false =>
    go_enter Try.func22, Try.ntmps22
    go_wp2_with (go_at_call 39; refine (within_any _ _ _ _).mono ?_; rintro e w' ⟨rfl, rfl⟩)
    go_ret
    exact ⟨by simp [countF, h2], Below.refl _ _⟩
  have HE : Hid (countF n d = (cnt (n.toNat - 1)).getD d.toNat 0) := by show _ = _; simp [countF, h1, h2]
  obtain ⟨n1, n2⟩ := inB_t.1 h1
  obtain ⟨d1, d2⟩ := inB_t.1 h2
  obtain ⟨n, rfl⟩ := Int.eq_ofNat_of_zero_le (show 0 ≤ n by omega)
  obtain ⟨d, rfl⟩ := Int.eq_ofNat_of_zero_le d1
  rw [Int.toNat_natCast, Int.toNat_natCast] at HE
  go_enter Try.func22, Try.ntmps22
  go_wp2_with (first | (go_at_call 39; refine (within_any _ _ _ _).mono ?_; rintro e w' ⟨rfl, rfl⟩) | (at_make; refine makeI rfl _ _ rfl w 29 rfl rfl (by omega) ?_; intro w1 hfr hb hsz; obtain ⟨g, x0, hg, q1, q2, q3, q4, q5, q6⟩ := hfr.at_ (k := 0) (by simp); obtain rfl : w.heap.size = g := congrArg Addr.block (Option.some.inj hg); have HST := Lib.hid (q6 1); have HB := Lib.hid hb; clear q6 q3 hg hb hfr))
  have HW : Hid (SlI (w1.setCell ⟨w.heap.size, 0, none⟩ (.int .i64 1)) (some ⟨w.heap.size, 0, none⟩) (cnt 0) ∧ Below w.heap.size w (w1.setCell ⟨w.heap.size, 0, none⟩ (.int .i64 1))) :=
    ⟨HST.out.1.sl, HB.out.trans (HST.out.2.below (Nat.le_refl _) HB.out.size)⟩
  clear HST HB
  generalize w1.setCell ⟨w.heap.size, 0, none⟩ (.int .i64 1) = w2 at *
  go_loopw [5, 6] (fun v i wr => ∃ (j g : Nat), j + 1 ≤ n ∧ i = .int .i64 ((j : Int) + 2) ∧ v = .slice (some ⟨g, 0, none⟩) 29 29 ∧ Hid (SlI wr (some ⟨g, 0, none⟩) (cnt j) ∧ Below w.heap.size w wr)) (fun _ i _ => n + 2 - (intOf i).toNat)
  case atStart => exact ⟨0, _, by omega, rfl, rfl, HW.out⟩
  case round =>
    obtain ⟨j, g, hj, rfl, rfl, HR⟩ := hrel
    clear HW
    obtain ⟨wo, rfl⟩ : ∃ W, W = wr := ⟨wr, rfl⟩
    by_cases hlt : j + 2 ≤ n
    case neg =>
      obtain rfl : n = j + 1 := by omega
      obtain ⟨b1, o1, z, he, hz1, hz2, _⟩ := HR.out.1.at_ (k := d) (by rw [cnt_length]; omega)
      injection he with he; injection he with he1 he2
      subst he1; subst he2
      rw [Nat.zero_add] at hz2
      have HZ := Lib.hid hz1
      clear hz1
      go_wp2
      go_ret
      exact ⟨ret_int (by have e := HE.out; push_cast at e; rw [e, List.getD_eq_getElem?_getD, HZ.out]; rfl), HR.out.2⟩
    have hsm := cnt_cap (j := j) (by omega)
    have HSM := Lib.hid hsm
    clear hsm
    go_wp2_with (at_make; refine makeI rfl _ _ rfl wo 29 rfl rfl (by omega) ?_; intro w3 hfr hb hsz)
    have HF := Lib.hid hfr
    have HB := Lib.hid hb
    clear hfr hb hsz
    go_loopw [29] (fun i wx => ∃ x : Nat, x ≤ 29 ∧ i = .int .i64 x ∧ Hid (Fr wx wo.heap.size wx.heap.size (.slice (some ⟨wo.heap.size, 0, none⟩) 29 29) (nextU (cnt j) (j + 2) x 0) ∧ Below wo.heap.size wo wx)) (fun i _ => 29 - (intOf i).toNat)
    case atStart => exact ⟨0, by omega, rfl, by rw [nextU_zero]; exact HF.out, HB.out⟩
    case round =>
      obtain ⟨x, hx, rfl, HX⟩ := hrel
      clear HF HB
      by_cases hx2 : x < 29
      case neg =>
        obtain rfl : x = 29 := by omega
        go_wp2
        go_roundw
        case rel => exact ⟨j + 1, _, by omega, by go_num, rfl, HX.out.1.sl, HR.out.2.trans (HX.out.2.mono HR.out.2.size)⟩
        case measure => simp [intOf]; omega
      have dx : decide ((x : Int) < 29) = true := by simp; omega
      by_cases hm : j + 2 ≤ x + 1
      · go_wp2
        go_loopw [36] (fun i wy => ∃ y : Nat, y ≤ (j + 2) ∧ i = .int .i64 y ∧ Hid (Fr wy wo.heap.size wy.heap.size (.slice (some ⟨wo.heap.size, 0, none⟩) 29 29) (nextU (cnt j) (j + 2) x y) ∧ Below wo.heap.size wo wy)) (fun i _ => (j + 2) - (intOf i).toNat)
        case atStart => exact ⟨0, by omega, rfl, HX.out⟩
        case round =>
          obtain ⟨y, hy, rfl, HY⟩ := hrel
          clear HX
          by_cases hy2 : y < (j + 2)
          case neg =>
            obtain rfl : y = (j + 2) := by omega
            have HN : Hid (Fr wr wo.heap.size wr.heap.size (.slice (some ⟨wo.heap.size, 0, none⟩) 29 29) (nextU (cnt j) (j + 2) (x + 1) 0) ∧ Below wo.heap.size wo wr) := by
              have h := HY.out
              rw [nextU_roll' (L := cnt j) (k := j + 2) (x := x) (m := (j + 2)) (by omega)] at h
              exact h
            go_wp2
            go_roundw
            case rel => exact ⟨x + 1, by omega, by go_num, HN.out⟩
            case measure => simp [intOf]; omega
          have hy3 : y < j + 2 := by omega
          have hy4 : y ≤ x := by omega
          obtain ⟨b1, o1, z, he, hz1, hz2, _⟩ := (HR.out.1.below HY.out.2).at_ (k := x - y) (by rw [cnt_length]; omega)
          injection he with he; injection he with he1 he2
          subst he1; subst he2
          rw [Nat.zero_add] at hz2
          obtain ⟨g2, s, hg2, q1, q2, q3, q4, q5, q6⟩ := HY.out.1.at_ (k := x) (by rw [nextU_length]; exact hx2)
          obtain rfl : wo.heap.size = g2 := congrArg Addr.block (Option.some.inj hg2)
          rw [nextU_get hx2] at q3
          injection q3 with q3
          have hs := sumD_cap (by omega) HSM.out x (y := y) (by omega)
          rw [q3] at hs
          have hz := HSM.out (x - y)
          have hzz : (cnt j).getD (x - y) 0 = z := by rw [List.getD_eq_getElem?_getD, hz1]; rfl
          rw [hzz] at hz
          have HST : Hid (Fr (wr.setCell ⟨wo.heap.size, x, none⟩ (.int .i64 (s + z))) wo.heap.size (wr.setCell ⟨wo.heap.size, x, none⟩ (.int .i64 (s + z))).heap.size (.slice (some ⟨wo.heap.size, 0, none⟩) 29 29) (nextU (cnt j) (j + 2) x (y + 1)) ∧ Below wo.heap.size wo (wr.setCell ⟨wo.heap.size, x, none⟩ (.int .i64 (s + z)))) := by
            have h := q6 (s + z)
            rw [← q3, ← hzz, nextU_set, q3, hzz] at h
            exact ⟨h.1.wide (Nat.le_refl _) h.2.size (Nat.le_refl _), HY.out.2.trans (h.2.below (Nat.le_refl _) HY.out.2.size)⟩
          clear q6 q3 hg2 hz1 hzz
          go_wp2
          go_region
          all_goals go_wp2
          all_goals go_roundw
          all_goals first | exact ⟨y + 1, by omega, by go_num, HST.out.1, below_drew HST.out.2⟩ | ((repeat (apply Exists.intro)); refine ⟨?_, rfl⟩; exact ⟨y + 1, by omega, by go_num, HST.out.1, below_drew HST.out.2⟩) | (simp [intOf]; omega)
      · go_wp2
        go_loopw [36] (fun i wy => ∃ y : Nat, y ≤ (x + 1) ∧ i = .int .i64 y ∧ Hid (Fr wy wo.heap.size wy.heap.size (.slice (some ⟨wo.heap.size, 0, none⟩) 29 29) (nextU (cnt j) (j + 2) x y) ∧ Below wo.heap.size wo wy)) (fun i _ => (x + 1) - (intOf i).toNat)
        case atStart => exact ⟨0, by omega, rfl, HX.out⟩
        case round =>
          obtain ⟨y, hy, rfl, HY⟩ := hrel
          clear HX
          by_cases hy2 : y < (x + 1)
          case neg =>
            obtain rfl : y = (x + 1) := by omega
            have HN : Hid (Fr wr wo.heap.size wr.heap.size (.slice (some ⟨wo.heap.size, 0, none⟩) 29 29) (nextU (cnt j) (j + 2) (x + 1) 0) ∧ Below wo.heap.size wo wr) := by
              have h := HY.out
              rw [nextU_roll' (L := cnt j) (k := j + 2) (x := x) (m := (x + 1)) (by omega)] at h
              exact h
            go_wp2
            go_roundw
            case rel => exact ⟨x + 1, by omega, by go_num, HN.out⟩
            case measure => simp [intOf]; omega
          have hy3 : y < j + 2 := by omega
          have hy4 : y ≤ x := by omega
          obtain ⟨b1, o1, z, he, hz1, hz2, _⟩ := (HR.out.1.below HY.out.2).at_ (k := x - y) (by rw [cnt_length]; omega)
          injection he with he; injection he with he1 he2
          subst he1; subst he2
          rw [Nat.zero_add] at hz2
          obtain ⟨g2, s, hg2, q1, q2, q3, q4, q5, q6⟩ := HY.out.1.at_ (k := x) (by rw [nextU_length]; exact hx2)
          obtain rfl : wo.heap.size = g2 := congrArg Addr.block (Option.some.inj hg2)
          rw [nextU_get hx2] at q3
          injection q3 with q3
          have hs := sumD_cap (by omega) HSM.out x (y := y) (by omega)
          rw [q3] at hs
          have hz := HSM.out (x - y)
          have hzz : (cnt j).getD (x - y) 0 = z := by rw [List.getD_eq_getElem?_getD, hz1]; rfl
          rw [hzz] at hz
          have HST : Hid (Fr (wr.setCell ⟨wo.heap.size, x, none⟩ (.int .i64 (s + z))) wo.heap.size (wr.setCell ⟨wo.heap.size, x, none⟩ (.int .i64 (s + z))).heap.size (.slice (some ⟨wo.heap.size, 0, none⟩) 29 29) (nextU (cnt j) (j + 2) x (y + 1)) ∧ Below wo.heap.size wo (wr.setCell ⟨wo.heap.size, x, none⟩ (.int .i64 (s + z)))) := by
            have h := q6 (s + z)
            rw [← q3, ← hzz, nextU_set, q3, hzz] at h
            exact ⟨h.1.wide (Nat.le_refl _) h.2.size (Nat.le_refl _), HY.out.2.trans (h.2.below (Nat.le_refl _) HY.out.2.size)⟩
          clear q6 q3 hg2 hz1 hzz
          go_wp2
          go_region
          all_goals go_wp2
          all_goals go_roundw
          all_goals first | exact ⟨y + 1, by omega, by go_num, HST.out.1, below_drew HST.out.2⟩ | ((repeat (apply Exists.intro)); refine ⟨?_, rfl⟩; exact ⟨y + 1, by omega, by go_num, HST.out.1, below_drew HST.out.2⟩) | (simp [intOf]; omega)
end Go.Proofs.Ytnjomfmmnkjhfaa
