/- Comparisons of orders: contracts. -/
import Derived.Test.YtnjomfmmnkjhfaaPerm
namespace Go.Proofs.Ytnjomfmmnkjhfaa
open Go.ChangeShapes Go.WideShapes Go.ChangeAt Go.RowKit

def invU (a : List Int) (j : Nat) : List Int := (upto a.length).map fun v => if 0 ≤ plc a v ∧ plc a v < j then plc a v else 0
theorem invU_length (a : List Int) (j : Nat) : (invU a j).length = a.length := by simp [invU, upto_length]
theorem invU_zero (a : List Int) : invU a 0 = List.replicate a.length 0 := by
  apply List.ext_getElem?
  intro k
  by_cases h : k < a.length
  · have : ¬ (0 ≤ plc a k ∧ plc a k < ((0 : Nat) : Int)) := by omega
    simp only [invU, List.getElem?_map, upto_get h, Option.map_some, List.getElem?_replicate, h, if_true, if_neg this]
  · rw [List.getElem?_eq_none (by rw [invU_length]; omega), List.getElem?_eq_none (by simp; omega)]
theorem invU_all {a : List Int} (h : ladB a = true) : invU a a.length = invL a := by
  unfold invU invL
  refine List.map_congr_left fun v hv => ?_
  obtain ⟨h1, h2⟩ := mem_upto.1 hv
  have hm := ladB_mem h (v := v.toNat) (by omega)
  rw [Int.toNat_of_nonneg h1] at hm
  have := plc_mem hm
  rw [if_pos ⟨this.1, this.2.1⟩]
theorem invU_set {a : List Int} (h : ladB a = true) {j v : Nat} (hx : a[j]? = some (v : Int)) : (invU a j).set v (j : Int) = invU a (j + 1) := by
  have hd := (ladB_t h).2.2
  have hp := plc_at hd hx
  apply List.ext_getElem?
  intro k
  by_cases hk : k < a.length
  · by_cases hkv : v = k
    · subst hkv
      rw [List.getElem?_set_self (by rw [invU_length]; exact hk)]
      simp only [invU, List.getElem?_map, upto_get hk, Option.map_some, hp]
      rw [if_pos ⟨by omega, by omega⟩]
    · rw [List.getElem?_set_ne hkv]
      have hm := plc_mem (ladB_mem h hk)
      have hne : plc a k ≠ (j : Int) := by
        intro e
        have h2 := hm.2.2
        rw [e, Int.toNat_natCast, hx] at h2
        injection h2 with h2
        omega
      simp only [invU, List.getElem?_map, upto_get hk, Option.map_some]
      by_cases hc : 0 ≤ plc a k ∧ plc a k < (j : Int)
      · rw [if_pos hc, if_pos ⟨hc.1, by omega⟩]
      · rw [if_neg hc, if_neg (by omega)]
  · rw [List.getElem?_eq_none (by rw [List.length_set, invU_length]; omega), List.getElem?_eq_none (by rw [invU_length]; omega)]

set_option maxHeartbeats 1000000 in
theorem inverse_any (A : Option Addr) (c : Nat) (a : List Int) (w : World) (hs : SlI w A a) (hlad : ladB a = true) :
    Calls Try.prog 37 #[.slice A a.length c] w fun e w' => ∃ v', e = .returned v' ∧ Fr w' w.heap.size w'.heap.size v' (invL a) ∧ Below w.heap.size w w' := by
  have HS := Lib.hid hs
  clear hs
  have hl8 := (ladB_t hlad).1
  have hbd := (ladB_t hlad).2.1
  have HLAD := Lib.hid hlad
  have HBD := Lib.hid hbd
  clear hlad hbd
  go_enter Try.func37, Try.ntmps37
  go_wp2_with (at_make; refine makeI rfl _ _ rfl w a.length rfl rfl (by omega) ?_; intro w1 hfr hb hsz)
  have HF := Lib.hid (hfr.wide (Nat.le_refl _) (Nat.le_refl _) (Nat.le_refl _))
  have HB := Lib.hid (hb)
  have HG : Hid (w.heap.size ≤ w.heap.size) := Nat.le_refl _
  clear hfr hb hsz
  go_loopw [11] (fun i wr => ∃ j : Nat, j ≤ a.length ∧ i = .int .i64 j ∧ Hid (Fr wr w.heap.size wr.heap.size (.slice (some ⟨w.heap.size, 0, none⟩) a.length a.length) (invU a j) ∧ Below w.heap.size w wr)) (fun i _ => a.length - (intOf i).toNat)
  case atStart => exact ⟨0, Nat.zero_le _, rfl, by rw [invU_zero]; exact HF.out, HB.out⟩
  case round =>
    obtain ⟨j, hj, rfl, HR⟩ := hrel
    clear HF HB
    by_cases hlt : j < a.length
    · obtain ⟨b, off, x, rfl, hx1, hx2, _⟩ := (HS.out.below HR.out.2).at_ (k := j) hlt
      obtain ⟨x1, x2⟩ := HBD.out x (List.mem_of_getElem? hx1)
      obtain ⟨v, rfl⟩ := Int.eq_ofNat_of_zero_le x1
      obtain ⟨g, y, hg, h1, h2, h3, h4, h5, h6⟩ := HR.out.1.at_ (k := v) (by rw [invU_length]; omega)
      obtain rfl : w.heap.size = g := by injection hg with hg; injection hg
      have HST := Lib.hid (h6 (j : Int))
      have HSET := Lib.hid (invU_set HLAD.out hx1)
      clear h6 h3 hg hx1
      go_wp2
      go_roundw
      case rel =>
        refine ⟨j + 1, by omega, by go_num, ?_, HR.out.2.trans (HST.out.2.below (Nat.le_refl _) HR.out.2.size)⟩
        have h := HST.out.1
        rw [HSET.out] at h
        exact h.wide (Nat.le_refl _) HST.out.2.size (Nat.le_refl _)
      case measure => simp [intOf]; omega
    · obtain rfl : j = a.length := by omega
      go_wp2
      go_ret
      have h := HR.out.1
      rw [invU_all HLAD.out] at h
      exact ⟨_, rfl, h, HR.out.2⟩

def inverseF (a : List Int) : List Int := if ladB a then invL a else []
theorem inverseF_len {a : List Int} (h : a.length ≤ 1048576) : (inverseF a).length ≤ 1048576 := by
  unfold inverseF; split
  · rw [invL_length]; exact h
  · simp

theorem implInverseOrder_std (va : Value) (a : List Int) (w : World) (ha : InI w va a) (na : a.length ≤ 1048576) :
    Calls Try.prog 18 #[va] w fun e w' => ∃ v', e = .returned v' ∧ Fr w' w.heap.size w'.heap.size v' (inverseF a) ∧ Below w.heap.size w w' := by
  obtain ⟨A, c, rfl, hc, _, hs⟩ := ha
  have HL := Lib.hid (implLadderOk_any A c a w hs na hc)
  have HS := Lib.hid hs
  clear hs
  cases h : ladB a
  · go_enter Try.func18, Try.ntmps18
    go_wp2_with fail
    refine HL.out.mono ?_
    rintro e w1 ⟨rfl, rfl⟩
    rw [h]
    go_wp2
    go_ret
    exact ⟨_, rfl, by rw [show inverseF a = [] from by simp [inverseF, h]]; exact Fr.nil _ (Nat.le_refl _), Below.refl _ _⟩
  · have HE : Hid (inverseF a = invL a) := by show _ = _; simp [inverseF, h]
    go_enter Try.func18, Try.ntmps18
    go_wp2_with fail
    refine HL.out.mono ?_
    rintro e w1 ⟨rfl, rfl⟩
    have HI := Lib.hid (inverse_any A c a w HS.out h)
    rw [h]
    go_wp2_with fail
    refine HI.out.mono ?_
    rintro e w1 ⟨v', rfl, hf, hb⟩
    have HF := Lib.hid hf
    have HB := Lib.hid hb
    clear hf hb
    go_wp2
    go_ret
    exact ⟨_, rfl, by rw [HE.out]; exact HF.out, HB.out⟩

def compL (a b : List Int) : List Int := b.map fun x => a.getD x.toNat 0
theorem compL_length (a b : List Int) : (compL a b).length = b.length := by simp [compL]
theorem compL_snoc {a b : List Int} {j v : Nat} {y : Int} (hv : b[j]? = some (v : Int)) (hy : a[v]? = some y) : compL a (b.take (j + 1)) = compL a (b.take j) ++ [y] := by
  rw [take_snoc hv]; simp [compL, List.getD_eq_getElem?_getD, hy]
def composeF (a b : List Int) : List Int := if twoB a b then compL a b else []
theorem composeF_len {a b : List Int} (h : b.length ≤ 1048576) : (composeF a b).length ≤ 1048576 := by
  unfold composeF; split
  · rw [compL_length]; exact h
  · simp

set_option maxHeartbeats 1000000 in
theorem implComposeOrders_std (va : Value) (a : List Int) (vb : Value) (b : List Int) (w : World) (ha : InI w va a) (na : a.length ≤ 1048576) (hb : InI w vb b) (nb : b.length ≤ 1048576) :
    Calls Try.prog 19 #[va, vb] w fun e w' => ∃ v', e = .returned v' ∧ Fr w' w.heap.size w'.heap.size v' (composeF a b) ∧ Below w.heap.size w w' := by
  obtain ⟨A, c, rfl, hca, _, hsa⟩ := ha
  obtain ⟨B, d, rfl, hcb, _, hsb⟩ := hb
  have HL := Lib.hid (areOrders_any A B c d a b w hsa na hca hsb nb hcb)
  have HSA := Lib.hid hsa
  have HSB := Lib.hid hsb
  clear hsa hsb
  cases htwo : twoB a b
  · go_enter Try.func19, Try.ntmps19
    go_wp2_with fail
    refine HL.out.mono ?_
    rintro e w0 ⟨rfl, rfl⟩
    rw [htwo]
    have HB0 : Hid (Below w.heap.size w w) := Below.refl _ _
    go_wp2
    go_ret
    exact ⟨_, rfl, by rw [show composeF a b = [] from by simp [composeF, htwo]]; exact Fr.nil _ (Nat.le_refl _), HB0.out⟩
  · have HE : Hid (composeF a b = compL a b) := by show _ = _; simp [composeF, htwo]
    obtain ⟨la, lb, hlen⟩ := twoB_t htwo
    have hl8 := (ladB_t lb).1
    have HBD := Lib.hid (ladB_t lb).2.1
    have HLEN := Lib.hid hlen
    clear la lb hlen
    go_enter Try.func19, Try.ntmps19
    go_wp2_with fail
    refine HL.out.mono ?_
    rintro e w0 ⟨rfl, rfl⟩
    rw [htwo]
    have HB0 : Hid (Below w.heap.size w w) := Below.refl _ _
    go_wp2
    go_loopw [5, 14] (fun v i wr => ∃ (j : Nat) (fv : Value), j ≤ b.length ∧ i = .int .i64 j ∧ fv = v ∧ Hid (wr.ownsRow w.heap.size 3 1 fv j (ints (compL a (b.take j))) ∧ Below w.heap.size w wr)) (fun _ i _ => b.length - (intOf i).toNat)
    case atStart => exact ⟨0, _, Nat.zero_le _, rfl, rfl, World.ownsRow_nil _ _ _ _, HB0.out⟩
    case round =>
      obtain ⟨j, fv, hj, rfl, rfl, HR⟩ := hrel
      clear HB0
      by_cases hlt : j < b.length
      · obtain ⟨b1, o1, x, rfl, hx1, hx2, _⟩ := (HSB.out.below HR.out.2).at_ (k := j) hlt
        obtain ⟨x1, x2⟩ := HBD.out x (List.mem_of_getElem? hx1)
        obtain ⟨v, rfl⟩ := Int.eq_ofNat_of_zero_le x1
        have hva : v < a.length := by have := HLEN.out; omega
        obtain ⟨b2, o2, y, rfl, hy1, hy2, _⟩ := (HSA.out.below HR.out.2).at_ (k := v) hva
        have HSN := Lib.hid (compL_snoc hx1 hy1)
        clear hx1 hy1
        go_wp2_with (at_builtin; refine app1 rfl _ _ rfl wr w.heap.size fv j _ rfl HR.out.1 y rfl (by omega) HR.out.2.size ?_; intro v' w2 hown2 hb2 hsz2 _)
        have HO2 := Lib.hid hown2
        have HB2 := Lib.hid (HR.out.2.trans (hb2 w.heap.size (Nat.le_refl _) HR.out.2.size))
        clear hown2 hb2 hsz2
        go_wp2
        go_roundw
        case rel => exact ⟨j + 1, v', by omega, by go_num, rfl, by rw [HSN.out]; exact HO2.out, HB2.out⟩
        case measure => simp [intOf]; omega
      · obtain rfl : j = b.length := by omega
        have hown := HR.out.1
        rw [List.take_of_length_le (Nat.le_refl _)] at hown
        have HF : Hid (Fr wr w.heap.size wr.heap.size fv (compL a b)) := Fr.of_own (by rw [compL_length]; exact hown)
        clear hown
        go_wp2
        go_ret
        exact ⟨_, rfl, by rw [HE.out]; exact HF.out, HR.out.2⟩
end Go.Proofs.Ytnjomfmmnkjhfaa
