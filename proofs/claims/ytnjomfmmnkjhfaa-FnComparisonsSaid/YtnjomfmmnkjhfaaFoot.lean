/- The footrule of two orders: contracts. -/
import Derived.Test.YtnjomfmmnkjhfaaDist
import Derived.Deep.QuietTactic
namespace Go.Proofs.Ytnjomfmmnkjhfaa
open Go.ChangeShapes Go.WideShapes Go.ChangeAt Go.RowKit

def footG (a b : List Int) (v : Int) : Int := max (plc a v - plc b v) (plc b v - plc a v)
def sumG (g : Int → Int) (l : List Int) : Int := (l.map g).sum
theorem sumG_snoc {g : Int → Int} {l : List Int} {k : Nat} {x : Int} (h : l[k]? = some x) : sumG g (l.take (k + 1)) = sumG g (l.take k) + g x := by
  rw [take_snoc h]; simp [sumG]
theorem sumG_perm {g : Int → Int} {l m : List Int} (h : l.Perm m) : sumG g l = sumG g m := by
  unfold sumG
  induction h with
  | nil => rfl
  | cons x _ ih => simp [ih]
  | swap x y l => simp; omega
  | trans _ _ h1 h2 => exact h1.trans h2
theorem sumG_cap {g : Int → Int} : ∀ (l : List Int), (∀ x ∈ l, 0 ≤ g x ∧ g x ≤ 8) → 0 ≤ sumG g l ∧ sumG g l ≤ 8 * (l.length : Int)
  | [], _ => by simp [sumG]
  | x :: l, h => by
    have h1 := sumG_cap l (fun y hy => h y (by simp [hy]))
    have h2 := h x (by simp)
    simp only [sumG, List.map_cons, List.sum_cons, List.length_cons] at h1 ⊢
    push_cast; omega
theorem footG_bd {a b : List Int} (ha : a.length ≤ 8) (hb : b.length ≤ 8) {v : Int} (hv : v ∈ a) (hw : v ∈ b) : 0 ≤ footG a b v ∧ footG a b v ≤ 8 := by
  have h1 := plc_mem hv
  have h2 := plc_mem hw
  unfold footG; omega
def footF (a b : List Int) : Int := if twoB a b then sumG (footG a b) (upto a.length) else -1
theorem footF_eq {a b : List Int} (h : twoB a b = true) : footF a b = sumG (footG a b) a := by
  unfold footF; rw [if_pos h]; exact (sumG_perm (ladB_perm (twoB_t h).1)).symm
theorem foot_all {a b : List Int} (h : twoB a b = true) (v : Int) (hv : v ∈ upto a.length) : 0 ≤ footG a b v ∧ footG a b v ≤ 8 := by
  obtain ⟨la, lb, hl⟩ := twoB_t h
  refine footG_bd (ladB_t la).1.2 (ladB_t lb).1.2 ((ladB_perm la).mem_iff.2 hv) ((ladB_perm lb).mem_iff.2 ?_)
  rw [← hl]; exact hv
theorem footU_cap {a b : List Int} (h : twoB a b = true) (j : Nat) : 0 ≤ sumG (footG a b) ((upto a.length).take j) ∧ sumG (footG a b) ((upto a.length).take j) ≤ 64 := by
  have h1 := sumG_cap ((upto a.length).take j) (fun x hx => foot_all h x (List.mem_of_mem_take hx))
  have h2 : ((upto a.length).take j).length ≤ a.length := by rw [List.length_take, upto_length]; omega
  have h3 := (ladB_t (twoB_t h).1).1.2
  omega
theorem footV_cap {a b : List Int} (h : twoB a b = true) (j : Nat) : 0 ≤ sumG (footG a b) (a.take j) ∧ sumG (footG a b) (a.take j) ≤ 64 := by
  have h1 := sumG_cap (a.take j) (fun x hx => foot_all h x ((ladB_perm (twoB_t h).1).mem_iff.1 (List.mem_of_mem_take hx)))
  have h2 : (a.take j).length ≤ a.length := by rw [List.length_take]; omega
  have h3 := (ladB_t (twoB_t h).1).1.2
  omega

set_option maxHeartbeats 1000000 in
theorem implFootruleOf_std (va : Value) (a : List Int) (vb : Value) (b : List Int) (w : World) (ha : InI w va a) (na : a.length ≤ 1048576) (hb : InI w vb b) (nb : b.length ≤ 1048576) :
    Calls Try.prog 14 #[va, vb] w fun e w' => e = .returned (.int .i64 (footF a b)) ∧ Below w.heap.size w w' := by
  obtain ⟨A, ka, rfl, hka, hma, hsa⟩ := ha
  obtain ⟨B, kb, rfl, hkb, hmb, hsb⟩ := hb
  have HL := Lib.hid (areOrders_any A B ka kb a b w hsa na hka hsb nb hkb)
  have HS := Lib.hid (And.intro hsa hsb)
  clear hsa hsb
  cases htwo : twoB a b
  · go_enter Try.func14, Try.ntmps14
    go_wp2_with fail
    refine HL.out.mono ?_
    rintro e w1 ⟨rfl, rfl⟩
    rw [htwo]
    go_wp2
    go_ret
    exact ⟨by simp [footF, htwo], Below.refl _ _⟩
  obtain ⟨la, lb, hlen⟩ := twoB_t htwo
  have hl8 := (ladB_t la).1
  have HTWO := Lib.hid htwo
  have LA := Lib.hid la
  have LB := Lib.hid lb
  have HLEN := Lib.hid hlen
  clear la lb hlen htwo
  go_enter Try.func14, Try.ntmps14
  go_wp2_with fail
  refine HL.out.mono ?_
  rintro e w1 ⟨rfl, rfl⟩
  rw [HTWO.out]
  go_wp2_with fail
  refine (inverse_any A ka a w HS.out.1 LA.out).mono ?_
  rintro e w1 ⟨v1, rfl, hf1, hb1⟩
  have F1 := Lib.hid hf1
  have B1 := Lib.hid hb1
  clear hf1 hb1
  go_wp2_with fail
  refine (inverse_any B kb b w1 (HS.out.2.below B1.out) LB.out).mono ?_
  rintro e w2 ⟨v2, rfl, hf2, hb2⟩
  have B2 := Lib.hid (B1.out.trans (hb2.mono B1.out.size))
  obtain ⟨A1, c1, rfl, hc1, hm1, hs1⟩ := (F1.out.grow hb2).in_
  obtain ⟨A2, c2, rfl, hc2, hm2, hs2⟩ := hf2.in_
  have S1 := Lib.hid hs1
  have S2 := Lib.hid hs2
  clear hf2 hb2 F1 B1 hs1 hs2 HL
  rw [invL_length] at hc1 hc2
  rw [invL_length, invL_length, ← HLEN.out]
  rw [← HLEN.out] at hc2
  go_wp2
  go_loopw [7, 19] (fun s i wr => ∃ j : Nat, j ≤ a.length ∧ i = .int .i64 j ∧ s = .int .i64 (sumG (footG a b) ((upto a.length).take j)) ∧ Hid (SlI wr A1 (invL a) ∧ SlI wr A2 (invL b) ∧ Below w.heap.size w wr)) (fun _ i _ => a.length - (intOf i).toNat)
  case atStart => exact ⟨0, Nat.zero_le _, rfl, rfl, S1.out, S2.out, B2.out⟩
  case round =>
    obtain ⟨j, hj, rfl, rfl, HR⟩ := hrel
    have hcap := footU_cap HTWO.out j
    by_cases hlt : j < a.length
    · obtain ⟨b1, o1, x, rfl, hx1, hx2, _⟩ := HR.out.1.at_ (k := j) (by rw [invL_length]; exact hlt)
      obtain ⟨b2, o2, y, rfl, hy1, hy2, _⟩ := HR.out.2.1.at_ (k := j) (by rw [invL_length, ← HLEN.out]; exact hlt)
      rw [invL_get hlt] at hx1
      rw [invL_get (by rw [← HLEN.out]; exact hlt)] at hy1
      injection hx1 with hx1
      injection hy1 with hy1
      have hm := plc_mem (ladB_mem LA.out hlt)
      have hn := plc_mem (ladB_mem LB.out (v := j) (by rw [← HLEN.out]; exact hlt))
      rw [hx1] at hm
      rw [hy1, ← HLEN.out] at hn
      have hm1 := hm.1
      have hm2 := hm.2.1
      have hn1 := hn.1
      have hn2 := hn.2.1
      have HG : Hid (footG a b j = max (x - y) (y - x)) := by show _ = _; rw [footG, hx1, hy1]
      clear hm hn hx1 hy1
      have HSN := Lib.hid (sumG_snoc (g := footG a b) (upto_get hlt))
      go_wp2
      go_quiet (fail)
      go_wp2
      go_roundw
      case rel => exact ⟨j + 1, by omega, by go_num, by rw [HSN.out, HG.out]; go_num, HR.out.1, HR.out.2.1, below_drewN HR.out.2.2 _⟩
      case measure => simp [intOf]; omega
    · obtain rfl : j = a.length := by omega
      go_wp2
      go_ret
      exact ⟨ret_int (by rw [List.take_of_length_le (by rw [upto_length]; exact Nat.le_refl _)]; unfold footF; rw [if_pos HTWO.out]), HR.out.2.2⟩
end Go.Proofs.Ytnjomfmmnkjhfaa
