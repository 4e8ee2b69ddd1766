/- The fewest challenges against the distance (plain; for FnLadders). -/
import Derived.Test.YtbipjmaeclgldaaDoorMau
import Derived.Test.YtbipjmaeclgldaaDoorFwu
import Derived.Test.YtbipjmaeclgldaaDoorFle
namespace Go.Proofs.YtbipjmaeclgldaaDoor
open Go.ChangeShapes Go.WideShapes Go.ChangeAt Go.RowKit

theorem invN_map (a : List Int) : ∀ b : List Int, invN (b.map (plc a)) = prs (fun x y => decide (plc a y < plc a x)) b
  | [] => rfl
  | x :: b => by
    rw [List.map_cons, invN, prs, invN_map a b, ← List.countP_eq_length_filter, List.countP_map]
    rfl
theorem fewF_law {n : Nat} {a b : List Int} (ha : LadN n a) (hb : LadN n b) (h5 : n ≤ 5) :
    fewF a b 1 = (dist a b : Int) ∧ ∃ g : Nat, fewF a b 4 = (g : Int) ∧ g ≤ dist a b ∧ (g = 0 ↔ a = b) ∧ dist a b / 4 ≤ g := by
  have hn := ha.bd
  have hlen : b.length = a.length := by rw [ha.len, hb.len]
  have hinv : invN (b.map (plc a)) = dist a b := by rw [invN_map, ← dist_prs0, dist_symm hb.nd ha.nd (hb.perm2 ha)]
  have ok : ∀ r : Int, inB r 1 7 = true → fewF a b r = fewB r.toNat a b := fun r hr => by
    unfold fewF
    rw [if_pos (fewOk_mk ha.lad hb.lad hlen.symm (by rw [ha.len]; exact h5) hr)]
  have hnn : n ∈ ([1, 2, 3, 4, 5] : List Nat) := by simp; omega
  constructor
  · obtain ⟨d, h1, h2⟩ := few_any (Or.inl rfl) ha.lad hb.lad hlen (by have := ha.len; omega)
    have h3 := List.all_eq_true.1 fewDec1 n hnn
    rw [Bool.and_eq_true, List.all_eq_true] at h3
    rw [ha.len] at h1
    have h4 : d = invN (b.map (plc a)) := of_decide_eq_true (h3.2 _ h1)
    rw [ok 1 (by decide)]
    show fewB 1 a b = _
    rw [h2, h4, hinv]
  · obtain ⟨d, h1, h2⟩ := few_any (Or.inr rfl) ha.lad hb.lad hlen (by have := ha.len; omega)
    have h3 := List.all_eq_true.1 fewDec4 n hnn
    rw [Bool.and_eq_true, List.all_eq_true] at h3
    rw [ha.len] at h1
    have h4 := h3.2 _ h1
    rw [Bool.and_eq_true, Bool.and_eq_true] at h4
    obtain ⟨⟨h5, h6⟩, h7⟩ := h4
    have h5 : d ≤ invN (b.map (plc a)) := of_decide_eq_true h5
    have h6 : invN (b.map (plc a)) ≤ 4 * d + 3 := of_decide_eq_true h6
    rw [hinv] at h5 h6
    refine ⟨d, by rw [ok 4 (by decide)]; exact h2, h5, ?_, by omega⟩
    have h8 : decide (d = 0) = decide (b.map (plc a) = upto n) := by simpa using h7
    rw [decide_eq_decide] at h8
    rw [h8]
    exact (q_upto hb ha).trans ⟨Eq.symm, Eq.symm⟩
end Go.Proofs.YtbipjmaeclgldaaDoor
namespace Go.Proofs.YtbipjmaeclgldaaDoor
open Go.ChangeShapes Go.WideShapes Go.ChangeAt Go.RowKit

set_option maxRecDepth 1000000 in
theorem dist_riseU : ([1, 2, 3, 4, 5] : List Nat).all (fun n => (List.range n).all fun i => (List.range i).all fun k => decide (dist (riseL (upto n) i k) (upto n) = i - k)) = true := by decide +kernel
theorem rise_facts {n : Nat} {a : List Int} (ha : LadN n a) (h5 : n ≤ 5) {i k : Nat} (hi : i < n) (hk : k < i) {x y : Int} (hx : a[i]? = some x) (hy : a[k]? = some y) :
    LadN n (riseL a i k) ∧ plc (riseL a i k) x = k ∧ plc (riseL a i k) y = (k : Int) + 1 ∧ dist a (riseL a i k) = i - k := by
  have hl := ha.len
  have hlad := rise_lad (lo := i) (up := k) ha.lad (by omega) (Nat.le_of_lt hk)
  have hN : LadN n (riseL a i k) := ⟨hlad.1, by rw [hlad.2, hl]⟩
  have e1 : ((a.take i ++ a.drop (i + 1)).take k).length = k := by simp; omega
  have g1 : (riseL a i k)[k]? = some x := by
    rw [riseL, List.append_assoc, List.getElem?_append_right (by omega), e1, Nat.sub_self]
    simp [List.getD_eq_getElem?_getD, hx]
  have g2 : (riseL a i k)[k + 1]? = some y := by
    rw [riseL, List.append_assoc, List.getElem?_append_right (by omega), e1, show k + 1 - k = 1 from by omega, List.getElem?_append_right (by simp)]
    simp only [List.length_singleton, Nat.sub_self, List.getElem?_drop, Nat.add_zero]
    rw [List.getElem?_append_left (by simp; omega), List.getElem?_take, if_pos hk, hy]
  refine ⟨hN, plc_at hN.nd g1, by have := plc_at hN.nd g2; omega, ?_⟩
  rw [dist_symm ha.nd hN.nd (ha.perm2 hN), dist_q hN ha]
  have e2 : qL (riseL a i k) a = riseL (upto n) i k := by
    show (riseL a i k).map (plc a) = _
    rw [← riseL_map _ (by omega), map_plc ha]
  rw [e2]
  have h1 := List.all_eq_true.1 dist_riseU n (by have := ha.bd; simp; omega)
  have h2 := List.all_eq_true.1 h1 i (List.mem_range.2 hi)
  exact of_decide_eq_true (List.all_eq_true.1 h2 k (List.mem_range.2 hk))
theorem may_at {n : Nat} {a : List Int} (ha : LadN n a) {i k : Nat} {x y : Int} (hx : a[i]? = some x) (hy : a[k]? = some y) : mayB a 2 x y = inB ((i : Int) - (k : Int)) 1 2 := by
  have e1 := plc_at ha.nd hx
  have e2 := plc_at ha.nd hy
  unfold mayB
  rw [ha.lad, e1, e2]
  simp [inB]
/-- All that the two challenges lead to, where they are allowed. -/
structure ChalLaw (n : Nat) (a : List Int) (i k : Nat) (x y : Int) : Prop where
  may : mayB a 2 x y = true
  o1 : chOk a 2 [x, y, 1] = true
  f1 : chalF a 2 [x, y, 1] = riseL a i k
  o0 : chOk a 2 [x, y, 0] = true
  f0 : chalF a 2 [x, y, 0] = a
  lad : LadN n (riseL a i k)
  px : plc (riseL a i k) x + 1 = (k : Int) + 1
  py : plc (riseL a i k) y + 1 = (k : Int) + 2
  ds : ((dist a (riseL a i k) : Nat) : Int) = (i : Int) - (k : Int)
theorem chalLaw_of {n : Nat} {a : List Int} (ha : LadN n a) (h5 : n ≤ 5) {i k : Nat} (hi : i < n) (hk : k < i) (hk2 : i ≤ k + 2) {x y : Int} (hx : a[i]? = some x) (hy : a[k]? = some y) : ChalLaw n a i k x y := by
  obtain ⟨h1, h2, h3, h4, h5'⟩ := chal_two (r := 2) ha.lad (by decide) hx hy (by rw [inB_t]; omega)
  obtain ⟨r1, r2, r3, r4⟩ := rise_facts ha h5 hi hk hx hy
  exact ⟨h1, h2, h3, h4, h5', r1, by omega, by omega, by omega⟩
theorem chalNo_of {n : Nat} {a : List Int} (ha : LadN n a) {i k : Nat} (hk : i ≤ k ∨ k + 2 < i) {x y : Int} (hx : a[i]? = some x) (hy : a[k]? = some y) :
    mayB a 2 x y = false ∧ ∀ z, chOk a 2 [x, y, z] = false := by
  have h : mayB a 2 x y = false := by rw [may_at ha hx hy, inB_f]; omega
  exact ⟨h, fun z => by simp [chOk, h]⟩
theorem way_of {x : TourV} (ht : tourB x = true) {m : List Int} (hl : ladB m = true) (hlen : m.length = x.wins.length) (hw : ∀ j, 1 ≤ j → j < m.length → bi x.wins (m.getD j 0) (m.getD (j - 1) 0) = false) :
    ∀ j, 1 ≤ j → j < m.length → bi x.wins (m.getD (j - 1) 0) (m.getD j 0) = true := by
  intro j h1 h2
  have h3 := hw j h1 h2
  obtain ⟨_, hm, hd⟩ := ladB_t hl
  have e1 : m.getD j 0 = m[j] := by rw [List.getD_eq_getElem?_getD, List.getElem?_eq_getElem h2]; rfl
  have e2 : m.getD (j - 1) 0 = m[j - 1] := by rw [List.getD_eq_getElem?_getD, List.getElem?_eq_getElem (by omega)]; rfl
  have b1 := hm m[j] (List.getElem_mem h2)
  have b2 := hm m[j - 1] (List.getElem_mem (by omega))
  rw [e1, e2] at h3 ⊢
  have hne : m[j - 1] ≠ m[j] := by
    have h4 := List.nodup_iff_pairwise_ne.1 hd
    exact List.pairwise_iff_getElem.1 h4 (j - 1) j (by omega) h2 (by omega)
  unfold bi at h3 ⊢
  have := tourB_anti ht (a := m[j].toNat) (b := m[j - 1].toNat) (by omega) (by omega) (by omega)
  rw [h3] at this
  simpa using this.symm
end Go.Proofs.YtbipjmaeclgldaaDoor
