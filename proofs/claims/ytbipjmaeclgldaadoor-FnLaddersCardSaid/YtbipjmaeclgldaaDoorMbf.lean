/- Kings: both packages' contracts. -/
import Derived.Test.YtbipjmaeclgldaaDoorMbe
import Derived.Test.YtbipjmaeclgldaaDoorTq
import Derived.Test.YtbipjmaeclgldaaDoorTools
import Derived.Laws.BitsLemmas
import Derived.Test.YtbipjmaeclgldaaDoorMbd
namespace Go.Proofs.YtbipjmaeclgldaaDoor
open Go.ChangeShapes Go.WideShapes Go.ChangeAt Go.RowKit

theorem add_or8 {v b : Nat} (hb : b < 8) (hv : v < 2 ^ b) : v + 2 ^ b = v ||| 2 ^ b := by
  have h256 : (2 : Nat) ^ b ≤ 256 := Nat.pow_le_pow_right (by omega) (show b ≤ 8 by omega)
  exact add_or ⟨b, hb⟩ ⟨v, by omega⟩ hv
end Go.Proofs.YtbipjmaeclgldaaDoor
namespace Go.Proofs.YtbipjmaeclgldaaDoor
open Go.ChangeShapes Go.WideShapes Go.ChangeAt Go.RowKit

/-- The games of the pairs ahead of (a, b) are laid, no others. -/
structure PvT (xs : List Int) (n a b : Nat) : Prop where
  len : xs.length = n
  ge : ∀ w ∈ xs, 0 ≤ w
  hi : ∀ i j, i < n → n ≤ j → bt xs i j = false
  irr : ∀ i, i < n → bt xs i i = false
  don : ∀ i j, i < j → j < n → (i < a ∨ (i = a ∧ j < b)) → bt xs i j ≠ bt xs j i
  und : ∀ i j, i < j → j < n → ¬ (i < a ∨ (i = a ∧ j < b)) → bt xs i j = false ∧ bt xs j i = false
theorem PvT.start (n : Nat) : PvT (List.replicate n 0) n 0 1 := by
  have h0 : ∀ i j, bt (List.replicate n 0) i j = false := by
    intro i j
    have e : (List.replicate n (0 : Int)).getD i 0 = 0 := by
      rw [List.getD_eq_getElem?_getD, List.getElem?_replicate]; split <;> rfl
    rw [bt, e]; simp
  exact ⟨by simp, fun w hw => by rw [(List.mem_replicate.1 hw).2]; exact Int.le_refl _, fun i j _ _ => h0 i j, fun i _ => h0 i i, fun i j h1 h2 h3 => by omega, fun i j _ _ _ => ⟨h0 i j, h0 j i⟩⟩
theorem PvT.next {xs : List Int} {n a : Nat} (h : PvT xs n a n) : PvT xs n (a + 1) (a + 2) :=
  ⟨h.len, h.ge, h.hi, h.irr, fun i j h1 h2 h3 => h.don i j h1 h2 (by omega), fun i j h1 h2 h3 => h.und i j h1 h2 (by omega)⟩
theorem bt_set {xs : List Int} {a i j : Nat} {w : Int} (ha : a < xs.length) : bt (xs.set a w) i j = if i = a then w.toNat.testBit j else bt xs i j := by
  unfold bt
  rw [List.getD_eq_getElem?_getD, List.getElem?_set]
  by_cases h : a = i
  · subst h
    rw [if_pos rfl, if_pos ha, if_pos rfl]; rfl
  · rw [if_neg h, if_neg (fun e => h e.symm), List.getD_eq_getElem?_getD]
theorem lt_bits {w k : Nat} (h : ∀ j, k ≤ j → w.testBit j = false) : w < 2 ^ k := Nat.lt_pow_two_of_testBit w h
/-- The entry of a row whose bits from k on are not set, with the bit k. -/
theorem add_bit {w k : Nat} (hk : k < 8) (h : ∀ j, k ≤ j → w.testBit j = false) (j : Nat) : (w + 2 ^ k).testBit j = (w.testBit j || decide (k = j)) := by
  rw [add_or8 hk (lt_bits h), Nat.testBit_or, Nat.testBit_two_pow]
/-- The game of a against b is laid: the row r gets the bit c (a wins: r = a, c = b; b wins: r = b, c = a). -/
theorem PvT.lay {xs : List Int} {n a b r c : Nat} {w : Int} (h : PvT xs n a b) (hn : n ≤ 8) (hab : a < b) (hb : b < n) (hrc : (r = a ∧ c = b) ∨ (r = b ∧ c = a)) (hw : xs[r]? = some w) :
    0 ≤ w ∧ w < 256 ∧ PvT (xs.set r (w + ((2 ^ c : Nat) : Int))) n a (b + 1) := by
  have hr : r < xs.length := (List.getElem?_eq_some_iff.1 hw).1
  have hrn : r < n := by omega
  have hcn : c < n := by omega
  have hw0 := h.ge w (List.mem_of_getElem? hw)
  have ew : ∀ j, bt xs r j = w.toNat.testBit j := fun j => by rw [bt, List.getD_eq_getElem?_getD, hw]; rfl
  have hup : ∀ j, c ≤ j → w.toNat.testBit j = false := by
    intro j hj
    rw [← ew j]
    rcases Nat.lt_or_ge j n with hjn | hjn
    · rcases hrc with ⟨rfl, rfl⟩ | ⟨rfl, rfl⟩
      · exact (h.und r j (by omega) hjn (by omega)).1
      · rcases Nat.lt_trichotomy j r with h1 | h1 | h1
        · exact (h.und j r h1 hb (by omega)).2
        · subst h1; exact h.irr j hrn
        · exact (h.und r j h1 hjn (by omega)).1
    · exact h.hi r j hrn hjn
  have hlt := lt_bits hup
  have h256 : (2 : Nat) ^ c ≤ 2 ^ 7 := Nat.pow_le_pow_right (by omega) (by omega)
  have et : (w + ((2 ^ c : Nat) : Int)).toNat = w.toNat + 2 ^ c := by omega
  have hbit : ∀ i j, bt (xs.set r (w + ((2 ^ c : Nat) : Int))) i j = (bt xs i j || (decide (i = r) && decide (c = j))) := by
    intro i j
    rw [bt_set hr]
    by_cases hi : i = r
    · subst hi
      rw [if_pos rfl, et, add_bit (by omega) hup, ew]; simp
    · rw [if_neg hi]; simp [hi]
  refine ⟨hw0, by omega, ⟨by rw [List.length_set]; exact h.len, ?_, ?_, ?_, ?_, ?_⟩⟩
  · intro y hy
    rcases List.mem_or_eq_of_mem_set hy with hy | hy
    · exact h.ge y hy
    · rw [hy]; omega
  · intro i j hi hj
    have hcj : ¬ c = j := by omega
    rw [hbit, h.hi i j hi hj]; simp [hcj]
  · intro i hi
    rw [hbit, h.irr i hi]
    have : ¬ (i = r ∧ c = i) := by omega
    by_cases h1 : i = r
    · have h2 : ¬ c = i := fun e => this ⟨h1, e⟩
      simp [h2]
    · simp [h1]
  · intro i j hij hj hd
    rw [hbit, hbit]
    by_cases hp : i = a ∧ j = b
    · obtain ⟨rfl, rfl⟩ := hp
      obtain ⟨u1, u2⟩ := h.und i j hij hj (by omega)
      rw [u1, u2]
      rcases hrc with ⟨rfl, rfl⟩ | ⟨rfl, rfl⟩
      · have h1 : ¬ c = r := by omega
        simp [h1]
      · have h1 : ¬ c = r := by omega
        simp [h1]
    · have hd2 := h.don i j hij hj (by omega)
      have n1 : (decide (i = r) && decide (c = j)) = false := by
        cases h1 : (decide (i = r) && decide (c = j))
        · rfl
        · simp at h1; omega
      have n2 : (decide (j = r) && decide (c = i)) = false := by
        cases h1 : (decide (j = r) && decide (c = i))
        · rfl
        · simp at h1; omega
      rw [n1, n2, Bool.or_false, Bool.or_false]; exact hd2
  · intro i j hij hj hd
    obtain ⟨u1, u2⟩ := h.und i j hij hj (by omega)
    rw [hbit, hbit, u1, u2]
    have n1 : (decide (i = r) && decide (c = j)) = false := by
      cases h1 : (decide (i = r) && decide (c = j))
      · rfl
      · simp at h1; omega
    have n2 : (decide (j = r) && decide (c = i)) = false := by
      cases h1 : (decide (j = r) && decide (c = i))
      · rfl
      · simp at h1; omega
    rw [n1, n2]; exact ⟨rfl, rfl⟩
theorem PvT.ok {xs : List Int} {n : Nat} (h : PvT xs n n (n + 1)) (h1 : 1 ≤ n) (hn : n ≤ 8) : tourB ⟨(n : Int), xs⟩ = true := by
  have hl := h.len
  have hwb : winsB xs.length xs = true := by
    unfold winsB
    rw [List.all_eq_true]
    intro w hw
    obtain ⟨i, hi, e⟩ := List.mem_iff_getElem.1 hw
    have hlt : w.toNat < 2 ^ n := lt_bits (fun j hj => by
      have := h.hi i j (by omega) hj
      rw [bt, List.getD_eq_getElem?_getD, List.getElem?_eq_getElem hi, e] at this
      exact this)
    have h3 : (2 : Int) ^ xs.length = ((2 ^ n : Nat) : Int) := by rw [hl, Int.natCast_pow]; rfl
    have := h.ge w hw
    rw [inB_t, h3]
    omega
  rw [tourB_go (x := ⟨(n : Int), xs⟩) (inB_t.2 ⟨by show (1 : Int) ≤ (n : Int); omega, by show (n : Int) ≤ 8; omega⟩) (by show (xs.length : Int) = (n : Int); omega) hwb]
  refine rows_all (fun a ha => rowB_all (fun b hb => ?_) (h.irr a (by have : a < xs.length := ha; omega)))
  have ha' : a < xs.length := ha
  exact (h.don b a hb (by omega) (by omega)).symm
end Go.Proofs.YtbipjmaeclgldaaDoor
