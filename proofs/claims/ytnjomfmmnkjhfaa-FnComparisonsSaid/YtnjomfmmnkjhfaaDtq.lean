/- Tours that are flipped: plain facts. -/
import Derived.Test.YtnjomfmmnkjhfaaDtp
namespace Go.Proofs.Ytnjomfmmnkjhfaa
open Go.ChangeShapes Go.WideShapes Go.ChangeAt Go.RowKit

/-- One result turned round. -/
def flipL (xs : List Int) (a b : Nat) : List Int := (xs.set a (((xs.getD a 0).toNat ^^^ 2 ^ b : Nat) : Int)).set b (((xs.getD b 0).toNat ^^^ 2 ^ a : Nat) : Int)
theorem flipL_len (xs : List Int) (a b : Nat) : (flipL xs a b).length = xs.length := by simp [flipL]
theorem flip_bt {xs : List Int} {a b : Nat} (ha : a < xs.length) (hb : b < xs.length) (hab : a ≠ b) (i j : Nat) : bt (flipL xs a b) i j = (bt xs i j ^^ ((decide (i = a) && decide (j = b)) || (decide (i = b) && decide (j = a)))) := by
  rw [flipL, bt_set (by rw [List.length_set]; exact hb)]
  by_cases h1 : i = b
  · subst h1
    have h2 : ¬ i = a := fun e => hab e.symm
    rw [if_pos rfl, Int.toNat_natCast, Nat.testBit_xor, Nat.testBit_two_pow]
    show (bt xs i j ^^ decide (a = j)) = _
    have h3 : decide (a = j) = decide (j = a) := decide_eq_decide.2 ⟨fun e => e.symm, fun e => e.symm⟩
    rw [h3]; simp [h2]
  · rw [if_neg h1, bt_set ha]
    by_cases h2 : i = a
    · subst h2
      rw [if_pos rfl, Int.toNat_natCast, Nat.testBit_xor, Nat.testBit_two_pow]
      show (bt xs i j ^^ decide (b = j)) = _
      have h3 : decide (b = j) = decide (j = b) := decide_eq_decide.2 ⟨fun e => e.symm, fun e => e.symm⟩
      rw [h3]; simp [h1]
    · rw [if_neg h2]; simp [h1, h2]
theorem flip_ok {x : TourV} (hok : tourB x = true) {a b : Nat} (ha : a < x.wins.length) (hb : b < x.wins.length) (hab : a ≠ b) : tourB ⟨x.size, flipL x.wins a b⟩ = true := by
  obtain ⟨t1, t2, t3, t4, t5⟩ := tourB_t hok
  have hn8 : x.wins.length ≤ 8 := by omega
  have hw := win_all hok
  have hl := flipL_len x.wins a b
  have h1 : (x.wins.getD a 0).toNat ^^^ 2 ^ b < 2 ^ x.wins.length := Nat.xor_lt_two_pow (hw a) (Nat.pow_lt_pow_right (by omega) hb)
  have h2 : (x.wins.getD b 0).toNat ^^^ 2 ^ a < 2 ^ x.wins.length := Nat.xor_lt_two_pow (hw b) (Nat.pow_lt_pow_right (by omega) ha)
  have h3 : (2 : Int) ^ x.wins.length = ((2 ^ x.wins.length : Nat) : Int) := by rw [Int.natCast_pow]; rfl
  have hwb : winsB (flipL x.wins a b).length (flipL x.wins a b) = true := by
    unfold winsB
    rw [List.all_eq_true, hl]
    intro w hw2
    rw [inB_t, h3]
    rcases List.mem_or_eq_of_mem_set hw2 with hw2 | rfl
    · rcases List.mem_or_eq_of_mem_set hw2 with hw2 | rfl
      · have := inB_t.1 (List.all_eq_true.1 t4 w hw2)
        rw [h3] at this; exact this
      · omega
    · omega
  rw [tourB_go (x := ⟨x.size, flipL x.wins a b⟩) (inB_t.2 ⟨t1, t2⟩) (by show ((flipL x.wins a b).length : Int) = x.size; rw [hl]; exact t3) hwb]
  refine rows_all (fun i hi => ?_)
  have hi' : i < x.wins.length := by have h4 : i < (flipL x.wins a b).length := hi; omega
  refine rowB_all (fun j hj => ?_) ?_
  · have hanti := tourB_anti hok hi' (show j < x.wins.length by omega) (by omega)
    show bt (flipL x.wins a b) i j ≠ bt (flipL x.wins a b) j i
    rw [flip_bt ha hb hab, flip_bt ha hb hab]
    have e : ((decide (i = a) && decide (j = b)) || (decide (i = b) && decide (j = a))) = ((decide (j = a) && decide (i = b)) || (decide (j = b) && decide (i = a))) := by
      rw [Bool.and_comm (decide (i = a)), Bool.and_comm (decide (i = b)), Bool.or_comm]
    rw [e]
    intro h
    apply hanti
    cases h5 : ((decide (j = a) && decide (i = b)) || (decide (j = b) && decide (i = a)))
    · rw [h5] at h; simpa using h
    · rw [h5] at h; simpa using h
  · show bt (flipL x.wins a b) i i = false
    rw [flip_bt ha hb hab, tourB_irr hok hi']
    have h6 : ((decide (i = a) && decide (i = b)) || (decide (i = b) && decide (i = a))) = false := by
      by_cases h7 : i = a
      · subst h7; simp [hab]
      · simp [h7]
    rw [h6]; rfl

/-- Names: an order of the players. -/
structure Nm (ns : List Int) (n : Nat) : Prop where
  len : ns.length = n
  rng : ∀ (i : Nat) (y : Int), ns[i]? = some y → 0 ≤ y ∧ y < n
  inj : ∀ (i j : Nat) (y : Int), ns[i]? = some y → ns[j]? = some y → i = j
def nmA (ns : List Int) (i : Nat) : Nat := (ns.getD i 0).toNat
theorem Nm.lt {ns : List Int} {n i : Nat} (h : Nm ns n) (hi : i < n) : ns[i]? = some (nmA ns i : Int) ∧ nmA ns i < n := by
  obtain ⟨y, hy⟩ : ∃ y, ns[i]? = some y := ⟨_, List.getElem?_eq_getElem (show i < ns.length by rw [h.len]; exact hi)⟩
  have hr := h.rng i y hy
  have e : nmA ns i = y.toNat := by rw [nmA, List.getD_eq_getElem?_getD, hy]; rfl
  rw [e, Int.toNat_of_nonneg hr.1]
  exact ⟨hy, by omega⟩
theorem Nm.ij {ns : List Int} {n i j : Nat} (h : Nm ns n) (hi : i < n) (hj : j < n) (e : nmA ns i = nmA ns j) : i = j :=
  h.inj i j _ (h.lt hi).1 (by rw [e]; exact (h.lt hj).1)
/-- The wins under other names: the pairs ahead of (a, b) are carried over, no others. -/
structure RnT (x : TourV) (ns out : List Int) (n a b : Nat) : Prop where
  len : out.length = n
  ge : ∀ w ∈ out, 0 ≤ w
  hi : ∀ i j, i < n → n ≤ j → bt out i j = false
  at_ : ∀ p q, p < n → q < n → bt out (nmA ns p) (nmA ns q) = (bt x.wins p q && decide (p < a ∨ (p = a ∧ q < b)))
theorem RnT.start {x : TourV} {ns : List Int} (n : Nat) : RnT x ns (List.replicate n 0) n 0 0 := by
  have h0 : ∀ i j, bt (List.replicate n 0) i j = false := by
    intro i j
    have e : (List.replicate n (0 : Int)).getD i 0 = 0 := by
      rw [List.getD_eq_getElem?_getD, List.getElem?_replicate]; split <;> rfl
    rw [bt, e]; simp
  exact ⟨by simp, fun w hw => by rw [(List.mem_replicate.1 hw).2]; exact Int.le_refl _, fun i j _ _ => h0 i j, fun p q _ _ => by rw [h0]; simp⟩
theorem RnT.next {x : TourV} {ns out : List Int} {n a : Nat} (h : RnT x ns out n a n) : RnT x ns out n (a + 1) 0 :=
  ⟨h.len, h.ge, h.hi, fun p q hp hq => by rw [h.at_ p q hp hq]; congr 1; exact decide_eq_decide.2 (by omega)⟩
theorem RnT.no {x : TourV} {ns out : List Int} {n a b : Nat} (h : RnT x ns out n a b) (hb : bt x.wins a b = false) : RnT x ns out n a (b + 1) := by
  refine ⟨h.len, h.ge, h.hi, fun p q hp hq => ?_⟩
  rw [h.at_ p q hp hq]
  by_cases e : p = a ∧ q = b
  · obtain ⟨rfl, rfl⟩ := e; rw [hb]; rfl
  · congr 1; exact decide_eq_decide.2 (by omega)
theorem add_one {w k : Nat} (hw : w < 256) (hk : k < 8) (h : w.testBit k = false) : w + 2 ^ k = w ||| 2 ^ k := by
  have h256 : ∀ k : Fin 8, 2 ^ k.val < 256 := by decide
  refine sub_or hw (h256 ⟨k, hk⟩) ?_
  apply Nat.eq_of_testBit_eq
  intro i
  rw [Nat.testBit_and, Nat.testBit_two_pow, Nat.zero_testBit]
  by_cases e : k = i
  · subst e; rw [h]; rfl
  · simp [e]
theorem RnT.yes {x : TourV} {ns out : List Int} {n a b : Nat} {w : Int} (h : RnT x ns out n a b) (hn : n ≤ 8) (hm : Nm ns n) (ha : a < n) (hb : b < n) (hbt : bt x.wins a b = true) (hw : out[nmA ns a]? = some w) :
    0 ≤ w ∧ w < 256 ∧ RnT x ns (out.set (nmA ns a) (w + ((2 ^ nmA ns b : Nat) : Int))) n a (b + 1) := by
  have ga := (hm.lt ha).2
  have gb := (hm.lt hb).2
  have hr : nmA ns a < out.length := by rw [h.len]; exact ga
  have hw0 := h.ge w (List.mem_of_getElem? hw)
  have ew : ∀ j, bt out (nmA ns a) j = w.toNat.testBit j := fun j => by rw [bt, List.getD_eq_getElem?_getD, hw]; rfl
  have hlt : w.toNat < 2 ^ n := lt_bits (fun j hj => by rw [← ew]; exact h.hi _ j ga hj)
  have h256 : (2 : Nat) ^ n ≤ 2 ^ 8 := Nat.pow_le_pow_right (by omega) hn
  have hbit0 : w.toNat.testBit (nmA ns b) = false := by
    rw [← ew, h.at_ a b ha hb]
    have : ¬ (a < a ∨ (a = a ∧ b < b)) := by omega
    rw [decide_eq_false this, Bool.and_false]
  have et : (w + ((2 ^ nmA ns b : Nat) : Int)).toNat = w.toNat + 2 ^ nmA ns b := by rw [Int.toNat_add hw0 (Int.natCast_nonneg _), Int.toNat_natCast]
  have hbit : ∀ i j, bt (out.set (nmA ns a) (w + ((2 ^ nmA ns b : Nat) : Int))) i j = (bt out i j || (decide (i = nmA ns a) && decide (nmA ns b = j))) := by
    intro i j
    rw [bt_set hr]
    by_cases hi : i = nmA ns a
    · subst hi
      rw [if_pos rfl, et, add_one (by omega) (by omega) hbit0, Nat.testBit_or, Nat.testBit_two_pow, ew]; simp
    · rw [if_neg hi]; simp [hi]
  refine ⟨hw0, by omega, ⟨by rw [List.length_set]; exact h.len, ?_, ?_, ?_⟩⟩
  · intro y hy
    rcases List.mem_or_eq_of_mem_set hy with hy | hy
    · exact h.ge y hy
    · rw [hy]; exact Int.add_nonneg hw0 (Int.natCast_nonneg _)
  · intro i j hi hj
    have h1 : ¬ nmA ns b = j := by omega
    rw [hbit, h.hi i j hi hj]; simp [h1]
  · intro p q hp hq
    rw [hbit, h.at_ p q hp hq]
    by_cases e : p = a ∧ q = b
    · obtain ⟨rfl, rfl⟩ := e
      rw [hbt, decide_eq_true (show p < p ∨ (p = p ∧ q < q + 1) by omega)]; simp
    · have n1 : (decide (nmA ns p = nmA ns a) && decide (nmA ns b = nmA ns q)) = false := by
        cases h1 : (decide (nmA ns p = nmA ns a) && decide (nmA ns b = nmA ns q))
        · rfl
        · simp only [Bool.and_eq_true, decide_eq_true_eq] at h1
          exact absurd ⟨hm.ij hp ha h1.1, (hm.ij hb hq h1.2).symm⟩ e
      rw [n1, Bool.or_false]
      congr 1; exact decide_eq_decide.2 (by omega)

theorem Nm.onto {ns : List Int} {n i : Nat} (h : Nm ns n) (hi : i < n) : ∃ p, p < n ∧ nmA ns p = i := by
  refine Classical.byContradiction fun hno => ?_
  have h1 := len_sub ((List.range n).map (nmA ns)) ((List.range n).erase i) ?_ (fun y hy => by
    obtain ⟨p, hp, e⟩ := List.mem_map.1 hy
    have hp' := List.mem_range.1 hp
    have hne : y ≠ i := fun e2 => hno ⟨p, hp', e.trans e2⟩
    exact (List.mem_erase_of_ne hne).2 (List.mem_range.2 (by rw [← e]; exact (h.lt hp').2)))
  · rw [List.length_map, List.length_erase_of_mem (List.mem_range.2 hi), List.length_range] at h1
    omega
  · rw [List.nodup_iff_pairwise_ne, List.pairwise_map]
    refine List.Pairwise.imp_of_mem ?_ (List.nodup_iff_pairwise_ne.1 List.nodup_range)
    intro a b ha hb hab e
    exact hab (h.ij (List.mem_range.1 ha) (List.mem_range.1 hb) e)
theorem RnT.ok {x : TourV} {ns out : List Int} {n : Nat} (hok : tourB x = true) (hxn : x.wins.length = n) (hm : Nm ns n) (h : RnT x ns out n n 0) : tourB ⟨x.size, out⟩ = true := by
  obtain ⟨t1, t2, t3, t4, t5⟩ := tourB_t hok
  have hn8 : n ≤ 8 := by omega
  have hl := h.len
  have hb : ∀ p q, p < n → q < n → bt out (nmA ns p) (nmA ns q) = bt x.wins p q := fun p q hp hq => by
    rw [h.at_ p q hp hq, decide_eq_true (show p < n ∨ (p = n ∧ q < 0) by omega), Bool.and_true]
  have hwb : winsB out.length out = true := by
    unfold winsB
    rw [List.all_eq_true]
    intro w hw
    obtain ⟨i, hi, e⟩ := List.mem_iff_getElem.1 hw
    have hlt : w.toNat < 2 ^ n := lt_bits (fun j hj => by
      have h2 := h.hi i j (by omega) hj
      rw [bt, List.getD_eq_getElem?_getD, List.getElem?_eq_getElem hi, e] at h2
      exact h2)
    have h3 : (2 : Int) ^ out.length = ((2 ^ n : Nat) : Int) := by rw [hl, Int.natCast_pow]; rfl
    have := h.ge w hw
    rw [inB_t, h3]
    omega
  rw [tourB_go (x := ⟨x.size, out⟩) (inB_t.2 ⟨t1, t2⟩) (by show (out.length : Int) = x.size; rw [hl, ← hxn]; exact t3) hwb]
  refine rows_all (fun i hi => ?_)
  have hi' : i < n := by have h4 : i < out.length := hi; omega
  obtain ⟨p, hp, rfl⟩ := hm.onto hi'
  refine rowB_all (fun j hj => ?_) ?_
  · obtain ⟨q, hq, rfl⟩ := hm.onto (show j < n by omega)
    show bt out (nmA ns p) (nmA ns q) ≠ bt out (nmA ns q) (nmA ns p)
    rw [hb p q hp hq, hb q p hq hp]
    exact tourB_anti hok (by omega) (by omega) (fun e => by subst e; omega)
  · show bt out (nmA ns p) (nmA ns p) = false
    rw [hb p p hp hp]
    exact tourB_irr hok (by omega)
end Go.Proofs.Ytnjomfmmnkjhfaa
