/- Orders with few reversals: the tables of the sets. -/
import Derived.Test.YtofpaekokmkhgaaGreatDoorMak
import Derived.Test.YtofpaekokmkhgaaGreatDoorKgp
import Derived.Test.YtofpaekokmkhgaaGreatDoorMan
import Derived.Test.YtofpaekokmkhgaaGreatDoorMaj
import Derived.Test.YtofpaekokmkhgaaGreatDoorPrs
namespace Go.Proofs.YtofpaekokmkhgaaGreatDoor
open Go.ChangeShapes Go.WideShapes Go.ChangeAt Go.RowKit

/-- One player more that may be the first one of a set: the fewest reversals (-1: none yet) and the ways. -/
def stepC (p : Int × Int) (cost ways : Int) : Int × Int := if p.1 < 0 ∨ cost < p.1 then (cost, ways) else if cost = p.1 then (p.1, p.2 + ways) else p
def entT (x : TourV) (l : List (Int × Int)) (s k : Nat) : Int × Int := ((List.range k).filter (fun a => s.testBit a)).foldl (fun p a => stepC p ((costN x a s : Int) + (l.getD (s - 2 ^ a) (0, 0)).1) (l.getD (s - 2 ^ a) (0, 0)).2) (-1, 0)
/-- The entry of the set s: the fewest reversals of an order of it, and how many orders have it. -/
def entF (x : TourV) (l : List (Int × Int)) (s : Nat) : Int × Int := if s = 0 then (0, 1) else entT x l s 8
def tabF (x : TourV) : Nat → List (Int × Int)
  | 0 => []
  | s + 1 => tabF x s ++ [entF x (tabF x s) s]
theorem tabF_len (x : TourV) : ∀ s, (tabF x s).length = s := by
  intro s
  induction s with
  | zero => rfl
  | succ s ih => rw [tabF, List.length_append, ih]; rfl
theorem tabF_at (x : TourV) {s m : Nat} (h : s < m) : (tabF x m)[s]? = some (entF x (tabF x s) s) := by
  induction m with
  | zero => omega
  | succ m ih =>
    rw [tabF]
    rcases Nat.eq_or_lt_of_le (Nat.le_of_lt_succ h) with rfl | h
    · rw [List.getElem?_append_right (by rw [tabF_len]; exact Nat.le_refl _), tabF_len, Nat.sub_self]; rfl
    · rw [List.getElem?_append_left (by rw [tabF_len]; exact h)]; exact ih h
theorem entT_in {x : TourV} {l : List (Int × Int)} {s k : Nat} (h : s.testBit k = true) : entT x l s (k + 1) = stepC (entT x l s k) ((costN x k s : Int) + (l.getD (s - 2 ^ k) (0, 0)).1) (l.getD (s - 2 ^ k) (0, 0)).2 := by
  simp [entT, List.range_succ, h]
theorem entT_out {x : TourV} {l : List (Int × Int)} {s k : Nat} (h : s.testBit k = false) : entT x l s (k + 1) = entT x l s k := by
  simp [entT, List.range_succ, h]
theorem costN_le (x : TourV) (a s : Nat) : costN x a s ≤ 8 := cntL_le _
theorem sub_all : ∀ s : Fin 256, ∀ a : Fin 8, s.val.testBit a.val = true → 2 ^ a.val ≤ s.val ∧ ∀ b : Fin 8, (s.val - 2 ^ a.val).testBit b.val = (s.val.testBit b.val && b.val != a.val) := by decide +kernel
theorem sub_bit {s a b : Nat} (hs : s < 2 ^ 8) (hin : s.testBit a = true) (hb : b < 8) : (s - 2 ^ a).testBit b = (s.testBit b && b != a) := by
  have ha : a < 8 := by
    rcases Nat.lt_or_ge a 8 with h | h
    · exact h
    · rw [bit_hi hs h] at hin; cases hin
  exact (sub_all ⟨s, hs⟩ ⟨a, ha⟩ hin).2 ⟨b, hb⟩
/-- The spec's cost is the same: the others of the set whom the first one does not beat. -/
theorem cost_eq {x : TourV} {a s : Nat} (hok : tourB x = true) (ha : a < x.wins.length) (hs : s < 2 ^ x.wins.length) (hin : s.testBit a = true) (hw : winN x a < 2 ^ x.wins.length) (hwb : (winN x a).testBit a = false) :
    cntL ((s - 2 ^ a) &&& (255 ^^^ winN x a)) = costN x a s := by
  obtain ⟨t1, t2, t3, _, _⟩ := tourB_t hok
  have hn8 : x.wins.length ≤ 8 := by omega
  obtain ⟨_, hl⟩ := loss_ok hn8 ha hw hwb
  unfold costN cntL cntT
  congr 1
  apply List.filter_congr
  intro b hb
  have hb8 : b < 8 := List.mem_range.1 hb
  rw [Nat.testBit_and, Nat.testBit_and, Nat.testBit_xor, hl b hb8]
  have h255 : ∀ i : Fin 8, (255 : Nat).testBit i.val = true := by decide
  rw [h255 ⟨b, hb8⟩]
  have hsub : (s - 2 ^ a).testBit b = (s.testBit b && b != a) := sub_bit (Nat.lt_of_lt_of_le hs (Nat.pow_le_pow_right (by omega) hn8)) hin hb8
  rw [hsub]
  cases hsb : s.testBit b
  · simp
  · have hbn : b < x.wins.length := by
      rcases Nat.lt_or_ge b x.wins.length with h | h
      · exact h
      · rw [Nat.testBit_lt_two_pow (Nat.lt_of_lt_of_le hs (Nat.pow_le_pow_right (by omega) h))] at hsb; cases hsb
    simp [hbn, Bool.and_comm]
theorem stepC_bd {p : Int × Int} {cost ways B W : Int} {k : Nat} (h0 : 0 ≤ cost) (h1 : cost ≤ B) (h2 : 0 ≤ ways) (h3 : ways ≤ W)
    (hp : p = (-1, 0) ∨ (0 ≤ p.1 ∧ p.1 ≤ B ∧ 0 ≤ p.2 ∧ p.2 ≤ k * W)) : 0 ≤ (stepC p cost ways).1 ∧ (stepC p cost ways).1 ≤ B ∧ 0 ≤ (stepC p cost ways).2 ∧ (stepC p cost ways).2 ≤ ((k : Int) + 1) * W := by
  have e : ((k : Int) + 1) * W = k * W + W := by rw [Int.add_mul, Int.one_mul]
  have hk : 0 ≤ (k : Int) * W := Int.mul_nonneg (by omega) (by omega)
  rw [e]
  unfold stepC
  rcases hp with rfl | ⟨p1, p2, p3, p4⟩
  · rw [if_pos (Or.inl (by decide))]; dsimp only; omega
  · split
    · dsimp only; omega
    · split
      · dsimp only; omega
      · omega
theorem entT_bd {x : TourV} {l : List (Int × Int)} {s : Nat} {B W : Int} (hW : 0 ≤ W) (hl : ∀ a, a < 8 → s.testBit a = true → 0 ≤ (l.getD (s - 2 ^ a) (0, 0)).1 ∧ (l.getD (s - 2 ^ a) (0, 0)).1 ≤ B ∧ 0 ≤ (l.getD (s - 2 ^ a) (0, 0)).2 ∧ (l.getD (s - 2 ^ a) (0, 0)).2 ≤ W) :
    ∀ k, k ≤ 8 → (entT x l s k = (-1, 0) ∧ ∀ a, a < k → s.testBit a = false) ∨ (0 ≤ (entT x l s k).1 ∧ (entT x l s k).1 ≤ 8 + B ∧ 0 ≤ (entT x l s k).2 ∧ (entT x l s k).2 ≤ k * W) := by
  intro k
  induction k with
  | zero => intro _; exact .inl ⟨rfl, fun a h => absurd h (Nat.not_lt_zero _)⟩
  | succ k ih =>
    intro hk
    have ih := ih (by omega)
    cases hb : s.testBit k
    · rw [entT_out hb]
      rcases ih with ⟨h1, h2⟩ | ⟨h1, h2, h3, h4⟩
      · refine .inl ⟨h1, fun a ha => ?_⟩
        rcases Nat.eq_or_lt_of_le (Nat.le_of_lt_succ ha) with rfl | ha
        · exact hb
        · exact h2 a ha
      · refine .inr ⟨h1, h2, h3, ?_⟩
        rw [Int.natCast_add, Int.natCast_one, Int.add_mul, Int.one_mul]; omega
    · rw [entT_in hb]
      obtain ⟨q1, q2, q3, q4⟩ := hl k (by omega) hb
      have hc := costN_le x k s
      refine .inr ?_
      rw [Int.natCast_add, Int.natCast_one]
      refine stepC_bd (by omega) (by omega) q3 q4 ?_
      rcases ih with ⟨h1, _⟩ | h
      · exact .inl h1
      · exact .inr h
theorem sub_cnt_all : ∀ s : Fin 256, ∀ a : Fin 8, s.val.testBit a.val = true → cntL (s.val - 2 ^ a.val) + 1 = cntL s.val := by decide +kernel
theorem cnt_zero_all : ∀ s : Fin 256, (∀ a : Fin 8, s.val.testBit a.val = false) → s.val = 0 := by decide +kernel
/-- The bounds of an entry. -/
structure EntOk (s : Nat) (p : Int × Int) : Prop where
  lo : 0 ≤ p.1
  hi : p.1 ≤ 8 * (cntL s : Int)
  w0 : 0 ≤ p.2
  w1 : p.2 ≤ 8 ^ cntL s
theorem entF_ok (x : TourV) : ∀ s, s < 256 → EntOk s (entF x (tabF x s) s) := by
  intro s
  induction s using Nat.strongRecOn with
  | ind s ih =>
    intro hs
    by_cases h0 : s = 0
    · subst h0
      refine ⟨by simp [entF], by simp only [entF, if_true]; omega, by simp [entF], by simp only [entF, if_true]; decide⟩
    · have hl : ∀ a, a < 8 → s.testBit a = true → 0 ≤ ((tabF x s).getD (s - 2 ^ a) (0, 0)).1 ∧ ((tabF x s).getD (s - 2 ^ a) (0, 0)).1 ≤ 8 * ((cntL s : Int) - 1) ∧ 0 ≤ ((tabF x s).getD (s - 2 ^ a) (0, 0)).2 ∧ ((tabF x s).getD (s - 2 ^ a) (0, 0)).2 ≤ 8 ^ (cntL s - 1) := by
        intro a ha hb
        have hle := (sub_all ⟨s, hs⟩ ⟨a, ha⟩ hb).1
        have hp : 0 < 2 ^ a := Nat.pow_pos (by omega)
        have hlt : s - 2 ^ a < s := by simp only at hle; omega
        have hk := ih (s - 2 ^ a) hlt (by omega)
        have hc := sub_cnt_all ⟨s, hs⟩ ⟨a, ha⟩ hb
        simp only at hc
        have hat := tabF_at x hlt
        rw [List.getD_eq_getElem?_getD, hat, Option.getD_some]
        refine ⟨hk.lo, ?_, hk.w0, ?_⟩
        · have := hk.hi; omega
        · have := hk.w1
          rwa [show cntL (s - 2 ^ a) = cntL s - 1 by omega] at this
      have hW : (0 : Int) ≤ 8 ^ (cntL s - 1) := Int.pow_nonneg (by omega)
      have h := entT_bd (x := x) hW hl 8 (Nat.le_refl _)
      rw [entF, if_neg h0]
      rcases h with ⟨_, h⟩ | ⟨h1, h2, h3, h4⟩
      · exact absurd (cnt_zero_all ⟨s, hs⟩ (fun a => h a.val a.isLt)) h0
      · have hc1 : 1 ≤ cntL s := by
          rcases Nat.eq_zero_or_pos (cntL s) with hz | hz
          · exfalso
            apply h0
            refine cnt_zero_all ⟨s, hs⟩ (fun a => ?_)
            cases hb : s.testBit a.val
            · rfl
            · have hc := sub_cnt_all ⟨s, hs⟩ a hb
              simp only at hc; omega
          · exact hz
        refine ⟨h1, by omega, h3, ?_⟩
        have e : (8 : Int) ^ cntL s = 8 * 8 ^ (cntL s - 1) := by
          rw [show cntL s = (cntL s - 1) + 1 by omega, Int.pow_succ, Nat.add_sub_cancel, Int.mul_comm]
        rw [e]; exact h4

def stepM (x : TourV) (l : List (Int × Int)) (s : Nat) (p : Int × Int) (a : Int) : Int × Int := stepC p ((costN x a.toNat s : Int) + (l.getD (s - 2 ^ a.toNat) (0, 0)).1) (l.getD (s - 2 ^ a.toNat) (0, 0)).2
/-- The entry of a set as a walk along its elements. -/
theorem entT_mem (x : TourV) (l : List (Int × Int)) (s : Nat) : ∀ k, (memT s k).foldl (stepM x l s) (-1, 0) = entT x l s k := by
  intro k
  induction k with
  | zero => rfl
  | succ k ih =>
    cases h : s.testBit k
    · rw [memT_out h, ih, entT_out h]
    · rw [memT_in h, List.foldl_append, ih, entT_in h]; simp [stepM]
theorem entF_mem {x : TourV} {l : List (Int × Int)} {s : Nat} (h : s ≠ 0) : (memL s).foldl (stepM x l s) (-1, 0) = entF x l s := by rw [memL, entT_mem, entF, if_neg h]
theorem fold_snoc {x : TourV} {l : List (Int × Int)} {s j : Nat} {L : List Int} {a : Int} (h : L[j]? = some a) : (L.take (j + 1)).foldl (stepM x l s) (-1, 0) = stepM x l s ((L.take j).foldl (stepM x l s) (-1, 0)) a := by
  rw [take_snoc h, List.foldl_append]; rfl
/-- The bounds along the walk: each entry that is met lies in the table. -/
theorem fold_bd {x : TourV} {s : Nat} (hs : s < 256) : ∀ j, j ≤ 8 → ((memL s).take j).foldl (stepM x (tabF x s) s) (-1, 0) = (-1, 0) ∨
    (0 ≤ (((memL s).take j).foldl (stepM x (tabF x s) s) (-1, 0)).1 ∧ (((memL s).take j).foldl (stepM x (tabF x s) s) (-1, 0)).1 ≤ 72 ∧ 0 ≤ (((memL s).take j).foldl (stepM x (tabF x s) s) (-1, 0)).2 ∧ (((memL s).take j).foldl (stepM x (tabF x s) s) (-1, 0)).2 ≤ (j : Int) * 16777216) := by
  intro j
  induction j with
  | zero => intro _; exact .inl (by simp)
  | succ j ih =>
    intro hj
    have ih := ih (by omega)
    rcases Nat.lt_or_ge j (memL s).length with h | h
    · have hg : (memL s)[j]? = some (memL s)[j] := List.getElem?_eq_getElem h
      obtain ⟨a, e, ha, hb⟩ := memT_mem.1 (List.mem_of_getElem? hg)
      rw [fold_snoc hg, e]
      have hle := (sub_all ⟨s, hs⟩ ⟨a, ha⟩ hb).1
      have hp : 0 < 2 ^ a := Nat.pow_pos (by omega)
      have hlt : s - 2 ^ a < s := by simp only at hle; omega
      have hk := entF_ok x (s - 2 ^ a) (by omega)
      have hc := cntL_le (s - 2 ^ a)
      have hw : (8 : Int) ^ cntL (s - 2 ^ a) ≤ 16777216 := by
        have h1 : ∀ c : Fin 9, (8 : Int) ^ c.val ≤ 16777216 := by decide
        exact h1 ⟨cntL (s - 2 ^ a), Nat.lt_succ_of_le hc⟩
      have hat := tabF_at x hlt
      have hcn := costN_le x a s
      unfold stepM
      rw [Int.toNat_natCast, List.getD_eq_getElem?_getD, hat, Option.getD_some]
      refine .inr ?_
      rw [Int.natCast_add, Int.natCast_one]
      have h1 := hk.lo
      have h2 := hk.hi
      have h3 := hk.w1
      exact stepC_bd (by omega) (by omega) hk.w0 (by omega) ih
    · rw [List.take_of_length_le (by omega), ← List.take_of_length_le (l := memL s) (i := j) h]
      rcases ih with h1 | ⟨h1, h2, h3, h4⟩
      · exact .inl h1
      · refine .inr ⟨h1, h2, h3, ?_⟩
        rw [Int.natCast_add, Int.natCast_one, Int.add_mul, Int.one_mul]; omega
end Go.Proofs.YtofpaekokmkhgaaGreatDoor
namespace Go.Proofs.YtofpaekokmkhgaaGreatDoor
open Go.ChangeShapes Go.WideShapes Go.ChangeAt Go.RowKit

theorem natBeq (a b : Nat) : ((a : Int) == (b : Int)) = decide (a = b) := by
  by_cases h : a = b
  · subst h; simp
  · rw [decide_eq_false h]; exact beq_eq_false_iff_ne.2 (by omega)
theorem wrapT {T : Nat} (h1 : 1 ≤ T) (h2 : T ≤ 256) : wrap64 (T : Int) = T ∧ wrap64 ((T : Int) - 1) = T - 1 := ⟨by unfold wrap64; omega, by unfold wrap64; omega⟩

theorem add_or8 {v b : Nat} (hb : b < 8) (hv : v < 2 ^ b) : v + 2 ^ b = v ||| 2 ^ b := by
  have h256 : (2 : Nat) ^ b ≤ 256 := Nat.pow_le_pow_right (by omega) (show b ≤ 8 by omega)
  exact add_or ⟨b, hb⟩ ⟨v, by omega⟩ hv
end Go.Proofs.YtofpaekokmkhgaaGreatDoor
namespace Go.Proofs.YtofpaekokmkhgaaGreatDoor
open Go.ChangeShapes Go.WideShapes Go.ChangeAt Go.RowKit

/-- The games of the pairs ahead of (a, b) are laid, no others. -/
structure PvT (xs : List Int) (n a b : Nat) : Prop where
  len : xs.length = n
  ge : ∀ w ∈ xs, 0 ≤ w
  hi : ∀ i j, i < n → n ≤ j → bt xs i j = false
  irr : ∀ i, i < n → bt xs i i = false
  don : ∀ i j, i < j → j < n → (i < a ∨ (i = a ∧ j < b)) → bt xs i j ≠ bt xs j i
  und : ∀ i j, i < j → j < n → ¬ (i < a ∨ (i = a ∧ j < b)) → bt xs i j = false ∧ bt xs j i = false
theorem PvT.start (n : Nat) : PvT (List.replicate n 0) n 0 1 := by
  have h0 : ∀ i j, bt (List.replicate n 0) i j = false := by
    intro i j
    have e : (List.replicate n (0 : Int)).getD i 0 = 0 := by
      rw [List.getD_eq_getElem?_getD, List.getElem?_replicate]; split <;> rfl
    rw [bt, e]; simp
  exact ⟨by simp, fun w hw => by rw [(List.mem_replicate.1 hw).2]; exact Int.le_refl _, fun i j _ _ => h0 i j, fun i _ => h0 i i, fun i j h1 h2 h3 => by omega, fun i j _ _ _ => ⟨h0 i j, h0 j i⟩⟩
theorem PvT.next {xs : List Int} {n a : Nat} (h : PvT xs n a n) : PvT xs n (a + 1) (a + 2) :=
  ⟨h.len, h.ge, h.hi, h.irr, fun i j h1 h2 h3 => h.don i j h1 h2 (by omega), fun i j h1 h2 h3 => h.und i j h1 h2 (by omega)⟩
theorem bt_set {xs : List Int} {a i j : Nat} {w : Int} (ha : a < xs.length) : bt (xs.set a w) i j = if i = a then w.toNat.testBit j else bt xs i j := by
  unfold bt
  rw [List.getD_eq_getElem?_getD, List.getElem?_set]
  by_cases h : a = i
  · subst h
    rw [if_pos rfl, if_pos ha, if_pos rfl]; rfl
  · rw [if_neg h, if_neg (fun e => h e.symm), List.getD_eq_getElem?_getD]
theorem lt_bits {w k : Nat} (h : ∀ j, k ≤ j → w.testBit j = false) : w < 2 ^ k := Nat.lt_pow_two_of_testBit w h
/-- The entry of a row whose bits from k on are not set, with the bit k. -/
theorem add_bit {w k : Nat} (hk : k < 8) (h : ∀ j, k ≤ j → w.testBit j = false) (j : Nat) : (w + 2 ^ k).testBit j = (w.testBit j || decide (k = j)) := by
  rw [add_or8 hk (lt_bits h), Nat.testBit_or, Nat.testBit_two_pow]
/-- The game of a against b is laid: the row r gets the bit c (a wins: r = a, c = b; b wins: r = b, c = a). -/
theorem PvT.lay {xs : List Int} {n a b r c : Nat} {w : Int} (h : PvT xs n a b) (hn : n ≤ 8) (hab : a < b) (hb : b < n) (hrc : (r = a ∧ c = b) ∨ (r = b ∧ c = a)) (hw : xs[r]? = some w) :
    0 ≤ w ∧ w < 256 ∧ PvT (xs.set r (w + ((2 ^ c : Nat) : Int))) n a (b + 1) := by
  have hr : r < xs.length := (List.getElem?_eq_some_iff.1 hw).1
  have hrn : r < n := by omega
  have hcn : c < n := by omega
  have hw0 := h.ge w (List.mem_of_getElem? hw)
  have ew : ∀ j, bt xs r j = w.toNat.testBit j := fun j => by rw [bt, List.getD_eq_getElem?_getD, hw]; rfl
  have hup : ∀ j, c ≤ j → w.toNat.testBit j = false := by
    intro j hj
    rw [← ew j]
    rcases Nat.lt_or_ge j n with hjn | hjn
    · rcases hrc with ⟨rfl, rfl⟩ | ⟨rfl, rfl⟩
      · exact (h.und r j (by omega) hjn (by omega)).1
      · rcases Nat.lt_trichotomy j r with h1 | h1 | h1
        · exact (h.und j r h1 hb (by omega)).2
        · subst h1; exact h.irr j hrn
        · exact (h.und r j h1 hjn (by omega)).1
    · exact h.hi r j hrn hjn
  have hlt := lt_bits hup
  have h256 : (2 : Nat) ^ c ≤ 2 ^ 7 := Nat.pow_le_pow_right (by omega) (by omega)
  have et : (w + ((2 ^ c : Nat) : Int)).toNat = w.toNat + 2 ^ c := by omega
  have hbit : ∀ i j, bt (xs.set r (w + ((2 ^ c : Nat) : Int))) i j = (bt xs i j || (decide (i = r) && decide (c = j))) := by
    intro i j
    rw [bt_set hr]
    by_cases hi : i = r
    · subst hi
      rw [if_pos rfl, et, add_bit (by omega) hup, ew]; simp
    · rw [if_neg hi]; simp [hi]
  refine ⟨hw0, by omega, ⟨by rw [List.length_set]; exact h.len, ?_, ?_, ?_, ?_, ?_⟩⟩
  · intro y hy
    rcases List.mem_or_eq_of_mem_set hy with hy | hy
    · exact h.ge y hy
    · rw [hy]; omega
  · intro i j hi hj
    have hcj : ¬ c = j := by omega
    rw [hbit, h.hi i j hi hj]; simp [hcj]
  · intro i hi
    rw [hbit, h.irr i hi]
    have : ¬ (i = r ∧ c = i) := by omega
    by_cases h1 : i = r
    · have h2 : ¬ c = i := fun e => this ⟨h1, e⟩
      simp [h2]
    · simp [h1]
  · intro i j hij hj hd
    rw [hbit, hbit]
    by_cases hp : i = a ∧ j = b
    · obtain ⟨rfl, rfl⟩ := hp
      obtain ⟨u1, u2⟩ := h.und i j hij hj (by omega)
      rw [u1, u2]
      rcases hrc with ⟨rfl, rfl⟩ | ⟨rfl, rfl⟩
      · have h1 : ¬ c = r := by omega
        simp [h1]
      · have h1 : ¬ c = r := by omega
        simp [h1]
    · have hd2 := h.don i j hij hj (by omega)
      have n1 : (decide (i = r) && decide (c = j)) = false := by
        cases h1 : (decide (i = r) && decide (c = j))
        · rfl
        · simp at h1; omega
      have n2 : (decide (j = r) && decide (c = i)) = false := by
        cases h1 : (decide (j = r) && decide (c = i))
        · rfl
        · simp at h1; omega
      rw [n1, n2, Bool.or_false, Bool.or_false]; exact hd2
  · intro i j hij hj hd
    obtain ⟨u1, u2⟩ := h.und i j hij hj (by omega)
    rw [hbit, hbit, u1, u2]
    have n1 : (decide (i = r) && decide (c = j)) = false := by
      cases h1 : (decide (i = r) && decide (c = j))
      · rfl
      · simp at h1; omega
    have n2 : (decide (j = r) && decide (c = i)) = false := by
      cases h1 : (decide (j = r) && decide (c = i))
      · rfl
      · simp at h1; omega
    rw [n1, n2]; exact ⟨rfl, rfl⟩
theorem PvT.ok {xs : List Int} {n : Nat} (h : PvT xs n n (n + 1)) (h1 : 1 ≤ n) (hn : n ≤ 8) : tourB ⟨(n : Int), xs⟩ = true := by
  have hl := h.len
  have hwb : winsB xs.length xs = true := by
    unfold winsB
    rw [List.all_eq_true]
    intro w hw
    obtain ⟨i, hi, e⟩ := List.mem_iff_getElem.1 hw
    have hlt : w.toNat < 2 ^ n := lt_bits (fun j hj => by
      have := h.hi i j (by omega) hj
      rw [bt, List.getD_eq_getElem?_getD, List.getElem?_eq_getElem hi, e] at this
      exact this)
    have h3 : (2 : Int) ^ xs.length = ((2 ^ n : Nat) : Int) := by rw [hl, Int.natCast_pow]; rfl
    have := h.ge w hw
    rw [inB_t, h3]
    omega
  rw [tourB_go (x := ⟨(n : Int), xs⟩) (inB_t.2 ⟨by show (1 : Int) ≤ (n : Int); omega, by show (n : Int) ≤ 8; omega⟩) (by show (xs.length : Int) = (n : Int); omega) hwb]
  refine rows_all (fun a ha => rowB_all (fun b hb => ?_) (h.irr a (by have : a < xs.length := ha; omega)))
  have ha' : a < xs.length := ha
  exact (h.don b a hb (by omega) (by omega)).symm
end Go.Proofs.YtofpaekokmkhgaaGreatDoor
