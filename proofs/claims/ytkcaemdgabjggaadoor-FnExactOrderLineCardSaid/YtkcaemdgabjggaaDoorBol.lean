/- Orders with few reversals: the first best order: plain facts. -/
import Derived.Test.YtkcaemdgabjggaaDoorOlw
namespace Go.Proofs.YtkcaemdgabjggaaDoor
open Go.ChangeShapes Go.WideShapes Go.ChangeAt Go.RowKit

/-- The fewest reversals of an order of the set s. -/
def fe (x : TourV) (s : Nat) : Int := (entF x (tabF x s) s).1
theorem fsts_fe {x : TourV} {t s : Nat} (h : t < s) : (fsts x s)[t]? = some (fe x t) := by
  rw [fsts_at h, List.getD_eq_getElem?_getD, tabF_at x h]; rfl
theorem fe_bd {x : TourV} {s : Nat} (h : s < 256) : 0 ≤ fe x s ∧ fe x s ≤ 64 := by
  have h1 := (entF_ok x s h).lo
  have h2 := (entF_ok x s h).hi
  have h3 := cntL_le s
  unfold fe
  omega
/-- The player y may be the first one of a best order of the set s. -/
def okF (x : TourV) (s : Nat) (y : Int) : Bool := decide ((costN x y.toNat s : Int) + fe x (s - 2 ^ y.toNat) = fe x s)
def pickF (x : TourV) (s : Nat) : Option Int := (memL s).find? (okF x s)
def bestL (x : TourV) : Nat → Nat → List Int
  | 0, _ => []
  | k + 1, s => match pickF x s with
    | some a => a :: bestL x k (s - 2 ^ a.toNat)
    | none => []
theorem stepC_one (p : Int × Int) (cost ways : Int) : (stepC p cost ways).1 = cost ∨ ((stepC p cost ways).1 = p.1 ∧ 0 ≤ p.1) := by
  unfold stepC
  split
  · exact .inl rfl
  · next h =>
    split
    · next h2 => exact .inl h2.symm
    · exact .inr ⟨rfl, by omega⟩
theorem entT_from (x : TourV) (l : List (Int × Int)) (s : Nat) : ∀ k, (entT x l s k = (-1, 0) ∧ ∀ a, a < k → s.testBit a = false) ∨ ∃ a, a < k ∧ s.testBit a = true ∧ (entT x l s k).1 = (costN x a s : Int) + (l.getD (s - 2 ^ a) (0, 0)).1 := by
  intro k
  induction k with
  | zero => exact .inl ⟨rfl, fun a h => absurd h (Nat.not_lt_zero _)⟩
  | succ k ih =>
    cases hb : s.testBit k
    · rw [entT_out hb]
      rcases ih with ⟨h1, h2⟩ | ⟨a, h1, h2, h3⟩
      · refine .inl ⟨h1, fun a ha => ?_⟩
        rcases Nat.eq_or_lt_of_le (Nat.le_of_lt_succ ha) with rfl | ha
        · exact hb
        · exact h2 a ha
      · exact .inr ⟨a, by omega, h2, h3⟩
    · rw [entT_in hb]
      refine .inr ?_
      rcases stepC_one (entT x l s k) ((costN x k s : Int) + (l.getD (s - 2 ^ k) (0, 0)).1) (l.getD (s - 2 ^ k) (0, 0)).2 with h | ⟨h, h0⟩
      · exact ⟨k, Nat.lt_succ_self _, hb, h⟩
      · rcases ih with ⟨h1, _⟩ | ⟨a, h1, h2, h3⟩
        · rw [h1] at h0; exact absurd h0 (by decide)
        · exact ⟨a, by omega, h2, h.trans h3⟩
theorem pick_some {x : TourV} {s : Nat} (h0 : s ≠ 0) (hs : s < 256) : ∃ a, a < 8 ∧ s.testBit a = true ∧ okF x s (a : Int) = true := by
  rcases entT_from x (tabF x s) s 8 with ⟨_, h⟩ | ⟨a, h1, h2, h3⟩
  · exact absurd (cnt_zero_all ⟨s, hs⟩ (fun a => h a.val a.isLt)) h0
  · refine ⟨a, h1, h2, ?_⟩
    have hle := (sub_all ⟨s, hs⟩ ⟨a, h1⟩ h2).1
    have hp : 0 < 2 ^ a := Nat.pow_pos (by omega)
    have hlt : s - 2 ^ a < s := by simp only at hle; omega
    rw [List.getD_eq_getElem?_getD, tabF_at x hlt, Option.getD_some] at h3
    have e : fe x s = (costN x a s : Int) + fe x (s - 2 ^ a) := by
      unfold fe
      rw [entF, if_neg h0]
      exact h3
    rw [okF, Int.toNat_natCast, e]
    exact decide_eq_true rfl
theorem pick_end {x : TourV} {s : Nat} (h0 : s ≠ 0) (hs : s < 256) (h : ∀ y ∈ memL s, okF x s y = false) : False := by
  obtain ⟨a, h1, h2, h3⟩ := pick_some (x := x) h0 hs
  rw [h (a : Int) (memT_mem.2 ⟨a, rfl, h1, h2⟩)] at h3
  cases h3
theorem pick_at {x : TourV} {s j : Nat} {y : Int} (hy : (memL s)[j]? = some y) (h : ∀ u ∈ (memL s).take j, okF x s u = false) (hok : okF x s y = true) : pickF x s = some y := by
  obtain ⟨hl, e⟩ := List.getElem?_eq_some_iff.1 hy
  have e2 : memL s = (memL s).take j ++ (y :: (memL s).drop (j + 1)) := by
    rw [← e, ← List.drop_eq_getElem_cons hl, List.take_append_drop]
  rw [pickF, e2, List.find?_append, List.find?_eq_none.2 (fun u hu => by simp [h u hu])]
  simp [hok]
theorem bestL_step {x : TourV} {k s : Nat} {a : Nat} (h : pickF x s = some (a : Int)) : bestL x (k + 1) s = (a : Int) :: bestL x k (s - 2 ^ a) := by rw [bestL, h]; rfl
theorem bestL_end (x : TourV) (k : Nat) : bestL x k 0 = [] := by
  cases k with
  | zero => rfl
  | succ k => rfl
theorem bestL_mem {x : TourV} : ∀ (k s : Nat), ∀ y ∈ bestL x k s, 0 ≤ y ∧ y < 8 := by
  intro k
  induction k with
  | zero => intro s y hy; simp [bestL] at hy
  | succ k ih =>
    intro s y hy
    rw [bestL] at hy
    split at hy
    · next a ha =>
      rcases List.mem_cons.1 hy with rfl | hy
      · obtain ⟨b, rfl, hb, _⟩ := memT_mem.1 (List.mem_of_find?_eq_some ha)
        omega
      · exact ih _ y hy
    · simp at hy
theorem bestL_len {x : TourV} : ∀ (k s : Nat), (bestL x k s).length ≤ k := by
  intro k
  induction k with
  | zero => intro s; simp [bestL]
  | succ k ih =>
    intro s
    rw [bestL]
    split
    · rw [List.length_cons]; have := ih (s - 2 ^ (‹Int›).toNat); omega
    · simp
theorem cnt_sub {s a : Nat} (hs : s < 256) (ha : a < 8) (h : s.testBit a = true) : cntL (s - 2 ^ a) + 1 = cntL s := sub_cnt_all ⟨s, hs⟩ ⟨a, ha⟩ h
end Go.Proofs.YtkcaemdgabjggaaDoor
