/- Plain facts on orders of the numbers below n. -/
import Derived.Test.YtklhplifceedeaaDoorOrd
namespace Go.Proofs.YtklhplifceedeaaDoor
open Go.ChangeShapes Go.WideShapes Go.ChangeAt Go.RowKit

/-- The numbers below n, as integers. -/
def upto (n : Nat) : List Int := (List.range n).map fun (k : Nat) => (k : Int)
theorem upto_length (n : Nat) : (upto n).length = n := by simp [upto]
theorem upto_succ (n : Nat) : upto (n + 1) = upto n ++ [(n : Int)] := by simp [upto, List.range_succ]
theorem upto_get {n k : Nat} (h : k < n) : (upto n)[k]? = some (k : Int) := by simp [upto, h]
theorem mem_upto {n : Nat} {x : Int} : x ∈ upto n ↔ 0 ≤ x ∧ x < n := by
  simp only [upto, List.mem_map, List.mem_range]
  constructor
  · rintro ⟨k, hk, rfl⟩; omega
  · rintro ⟨h1, h2⟩; exact ⟨x.toNat, by omega, by omega⟩
theorem nodup_bound : ∀ (n : Nat) (a : List Int), a.Nodup → (∀ x ∈ a, 0 ≤ x ∧ x < n) → a.length ≤ n := by
  intro n
  induction n with
  | zero =>
    intro a _ h
    cases a with
    | nil => simp
    | cons x a => have := h x (by simp); omega
  | succ n ih =>
    intro a hd h
    by_cases hm : (n : Int) ∈ a
    · have h1 : (a.erase (n : Int)).length = a.length - 1 := List.length_erase_of_mem hm
      have h2 := ih (a.erase (n : Int)) (hd.erase _) (fun x hx => by
        have hx' := List.mem_of_mem_erase hx
        have hne : x ≠ (n : Int) := by
          rintro rfl
          exact (List.Nodup.not_mem_erase hd) hx
        have := h x hx'
        omega)
      have h3 : 0 < a.length := List.length_pos_of_mem hm
      omega
    · have := ih a hd (fun x hx => by
        have := h x hx
        have hne : x ≠ (n : Int) := by rintro rfl; exact hm hx
        omega)
      omega
theorem perm_upto : ∀ (n : Nat) (a : List Int), a.Nodup → (∀ x ∈ a, 0 ≤ x ∧ x < n) → a.length = n → a.Perm (upto n) := by
  intro n
  induction n with
  | zero =>
    intro a _ _ hl
    rw [List.eq_nil_of_length_eq_zero hl]; exact List.Perm.refl _
  | succ n ih =>
    intro a hd h hl
    have hm : (n : Int) ∈ a := by
      by_cases hm : (n : Int) ∈ a
      · exact hm
      · have := nodup_bound n a hd (fun x hx => by
          have := h x hx
          have hne : x ≠ (n : Int) := by rintro rfl; exact hm hx
          omega)
        omega
    have h1 : (a.erase (n : Int)).length = a.length - 1 := List.length_erase_of_mem hm
    have h2 := ih (a.erase (n : Int)) (hd.erase _) (fun x hx => by
        have hx' := List.mem_of_mem_erase hx
        have hne : x ≠ (n : Int) := by
          rintro rfl
          exact (List.Nodup.not_mem_erase hd) hx
        have := h x hx'
        omega) (by omega)
    rw [upto_succ]
    exact (List.perm_cons_erase hm).trans ((List.Perm.cons _ h2).trans (List.perm_append_singleton _ _).symm)
theorem ladB_perm {a : List Int} (h : ladB a = true) : a.Perm (upto a.length) := by
  obtain ⟨_, h1, h2⟩ := ladB_t h
  exact perm_upto _ _ h2 h1 rfl
theorem ladB_mem {a : List Int} (h : ladB a = true) {v : Nat} (hv : v < a.length) : (v : Int) ∈ a := (ladB_perm h).mem_iff.2 (mem_upto.2 ⟨by omega, by omega⟩)
/-- In an order the place of what stands at k is k. -/
theorem plc_at {a : List Int} (hd : a.Nodup) {k : Nat} {x : Int} (h : a[k]? = some x) : plc a x = k := by
  have hk : k < a.length := by
    rcases Nat.lt_or_ge k a.length with h' | h'
    · exact h'
    · rw [List.getElem?_eq_none h'] at h; cases h
  have hx : a[k] = x := by rw [List.getElem?_eq_getElem hk] at h; injection h
  refine idxF_hit ?_ h (by simp)
  rw [List.all_eq_true]
  intro y hy
  rw [List.mem_take_iff_getElem] at hy
  obtain ⟨i, hi, rfl⟩ := hy
  rw [List.nodup_iff_pairwise_ne, List.pairwise_iff_getElem] at hd
  have := hd i k (by omega) hk (by omega)
  simp only [Bool.not_eq_true', beq_eq_false_iff_ne]
  rw [← hx]; exact fun e => this e.symm
theorem plc_mem {a : List Int} {x : Int} (h : x ∈ a) : 0 ≤ plc a x ∧ plc a x < a.length ∧ a[(plc a x).toNat]? = some x := by
  have h1 := plc_ge a x
  have h2 : a.contains x = true := by simpa using h
  rw [h2, decide_eq_true_eq] at h1
  have h3 := plc_bd a x
  refine ⟨h1, h3.2, ?_⟩
  unfold plc idxF at h1 ⊢
  cases hf : a.findIdx? (fun y => x == y) with
  | none => rw [hf] at h1; exact absurd h1 (by decide)
  | some k =>
    rw [List.findIdx?_eq_some_iff_getElem] at hf
    obtain ⟨hk, hp, _⟩ := hf
    show a[((k : Nat) : Int).toNat]? = _
    rw [Int.toNat_natCast, List.getElem?_eq_getElem hk]
    simp only [beq_iff_eq] at hp
    rw [hp]
theorem plc_none {a : List Int} {x : Int} (h : x ∉ a) : plc a x = -1 := by
  refine idxF_none ?_
  rw [List.all_eq_true]
  intro y hy
  simp only [Bool.not_eq_true', beq_eq_false_iff_ne]
  rintro rfl; exact h hy
/-- For each number, its place. -/
def invL (a : List Int) : List Int := (upto a.length).map (plc a)
theorem invL_length (a : List Int) : (invL a).length = a.length := by simp [invL, upto_length]
theorem invL_get {a : List Int} {v : Nat} (h : v < a.length) : (invL a)[v]? = some (plc a v) := by simp [invL, upto_get h]
end Go.Proofs.YtklhplifceedeaaDoor
