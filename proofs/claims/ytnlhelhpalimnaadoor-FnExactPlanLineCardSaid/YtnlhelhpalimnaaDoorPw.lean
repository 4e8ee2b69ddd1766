/- A round of a plan as text: contracts. -/
import Derived.Test.YtnlhelhpalimnaaDoorPn
import Derived.Test.YtnlhelhpalimnaaDoorPm
import Derived.Test.YtnlhelhpalimnaaDoorFz
namespace Go.Proofs.YtnlhelhpalimnaaDoor
open Go.ChangeShapes Go.WideShapes Go.ChangeAt Go.RowKit

theorem planB_row {n : Int} {P : List (List Int)} (h : planB n P = true) {r : Nat} {R : List Int} (hr : P[r]? = some R) : 2 ≤ n ∧ n ≤ 10 ∧ (R.length : Int) = n ∧ ∀ k, k < R.length → -n ≤ R.getD k 0 ∧ R.getD k 0 ≤ n := by
  unfold planB clubsB at h
  simp only [Bool.and_eq_true] at h
  have h1 := inB_t.1 h.1.1
  have h2 := List.all_eq_true.1 h.2.2 R (List.mem_of_getElem? hr)
  unfold roundB at h2
  rw [Bool.and_eq_true] at h2
  refine ⟨h1.1, h1.2, by simpa using h2.1, fun k hk => ?_⟩
  have h3 := allTo_t.1 h2.2 k hk
  unfold elB at h3
  simp only [Bool.and_eq_true] at h3
  exact inB_t.1 h3.2.1

def wordAt (k : Nat) (v : Int) : List UInt8 := Lib.itoa k ++ [45] ++ Lib.itoa (v - 1)
def wordsTo (R : List Int) : Nat → List (List UInt8)
  | 0 => []
  | j + 1 => if 0 < R.getD j 0 then wordsTo R j ++ [wordAt j (R.getD j 0)] else wordsTo R j
theorem wordsTo_pos {R : List Int} {j : Nat} {v : Int} (hv : R.getD j 0 = v) (h : 0 < v) : wordsTo R (j + 1) = wordsTo R j ++ [wordAt j v] := by
  rw [wordsTo, hv, if_pos h]
theorem wordsTo_neg {R : List Int} {j : Nat} {v : Int} (hv : R.getD j 0 = v) (h : ¬ 0 < v) : wordsTo R (j + 1) = wordsTo R j := by
  rw [wordsTo, hv, if_neg h]
theorem wordsTo_le (R : List Int) (j : Nat) : (wordsTo R j).length ≤ j := by
  induction j with
  | zero => simp [wordsTo]
  | succ j ih =>
    rw [wordsTo]
    split
    · simp only [List.length_append, List.length_singleton]; omega
    · omega
theorem wordAt_len {k : Nat} {v : Int} (hk : k ≤ 1000) (h0 : 0 < v) (h1 : v ≤ 1000) : (wordAt k v).length ≤ 43 := by
  have h2 := Lib.itoa_length_le (k : Int) (by omega) (by omega)
  have h3 := Lib.itoa_length_le (v - 1) (by omega) (by omega)
  simp only [wordAt, List.length_append, List.length_singleton]; omega
theorem wordsTo_len {R : List Int} {j : Nat} (hj : j ≤ 1000) (h : ∀ k, k < j → R.getD k 0 ≤ 1000) : ∀ l ∈ wordsTo R j, l.length ≤ 43 := by
  induction j with
  | zero => simp [wordsTo]
  | succ j ih =>
    rw [wordsTo]
    intro l hl
    split at hl
    · rename_i h0
      rcases List.mem_append.1 hl with hl | hl
      · exact ih (by omega) (fun k hk => h k (by omega)) l hl
      · rw [List.mem_singleton.1 hl]
        exact wordAt_len (by omega) h0 (h j (by omega))
    · exact ih (by omega) (fun k hk => h k (by omega)) l hl
theorem wordsJoin_len {R : List Int} {j : Nat} (hj : j ≤ 1000) (h : ∀ k, k < j → R.getD k 0 ≤ 1000) : (Lib.join (wordsTo R j) [32]).length ≤ 44000 := by
  have h1 := join_bound (c := 32) (wordsTo_len hj h)
  have h2 := wordsTo_le R j
  omega
theorem wordB (k : Nat) (v : Int) : ((⟨(Lib.itoa k).toArray⟩ : ByteArray) ++ ⟨#[45]⟩) ++ ⟨(Lib.itoa (v - 1)).toArray⟩ = ⟨(wordAt k v).toArray⟩ := by
  rw [show (⟨#[45]⟩ : ByteArray) = ⟨[45].toArray⟩ from rfl, bcat, bcat]; rfl
def roundOk (n : Int) (P : List (List Int)) (r : Int) : Bool := planB n P && inB r 0 ((P.length : Int) - 1)
def roundText (n : Int) (P : List (List Int)) (r : Int) : List UInt8 :=
  if roundOk n P r then Lib.join (wordsTo (P.getD r.toNat []) (P.getD r.toNat []).length) [32] else [110, 111, 110, 101]
end Go.Proofs.YtnlhelhpalimnaaDoor
