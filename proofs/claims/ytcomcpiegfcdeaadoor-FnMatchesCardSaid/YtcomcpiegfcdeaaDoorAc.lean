/- A match after some games: plain law. -/
import Derived.Test.YtcomcpiegfcdeaaDoorNum
import Derived.Lib.SlTrimSet
namespace Go.Proofs.YtcomcpiegfcdeaaDoor
open Go.ChangeShapes Go.WideShapes Go.ChangeAt Go.RowKit

def courseB (l : List UInt8) : Bool := l.all fun c => c == 97 || c == 98
/-- The needs after some games; a match that is decided goes on no further. -/
def goF : Int → Int → List UInt8 → Int × Int
  | i, k, [] => (i, k)
  | i, k, c :: r => if 0 < i ∧ 0 < k then (if c = 97 then goF (i - 1) k r else goF i (k - 1) r) else (i, k)
def afterC (i k : Int) (l : List UInt8) : Int × Int := if mOk i k && (decide (l.length ≤ 39) && courseB l) then goF i k l else (-1, -1)
theorem goF_stop {i k : Int} {l : List UInt8} (h : ¬ (0 < i ∧ 0 < k)) : goF i k l = (i, k) := by
  cases l with
  | nil => rfl
  | cons c r => rw [goF, if_neg h]
theorem goF_a {i k : Int} {l : List UInt8} {n : Nat} {c : UInt8} (hc : l[n]? = some c) (hi : 0 < i) (hk : 0 < k) (h : c = 97) : goF i k (l.drop n) = goF (i - 1) k (l.drop (n + 1)) := by
  obtain ⟨hn, rfl⟩ := List.getElem?_eq_some_iff.1 hc
  rw [List.drop_eq_getElem_cons hn, goF, if_pos ⟨hi, hk⟩, if_pos h]
theorem goF_b {i k : Int} {l : List UInt8} {n : Nat} {c : UInt8} (hc : l[n]? = some c) (hi : 0 < i) (hk : 0 < k) (h : ¬ c = 97) : goF i k (l.drop n) = goF i (k - 1) (l.drop (n + 1)) := by
  obtain ⟨hn, rfl⟩ := List.getElem?_eq_some_iff.1 hc
  rw [List.drop_eq_getElem_cons hn, goF, if_pos ⟨hi, hk⟩, if_neg h]
theorem afterC_t {i k : Int} {l : List UInt8} (h1 : mOk i k = true) (h2 : l.length ≤ 39) (h3 : courseB l = true) : afterC i k l = goF i k l := by unfold afterC; rw [if_pos (by simp [h1, h2, h3])]
theorem afterC_m {i k : Int} {l : List UInt8} (h1 : mOk i k = false) : afterC i k l = (-1, -1) := by unfold afterC; simp [h1]
theorem afterC_l {i k : Int} {l : List UInt8} (h1 : ¬ l.length ≤ 39) : afterC i k l = (-1, -1) := by unfold afterC; simp [h1]
theorem afterC_c {i k : Int} {l : List UInt8} (h1 : courseB l = false) : afterC i k l = (-1, -1) := by unfold afterC; simp [h1]
theorem dropWhile_none {p : UInt8 → Bool} {l : List UInt8} (h : ∀ x ∈ l.dropWhile p, p x = true) : l.dropWhile p = [] := by
  induction l with
  | nil => rfl
  | cons a r ih =>
    by_cases ha : p a = true
    · rw [List.dropWhile_cons_of_pos ha] at h ⊢; exact ih h
    · rw [List.dropWhile_cons_of_neg ha] at h
      exact absurd (h a (by simp)) ha
theorem dropWhile_all {p : UInt8 → Bool} {l : List UInt8} : l.dropWhile p = [] ↔ ∀ x ∈ l, p x = true := by
  induction l with
  | nil => simp
  | cons a r ih =>
    by_cases ha : p a = true
    · rw [List.dropWhile_cons_of_pos ha, ih]; simp [ha]
    · rw [List.dropWhile_cons_of_neg ha]; simp [ha]
theorem trimS_nil {l cs : List UInt8} : Lib.trimS l cs = [] ↔ ∀ c ∈ l, cs.contains c = true := by
  unfold Lib.trimS Lib.trimLeftS Lib.trimRightS
  constructor
  · intro h
    have h1 := dropWhile_all.1 h
    have h2 : l.reverse.dropWhile (cs.contains ·) = [] := dropWhile_none fun x hx => h1 x (List.mem_reverse.2 hx)
    have h3 := dropWhile_all.1 h2
    intro c hc
    exact h3 c (List.mem_reverse.2 hc)
  · intro h
    have h2 : l.reverse.dropWhile (cs.contains ·) = [] := dropWhile_all.2 fun x hx => h x (List.mem_reverse.1 hx)
    rw [h2]; rfl
theorem courseB_trim {l : List UInt8} : courseB l = true ↔ Lib.trimS l [97, 98] = [] := by
  rw [trimS_nil]
  unfold courseB
  rw [List.all_eq_true]
  constructor
  · intro h c hc
    have := h c hc
    simpa using this
  · intro h c hc
    have := h c hc
    simpa using this
end Go.Proofs.YtcomcpiegfcdeaaDoor
