/- The middle order: plain facts. -/
import Derived.Test.YtnjomfmmnkjhfaaNext
import Derived.Test.YtnjomfmmnkjhfaaIx
namespace Go.Proofs.Ytnjomfmmnkjhfaa
open Go.ChangeShapes Go.WideShapes Go.ChangeAt Go.RowKit

/-- The orders of the numbers below n that begin with cur, f more numbers to come, in lexicographic order. -/
def visit (n : Nat) : Nat → List Int → List (List Int)
  | 0, cur => [cur]
  | f + 1, cur => (idxs n).flatMap fun x => if cur.contains x then [] else visit n f (cur ++ [x])
def allO (n : Nat) : List (List Int) := visit n n []
def chainB (n : Nat) : Bool :=
  ((allO n).getD 0 [] == idxs n) && (((List.range ((allO n).length - 1)).all fun k => nextOk ((allO n).getD k []) && (nextF ((allO n).getD k []) == (allO n).getD (k + 1) [])) &&
    (!nextOk ((allO n).getD ((allO n).length - 1) []) && (decide (0 < (allO n).length) && (allO n).all fun o => ladB o && (o.length == n))))
theorem chain_all : ∀ n : Fin 6, 1 ≤ n.val → chainB n.val = true := by decide +kernel
structure Chain (n : Nat) : Prop where
  pos : 0 < (allO n).length
  head : (allO n)[0]? = some (idxs n)
  next : ∀ k o, (allO n)[k]? = some o → k + 1 < (allO n).length → nextOk o = true ∧ (allO n)[k + 1]? = some (nextF o)
  last : ∀ k o, (allO n)[k]? = some o → ¬ k + 1 < (allO n).length → nextOk o = false
  lad : ∀ o ∈ allO n, ladB o = true ∧ o.length = n
theorem getD_some {α : Type} {l : List α} {k : Nat} {x d : α} (h : l[k]? = some x) : l.getD k d = x := by rw [List.getD_eq_getElem?_getD, h]; rfl
theorem chain_of {n : Nat} (h1 : 1 ≤ n) (h5 : n ≤ 5) : Chain n := by
  have h := chain_all ⟨n, by omega⟩ h1
  simp only [chainB, Bool.and_eq_true, beq_iff_eq, List.all_eq_true, List.mem_range, Bool.not_eq_true', decide_eq_true_eq] at h
  obtain ⟨a, b, c, d, e⟩ := h
  have hget : ∀ k, k < (allO n).length → (allO n)[k]? = some ((allO n).getD k []) := fun k hk => by
    rw [List.getD_eq_getElem?_getD, List.getElem?_eq_getElem hk]; rfl
  refine ⟨d, by rw [hget 0 d, a], fun k o hk hlt => ?_, fun k o hk hlt => ?_, fun o ho => e o ho⟩
  · have := b k (by omega)
    rw [getD_some hk] at this
    exact ⟨this.1, by rw [hget _ hlt, this.2]⟩
  · have hk1 := (List.getElem?_eq_some_iff.1 hk).1
    obtain rfl : k = (allO n).length - 1 := by omega
    rw [getD_some hk] at c; exact c
/-- The sum of an order's distances from three orders. -/
def sum3 (a b c o : List Int) : Int := ((dist o a : Nat) : Int) + ((dist o b : Nat) : Int) + ((dist o c : Nat) : Int)
def midS (a b c : List Int) (s o : List Int) : List Int := if sum3 a b c o < sum3 a b c s then o else s
/-- The first of the orders with the least sum; none: []. -/
def midL (a b c : List Int) : List (List Int) → List Int
  | [] => []
  | o :: os => os.foldl (midS a b c) o
theorem midL_snoc {a b c : List Int} {L : List (List Int)} (h : L ≠ []) (o : List Int) : midL a b c (L ++ [o]) = midS a b c (midL a b c L) o := by
  cases L with
  | nil => exact absurd rfl h
  | cons x xs => simp [midL, List.foldl_append]
theorem midL_one (a b c o : List Int) : midL a b c [o] = o := rfl
def midF (a b c : List Int) : List Int := if twoB a b && (twoB b c && decide (a.length ≤ 5)) then midL a b c (allO a.length) else []
theorem sum3_bd {a b c o : List Int} (h : o.length ≤ 8) : 0 ≤ sum3 a b c o ∧ sum3 a b c o ≤ 192 := by
  have h1 := dist_cap (a := o) (b := a) h
  have h2 := dist_cap (a := o) (b := b) h
  have h3 := dist_cap (a := o) (b := c) h
  unfold sum3; omega
theorem midL_mem {a b c : List Int} : ∀ {L : List (List Int)}, L ≠ [] → midL a b c L ∈ L
  | [], h => absurd rfl h
  | o :: os, _ => by
    have : ∀ (os : List (List Int)) (s : List Int), os.foldl (midS a b c) s = s ∨ os.foldl (midS a b c) s ∈ os := by
      intro os
      induction os with
      | nil => intro s; exact .inl rfl
      | cons x xs ih =>
        intro s
        rw [List.foldl_cons]
        rcases ih (midS a b c s x) with h | h
        · rw [h]; unfold midS; split
          · exact .inr (List.mem_cons_self ..)
          · exact .inl rfl
        · exact .inr (List.mem_cons_of_mem _ h)
    rcases this os o with h | h
    · rw [midL, h]; exact List.mem_cons_self ..
    · exact List.mem_cons_of_mem _ h
theorem midF_mem {a b c : List Int} : midF a b c = [] ∨ (1 ≤ a.length ∧ a.length ≤ 5 ∧ midF a b c ∈ allO a.length) := by
  unfold midF
  split
  · rename_i h
    simp only [Bool.and_eq_true, decide_eq_true_eq] at h
    have h1 := (ladB_t (twoB_t h.1).1).1.1
    refine .inr ⟨h1, h.2.2, midL_mem ?_⟩
    have := (chain_of h1 h.2.2).pos
    intro e; rw [e] at this; simp at this
  · exact .inl rfl
theorem midF_len (a b c : List Int) : (midF a b c).length ≤ 1048576 := by
  rcases midF_mem (a := a) (b := b) (c := c) with h | ⟨h1, h5, h⟩
  · rw [h]; simp
  · rw [((chain_of h1 h5).lad _ h).2]; omega
end Go.Proofs.Ytnjomfmmnkjhfaa
