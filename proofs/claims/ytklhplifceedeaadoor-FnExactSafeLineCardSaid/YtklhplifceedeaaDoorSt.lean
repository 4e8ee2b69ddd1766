/- Stable insertion sort by a key, the greatest first: plain law. -/
import Derived.Test.YtklhplifceedeaaDoorOrd
namespace Go.Proofs.YtklhplifceedeaaDoor
open Go.ChangeShapes Go.WideShapes Go.ChangeAt Go.RowKit

def posR (key : Int → Int) (l : List Int) (x : Int) : Nat → Nat
  | 0 => 0
  | k + 1 => if key (l.getD k 0) < key x then posR key l x k else k + 1
def insR (key : Int → Int) (l : List Int) (x : Int) : List Int := l.take (posR key l x l.length) ++ x :: l.drop (posR key l x l.length)
def insF (key : Int → Int) (xs : List Int) : List Int := xs.foldl (insR key) []
theorem posR_le (key : Int → Int) (l : List Int) (x : Int) : ∀ k, posR key l x k ≤ k
  | 0 => Nat.le_refl _
  | k + 1 => by
    unfold posR
    split
    · exact Nat.le_succ_of_le (posR_le key l x k)
    · exact Nat.le_refl _
theorem posR_go {key : Int → Int} {l : List Int} {x y : Int} {k : Nat} (hy : l[k]? = some y) (h : key y < key x) : posR key l x (k + 1) = posR key l x k := by
  have : l.getD k 0 = y := by rw [List.getD_eq_getElem?_getD, hy]; rfl
  rw [posR, if_pos (by rw [this]; exact h)]
theorem posR_stop {key : Int → Int} {l : List Int} {x y : Int} {k : Nat} (hy : l[k]? = some y) (h : ¬ key y < key x) : posR key l x (k + 1) = k + 1 := by
  have : l.getD k 0 = y := by rw [List.getD_eq_getElem?_getD, hy]; rfl
  rw [posR, if_neg (by rw [this]; exact h)]
theorem insR_length (key : Int → Int) (l : List Int) (x : Int) : (insR key l x).length = l.length + 1 := by
  have := posR_le key l x l.length
  simp [insR]; omega
theorem insF_snoc (key : Int → Int) (xs : List Int) (x : Int) : insF key (xs ++ [x]) = insR key (insF key xs) x := by
  simp [insF, List.foldl_append]
theorem insF_take {key : Int → Int} {xs : List Int} {k : Nat} {x : Int} (h : xs[k]? = some x) : insF key (xs.take (k + 1)) = insR key (insF key (xs.take k)) x := by
  rw [take_snoc h, insF_snoc]
theorem insFold_length (key : Int → Int) : ∀ (xs l : List Int), (xs.foldl (insR key) l).length = l.length + xs.length
  | [], l => rfl
  | x :: xs, l => by rw [List.foldl_cons, insFold_length key xs, insR_length, List.length_cons]; omega
theorem insF_length (key : Int → Int) (xs : List Int) : (insF key xs).length = xs.length := by
  rw [insF, insFold_length]; simp
theorem insR_perm (key : Int → Int) (l : List Int) (x : Int) : (insR key l x).Perm (x :: l) := by
  unfold insR
  generalize posR key l x l.length = k
  exact List.perm_middle.trans (by rw [List.take_append_drop])
theorem insFold_perm (key : Int → Int) : ∀ (xs l : List Int), (xs.foldl (insR key) l).Perm (xs ++ l)
  | [], l => .refl _
  | x :: xs, l => by
    rw [List.foldl_cons]
    exact (insFold_perm key xs _).trans ((List.Perm.append_left xs (insR_perm key l x)).trans (by simp))
theorem insF_perm (key : Int → Int) (xs : List Int) : (insF key xs).Perm xs := by
  have := insFold_perm key xs []
  simpa [insF] using this
theorem posR_map {key key2 : Int → Int} {l : List Int} {x : Int} {f : Int → Int} (hk : ∀ y ∈ x :: l, key2 (f y) = key y) : ∀ k, k ≤ l.length → posR key2 (l.map f) (f x) k = posR key l x k
  | 0, _ => rfl
  | k + 1, h => by
    have ih := posR_map hk k (by omega)
    have hy : l[k]? = some l[k] := List.getElem?_eq_getElem (by omega)
    have h1 : (l.map f).getD k 0 = f l[k] := by rw [List.getD_eq_getElem?_getD, List.getElem?_map, hy]; rfl
    have h2 : l.getD k 0 = l[k] := by rw [List.getD_eq_getElem?_getD, hy]; rfl
    rw [posR, posR, h1, h2, hk _ (by simp), hk x (by simp), ih]
theorem insR_map {key key2 : Int → Int} {l : List Int} {x : Int} {f : Int → Int} (hk : ∀ y ∈ x :: l, key2 (f y) = key y) : insR key2 (l.map f) (f x) = (insR key l x).map f := by
  unfold insR
  rw [List.length_map, posR_map hk _ (Nat.le_refl _)]
  simp [List.map_take, List.map_drop]
theorem insFold_map {key key2 : Int → Int} {f : Int → Int} : ∀ {xs l : List Int} (_ : ∀ y ∈ xs ++ l, key2 (f y) = key y), (xs.map f).foldl (insR key2) (l.map f) = (xs.foldl (insR key) l).map f
  | [], l, _ => rfl
  | x :: xs, l, hk => by
    rw [List.map_cons, List.foldl_cons, List.foldl_cons, insR_map (fun y hy => hk y (by simp at hy ⊢; rcases hy with hy | hy <;> simp [hy]))]
    refine insFold_map (fun y hy => hk y ?_)
    rcases List.mem_append.1 hy with h | h
    · simp [h]
    · have := (insR_perm key l x).mem_iff.1 h
      simp at this ⊢
      rcases this with h2 | h2 <;> simp [h2]
theorem insF_map {key key2 : Int → Int} {f : Int → Int} {xs : List Int} (hk : ∀ y ∈ xs, key2 (f y) = key y) : insF key2 (xs.map f) = (insF key xs).map f := by
  have := insFold_map (key := key) (key2 := key2) (f := f) (xs := xs) (l := []) (by simpa using hk)
  simpa [insF] using this
/-- Keys with the same comparisons sort alike. -/
theorem posR_cong {key key2 : Int → Int} {l : List Int} {x : Int} (hk : ∀ y ∈ l, (key y < key x ↔ key2 y < key2 x)) : ∀ k, k ≤ l.length → posR key l x k = posR key2 l x k
  | 0, _ => rfl
  | k + 1, h => by
    have ih := posR_cong hk k (by omega)
    have hy : l[k]? = some l[k] := List.getElem?_eq_getElem (by omega)
    have h2 : l.getD k 0 = l[k] := by rw [List.getD_eq_getElem?_getD, hy]; rfl
    rw [posR, posR, h2, ih]
    have := hk l[k] (List.getElem_mem _)
    by_cases h3 : key l[k] < key x
    · rw [if_pos h3, if_pos (this.1 h3)]
    · rw [if_neg h3, if_neg (fun h4 => h3 (this.2 h4))]
theorem insFold_cong {key key2 : Int → Int} {S : List Int} (hk : ∀ x ∈ S, ∀ y ∈ S, (key y < key x ↔ key2 y < key2 x)) : ∀ {xs l : List Int} (_ : ∀ y ∈ xs ++ l, y ∈ S), xs.foldl (insR key) l = xs.foldl (insR key2) l
  | [], l, _ => rfl
  | x :: xs, l, hs => by
    have e : insR key l x = insR key2 l x := by
      unfold insR
      rw [posR_cong (key2 := key2) (fun y hy => hk x (hs x (by simp)) y (hs y (by simp [hy]))) _ (Nat.le_refl _)]
    rw [List.foldl_cons, List.foldl_cons, e]
    refine insFold_cong hk (fun y hy => hs y ?_)
    rcases List.mem_append.1 hy with h | h
    · simp [h]
    · have := (insR_perm key2 l x).mem_iff.1 h
      simp at this ⊢
      rcases this with h2 | h2 <;> simp [h2]
theorem insF_cong {key key2 : Int → Int} {xs : List Int} (hk : ∀ x ∈ xs, ∀ y ∈ xs, (key y < key x ↔ key2 y < key2 x)) : insF key xs = insF key2 xs :=
  insFold_cong hk (by simp)
/-- The row while x goes down: place j. -/
def rowJ (P : List Int) (x : Int) (j : Nat) (rest : List Int) : List Int := P.take j ++ x :: (P.drop j ++ rest)
theorem rowJ_length {P : List Int} {x : Int} {j : Nat} {rest : List Int} (h : j ≤ P.length) : (rowJ P x j rest).length = P.length + 1 + rest.length := by
  simp [rowJ]; omega
theorem rowJ_at {P : List Int} {x : Int} {j : Nat} {rest : List Int} (h : j ≤ P.length) : (rowJ P x j rest)[j]? = some x := by
  unfold rowJ
  rw [List.getElem?_append_right (by simp; omega)]
  simp [Nat.min_eq_left h]
theorem rowJ_before {P : List Int} {x y : Int} {j : Nat} {rest : List Int} (h : P[j]? = some y) : (rowJ P x (j + 1) rest)[j]? = some y := by
  unfold rowJ
  have hl : j < P.length := (List.getElem?_eq_some_iff.1 h).1
  rw [List.getElem?_append_left (by simp; omega), List.getElem?_take_of_lt (by omega)]; exact h
theorem rowJ_swap {P : List Int} {x y : Int} {j : Nat} {rest : List Int} (h : P[j]? = some y) : ((rowJ P x (j + 1) rest).set (j + 1) y).set j x = rowJ P x j rest := by
  have hl : j < P.length := (List.getElem?_eq_some_iff.1 h).1
  have hd : P.drop j = y :: P.drop (j + 1) := by
    obtain ⟨_, e⟩ := List.getElem?_eq_some_iff.1 h
    rw [← e, List.drop_eq_getElem_cons hl]
  unfold rowJ
  rw [take_snoc h, List.append_assoc, hd]
  have e1 : (P.take j ++ ([y] ++ x :: (P.drop (j + 1) ++ rest))) = P.take j ++ (y :: x :: (P.drop (j + 1) ++ rest)) := by simp
  rw [e1, List.set_append_right _ _ (by simp; omega), List.set_append_right _ _ (by simp; omega)]
  have m : (P.take j).length = j := by simp; omega
  rw [m, Nat.sub_self, show j + 1 - j = 1 from by omega]
  simp
theorem rowJ_swap' {P : List Int} {x y : Int} {j : Nat} {rest : List Int} (h : P[j]? = some y) : ((rowJ P x (j + 1) rest).set j x).set (j + 1) y = rowJ P x j rest := by
  rw [List.set_comm _ _ (by omega), rowJ_swap h]
theorem rowJ_start {P : List Int} {x : Int} {rest : List Int} : rowJ P x P.length rest = P ++ x :: rest := by
  simp [rowJ]
theorem rowJ_end {key : Int → Int} {P : List Int} {x : Int} {j : Nat} {rest : List Int} (h : posR key P x P.length = j) : rowJ P x j rest = insR key P x ++ rest := by
  subst h
  simp [rowJ, insR]
end Go.Proofs.YtklhplifceedeaaDoor
