/- Breaks and carry-over of plans: plain law. -/
import Derived.Test.YtnlhelhpalimnaaDoorPw
namespace Go.Proofs.YtnlhelhpalimnaaDoor
open Go.ChangeShapes Go.WideShapes Go.ChangeAt Go.RowKit

def elP (P : List (List Int)) (r k : Nat) : Int := (P.getD r []).getD k 0
def hmB (P : List (List Int)) (r k : Nat) : Bool := decide (0 < elP P r k)
/-- The breaks of a club up to round j. -/
def brkTo (P : List (List Int)) (k : Nat) : Nat → Nat
  | 0 => 0
  | j + 1 => if hmB P (j + 1) k = hmB P j k then brkTo P k j + 1 else brkTo P k j
theorem brkTo_yes {P : List (List Int)} {k j : Nat} (h : hmB P (j + 1) k = hmB P j k) : brkTo P k (j + 1) = brkTo P k j + 1 := by rw [brkTo, if_pos h]
theorem brkTo_no {P : List (List Int)} {k j : Nat} (h : ¬ hmB P (j + 1) k = hmB P j k) : brkTo P k (j + 1) = brkTo P k j := by rw [brkTo, if_neg h]
theorem brkTo_le (P : List (List Int)) (k j : Nat) : brkTo P k j ≤ j := by
  induction j with
  | zero => simp [brkTo]
  | succ j ih => rw [brkTo]; split <;> omega
def brkF (P : List (List Int)) (k : Nat) : Nat := brkTo P k (P.length - 1)
def brkSum (P : List (List Int)) : Nat → Nat
  | 0 => 0
  | k + 1 => brkSum P k + brkF P k
theorem brkSum_le (P : List (List Int)) (h : P.length ≤ 36) (k : Nat) : brkSum P k ≤ 36 * k := by
  induction k with
  | zero => simp [brkSum]
  | succ k ih => have := brkTo_le P k (P.length - 1); rw [brkSum, brkF]; omega

def oppAt (P : List (List Int)) (r k : Nat) : Nat := (opp (elP P r k)).toNat
def bump (M : List (List Int)) (a b : Nat) : List (List Int) := M.set a ((M.getD a []).set b ((M.getD a []).getD b 0 + 1))
def carK (P : List (List Int)) (r s : Nat) (M : List (List Int)) : Nat → List (List Int)
  | 0 => M
  | k + 1 => bump (carK P r s M k) (oppAt P r k) (oppAt P s k)
def carR (n : Nat) (P : List (List Int)) : Nat → List (List Int)
  | 0 => List.replicate n (List.replicate n 0)
  | j + 1 => carK P j ((j + 1) % P.length) (carR n P j) n
/-- A table of n rows of n numbers from 0 to c. -/
def sqM (n c : Nat) (M : List (List Int)) : Prop := M.length = n ∧ ∀ (k : Nat) (xs : List Int), M[k]? = some xs → xs.length = n ∧ ∀ (b : Nat) (x : Int), xs[b]? = some x → 0 ≤ x ∧ x ≤ c
theorem sqM.wide {n c d : Nat} {M : List (List Int)} (h : sqM n c M) (hd : c ≤ d) : sqM n d M :=
  ⟨h.1, fun k xs hk => ⟨(h.2 k xs hk).1, fun b x hx => by have := (h.2 k xs hk).2 b x hx; omega⟩⟩
theorem sqM.row {n c a : Nat} {M : List (List Int)} (h : sqM n c M) (ha : a < n) : ∃ xs, M[a]? = some xs ∧ M.getD a [] = xs ∧ xs.length = n := by
  have h1 : M[a]? = some M[a]! := by rw [getElem!_pos M a (by rw [h.1]; exact ha)]; exact List.getElem?_eq_getElem _
  exact ⟨_, h1, by rw [List.getD_eq_getElem?_getD, h1]; rfl, (h.2 a _ h1).1⟩
theorem sqM.cell {n c a b : Nat} {M : List (List Int)} {xs : List Int} (h : sqM n c M) (hx : M[a]? = some xs) (hb : b < n) : ∃ x, xs[b]? = some x ∧ xs.getD b 0 = x ∧ 0 ≤ x ∧ x ≤ c := by
  have hl := (h.2 a xs hx).1
  have h1 : xs[b]? = some xs[b]! := by rw [getElem!_pos xs b (by omega)]; exact List.getElem?_eq_getElem _
  exact ⟨_, h1, by rw [List.getD_eq_getElem?_getD, h1]; rfl, (h.2 a xs hx).2 b _ h1⟩
theorem sqM.bump {n c a b : Nat} {M : List (List Int)} (h : sqM n c M) (ha : a < n) (hb : b < n) : sqM n (c + 1) (bump M a b) := by
  obtain ⟨xs, h1, h2, h3⟩ := h.row ha
  obtain ⟨x, h4, h5, h6, h7⟩ := h.cell h1 hb
  unfold Go.Proofs.YtnlhelhpalimnaaDoor.bump
  rw [h2, h5]
  refine ⟨by rw [List.length_set]; exact h.1, fun k ys hk => ?_⟩
  by_cases e : a = k
  · subst e
    rw [List.getElem?_set_self (by rw [h.1]; exact ha)] at hk
    injection hk with hk
    subst hk
    refine ⟨by rw [List.length_set]; exact h3, fun b' y hy => ?_⟩
    by_cases e2 : b = b'
    · subst e2
      rw [List.getElem?_set_self (by omega)] at hy
      injection hy with hy
      omega
    · rw [List.getElem?_set_ne e2] at hy
      have := (h.2 a xs h1).2 b' y hy
      omega
  · rw [List.getElem?_set_ne e] at hk
    exact ⟨(h.2 k ys hk).1, fun b' y hy => by have := (h.2 k ys hk).2 b' y hy; omega⟩
theorem bump_eq {M : List (List Int)} {xs : List Int} {x : Int} {a b : Nat} (h1 : M[a]? = some xs) (h2 : xs[b]? = some x) : bump M a b = M.set a (xs.set b (x + 1)) := by
  unfold bump
  rw [show M.getD a [] = xs from by rw [List.getD_eq_getElem?_getD, h1]; rfl, show xs.getD b 0 = x from by rw [List.getD_eq_getElem?_getD, h2]; rfl]
/-- A valid plan's entries name clubs. -/
theorem planB_opp {n : Nat} {P : List (List Int)} (h : planB n P = true) {r k : Nat} (hr : r < P.length) (hk : k < n) : oppAt P r k < n ∧ (oppAt P r k : Int) = opp (elP P r k) ∧ -10 ≤ elP P r k ∧ elP P r k ≤ 10 ∧ elP P r k ≠ 0 := by
  have h0 : P[r]? = some P[r]! := by rw [getElem!_pos P r hr]; exact List.getElem?_eq_getElem _
  have hR : P.getD r [] = P[r]! := by rw [List.getD_eq_getElem?_getD, h0]; rfl
  have h1 := planB_row h h0
  unfold planB clubsB at h
  simp only [Bool.and_eq_true] at h
  have h2 := List.all_eq_true.1 h.2.2 _ (List.mem_of_getElem? h0)
  unfold roundB at h2
  rw [Bool.and_eq_true] at h2
  have h3 := allTo_t.1 h2.2 k (by omega)
  have h4 := h1.2.2.2 k (by omega)
  unfold elB at h3
  simp only [Bool.and_eq_true, Bool.not_eq_true', beq_eq_false_iff_ne, ne_eq] at h3
  unfold oppAt elP
  rw [hR]
  generalize P[r]!.getD k 0 = x at *
  have h5 : x ≠ 0 := by omega
  have h6 : 0 ≤ opp x ∧ opp x < n := by rw [opp_eq]; split <;> omega
  omega
theorem sqM_carK {n c : Nat} {P : List (List Int)} {r s : Nat} {M : List (List Int)} (h : planB n P = true) (hr : r < P.length) (hs : s < P.length) (hM : sqM n c M) : ∀ k, k ≤ n → sqM n (c + k) (carK P r s M k) := by
  intro k
  induction k with
  | zero => intro _; exact hM
  | succ k ih => intro hk; exact (ih (by omega)).bump (planB_opp h hr (by omega)).1 (planB_opp h hs (by omega)).1
theorem sqM_zero (n : Nat) : sqM n 0 (List.replicate n (List.replicate n 0)) := by
  refine ⟨by simp, fun k xs hk => ?_⟩
  rw [List.getElem?_replicate] at hk
  split at hk
  · injection hk with hk
    subst hk
    refine ⟨by simp, fun b x hx => ?_⟩
    rw [List.getElem?_replicate] at hx
    split at hx
    · injection hx with hx; omega
    · cases hx
  · cases hk
theorem sqM_carR {n : Nat} {P : List (List Int)} (h : planB n P = true) : ∀ j, j ≤ P.length → sqM n (n * j) (carR n P j) := by
  intro j
  induction j with
  | zero => intro _; exact (sqM_zero n).wide (Nat.zero_le _)
  | succ j ih =>
    intro hj
    have := sqM_carK h (r := j) (s := (j + 1) % P.length) (by omega) (Nat.mod_lt _ (by omega)) (ih (by omega)) n (Nat.le_refl _)
    rw [show n * (j + 1) = n * j + n from by rw [Nat.mul_add, Nat.mul_one]]
    exact this
def sqR (xs : List Int) : Int := (xs.map fun x => x * x).sum
def sqS (M : List (List Int)) : Int := (M.map sqR).sum
theorem sqR_take {xs : List Int} {k : Nat} {x : Int} (h : xs[k]? = some x) : sqR (xs.take (k + 1)) = sqR (xs.take k) + x * x := by
  unfold sqR; rw [take_snoc h, List.map_append, List.sum_append]; simp
theorem sqS_take {M : List (List Int)} {k : Nat} {xs : List Int} (h : M[k]? = some xs) : sqS (M.take (k + 1)) = sqS (M.take k) + sqR xs := by
  unfold sqS; rw [take_snoc h, List.map_append, List.sum_append]; simp
theorem sq_cap {x : Int} (h0 : 0 ≤ x) (h1 : x ≤ 360) : 0 ≤ x * x ∧ x * x ≤ 129600 := by
  have := Int.mul_nonneg h0 h0
  have := Int.mul_le_mul h1 h1 h0 (by omega : (0 : Int) ≤ 360)
  omega
theorem sqR_cap {xs : List Int} (h : ∀ (b : Nat) (x : Int), xs[b]? = some x → 0 ≤ x ∧ x ≤ 360) : ∀ k, k ≤ xs.length → 0 ≤ sqR (xs.take k) ∧ sqR (xs.take k) ≤ 129600 * k := by
  intro k
  induction k with
  | zero => intro _; simp [sqR]
  | succ k ih =>
    intro hk
    have h1 : xs[k]? = some xs[k] := List.getElem?_eq_getElem (by omega)
    have h2 := h k _ h1
    have h3 := sq_cap h2.1 h2.2
    have h4 := ih (by omega)
    rw [sqR_take h1]; omega
theorem sqS_cap {n : Nat} {M : List (List Int)} (h : sqM n 360 M) (hn : n ≤ 10) : ∀ k, k ≤ M.length → 0 ≤ sqS (M.take k) ∧ sqS (M.take k) ≤ 1296000 * k := by
  intro k
  induction k with
  | zero => intro _; simp [sqS]
  | succ k ih =>
    intro hk
    have h1 : M[k]? = some M[k] := List.getElem?_eq_getElem (by omega)
    have h2 := h.2 k _ h1
    have h3 := sqR_cap h2.2 M[k].length (Nat.le_refl _)
    rw [List.take_length] at h3
    have h4 := ih (by omega)
    rw [sqS_take h1]; omega
theorem planB_cap {n : Nat} {P : List (List Int)} (h : planB n P = true) : 2 ≤ n ∧ n ≤ 10 ∧ P.length ≤ 36 := by
  unfold planB clubsB at h
  simp only [Bool.and_eq_true] at h
  have h1 := inB_t.1 h.1.1
  have h2 : P.length ≤ 36 := by simpa using h.2.1
  omega
theorem sqM_all {n : Nat} {P : List (List Int)} (h : planB n P = true) {j : Nat} (hj : j ≤ P.length) : sqM n 360 (carR n P j) := by
  have h1 := planB_cap h
  refine (sqM_carR h j hj).wide ?_
  have : n * j ≤ 10 * 36 := Nat.mul_le_mul h1.2.1 (by omega)
  omega
def carV (n : Nat) (P : List (List Int)) : Int := if P = [] then -1 else sqS (carR n P P.length)
/-- "breaks " and " carry ". -/
def brkW : List UInt8 := [98, 114, 101, 97, 107, 115, 32]
def carW : List UInt8 := [32, 99, 97, 114, 114, 121, 32]
def planText (n : Int) (P : List (List Int)) : List UInt8 :=
  if planB n P then ((brkW ++ Lib.itoa (brkSum P n.toNat)) ++ carW) ++ Lib.itoa (carV n.toNat P) else [110, 111, 110, 101]
end Go.Proofs.YtnlhelhpalimnaaDoor
