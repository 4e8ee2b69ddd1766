/- Races drawn from a code. -/
import Derived.Test.YtbipjmaeclgldaaDoorMbc
import Derived.Test.YtbipjmaeclgldaaDoorCy
import Derived.Test.YtbipjmaeclgldaaDoorMaf
import Derived.Test.YtbipjmaeclgldaaDoorStd
import Derived.ChangeOld
import Derived.Deep.Matrix
import Derived.ShutString
import Derived.Deep.RegionHeld3
import Derived.Lib.SmallJoins
namespace Go.Proofs.YtbipjmaeclgldaaDoor
open Go.ChangeShapes Go.WideShapes Go.ChangeAt Go.RowKit

/-- A row of integers being drawn. -/
structure DrR (w : World) (lo : Nat) (wr : World) (p : Nat) (v : Value) (n : Nat) (vv : Value) (R : List Int) : Prop where
  fr : Fr wr lo wr.heap.size vv R
  cur : Cur wr p v n
  keep : Keep p (p + 1) w wr
  lo0 : w.heap.size ≤ lo
  lo1 : lo ≤ wr.heap.size
theorem DrR.draw {w wr w2 : World} {lo p n : Nat} {v vv : Value} {R : List Int} (h : DrR w lo wr p v n vv R) (hp : p < w.heap.size) (hc : Cur w2 p v n) (hk : Keep p (p + 1) wr w2) : DrR w lo w2 p v n vv R :=
  ⟨(h.fr.keep hk (.inr (by have := h.lo0; omega))).wide (Nat.le_refl _) hk.size (Nat.le_refl _), hc, h.keep.trans hk, h.lo0, Nat.le_trans h.lo1 hk.size⟩
theorem DrR.next {w wr w2 : World} {lo p n j : Nat} {v vv v' : Value} {R : List Int} {x : Int} (h : DrR w lo wr p v n vv R) (hc0 : Cur w p v n) (hl : R.length = j)
    (hown : w2.ownsRow lo 3 1 v' (j + 1) (ints (R ++ [x]))) (hb : ∀ B, B ≤ lo → B ≤ wr.heap.size → Below B wr w2) : DrR w lo w2 p v n v' (R ++ [x]) := by
  have B := hb lo (Nat.le_refl _) h.lo1
  exact ⟨Fr.of_own (by rw [List.length_append, hl]; exact hown), hc0.far h.cur h.lo0 B, h.keep.far B h.lo0, h.lo0, Nat.le_trans h.lo1 B.size⟩
/-- Rows being drawn behind a row. -/
structure DrS (w : World) (lo : Nat) (wr : World) (p : Nat) (v : Value) (n : Nat) (rv : Value) (R : List Int) (gv : Value) (GS : List (List Int)) : Prop where
  ow : OwS wr lo wr.heap.size gv GS
  fr : ∃ l0, w.heap.size ≤ l0 ∧ Fr wr l0 lo rv R
  cur : Cur wr p v n
  keep : Keep p (p + 1) w wr
  lo0 : w.heap.size ≤ lo
  lo1 : lo ≤ wr.heap.size
theorem DrS.draw {w wr w2 : World} {lo p n : Nat} {v rv gv : Value} {R : List Int} {GS : List (List Int)} (h : DrS w lo wr p v n rv R gv GS) (hp : p < w.heap.size) (hc : Cur w2 p v n) (hk : Keep p (p + 1) wr w2) : DrS w lo w2 p v n rv R gv GS := by
  obtain ⟨l0, h0, hf⟩ := h.fr
  exact ⟨(h.ow.keep hk (.inr (by have := h.lo0; omega))).top hk.size (Nat.le_refl _), ⟨l0, h0, hf.keep hk (.inr (by omega))⟩, hc, h.keep.trans hk, h.lo0, Nat.le_trans h.lo1 hk.size⟩
theorem DrS.next {w wr W w2 : World} {lo p n : Nat} {v rv gv v' : Value} {R g : List Int} {GS : List (List Int)} (h : DrS w lo wr p v n rv R gv GS) (hc0 : Cur w p v n) (hb1 : Below wr.heap.size wr W) (hb : ∀ B, B ≤ lo → B ≤ W.heap.size → Below B W w2)
    (how : OwS w2 lo w2.heap.size v' (GS ++ [g])) : DrS w lo w2 p v n rv R v' (GS ++ [g]) := by
  have B : Below lo wr w2 := (hb1.mono h.lo1).trans (hb lo (Nat.le_refl _) (Nat.le_trans h.lo1 hb1.size))
  obtain ⟨l0, h0, hf⟩ := h.fr
  exact ⟨how, ⟨l0, h0, hf.below B (Nat.le_refl _)⟩, hc0.far h.cur h.lo0 B, h.keep.far B h.lo0, h.lo0, Nat.le_trans h.lo1 B.size⟩

/-- How many pairs lie ahead of the player a. -/
def pA (n : Nat) : Nat → Nat
  | 0 => 0
  | a + 1 => pA n a + (n - 1 - a)
/-- Games drawn: of pairs ahead of (a, b), in their order. -/
structure RcA (n a b : Nat) (gs : List (List Int)) : Prop where
  len : gs.length + (a + 1) ≤ pA n a + b
  row : ∀ g ∈ gs, ∃ i j k : Nat, g = [(i : Int), (j : Int), (k : Int)] ∧ i < j ∧ j < n ∧ 1 ≤ k ∧ k ≤ 3 ∧ (i < a ∨ (i = a ∧ j < b))
  ok : (List.range gs.length).all (rowOk n gs) = true
theorem RcA.start (n : Nat) : RcA n 0 1 [] := ⟨by simp [pA], by simp, by simp⟩
theorem RcA.push {n a b : Nat} {c : Int} {gs : List (List Int)} (h : RcA n a b gs) (hab : a < b) (hb : b < n) (hk : 1 ≤ c ∧ c ≤ 3) : RcA n a (b + 1) (gs ++ [[(a : Int), (b : Int), c]]) := by
  obtain ⟨k, rfl⟩ := Int.eq_ofNat_of_zero_le (show 0 ≤ c by omega)
  refine ⟨by rw [List.length_append, List.length_singleton]; have := h.len; omega, fun g hg => ?_, ?_⟩
  · rcases List.mem_append.1 hg with hg | hg
    · obtain ⟨i, j, k, e, h1, h2, h3, h4, h5⟩ := h.row g hg
      exact ⟨i, j, k, e, h1, h2, h3, h4, by omega⟩
    · rw [List.mem_singleton] at hg
      exact ⟨a, b, k, hg, hab, hb, by omega, by omega, by omega⟩
  · rw [List.all_eq_true]
    intro i hi
    rw [List.mem_range, List.length_append, List.length_singleton] at hi
    by_cases hlt : i < gs.length
    · have h1 := List.all_eq_true.1 h.ok i (List.mem_range.2 hlt)
      rw [rowOk] at h1 ⊢
      rw [List.getD_eq_getElem?_getD, List.getElem?_append_left hlt, ← List.getD_eq_getElem?_getD, List.take_append_of_le_length (Nat.le_of_lt hlt)]
      exact h1
    · obtain rfl : i = gs.length := by omega
      refine rowOk_go (g := [(a : Int), (b : Int), (k : Int)]) (by rw [List.getElem?_append_right (Nat.le_refl _), Nat.sub_self]; rfl) (pairB_t.2 ⟨by omega, by omega, by omega, by omega, by omega⟩) (fun j x hj hx => ?_)
      rw [List.getElem?_append_left hj] at hx
      obtain ⟨i', j', k', rfl, h1, h2, h3, h4, h5⟩ := h.row x (List.mem_of_getElem? hx)
      show ((i' : Int) == a && (j' : Int) == b) = false
      rw [Bool.and_eq_false_iff, beq_eq_false_iff_ne, beq_eq_false_iff_ne]
      omega
theorem pA_le : ∀ n : Fin 6, pA n.val n.val ≤ 10 := by decide
theorem RcA.done {n : Nat} {ws : List Int} {gs : List (List Int)} (h : RcA n n (n + 1) gs) (hl : ws.length = n) (h2 : 2 ≤ n) (h5 : n ≤ 5) (hw : ∀ x ∈ ws, 10 ≤ x ∧ x ≤ 17) : raceB ws gs = true := by
  have h1 := h.len
  have h3 := pA_le ⟨n, by omega⟩
  simp only at h3
  unfold raceB
  rw [hl, h.ok, Bool.and_true]
  simp only [Bool.and_eq_true, decide_eq_true_eq, List.all_eq_true, inB_t]
  exact ⟨⟨by omega, by omega⟩, fun x hx => by have := hw x hx; omega, by omega⟩
end Go.Proofs.YtbipjmaeclgldaaDoor
namespace Go.Proofs.YtbipjmaeclgldaaDoor
open Go.ChangeShapes Go.WideShapes Go.ChangeAt Go.RowKit Go.Deep

theorem OwT.drew {w : World} {lo hi : Nat} {v : Value} {x : TourV} (h : OwT w lo hi v x) : OwT w.drew lo hi v x := h
theorem OwT.wide {w : World} {lo hi lo' hi' : Nat} {v : Value} {x : TourV} (h : OwT w lo hi v x) (h1 : lo' ≤ lo) (h2 : hi ≤ hi') (h3 : hi' ≤ w.heap.size) : OwT w lo' hi' v x := by
  obtain ⟨u, rfl, hf⟩ := h
  exact ⟨u, rfl, hf.wide h1 h2 h3⟩
end Go.Proofs.YtbipjmaeclgldaaDoor
