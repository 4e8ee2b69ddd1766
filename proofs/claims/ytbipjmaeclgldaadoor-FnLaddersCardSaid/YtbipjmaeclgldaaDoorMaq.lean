/- The middle order: plain facts. -/
import Derived.Test.YtbipjmaeclgldaaDoorUp
import Derived.Deep.QuietTactic
import Derived.BigQuiet
import Derived.Test.YtbipjmaeclgldaaDoorMap
import Derived.Test.YtbipjmaeclgldaaDoorNum
import Derived.Test.YtbipjmaeclgldaaDoorStd
import Derived.Test.YtbipjmaeclgldaaDoorMai
namespace Go.Proofs.YtbipjmaeclgldaaDoor
open Go.ChangeShapes Go.WideShapes Go.ChangeAt Go.RowKit

/-- The orders of the numbers below n that begin with cur, f more numbers to come, in lexicographic order. -/
def visit (n : Nat) : Nat → List Int → List (List Int)
  | 0, cur => [cur]
  | f + 1, cur => (idxs n).flatMap fun x => if cur.contains x then [] else visit n f (cur ++ [x])
def allO (n : Nat) : List (List Int) := visit n n []
theorem getD_some {α : Type} {l : List α} {k : Nat} {x d : α} (h : l[k]? = some x) : l.getD k d = x := by rw [List.getD_eq_getElem?_getD, h]; rfl
end Go.Proofs.YtbipjmaeclgldaaDoor
namespace Go.Proofs.YtbipjmaeclgldaaDoor
open Go.ChangeShapes Go.WideShapes Go.ChangeAt Go.RowKit

def sumD (L : List Int) (x : Nat) : Nat → Int
  | 0 => 0
  | y + 1 => sumD L x y + L.getD (x - y) 0
def nextP (L : List Int) (k x y p : Nat) : Int := if p < x then sumD L p (min k (p + 1)) else if p = x then sumD L x y else 0
def nextU (L : List Int) (k x y : Nat) : List Int := (List.range 29).map (nextP L k x y)
def cnt : Nat → List Int
  | 0 => 1 :: List.replicate 28 0
  | j + 1 => nextU (cnt j) (j + 2) 29 0
end Go.Proofs.YtbipjmaeclgldaaDoor
namespace Go.Proofs.YtbipjmaeclgldaaDoor
open Go.ChangeShapes Go.WideShapes Go.ChangeAt Go.RowKit

/-- How many pairs of a list (the first ahead of the second) S holds of. -/
def prs (S : Int → Int → Bool) : List Int → Nat
  | [] => 0
  | x :: l => l.countP (S x) + prs S l
theorem distU_cons (x : Int) (l b : List Int) : ∀ j, distU (x :: l) b (j + 1) = later b x l + distU l b j
  | 0 => by simp [distU]
  | j + 1 => by rw [distU, distU_cons x l b j, distU]; simp; omega
theorem dist_prs0 (b : List Int) : ∀ a : List Int, dist a b = prs (fun x y => decide (plc b y < plc b x)) a
  | [] => rfl
  | x :: l => by rw [dist, List.length_cons, distU_cons, prs, ← dist_prs0 b l]; rfl
theorem prs_perm {S : Int → Int → Bool} (hs : ∀ x y, S x y = S y x) {l m : List Int} (h : l.Perm m) : prs S l = prs S m := by
  induction h with
  | nil => rfl
  | cons x h ih => rw [prs, prs, ih, h.countP_eq]
  | swap x y l => simp only [prs, List.countP_cons, hs x y]; omega
  | trans _ _ h1 h2 => exact h1.trans h2
theorem prs_congr {S T : Int → Int → Bool} {R : Int → Int → Prop} (h : ∀ x y, R x y → S x y = T x y) : ∀ {l : List Int}, l.Pairwise R → prs S l = prs T l
  | [], _ => rfl
  | x :: l, hp => by
    obtain ⟨h1, h2⟩ := List.pairwise_cons.1 hp
    rw [prs, prs, prs_congr h h2, List.countP_congr (fun y hy => by rw [h x y (h1 y hy)])]
def Rk (a : List Int) (x y : Int) : Prop := x ≠ y ∧ x ∈ a ∧ y ∈ a ∧ plc a x < plc a y
theorem rk_of {a : List Int} (hd : a.Nodup) : a.Pairwise (Rk a) := by
  rw [List.pairwise_iff_getElem]
  intro i j hi hj hij
  have h1 := plc_at hd (List.getElem?_eq_getElem hi)
  have h2 := plc_at hd (List.getElem?_eq_getElem hj)
  refine ⟨fun e => ?_, List.getElem_mem hi, List.getElem_mem hj, by omega⟩
  rw [e] at h1; omega
/-- Two numbers stand in other order in a than in b. -/
def opp (a b : List Int) (x y : Int) : Bool := decide ((plc a x < plc a y ∧ plc b y < plc b x) ∨ (plc a y < plc a x ∧ plc b x < plc b y))
theorem opp_sym (a b : List Int) (x y : Int) : opp a b x y = opp a b y x := by
  unfold opp; exact decide_eq_decide.2 ⟨fun h => by omega, fun h => by omega⟩
theorem opp_swap (a b : List Int) (x y : Int) : opp a b x y = opp b a x y := by
  unfold opp; exact decide_eq_decide.2 ⟨fun h => by omega, fun h => by omega⟩
theorem dist_opp {a b : List Int} (hd : a.Nodup) : dist a b = prs (opp a b) a := by
  rw [dist_prs0]
  refine prs_congr (R := Rk a) (fun x y h => ?_) (rk_of hd)
  obtain ⟨_, _, _, h⟩ := h
  unfold opp; exact decide_eq_decide.2 ⟨fun h => by omega, fun h => by omega⟩
theorem dist_symm {a b : List Int} (ha : a.Nodup) (hb : b.Nodup) (h : a.Perm b) : dist a b = dist b a := by
  rw [dist_opp ha, dist_opp hb, prs_perm (opp_sym a b) h]
  congr 1
  funext x y; exact opp_swap a b x y
/-- The places in b of a's numbers, in a's order. -/
def qL (a b : List Int) : List Int := a.map (plc b)
theorem upto_nodup (n : Nat) : (upto n).Nodup := by
  rw [List.nodup_iff_pairwise_ne, List.pairwise_iff_getElem]
  intro i j hi hj hij
  have h1 := upto_get (n := n) (k := i) (by rw [← upto_length n]; exact hi)
  have h2 := upto_get (n := n) (k := j) (by rw [← upto_length n]; exact hj)
  rw [List.getElem?_eq_getElem hi] at h1
  rw [List.getElem?_eq_getElem hj] at h2
  injection h1 with h1; injection h2 with h2
  rw [h1, h2]; omega
theorem plc_upto {n : Nat} {z : Int} (h0 : 0 ≤ z) (h1 : z < n) : plc (upto n) z = z := by
  obtain ⟨k, rfl⟩ : ∃ k : Nat, z = k := ⟨z.toNat, by omega⟩
  rw [plc_at (upto_nodup n) (upto_get (by omega))]
theorem dist_map {b : List Int} {n : Nat} (hn : b.length = n) : ∀ {a : List Int}, (∀ x ∈ a, x ∈ b) → dist a b = dist (qL a b) (upto n)
  | [], _ => rfl
  | x :: l, h => by
    have ih := dist_map hn (a := l) (fun y hy => h y (List.mem_cons_of_mem _ hy))
    rw [dist_prs0, dist_prs0] at ih ⊢
    show prs _ (x :: l) = prs _ (plc b x :: qL l b)
    rw [prs, prs, ih]
    congr 1
    have hx := plc_mem (h x (List.mem_cons_self ..))
    unfold qL
    rw [List.countP_map]
    refine List.countP_congr fun y hy => ?_
    have hy' := plc_mem (h y (List.mem_cons_of_mem _ hy))
    simp only [Function.comp_apply]
    rw [plc_upto hy'.1 (by omega), plc_upto hx.1 (by omega)]
end Go.Proofs.YtbipjmaeclgldaaDoor
