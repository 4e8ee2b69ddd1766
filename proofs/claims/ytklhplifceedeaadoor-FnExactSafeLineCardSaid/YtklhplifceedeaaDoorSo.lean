/- slices.SortStableFunc at few integers. -/
import Derived.Test.YtklhplifceedeaaDoorSt
import Derived.Test.YtklhplifceedeaaDoorStd
import Derived.Test.YtklhplifceedeaaDoorBox
import Derived.Deep.Cut
import Derived.Deep.CutRange
import Derived.Deep.DeepCutAuto
import Derived.Deep.RegionHeld3
namespace Go.Proofs.YtklhplifceedeaaDoor
open Go.ChangeShapes Go.WideShapes Go.ChangeAt Go.RowKit

/-- The closure G with its captures compares by a key, in every world that keeps all but the row. -/
def CmpBy (w : World) (lo hi : Nat) (G : FuncId) (caps : Array Value) (xs : List Int) (key : Int → Int) : Prop :=
  ∀ (W : World) (a b : Int), Keep lo hi w W → a ∈ xs → b ∈ xs → Calls Tryd.prog G (#[.int .i64 a, .int .i64 b] ++ caps) W fun e W' => ∃ c : Int, e = .returned (.int .i64 c) ∧ (c < 0 ↔ key b < key a) ∧ Below W.heap.size W W'
theorem Keep.drewK {lo hi : Nat} {w w' : World} (h : Keep lo hi w w') : Keep lo hi w w'.drew := ⟨h.os, h.tape, h.output, h.size, h.block⟩
theorem Fr.swap {w : World} {lo hi n c g j : Nat} {P rest : List Int} {x y : Int} (h : Fr w lo hi (.slice (some ⟨g, 0, none⟩) n c) (rowJ P x (j + 1) rest)) (hy : P[j]? = some y) :
    w.cell? ⟨g, j + 1, none⟩ = some (.int .i64 x) ∧ w.cell? ⟨g, j, none⟩ = some (.int .i64 y) ∧ w.frozen? ⟨g, j + 1, none⟩ = false ∧ w.frozen? ⟨g, j, none⟩ = false ∧ g < w.heap.size ∧
      (Fr ((w.setCell ⟨g, j + 1, none⟩ (.int .i64 y)).setCell ⟨g, j, none⟩ (.int .i64 x)) lo hi (.slice (some ⟨g, 0, none⟩) n c) (rowJ P x j rest) ∧ Keep lo hi w ((w.setCell ⟨g, j + 1, none⟩ (.int .i64 y)).setCell ⟨g, j, none⟩ (.int .i64 x))) ∧
      (Fr ((w.setCell ⟨g, j, none⟩ (.int .i64 x)).setCell ⟨g, j + 1, none⟩ (.int .i64 y)) lo hi (.slice (some ⟨g, 0, none⟩) n c) (rowJ P x j rest) ∧ Keep lo hi w ((w.setCell ⟨g, j, none⟩ (.int .i64 x)).setCell ⟨g, j + 1, none⟩ (.int .i64 y))) := by
  have hl : j < P.length := (List.getElem?_eq_some_iff.1 hy).1
  have hlen : (rowJ P x (j + 1) rest).length = P.length + 1 + rest.length := rowJ_length (by omega)
  obtain ⟨g1, x1, e1, _, hg2, hx1, c1, f1, s1⟩ := h.at_ (k := j + 1) (by omega)
  obtain ⟨g2, y1, e2, _, _, hy1, c2, f2, s2⟩ := h.at_ (k := j) (by omega)
  obtain rfl : g = g1 := by injection e1 with e1; injection e1
  obtain rfl : g = g2 := by injection e2 with e2; injection e2
  obtain rfl : x = x1 := by rw [rowJ_at (by omega)] at hx1; injection hx1
  obtain rfl : y = y1 := by rw [rowJ_before hy] at hy1; injection hy1
  have hsz := h.2.2
  refine ⟨c1, c2, f1, f2, by omega, ?_, ?_⟩
  · obtain ⟨F1, K1⟩ := s1 y
    obtain ⟨g3, y3, e3, _, _, _, _, _, s3⟩ := F1.at_ (k := j) (by rw [List.length_set]; omega)
    obtain rfl : g = g3 := by injection e3 with e3; injection e3
    obtain ⟨F2, K2⟩ := s3 x
    rw [rowJ_swap hy] at F2
    exact ⟨F2, K1.trans K2⟩
  · obtain ⟨F1, K1⟩ := s2 x
    obtain ⟨g3, y3, e3, _, _, _, _, _, s3⟩ := F1.at_ (k := j + 1) (by rw [List.length_set]; omega)
    obtain rfl : g = g3 := by injection e3 with e3; injection e3
    obtain ⟨F2, K2⟩ := s3 y
    rw [rowJ_swap' hy] at F2
    exact ⟨F2, K1.trans K2⟩
theorem insF_one (key : Int → Int) {xs : List Int} (h : 0 < xs.length) : insF key (xs.take 1) ++ xs.drop 1 = xs := by
  cases xs with
  | nil => simp at h
  | cons x xs => simp [insF, insR, posR]
theorem insF_all (key : Int → Int) {xs : List Int} {i : Nat} (h : xs.length ≤ i) : insF key (xs.take i) ++ xs.drop i = insF key xs := by
  rw [List.take_of_length_le h, List.drop_of_length_le h, List.append_nil]
theorem insF_takeLen (key : Int → Int) {xs : List Int} {i : Nat} (h : i ≤ xs.length) : (insF key (xs.take i)).length = i := by rw [insF_length, List.length_take]; omega
theorem insF_row (key : Int → Int) {xs : List Int} {i : Nat} {x : Int} (h : xs[i]? = some x) : insF key (xs.take i) ++ xs.drop i = rowJ (insF key (xs.take i)) x i (xs.drop (i + 1)) := by
  obtain ⟨hl, e⟩ := List.getElem?_eq_some_iff.1 h
  have hP := insF_takeLen key (Nat.le_of_lt hl)
  have h2 := rowJ_start (P := insF key (xs.take i)) (x := x) (rest := xs.drop (i + 1))
  rw [hP] at h2
  rw [h2, ← e, ← List.drop_eq_getElem_cons hl]
theorem insF_put (key : Int → Int) {xs : List Int} {i j : Nat} {x : Int} (h : xs[i]? = some x) (hp : posR key (insF key (xs.take i)) x i = j) : rowJ (insF key (xs.take i)) x j (xs.drop (i + 1)) = insF key (xs.take (i + 1)) ++ xs.drop (i + 1) := by
  have hl := (List.getElem?_eq_some_iff.1 h).1
  have hP := insF_takeLen key (Nat.le_of_lt hl)
  rw [rowJ_end (key := key) (by rw [hP]; exact hp), insF_take h]
theorem insF_mem {key : Int → Int} {xs : List Int} {i : Nat} {y : Int} (h : y ∈ insF key (xs.take i)) : y ∈ xs := List.mem_of_mem_take ((insF_perm key _).mem_iff.1 h)
end Go.Proofs.YtklhplifceedeaaDoor
