/- Stable insertion sort by a key, the greatest first: plain law. -/
import Derived.Test.YtbipjmaeclgldaaDoorOrd
import Derived.Test.YtbipjmaeclgldaaDoorTools
import Derived.Laws.BitsLemmas
import Derived.Test.YtbipjmaeclgldaaDoorMbd
import Derived.Test.YtbipjmaeclgldaaDoorTq
import Derived.Test.YtbipjmaeclgldaaDoorStd
import Derived.Test.YtbipjmaeclgldaaDoorMaf
import Derived.Deep.Cut
import Derived.Deep.CutRange
import Derived.Deep.DeepCutAuto
import Derived.Deep.RegionHeld3
import Derived.Test.YtbipjmaeclgldaaDoorMap
import Derived.Test.YtbipjmaeclgldaaDoorUp
import Derived.Deep.QuietTactic
import Derived.BigQuiet
namespace Go.Proofs.YtbipjmaeclgldaaDoor
open Go.ChangeShapes Go.WideShapes Go.ChangeAt Go.RowKit

/-- The row while x goes down: place j. -/
def rowJ (P : List Int) (x : Int) (j : Nat) (rest : List Int) : List Int := P.take j ++ x :: (P.drop j ++ rest)
theorem rowJ_length {P : List Int} {x : Int} {j : Nat} {rest : List Int} (h : j ≤ P.length) : (rowJ P x j rest).length = P.length + 1 + rest.length := by
  simp [rowJ]; omega
theorem rowJ_at {P : List Int} {x : Int} {j : Nat} {rest : List Int} (h : j ≤ P.length) : (rowJ P x j rest)[j]? = some x := by
  unfold rowJ
  rw [List.getElem?_append_right (by simp; omega)]
  simp [Nat.min_eq_left h]
theorem rowJ_before {P : List Int} {x y : Int} {j : Nat} {rest : List Int} (h : P[j]? = some y) : (rowJ P x (j + 1) rest)[j]? = some y := by
  unfold rowJ
  have hl : j < P.length := (List.getElem?_eq_some_iff.1 h).1
  rw [List.getElem?_append_left (by simp; omega), List.getElem?_take_of_lt (by omega)]; exact h
theorem rowJ_swap {P : List Int} {x y : Int} {j : Nat} {rest : List Int} (h : P[j]? = some y) : ((rowJ P x (j + 1) rest).set (j + 1) y).set j x = rowJ P x j rest := by
  have hl : j < P.length := (List.getElem?_eq_some_iff.1 h).1
  have hd : P.drop j = y :: P.drop (j + 1) := by
    obtain ⟨_, e⟩ := List.getElem?_eq_some_iff.1 h
    rw [← e, List.drop_eq_getElem_cons hl]
  unfold rowJ
  rw [take_snoc h, List.append_assoc, hd]
  have e1 : (P.take j ++ ([y] ++ x :: (P.drop (j + 1) ++ rest))) = P.take j ++ (y :: x :: (P.drop (j + 1) ++ rest)) := by simp
  rw [e1, List.set_append_right _ _ (by simp; omega), List.set_append_right _ _ (by simp; omega)]
  have m : (P.take j).length = j := by simp; omega
  rw [m, Nat.sub_self, show j + 1 - j = 1 from by omega]
  simp
theorem rowJ_swap' {P : List Int} {x y : Int} {j : Nat} {rest : List Int} (h : P[j]? = some y) : ((rowJ P x (j + 1) rest).set j x).set (j + 1) y = rowJ P x j rest := by
  rw [List.set_comm _ _ (by omega), rowJ_swap h]
end Go.Proofs.YtbipjmaeclgldaaDoor
namespace Go.Proofs.YtbipjmaeclgldaaDoor
open Go.ChangeShapes Go.WideShapes Go.ChangeAt Go.RowKit

def Sub (s t : Nat) : Prop := ∀ i, s.testBit i = true → t.testBit i = true
theorem Sub.refl (s : Nat) : Sub s s := fun _ h => h
theorem Sub.trans {a b c : Nat} (h : Sub a b) (h2 : Sub b c) : Sub a c := fun i hi => h2 i (h i hi)
end Go.Proofs.YtbipjmaeclgldaaDoor
namespace Go.Proofs.YtbipjmaeclgldaaDoor
open Go.ChangeShapes Go.WideShapes Go.ChangeAt Go.RowKit

theorem Bx.under {w w' : World} {b B : Nat} {x y : Value} (h : Bx w b x y) (hb : Below B w w') (hB : b < B) : Bx w' b x y :=
  ⟨(hb.cell (p := ⟨b, 0, none⟩) hB).trans h.1, (hb.cell (p := ⟨b, 1, none⟩) hB).trans h.2.1, Nat.lt_of_lt_of_le h.2.2 hb.size⟩
end Go.Proofs.YtbipjmaeclgldaaDoor
namespace Go.Proofs.YtbipjmaeclgldaaDoor
open Go.ChangeShapes Go.WideShapes Go.ChangeAt Go.RowKit

theorem Fr.swap {w : World} {lo hi n c g j : Nat} {P rest : List Int} {x y : Int} (h : Fr w lo hi (.slice (some ⟨g, 0, none⟩) n c) (rowJ P x (j + 1) rest)) (hy : P[j]? = some y) :
    w.cell? ⟨g, j + 1, none⟩ = some (.int .i64 x) ∧ w.cell? ⟨g, j, none⟩ = some (.int .i64 y) ∧ w.frozen? ⟨g, j + 1, none⟩ = false ∧ w.frozen? ⟨g, j, none⟩ = false ∧ g < w.heap.size ∧
      (Fr ((w.setCell ⟨g, j + 1, none⟩ (.int .i64 y)).setCell ⟨g, j, none⟩ (.int .i64 x)) lo hi (.slice (some ⟨g, 0, none⟩) n c) (rowJ P x j rest) ∧ Keep lo hi w ((w.setCell ⟨g, j + 1, none⟩ (.int .i64 y)).setCell ⟨g, j, none⟩ (.int .i64 x))) ∧
      (Fr ((w.setCell ⟨g, j, none⟩ (.int .i64 x)).setCell ⟨g, j + 1, none⟩ (.int .i64 y)) lo hi (.slice (some ⟨g, 0, none⟩) n c) (rowJ P x j rest) ∧ Keep lo hi w ((w.setCell ⟨g, j, none⟩ (.int .i64 x)).setCell ⟨g, j + 1, none⟩ (.int .i64 y))) := by
  have hl : j < P.length := (List.getElem?_eq_some_iff.1 hy).1
  have hlen : (rowJ P x (j + 1) rest).length = P.length + 1 + rest.length := rowJ_length (by omega)
  obtain ⟨g1, x1, e1, _, hg2, hx1, c1, f1, s1⟩ := h.at_ (k := j + 1) (by omega)
  obtain ⟨g2, y1, e2, _, _, hy1, c2, f2, s2⟩ := h.at_ (k := j) (by omega)
  obtain rfl : g = g1 := by injection e1 with e1; injection e1
  obtain rfl : g = g2 := by injection e2 with e2; injection e2
  obtain rfl : x = x1 := by rw [rowJ_at (by omega)] at hx1; injection hx1
  obtain rfl : y = y1 := by rw [rowJ_before hy] at hy1; injection hy1
  have hsz := h.2.2
  refine ⟨c1, c2, f1, f2, by omega, ?_, ?_⟩
  · obtain ⟨F1, K1⟩ := s1 y
    obtain ⟨g3, y3, e3, _, _, _, _, _, s3⟩ := F1.at_ (k := j) (by rw [List.length_set]; omega)
    obtain rfl : g = g3 := by injection e3 with e3; injection e3
    obtain ⟨F2, K2⟩ := s3 x
    rw [rowJ_swap hy] at F2
    exact ⟨F2, K1.trans K2⟩
  · obtain ⟨F1, K1⟩ := s2 x
    obtain ⟨g3, y3, e3, _, _, _, _, _, s3⟩ := F1.at_ (k := j + 1) (by rw [List.length_set]; omega)
    obtain rfl : g = g3 := by injection e3 with e3; injection e3
    obtain ⟨F2, K2⟩ := s3 y
    rw [rowJ_swap' hy] at F2
    exact ⟨F2, K1.trans K2⟩
end Go.Proofs.YtbipjmaeclgldaaDoor
namespace Go.Proofs.YtbipjmaeclgldaaDoor
open Go.ChangeShapes Go.WideShapes Go.ChangeAt Go.RowKit

theorem add_or : ∀ b : Fin 8, ∀ v : Fin 256, v.val < 2 ^ b.val → v.val + 2 ^ b.val = v.val ||| 2 ^ b.val := by decide +kernel
end Go.Proofs.YtbipjmaeclgldaaDoor
namespace Go.Proofs.YtbipjmaeclgldaaDoor
open Go.ChangeShapes Go.WideShapes Go.ChangeAt Go.RowKit

theorem len_sub {α : Type} [BEq α] [LawfulBEq α] : ∀ (l m : List α), l.Nodup → (∀ y ∈ l, y ∈ m) → l.length ≤ m.length := by
  intro l
  induction l with
  | nil => intro m _ _; simp
  | cons y l ih =>
    intro m hn hs
    rw [List.nodup_cons] at hn
    have hy := hs y (by simp)
    have h1 := ih (m.erase y) hn.2 (fun z hz => by
      have hne : z ≠ y := fun e => hn.1 (e ▸ hz)
      exact (List.mem_erase_of_ne hne).2 (hs z (by simp [hz])))
    have h2 := List.length_erase_of_mem hy
    have h3 := List.length_pos_of_mem hy
    rw [List.length_cons]
    omega
end Go.Proofs.YtbipjmaeclgldaaDoor
