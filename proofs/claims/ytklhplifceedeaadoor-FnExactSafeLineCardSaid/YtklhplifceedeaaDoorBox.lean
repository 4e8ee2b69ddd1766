/- Boxes of structs of two cells. -/
import Derived.Test.YtklhplifceedeaaDoorStd
namespace Go.Proofs.YtklhplifceedeaaDoor
open Go.ChangeShapes Go.WideShapes Go.ChangeAt Go.RowKit

theorem Keep.cell {lo hi : Nat} {w w' : World} (h : Keep lo hi w w') {p : Addr} (hp : p.block < w.heap.size) (hd : p.block < lo ∨ hi ≤ p.block) : w'.cell? p = w.cell? p := by
  unfold World.cell?
  rw [h.block p.block hp hd]

theorem Keep.frozen {lo hi : Nat} {w w' : World} (h : Keep lo hi w w') {p : Addr} (hp : p.block < w.heap.size) (hd : p.block < lo ∨ hi ≤ p.block) : w'.frozen? p = w.frozen? p := by
  unfold World.frozen?
  rw [h.block p.block hp hd]
/-- The block b holds the two cells of a struct. -/
def Bx (w : World) (b : Nat) (x y : Value) : Prop := w.cell? ⟨b, 0, none⟩ = some x ∧ w.cell? ⟨b, 1, none⟩ = some y ∧ b < w.heap.size
theorem Bx.below {w w' : World} {b : Nat} {x y : Value} (h : Bx w b x y) (hb : Below w.heap.size w w') : Bx w' b x y :=
  ⟨(hb.cell (p := ⟨b, 0, none⟩) h.2.2).trans h.1, (hb.cell (p := ⟨b, 1, none⟩) h.2.2).trans h.2.1, Nat.lt_of_lt_of_le h.2.2 hb.size⟩
theorem Bx.keep {w w' : World} {b lo hi : Nat} {x y : Value} (h : Bx w b x y) (hk : Keep lo hi w w') (hd : b < lo ∨ hi ≤ b) : Bx w' b x y :=
  ⟨(hk.cell (p := ⟨b, 0, none⟩) h.2.2 hd).trans h.1, (hk.cell (p := ⟨b, 1, none⟩) h.2.2 hd).trans h.2.1, Nat.lt_of_lt_of_le h.2.2 hk.size⟩
theorem Bx.drew {w : World} {b : Nat} {x y : Value} (h : Bx w b x y) : Bx w.drew b x y := h
theorem below_drewL {B : Nat} {a w : World} (h : Below B a w) : Below B a w.drew := ⟨h.os, h.tape, h.output, h.size, h.block⟩
theorem Fr.drew {w : World} {lo hi : Nat} {v : Value} {xs : List Int} (h : Fr w lo hi v xs) : Fr w.drew lo hi v xs := h

theorem OwS.drew {w : World} {lo hi : Nat} {v : Value} {xss : List (List Int)} (h : OwS w lo hi v xss) : OwS w.drew lo hi v xss := h
end Go.Proofs.YtklhplifceedeaaDoor
