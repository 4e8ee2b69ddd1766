/- Part tours: both packages' contracts. -/
import Derived.Test.YtbipjmaeclgldaaDoorMbf
import Derived.Deep.RegionHeld3
namespace Go.Proofs.YtbipjmaeclgldaaDoor
open Go.ChangeShapes Go.WideShapes Go.ChangeAt Go.RowKit

/-- The worlds of the loop: the boxes stand, the row is being filled. -/
structure ToAt (w W0 wr : World) (k : Nat) (xs : List Int) : Prop where
  row : Fr wr (w.heap.size + 1) (w.heap.size + 2) (.slice (some ⟨w.heap.size + 1, 0, none⟩) k k) xs
  kp : Keep (w.heap.size + 1) (w.heap.size + 2) W0 wr
structure ToW (w W0 : World) (k : Nat) : Prop where
  b0 : W0.cell? ⟨w.heap.size + 2, 0, none⟩ = some (.int .i64 (k : Int))
  b1 : W0.cell? ⟨w.heap.size + 2, 1, none⟩ = some (.slice (some ⟨w.heap.size + 1, 0, none⟩) k k)
  z0 : W0.cell? ⟨w.heap.size, 0, none⟩ = some (.int .i64 0)
  z1 : W0.cell? ⟨w.heap.size, 1, none⟩ = some (.slice none 0 0)
  f0 : W0.frozen? ⟨w.heap.size, 0, none⟩ = false
  f1 : W0.frozen? ⟨w.heap.size, 1, none⟩ = false
  be : Below w.heap.size w W0
  sz : W0.heap.size = w.heap.size + 3
  at0 : ToAt w W0 W0 k (List.replicate k 0)
theorem ToAt.below {w W0 wr w2 : World} {k : Nat} {xs : List Int} (h : ToAt w W0 wr k xs) (hb : Below wr.heap.size wr w2) : ToAt w W0 w2 k xs :=
  ⟨h.row.grow hb, h.kp.trans (Keep.of_below hb (Nat.le_refl _))⟩
theorem ToAt.set {w W0 wr : World} {k a : Nat} {xs : List Int} {z : Int} (h : ToAt w W0 wr k xs) (hz : xs[a]? = some z) :
    a < k ∧ wr.cell? ⟨w.heap.size + 1, a, none⟩ = some (.int .i64 z) ∧ wr.frozen? ⟨w.heap.size + 1, a, none⟩ = false ∧ ∀ y, ToAt w W0 (wr.setCell ⟨w.heap.size + 1, a, none⟩ (.int .i64 y)) k (xs.set a y) := by
  have hk := (List.getElem?_eq_some_iff.1 hz).1
  obtain ⟨g, z', e, hg1, hg2, hz', c1, f1, s1⟩ := h.row.at_ hk
  injection e with e
  injection e with e
  subst e
  obtain rfl : z = z' := by rw [hz] at hz'; exact Option.some.inj hz'
  exact ⟨by rw [h.row.len]; exact hk, c1, f1, fun y => ⟨(s1 y).1, h.kp.trans (s1 y).2⟩⟩
theorem Keep.drewK' {lo hi : Nat} {w w' : World} (h : Keep lo hi w w') : Keep lo hi w w'.drew := ⟨h.os, h.tape, h.output, h.size, h.block⟩
theorem ToAt.drew {w W0 wr : World} {k : Nat} {xs : List Int} (h : ToAt w W0 wr k xs) : ToAt w W0 wr.drew k xs := ⟨h.row, Keep.drewK' h.kp⟩
theorem ToAt.be {w W0 wr : World} {k : Nat} {xs : List Int} (h : ToAt w W0 wr k xs) (h0 : ToW w W0 k) : Below w.heap.size w wr := h0.be.trans (h.kp.below (Nat.le_succ _) (by rw [h0.sz]; omega))
theorem ToAt.cells {w W0 wr : World} {k : Nat} {xs : List Int} (h : ToAt w W0 wr k xs) (h0 : ToW w W0 k) :
    wr.cell? ⟨w.heap.size + 2, 0, none⟩ = some (.int .i64 (k : Int)) ∧ wr.cell? ⟨w.heap.size + 2, 1, none⟩ = some (.slice (some ⟨w.heap.size + 1, 0, none⟩) k k) ∧
    wr.cell? ⟨w.heap.size, 0, none⟩ = some (.int .i64 0) ∧ wr.cell? ⟨w.heap.size, 1, none⟩ = some (.slice none 0 0) ∧ wr.frozen? ⟨w.heap.size, 0, none⟩ = false ∧ wr.frozen? ⟨w.heap.size, 1, none⟩ = false := by
  have hs := h0.sz
  exact ⟨(h.kp.cell (p := ⟨w.heap.size + 2, 0, none⟩) (by show w.heap.size + 2 < _; omega) (.inr (Nat.le_refl _))).trans h0.b0,
    (h.kp.cell (p := ⟨w.heap.size + 2, 1, none⟩) (by show w.heap.size + 2 < _; omega) (.inr (Nat.le_refl _))).trans h0.b1,
    (h.kp.cell (p := ⟨w.heap.size, 0, none⟩) (by show w.heap.size < _; omega) (.inl (Nat.lt_succ_self _))).trans h0.z0,
    (h.kp.cell (p := ⟨w.heap.size, 1, none⟩) (by show w.heap.size < _; omega) (.inl (Nat.lt_succ_self _))).trans h0.z1,
    (h.kp.frozen (p := ⟨w.heap.size, 0, none⟩) (by show w.heap.size < _; omega) (.inl (Nat.lt_succ_self _))).trans h0.f0,
    (h.kp.frozen (p := ⟨w.heap.size, 1, none⟩) (by show w.heap.size < _; omega) (.inl (Nat.lt_succ_self _))).trans h0.f1⟩
theorem toW_start {w w1 : World} {k : Nat} (hfr : Fr w1 (w.alloc (.cells #[.int .i64 0, .slice none 0 0] 33)).heap.size w1.heap.size (.slice (some ⟨(w.alloc (.cells #[.int .i64 0, .slice none 0 0] 33)).heap.size, 0, none⟩) k k) (List.replicate k 0))
    (hb : Below (w.alloc (.cells #[.int .i64 0, .slice none 0 0] 33)).heap.size (w.alloc (.cells #[.int .i64 0, .slice none 0 0] 33)) w1) (hsz : w1.heap.size = (w.alloc (.cells #[.int .i64 0, .slice none 0 0] 33)).heap.size + 1) :
    ToW w (w1.alloc (.cells #[.int .i64 (k : Int), .slice (some ⟨w.heap.size + 1, 0, none⟩) k k] 33)) k := by
  have z1 : (w.alloc (.cells #[.int .i64 0, .slice none 0 0] 33)).heap.size = w.heap.size + 1 := World.size_alloc _ _
  have a0 : (w.alloc (.cells #[.int .i64 0, .slice none 0 0] 33)).cell? ⟨w.heap.size, 0, none⟩ = some (.int .i64 0) := by simp
  have a1 : (w.alloc (.cells #[.int .i64 0, .slice none 0 0] 33)).cell? ⟨w.heap.size, 1, none⟩ = some (.slice none 0 0) := by simp
  have g0 : (w.alloc (.cells #[.int .i64 0, .slice none 0 0] 33)).frozen? ⟨w.heap.size, 0, none⟩ = false := by rw [frozen?_alloc_cells]; simp [World.frozen?]
  have g1 : (w.alloc (.cells #[.int .i64 0, .slice none 0 0] 33)).frozen? ⟨w.heap.size, 1, none⟩ = false := by rw [frozen?_alloc_cells]; simp [World.frozen?]
  have b1 : Below w.heap.size w (w.alloc (.cells #[.int .i64 0, .slice none 0 0] 33)) := (Below.refl _ w).alloc (Nat.le_refl _) _
  generalize w.alloc (.cells #[.int .i64 0, .slice none 0 0] 33) = W at *
  rw [z1] at hfr hsz
  have b2 : Below w1.heap.size w1 (w1.alloc (.cells #[.int .i64 (k : Int), .slice (some ⟨w.heap.size + 1, 0, none⟩) k k] 33)) := (Below.refl _ w1).alloc (Nat.le_refl _) _
  have c0 : (w1.alloc (.cells #[.int .i64 (k : Int), .slice (some ⟨w.heap.size + 1, 0, none⟩) k k] 33)).cell? ⟨w1.heap.size, 0, none⟩ = some (.int .i64 (k : Int)) := by simp
  have c1 : (w1.alloc (.cells #[.int .i64 (k : Int), .slice (some ⟨w.heap.size + 1, 0, none⟩) k k] 33)).cell? ⟨w1.heap.size, 1, none⟩ = some (.slice (some ⟨w.heap.size + 1, 0, none⟩) k k) := by simp
  have s2 : (w1.alloc (.cells #[.int .i64 (k : Int), .slice (some ⟨w.heap.size + 1, 0, none⟩) k k] 33)).heap.size = w1.heap.size + 1 := World.size_alloc _ _
  generalize w1.alloc (.cells #[.int .i64 (k : Int), .slice (some ⟨w.heap.size + 1, 0, none⟩) k k] 33) = W0 at *
  have e1 : w1.heap.size = w.heap.size + 2 := by omega
  rw [e1] at c0 c1
  have b12 : Below W.heap.size W W0 := hb.trans (b2.mono hb.size)
  have kz : Keep 0 0 W W0 := Keep.of_below b12 (Nat.le_refl _)
  refine ⟨c0, c1, (kz.cell (p := ⟨w.heap.size, 0, none⟩) (by show w.heap.size < _; omega) (.inr (Nat.zero_le _))).trans a0, (kz.cell (p := ⟨w.heap.size, 1, none⟩) (by show w.heap.size < _; omega) (.inr (Nat.zero_le _))).trans a1,
    (kz.frozen (p := ⟨w.heap.size, 0, none⟩) (by show w.heap.size < _; omega) (.inr (Nat.zero_le _))).trans g0, (kz.frozen (p := ⟨w.heap.size, 1, none⟩) (by show w.heap.size < _; omega) (.inr (Nat.zero_le _))).trans g1,
    b1.trans (b12.mono (by omega)), by omega, ⟨?_, Keep.refl _ _ _⟩⟩
  rw [e1] at hfr
  exact hfr.grow (by rw [e1] at b2; rw [e1]; exact b2)
end Go.Proofs.YtbipjmaeclgldaaDoor
