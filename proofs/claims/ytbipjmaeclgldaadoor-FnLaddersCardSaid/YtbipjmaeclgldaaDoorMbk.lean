/- Tours that are drawn from a code: the walks. -/
import Derived.Test.YtbipjmaeclgldaaDoorDtw
import Derived.Test.YtbipjmaeclgldaaDoorMbc
import Derived.Test.YtbipjmaeclgldaaDoorMbd
import Derived.Deep.RegionHeld3
import Derived.Deep.RegionLaw
import Derived.Deep.Cut
import Derived.Deep.CutRange
namespace Go.Proofs.YtbipjmaeclgldaaDoor
open Go.ChangeShapes Go.WideShapes Go.ChangeAt Go.RowKit

/-- A tour's result box at the head of the frame, the cursor behind it. -/
structure DrT (w wr : World) (p : Nat) (v : Value) (n : Nat) : Prop where
  cur : Cur wr p v n
  keep : Keep p (p + 1) w wr
  z0 : wr.cell? ⟨w.heap.size, 0, none⟩ = some (.int .i64 0)
  z1 : wr.cell? ⟨w.heap.size, 1, none⟩ = some (.slice none 0 0)
  f0 : wr.frozen? ⟨w.heap.size, 0, none⟩ = false
  f1 : wr.frozen? ⟨w.heap.size, 1, none⟩ = false
  sz : w.heap.size + 1 ≤ wr.heap.size
theorem DrT.start {w : World} {p n : Nat} {v : Value} (hc : Cur w p v n) : DrT w (w.alloc (.cells #[.int .i64 0, .slice none 0 0] 33)) p v n := by
  have b1 : Below w.heap.size w (w.alloc (.cells #[.int .i64 0, .slice none 0 0] 33)) := (Below.refl _ w).alloc (Nat.le_refl _) _
  refine ⟨hc.far hc (Nat.le_refl _) b1, (Keep.refl _ _ _).far b1 (Nat.le_refl _), by simp, by simp, ?_, ?_, by simp⟩
  · rw [frozen?_alloc_cells]; simp [World.frozen?]
  · rw [frozen?_alloc_cells]; simp [World.frozen?]
theorem DrT.draw {w wr w2 : World} {p n : Nat} {v : Value} (h : DrT w wr p v n) (hp : p < w.heap.size) (hc : Cur w2 p v n) (hk : Keep p (p + 1) wr w2) : DrT w w2 p v n := by
  have hs := h.sz
  have hz : w.heap.size < wr.heap.size := by omega
  exact ⟨hc, h.keep.trans hk, (hk.cell (p := ⟨w.heap.size, 0, none⟩) hz (.inr (by show p + 1 ≤ w.heap.size; omega))).trans h.z0, (hk.cell (p := ⟨w.heap.size, 1, none⟩) hz (.inr (by show p + 1 ≤ w.heap.size; omega))).trans h.z1,
    (hk.frozen (p := ⟨w.heap.size, 0, none⟩) hz (.inr (by show p + 1 ≤ w.heap.size; omega))).trans h.f0, (hk.frozen (p := ⟨w.heap.size, 1, none⟩) hz (.inr (by show p + 1 ≤ w.heap.size; omega))).trans h.f1, Nat.le_trans hs hk.size⟩
theorem DrT.below {w wr w2 : World} {p n : Nat} {v : Value} (h : DrT w wr p v n) (hc0 : Cur w p v n) (hb : Below wr.heap.size wr w2) : DrT w w2 p v n := by
  have hs := h.sz
  have hz : w.heap.size < wr.heap.size := by omega
  exact ⟨hc0.far h.cur (lo := wr.heap.size) (by omega) hb, h.keep.far hb (by omega), (hb.cell (p := ⟨w.heap.size, 0, none⟩) hz).trans h.z0, (hb.cell (p := ⟨w.heap.size, 1, none⟩) hz).trans h.z1,
    (hb.frozen (p := ⟨w.heap.size, 0, none⟩) hz).trans h.f0, (hb.frozen (p := ⟨w.heap.size, 1, none⟩) hz).trans h.f1, Nat.le_trans hs hb.size⟩
theorem l02OfZ (N M : Int) (w : World) (hn1 : 1 ≤ N) (hn : N ≤ 8) (hm0 : 0 ≤ M) (hm : M < 536870912) :
    Calls Tryd.prog 36 #[.int .i64 N, .int .i64 M] w fun e w' => ∃ A c xs, xs.length ≤ 8 ∧ (xs.length : Int) = N ∧ e = .returned (.agg #[.int .i64 N, .slice A xs.length c]) ∧ Fr w' w.heap.size w'.heap.size (.slice A xs.length c) xs ∧ tourB ⟨N, xs⟩ = true ∧ Below w.heap.size w w' := by
  obtain ⟨k, rfl⟩ := Int.eq_ofNat_of_zero_le (show 0 ≤ N by omega)
  obtain ⟨m, rfl⟩ := Int.eq_ofNat_of_zero_le hm0
  refine (l02Of_any k m w (by omega) (by omega) (by omega)).mono ?_
  rintro e w' ⟨v', xs, rfl, hf, ht, hb⟩
  obtain ⟨A, c, rfl, -⟩ := hf.form
  obtain ⟨t1, t2, t3, -, -⟩ := tourB_t ht
  simp only at t1 t2 t3
  exact ⟨A, c, xs, by omega, t3, rfl, hf, ht, hb⟩
end Go.Proofs.YtbipjmaeclgldaaDoor
namespace Go.Proofs.YtbipjmaeclgldaaDoor
open Go.ChangeShapes Go.WideShapes Go.ChangeAt Go.RowKit

/-- The box of the argument, the box of the result. -/
structure FlAt (w W : World) (cl : Int) (ad : Addr) (n c : Nat) : Prop where
  y0 : W.cell? ⟨w.heap.size, 0, none⟩ = some (.int .i64 cl)
  y1 : W.cell? ⟨w.heap.size, 1, none⟩ = some (.slice (some ad) n c)
  r0 : W.cell? ⟨w.heap.size + 1, 0, none⟩ = some (.int .i64 0)
  r1 : W.cell? ⟨w.heap.size + 1, 1, none⟩ = some (.slice none 0 0)
  f0 : W.frozen? ⟨w.heap.size + 1, 0, none⟩ = false
  f1 : W.frozen? ⟨w.heap.size + 1, 1, none⟩ = false
  sz : w.heap.size + 2 ≤ W.heap.size
  be : Below w.heap.size w W
theorem FlAt.below {w W W' : World} {cl : Int} {ad : Addr} {n c : Nat} (h : FlAt w W cl ad n c) (hb : Below (w.heap.size + 2) W W') : FlAt w W' cl ad n c :=
  ⟨(hb.cell (p := ⟨w.heap.size, 0, none⟩) (by show w.heap.size < _; omega)).trans h.y0, (hb.cell (p := ⟨w.heap.size, 1, none⟩) (by show w.heap.size < _; omega)).trans h.y1,
   (hb.cell (p := ⟨w.heap.size + 1, 0, none⟩) (by show w.heap.size + 1 < _; omega)).trans h.r0, (hb.cell (p := ⟨w.heap.size + 1, 1, none⟩) (by show w.heap.size + 1 < _; omega)).trans h.r1,
   (hb.frozen (p := ⟨w.heap.size + 1, 0, none⟩) (by show w.heap.size + 1 < _; omega)).trans h.f0, (hb.frozen (p := ⟨w.heap.size + 1, 1, none⟩) (by show w.heap.size + 1 < _; omega)).trans h.f1,
   Nat.le_trans h.sz hb.size, h.be.trans (hb.mono (by omega))⟩
theorem FlAt.drew {w W : World} {cl : Int} {ad : Addr} {n c : Nat} (h : FlAt w W cl ad n c) : FlAt w W.drew cl ad n c := ⟨h.y0, h.y1, h.r0, h.r1, h.f0, h.f1, h.sz, below_drewL h.be⟩
/-- What stands behind the region that copies the tour. -/
structure FlMid (w wx : World) (cl : Int) (ad : Addr) (n c p g c2 : Nat) (xs : List Int) : Prop where
  fr : Fr wx (w.heap.size + 2) wx.heap.size (.slice (some ⟨g, 0, none⟩) n c2) xs
  q0 : wx.cell? ⟨p, 0, none⟩ = some (.int .i64 cl)
  q1 : wx.cell? ⟨p, 1, none⟩ = some (.slice (some ⟨g, 0, none⟩) n c2)
  at_ : FlAt w wx cl ad n c
  p1 : w.heap.size + 2 ≤ p
  p2 : p < wx.heap.size
  pg : p ≠ g
theorem FlMid.drew {w wx : World} {cl : Int} {ad : Addr} {n c p g c2 : Nat} {xs : List Int} (h : FlMid w wx cl ad n c p g c2 xs) : FlMid w wx.drew cl ad n c p g c2 xs := ⟨h.fr, h.q0, h.q1, h.at_.drew, h.p1, h.p2, h.pg⟩
theorem FlMid.set {w wx : World} {cl : Int} {ad : Addr} {n c p g c2 a : Nat} {xs : List Int} {z : Int} (h : FlMid w wx cl ad n c p g c2 xs) (hz : xs[a]? = some z) :
    a < n ∧ wx.cell? ⟨g, a, none⟩ = some (.int .i64 z) ∧ wx.frozen? ⟨g, a, none⟩ = false ∧ ∀ y, FlMid w (wx.setCell ⟨g, a, none⟩ (.int .i64 y)) cl ad n c p g c2 (xs.set a y) := by
  have hk := (List.getElem?_eq_some_iff.1 hz).1
  obtain ⟨g', z', e, hg1, hg2, hz', c1, f1, s1⟩ := h.fr.at_ hk
  injection e with e
  injection e with e
  subst e
  obtain rfl : z = z' := by rw [hz] at hz'; exact Option.some.inj hz'
  refine ⟨by rw [h.fr.len]; exact hk, c1, f1, fun y => ?_⟩
  have KP : Keep g (g + 1) wx (wx.setCell ⟨g, a, none⟩ (.int .i64 y)) := (Keep.refl _ _ _).setCell (p := ⟨g, a, none⟩) (Nat.le_refl _) (Nat.lt_succ_self _) _
  have hpg := h.pg
  exact ⟨(s1 y).1.wide (Nat.le_refl _) KP.size (Nat.le_refl _), (KP.cell (p := ⟨p, 0, none⟩) h.p2 (by show p < g ∨ g + 1 ≤ p; omega)).trans h.q0, (KP.cell (p := ⟨p, 1, none⟩) h.p2 (by show p < g ∨ g + 1 ≤ p; omega)).trans h.q1,
    h.at_.below (KP.below hg1 h.at_.sz), h.p1, Nat.lt_of_lt_of_le h.p2 KP.size, hpg⟩
end Go.Proofs.YtbipjmaeclgldaaDoor
