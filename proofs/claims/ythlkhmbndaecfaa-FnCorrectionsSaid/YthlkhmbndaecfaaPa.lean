/- The points' row while it is filled. -/
import Derived.Test.YthlkhmbndaecfaaGl
namespace Go.Proofs.Ythlkhmbndaecfaa
open Go.ChangeShapes Go.WideShapes Go.ChangeAt Go.RowKit

/-- A round of the points: the result's box at p, the row of points at gb. -/
structure PtAt (w W : World) (p gb n : Nat) (r : Res) (P : List Int) : Prop where
  c0 : W.cell? ⟨p, 0, none⟩ = some (.int .i64 r.h)
  c1 : W.cell? ⟨p, 1, none⟩ = some (.int .i64 r.a)
  c2 : W.cell? ⟨p, 2, none⟩ = some (.int .i64 r.g)
  c3 : W.cell? ⟨p, 3, none⟩ = some (.int .i64 r.t)
  fr : Fr W w.heap.size p (.slice (some ⟨gb, 0, none⟩) n n) P
  hp : p < W.heap.size
  be : Below w.heap.size w W
theorem PtAt.below {w W W' : World} {p gb n : Nat} {r : Res} {P : List Int} (h : PtAt w W p gb n r P) (hb : Below W.heap.size W W') : PtAt w W' p gb n r P :=
  ⟨(hb.cell (p := ⟨p, 0, none⟩) h.hp).trans h.c0, (hb.cell (p := ⟨p, 1, none⟩) h.hp).trans h.c1, (hb.cell (p := ⟨p, 2, none⟩) h.hp).trans h.c2, (hb.cell (p := ⟨p, 3, none⟩) h.hp).trans h.c3,
   h.fr.grow hb, Nat.lt_of_lt_of_le h.hp hb.size, h.be.trans (hb.mono h.be.size)⟩
theorem PtAt.drew {w W : World} {p gb n : Nat} {r : Res} {P : List Int} (h : PtAt w W p gb n r P) : PtAt w W.drew p gb n r P := ⟨h.c0, h.c1, h.c2, h.c3, h.fr, h.hp, below_drewL h.be⟩
theorem PtAt.set {w W : World} {p gb n : Nat} {r : Res} {P : List Int} (h : PtAt w W p gb n r P) {k : Nat} (hk : k < P.length) (z : Int) : PtAt w (W.setCell ⟨gb, k, none⟩ (.int .i64 z)) p gb n r (P.set k z) := by
  obtain ⟨g, y, hg, h1, h2, _, _, _, h6⟩ := h.fr.at_ hk
  obtain rfl : gb = g := by injection hg with hg; injection hg
  obtain ⟨f, kp⟩ := h6 z
  exact ⟨(kp.cell (p := ⟨p, 0, none⟩) h.hp (.inr (Nat.le_refl _))).trans h.c0, (kp.cell (p := ⟨p, 1, none⟩) h.hp (.inr (Nat.le_refl _))).trans h.c1, (kp.cell (p := ⟨p, 2, none⟩) h.hp (.inr (Nat.le_refl _))).trans h.c2, (kp.cell (p := ⟨p, 3, none⟩) h.hp (.inr (Nat.le_refl _))).trans h.c3,
    f, Nat.lt_of_lt_of_le h.hp kp.size, h.be.trans (kp.below (Nat.le_refl _) h.be.size)⟩
theorem PtAt.get {w W : World} {p gb n : Nat} {r : Res} {P : List Int} (h : PtAt w W p gb n r P) {k : Nat} (hk : k < P.length) : ∃ y, P[k]? = some y ∧ P.getD k 0 = y ∧ W.cell? ⟨gb, k, none⟩ = some (.int .i64 y) ∧ W.frozen? ⟨gb, k, none⟩ = false := by
  obtain ⟨g, y, hg, h1, h2, h3, h4, h5, h6⟩ := h.fr.at_ hk
  obtain rfl : gb = g := by injection hg with hg; injection hg
  exact ⟨y, h3, by rw [List.getD_eq_getElem?_getD, h3]; rfl, h4, h5⟩
theorem PtAt.at_ {w W : World} {p gb n : Nat} {r : Res} {P : List Int} (h : PtAt w W p gb n r P) {k : Nat} {y : Int} (hy : P[k]? = some y) : W.cell? ⟨gb, k, none⟩ = some (.int .i64 y) ∧ W.frozen? ⟨gb, k, none⟩ = false := by
  obtain ⟨z, h1, _, h2, h3⟩ := h.get (List.getElem?_eq_some_iff.1 hy).1
  rw [hy] at h1
  injection h1 with h1
  subst h1
  exact ⟨h2, h3⟩
theorem ptAt_new {w wr : World} {gb n : Nat} {r : Res} {P : List Int} (hf : Fr wr w.heap.size wr.heap.size (.slice (some ⟨gb, 0, none⟩) n n) P) (hb : Below w.heap.size w wr) :
    PtAt w (wr.alloc (.cells #[.int .i64 r.h, .int .i64 r.a, .int .i64 r.g, .int .i64 r.t] 39)) wr.heap.size gb n r P :=
  ⟨by simp, by simp, by simp, by simp, hf.grow ((Below.refl _ wr).alloc (Nat.le_refl _) _), by simp, hb.alloc hb.size _⟩
theorem pt_caps {n : Nat} {rs : List Res} {j : Nat} {k : Nat} (hn : rs.length ≤ 60) {y : Int} (hy : (ptsF n (rs.take j))[k]? = some y) : 0 ≤ y ∧ y ≤ 360 := by
  have := ptsF_bound (List.mem_of_getElem? hy)
  have h2 : (rs.take j).length ≤ 60 := by rw [List.length_take]; omega
  omega
theorem pt_caps2 {n : Nat} {rs : List Res} {j : Nat} {i v : Int} {k : Nat} (hn : rs.length ≤ 60) (hv : 0 ≤ v ∧ v ≤ 3) {y : Int} (hy : (addAt (ptsF n (rs.take j)) i v)[k]? = some y) : 0 ≤ y ∧ y ≤ 363 := by
  have h2 : (rs.take j).length ≤ 60 := by rw [List.length_take]; omega
  have := addAt_cap (n := 360) (i := i) (fun y hy => by have := ptsF_bound hy; omega) hv (by omega) y (List.mem_of_getElem? hy)
  omega
theorem addAt_eq {P : List Int} {k : Nat} {y v : Int} (hy : P[k]? = some y) : P.set k (y + v) = addAt P (k : Int) v := by
  rw [addAt, Int.toNat_natCast, List.getD_eq_getElem?_getD, hy]; rfl
theorem Fr.someA {w : World} {lo hi : Nat} {v : Value} {xs : List Int} (h : Fr w lo hi v xs) (hl : 0 < xs.length) : ∃ g c, v = .slice (some ⟨g, 0, none⟩) xs.length c ∧ lo ≤ g ∧ g < hi := by
  obtain ⟨A, c, rfl, _⟩ := h.form
  obtain ⟨g, _, rfl, h1, h2, _⟩ := h.at_ (k := 0) hl
  exact ⟨g, c, rfl, h1, h2⟩
end Go.Proofs.Ythlkhmbndaecfaa
