/- The reference's table. -/
import Derived.Test.YthlkhmbndaecfaaTk
import Derived.Test.YthlkhmbndaecfaaApa
namespace Go.Proofs.Ythlkhmbndaecfaa
open Go.ChangeShapes Go.WideShapes Go.ChangeAt Go.RowKit

/-- The loop of keys: the row of keys v, the row of points at gp, the box of the argument. -/
structure TabAt (w : World) (s1 s2 s3 : Nat) (W : World) (A : Option Addr) (gp n len c : Nat) (P : List Int) (v : Value) (KS : List Int) : Prop where
  fr : Fr W s1 W.heap.size v KS
  be : Below w.heap.size w W
  sl : SlI W (some ⟨gp, 0, none⟩) P
  q0 : W.cell? ⟨w.heap.size, 0, none⟩ = some (.int .i64 (n : Int))
  q1 : W.cell? ⟨w.heap.size, 1, none⟩ = some (.slice A len c)
  sz : s3 ≤ W.heap.size
  og : ∀ k, v.ownBlock = some k → k < s2 ∨ s3 ≤ k
theorem TabAt.below {w W W' : World} {s1 s2 s3 gp n len c : Nat} {A : Option Addr} {P KS : List Int} {v : Value} (h : TabAt w s1 s2 s3 W A gp n len c P v KS) (hb : Below W.heap.size W W') (hs : w.heap.size < s3) : TabAt w s1 s2 s3 W' A gp n len c P v KS := by
  have := h.sz
  exact ⟨(h.fr.grow hb).wide (Nat.le_refl _) hb.size (Nat.le_refl _), h.be.trans (hb.mono h.be.size), SlI.below h.sl hb, (hb.cell (p := ⟨w.heap.size, 0, none⟩) (by show w.heap.size < _; omega)).trans h.q0, (hb.cell (p := ⟨w.heap.size, 1, none⟩) (by show w.heap.size < _; omega)).trans h.q1, Nat.le_trans h.sz hb.size, h.og⟩
theorem TabAt.next {w W W' : World} {s1 s2 s3 gp n len c j : Nat} {A : Option Addr} {P KS : List Int} {v v' : Value} {K : Int} (h : TabAt w s1 s2 s3 W A gp n len c P v KS) (h0 : w.heap.size < s1) (h1 : s1 < s2) (h2 : s2 ≤ gp) (h3 : gp < s3) (hl : (KS ++ [K]).length = j + 1)
    (hown : W'.ownsRow s1 3 1 v' (j + 1) (ints (KS ++ [K]))) (hb : ∀ B, B ≤ s1 → B ≤ W.heap.size → Below B W W') (hg : W.grownBy W' v.ownBlock) (ho : v'.ownBlock = v.ownBlock ∨ v'.ownBlock = some (W.heap.size + 1)) : TabAt w s1 s2 s3 W' A gp n len c P v' (KS ++ [K]) := by
  have hsz := h.sz
  have B := hb s1 (Nat.le_refl _) (by omega)
  refine ⟨Fr.of_own (by rw [hl]; exact hown), h.be.trans (B.mono (by omega)), ?_, (B.cell (p := ⟨w.heap.size, 0, none⟩) (by show w.heap.size < _; omega)).trans h.q0, (B.cell (p := ⟨w.heap.size, 1, none⟩) (by show w.heap.size < _; omega)).trans h.q1, Nat.le_trans h.sz B.size, fun k hk => ?_⟩
  · rcases h.sl with e | ⟨b, off, he, hc⟩
    · exact .inl e
    · injection he with he
      injection he with e1 e2 _
      subst e1; subst e2
      refine .inr ⟨gp, 0, rfl, fun k x hx => hg.cell (hc k x hx) (fun e => ?_)⟩
      have := h.og gp e.symm
      omega
  · rcases ho with ho | ho
    · exact h.og k (by rw [← ho]; exact hk)
    · rw [ho] at hk; injection hk with hk; omega

theorem tabOwn {w W : World} {s1 s2 s3 gp n len c j c0 g0 : Nat} {A : Option Addr} {P KS : List Int} (h : TabAt w s1 s2 s3 W A gp n len c P (.slice (some ⟨g0, 0, none⟩) j c0) KS) (hl : KS.length = j) : W.ownsRow s1 3 1 (.slice (some ⟨g0, 0, none⟩) j c0) j (ints KS) := by
  have h1 := h.fr.1
  rw [hl] at h1
  exact h1
theorem tabLe {w W : World} {s1 s2 s3 gp n len c : Nat} {A : Option Addr} {P KS : List Int} {v : Value} (h : TabAt w s1 s2 s3 W A gp n len c P v KS) (h1 : s1 < s2) (h2 : s2 ≤ s3) : s1 ≤ W.heap.size := by
  have := h.sz; omega
end Go.Proofs.Ythlkhmbndaecfaa
