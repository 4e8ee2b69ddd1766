/- Tables of integers: rows made one by one, one cell raised in place. -/
import Derived.Test.YtnjomfmmnkjhfaaRo
namespace Go.Proofs.Ytnjomfmmnkjhfaa
open Go.ChangeShapes Go.WideShapes Go.ChangeAt Go.RowKit

theorem OwS.drewN {w : World} {lo hi : Nat} {v : Value} {xss : List (List Int)} (h : OwS w lo hi v xss) (q : Nat) : OwS (w.drewN q) lo hi v xss := h
theorem OwS.top {w : World} {lo hi h' : Nat} {v : Value} {xss : List (List Int)} (h : OwS w lo hi v xss) (h1 : hi ≤ h') (h2 : h' ≤ w.heap.size) : OwS w lo h' v xss := by
  obtain ⟨vs, a, b, c, d, e, f, g⟩ := h
  exact ⟨vs, a, b, fun x hx => Nat.lt_of_lt_of_le (c x hx) h1, by omega, h2, fun k u xs p q => (f k u xs p q).wide (Nat.le_refl _) h1 h2, g⟩
/-- One cell of a table of one's own: where it lies, and what holds behind a store. -/
theorem OwS.cellAt {w : World} {lo hi n c : Nat} {A : Option Addr} {xss : List (List Int)} (h : OwS w lo hi (.slice A n c) xss) {a b : Nat} {xs : List Int} (hx : xss[a]? = some xs) (hb : b < xs.length) :
    ∃ g g1 c1 x, A = some ⟨g, 0, none⟩ ∧ a < n ∧ n ≤ c ∧ w.cell? ⟨g, a, none⟩ = some (.slice (some ⟨g1, 0, none⟩) xs.length c1) ∧ xs.length ≤ c1 ∧ xs[b]? = some x ∧ w.cell? ⟨g1, b, none⟩ = some (.int .i64 x) ∧ w.frozen? ⟨g1, b, none⟩ = false ∧
      ∀ y, OwS (w.setCell ⟨g1, b, none⟩ (.int .i64 y)) lo hi (.slice A n c) (xss.set a (xs.set b y)) ∧ Keep lo hi w (w.setCell ⟨g1, b, none⟩ (.int .i64 y)) := by
  have ha : a < xss.length := (List.getElem?_eq_some_iff.1 hx).1
  obtain ⟨A', c', he, hcl, _⟩ := h.form
  injection he with e1 e2 e3
  subst e1; subst e2; subst e3
  obtain ⟨g, u, xs', l, h', rfl, hx', hcell, a1, a2, a3, hfr, hset⟩ := h.rowAt ha
  rw [hx] at hx'
  injection hx' with hx'
  subst hx'
  obtain ⟨A1, c1, rfl, hc1, _⟩ := hfr.form
  obtain ⟨g1, x, rfl, hg1, hg2, hxb, hc, hf, hst⟩ := hfr.at_ hb
  refine ⟨g, g1, c1, x, rfl, ha, hcl, hcell, hc1, hxb, hc, hf, fun y => ?_⟩
  have hs := hst y
  exact ⟨hset _ _ (by rw [List.length_set]) hs.1 hs.2, hs.2.wide a1 a3⟩
end Go.Proofs.Ytnjomfmmnkjhfaa
