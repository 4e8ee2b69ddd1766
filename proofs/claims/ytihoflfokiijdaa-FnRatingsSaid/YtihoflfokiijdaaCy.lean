/- Tables of integers: rows made one by one, one cell raised in place. -/
import Derived.Test.YtihoflfokiijdaaRo
namespace Go.Proofs.Ytihoflfokiijdaa
open Go.ChangeShapes Go.WideShapes Go.ChangeAt Go.RowKit

theorem OwS.drewN {w : World} {lo hi : Nat} {v : Value} {xss : List (List Int)} (h : OwS w lo hi v xss) (q : Nat) : OwS (w.drewN q) lo hi v xss := h
theorem OwS.top {w : World} {lo hi h' : Nat} {v : Value} {xss : List (List Int)} (h : OwS w lo hi v xss) (h1 : hi ≤ h') (h2 : h' ≤ w.heap.size) : OwS w lo h' v xss := by
  obtain ⟨vs, a, b, c, d, e, f, g⟩ := h
  exact ⟨vs, a, b, fun x hx => Nat.lt_of_lt_of_le (c x hx) h1, by omega, h2, fun k u xs p q => (f k u xs p q).wide (Nat.le_refl _) h1 h2, g⟩
/-- One cell of a table of one's own: where it lies, and what holds behind a store. -/
theorem OwS.cellAt {w : World} {lo hi n c : Nat} {A : Option Addr} {xss : List (List Int)} (h : OwS w lo hi (.slice A n c) xss) {a b : Nat} {xs : List Int} (hx : xss[a]? = some xs) (hb : b < xs.length) :
    ∃ g g1 c1 x, A = some ⟨g, 0, none⟩ ∧ a < n ∧ n ≤ c ∧ w.cell? ⟨g, a, none⟩ = some (.slice (some ⟨g1, 0, none⟩) xs.length c1) ∧ xs.length ≤ c1 ∧ xs[b]? = some x ∧ w.cell? ⟨g1, b, none⟩ = some (.int .i64 x) ∧ w.frozen? ⟨g1, b, none⟩ = false ∧
      ∀ y, OwS (w.setCell ⟨g1, b, none⟩ (.int .i64 y)) lo hi (.slice A n c) (xss.set a (xs.set b y)) ∧ Keep lo hi w (w.setCell ⟨g1, b, none⟩ (.int .i64 y)) := by
  have ha : a < xss.length := (List.getElem?_eq_some_iff.1 hx).1
  obtain ⟨A', c', he, hcl, _⟩ := h.form
  injection he with e1 e2 e3
  subst e1; subst e2; subst e3
  obtain ⟨g, u, xs', l, h', rfl, hx', hcell, a1, a2, a3, hfr, hset⟩ := h.rowAt ha
  rw [hx] at hx'
  injection hx' with hx'
  subst hx'
  obtain ⟨A1, c1, rfl, hc1, _⟩ := hfr.form
  obtain ⟨g1, x, rfl, hg1, hg2, hxb, hc, hf, hst⟩ := hfr.at_ hb
  refine ⟨g, g1, c1, x, rfl, ha, hcl, hcell, hc1, hxb, hc, hf, fun y => ?_⟩
  have hs := hst y
  exact ⟨hset _ _ (by rw [List.length_set]) hs.1 hs.2, hs.2.wide a1 a3⟩

set_option maxRecDepth 100000 in
/-- 'out = append(out, row)' at a row of rows of the call's own. -/
theorem appS {ops : Array Oper} {rest : List Oper} {o : Oper} {a : Act} {Q : Exit → Act → World → Prop} (hgd : o.guard = none) (s y : Operand)
    (ho : o.op = .call { callee := .builtin .append, args := #[s, y], argTypes := #[24, 24] })
    (w : World) (base : Nat) (v : Value) (n : Nat) (vs : List Value) (hs : a.eval s = v) (hown : w.ownsRow base 23 1 v n vs) (A : Option Addr) (m c : Nat)
    (hx : a.eval y = .slice (some ⟨w.heap.size, 0, none⟩) 1 1) (hl : n ≤ 1048576) (hbase : base ≤ w.heap.size)
    (h : ∀ v' w', w'.ownsRow base 23 1 v' (n + 1) (vs ++ [.slice A m c]) → (∀ B, B ≤ base → B ≤ w.heap.size → Below B w w') → w.heap.size < w'.heap.size → w.grownBy w' v.ownBlock → wpList Try.prog ops Q rest (a.put o.dst v') w') :
    wpList Try.prog ops Q (o :: rest) a (w.alloc (.cells #[.slice A m c] 23)) := by
  obtain ⟨i0, hi, hz0, hz1, hz2⟩ := info_parts infoIS
  refine wpList_append_own _ hgd s y _ ho base 23 i0 (.slice none 0 0) 1 24 Try.underlying24 hi hz0 hz1 hz2 rfl (by decide) v n vs hs (hown.alloc _) ⟨w.heap.size, 0, none⟩ 1 1 [.slice A m c] hx rfl ?_ ?_ (by unfold maxLen; omega) (by omega) (by simp; omega) ?_
  · intro j u hj
    match j, hj with
    | 0, hj => simp at hj; subst hj; simp [Addr.add]
  · intro u hu; simp at hu; subst hu; rfl
  · intro v' w' h2 h3 _
    have hsz := h3.size
    simp only [World.size_alloc] at hsz
    refine h v' w' h2 (fun B h4 h5 => ?_) (by omega) ?_
    · refine ((Below.refl B w).alloc h5 _).grown h3 (by simp; omega) (fun k hk => ?_)
      have := (hown.lt k hk).1; omega
    · exact ⟨h3.os, h3.tape, h3.output, by omega, fun k hk hne => by rw [h3.block k (by simp; omega) hne]; exact Below.heap_alloc _ _ _ hk⟩
theorem OwS.pushed {wr w1 : World} {lo : Nat} {v u : Value} {xss : List (List Int)} {xs : List Int} (h : OwS wr lo wr.heap.size v xss) (hb : Below wr.heap.size wr w1) (hu : Fr w1 wr.heap.size w1.heap.size u xs) :
    ∃ vs, w1.ownsRow lo 23 1 v xss.length vs ∧ ∀ v' w2, w2.ownsRow lo 23 1 v' (xss.length + 1) (vs ++ [u]) → w1.grownBy w2 v.ownBlock → OwS w2 lo w2.heap.size v' (xss ++ [xs]) := by
  have h1 := h.grow hb
  obtain ⟨vs, a, b, c, d, e, f, g⟩ := h1
  exact ⟨vs, b, fun v' w2 ho hg => OwS.push (w := wr) d b a (fun k y ys p q => (f k y ys p q)) g hu hb.size ho hg⟩
end Go.Proofs.Ytihoflfokiijdaa
