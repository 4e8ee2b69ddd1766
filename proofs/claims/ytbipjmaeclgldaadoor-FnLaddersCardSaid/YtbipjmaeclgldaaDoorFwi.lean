/- The fewest challenges: what lies in memory while the program searches. -/
import Derived.Test.YtbipjmaeclgldaaDoorFwm
import Derived.Test.YtbipjmaeclgldaaDoorFwq
namespace Go.Proofs.YtbipjmaeclgldaaDoor
open Go.ChangeShapes Go.WideShapes Go.ChangeAt Go.RowKit

def mapI (wr : World) (bm n : Nat) (D : DataW Unit) : Prop := wr.ownsMap Tryd.prog 9 (plainElem Tryd.prog 3) bm n D
theorem mapI.block {wr W' : World} {bm n : Nat} {D : DataW Unit} (h : mapI wr bm n D) (hb : W'.heap[bm]? = wr.heap[bm]?) : mapI W' bm n D := by
  obtain ⟨es, clock, h1, h2, h3, h4⟩ := h
  exact ⟨es, clock, hb.trans h1, h2, h3, h4⟩
structure FwI (w wr : World) (bm : Nat) (v : Value) (i : Nat) (L : BfsL) : Prop where
  be : Below w.heap.size w wr
  lo : w.heap.size ≤ bm
  mp : ∃ D, MapL L D ∧ mapI wr bm L.length D
  q : ∃ vs, Que w wr v vs ∧ i + vs.length = L.length ∧ ∀ (k : Nat) (u : Value) (p : List Int × Nat), vs[k]? = some u → L[i + k]? = some p → RowIn w wr bm u p.1
theorem FwI.below {w wr w2 : World} {bm i : Nat} {v : Value} {L : BfsL} (h : FwI w wr bm v i L) (hb : Below wr.heap.size wr w2) : FwI w w2 bm v i L := by
  obtain ⟨D, h1, h2⟩ := h.mp
  obtain ⟨vs, h3, h4, h5⟩ := h.q
  exact ⟨h.be.trans (hb.mono h.be.size), h.lo, ⟨D, h1, h2.block (hb.block bm h2.lt)⟩, vs, h3.below hb, h4, fun k u p e1 e2 => (h5 k u p e1 e2).keepRow hb⟩
/-- The first of the queue. -/
theorem FwI.first {w wr : World} {bm i n : Nat} {v : Value} {L : BfsL} (h : FwI w wr bm v i L) {p : List Int × Nat} (hp : L[i]? = some p) (hn : p.1.length = n) :
    ∃ g off M cap bn on cn, v = .slice (some ⟨g, off, none⟩) M cap ∧ i + M = L.length ∧ M ≤ cap ∧ cap ≤ 2 ^ 63 - 1 ∧ wr.cell? ⟨g, off, none⟩ = some (.slice (some ⟨bn, on, none⟩) n cn) ∧ n ≤ cn ∧ cn ≤ 2 ^ 63 - 1 ∧ RowIn w wr bm (.slice (some ⟨bn, on, none⟩) n cn) p.1 := by
  obtain ⟨vs, h3, h4, h5⟩ := h.q
  have hi := (List.getElem?_eq_some_iff.1 hp).1
  obtain ⟨g, off, cap, rfl, h6, h7, h8⟩ := h3.form
  obtain ⟨u, hu⟩ : ∃ u, vs[0]? = some u := ⟨_, List.getElem?_eq_getElem (by omega)⟩
  have hr := h5 0 u p hu (by rw [Nat.add_zero]; exact hp)
  have hr0 := hr
  obtain ⟨b, o, c', rfl, h9, h10, _, _⟩ := hr
  have hc := h8 0 _ hu
  rw [Nat.add_zero] at hc
  subst hn
  exact ⟨g, off, vs.length, cap, b, o, c', rfl, h4, h6, h7, hc, h9, h10, hr0⟩
theorem FwI.form {w wr : World} {bm i : Nat} {v : Value} {L : BfsL} (h : FwI w wr bm v i L) : ∃ A M cap, v = .slice A M cap ∧ i + M = L.length := by
  obtain ⟨vs, h3, h4, _⟩ := h.q
  obtain ⟨g, off, cap, rfl, _⟩ := h3.form
  exact ⟨_, _, _, rfl, h4⟩
/-- The queue without its first. -/
theorem FwI.cut {w wr : World} {bm i g off M cap : Nat} {L : BfsL} (h : FwI w wr bm (.slice (some ⟨g, off, none⟩) M cap) i L) (hM : 0 < M) :
    ∀ ao : Option Addr, ao = (if cap = 1 then some ⟨g, off, none⟩ else some ⟨g, off + 1, none⟩) → FwI w wr bm (.slice ao (M - 1) (cap - 1)) (i + 1) L := by
  intro ao ha
  obtain ⟨vs, h3, h4, h5⟩ := h.q
  have hl : vs.length = M := by
    obtain ⟨g', off', cap', e, _⟩ := h3.form
    injection e with _ e2 _; exact e2.symm
  cases vs with
  | nil => simp at hl; omega
  | cons u us =>
    rw [List.length_cons] at hl h4
    have ht := h3.tail ao ha
    rw [show us.length = M - 1 by omega] at ht
    exact ⟨h.be, h.lo, h.mp, us, ht, by omega, fun k y p e1 e2 => h5 (k + 1) y p (by rw [List.getElem?_cons_succ]; exact e1) (by rw [show i + (k + 1) = i + 1 + k by omega]; exact e2)⟩
theorem que_apart {w wr : World} {bm b : Nat} {v : Value} {vs : List Value} (hq : Que w wr v vs) (h : ApartB w wr bm b) : v.ownBlock ≠ some b := by
  intro e
  obtain ⟨g, off, cap, cur, rfl, h1, h2, h3, h4, h5, h6⟩ := hq
  simp only [Value.ownBlock, Option.some.injEq] at e
  subst e
  rcases h.2 with h7 | ⟨_, cur2, fr, h7⟩
  · omega
  · rw [h4] at h7
    injection h7 with h7
    injection h7 with _ h7 _
    exact absurd h7 (by decide)
theorem que_map {w wr : World} {bm n : Nat} {D : DataW Unit} {v : Value} {vs : List Value} (hq : Que w wr v vs) (hm : mapI wr bm n D) : v.ownBlock ≠ some bm := by
  intro e
  obtain ⟨g, off, cap, cur, rfl, h1, h2, h3, h4, h5, h6⟩ := hq
  simp only [Value.ownBlock, Option.some.injEq] at e
  subst e
  obtain ⟨es, clock, h7, _⟩ := hm
  rw [h4] at h7
  injection h7 with h7
  cases h7
/-- A ladder more: its steps are put into the map, then it is put behind the queue. -/
theorem FwI.added {w wr w1 : World} {bm i n : Nat} {v : Value} {L : BfsL} {D : DataW Unit} (h : FwI w wr bm v i L) (hg : GoodB n L) {x y : List Int} (hx : ladB x = true ∧ x.length = n) (hk : hasK L x = false) {d : Nat} (hD : MapL L D)
    (h1 : mapI w1 bm (L.length + 1) (D.put (keyS x) (.lit (.int .i64 ((d + 1 : Nat) : Int))))) (g1 : wr.grownBy w1 (some bm)) {vx vy : Value} (hv : RowIn w wr bm vx x) (hy : RowIn w wr bm vy y) :
    ∃ vs, Que w w1 v vs ∧ w.heap.size ≤ w1.heap.size ∧ i + vs.length = L.length ∧ ∀ v' w3, Que w w3 v' (vs ++ [vx]) → Below w.heap.size w1 w3 → (∀ b, b < w1.heap.size → v.ownBlock ≠ some b → w3.heap[b]? = w1.heap[b]?) →
      FwI w w3 bm v' i (addB d L x) ∧ RowIn w w3 bm vy y := by
  obtain ⟨D0, _, hm0⟩ := h.mp
  obtain ⟨vs, hq, h4, h5⟩ := h.q
  have hne : ∀ b, ApartB w wr bm b → b ≠ bm := fun b hb e2 => by
    subst e2
    rcases hb.2 with hb | hb
    · have := h.lo; omega
    · exact hb.1 rfl
  have hB1 : Below w.heap.size w w1 := h.be.grown g1 h.be.size (fun k hk => by cases hk; exact h.lo)
  have hq1 : Que w w1 v vs := hq.kept fun b _ hb e => g1.block b hb fun e2 => que_map hq hm0 (e.trans e2)
  have hk1 : ∀ u z, RowIn w wr bm u z → RowIn w w1 bm u z := fun u z hu => hu.kept g1.size fun b hb => g1.block b hb.1 fun e2 => hne b hb (by injection e2)
  refine ⟨vs, hq1, hB1.size, h4, fun v' w3 hq3 hb3 ho3 => ?_⟩
  have hk3 : ∀ u z, RowIn w wr bm u z → RowIn w w3 bm u z := fun u z hu => (hk1 u z hu).kept hb3.size fun b hb => ho3 b hb.1 (que_apart hq1 hb)
  refine ⟨?_, hk3 _ _ hy⟩
  rw [addB_f hk]
  refine ⟨hB1.trans hb3, h.lo, ⟨_, hD.add hg hx hk, ?_⟩, vs ++ [vx], hq3, by simp; omega, fun k u p e1 e2 => ?_⟩
  · rw [List.length_append, List.length_singleton]
    exact h1.block (ho3 bm h1.lt (que_map hq1 h1))
  · rcases Nat.lt_or_ge k vs.length with h9 | h9
    · rw [List.getElem?_append_left h9] at e1
      rw [List.getElem?_append_left (by omega)] at e2
      exact hk3 _ _ (h5 k u p e1 e2)
    · rw [List.getElem?_append_right h9] at e1
      rw [List.getElem?_append_right (by omega)] at e2
      have hkk : k = vs.length := by
        cases hj : k - vs.length with
        | zero => omega
        | succ j => rw [hj] at e1; simp at e1
      subst hkk
      rw [Nat.sub_self] at e1
      rw [h4, Nat.sub_self] at e2
      simp only [List.getElem?_cons_zero, Option.some.injEq] at e1 e2
      subst e1; subst e2
      exact hk3 _ _ hv
end Go.Proofs.YtbipjmaeclgldaaDoor
