/- The fewest challenges: what lies in memory while the reference searches. -/
import Derived.Test.YtbipjmaeclgldaaDoorFwp
import Derived.Test.YtbipjmaeclgldaaDoorRo
import Derived.Test.YtbipjmaeclgldaaDoorCy
import Derived.Test.YtbipjmaeclgldaaDoorStd
namespace Go.Proofs.YtbipjmaeclgldaaDoor
open Go.ChangeShapes Go.WideShapes Go.ChangeAt Go.RowKit

/-- The row of steps, one more than they are; 0 where no ladder stands. -/
def FarL (L : BfsL) (F : List Int) : Prop := F.length = 32768 ∧ (∀ x d, (x, d) ∈ L → F[(numL x).toNat]? = some ((d : Int) + 1)) ∧ (∀ k, k < 32768 → (∀ x d, (x, d) ∈ L → (numL x).toNat ≠ k) → F[k]? = some 0)
theorem FarL.miss {n : Nat} {L : BfsL} {F : List Int} (h : FarL L F) (hg : GoodB n L) {x : List Int} (hx : ladB x = true ∧ x.length = n) (h5 : n ≤ 5) (hk : hasK L x = false) : F[(numL x).toNat]? = some 0 := by
  have hr := numL_range hx.1 (by omega)
  refine h.2.2 _ (by omega) fun y d hy e => ?_
  have hl := hg.lad _ hy
  simp only at hl
  have hr2 := numL_range hl.1 (by omega)
  have := numL_inj hl.1 hx.1 (by rw [hl.2, hx.2]) (by omega)
  subst this
  exact hasK_f.1 hk (List.mem_map.2 ⟨_, hy, rfl⟩)
theorem FarL.add {n : Nat} {L : BfsL} {F : List Int} (h : FarL L F) (hg : GoodB n L) {x : List Int} (hx : ladB x = true ∧ x.length = n) (h5 : n ≤ 5) (hk : hasK L x = false) (e : Nat) : FarL (L ++ [(x, e)]) (F.set (numL x).toNat ((e : Int) + 1)) := by
  have hr := numL_range hx.1 (by omega)
  refine ⟨by rw [List.length_set]; exact h.1, fun y d hy0 => ?_, fun k hk2 hn => ?_⟩
  · rcases List.mem_append.1 hy0 with hy | hy
    · have hl := hg.lad _ hy
      simp only at hl
      have hr2 := numL_range hl.1 (by omega)
      rw [List.getElem?_set_ne]
      · exact h.2.1 y d hy
      · intro e2
        have := numL_inj hl.1 hx.1 (by rw [hl.2, hx.2]) (by omega)
        subst this
        exact hasK_f.1 hk (List.mem_map.2 ⟨_, hy, rfl⟩)
    · simp only [List.mem_singleton, Prod.mk.injEq] at hy
      obtain ⟨rfl, rfl⟩ := hy
      exact List.getElem?_set_self (by rw [h.1]; omega)
  · have h1 := hn x e (by simp)
    rw [List.getElem?_set_ne h1]
    exact h.2.2 k hk2 fun y d hy => hn y d (List.mem_append_left _ hy)
theorem FarL.nil {F : List Int} (h : F = List.replicate 32768 0) : FarL [] F := by
  refine ⟨by rw [h, List.length_replicate], fun x d hx => absurd hx (by simp), fun k hk _ => ?_⟩
  rw [h, List.getElem?_replicate, if_pos hk]
/-- A block that neither the row of steps nor the list of ladders lies in. -/
def ApartB (w wr : World) (gf b : Nat) : Prop := b < wr.heap.size ∧ (b < w.heap.size ∨ (b ≠ gf ∧ ∃ cur fr, wr.heap[b]? = some (.cells cur 3 fr)))
def RowIn (w wr : World) (gf : Nat) (v : Value) (x : List Int) : Prop := ∃ b o c, v = .slice (some ⟨b, o, none⟩) x.length c ∧ x.length ≤ c ∧ c ≤ maxLen ∧ ApartB w wr gf b ∧ ∀ k y, x[k]? = some y → wr.cell? ⟨b, o + k, none⟩ = some (.int .i64 y)
theorem RowIn.kept {w wr W' : World} {gf : Nat} {v : Value} {x : List Int} (h : RowIn w wr gf v x) (hs : wr.heap.size ≤ W'.heap.size) (hk : ∀ b, ApartB w wr gf b → W'.heap[b]? = wr.heap[b]?) : RowIn w W' gf v x := by
  obtain ⟨b, o, c, rfl, h1, h2, h3, h4⟩ := h
  have e := hk b h3
  refine ⟨b, o, c, rfl, h1, h2, ⟨by have := h3.1; omega, ?_⟩, fun k y hy => ?_⟩
  · rcases h3.2 with h | ⟨h, cur, fr, hb⟩
    · exact .inl h
    · exact .inr ⟨h, cur, fr, e.trans hb⟩
  · rw [← h4 k y hy]; simp [World.cell?, e]
theorem RowIn.in_ {w wr : World} {gf : Nat} {v : Value} {x : List Int} (h : RowIn w wr gf v x) : InI wr v x := by
  obtain ⟨b, o, c, rfl, h1, h2, h3, h4⟩ := h
  exact ⟨_, _, rfl, h1, h2, .inr ⟨_, _, rfl, h4⟩⟩
/-- The argument's row. -/
theorem RowIn.arg {w wr : World} {gf : Nat} {v : Value} {x : List Int} (h : InI w v x) (h0 : 0 < x.length) (hb : Below w.heap.size w wr) : RowIn w wr gf v x := by
  obtain ⟨A, c, rfl, h1, h2, h3⟩ := h
  rcases h3 with h3 | ⟨b, o, rfl, h3⟩
  · rw [h3] at h0; simp at h0
  · have hlt := block_lt_of_cell (h3 0 x[0] (List.getElem?_eq_getElem h0))
    simp only at hlt
    exact ⟨b, o, c, rfl, h1, h2, ⟨Nat.lt_of_lt_of_le hlt hb.size, .inl hlt⟩, fun k y hy => (hb.cell (p := ⟨b, o + k, none⟩) hlt).trans (h3 k y hy)⟩
/-- A fresh row. -/
theorem RowIn.fresh {w wr W' : World} {gf : Nat} {v : Value} {x : List Int} (h : Fr W' wr.heap.size W'.heap.size v x) (h0 : 0 < x.length) (hg : gf < wr.heap.size) : RowIn w W' gf v x := by
  obtain ⟨A, c, rfl, h1, h2⟩ := h.form
  have hs := h.sl
  rcases h.own.2 with ⟨e, hn⟩ | ⟨g, cap, cur, e, hlo, hb, hc, hm, hr⟩
  · omega
  · injection e with e1 e2 e3
    subst e1
    have hlt := h.own.lt g rfl
    rcases hs with hs | ⟨b, o, e, hs⟩
    · rw [hs] at h0; simp at h0
    · injection e with e; injection e with e4 e5
      subst e4; subst e5
      exact ⟨_, _, c, rfl, h1, h2, ⟨by have := hlt.2; omega, .inr ⟨by have := hlt.1; omega, _, _, hb⟩⟩, hs⟩
structure FwR (w wr : World) (gf : Nat) (vl : Value) (L : BfsL) : Prop where
  be : Below w.heap.size w wr
  lo : w.heap.size ≤ gf
  gs : gf < wr.heap.size
  far : ∃ F, FarL L F ∧ wr.ownsRow w.heap.size 3 1 (.slice (some ⟨gf, 0, none⟩) 32768 32768) 32768 (ints F)
  lst : ∃ vs, wr.ownsRow w.heap.size 22 1 vl L.length vs ∧ ∀ (k : Nat) (v : Value) (p : List Int × Nat), vs[k]? = some v → L[k]? = some p → RowIn w wr gf v p.1
theorem FwR.below {w wr w2 : World} {gf : Nat} {vl : Value} {L : BfsL} (h : FwR w wr gf vl L) (hb : Below wr.heap.size wr w2) : FwR w w2 gf vl L := by
  obtain ⟨F, hF, ho⟩ := h.far
  obtain ⟨vs, hv, hr⟩ := h.lst
  have hk : Keep wr.heap.size wr.heap.size wr w2 := Keep.of_below hb (Nat.le_refl _)
  exact ⟨h.be.trans (hb.mono h.be.size), h.lo, Nat.lt_of_lt_of_le h.gs hb.size, ⟨F, hF, ownsRow_keep ho (fun g hg => (ho.lt g hg).2) (Nat.le_refl _) hk (.inl (Nat.le_refl _))⟩,
    vs, ownsRow_keep hv (fun g hg => (hv.lt g hg).2) (Nat.le_refl _) hk (.inl (Nat.le_refl _)), fun k v p h1 h2 => (hr k v p h1 h2).kept hb.size fun b h3 => hb.block b h3.1⟩
/-- What stands in the row of steps. -/
theorem FwR.read {w wr : World} {gf : Nat} {vl : Value} {L : BfsL} (h : FwR w wr gf vl L) {k : Nat} (hk : k < 32768) : ∃ z, wr.cell? ⟨gf, k, none⟩ = some (.int .i64 z) ∧ ∀ F, FarL L F → (ints F)[k]? = some (.int .i64 z) → True := by
  obtain ⟨F, hF, ho⟩ := h.far
  obtain ⟨x, h1, h2, _⟩ := own_get ho hk (.int .i64 0)
  obtain ⟨z, hz⟩ : ∃ z, F[k]? = some z := ⟨_, List.getElem?_eq_getElem (by rw [hF.1]; exact hk)⟩
  rw [ints_get hz] at h1
  injection h1 with h1; subst h1
  exact ⟨z, h2, fun _ _ _ => trivial⟩
theorem FwR.hit {w wr : World} {gf : Nat} {vl : Value} {L : BfsL} (h : FwR w wr gf vl L) {x : List Int} {d : Nat} (hx : (x, d) ∈ L) (hl : 0 ≤ numL x ∧ numL x < 32768) : wr.cell? ⟨gf, (numL x).toNat, none⟩ = some (.int .i64 ((d : Int) + 1)) := by
  obtain ⟨F, hF, ho⟩ := h.far
  obtain ⟨u, h1, h2, _⟩ := own_get ho (k := (numL x).toNat) (by omega) (.int .i64 0)
  rw [ints_get (hF.2.1 x d hx)] at h1
  injection h1 with h1; subst h1; exact h2
theorem FwR.miss {w wr : World} {gf n : Nat} {vl : Value} {L : BfsL} (h : FwR w wr gf vl L) (hg : GoodB n L) {x : List Int} (hx : ladB x = true ∧ x.length = n) (h5 : n ≤ 5) (hk : hasK L x = false) : wr.cell? ⟨gf, (numL x).toNat, none⟩ = some (.int .i64 0) := by
  obtain ⟨F, hF, ho⟩ := h.far
  have hr := numL_range hx.1 (by omega)
  obtain ⟨u, h1, h2, _⟩ := own_get ho (k := (numL x).toNat) (by omega) (.int .i64 0)
  rw [ints_get (hF.miss hg hx h5 hk)] at h1
  injection h1 with h1; subst h1; exact h2
theorem FwR.frozen {w wr : World} {gf k : Nat} {vl : Value} {L : BfsL} (h : FwR w wr gf vl L) (hk : k < 32768) : wr.frozen? ⟨gf, k, none⟩ = false := by
  obtain ⟨F, hF, ho⟩ := h.far
  obtain ⟨u, _, _, h3, _⟩ := own_get ho hk (.int .i64 0)
  exact h3
/-- A ladder of the list. -/
theorem FwR.row {w wr : World} {gf k : Nat} {vl : Value} {L : BfsL} (h : FwR w wr gf vl L) {p : List Int × Nat} (hp : L[k]? = some p) : ∃ g c v, vl = .slice (some ⟨g, 0, none⟩) L.length c ∧ wr.cell? ⟨g, k, none⟩ = some v ∧ RowIn w wr gf v p.1 := by
  obtain ⟨vs, hv, hr⟩ := h.lst
  have hk := (List.getElem?_eq_some_iff.1 hp).1
  rcases hv.2 with ⟨rfl, hn⟩ | ⟨g, cap, cur, rfl, hlo, hb, hc, hm, hrr⟩
  · omega
  · obtain ⟨u, h1, h2, _⟩ := own_get hv hk (.int .i64 0)
    exact ⟨g, cap, u, rfl, h2, hr k u p h1 hp⟩
theorem FwR.form {w wr : World} {gf : Nat} {vl : Value} {L : BfsL} (h : FwR w wr gf vl L) : ∃ A c, vl = .slice A L.length c := by
  obtain ⟨vs, hv, hr⟩ := h.lst
  rcases hv.2 with ⟨rfl, hn⟩ | ⟨g, cap, cur, rfl, _⟩
  · exact ⟨none, 0, by rw [hn]⟩
  · exact ⟨_, _, rfl⟩
theorem own_apart {w wr : World} {gf n b : Nat} {vl : Value} {vs : List Value} (hv : wr.ownsRow w.heap.size 22 1 vl n vs) (h : ApartB w wr gf b) : vl.ownBlock ≠ some b := by
  intro e
  have h1 := hv.lt b e
  rcases h.2 with h2 | ⟨_, cur, fr, hb⟩
  · omega
  · rcases hv.2 with ⟨rfl, _⟩ | ⟨g, cap, cur2, rfl, _, e2, _⟩
    · cases e
    · simp only [Value.ownBlock, Option.some.injEq] at e
      subst e
      rw [e2] at hb
      injection hb with hb
      injection hb with _ hb _
      exact absurd hb (by decide)
/-- A ladder more: its steps are stored, then it is put behind the list. -/
theorem FwR.stored {w wr : World} {gf n : Nat} {vl : Value} {L : BfsL} (h : FwR w wr gf vl L) (hg : GoodB n L) {x : List Int} (hx : ladB x = true ∧ x.length = n) (h5 : n ≤ 5) (hk : hasK L x = false) (e : Nat) {vx : Value} (hv : RowIn w wr gf vx x) :
    ∃ vs, (wr.setCell ⟨gf, (numL x).toNat, none⟩ (.int .i64 ((e : Int) + 1))).ownsRow w.heap.size 22 1 vl L.length vs ∧ ∀ v' w3, w3.ownsRow w.heap.size 22 1 v' (L.length + 1) (vs ++ [vx]) →
      (wr.setCell ⟨gf, (numL x).toNat, none⟩ (.int .i64 ((e : Int) + 1))).grownBy w3 vl.ownBlock → Below w.heap.size (wr.setCell ⟨gf, (numL x).toNat, none⟩ (.int .i64 ((e : Int) + 1))) w3 → FwR w w3 gf v' (L ++ [(x, e)]) := by
  obtain ⟨F, hF, ho⟩ := h.far
  obtain ⟨vs, hvs, hr⟩ := h.lst
  have hrg := numL_range hx.1 (by omega)
  obtain ⟨u, h1, h2, h3, h4, h6⟩ := own_get ho (k := (numL x).toNat) (by omega) (.int .i64 ((e : Int) + 1))
  rw [ints_set] at h4
  have hne : vl.ownBlock ≠ some gf := by
    intro e2
    rcases ho.2 with ⟨e3, _⟩ | ⟨g, cap, cur, e3, _, e4, _⟩
    · cases e3
    · injection e3 with e3; injection e3 with e3; injection e3 with e3 _ _
      subst e3
      rcases hvs.2 with ⟨rfl, _⟩ | ⟨g2, cap2, cur2, rfl, _, e5, _⟩
      · cases e2
      · simp only [Value.ownBlock, Option.some.injEq] at e2
        subst e2
        rw [e4] at e5
        injection e5 with e5
        injection e5 with _ e5 _
        exact absurd e5 (by decide)
  have hblk : ∀ b, b ≠ gf → (wr.setCell ⟨gf, (numL x).toNat, none⟩ (.int .i64 ((e : Int) + 1))).heap[b]? = wr.heap[b]? := fun b hb => by
    show (wr.heap.modify gf _)[b]? = _
    rw [Array.getElem?_modify, if_neg (fun e => hb e.symm)]
  have hsz : (wr.setCell ⟨gf, (numL x).toNat, none⟩ (.int .i64 ((e : Int) + 1))).heap.size = wr.heap.size := by simp
  have hgfA : ∀ b, ApartB w wr gf b → b ≠ gf := fun b hb e2 => by
    subst e2
    rcases hb.2 with hb | hb
    · have := h.lo; omega
    · exact hb.1 rfl
  have g1 : wr.grownBy (wr.setCell ⟨gf, (numL x).toNat, none⟩ (.int .i64 ((e : Int) + 1))) (some gf) := ⟨rfl, rfl, rfl, by rw [hsz]; exact Nat.le_refl _, fun k _ hne2 => hblk k fun e2 => hne2 (by rw [e2])⟩
  have hown2 := hvs.kept g1 (by
    cases hu : vl.ownBlock with
    | none => exact .inl rfl
    | some g => exact .inr fun e2 => hne (hu.trans e2))
  · refine ⟨vs, hown2, fun v' w3 o3 g3 b3 => ?_⟩
    have hapart2 : ∀ b, ApartB w wr gf b → ApartB w (wr.setCell ⟨gf, (numL x).toNat, none⟩ (.int .i64 ((e : Int) + 1))) gf b := fun b hb => ⟨by rw [hsz]; exact hb.1, hb.2.imp id fun ⟨h1, cur, fr, h2⟩ => ⟨h1, cur, fr, (hblk b (hgfA b hb)).trans h2⟩⟩
    have hrow : ∀ v y, RowIn w wr gf v y → RowIn w w3 gf v y := fun v y hvy => by
      refine (hvy.kept (W' := wr.setCell ⟨gf, (numL x).toNat, none⟩ (.int .i64 ((e : Int) + 1))) (by rw [hsz]; exact Nat.le_refl _) fun b hb => hblk b (hgfA b hb)).kept g3.size fun b hb => ?_
      exact g3.block b hb.1 fun e2 => own_apart hown2 hb e2.symm
    refine ⟨?_, h.lo, by have := g3.size; rw [hsz] at this; exact Nat.lt_of_lt_of_le h.gs this, ⟨_, hF.add hg hx h5 hk e, ?_⟩, vs ++ [vx], by rw [List.length_append, List.length_singleton]; exact o3, ?_⟩
    · exact (h.be.setCell (p := ⟨gf, (numL x).toNat, none⟩) h.lo _).trans b3
    · exact h4.kept g3 (.inr fun e2 => hne (by rw [← e2]; rfl))
    · intro k v p h7 h8
      have hl : vs.length = L.length := by have := hvs.1; simpa using this
      rcases Nat.lt_or_ge k L.length with h9 | h9
      · rw [List.getElem?_append_left (by omega)] at h7
        rw [List.getElem?_append_left h9] at h8
        exact hrow _ _ (hr k v p h7 h8)
      · rw [List.getElem?_append_right (by omega)] at h7
        rw [List.getElem?_append_right h9] at h8
        rw [hl] at h7
        cases hkk : k - L.length with
        | zero =>
          rw [hkk] at h7 h8
          simp only [List.getElem?_cons_zero, Option.some.injEq] at h7 h8
          subst h7; subst h8
          exact hrow _ _ hv
        | succ j => rw [hkk] at h7; simp at h7
end Go.Proofs.YtbipjmaeclgldaaDoor
