/- Tables of integers: rows made one by one, one cell raised in place. -/
import Derived.Test.YtklhplifceedeaaDoorRo
namespace Go.Proofs.YtklhplifceedeaaDoor
open Go.ChangeShapes Go.WideShapes Go.ChangeAt Go.RowKit

/-- A row of rows that is being filled: the first j are made. -/
structure FillS (lo : Nat) (wr : World) (n j : Nat) (us : List Value) (xss : List (List Int)) : Prop where
  ul : us.length = j
  xl : xss.length = n
  sz : lo < wr.heap.size
  own : wr.ownsRow lo 22 1 (.slice (some ⟨lo, 0, none⟩) n n) n (us ++ List.replicate (n - j) (.slice none 0 0))
  rows : ∀ (k : Nat) (u : Value) (xs : List Int), us[k]? = some u → xss[k]? = some xs → Fr wr (lo + 1) wr.heap.size u xs
  ap : ∀ (i j : Nat) (u u' : Value), i ≠ j → us[i]? = some u → us[j]? = some u' → ∀ g, u.ownBlock = some g → u'.ownBlock ≠ some g
theorem FillS.next {lo : Nat} {wr w2 : World} {n j c' : Nat} {A' : Option Addr} {us : List Value} {xss : List (List Int)} {xs : List Int} (h : FillS lo wr n j us xss) (hj : j < n) (hx : xss[j]? = some xs)
    (hfr : Fr w2 wr.heap.size w2.heap.size (.slice A' xs.length c') xs) (hb : Below wr.heap.size wr w2) :
    (∃ x, w2.cell? ⟨lo, j, none⟩ = some x) ∧ w2.frozen? ⟨lo, j, none⟩ = false ∧ FillS lo (w2.setCell ⟨lo, j, none⟩ (.slice A' xs.length c')) n (j + 1) (us ++ [.slice A' xs.length c']) xss ∧ Keep lo (lo + 1) w2 (w2.setCell ⟨lo, j, none⟩ (.slice A' xs.length c')) := by
  obtain ⟨hul, hxl, hsz, hown, hrows, hap⟩ := h
  have hown2 := ownsRow_keep hown (hi := lo + 1) (fun g hg => by simp only [Value.ownBlock, Option.some.injEq] at hg; omega) (by omega) (Keep.of_below (lo := wr.heap.size) (hi := wr.heap.size) hb (Nat.le_refl _)) (.inl hsz)
  obtain ⟨hcell, hf, hst, hkp⟩ := own_at hown2 hj (.slice A' xs.length c')
  have hz2 := hb.size
  have hz3 := hkp.size
  refine ⟨hcell, hf, ⟨by simp [hul], hxl, by omega, ?_, ?_, ?_⟩, hkp⟩
  · have e : (us ++ List.replicate (n - j) (Value.slice none 0 0)).set j (Value.slice A' xs.length c') = us ++ [Value.slice A' xs.length c'] ++ List.replicate (n - (j + 1)) (Value.slice none 0 0) := by
      rw [show n - j = (n - (j + 1)) + 1 from by omega, List.replicate_succ, List.set_append_right _ _ (by rw [hul]; exact Nat.le_refl _), hul, Nat.sub_self, List.set_cons_zero]
      simp
    rw [e] at hst
    exact hst
  · intro k u1 xs1 h1 h2
    rcases Nat.lt_or_ge k us.length with hk | hk
    · rw [List.getElem?_append_left hk] at h1
      have h3 := hrows k u1 xs1 h1 h2
      refine ((h3.grow hb).apart hkp (fun g hg => ?_)).wide (Nat.le_refl _) (by omega) (Nat.le_refl _)
      have h4 := (h3.1.lt g hg).1
      omega
    · have hk' : k = us.length := by
        rcases Nat.lt_or_ge k (us ++ [Value.slice A' xs.length c']).length with h | h
        · simp at h; omega
        · rw [List.getElem?_eq_none h] at h1; cases h1
      subst hk'
      rw [List.getElem?_append_right (Nat.le_refl _), Nat.sub_self] at h1
      injection h1 with h1
      subst h1
      rw [hul, hx] at h2
      injection h2 with h2
      subst h2
      exact (hfr.keep hkp (.inr (by omega))).wide (by omega) (by omega) (Nat.le_refl _)
  · intro i1 j1 u1 u2 hne h1 h2 g hg1 hg2
    have hold : ∀ (k : Nat) (u1 : Value), us[k]? = some u1 → ∀ g, u1.ownBlock = some g → g < wr.heap.size := by
      intro k u1 h1 g hg
      obtain ⟨hk, _⟩ := List.getElem?_eq_some_iff.1 h1
      have h2 : xss[k]? = some xss[k]! := by
        rw [getElem!_pos xss k (by omega)]
        exact List.getElem?_eq_getElem _
      exact (hrows k u1 _ h1 h2).2.1 g hg
    have hnew : ∀ g, (Value.slice A' xs.length c').ownBlock = some g → wr.heap.size ≤ g := fun g hg => (hfr.1.lt g hg).1
    have hcase : ∀ (k : Nat) (u1 : Value), (us ++ [Value.slice A' xs.length c'])[k]? = some u1 → (us[k]? = some u1 ∧ k < us.length) ∨ (u1 = .slice A' xs.length c' ∧ k = us.length) := by
      intro k u1 h1
      rcases Nat.lt_or_ge k us.length with hk | hk
      · rw [List.getElem?_append_left hk] at h1; exact .inl ⟨h1, hk⟩
      · have hk' : k = us.length := by
          rcases Nat.lt_or_ge k (us ++ [Value.slice A' xs.length c']).length with h | h
          · simp at h; omega
          · rw [List.getElem?_eq_none h] at h1; cases h1
        subst hk'
        rw [List.getElem?_append_right (Nat.le_refl _), Nat.sub_self] at h1
        injection h1 with h1
        exact .inr ⟨h1.symm, rfl⟩
    rcases hcase i1 u1 h1 with ⟨a1, b1⟩ | ⟨a1, b1⟩ <;> rcases hcase j1 u2 h2 with ⟨a2, b2⟩ | ⟨a2, b2⟩
    · exact hap i1 j1 u1 u2 hne a1 a2 g hg1 hg2
    · subst a2; have := hold i1 u1 a1 g hg1; have := hnew g hg2; omega
    · subst a1; have := hold j1 u2 a2 g hg2; have := hnew g hg1; omega
    · omega
theorem FillS.done {lo : Nat} {wr : World} {n : Nat} {us : List Value} {xss : List (List Int)} (h : FillS lo wr n n us xss) : OwS wr lo wr.heap.size (.slice (some ⟨lo, 0, none⟩) n n) xss := by
  obtain ⟨hul, hxl, hsz, hown, hrows, hap⟩ := h
  refine ⟨us, by omega, by rw [hxl]; simpa using hown, fun g hg => ?_, by omega, Nat.le_refl _, fun k u xs h1 h2 => (hrows k u xs h1 h2).wide (by omega) (Nat.le_refl _) (Nat.le_refl _), hap⟩
  simp only [Value.ownBlock, Option.some.injEq] at hg; omega
theorem FillS.zero {w : World} {n : Nat} {xss : List (List Int)} {w' : World} (hxl : xss.length = n) (hown : w'.ownsRow w.heap.size 22 1 (.slice (some ⟨w.heap.size, 0, none⟩) n n) n (List.replicate n (.slice none 0 0))) (hsz : w'.heap.size = w.heap.size + 1) : FillS w.heap.size w' n 0 [] xss :=
  ⟨rfl, hxl, by omega, by simpa using hown, by simp, by simp⟩

theorem OwS.drewN {w : World} {lo hi : Nat} {v : Value} {xss : List (List Int)} (h : OwS w lo hi v xss) (q : Nat) : OwS (w.drewN q) lo hi v xss := h
theorem OwS.top {w : World} {lo hi h' : Nat} {v : Value} {xss : List (List Int)} (h : OwS w lo hi v xss) (h1 : hi ≤ h') (h2 : h' ≤ w.heap.size) : OwS w lo h' v xss := by
  obtain ⟨vs, a, b, c, d, e, f, g⟩ := h
  exact ⟨vs, a, b, fun x hx => Nat.lt_of_lt_of_le (c x hx) h1, by omega, h2, fun k u xs p q => (f k u xs p q).wide (Nat.le_refl _) h1 h2, g⟩
/-- One cell of a table of one's own: where it lies, and what holds behind a store. -/
theorem OwS.cellAt {w : World} {lo hi n c : Nat} {A : Option Addr} {xss : List (List Int)} (h : OwS w lo hi (.slice A n c) xss) {a b : Nat} {xs : List Int} (hx : xss[a]? = some xs) (hb : b < xs.length) :
    ∃ g g1 c1 x, A = some ⟨g, 0, none⟩ ∧ a < n ∧ n ≤ c ∧ w.cell? ⟨g, a, none⟩ = some (.slice (some ⟨g1, 0, none⟩) xs.length c1) ∧ xs.length ≤ c1 ∧ xs[b]? = some x ∧ w.cell? ⟨g1, b, none⟩ = some (.int .i64 x) ∧ w.frozen? ⟨g1, b, none⟩ = false ∧
      ∀ y, OwS (w.setCell ⟨g1, b, none⟩ (.int .i64 y)) lo hi (.slice A n c) (xss.set a (xs.set b y)) ∧ Keep lo hi w (w.setCell ⟨g1, b, none⟩ (.int .i64 y)) := by
  have ha : a < xss.length := (List.getElem?_eq_some_iff.1 hx).1
  obtain ⟨A', c', he, hcl, _⟩ := h.form
  injection he with e1 e2 e3
  subst e1; subst e2; subst e3
  obtain ⟨g, u, xs', l, h', rfl, hx', hcell, a1, a2, a3, hfr, hset⟩ := h.rowAt ha
  rw [hx] at hx'
  injection hx' with hx'
  subst hx'
  obtain ⟨A1, c1, rfl, hc1, _⟩ := hfr.form
  obtain ⟨g1, x, rfl, hg1, hg2, hxb, hc, hf, hst⟩ := hfr.at_ hb
  refine ⟨g, g1, c1, x, rfl, ha, hcl, hcell, hc1, hxb, hc, hf, fun y => ?_⟩
  have hs := hst y
  exact ⟨hset _ _ (by rw [List.length_set]) hs.1 hs.2, hs.2.wide a1 a3⟩

set_option maxRecDepth 100000 in
/-- 'out = append(out, row)' at a row of rows of the call's own. -/
theorem appS {ops : Array Oper} {rest : List Oper} {o : Oper} {a : Act} {Q : Exit → Act → World → Prop} (hgd : o.guard = none) (s y : Operand)
    (ho : o.op = .call { callee := .builtin .append, args := #[s, y], argTypes := #[48, 48] })
    (w : World) (base : Nat) (v : Value) (n : Nat) (vs : List Value) (hs : a.eval s = v) (hown : w.ownsRow base 22 1 v n vs) (A : Option Addr) (m c : Nat)
    (hx : a.eval y = .slice (some ⟨w.heap.size, 0, none⟩) 1 1) (hl : n ≤ 1048576) (hbase : base ≤ w.heap.size)
    (h : ∀ v' w', w'.ownsRow base 22 1 v' (n + 1) (vs ++ [.slice A m c]) → (∀ B, B ≤ base → B ≤ w.heap.size → Below B w w') → w.heap.size < w'.heap.size → w.grownBy w' v.ownBlock → wpList Tryd.prog ops Q rest (a.put o.dst v') w') :
    wpList Tryd.prog ops Q (o :: rest) a (w.alloc (.cells #[.slice A m c] 22)) := by
  obtain ⟨i0, hi, hz0, hz1, hz2⟩ := info_parts infoIS
  refine wpList_append_own _ hgd s y _ ho base 22 i0 (.slice none 0 0) 1 24 Tryd.underlying48 hi hz0 hz1 hz2 rfl (by decide) v n vs hs (hown.alloc _) ⟨w.heap.size, 0, none⟩ 1 1 [.slice A m c] hx rfl ?_ ?_ (by unfold maxLen; omega) (by omega) (by simp; omega) ?_
  · intro j u hj
    match j, hj with
    | 0, hj => simp at hj; subst hj; simp [Addr.add]
  · intro u hu; simp at hu; subst hu; rfl
  · intro v' w' h2 h3 _
    have hsz := h3.size
    simp only [World.size_alloc] at hsz
    refine h v' w' h2 (fun B h4 h5 => ?_) (by omega) ?_
    · refine ((Below.refl B w).alloc h5 _).grown h3 (by simp; omega) (fun k hk => ?_)
      have := (hown.lt k hk).1; omega
    · exact ⟨h3.os, h3.tape, h3.output, by omega, fun k hk hne => by rw [h3.block k (by simp; omega) hne]; exact Below.heap_alloc _ _ _ hk⟩
theorem OwS.pushed {wr w1 : World} {lo : Nat} {v u : Value} {xss : List (List Int)} {xs : List Int} (h : OwS wr lo wr.heap.size v xss) (hb : Below wr.heap.size wr w1) (hu : Fr w1 wr.heap.size w1.heap.size u xs) :
    ∃ vs, w1.ownsRow lo 22 1 v xss.length vs ∧ ∀ v' w2, w2.ownsRow lo 22 1 v' (xss.length + 1) (vs ++ [u]) → w1.grownBy w2 v.ownBlock → OwS w2 lo w2.heap.size v' (xss ++ [xs]) := by
  have h1 := h.grow hb
  obtain ⟨vs, a, b, c, d, e, f, g⟩ := h1
  exact ⟨vs, b, fun v' w2 ho hg => OwS.push (w := wr) d b a (fun k y ys p q => (f k y ys p q)) g hu hb.size ho hg⟩
end Go.Proofs.YtklhplifceedeaaDoor
