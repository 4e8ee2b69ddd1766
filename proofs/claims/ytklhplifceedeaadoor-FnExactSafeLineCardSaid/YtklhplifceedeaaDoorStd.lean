/- Readings of values, and the laws' own helpers in one standard form. -/
import Derived.Test.YtklhplifceedeaaDoorTools
namespace Go.Proofs.YtklhplifceedeaaDoor
open Go.ChangeShapes Go.WideShapes Go.ChangeAt Go.RowKit

/-- The value v reads as the integers xs. -/
def InI (w : World) (v : Value) (xs : List Int) : Prop := ∃ A c, v = .slice A xs.length c ∧ xs.length ≤ c ∧ c ≤ maxLen ∧ SlI w A xs
theorem InI.below {w w' : World} {v : Value} {xs : List Int} (h : InI w v xs) (hb : Below w.heap.size w w') : InI w' v xs := by
  obtain ⟨A, c, rfl, hc, hm, h⟩ := h; exact ⟨A, c, rfl, hc, hm, h.below hb⟩
theorem Fr.in_ {w : World} {lo hi : Nat} {v : Value} {xs : List Int} (h : Fr w lo hi v xs) : InI w v xs := by
  obtain ⟨A, c, rfl, hc, hm⟩ := h.form; exact ⟨A, c, rfl, hc, hm, h.sl⟩
theorem Fr.grow {w w' : World} {lo hi : Nat} {v : Value} {xs : List Int} (h : Fr w lo hi v xs) (hb : Below w.heap.size w w') : Fr w' lo hi v xs := h.below hb h.2.2

theorem toIntS_std (v : Value) (xs : List Int) (w : World) (hs : InI w v xs) (hn : xs.length ≤ 1048576) :
    Calls Tryd.prog 12 #[v] w fun e w' => ∃ v', e = .returned v' ∧ Fr w' w.heap.size w'.heap.size v' xs ∧ Below w.heap.size w w' := by
  obtain ⟨A, c, rfl, _, _, hs⟩ := hs
  exact (toIntS_any A c xs w hs hn).mono fun e w' ⟨A', c', he, h⟩ => ⟨_, he, h⟩
theorem eqIntS_std (v u : Value) (xs : List Int) (w : World) (hv : InI w v xs) (hu : InI w u xs) (hn : xs.length ≤ 1048576) :
    Calls Tryd.prog 15 #[v, u] w fun e w' => e = .returned (.bool true) ∧ Below w.heap.size w w' := by
  obtain ⟨A, c, rfl, _, _, hv⟩ := hv
  obtain ⟨B, d, rfl, _, _, hu⟩ := hu
  exact eqIntS_same A B _ _ c d xs w rfl rfl hv hu hn

/-- The slice address A reads as the values vs, each of one cell. -/
def SlV (w : World) (A : Option Addr) (vs : List Value) : Prop :=
  vs = [] ∨ ∃ b off, A = some ⟨b, off, none⟩ ∧ ∀ k v, vs[k]? = some v → w.cell? ⟨b, off + k, none⟩ = some v
theorem SlV.at_ {w : World} {A : Option Addr} {xs : List Value} (h : SlV w A xs) {k : Nat} (hk : k < xs.length) :
    ∃ b off x, A = some ⟨b, off, none⟩ ∧ xs[k]? = some x ∧ w.cell? ⟨b, off + k, none⟩ = some x ∧ b < w.heap.size := by
  rcases h with rfl | ⟨b, off, rfl, h⟩
  · simp at hk
  · have h0 : xs[k]? = some xs[k] := List.getElem?_eq_getElem hk
    exact ⟨b, off, xs[k], rfl, h0, h k _ h0, block_lt_of_cell (h k _ h0)⟩
theorem SlV.keep {w w' : World} {A : Option Addr} {xs : List Value} (h : SlV w A xs) (hk : ∀ p : Addr, p.block < w.heap.size → w'.cell? p = w.cell? p) : SlV w' A xs := by
  rcases h with rfl | ⟨b, off, rfl, h⟩
  · exact .inl rfl
  · exact .inr ⟨b, off, rfl, fun k x hx => by rw [hk _ (block_lt_of_cell (h k x hx))]; exact h k x hx⟩
theorem SlV.below {w w' : World} {A : Option Addr} {xs : List Value} (h : SlV w A xs) (hb : Below w.heap.size w w') : SlV w' A xs := h.keep fun _ hp => hb.cell hp
theorem SlV.of_own {w : World} {lo n c : Nat} {e : TypeId} {A : Option Addr} {vs : List Value} (h : w.ownsRow lo e 1 (.slice A n c) n vs) : SlV w A vs := by
  have hl : vs.length = n := by simpa using h.1
  rcases h.2 with ⟨he, hn⟩ | ⟨g, cap, cur, he, _, hh, hc, hm, hs, ht⟩
  · exact .inl (List.eq_nil_of_length_eq_zero (by omega))
  · injection he with h1 h2 h3
    subst h1
    refine .inr ⟨g, 0, rfl, fun k x hx => ?_⟩
    have hk : k < vs.length := by
      rcases Nat.lt_or_ge k vs.length with h | h
      · exact h
      · rw [List.getElem?_eq_none h] at hx; cases hx
    rw [cell_of_row w g (0 + k) cur _ _ hh, Nat.zero_add]
    rw [← ht, List.getElem?_take, if_pos (by omega)] at hx
    simpa using hx
/-- The value v reads as a slice of slices of integers. -/
def InS (w : World) (v : Value) (xss : List (List Int)) : Prop :=
  ∃ (A : Option Addr) (c : Nat) (vs : List Value), v = .slice A xss.length c ∧ vs.length = xss.length ∧ xss.length ≤ c ∧ c ≤ maxLen ∧ SlV w A vs ∧ ∀ (k : Nat) (u : Value) (xs : List Int), vs[k]? = some u → xss[k]? = some xs → InI w u xs
theorem InS.below {w w' : World} {v : Value} {xss : List (List Int)} (h : InS w v xss) (hb : Below w.heap.size w w') : InS w' v xss := by
  obtain ⟨A, c, vs, rfl, hl, hc, hm, hv, hr⟩ := h
  exact ⟨A, c, vs, rfl, hl, hc, hm, hv.below hb, fun k u xs h1 h2 => (hr k u xs h1 h2).below hb⟩
theorem InS.at_ {w : World} {A : Option Addr} {n c : Nat} {xss : List (List Int)} (h : InS w (.slice A n c) xss) {k : Nat} (hk : k < xss.length) :
    ∃ b off u xs, A = some ⟨b, off, none⟩ ∧ xss[k]? = some xs ∧ w.cell? ⟨b, off + k, none⟩ = some u ∧ InI w u xs ∧ b < w.heap.size := by
  obtain ⟨A', c', vs, he, hl, hc, hm, hv, hr⟩ := h
  injection he with h1 h2 h3
  subst h1
  obtain ⟨b, off, u, rfl, hu, hcell, hb⟩ := hv.at_ (k := k) (by omega)
  have h0 : xss[k]? = some xss[k] := List.getElem?_eq_getElem hk
  exact ⟨b, off, u, xss[k], rfl, h0, hcell, hr k u _ hu h0, hb⟩
/-- How many values a list of lists holds. -/
def bulk (xss : List (List Int)) : Nat := xss.length + (xss.map List.length).sum
theorem bulk_row {xss : List (List Int)} {k : Nat} {xs : List Int} (h : xss[k]? = some xs) : xs.length ≤ bulk xss := by
  have hm : xs.length ∈ xss.map List.length := List.mem_map.2 ⟨xs, List.mem_of_getElem? h, rfl⟩
  have : ∀ (l : List Nat) (x : Nat), x ∈ l → x ≤ l.sum := by
    intro l
    induction l with
    | nil => intro x hx; cases hx
    | cons a l ih =>
      intro x hx
      rw [List.sum_cons]
      rcases List.mem_cons.1 hx with rfl | hx
      · omega
      · have := ih x hx; omega
  have := this _ _ hm
  unfold bulk; omega
theorem bulk_len (xss : List (List Int)) : xss.length ≤ bulk xss := by unfold bulk; omega
/-- Rows of its own, each apart from the others. -/
def OwS (w : World) (lo hi : Nat) (v : Value) (xss : List (List Int)) : Prop :=
  ∃ (vs : List Value), vs.length = xss.length ∧ w.ownsRow lo 22 1 v xss.length vs ∧ (∀ g, v.ownBlock = some g → g < hi) ∧ lo ≤ hi ∧ hi ≤ w.heap.size ∧
    (∀ (k : Nat) (u : Value) (xs : List Int), vs[k]? = some u → xss[k]? = some xs → Fr w lo hi u xs) ∧ ∀ (i j : Nat) (u u' : Value), i ≠ j → vs[i]? = some u → vs[j]? = some u' → ∀ g, u.ownBlock = some g → u'.ownBlock ≠ some g
theorem OwS.form {w : World} {lo hi : Nat} {v : Value} {xss : List (List Int)} (h : OwS w lo hi v xss) : ∃ A c, v = .slice A xss.length c ∧ xss.length ≤ c ∧ c ≤ maxLen := by
  obtain ⟨vs, hl, h1, _⟩ := h
  rcases h1.2 with ⟨rfl, hn⟩ | ⟨g, cap, cur, rfl, _, _, hc, hm, _⟩
  · exact ⟨none, 0, by rw [hn], by omega, by unfold maxLen; omega⟩
  · exact ⟨_, cap, rfl, hc, hm⟩
theorem OwS.in_ {w : World} {lo hi : Nat} {v : Value} {xss : List (List Int)} (h : OwS w lo hi v xss) : InS w v xss := by
  obtain ⟨A, c, rfl, hc, hm⟩ := h.form
  obtain ⟨vs, hl, h1, h2, h3, h4, h5, h6⟩ := h
  exact ⟨A, c, vs, rfl, hl, hc, hm, SlV.of_own h1, fun k u xs hu hx => (h5 k u xs hu hx).in_⟩
theorem ownsRow_keep {w w' : World} {lo hi l2 h2 n : Nat} {e : TypeId} {v : Value} {vs : List Value} (h : w.ownsRow lo e 1 v n vs) (hg : ∀ g, v.ownBlock = some g → g < hi) (hs : hi ≤ w.heap.size) (hk : Keep l2 h2 w w') (hd : hi ≤ l2 ∨ h2 ≤ lo) :
    w'.ownsRow lo e 1 v n vs := by
  refine ⟨h.1, ?_⟩
  rcases h.2 with h1 | ⟨g, cap, cur, rfl, hb, hh, r⟩
  · exact .inl h1
  · have hgh := hg g rfl
    exact .inr ⟨g, cap, cur, rfl, hb, by rw [hk.block g (by omega) (by omega)]; exact hh, r⟩
theorem OwS.keep {w w' : World} {lo hi l2 h2 : Nat} {v : Value} {xss : List (List Int)} (h : OwS w lo hi v xss) (hk : Keep l2 h2 w w') (hd : hi ≤ l2 ∨ h2 ≤ lo) : OwS w' lo hi v xss := by
  obtain ⟨vs, hl, h1, h2, h3, h4, h5, h6⟩ := h
  exact ⟨vs, hl, ownsRow_keep h1 h2 h4 hk hd, h2, h3, Nat.le_trans h4 hk.size, fun k u xs hu hx => (h5 k u xs hu hx).keep hk hd, h6⟩
theorem OwS.grow {w w' : World} {lo hi : Nat} {v : Value} {xss : List (List Int)} (h : OwS w lo hi v xss) (hb : Below w.heap.size w w') : OwS w' lo hi v xss := by
  have h' := h
  obtain ⟨vs, hl, h1, h2, h3, h4, h5, h6⟩ := h
  exact h'.keep (Keep.of_below (lo := hi) (hi := hi) hb (Nat.le_refl _)) (.inl (Nat.le_refl _))
theorem OwS.nil (w : World) {lo hi : Nat} (h : hi ≤ w.heap.size) (h' : lo ≤ hi) : OwS w lo hi (.slice none 0 0) [] :=
  ⟨[], rfl, World.ownsRow_nil _ _ _ _, fun g hg => by simp [Value.ownBlock] at hg, h', h, fun k u xs hu => by simp at hu, fun i j u u' _ hu => by simp at hu⟩
/-- Around the one block of a row. -/
theorem Fr.tight {w : World} {lo hi : Nat} {u : Value} {xs : List Int} (h : Fr w lo hi u xs) (hle : lo ≤ hi) :
    ∃ l h', lo ≤ l ∧ l ≤ h' ∧ h' ≤ hi ∧ Fr w l h' u xs ∧ ∀ g, l ≤ g → g < h' → u.ownBlock = some g := by
  obtain ⟨h1, h2, h3⟩ := h
  rcases h1.2 with ⟨rfl, hn⟩ | ⟨g, cap, cur, rfl, hb, r⟩
  · refine ⟨hi, hi, hle, Nat.le_refl _, Nat.le_refl _, ⟨⟨h1.1, .inl ⟨rfl, hn⟩⟩, fun g hg => by simp [Value.ownBlock] at hg, h3⟩, fun g h4 h5 => by omega⟩
  · have hgh := h2 g rfl
    refine ⟨g, g + 1, hb, by omega, by omega, ⟨⟨h1.1, .inr ⟨g, cap, cur, rfl, Nat.le_refl _, r⟩⟩, fun g' hg' => ?_, by omega⟩, fun g' h4 h5 => ?_⟩
    · simp only [Value.ownBlock, Option.some.injEq] at hg'; omega
    · simp only [Value.ownBlock, Option.some.injEq]; omega
theorem Fr.apart {w w' : World} {lo hi l2 h2 : Nat} {u : Value} {xs : List Int} (h : Fr w lo hi u xs) (hk : Keep l2 h2 w w') (hd : ∀ g, u.ownBlock = some g → g < l2 ∨ h2 ≤ g) : Fr w' lo hi u xs := by
  obtain ⟨h1, hg, hs⟩ := h
  refine ⟨⟨h1.1, ?_⟩, hg, Nat.le_trans hs hk.size⟩
  rcases h1.2 with h1 | ⟨g, cap, cur, rfl, hb, hh, r⟩
  · exact .inl h1
  · have hgh := hg g rfl
    have hgd := hd g rfl
    exact .inr ⟨g, cap, cur, rfl, hb, by rw [hk.block g (by omega) hgd]; exact hh, r⟩
theorem InI.drewN {w : World} {v : Value} {xs : List Int} (h : InI w v xs) (q : Nat) : InI (w.drewN q) v xs := h
theorem InS.drewN {w : World} {v : Value} {xss : List (List Int)} (h : InS w v xss) (q : Nat) : InS (w.drewN q) v xss := h

def szR (t : Nat) (left : Int) : Int := if (t : Int) ≤ left then left - t else -1
theorem szR_pos {t : Nat} {left : Int} (h : (t : Int) ≤ left) : szR t left = left - t := if_pos h
theorem szR_neg {t : Nat} {left : Int} (h : ¬ (t : Int) ≤ left) : szR t left = -1 := if_neg h

theorem szIntS_any (v : Value) (xs : List Int) (left : Int) (w : World) (hs : InI w v xs) (h0 : 0 ≤ left) (h1 : left ≤ 1048576) :
    Calls Tryd.prog 9 #[v, .int .i64 left] w fun e w' => e = .returned (.int .i64 (szR xs.length left)) ∧ w = w' := by
  obtain ⟨A, c, rfl, hc, hm, _⟩ := hs
  unfold maxLen at hm
  by_cases hle : (xs.length : Int) ≤ left
  · rw [szR_pos hle]
    go_enter Tryd.func9, Tryd.ntmps9
    go_wp2
    go_ret
    exact ⟨rfl, rfl⟩
  · rw [szR_neg hle]
    go_enter Tryd.func9, Tryd.ntmps9
    go_wp2
    go_ret
    exact ⟨rfl, rfl⟩

def rowsLen (xss : List (List Int)) : Nat := (xss.map List.length).sum
theorem bulk_eq (xss : List (List Int)) : bulk xss = xss.length + rowsLen xss := rfl
theorem rowsLen_snoc {xss : List (List Int)} {k : Nat} {xs : List Int} (h : xss[k]? = some xs) : rowsLen (xss.take (k + 1)) = rowsLen (xss.take k) + xs.length := by
  rw [take_snoc h]; simp [rowsLen]
theorem rowsLen_take_le (xss : List (List Int)) (k : Nat) : rowsLen (xss.take k) ≤ rowsLen xss := by
  have : rowsLen xss = rowsLen (xss.take k) + rowsLen (xss.drop k) := by
    unfold rowsLen
    rw [← List.sum_append, ← List.map_append, List.take_append_drop]
  omega

theorem infoIS : (Tryd.prog.info? 22).map (fun i => (i.zero, i.size, i.bytes)) = some (some (.slice none 0 0), 1, 24) := by kernel_rfl
theorem makeS {ops : Array Oper} {rest : List Oper} {o : Oper} {a : Act} {Q : Exit → Act → World → Prop} (hgd : o.guard = none) (l c : Operand)
    (ho : o.op = Op.makeSlice 48 l c) (w : World) (n : Nat) (hl : a.eval l = .int .i64 n) (hc : a.eval c = .int .i64 n) (hn : n ≤ 1048576)
    (h : ∀ w', w'.ownsRow w.heap.size 22 1 (.slice (some ⟨w.heap.size, 0, none⟩) n n) n (List.replicate n (.slice none 0 0)) → Below w.heap.size w w' → w'.heap.size = w.heap.size + 1 → wpList Tryd.prog ops Q rest (a.put o.dst (.slice (some ⟨w.heap.size, 0, none⟩) n n)) w') :
    wpList Tryd.prog ops Q (o :: rest) a w := by
  obtain ⟨i0, hi, hz0, hz1, hz2⟩ := info_parts infoIS
  refine wpList_plain hgd fun K hK' => ?_
  have hr := run_make (P := Tryd.prog) w 48 22 i0 (.slice none 0 0) Tryd.underlying48 hi hz0 .i64 .i64 n n (by omega) (Int.le_refl _) (by rw [hz2]; omega) (by omega)
  simp only [Int.toNat_natCast] at hr
  unfold Oper.wp
  simp [execOp, ho, hl, hc, hr, Result.andThen]
  refine hK' _ _ (h _ ?_ ((Below.refl _ w).alloc (Nat.le_refl _) _) (by simp))
  rw [hz1]
  have h1 := World.ownsRow_lit (base := w.heap.size) (e := 22) (size := 1) w (madeCells (Value.slice none 0 0).cells (n * 1)) n (Nat.le_refl _) (by unfold maxLen; omega) (size_madeCells _ _)
  have e : (madeCells (Value.slice none 0 0).cells (n * 1)).toList = List.replicate n (.slice none 0 0) := by
    show (madeCells #[Value.slice none 0 0] (n * 1)).toList = _
    rw [toList_madeCells_one, Nat.mul_one]
  rw [e] at h1
  exact h1

/-- An element of a row that is being filled: what a store makes of it. -/
theorem own_at {w : World} {lo g n c : Nat} {e : TypeId} {vs : List Value} (h : w.ownsRow lo e 1 (.slice (some ⟨g, 0, none⟩) n c) n vs) {k : Nat} (hk : k < n) (u : Value) :
    (∃ x, w.cell? ⟨g, k, none⟩ = some x) ∧ w.frozen? ⟨g, k, none⟩ = false ∧ (w.setCell ⟨g, k, none⟩ u).ownsRow lo e 1 (.slice (some ⟨g, 0, none⟩) n c) n (vs.set k u) ∧ Keep g (g + 1) w (w.setCell ⟨g, k, none⟩ u) := by
  have hl : vs.length = n := by simpa using h.1
  refine ⟨⟨vs[k], ?_⟩, h.frozenAt k, (h.stored k u).1, (Keep.refl _ _ _).setCell (p := ⟨g, k, none⟩) (Nat.le_refl _) (Nat.lt_succ_self _) _⟩
  rw [h.cellAt k (by omega)]; exact List.getElem?_eq_getElem (by omega)
theorem OwS.rowAt {w : World} {lo hi n c : Nat} {A : Option Addr} {xss : List (List Int)} (h : OwS w lo hi (.slice A n c) xss) {k : Nat} (hk : k < xss.length) :
    ∃ g u xs l h', A = some ⟨g, 0, none⟩ ∧ xss[k]? = some xs ∧ w.cell? ⟨g, k, none⟩ = some u ∧ lo ≤ l ∧ l ≤ h' ∧ h' ≤ hi ∧ Fr w l h' u xs ∧
      ∀ w' ys, ys.length = xs.length → Fr w' l h' u ys → Keep l h' w w' → OwS w' lo hi (.slice A n c) (xss.set k ys) := by
  have hin := h.in_
  obtain ⟨vs, hl, h1, h2, h3, h4, h5, h6⟩ := h
  obtain ⟨A', c', he, _⟩ : ∃ A' c', Value.slice A n c = .slice A' xss.length c' ∧ True := by
    obtain ⟨A', c', _, he, _⟩ := hin; exact ⟨A', c', he, trivial⟩
  injection he with e1 e2 e3
  subst e2
  rcases h1.2 with ⟨he, hn⟩ | ⟨g, cap, cur, he, hb, hh, r⟩
  · omega
  · injection he with e1 e2 e3
    subst e1; subst e3
    have hv0 : vs[k]? = some vs[k] := List.getElem?_eq_getElem (by omega)
    have hx0 : xss[k]? = some xss[k] := List.getElem?_eq_getElem hk
    have hfr := h5 k _ _ hv0 hx0
    obtain ⟨l, h', a1, a2, a3, a4, a5⟩ := hfr.tight h3
    refine ⟨g, vs[k], xss[k], l, h', rfl, hx0, ?_, a1, a2, a3, a4, fun w' ys hy hf hk' => ?_⟩
    · have := h1.cellAt k (by omega)
      rw [this]; exact hv0
    · have hg' : ∀ g', l ≤ g' → g' < h' → g' ≠ g := by
        rintro g' b1 b2 rfl
        have hob := a5 _ b1 b2
        rcases a4.1.2 with ⟨e, _⟩ | ⟨g2, cap2, cur2, e, _, hh2, _⟩
        · rw [e] at hob; simp [Value.ownBlock] at hob
        · rw [e] at hob
          simp only [Value.ownBlock, Option.some.injEq] at hob
          subst hob
          rw [hh] at hh2
          injection hh2 with hh2
          injection hh2 with _ hh2
          exact absurd hh2 (by decide)
      have hgap : g < l ∨ h' ≤ g := by
        rcases Nat.lt_or_ge g l with c1 | c1
        · exact .inl c1
        · rcases Nat.lt_or_ge g h' with c2 | c2
          · exact absurd rfl (hg' g c1 c2)
          · exact .inr c2
      refine ⟨vs, by simp [hl], ?_, h2, h3, Nat.le_trans h4 hk'.size, ?_, h6⟩
      · rw [List.length_set]
        refine ⟨h1.1, .inr ⟨g, c, cur, rfl, hb, ?_, r⟩⟩
        have hgs : g < w.heap.size := by
          rcases Nat.lt_or_ge g w.heap.size with d | d
          · exact d
          · rw [Array.getElem?_eq_none d] at hh; cases hh
        rw [hk'.block g hgs hgap]; exact hh
      · intro i u xs hu hx
        by_cases hik : i = k
        · subst hik
          rw [List.getElem?_set_self (by omega)] at hx
          injection hx with hx
          subst hx
          rw [hv0] at hu
          injection hu with hu
          subst hu
          exact hf.wide a1 a3 (Nat.le_trans h4 hk'.size)
        · rw [List.getElem?_set_ne (fun e => hik e.symm)] at hx
          refine (h5 i u xs hu hx).apart hk' (fun g2 hg2 => ?_)
          rcases Nat.lt_or_ge g2 l with c1 | c1
          · exact .inl c1
          · rcases Nat.lt_or_ge g2 h' with c2 | c2
            · exact absurd (a5 g2 c1 c2) (h6 i k u _ hik hu hv0 g2 hg2)
            · exact .inr c2
end Go.Proofs.YtklhplifceedeaaDoor
