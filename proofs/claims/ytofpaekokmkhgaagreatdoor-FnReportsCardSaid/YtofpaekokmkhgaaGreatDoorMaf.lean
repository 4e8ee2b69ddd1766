/- Rows of integers, one appended behind the other. -/
import Derived.Test.YtofpaekokmkhgaaGreatDoorStd
import Derived.Deep.RegionLaw
import Derived.Deep.RegionHeld3
import Derived.Test.YtofpaekokmkhgaaGreatDoorTools
namespace Go.Proofs.YtofpaekokmkhgaaGreatDoor
open Go.ChangeShapes Go.WideShapes Go.ChangeAt Go.RowKit

set_option maxRecDepth 100000 in
/-- 'append(out, row)' as a step of a region that draws: what the run gives. -/
theorem stepAppS {ops : Array Oper} {o : Oper} {a : Act} {w : World} {K : Act → World → Prop} {Q : Exit → Act → World → Prop} {E : Prop} (hgd : o.guard = none) (s y : Operand)
    (ho : o.op = .call { callee := .builtin .append, args := #[s, y], argTypes := #[27, 27] })
    (base : Nat) (v : Value) (n : Nat) (vs : List Value) (hs : a.eval s = v) (hown : w.ownsRow base 23 1 v n vs) (ad : Addr) (u : Value)
    (hx : a.eval y = .slice (some ad) 1 1) (hu : w.cell? ad = some u) (hu1 : u.oneCell' = true) (hl : n ≤ 1048576) (hbase : base ≤ w.heap.size)
    (h : ∀ v' w', w'.ownsRow base 23 1 v' (n + 1) (vs ++ [u]) → w.grownBy w' v.ownBlock → K (a.put o.dst v') w') :
    if Region.wanted o (yielded ops a.tmps) = true then Oper.wp Tryz.prog o a w K Q else E := by
  obtain ⟨i0, hi, hz0, hz1, hz2⟩ := info_parts infoIS
  have hw : Region.wanted o (yielded ops a.tmps) = true := by simp [Region.wanted, hgd]
  rw [if_pos hw]
  obtain ⟨v', w', hrun, r1, r2, _⟩ := run_append_own (P := Tryz.prog) w base 27 o.type 23 i0 _ 1 24 Tryz.underlying27 hi hz0 hz1 hz2 rfl (by decide) v n vs hown ad 1 1 [u] rfl (by
    intro j x hj
    match j, hj with
    | 0, hj => simp at hj; subst hj; simpa [Addr.add] using hu) (by intro x hx; simp at hx; subst hx; exact hu1) (by unfold maxLen; omega) (by omega) hbase
  unfold Oper.wp
  simp [execOp, ho, resolve, invoke, builtin, hs, hx, hrun, Result.andThen]
  exact h v' w' r1 r2

theorem own_ne {w : World} {lo lo2 m n s s2 : Nat} {u v : Value} {xs vs : List Value} (h1 : w.ownsRow lo 3 s u m xs) (h2 : w.ownsRow lo2 23 s2 v n vs) {g : Nat} (hg : u.ownBlock = some g) : v.ownBlock ≠ some g := by
  intro hv
  rcases h1.2 with ⟨rfl, _⟩ | ⟨g1, _, cur1, rfl, _, e1, _⟩
  · cases hg
  · rcases h2.2 with ⟨rfl, _⟩ | ⟨g2, _, cur2, rfl, _, e2, _⟩
    · cases hv
    · simp only [Value.ownBlock, Option.some.injEq] at hg hv
      subst hg; subst hv
      rw [e1] at e2
      injection e2 with e2
      injection e2 with _ e2 _
      exact absurd e2 (by decide)
theorem Fr.grownBy {w w' : World} {lo hi : Nat} {u : Value} {xs : List Int} {row : Option Nat} (h : Fr w lo hi u xs) (hg : w.grownBy w' row) (hd : ∀ g, u.ownBlock = some g → row ≠ some g) : Fr w' lo hi u xs := by
  refine ⟨h.1.kept hg ?_, h.2.1, Nat.le_trans h.2.2 hg.size⟩
  cases hu : u.ownBlock with
  | none => exact .inl rfl
  | some g => exact .inr fun e => hd g hu e.symm
/-- The rows, one more behind them: the new row lies in a block of its own, made ahead of the append. -/
theorem OwS.push {w w1 w2 : World} {lo : Nat} {v v' u : Value} {xss : List (List Int)} {xs : List Int} {vs : List Value} (hlo : lo ≤ w.heap.size)
    (hv : w1.ownsRow lo 23 1 v xss.length vs) (hl : vs.length = xss.length)
    (hrows : ∀ (k : Nat) (y : Value) (ys : List Int), vs[k]? = some y → xss[k]? = some ys → Fr w1 lo w.heap.size y ys)
    (hap : ∀ (i j : Nat) (y y' : Value), i ≠ j → vs[i]? = some y → vs[j]? = some y' → ∀ g, y.ownBlock = some g → y'.ownBlock ≠ some g)
    (hu : Fr w1 w.heap.size w1.heap.size u xs) (hle : w.heap.size ≤ w1.heap.size)
    (hown : w2.ownsRow lo 23 1 v' (xss.length + 1) (vs ++ [u])) (hg : w1.grownBy w2 v.ownBlock) : OwS w2 lo w2.heap.size v' (xss ++ [xs]) := by
  refine ⟨vs ++ [u], by simp [hl], by rw [List.length_append, List.length_singleton]; exact hown, fun g hg' => (hown.lt g hg').2, Nat.le_trans hlo (Nat.le_trans hle hg.size), Nat.le_refl _, ?_, ?_⟩
  · intro k y ys hy hys
    rcases Nat.lt_or_ge k vs.length with hk | hk
    · rw [List.getElem?_append_left hk] at hy
      rw [List.getElem?_append_left (by omega)] at hys
      have h := hrows k y ys hy hys
      exact (h.grownBy hg fun g he => own_ne h.1 hv he).wide (Nat.le_refl _) (Nat.le_trans hle hg.size) (Nat.le_refl _)
    · rw [List.getElem?_append_right hk] at hy
      rw [List.getElem?_append_right (by omega)] at hys
      have h0 : k - vs.length = 0 := by
        rcases Nat.eq_zero_or_pos (k - vs.length) with h | h
        · exact h
        · rw [List.getElem?_eq_none (by simp; omega)] at hy; cases hy
      rw [h0] at hy
      rw [show k - xss.length = 0 from by omega] at hys
      simp only [List.getElem?_cons_zero, Option.some.injEq] at hy hys
      subst hy; subst hys
      exact (hu.grownBy hg fun g he => own_ne hu.1 hv he).wide hlo hg.size (Nat.le_refl _)
  · have new_ne : ∀ (k : Nat) (y : Value), vs[k]? = some y → ∀ g, y.ownBlock = some g → u.ownBlock ≠ some g := by
      intro k y hy g he heu
      obtain ⟨ys, hys⟩ : ∃ ys, xss[k]? = some ys := ⟨_, List.getElem?_eq_getElem (by have := (List.getElem?_eq_some_iff.1 hy).1; omega)⟩
      have h1 := (hrows k y ys hy hys).2.1 g he
      have h2 := (hu.1.lt g heu).1
      omega
    intro i j y y' hij hy hy' g he
    rcases Nat.lt_or_ge i vs.length with hi | hi <;> rcases Nat.lt_or_ge j vs.length with hj | hj
    · rw [List.getElem?_append_left hi] at hy
      rw [List.getElem?_append_left hj] at hy'
      exact hap i j y y' hij hy hy' g he
    · rw [List.getElem?_append_left hi] at hy
      rw [List.getElem?_append_right hj] at hy'
      obtain ⟨h1, h2⟩ := List.getElem?_eq_some_iff.1 hy'
      simp only [List.length_singleton] at h1
      rw [show j - vs.length = 0 from by omega] at hy'
      simp only [List.getElem?_cons_zero, Option.some.injEq] at hy'
      subst hy'
      exact new_ne i y hy g he
    · rw [List.getElem?_append_right hi] at hy
      rw [List.getElem?_append_left hj] at hy'
      obtain ⟨h1, h2⟩ := List.getElem?_eq_some_iff.1 hy
      simp only [List.length_singleton] at h1
      rw [show i - vs.length = 0 from by omega] at hy
      simp only [List.getElem?_cons_zero, Option.some.injEq] at hy
      subst hy
      intro he'
      exact new_ne j y' hy' g he' he
    · obtain ⟨h1, _⟩ := List.getElem?_eq_some_iff.1 hy
      obtain ⟨h2, _⟩ := List.getElem?_eq_some_iff.1 hy'
      simp only [List.length_append, List.length_singleton] at h1 h2
      omega
end Go.Proofs.YtofpaekokmkhgaaGreatDoor
namespace Go.Proofs.YtofpaekokmkhgaaGreatDoor
open Go.ChangeShapes Go.WideShapes Go.ChangeAt Go.RowKit

/-- A row of rows that is being filled: the first j are made. -/
structure FillS (lo : Nat) (wr : World) (n j : Nat) (us : List Value) (xss : List (List Int)) : Prop where
  ul : us.length = j
  xl : xss.length = n
  sz : lo < wr.heap.size
  own : wr.ownsRow lo 23 1 (.slice (some ⟨lo, 0, none⟩) n n) n (us ++ List.replicate (n - j) (.slice none 0 0))
  rows : ∀ (k : Nat) (u : Value) (xs : List Int), us[k]? = some u → xss[k]? = some xs → Fr wr (lo + 1) wr.heap.size u xs
  ap : ∀ (i j : Nat) (u u' : Value), i ≠ j → us[i]? = some u → us[j]? = some u' → ∀ g, u.ownBlock = some g → u'.ownBlock ≠ some g
theorem FillS.next {lo : Nat} {wr w2 : World} {n j c' : Nat} {A' : Option Addr} {us : List Value} {xss : List (List Int)} {xs : List Int} (h : FillS lo wr n j us xss) (hj : j < n) (hx : xss[j]? = some xs)
    (hfr : Fr w2 wr.heap.size w2.heap.size (.slice A' xs.length c') xs) (hb : Below wr.heap.size wr w2) :
    (∃ x, w2.cell? ⟨lo, j, none⟩ = some x) ∧ w2.frozen? ⟨lo, j, none⟩ = false ∧ FillS lo (w2.setCell ⟨lo, j, none⟩ (.slice A' xs.length c')) n (j + 1) (us ++ [.slice A' xs.length c']) xss ∧ Keep lo (lo + 1) w2 (w2.setCell ⟨lo, j, none⟩ (.slice A' xs.length c')) := by
  obtain ⟨hul, hxl, hsz, hown, hrows, hap⟩ := h
  have hown2 := ownsRow_keep hown (hi := lo + 1) (fun g hg => by simp only [Value.ownBlock, Option.some.injEq] at hg; omega) (by omega) (Keep.of_below (lo := wr.heap.size) (hi := wr.heap.size) hb (Nat.le_refl _)) (.inl hsz)
  obtain ⟨hcell, hf, hst, hkp⟩ := own_at hown2 hj (.slice A' xs.length c')
  have hz2 := hb.size
  have hz3 := hkp.size
  refine ⟨hcell, hf, ⟨by simp [hul], hxl, by omega, ?_, ?_, ?_⟩, hkp⟩
  · have e : (us ++ List.replicate (n - j) (Value.slice none 0 0)).set j (Value.slice A' xs.length c') = us ++ [Value.slice A' xs.length c'] ++ List.replicate (n - (j + 1)) (Value.slice none 0 0) := by
      rw [show n - j = (n - (j + 1)) + 1 from by omega, List.replicate_succ, List.set_append_right _ _ (by rw [hul]; exact Nat.le_refl _), hul, Nat.sub_self, List.set_cons_zero]
      simp
    rw [e] at hst
    exact hst
  · intro k u1 xs1 h1 h2
    rcases Nat.lt_or_ge k us.length with hk | hk
    · rw [List.getElem?_append_left hk] at h1
      have h3 := hrows k u1 xs1 h1 h2
      refine ((h3.grow hb).apart hkp (fun g hg => ?_)).wide (Nat.le_refl _) (by omega) (Nat.le_refl _)
      have h4 := (h3.1.lt g hg).1
      omega
    · have hk' : k = us.length := by
        rcases Nat.lt_or_ge k (us ++ [Value.slice A' xs.length c']).length with h | h
        · simp at h; omega
        · rw [List.getElem?_eq_none h] at h1; cases h1
      subst hk'
      rw [List.getElem?_append_right (Nat.le_refl _), Nat.sub_self] at h1
      injection h1 with h1
      subst h1
      rw [hul, hx] at h2
      injection h2 with h2
      subst h2
      exact (hfr.keep hkp (.inr (by omega))).wide (by omega) (by omega) (Nat.le_refl _)
  · intro i1 j1 u1 u2 hne h1 h2 g hg1 hg2
    have hold : ∀ (k : Nat) (u1 : Value), us[k]? = some u1 → ∀ g, u1.ownBlock = some g → g < wr.heap.size := by
      intro k u1 h1 g hg
      obtain ⟨hk, _⟩ := List.getElem?_eq_some_iff.1 h1
      have h2 : xss[k]? = some xss[k]! := by
        rw [getElem!_pos xss k (by omega)]
        exact List.getElem?_eq_getElem _
      exact (hrows k u1 _ h1 h2).2.1 g hg
    have hnew : ∀ g, (Value.slice A' xs.length c').ownBlock = some g → wr.heap.size ≤ g := fun g hg => (hfr.1.lt g hg).1
    have hcase : ∀ (k : Nat) (u1 : Value), (us ++ [Value.slice A' xs.length c'])[k]? = some u1 → (us[k]? = some u1 ∧ k < us.length) ∨ (u1 = .slice A' xs.length c' ∧ k = us.length) := by
      intro k u1 h1
      rcases Nat.lt_or_ge k us.length with hk | hk
      · rw [List.getElem?_append_left hk] at h1; exact .inl ⟨h1, hk⟩
      · have hk' : k = us.length := by
          rcases Nat.lt_or_ge k (us ++ [Value.slice A' xs.length c']).length with h | h
          · simp at h; omega
          · rw [List.getElem?_eq_none h] at h1; cases h1
        subst hk'
        rw [List.getElem?_append_right (Nat.le_refl _), Nat.sub_self] at h1
        injection h1 with h1
        exact .inr ⟨h1.symm, rfl⟩
    rcases hcase i1 u1 h1 with ⟨a1, b1⟩ | ⟨a1, b1⟩ <;> rcases hcase j1 u2 h2 with ⟨a2, b2⟩ | ⟨a2, b2⟩
    · exact hap i1 j1 u1 u2 hne a1 a2 g hg1 hg2
    · subst a2; have := hold i1 u1 a1 g hg1; have := hnew g hg2; omega
    · subst a1; have := hold j1 u2 a2 g hg2; have := hnew g hg1; omega
    · omega
theorem FillS.done {lo : Nat} {wr : World} {n : Nat} {us : List Value} {xss : List (List Int)} (h : FillS lo wr n n us xss) : OwS wr lo wr.heap.size (.slice (some ⟨lo, 0, none⟩) n n) xss := by
  obtain ⟨hul, hxl, hsz, hown, hrows, hap⟩ := h
  refine ⟨us, by omega, by rw [hxl]; simpa using hown, fun g hg => ?_, by omega, Nat.le_refl _, fun k u xs h1 h2 => (hrows k u xs h1 h2).wide (by omega) (Nat.le_refl _) (Nat.le_refl _), hap⟩
  simp only [Value.ownBlock, Option.some.injEq] at hg; omega
theorem FillS.zero {w : World} {n : Nat} {xss : List (List Int)} {w' : World} (hxl : xss.length = n) (hown : w'.ownsRow w.heap.size 23 1 (.slice (some ⟨w.heap.size, 0, none⟩) n n) n (List.replicate n (.slice none 0 0))) (hsz : w'.heap.size = w.heap.size + 1) : FillS w.heap.size w' n 0 [] xss :=
  ⟨rfl, hxl, by omega, by simpa using hown, by simp, by simp⟩

theorem OwS.drewN {w : World} {lo hi : Nat} {v : Value} {xss : List (List Int)} (h : OwS w lo hi v xss) (q : Nat) : OwS (w.drewN q) lo hi v xss := h
theorem OwS.top {w : World} {lo hi h' : Nat} {v : Value} {xss : List (List Int)} (h : OwS w lo hi v xss) (h1 : hi ≤ h') (h2 : h' ≤ w.heap.size) : OwS w lo h' v xss := by
  obtain ⟨vs, a, b, c, d, e, f, g⟩ := h
  exact ⟨vs, a, b, fun x hx => Nat.lt_of_lt_of_le (c x hx) h1, by omega, h2, fun k u xs p q => (f k u xs p q).wide (Nat.le_refl _) h1 h2, g⟩
/-- One cell of a table of one's own: where it lies, and what holds behind a store. -/
theorem OwS.cellAt {w : World} {lo hi n c : Nat} {A : Option Addr} {xss : List (List Int)} (h : OwS w lo hi (.slice A n c) xss) {a b : Nat} {xs : List Int} (hx : xss[a]? = some xs) (hb : b < xs.length) :
    ∃ g g1 c1 x, A = some ⟨g, 0, none⟩ ∧ a < n ∧ n ≤ c ∧ w.cell? ⟨g, a, none⟩ = some (.slice (some ⟨g1, 0, none⟩) xs.length c1) ∧ xs.length ≤ c1 ∧ xs[b]? = some x ∧ w.cell? ⟨g1, b, none⟩ = some (.int .i64 x) ∧ w.frozen? ⟨g1, b, none⟩ = false ∧
      ∀ y, OwS (w.setCell ⟨g1, b, none⟩ (.int .i64 y)) lo hi (.slice A n c) (xss.set a (xs.set b y)) ∧ Keep lo hi w (w.setCell ⟨g1, b, none⟩ (.int .i64 y)) := by
  have ha : a < xss.length := (List.getElem?_eq_some_iff.1 hx).1
  obtain ⟨A', c', he, hcl, _⟩ := h.form
  injection he with e1 e2 e3
  subst e1; subst e2; subst e3
  obtain ⟨g, u, xs', l, h', rfl, hx', hcell, a1, a2, a3, hfr, hset⟩ := h.rowAt ha
  rw [hx] at hx'
  injection hx' with hx'
  subst hx'
  obtain ⟨A1, c1, rfl, hc1, _⟩ := hfr.form
  obtain ⟨g1, x, rfl, hg1, hg2, hxb, hc, hf, hst⟩ := hfr.at_ hb
  refine ⟨g, g1, c1, x, rfl, ha, hcl, hcell, hc1, hxb, hc, hf, fun y => ?_⟩
  have hs := hst y
  exact ⟨hset _ _ (by rw [List.length_set]) hs.1 hs.2, hs.2.wide a1 a3⟩

set_option maxRecDepth 100000 in
/-- 'out = append(out, row)' at a row of rows of the call's own. -/
theorem appS {ops : Array Oper} {rest : List Oper} {o : Oper} {a : Act} {Q : Exit → Act → World → Prop} (hgd : o.guard = none) (s y : Operand)
    (ho : o.op = .call { callee := .builtin .append, args := #[s, y], argTypes := #[27, 27] })
    (w : World) (base : Nat) (v : Value) (n : Nat) (vs : List Value) (hs : a.eval s = v) (hown : w.ownsRow base 23 1 v n vs) (A : Option Addr) (m c : Nat)
    (hx : a.eval y = .slice (some ⟨w.heap.size, 0, none⟩) 1 1) (hl : n ≤ 1048576) (hbase : base ≤ w.heap.size)
    (h : ∀ v' w', w'.ownsRow base 23 1 v' (n + 1) (vs ++ [.slice A m c]) → (∀ B, B ≤ base → B ≤ w.heap.size → Below B w w') → w.heap.size < w'.heap.size → w.grownBy w' v.ownBlock → wpList Tryz.prog ops Q rest (a.put o.dst v') w') :
    wpList Tryz.prog ops Q (o :: rest) a (w.alloc (.cells #[.slice A m c] 23)) := by
  obtain ⟨i0, hi, hz0, hz1, hz2⟩ := info_parts infoIS
  refine wpList_append_own _ hgd s y _ ho base 23 i0 (.slice none 0 0) 1 24 Tryz.underlying27 hi hz0 hz1 hz2 rfl (by decide) v n vs hs (hown.alloc _) ⟨w.heap.size, 0, none⟩ 1 1 [.slice A m c] hx rfl ?_ ?_ (by unfold maxLen; omega) (by omega) (by simp; omega) ?_
  · intro j u hj
    match j, hj with
    | 0, hj => simp at hj; subst hj; simp [Addr.add]
  · intro u hu; simp at hu; subst hu; rfl
  · intro v' w' h2 h3 _
    have hsz := h3.size
    simp only [World.size_alloc] at hsz
    refine h v' w' h2 (fun B h4 h5 => ?_) (by omega) ?_
    · refine ((Below.refl B w).alloc h5 _).grown h3 (by simp; omega) (fun k hk => ?_)
      have := (hown.lt k hk).1; omega
    · exact ⟨h3.os, h3.tape, h3.output, by omega, fun k hk hne => by rw [h3.block k (by simp; omega) hne]; exact Below.heap_alloc _ _ _ hk⟩
theorem OwS.pushed {wr w1 : World} {lo : Nat} {v u : Value} {xss : List (List Int)} {xs : List Int} (h : OwS wr lo wr.heap.size v xss) (hb : Below wr.heap.size wr w1) (hu : Fr w1 wr.heap.size w1.heap.size u xs) :
    ∃ vs, w1.ownsRow lo 23 1 v xss.length vs ∧ ∀ v' w2, w2.ownsRow lo 23 1 v' (xss.length + 1) (vs ++ [u]) → w1.grownBy w2 v.ownBlock → OwS w2 lo w2.heap.size v' (xss ++ [xs]) := by
  have h1 := h.grow hb
  obtain ⟨vs, a, b, c, d, e, f, g⟩ := h1
  exact ⟨vs, b, fun v' w2 ho hg => OwS.push (w := wr) d b a (fun k y ys p q => (f k y ys p q)) g hu hb.size ho hg⟩
end Go.Proofs.YtofpaekokmkhgaaGreatDoor
namespace Go.Proofs.YtofpaekokmkhgaaGreatDoor
open Go.ChangeShapes Go.WideShapes Go.ChangeAt Go.RowKit

/-- The elements of the set s below k. -/
def memT (s k : Nat) : List Int := ((List.range k).filter (fun a => s.testBit a)).map (fun (a : Nat) => (a : Int))
def memL (s : Nat) : List Int := memT s 8
def cntT (s k : Nat) : Nat := ((List.range k).filter (fun a => s.testBit a)).length
/-- How many elements the set s has. -/
def cntL (s : Nat) : Nat := cntT s 8
theorem memT_zero (s : Nat) : memT s 0 = [] := rfl
theorem memT_in {s k : Nat} (h : s.testBit k = true) : memT s (k + 1) = memT s k ++ [(k : Int)] := by simp [memT, List.range_succ, h]
theorem memT_out {s k : Nat} (h : s.testBit k = false) : memT s (k + 1) = memT s k := by simp [memT, List.range_succ, h]
theorem memT_len (s k : Nat) : (memT s k).length = cntT s k := by simp [memT, cntT]
theorem memL_len (s : Nat) : (memL s).length = cntL s := memT_len s 8
theorem cntT_le (s k : Nat) : cntT s k ≤ k := by
  unfold cntT
  have := List.length_filter_le (fun a => s.testBit a) (List.range k)
  rw [List.length_range] at this; exact this
theorem cntL_le (s : Nat) : cntL s ≤ 8 := cntT_le s 8
theorem memT_mem {s k : Nat} {x : Int} : x ∈ memT s k ↔ ∃ a : Nat, x = (a : Int) ∧ a < k ∧ s.testBit a = true := by
  simp only [memT, List.mem_map, List.mem_filter, List.mem_range]
  constructor
  · rintro ⟨a, ⟨h1, h2⟩, rfl⟩; exact ⟨a, rfl, h1, h2⟩
  · rintro ⟨a, rfl, h1, h2⟩; exact ⟨a, ⟨h1, h2⟩, rfl⟩
theorem bit_hi {s a : Nat} (hs : s < 256) (ha : 8 ≤ a) : s.testBit a = false := by
  apply Nat.testBit_lt_two_pow
  have : 2 ^ 8 ≤ 2 ^ a := Nat.pow_le_pow_right (by omega) ha
  omega
theorem memT_stop {s k : Nat} (hs : s / 2 ^ k = 0) : ∀ m, memT s (k + m) = memT s k := by
  intro m
  induction m with
  | zero => rfl
  | succ m ih =>
    rw [← Nat.add_assoc, memT_out, ih]
    have hp : 0 < 2 ^ k := Nat.pow_pos (by omega)
    have h1 : s < 2 ^ k := by
      rcases Nat.lt_or_ge s (2 ^ k) with h | h
      · exact h
      · have := Nat.div_pos h hp; omega
    apply Nat.testBit_lt_two_pow
    have : 2 ^ k ≤ 2 ^ (k + m) := Nat.pow_le_pow_right (by omega) (by omega)
    omega
theorem memT_done {s k : Nat} (h8 : k ≤ 8) (hs : s / 2 ^ k = 0) : memT s k = memL s := by
  have := memT_stop hs (8 - k)
  rw [show k + (8 - k) = 8 by omega] at this
  exact this.symm
theorem div_stop {s : Nat} (hs : s < 256) : s / 2 ^ 8 = 0 := Nat.div_eq_of_lt (by omega)
theorem bit_one (s a : Nat) : s / 2 ^ a % 2 = if s.testBit a then 1 else 0 := by
  rw [Nat.testBit_eq_decide_div_mod_eq]
  by_cases h : s / 2 ^ a % 2 = 1
  · simp [h]
  · simp only [h, decide_false]; simp; omega
/-- The lowest digit, as the walk spells it. -/
theorem and_one : ∀ s : Fin 256, bits BinOp.and IntKind.i64 (s.val : Int) 1 = ((s.val % 2 : Nat) : Int) := by decide +kernel
theorem and_low {s : Nat} (hs : s < 256) : bits BinOp.and IntKind.i64 (s : Int) 1 = ((s % 2 : Nat) : Int) := and_one ⟨s, hs⟩
theorem and_at {s : Nat} (hs : s < 256) (a : Nat) : bits BinOp.and IntKind.i64 ((s / 2 ^ a : Nat) : Int) 1 = if s.testBit a then 1 else 0 := by
  rw [and_low (Nat.lt_of_le_of_lt (Nat.div_le_self _ _) hs), bit_one]
  split <;> rfl
theorem cntT_succ (s k : Nat) : cntT s (k + 1) = cntT s k + (if s.testBit k then 1 else 0) := by
  unfold cntT
  rw [List.range_succ, List.filter_append, List.length_append]
  congr 1
  cases h : s.testBit k <;> simp [h]
end Go.Proofs.YtofpaekokmkhgaaGreatDoor
