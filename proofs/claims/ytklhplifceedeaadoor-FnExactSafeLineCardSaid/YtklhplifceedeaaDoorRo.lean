/- Rows of integers, one appended behind the other. -/
import Derived.Test.YtklhplifceedeaaDoorStd
import Derived.Deep.RegionLaw
import Derived.Deep.RegionHeld3
namespace Go.Proofs.YtklhplifceedeaaDoor
open Go.ChangeShapes Go.WideShapes Go.ChangeAt Go.RowKit

set_option maxRecDepth 100000 in
/-- 'append(out, row)' as a step of a region that draws: what the run gives. -/
theorem stepAppS {ops : Array Oper} {o : Oper} {a : Act} {w : World} {K : Act → World → Prop} {Q : Exit → Act → World → Prop} {E : Prop} (hgd : o.guard = none) (s y : Operand)
    (ho : o.op = .call { callee := .builtin .append, args := #[s, y], argTypes := #[48, 48] })
    (base : Nat) (v : Value) (n : Nat) (vs : List Value) (hs : a.eval s = v) (hown : w.ownsRow base 22 1 v n vs) (ad : Addr) (u : Value)
    (hx : a.eval y = .slice (some ad) 1 1) (hu : w.cell? ad = some u) (hu1 : u.oneCell' = true) (hl : n ≤ 1048576) (hbase : base ≤ w.heap.size)
    (h : ∀ v' w', w'.ownsRow base 22 1 v' (n + 1) (vs ++ [u]) → w.grownBy w' v.ownBlock → K (a.put o.dst v') w') :
    if Region.wanted o (yielded ops a.tmps) = true then Oper.wp Tryd.prog o a w K Q else E := by
  obtain ⟨i0, hi, hz0, hz1, hz2⟩ := info_parts infoIS
  have hw : Region.wanted o (yielded ops a.tmps) = true := by simp [Region.wanted, hgd]
  rw [if_pos hw]
  obtain ⟨v', w', hrun, r1, r2, _⟩ := run_append_own (P := Tryd.prog) w base 48 o.type 22 i0 _ 1 24 Tryd.underlying48 hi hz0 hz1 hz2 rfl (by decide) v n vs hown ad 1 1 [u] rfl (by
    intro j x hj
    match j, hj with
    | 0, hj => simp at hj; subst hj; simpa [Addr.add] using hu) (by intro x hx; simp at hx; subst hx; exact hu1) (by unfold maxLen; omega) (by omega) hbase
  unfold Oper.wp
  simp [execOp, ho, resolve, invoke, builtin, hs, hx, hrun, Result.andThen]
  exact h v' w' r1 r2

theorem own_ne {w : World} {lo lo2 m n s s2 : Nat} {u v : Value} {xs vs : List Value} (h1 : w.ownsRow lo 3 s u m xs) (h2 : w.ownsRow lo2 22 s2 v n vs) {g : Nat} (hg : u.ownBlock = some g) : v.ownBlock ≠ some g := by
  intro hv
  rcases h1.2 with ⟨rfl, _⟩ | ⟨g1, _, cur1, rfl, _, e1, _⟩
  · cases hg
  · rcases h2.2 with ⟨rfl, _⟩ | ⟨g2, _, cur2, rfl, _, e2, _⟩
    · cases hv
    · simp only [Value.ownBlock, Option.some.injEq] at hg hv
      subst hg; subst hv
      rw [e1] at e2
      injection e2 with e2
      injection e2 with _ e2 _
      exact absurd e2 (by decide)
theorem Fr.grownBy {w w' : World} {lo hi : Nat} {u : Value} {xs : List Int} {row : Option Nat} (h : Fr w lo hi u xs) (hg : w.grownBy w' row) (hd : ∀ g, u.ownBlock = some g → row ≠ some g) : Fr w' lo hi u xs := by
  refine ⟨h.1.kept hg ?_, h.2.1, Nat.le_trans h.2.2 hg.size⟩
  cases hu : u.ownBlock with
  | none => exact .inl rfl
  | some g => exact .inr fun e => hd g hu e.symm
/-- The rows, one more behind them: the new row lies in a block of its own, made ahead of the append. -/
theorem OwS.push {w w1 w2 : World} {lo : Nat} {v v' u : Value} {xss : List (List Int)} {xs : List Int} {vs : List Value} (hlo : lo ≤ w.heap.size)
    (hv : w1.ownsRow lo 22 1 v xss.length vs) (hl : vs.length = xss.length)
    (hrows : ∀ (k : Nat) (y : Value) (ys : List Int), vs[k]? = some y → xss[k]? = some ys → Fr w1 lo w.heap.size y ys)
    (hap : ∀ (i j : Nat) (y y' : Value), i ≠ j → vs[i]? = some y → vs[j]? = some y' → ∀ g, y.ownBlock = some g → y'.ownBlock ≠ some g)
    (hu : Fr w1 w.heap.size w1.heap.size u xs) (hle : w.heap.size ≤ w1.heap.size)
    (hown : w2.ownsRow lo 22 1 v' (xss.length + 1) (vs ++ [u])) (hg : w1.grownBy w2 v.ownBlock) : OwS w2 lo w2.heap.size v' (xss ++ [xs]) := by
  refine ⟨vs ++ [u], by simp [hl], by rw [List.length_append, List.length_singleton]; exact hown, fun g hg' => (hown.lt g hg').2, Nat.le_trans hlo (Nat.le_trans hle hg.size), Nat.le_refl _, ?_, ?_⟩
  · intro k y ys hy hys
    rcases Nat.lt_or_ge k vs.length with hk | hk
    · rw [List.getElem?_append_left hk] at hy
      rw [List.getElem?_append_left (by omega)] at hys
      have h := hrows k y ys hy hys
      exact (h.grownBy hg fun g he => own_ne h.1 hv he).wide (Nat.le_refl _) (Nat.le_trans hle hg.size) (Nat.le_refl _)
    · rw [List.getElem?_append_right hk] at hy
      rw [List.getElem?_append_right (by omega)] at hys
      have h0 : k - vs.length = 0 := by
        rcases Nat.eq_zero_or_pos (k - vs.length) with h | h
        · exact h
        · rw [List.getElem?_eq_none (by simp; omega)] at hy; cases hy
      rw [h0] at hy
      rw [show k - xss.length = 0 from by omega] at hys
      simp only [List.getElem?_cons_zero, Option.some.injEq] at hy hys
      subst hy; subst hys
      exact (hu.grownBy hg fun g he => own_ne hu.1 hv he).wide hlo hg.size (Nat.le_refl _)
  · have new_ne : ∀ (k : Nat) (y : Value), vs[k]? = some y → ∀ g, y.ownBlock = some g → u.ownBlock ≠ some g := by
      intro k y hy g he heu
      obtain ⟨ys, hys⟩ : ∃ ys, xss[k]? = some ys := ⟨_, List.getElem?_eq_getElem (by have := (List.getElem?_eq_some_iff.1 hy).1; omega)⟩
      have h1 := (hrows k y ys hy hys).2.1 g he
      have h2 := (hu.1.lt g heu).1
      omega
    intro i j y y' hij hy hy' g he
    rcases Nat.lt_or_ge i vs.length with hi | hi <;> rcases Nat.lt_or_ge j vs.length with hj | hj
    · rw [List.getElem?_append_left hi] at hy
      rw [List.getElem?_append_left hj] at hy'
      exact hap i j y y' hij hy hy' g he
    · rw [List.getElem?_append_left hi] at hy
      rw [List.getElem?_append_right hj] at hy'
      obtain ⟨h1, h2⟩ := List.getElem?_eq_some_iff.1 hy'
      simp only [List.length_singleton] at h1
      rw [show j - vs.length = 0 from by omega] at hy'
      simp only [List.getElem?_cons_zero, Option.some.injEq] at hy'
      subst hy'
      exact new_ne i y hy g he
    · rw [List.getElem?_append_right hi] at hy
      rw [List.getElem?_append_left hj] at hy'
      obtain ⟨h1, h2⟩ := List.getElem?_eq_some_iff.1 hy
      simp only [List.length_singleton] at h1
      rw [show i - vs.length = 0 from by omega] at hy
      simp only [List.getElem?_cons_zero, Option.some.injEq] at hy
      subst hy
      intro he'
      exact new_ne j y' hy' g he' he
    · obtain ⟨h1, _⟩ := List.getElem?_eq_some_iff.1 hy
      obtain ⟨h2, _⟩ := List.getElem?_eq_some_iff.1 hy'
      simp only [List.length_append, List.length_singleton] at h1 h2
      omega
end Go.Proofs.YtklhplifceedeaaDoor
