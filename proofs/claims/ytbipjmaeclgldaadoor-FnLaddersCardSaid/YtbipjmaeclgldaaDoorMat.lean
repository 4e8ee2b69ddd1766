/- The fewest challenges under a renaming of the players (plain; for FnLadders). -/
import Derived.Test.YtbipjmaeclgldaaDoorFwp
namespace Go.Proofs.YtbipjmaeclgldaaDoor
open Go.ChangeShapes Go.WideShapes Go.ChangeAt Go.RowKit

theorem riseL_map (f : Int → Int) {l : List Int} {lo up : Nat} (h : lo < l.length) : riseL (l.map f) lo up = (riseL l lo up).map f := by
  have hg : (l.map f).getD lo 0 = f (l.getD lo 0) := by
    rw [List.getD_eq_getElem?_getD, List.getD_eq_getElem?_getD, List.getElem?_map, List.getElem?_eq_getElem h]; rfl
  unfold riseL
  rw [hg]
  simp only [List.map_append, List.map_take, List.map_drop, List.map_cons, List.map_nil]
theorem nbRow_map (f : Int → Int) (r : Nat) {l : List Int} {lo : Nat} (h : lo < l.length) : nbRow r (l.map f) lo = (nbRow r l lo).map (List.map f) := by
  unfold nbRow
  rw [List.map_filterMap]
  have e : (fun up => if lo - r ≤ up then some (riseL (l.map f) lo up) else none) = fun x => Option.map (List.map f) (if lo - r ≤ x then some (riseL l lo x) else none) := by
    funext up
    split
    · rw [riseL_map f h]; rfl
    · rfl
  rw [e]
theorem nbrs_map (f : Int → Int) (r : Nat) (l : List Int) : nbrs r (l.map f) = (nbrs r l).map (List.map f) := by
  unfold nbrs
  rw [List.length_map, List.map_flatMap]
  have : ∀ (xs : List Nat), (∀ lo ∈ xs, lo < l.length) → xs.flatMap (nbRow r (l.map f)) = xs.flatMap fun a => (nbRow r l a).map (List.map f) := by
    intro xs
    induction xs with
    | nil => intro _; rfl
    | cons x xs ih =>
      intro h
      rw [List.flatMap_cons, List.flatMap_cons, ih fun y hy => h y (by simp [hy]), nbRow_map f r (h x (by simp))]
  exact this _ fun lo h => List.mem_range.1 h
def mapB (f : Int → Int) (L : BfsL) : BfsL := L.map fun p => (p.1.map f, p.2)
theorem map_inj {f : Int → Int} (hf : ∀ x y, f x = f y → x = y) : ∀ {l k : List Int}, l.map f = k.map f → l = k
  | [], [], _ => rfl
  | [], y :: k, h => by simp at h
  | x :: l, [], h => by simp at h
  | x :: l, y :: k, h => by
    rw [List.map_cons, List.map_cons] at h
    injection h with h1 h2
    rw [hf _ _ h1, map_inj hf h2]
theorem hasK_map {f : Int → Int} (hf : ∀ x y, f x = f y → x = y) (L : BfsL) (x : List Int) : hasK (mapB f L) (x.map f) = hasK L x := by
  rw [Bool.eq_iff_iff, hasK_t, hasK_t]
  constructor
  · rintro ⟨d, h⟩
    obtain ⟨p, hp, e⟩ := List.mem_map.1 h
    injection e with e1 e2
    have := map_inj hf e1
    exact ⟨p.2, by rw [← this]; exact hp⟩
  · rintro ⟨d, h⟩
    exact ⟨d, List.mem_map.2 ⟨_, h, rfl⟩⟩
theorem addB_map {f : Int → Int} (hf : ∀ x y, f x = f y → x = y) (d : Nat) (L : BfsL) (x : List Int) : addB d (mapB f L) (x.map f) = mapB f (addB d L x) := by
  unfold addB
  rw [hasK_map hf]
  split
  · rfl
  · unfold mapB; rw [List.map_append]; rfl
theorem foldB_map {f : Int → Int} (hf : ∀ x y, f x = f y → x = y) (d : Nat) : ∀ (xs : List (List Int)) (L : BfsL), (xs.map (List.map f)).foldl (addB d) (mapB f L) = mapB f (xs.foldl (addB d) L)
  | [], L => rfl
  | x :: xs, L => by rw [List.map_cons, List.foldl_cons, List.foldl_cons, addB_map hf, foldB_map hf d xs]
theorem runB_map {f : Int → Int} (hf : ∀ x y, f x = f y → x = y) (r : Nat) (a : List Int) : ∀ i, runB r (a.map f) i = mapB f (runB r a i)
  | 0 => rfl
  | i + 1 => by
    rw [runB, runB, runB_map hf r a i]
    unfold stepB
    have : (mapB f (runB r a i))[i]? = ((runB r a i)[i]?).map fun p => (p.1.map f, p.2) := by unfold mapB; rw [List.getElem?_map]
    rw [this]
    cases (runB r a i)[i]? with
    | none => rfl
    | some p =>
      obtain ⟨now, d⟩ := p
      show (nbrs r (now.map f)).foldl (addB d) (mapB f (runB r a i)) = mapB f ((nbrs r now).foldl (addB d) (runB r a i))
      rw [nbrs_map, foldB_map hf]
end Go.Proofs.YtbipjmaeclgldaaDoor
namespace Go.Proofs.YtbipjmaeclgldaaDoor
open Go.ChangeShapes Go.WideShapes Go.ChangeAt Go.RowKit

def invN : List Int → Nat
  | [] => 0
  | x :: r => (r.filter fun y => decide (y < x)).length + invN r
set_option maxRecDepth 1000000 in
theorem fewDec1 : ([1, 2, 3, 4, 5] : List Nat).all (fun n => decide ((runB 1 (upto n) 120).length = ([1, 1, 2, 6, 24, 120] : List Nat).getD n 0) && (runB 1 (upto n) 120).all (fun p => decide (p.2 = invN p.1))) = true := by decide +kernel
set_option maxRecDepth 1000000 in
theorem fewDec4 : ([1, 2, 3, 4, 5] : List Nat).all (fun n => decide ((runB 4 (upto n) 120).length = ([1, 1, 2, 6, 24, 120] : List Nat).getD n 0) && (runB 4 (upto n) 120).all (fun p => decide (p.2 ≤ invN p.1) && decide (invN p.1 ≤ 4 * p.2 + 3) && (decide (p.2 = 0) == decide (p.1 = upto n)))) = true := by decide +kernel
end Go.Proofs.YtbipjmaeclgldaaDoor
namespace Go.Proofs.YtbipjmaeclgldaaDoor
open Go.ChangeShapes Go.WideShapes Go.ChangeAt Go.RowKit

/-- The renaming that makes the first order out of a. -/
def renF (a : List Int) (k : Int) : Int := if 0 ≤ k ∧ k < a.length then a.getD k.toNat 0 else k
theorem renF_at {a : List Int} {k : Nat} (h : k < a.length) : renF a (k : Int) = a[k] := by
  unfold renF
  rw [if_pos ⟨by omega, by omega⟩, Int.toNat_natCast, List.getD_eq_getElem?_getD, List.getElem?_eq_getElem h]; rfl
theorem renF_inj {a : List Int} (h : ladB a = true) : ∀ x y, renF a x = renF a y → x = y := by
  obtain ⟨_, hm, hd⟩ := ladB_t h
  intro x y e
  by_cases hx : 0 ≤ x ∧ x < a.length
  · obtain ⟨i, rfl⟩ := Int.eq_ofNat_of_zero_le hx.1
    have hi : i < a.length := by omega
    rw [renF_at hi] at e
    by_cases hy : 0 ≤ y ∧ y < a.length
    · obtain ⟨j, rfl⟩ := Int.eq_ofNat_of_zero_le hy.1
      have hj : j < a.length := by omega
      rw [renF_at hj] at e
      have p1 := plc_at hd (List.getElem?_eq_getElem hi)
      have p2 := plc_at hd (List.getElem?_eq_getElem hj)
      rw [e] at p1
      omega
    · have hb := hm a[i] (List.getElem_mem hi)
      unfold renF at e
      rw [if_neg hy] at e
      omega
  · by_cases hy : 0 ≤ y ∧ y < a.length
    · obtain ⟨j, rfl⟩ := Int.eq_ofNat_of_zero_le hy.1
      have hj : j < a.length := by omega
      rw [renF_at hj] at e
      have hb := hm a[j] (List.getElem_mem hj)
      unfold renF at e
      rw [if_neg hx] at e
      omega
    · unfold renF at e
      rw [if_neg hx, if_neg hy] at e
      exact e
theorem renF_upto (a : List Int) : (upto a.length).map (renF a) = a := by
  apply List.ext_getElem?
  intro k
  rw [List.getElem?_map]
  by_cases hk : k < a.length
  · rw [upto_get hk, List.getElem?_eq_getElem hk]
    show some (renF a (k : Int)) = _
    rw [renF_at hk]
  · rw [List.getElem?_eq_none (by rw [upto_length]; omega), List.getElem?_eq_none (by omega)]; rfl
/-- The answer at a, b is that at the first order and the renamed b. -/
theorem few_ren {r d : Nat} {a q : List Int} (ha : ladB a = true) (h : (q, d) ∈ runB r (upto a.length) 120) : fewB r a (q.map (renF a)) = (d : Int) := by
  refine fewB_hit (n := a.length) (i := 120) ha rfl (by omega) ?_
  have e := runB_map (renF_inj ha) r (upto a.length) 120
  rw [renF_upto] at e
  rw [e]
  exact List.mem_map.2 ⟨_, h, rfl⟩
end Go.Proofs.YtbipjmaeclgldaaDoor
