/- The fewest challenges: one search for both packages (plain law). -/
import Derived.Test.YtbipjmaeclgldaaDoorMai
namespace Go.Proofs.YtbipjmaeclgldaaDoor
open Go.ChangeShapes Go.WideShapes Go.ChangeAt Go.RowKit

abbrev BfsL := List (List Int × Nat)
/-- The ladders that one challenge leads to, in the program's order. -/
def nbRow (r : Nat) (l : List Int) (lo : Nat) : List (List Int) := (List.range lo).filterMap fun up => if lo - r ≤ up then some (riseL l lo up) else none
def nbrs (r : Nat) (l : List Int) : List (List Int) := (List.range l.length).flatMap (nbRow r l)
def hasK (L : BfsL) (x : List Int) : Bool := L.any fun p => p.1 == x
def addB (d : Nat) (L : BfsL) (x : List Int) : BfsL := if hasK L x then L else L ++ [(x, d + 1)]
def stepB (r : Nat) (L : BfsL) (i : Nat) : BfsL := match L[i]? with
  | none => L
  | some (now, d) => (nbrs r now).foldl (addB d) L
def runB (r : Nat) (a : List Int) : Nat → BfsL
  | 0 => [(a, 0)]
  | i + 1 => stepB r (runB r a i) i
/-- What stands of a ladder in the list. -/
def atK (L : BfsL) (x : List Int) : Option Nat := (L.find? fun p => p.1 == x).map (·.2)
structure GoodB (n : Nat) (L : BfsL) : Prop where
  nd : (L.map (·.1)).Nodup
  lad : ∀ p ∈ L, ladB p.1 = true ∧ p.1.length = n
theorem hasK_t {L : BfsL} {x : List Int} : hasK L x = true ↔ ∃ d, (x, d) ∈ L := by
  unfold hasK
  rw [List.any_eq_true]
  constructor
  · rintro ⟨⟨y, d⟩, h1, h2⟩
    have : y = x := by simpa using h2
    subst this; exact ⟨d, h1⟩
  · rintro ⟨d, h⟩; exact ⟨(x, d), h, by simp⟩
theorem hasK_f {L : BfsL} {x : List Int} : hasK L x = false ↔ x ∉ L.map (·.1) := by
  rw [← Bool.not_eq_true, hasK_t, List.mem_map]
  constructor
  · rintro h ⟨⟨y, d⟩, h1, rfl⟩; exact h ⟨d, h1⟩
  · rintro h ⟨d, h1⟩; exact h ⟨_, h1, rfl⟩
theorem atK_of {L : BfsL} (hd : (L.map (·.1)).Nodup) {x : List Int} {d : Nat} (h : (x, d) ∈ L) : atK L x = some d := by
  induction L with
  | nil => cases h
  | cons p L ih =>
    rw [List.map_cons, List.nodup_cons] at hd
    unfold atK
    rw [List.find?_cons]
    rcases List.mem_cons.1 h with h1 | h1
    · subst h1; simp
    · have : (p.1 == x) = false := by
        rw [beq_eq_false_iff_ne]; rintro rfl
        exact hd.1 (List.mem_map.2 ⟨_, h1, rfl⟩)
      rw [this]; exact ih hd.2 h1
theorem atK_none {L : BfsL} {x : List Int} (h : hasK L x = false) : atK L x = none := by
  unfold atK hasK at *
  rw [List.find?_eq_none.2 (fun p hp => by
    have := List.any_eq_false.1 h p hp
    simpa using this)]; rfl
theorem addB_pre (d : Nat) (L : BfsL) (x : List Int) : ∃ E, addB d L x = L ++ E := by
  unfold addB; split
  · exact ⟨[], by simp⟩
  · exact ⟨_, rfl⟩
theorem foldB_pre (d : Nat) : ∀ (xs : List (List Int)) (L : BfsL), ∃ E, xs.foldl (addB d) L = L ++ E
  | [], L => ⟨[], by simp⟩
  | x :: xs, L => by
    obtain ⟨E, h⟩ := addB_pre d L x
    obtain ⟨E2, h2⟩ := foldB_pre d xs (addB d L x)
    exact ⟨E ++ E2, by rw [List.foldl_cons, h2, h, List.append_assoc]⟩
theorem stepB_pre (r : Nat) (L : BfsL) (i : Nat) : ∃ E, stepB r L i = L ++ E := by
  unfold stepB; split
  · exact ⟨[], by simp⟩
  · exact foldB_pre _ _ _
theorem addB_good {n d : Nat} {L : BfsL} {x : List Int} (h : GoodB n L) (hx : ladB x = true ∧ x.length = n) : GoodB n (addB d L x) := by
  unfold addB; split
  · exact h
  · rename_i hf
    have hf := hasK_f.1 (by simpa using hf)
    refine ⟨?_, ?_⟩
    · rw [List.map_append, List.nodup_append]
      exact ⟨h.nd, by simp, fun y hy z hz => by simp at hz; subst hz; rintro rfl; exact hf hy⟩
    · intro p hp
      rcases List.mem_append.1 hp with hp | hp
      · exact h.lad p hp
      · simp at hp; subst hp; exact hx
theorem foldB_good {n d : Nat} : ∀ (xs : List (List Int)) (L : BfsL), GoodB n L → (∀ x ∈ xs, ladB x = true ∧ x.length = n) → GoodB n (xs.foldl (addB d) L)
  | [], L, h, _ => h
  | x :: xs, L, h, hx => foldB_good xs _ (addB_good h (hx x (by simp))) fun y hy => hx y (by simp [hy])
theorem rise_perm {l : List Int} {lo up : Nat} (h : lo < l.length) (h2 : up ≤ lo) : (riseL l lo up).Perm l := by
  unfold riseL
  have h0 : l.getD lo 0 = l[lo] := by rw [List.getD_eq_getElem?_getD, List.getElem?_eq_getElem h]; rfl
  have e : l.take lo ++ l[lo] :: l.drop (lo + 1) = l := by rw [← List.drop_eq_getElem_cons h, List.take_append_drop]
  rw [h0]
  generalize hc : l.take lo ++ l.drop (lo + 1) = c
  have p1 : (c.take up ++ [l[lo]] ++ c.drop up).Perm (l[lo] :: c) := by
    rw [List.append_assoc]
    refine List.perm_middle.trans ?_
    show (l[lo] :: (c.take up ++ c.drop up)).Perm _
    rw [List.take_append_drop]
  refine p1.trans ?_
  rw [← hc]
  conv => rhs; rw [← e]
  exact List.perm_middle.symm
theorem rise_lad {l : List Int} {lo up : Nat} (hl : ladB l = true) (h : lo < l.length) (h2 : up ≤ lo) : ladB (riseL l lo up) = true ∧ (riseL l lo up).length = l.length := by
  have hp := rise_perm h h2
  obtain ⟨⟨h1, h8⟩, hm, hn⟩ := ladB_t hl
  exact ⟨ladB_mk (by rw [hp.length_eq]; exact h1) (by rw [hp.length_eq]; exact h8) (fun x hx => by rw [hp.length_eq]; exact hm x (hp.mem_iff.1 hx)) (hp.nodup_iff.2 hn), hp.length_eq⟩
theorem mem_nbRow {r lo : Nat} {l x : List Int} : x ∈ nbRow r l lo ↔ ∃ up, up < lo ∧ lo - r ≤ up ∧ riseL l lo up = x := by
  unfold nbRow
  rw [List.mem_filterMap]
  constructor
  · rintro ⟨up, h1, h2⟩
    split at h2
    · rename_i h3; injection h2 with h2; exact ⟨up, List.mem_range.1 h1, h3, h2⟩
    · cases h2
  · rintro ⟨up, h1, h2, h3⟩
    exact ⟨up, List.mem_range.2 h1, by rw [if_pos h2, h3]⟩
theorem nbRow_lad {r lo n : Nat} {l : List Int} (hl : ladB l = true) (hn : l.length = n) (h : lo < n) : ∀ x ∈ nbRow r l lo, ladB x = true ∧ x.length = n := fun x hx => by
  obtain ⟨up, h1, _, rfl⟩ := mem_nbRow.1 hx
  have := rise_lad hl (lo := lo) (up := up) (by omega) (by omega)
  exact ⟨this.1, this.2.trans hn⟩
theorem nbrs_lad {r n : Nat} {l : List Int} (hl : ladB l = true) (hn : l.length = n) : ∀ x ∈ nbrs r l, ladB x = true ∧ x.length = n := fun x hx => by
  obtain ⟨lo, h1, h2⟩ := List.mem_flatMap.1 hx
  exact nbRow_lad hl hn (by have := List.mem_range.1 h1; omega) x h2
theorem stepB_good {r n i : Nat} {L : BfsL} (h : GoodB n L) : GoodB n (stepB r L i) := by
  unfold stepB; split
  · exact h
  · rename_i now d hi
    have hp := h.lad _ (List.mem_of_getElem? hi)
    exact foldB_good _ _ h (nbrs_lad hp.1 hp.2)
theorem runB_good {r n : Nat} {a : List Int} (ha : ladB a = true) (hn : a.length = n) : ∀ i, GoodB n (runB r a i)
  | 0 => ⟨by simp [runB], fun p hp => by simp [runB] at hp; subst hp; exact ⟨ha, hn⟩⟩
  | i + 1 => stepB_good (runB_good ha hn i)
theorem runB_pre (r : Nat) (a : List Int) (i : Nat) : ∀ k, ∃ E, runB r a (i + k) = runB r a i ++ E
  | 0 => ⟨[], by simp⟩
  | k + 1 => by
    obtain ⟨E, h⟩ := runB_pre r a i k
    obtain ⟨E2, h2⟩ := stepB_pre r (runB r a (i + k)) (i + k)
    exact ⟨E ++ E2, by rw [show i + (k + 1) = (i + k) + 1 by omega, runB, h2, h, List.append_assoc]⟩
theorem runB_done {r : Nat} {a : List Int} {i : Nat} (h : (runB r a i).length ≤ i) : ∀ k, runB r a (i + k) = runB r a i
  | 0 => rfl
  | k + 1 => by
    have ih := runB_done h k
    rw [show i + (k + 1) = (i + k) + 1 by omega, runB, ih]
    unfold stepB
    rw [List.getElem?_eq_none (by omega)]
/-- A ladder's number: digits of base 8. -/
def numL (l : List Int) : Int := l.foldl (fun n x => 8 * n + x) 0
theorem numF_inj : ∀ (l k : List Int) (p q : Int), l.length = k.length → (∀ x ∈ l, 0 ≤ x ∧ x < 8) → (∀ x ∈ k, 0 ≤ x ∧ x < 8) →
    l.foldl (fun n x => 8 * n + x) p = k.foldl (fun n x => 8 * n + x) q → p = q ∧ l = k
  | [], [], p, q, _, _, _, h => ⟨h, rfl⟩
  | x :: l, y :: k, p, q, hl, hx, hy, h => by
    obtain ⟨h1, h2⟩ := numF_inj l k (8 * p + x) (8 * q + y) (by simpa using hl) (fun z hz => hx z (by simp [hz])) (fun z hz => hy z (by simp [hz])) h
    have := hx x (by simp); have := hy y (by simp)
    exact ⟨by omega, by rw [h2, show x = y by omega]⟩
theorem numF_range : ∀ (l : List Int) (p : Int), 0 ≤ p → (∀ x ∈ l, 0 ≤ x ∧ x < 8) → 0 ≤ l.foldl (fun n x => 8 * n + x) p ∧ l.foldl (fun n x => 8 * n + x) p < (p + 1) * 8 ^ l.length
  | [], p, h, _ => by simp; omega
  | x :: l, p, h, hx => by
    have h0 := hx x (by simp)
    obtain ⟨h1, h2⟩ := numF_range l (8 * p + x) (by omega) (fun z hz => hx z (by simp [hz]))
    refine ⟨h1, Int.lt_of_lt_of_le h2 ?_⟩
    rw [List.length_cons, Int.pow_succ, Int.mul_comm (8 ^ l.length) 8, ← Int.mul_assoc]
    exact Int.mul_le_mul_of_nonneg_right (by omega) (Int.pow_nonneg (by omega))
theorem lad_small {l : List Int} (h : ladB l = true) : ∀ x ∈ l, 0 ≤ x ∧ x < 8 := fun x hx => by
  obtain ⟨⟨h1, h8⟩, hm, _⟩ := ladB_t h
  have := hm x hx; omega
theorem numL_range {l : List Int} (h : ladB l = true) (h5 : l.length ≤ 5) : 0 ≤ numL l ∧ numL l < 32768 := by
  obtain ⟨h1, h2⟩ := numF_range l 0 (by omega) (lad_small h)
  refine ⟨h1, Int.lt_of_lt_of_le h2 ?_⟩
  have : (8 : Int) ^ l.length ≤ 8 ^ 5 := by
    have : (8 : Nat) ^ l.length ≤ 8 ^ 5 := Nat.pow_le_pow_right (by omega) h5
    exact_mod_cast this
  omega
theorem numL_inj {l k : List Int} (hl : ladB l = true) (hk : ladB k = true) (he : l.length = k.length) (h : numL l = numL k) : l = k :=
  (numF_inj l k 0 0 he (lad_small hl) (lad_small hk) h).2
theorem good_len {n : Nat} {L : BfsL} (h : GoodB n L) (h5 : n ≤ 5) : L.length ≤ 32768 := by
  have hb := nodup_bound 32768 ((L.map (·.1)).map numL) ?_ ?_
  · simpa using hb
  · have : ∀ (M : List (List Int)), M.Nodup → (∀ l ∈ M, ladB l = true ∧ l.length = n) → (M.map numL).Nodup := by
      intro M
      induction M with
      | nil => intro _ _; simp
      | cons l M ih =>
        intro hd hm
        rw [List.nodup_cons] at hd
        rw [List.map_cons, List.nodup_cons]
        refine ⟨fun hx => ?_, ih hd.2 fun k hk => hm k (by simp [hk])⟩
        obtain ⟨k, hk, e⟩ := List.mem_map.1 hx
        have h1 := hm l (by simp); have h2 := hm k (by simp [hk])
        have := numL_inj h2.1 h1.1 (by rw [h1.2, h2.2]) e
        subst this; exact hd.1 hk
    exact this _ h.nd fun l hl => by
      obtain ⟨p, hp, rfl⟩ := List.mem_map.1 hl
      exact h.lad p hp
  · intro x hx
    obtain ⟨l, hl, rfl⟩ := List.mem_map.1 hx
    obtain ⟨p, hp, rfl⟩ := List.mem_map.1 hl
    have := h.lad p hp
    exact numL_range this.1 (by omega)
/-- The answer: the steps to b, or -1. -/
theorem bigK_ex : ∃ K : Nat, ∀ i, i ≤ 32768 → ∃ k, K = i + k := ⟨32768, fun i h => ⟨32768 - i, by omega⟩⟩
noncomputable def bigK : Nat := Classical.choose bigK_ex
theorem bigK_le {i : Nat} (h : i ≤ 32768) : ∃ k, bigK = i + k := Classical.choose_spec bigK_ex i h
noncomputable def fewB (r : Nat) (a b : List Int) : Int := match atK (runB r a bigK) b with
  | some d => (d : Int)
  | none => -1
theorem fewB_hit {r n i d : Nat} {a b : List Int} (ha : ladB a = true) (hn : a.length = n) (hi : i ≤ 32768) (h : (b, d) ∈ runB r a i) : fewB r a b = (d : Int) := by
  obtain ⟨k, hk⟩ := bigK_le hi
  obtain ⟨E, hE⟩ := runB_pre r a i k
  have hm : (b, d) ∈ runB r a bigK := by rw [hk, hE]; exact List.mem_append_left _ h
  unfold fewB
  rw [atK_of (runB_good ha hn _).nd hm]
theorem fewB_end {r i : Nat} {a b : List Int} (hi : i ≤ 32768) (h : (runB r a i).length ≤ i) : fewB r a b = match atK (runB r a i) b with
    | some d => (d : Int)
    | none => -1 := by
  obtain ⟨k, hk⟩ := bigK_le hi
  have := runB_done h k
  unfold fewB; rw [hk, this]
end Go.Proofs.YtbipjmaeclgldaaDoor
