/- Weights for the players of a set; the first safe strategy: plain. -/
import Derived.Test.YtklhplifceedeaaDoorSkb
import Derived.Test.YtklhplifceedeaaDoorSb
namespace Go.Proofs.YtklhplifceedeaaDoor
open Go.ChangeShapes Go.WideShapes Go.ChangeAt Go.RowKit

/-- The numbers q at the places that l names, 0 elsewhere: the first i of them. -/
def sprI (n : Nat) (l : List Nat) (q : List Int) : Nat → List Int
  | 0 => List.replicate n 0
  | i + 1 => (sprI n l q i).set (l.getD i 0) (fn q i)
def sprL (n : Nat) (l : List Nat) (q : List Int) : List Int := sprI n l q l.length
theorem sprI_length (n : Nat) (l : List Nat) (q : List Int) : ∀ i, (sprI n l q i).length = n
  | 0 => by simp [sprI]
  | i + 1 => by rw [sprI, List.length_set, sprI_length n l q i]
theorem sprL_length (n : Nat) (l : List Nat) (q : List Int) : (sprL n l q).length = n := sprI_length n l q _
theorem getD_ne {l : List Nat} (hnd : l.Nodup) {i j : Nat} (hi : i < l.length) (hj : j < l.length) (h : i ≠ j) : l.getD i 0 ≠ l.getD j 0 := fun e => by
  rw [List.getD_eq_getElem?_getD, List.getD_eq_getElem?_getD, List.getElem?_eq_getElem hi, List.getElem?_eq_getElem hj] at e
  exact h ((List.getElem_inj hnd).1 e)
theorem fn_set {l : List Int} {i j : Nat} {y : Int} (hi : i < l.length) : fn (l.set i y) j = if j = i then y else fn l j := getD_set l i j y 0 hi
theorem sprI_at {n : Nat} {l : List Nat} {q : List Int} (hnd : l.Nodup) (hm : ∀ a ∈ l, a < n) : ∀ i, i ≤ l.length → ∀ j, j < i → fn (sprI n l q i) (l.getD j 0) = fn q j
  | 0, _, j, hj => by omega
  | i + 1, hi, j, hj => by
    have hmi : l.getD i 0 < n := hm _ (by rw [List.getD_eq_getElem?_getD, List.getElem?_eq_getElem (show i < l.length by omega)]; exact List.getElem_mem _)
    rw [sprI, fn_set (by rw [sprI_length]; exact hmi)]
    by_cases e : j = i
    · subst e; rw [if_pos rfl]
    · rw [if_neg (getD_ne hnd (by omega) (by omega) e), sprI_at hnd hm i (by omega) j (by omega)]
theorem sprL_at {n : Nat} {l : List Nat} {q : List Int} (hnd : l.Nodup) (hm : ∀ a ∈ l, a < n) {j : Nat} (hj : j < l.length) : fn (sprL n l q) (l.getD j 0) = fn q j := sprI_at hnd hm _ (Nat.le_refl _) j hj
theorem sprI_mem {n : Nat} {l : List Nat} {q : List Int} : ∀ i, i ≤ q.length → ∀ x ∈ sprI n l q i, x = 0 ∨ x ∈ q
  | 0, _, x, hx => by rw [sprI, List.mem_replicate] at hx; exact .inl hx.2
  | i + 1, hi, x, hx => by
    rw [sprI] at hx
    rcases List.mem_or_eq_of_mem_set hx with h | h
    · exact sprI_mem i (by omega) x h
    · exact .inr (h ▸ fn_mem (by omega))
theorem sprL_mem {n : Nat} {l : List Nat} {q : List Int} (hq : q.length = l.length) : ∀ x ∈ sprL n l q, x = 0 ∨ x ∈ q := sprI_mem _ (by omega)
theorem sprI_map {n : Nat} {l : List Nat} {q : List Int} {f : Int → Int} (h0 : f 0 = 0) : ∀ i, i ≤ q.length → (sprI n l q i).map f = sprI n l (q.map f) i
  | 0, _ => by simp [sprI, h0]
  | i + 1, hi => by rw [sprI, sprI, List.map_set, sprI_map h0 i (by omega), fn_map (by omega)]
theorem sprL_map {n : Nat} {l : List Nat} {q : List Int} {f : Int → Int} (hq : q.length = l.length) (h0 : f 0 = 0) : (sprL n l q).map f = sprL n l (q.map f) := sprI_map h0 _ (by omega)
theorem sprL_gcd {n : Nat} {l : List Nat} {q : List Int} (hnd : l.Nodup) (hm : ∀ a ∈ l, a < n) (hq : q.length = l.length) : gcdL (sprL n l q) = gcdL q := by
  refine Nat.dvd_antisymm (dvd_gcdL.2 fun x hx => ?_) (dvd_gcdL.2 fun x hx => ?_)
  · obtain ⟨j, hj, rfl⟩ := mem_fn hx
    have hmj : l.getD j 0 < n := hm _ (by rw [List.getD_eq_getElem?_getD, List.getElem?_eq_getElem (show j < l.length by omega)]; exact List.getElem_mem _)
    rw [← sprL_at hnd hm (show j < l.length by omega)]
    exact gcdL_dvd (fn_mem (by rw [sprL_length]; exact hmj))
  · rcases sprL_mem hq x hx with rfl | h
    · simp
    · exact gcdL_dvd h
theorem sprL_low {n : Nat} {l : List Nat} {q : List Int} (hnd : l.Nodup) (hm : ∀ a ∈ l, a < n) (hq : q.length = l.length) : lowL (sprL n l q) = sprL n l (lowL q) := by
  unfold lowL
  rw [sprL_gcd hnd hm hq, sprL_map (f := fun z => z.tdiv (gcdL q : Int)) hq (by simp)]
/-- The elements of a set, as numbers. -/
def memN (s : Nat) : List Nat := (List.range 8).filter fun a => s.testBit a
theorem memN_nI (s : Nat) : memL s = nI (memN s) := rfl
theorem memN_len (s : Nat) : (memN s).length = cntL s := rfl
theorem memN_nd (s : Nat) : (memN s).Nodup := List.Pairwise.filter _ List.nodup_range
theorem memN_lt {s n : Nat} (hs : s < 2 ^ n) : ∀ a ∈ memN s, a < n := fun a ha => by
  have h := (List.mem_filter.1 ha).2
  rcases Nat.lt_or_ge a n with h2 | h2
  · exact h2
  · rw [Nat.testBit_lt_two_pow (Nat.lt_of_lt_of_le hs (Nat.pow_le_pow_right (by omega) h2))] at h
    cases h
/-- The weights of a set that are balanced on it and safe, if there are some. -/
def kerS (x : TourV) (s : Nat) : Option (List Int) := kerF (pfs (Mb (bt x.wins)) (cntL s / 2) (memN s))
def safeB (x : TourV) (ws : List Int) : Bool := (List.range x.wins.length).all fun b => decide (0 ≤ balF (bt x.wins) ws b x.wins.length)
def setS (x : TourV) (s : Nat) : Option (List Int) :=
  if cntL s % 2 = 1 then
    match kerS x s with
    | some q => if safeB x (sprL x.wins.length (memN s) q) then some (sprL x.wins.length (memN s) q) else none
    | none => none
  else none
/-- The first of the sets up to k that has some. -/
def safeT (x : TourV) : Nat → Option (List Int)
  | 0 => none
  | k + 1 => match safeT x k with
    | some q => some q
    | none => setS x (k + 1)
def safeF (x : TourV) : Option (List Int) := if tourB x = true ∧ x.wins.length ≤ 7 then safeT x (2 ^ x.wins.length - 1) else none
theorem safeT_none {x : TourV} {k : Nat} (h : safeT x k = none) (h2 : setS x (k + 1) = none) : safeT x (k + 1) = none := by rw [safeT, h, h2]
theorem safeT_hit {x : TourV} {k : Nat} {q : List Int} (h : safeT x k = none) (h2 : setS x (k + 1) = some q) : ∀ m, k + 1 ≤ m → safeT x m = some q
  | 0, hm => by omega
  | m + 1, hm => by
    by_cases e : m = k
    · subst e; rw [safeT, h, h2]
    · rw [safeT, safeT_hit h h2 m (by omega)]
theorem setS_even {x : TourV} {s : Nat} (h : cntL s % 2 = 0) : setS x s = none := by unfold setS; rw [if_neg (by omega)]
theorem setS_no {x : TourV} {s : Nat} (h : kerS x s = none) : setS x s = none := by unfold setS; rw [h]; split <;> rfl
theorem setS_some {x : TourV} {s : Nat} {q : List Int} (h1 : cntL s % 2 = 1) (h : kerS x s = some q) : setS x s = if safeB x (sprL x.wins.length (memN s) q) then some (sprL x.wins.length (memN s) q) else none := by unfold setS; rw [if_pos h1, h]
theorem low_bd {l : List Int} (h : ∀ z ∈ l, 0 < z ∧ z ≤ 15) : ∀ z ∈ lowL l, 1 ≤ z ∧ z ≤ 15 := by
  intro z hz
  obtain ⟨y, hy, rfl⟩ := List.mem_map.1 hz
  obtain ⟨h1, h2⟩ := h y hy
  obtain ⟨k, hk⟩ := Int.ofNat_dvd_left.2 (gcdL_dvd hy)
  have hg : 0 < gcdL l := Nat.pos_of_ne_zero fun h0 => by
    rw [h0] at hk; simp at hk; omega
  rw [hk, Int.mul_tdiv_cancel_left _ (by omega)]
  have hg1 : (1 : Int) ≤ gcdL l := by omega
  constructor
  · rcases (by omega : k < 1 ∨ 1 ≤ k) with h3 | h3
    · have h4 := Int.mul_le_mul_of_nonneg_left (show k ≤ 0 by omega) (show (0 : Int) ≤ gcdL l by omega)
      rw [Int.mul_zero] at h4
      omega
    · exact h3
  · rcases (by omega : k < 16 ∨ 16 ≤ k) with h3 | h3
    · omega
    · have h4 := Int.mul_le_mul_of_nonneg_right hg1 (show (0 : Int) ≤ k by omega)
      omega
theorem pfs_15 {x : TourV} {l : List Nat} {k : Nat} (hl : l.length = 2 * k + 1) (hk : k ≤ 3) : ∀ z ∈ pfs (Mb (bt x.wins)) k l, z.natAbs ≤ 15 := fun z hz => by
  have h1 := pfs_abs (Mb_abs _) hl z hz
  have h2 : dfact k ≤ 15 := by
    match k, hk with
    | 0, _ => decide
    | 1, _ => decide
    | 2, _ => decide
    | 3, _ => decide
  omega
theorem sgn_15 {ps : List Int} (h : ∀ z ∈ ps, z.natAbs ≤ 15) : ∀ z ∈ sgnL ps, z.natAbs ≤ 15 := by
  unfold sgnL
  split
  · intro z hz
    obtain ⟨y, hy, rfl⟩ := List.mem_map.1 hz
    have := h y hy; omega
  · exact h
theorem ker_some {ps q : List Int} (h : kerF ps = some q) : q = lowL (sgnL ps) ∧ ∀ z ∈ sgnL ps, 0 < z := by
  unfold kerF at h
  split at h
  · rename_i ha
    injection h with h
    exact ⟨h.symm, fun z hz => of_decide_eq_true (List.all_eq_true.1 ha z hz)⟩
  · cases h
theorem ker_15 {x : TourV} {l : List Nat} {k : Nat} (hl : l.length = 2 * k + 1) (hk : k ≤ 3) {q : List Int} (h : kerF (pfs (Mb (bt x.wins)) k l) = some q) : q.length = l.length ∧ ∀ z ∈ q, 1 ≤ z ∧ z ≤ 15 := by
  obtain ⟨rfl, hp⟩ := ker_some h
  refine ⟨by unfold lowL; rw [List.length_map, sgnL_length, pfs_length], low_bd fun z hz => ⟨hp z hz, ?_⟩⟩
  have := sgn_15 (pfs_15 (x := x) hl hk) z hz
  omega
theorem spr_bd {n : Nat} {l : List Nat} {q : List Int} (hq : q.length = l.length) (h : ∀ z ∈ q, 1 ≤ z ∧ z ≤ 15) : ∀ y ∈ sprL n l q, 0 ≤ y ∧ y ≤ 100000 := fun y hy => by
  rcases sprL_mem hq y hy with rfl | h2
  · omega
  · have := h y h2; omega
theorem safeB_hit {x : TourV} {ws : List Int} {b : Nat} (hb : b < x.wins.length) (h : balF (bt x.wins) ws b x.wins.length < 0) : safeB x ws = false :=
  List.all_eq_false.2 ⟨b, List.mem_range.2 hb, by simpa using h⟩
theorem safeB_all {x : TourV} {ws : List Int} (h : ∀ b, b < x.wins.length → 0 ≤ balF (bt x.wins) ws b x.wins.length) : safeB x ws = true := by
  unfold safeB
  rw [List.all_eq_true]
  exact fun b hb => decide_eq_true (h b (List.mem_range.1 hb))
end Go.Proofs.YtklhplifceedeaaDoor
