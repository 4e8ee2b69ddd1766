/- Whom a player reaches; closed sets of players: plain facts. -/
import Derived.Test.YtklhplifceedeaaDoorOls
import Derived.Test.YtklhplifceedeaaDoorSt
namespace Go.Proofs.YtklhplifceedeaaDoor
open Go.ChangeShapes Go.WideShapes Go.ChangeAt Go.RowKit

/-- The set s and all whom its first k players beat. -/
def orT (x : TourV) (s : Nat) : Nat → Nat
  | 0 => s
  | k + 1 => if s.testBit k then orT x s k ||| winN x k else orT x s k
def stepR (x : TourV) (s : Nat) : Nat := orT x s 8
def reachT (x : TourV) : Nat → Nat → Nat
  | 0, s => s
  | f + 1, s => reachT x f (stepR x s)
/-- The set of those whom a player reaches, with himself. -/
def reachF (x : TourV) (a : Nat) : Nat := reachT x 256 (2 ^ a)
def Sub (s t : Nat) : Prop := ∀ i, s.testBit i = true → t.testBit i = true
theorem Sub.le {s t : Nat} (h : Sub s t) : s ≤ t := by
  have e : s &&& t = s := by
    apply Nat.eq_of_testBit_eq
    intro i
    rw [Nat.testBit_and]
    cases hs : s.testBit i
    · rfl
    · rw [h i hs]; rfl
  rw [← e]; exact Nat.and_le_right
theorem Sub.eq {s t : Nat} (h : Sub s t) (h2 : Sub t s) : s = t := Nat.le_antisymm h.le h2.le
theorem Sub.refl (s : Nat) : Sub s s := fun _ h => h
theorem Sub.trans {a b c : Nat} (h : Sub a b) (h2 : Sub b c) : Sub a c := fun i hi => h2 i (h i hi)
theorem orT_bit (x : TourV) (s : Nat) : ∀ k i, (orT x s k).testBit i = true ↔ s.testBit i = true ∨ ∃ b, b < k ∧ s.testBit b = true ∧ (winN x b).testBit i = true := by
  intro k
  induction k with
  | zero => intro i; simp [orT]
  | succ k ih =>
    intro i
    rw [orT]
    split
    · next hb =>
      rw [Nat.testBit_or, Bool.or_eq_true, ih]
      constructor
      · rintro ((h | ⟨b, h1, h2, h3⟩) | h)
        · exact .inl h
        · exact .inr ⟨b, by omega, h2, h3⟩
        · exact .inr ⟨k, Nat.lt_succ_self _, hb, h⟩
      · rintro (h | ⟨b, h1, h2, h3⟩)
        · exact .inl (.inl h)
        · rcases Nat.eq_or_lt_of_le (Nat.le_of_lt_succ h1) with rfl | h1
          · exact .inr h3
          · exact .inl (.inr ⟨b, h1, h2, h3⟩)
    · next hb =>
      rw [ih]
      constructor
      · rintro (h | ⟨b, h1, h2, h3⟩)
        · exact .inl h
        · exact .inr ⟨b, by omega, h2, h3⟩
      · rintro (h | ⟨b, h1, h2, h3⟩)
        · exact .inl h
        · rcases Nat.eq_or_lt_of_le (Nat.le_of_lt_succ h1) with rfl | h1
          · exact absurd h2 hb
          · exact .inr ⟨b, h1, h2, h3⟩
theorem orT_sub (x : TourV) (s k : Nat) : Sub s (orT x s k) := fun i h => (orT_bit x s k i).2 (.inl h)
theorem orT_lt {x : TourV} {s n : Nat} (hs : s < 2 ^ n) (hw : ∀ b, winN x b < 2 ^ n) : ∀ k, orT x s k < 2 ^ n := by
  intro k
  induction k with
  | zero => exact hs
  | succ k ih =>
    rw [orT]
    split
    · exact Nat.or_lt_two_pow ih (hw k)
    · exact ih
/-- From n on no player is left. -/
theorem orT_stop {x : TourV} {s n : Nat} (hs : s < 2 ^ n) : ∀ k, n ≤ k → orT x s k = orT x s n := by
  intro k hk
  induction k with
  | zero => obtain rfl : n = 0 := by omega
            rfl
  | succ k ih =>
    rcases Nat.eq_or_lt_of_le hk with rfl | h
    · rfl
    · rw [orT, if_neg]
      · exact ih (by omega)
      · rw [Nat.testBit_lt_two_pow (Nat.lt_of_lt_of_le hs (Nat.pow_le_pow_right (by omega) (by omega)))]
        decide
theorem orT_mem (x : TourV) (s : Nat) : ∀ k, (memT s k).foldl (fun (acc : Nat) (b : Int) => acc ||| winN x b.toNat) s = orT x s k := by
  intro k
  induction k with
  | zero => rfl
  | succ k ih =>
    cases h : s.testBit k
    · rw [memT_out h, ih, orT, h]; rfl
    · rw [memT_in h, List.foldl_append, ih, orT, h]; simp
theorem win_all {x : TourV} (hok : tourB x = true) (b : Nat) : winN x b < 2 ^ x.wins.length := by
  obtain ⟨h1, h2, h3, h4, h5⟩ := tourB_t hok
  have hp : 0 < 2 ^ x.wins.length := Nat.pow_pos (by omega)
  rcases Nat.lt_or_ge b x.wins.length with h | h
  · have hy : x.wins[b]? = some x.wins[b] := List.getElem?_eq_getElem h
    have hin := inB_t.1 (List.all_eq_true.1 h4 _ (List.mem_of_getElem? hy))
    have h6 : (2 : Int) ^ x.wins.length = ((2 ^ x.wins.length : Nat) : Int) := by rw [Int.natCast_pow]; rfl
    rw [h6] at hin
    rw [winN, List.getD_eq_getElem?_getD, hy, Option.getD_some]
    omega
  · rw [winN, List.getD_eq_getElem?_getD, List.getElem?_eq_none h]; exact hp
/-- Nobody in the set beats one outside. -/
def Cl (x : TourV) (s : Nat) : Prop := ∀ b i, s.testBit b = true → (winN x b).testBit i = true → s.testBit i = true
theorem cl_step {x : TourV} {s : Nat} (hs : s < 256) : stepR x s = s ↔ Cl x s := by
  constructor
  · intro h b i hb hi
    have hb8 : b < 8 := by
      rcases Nat.lt_or_ge b 8 with h | h
      · exact h
      · rw [bit_hi hs h] at hb; cases hb
    have := (orT_bit x s 8 i).2 (.inr ⟨b, hb8, hb, hi⟩)
    unfold stepR at h
    rwa [h] at this
  · intro h
    refine (Sub.eq (orT_sub x s 8) ?_).symm
    intro i hi
    rcases (orT_bit x s 8 i).1 hi with h1 | ⟨b, _, h1, h2⟩
    · exact h1
    · exact h b i h1 h2
theorem reach_fix {x : TourV} {s : Nat} (h : stepR x s = s) : ∀ f, reachT x f s = s := by
  intro f
  induction f with
  | zero => rfl
  | succ f ih => rw [reachT, h]; exact ih
theorem step_grow {x : TourV} {s : Nat} (h : stepR x s ≠ s) : s < stepR x s := Nat.lt_of_le_of_ne (orT_sub x s 8).le (Ne.symm h)
theorem reach_end {x : TourV} {n : Nat} (hn : n ≤ 8) (hw : ∀ b, winN x b < 2 ^ n) : ∀ f s, s < 2 ^ n → 256 ≤ s + f → Cl x (reachT x f s) ∧ Sub s (reachT x f s) ∧ reachT x f s < 2 ^ n := by
  intro f
  have h256 : 2 ^ n ≤ 256 := Nat.pow_le_pow_right (by omega) hn
  induction f with
  | zero => intro s hs hf; omega
  | succ f ih =>
    intro s hs hf
    by_cases h : stepR x s = s
    · rw [reach_fix h]; exact ⟨(cl_step (by omega)).1 h, Sub.refl s, hs⟩
    · have h1 := step_grow h
      obtain ⟨a1, a2, a3⟩ := ih (stepR x s) (orT_lt hs hw 8) (by omega)
      exact ⟨a1, (orT_sub x s 8).trans a2, a3⟩
theorem reach_min {x : TourV} {C : Nat} (hC : Cl x C) : ∀ f s, Sub s C → Sub (reachT x f s) C := by
  intro f
  induction f with
  | zero => intro s h; exact h
  | succ f ih =>
    intro s h
    refine ih _ ?_
    intro i hi
    rcases (orT_bit x s 8 i).1 hi with h1 | ⟨b, _, h1, h2⟩
    · exact h i h1
    · exact hC b i (h b h1) h2
theorem reach_ok {x : TourV} (hok : tourB x = true) {a : Nat} (ha : a < x.wins.length) : Cl x (reachF x a) ∧ (reachF x a).testBit a = true ∧ reachF x a < 2 ^ x.wins.length := by
  obtain ⟨t1, t2, t3, _, _⟩ := tourB_t hok
  have hn8 : x.wins.length ≤ 8 := by omega
  have hlt : 2 ^ a < 2 ^ x.wins.length := Nat.pow_lt_pow_right (by omega) ha
  obtain ⟨h1, h2, h3⟩ := reach_end hn8 (win_all hok) 256 (2 ^ a) hlt (Nat.le_add_left _ _)
  exact ⟨h1, h2 a (by rw [Nat.testBit_two_pow_self]), h3⟩
theorem reach_le {x : TourV} {C a : Nat} (hC : Cl x C) (ha : C.testBit a = true) : Sub (reachF x a) C :=
  reach_min hC 256 (2 ^ a) (fun i hi => by rw [Nat.testBit_two_pow] at hi; simp at hi; rw [← hi]; exact ha)

theorem bit_in {x : TourV} {s i : Nat} (hs : s < 2 ^ x.wins.length) (h : s.testBit i = true) : i < x.wins.length := by
  rcases Nat.lt_or_ge i x.wins.length with h1 | h1
  · exact h1
  · rw [Nat.testBit_lt_two_pow (Nat.lt_of_lt_of_le hs (Nat.pow_le_pow_right (by omega) h1))] at h; cases h
/-- Closed sets lie in each other. -/
theorem cl_chain {x : TourV} (hok : tourB x = true) {s t : Nat} (hs : s < 2 ^ x.wins.length) (ht : t < 2 ^ x.wins.length) (h1 : Cl x s) (h2 : Cl x t) : Sub s t ∨ Sub t s := by
  by_cases h : Sub s t
  · exact .inl h
  · refine .inr ?_
    have ⟨a, ha⟩ : ∃ a, ¬ (s.testBit a = true → t.testBit a = true) := Classical.not_forall.1 h
    have ha1 : s.testBit a = true := Classical.byContradiction fun hh => ha (fun h3 => absurd h3 hh)
    have ha2 : ¬ t.testBit a = true := fun h3 => ha (fun _ => h3)
    intro b hb
    refine Classical.byContradiction fun hb2 => ?_
    have hne : a ≠ b := fun e => ha2 (e ▸ hb)
    have hanti := tourB_anti hok (bit_in hs ha1) (bit_in ht hb) hne
    cases hab : bt x.wins a b
    · rw [hab] at hanti
      have hba : bt x.wins b a = true := by
        cases h3 : bt x.wins b a
        · rw [h3] at hanti; exact absurd rfl hanti
        · rfl
      exact ha2 (h2 b a hb hba)
    · exact hb2 (h1 a b ha1 hab)
theorem cl_or {x : TourV} {s t : Nat} (h1 : Cl x s) (h2 : Cl x t) : Cl x (s ||| t) := by
  intro b i hb hi
  rw [Nat.testBit_or, Bool.or_eq_true] at hb ⊢
  rcases hb with hb | hb
  · exact .inl (h1 b i hb hi)
  · exact .inr (h2 b i hb hi)
theorem cl_lt {x : TourV} (hok : tourB x = true) {s t : Nat} (hs : s < 2 ^ x.wins.length) (ht : t < 2 ^ x.wins.length) (h1 : Cl x s) (h2 : Cl x t) (h : s ≤ t) : Sub s t := by
  rcases cl_chain hok hs ht h1 h2 with h3 | h3
  · exact h3
  · have := h3.le
    obtain rfl : s = t := by omega
    exact h3
/-- How many closed sets there are up to s, the empty one aside. -/
def clB (x : TourV) (t : Nat) : Bool := decide (t ≠ 0) && decide (stepR x t = t)
def clN (x : TourV) (s : Nat) : Nat := ((List.range (s + 1)).filter (clB x)).length
theorem clN_zero (x : TourV) : clN x 0 = 0 := by simp [clN, clB, List.range_succ]
theorem clN_skip {x : TourV} : ∀ {s t : Nat}, s ≤ t → (∀ k, s < k → k ≤ t → clB x k = false) → clN x t = clN x s := by
  intro s t
  induction t with
  | zero => intro h _; obtain rfl : s = 0 := by omega
            rfl
  | succ t ih =>
    intro h hk
    rcases Nat.eq_or_lt_of_le h with rfl | h
    · rfl
    · rw [← ih (by omega) (fun k h1 h2 => hk k h1 (by omega))]
      unfold clN
      rw [List.range_succ, List.filter_append, List.filter_cons, hk (t + 1) h (Nat.le_refl _)]
      simp
theorem clN_next {x : TourV} {s t : Nat} (h : s < t) (ht : clB x t = true) (hk : ∀ k, s < k → k < t → clB x k = false) : clN x t = clN x s + 1 := by
  obtain ⟨t', rfl⟩ : ∃ t', t = t' + 1 := ⟨t - 1, by omega⟩
  rw [← clN_skip (x := x) (s := s) (t := t') (by omega) (fun k h1 h2 => hk k h1 (by omega))]
  unfold clN
  rw [List.range_succ, List.filter_append, List.filter_cons, ht]
  simp
theorem clB_t {x : TourV} {t : Nat} (ht : t < 256) : clB x t = true ↔ t ≠ 0 ∧ Cl x t := by
  rw [clB, Bool.and_eq_true, decide_eq_true_eq, decide_eq_true_eq, cl_step ht]
theorem clB_f {x : TourV} {t : Nat} (ht : t < 256) (h : ¬ (t ≠ 0 ∧ Cl x t)) : clB x t = false := by
  cases h2 : clB x t
  · rfl
  · exact absurd ((clB_t ht).1 h2) h
/-- A closed set that is not empty is what one of its players reaches. -/
theorem cl_top {x : TourV} (hok : tourB x = true) {s : Nat} (hs : s < 2 ^ x.wins.length) (h0 : s ≠ 0) (hc : Cl x s) : ∃ a, a < x.wins.length ∧ s.testBit a = true ∧ reachF x a = s := by
  obtain ⟨t1, t2, t3, _, _⟩ := tourB_t hok
  have hn8 : x.wins.length ≤ 8 := by omega
  have hmax : ∀ k, (∀ b, b < k → s.testBit b = false) ∨ ∃ a, a < k ∧ s.testBit a = true ∧ ∀ b, b < k → s.testBit b = true → reachF x b ≤ reachF x a := by
    intro k
    induction k with
    | zero => exact .inl fun b h => absurd h (Nat.not_lt_zero _)
    | succ k ih =>
      cases hk : s.testBit k
      · rcases ih with h | ⟨a, h1, h2, h3⟩
        · refine .inl fun b hb => ?_
          rcases Nat.eq_or_lt_of_le (Nat.le_of_lt_succ hb) with rfl | hb
          · exact hk
          · exact h b hb
        · refine .inr ⟨a, by omega, h2, fun b hb hbs => ?_⟩
          rcases Nat.eq_or_lt_of_le (Nat.le_of_lt_succ hb) with rfl | hb
          · rw [hk] at hbs; cases hbs
          · exact h3 b hb hbs
      · rcases ih with h | ⟨a, h1, h2, h3⟩
        · refine .inr ⟨k, Nat.lt_succ_self _, hk, fun b hb hbs => ?_⟩
          rcases Nat.eq_or_lt_of_le (Nat.le_of_lt_succ hb) with rfl | hb
          · exact Nat.le_refl _
          · rw [h b hb] at hbs; cases hbs
        · rcases Nat.lt_or_ge (reachF x a) (reachF x k) with hlt | hge
          · refine .inr ⟨k, Nat.lt_succ_self _, hk, fun b hb hbs => ?_⟩
            rcases Nat.eq_or_lt_of_le (Nat.le_of_lt_succ hb) with rfl | hb
            · exact Nat.le_refl _
            · exact Nat.le_trans (h3 b hb hbs) (Nat.le_of_lt hlt)
          · refine .inr ⟨a, by omega, h2, fun b hb hbs => ?_⟩
            rcases Nat.eq_or_lt_of_le (Nat.le_of_lt_succ hb) with rfl | hb
            · exact hge
            · exact h3 b hb hbs
  rcases hmax x.wins.length with h | ⟨a, h1, h2, h3⟩
  · exfalso
    apply h0
    apply Nat.eq_of_testBit_eq
    intro i
    rw [Nat.zero_testBit]
    cases hi : s.testBit i
    · rfl
    · rw [h i (bit_in hs hi)] at hi; cases hi
  · refine ⟨a, h1, h2, ?_⟩
    obtain ⟨r1, r2, r3⟩ := reach_ok hok h1
    refine (reach_le hc h2).eq ?_
    intro b hb
    have hb1 := bit_in hs hb
    obtain ⟨q1, q2, q3⟩ := reach_ok hok hb1
    exact cl_lt hok q3 r3 q1 r1 (h3 b hb1 hb) b q2
/-- The spec's step: what is left without those who reach all of it. -/
theorem cl_less {x : TourV} (hok : tourB x = true) {s t : Nat} (hs : s < 2 ^ x.wins.length) (h0 : s ≠ 0) (hc : Cl x s)
    (ht : ∀ i, t.testBit i = (s.testBit i && decide (reachF x i ≠ s))) : t < s ∧ Cl x t ∧ clN x s = clN x t + 1 := by
  obtain ⟨t1, t2, t3, _, _⟩ := tourB_t hok
  have hn8 : x.wins.length ≤ 8 := by omega
  have h256 : 2 ^ x.wins.length ≤ 256 := Nat.pow_le_pow_right (by omega) hn8
  obtain ⟨a, ha1, ha2, ha3⟩ := cl_top hok hs h0 hc
  have hsub : Sub t s := fun i hi => by rw [ht, Bool.and_eq_true] at hi; exact hi.1
  have hta : t.testBit a = false := by rw [ht, ha3]; simp
  have hlt : t < s := Nat.lt_of_le_of_ne hsub.le (fun e => by rw [e, ha2] at hta; cases hta)
  have hct : Cl x t := by
    intro b i hb hi
    rw [ht, Bool.and_eq_true, decide_eq_true_eq] at hb ⊢
    have hi1 := hc b i hb.1 hi
    refine ⟨hi1, fun e => hb.2 ?_⟩
    have hbl := bit_in hs hb.1
    obtain ⟨r1, r2, r3⟩ := reach_ok hok hbl
    have h1 : Sub (reachF x i) (reachF x b) := reach_le r1 (r1 b i r2 hi)
    rw [e] at h1
    exact (reach_le hc hb.1).eq h1
  refine ⟨hlt, hct, clN_next hlt ((clB_t (by omega)).2 ⟨h0, hc⟩) (fun k h1 h2 => clB_f (by omega) ?_)⟩
  rintro ⟨hk0, hkc⟩
  have hks : Sub k s := cl_lt hok (by omega) hs hkc hc (Nat.le_of_lt h2)
  have hnot : ¬ Sub k t := fun h => by have := h.le; omega
  have ⟨i, hi⟩ : ∃ i, ¬ (k.testBit i = true → t.testBit i = true) := Classical.not_forall.1 hnot
  have hi1 : k.testBit i = true := Classical.byContradiction fun hh => hi (fun h3 => absurd h3 hh)
  have hi2 : ¬ t.testBit i = true := fun h3 => hi (fun _ => h3)
  have hr : reachF x i = s := by
    refine Classical.byContradiction fun hne => hi2 ?_
    rw [ht, hks i hi1, decide_eq_true hne]; rfl
  have h3 := (reach_le hkc hi1).le
  omega
def scoreF (x : TourV) (a : Int) : Int := ((cntL (winN x a.toNat) : Nat) : Int)
theorem cnt_sub_le {s t : Nat} (h : Sub s t) : cntL s ≤ cntL t := by
  unfold cntL cntT
  have h2 : ∀ k, ((List.range k).filter (fun a => s.testBit a)).length ≤ ((List.range k).filter (fun a => t.testBit a)).length := by
    intro k
    induction k with
    | zero => simp
    | succ k ih =>
      rw [List.range_succ, List.filter_append, List.filter_append, List.length_append, List.length_append]
      have : ([k].filter (fun a => s.testBit a)).length ≤ ([k].filter (fun a => t.testBit a)).length := by
        cases hs : s.testBit k
        · simp [hs]
        · simp [hs, h k hs]
      omega
  exact h2 8
theorem cnt_sub_lt {s t a : Nat} (h : Sub s t) (ha : a < 8) (hs : s.testBit a = false) (ht : t.testBit a = true) : cntL s < cntL t := by
  unfold cntL cntT
  have h2 : ∀ k, ((List.range k).filter (fun a => s.testBit a)).length + (if a < k then 1 else 0) ≤ ((List.range k).filter (fun a => t.testBit a)).length := by
    intro k
    induction k with
    | zero => simp
    | succ k ih =>
      rw [List.range_succ, List.filter_append, List.filter_append, List.length_append, List.length_append]
      rcases Nat.lt_trichotomy a k with h3 | h3 | h3
      · rw [if_pos h3] at ih
        rw [if_pos (by omega)]
        have : ([k].filter (fun a => s.testBit a)).length ≤ ([k].filter (fun a => t.testBit a)).length := by
          cases hs : s.testBit k
          · simp [hs]
          · simp [hs, h k hs]
        omega
      · subst h3
        rw [if_neg (Nat.lt_irrefl _)] at ih
        rw [if_pos (by omega)]
        simp only [List.filter_cons, hs, ht, List.filter_nil]
        simp
        omega
      · rw [if_neg (by omega)] at ih
        rw [if_neg (by omega)]
        have : ([k].filter (fun a => s.testBit a)).length ≤ ([k].filter (fun a => t.testBit a)).length := by
          cases hs : s.testBit k
          · simp [hs]
          · simp [hs, h k hs]
        omega
  have := h2 8
  rw [if_pos ha] at this
  omega
/-- The program's step: the next player by the scores, from the least one up. -/
theorem cl_more {x : TourV} (hok : tourB x = true) {k p : Nat} (hk : k < 2 ^ x.wins.length) (hc : Cl x k) (hp : p < x.wins.length) (hpk : k.testBit p = false)
    (hq : ∀ q, q < x.wins.length → k.testBit q = false → scoreF x (p : Int) ≤ scoreF x (q : Int)) : clN x (k ||| reachF x p) = clN x k + 1 := by
  obtain ⟨t1, t2, t3, _, _⟩ := tourB_t hok
  have hn8 : x.wins.length ≤ 8 := by omega
  have h256 : 2 ^ x.wins.length ≤ 256 := Nat.pow_le_pow_right (by omega) hn8
  obtain ⟨r1, r2, r3⟩ := reach_ok hok hp
  have hsub : Sub k (reachF x p) := by
    rcases cl_chain hok hk r3 hc r1 with h | h
    · exact h
    · rw [h p r2] at hpk; cases hpk
  have e : k ||| reachF x p = reachF x p := by
    refine Sub.eq (fun i hi => ?_) (fun i hi => ?_)
    · rw [Nat.testBit_or, Bool.or_eq_true] at hi
      rcases hi with hi | hi
      · exact hsub i hi
      · exact hi
    · rw [Nat.testBit_or, hi]; simp
  rw [e]
  have hlt : k < reachF x p := Nat.lt_of_le_of_ne hsub.le (fun h => by rw [h, r2] at hpk; cases hpk)
  have h0 : reachF x p ≠ 0 := by omega
  refine clN_next hlt ((clB_t (by omega)).2 ⟨h0, r1⟩) (fun t h1 h2 => clB_f (by omega) ?_)
  rintro ⟨ht0, htc⟩
  have htp : t.testBit p = false := by
    cases h : t.testBit p
    · rfl
    · have := (reach_le htc h).le; omega
  have hnot : ¬ Sub t k := fun h => by have := h.le; omega
  have ⟨q, hq0⟩ : ∃ i, ¬ (t.testBit i = true → k.testBit i = true) := Classical.not_forall.1 hnot
  have hq1 : t.testBit q = true := Classical.byContradiction fun hh => hq0 (fun h3 => absurd h3 hh)
  have hq2 : k.testBit q = false := by
    cases h : k.testBit q
    · rfl
    · exact absurd (fun _ => h) hq0
  have hql := bit_in (x := x) (by omega) hq1
  have hs := hq q hql hq2
  have hwp : Sub t (winN x p) := by
    intro u hu
    have hul := bit_in (x := x) (by omega) hu
    have hne : u ≠ p := fun e => by rw [e, htp] at hu; cases hu
    have hanti := tourB_anti hok hul hp hne
    have hup : bt x.wins u p = false := by
      cases h : bt x.wins u p
      · rfl
      · have := htc u p hu h; rw [htp] at this; cases this
    rw [hup] at hanti
    cases h : bt x.wins p u
    · rw [h] at hanti; exact absurd rfl hanti
    · exact h
  have hwq : Sub (winN x q) t := fun u hu => htc q u hq1 hu
  have hqq : (winN x q).testBit q = false := tourB_irr hok hql
  have l1 := cnt_sub_lt hwq (by omega) hqq hq1
  have l2 := cnt_sub_le hwp
  unfold scoreF at hs
  rw [Int.toNat_natCast, Int.toNat_natCast] at hs
  omega
theorem cl_zero (x : TourV) : Cl x 0 := fun b i h _ => by rw [Nat.zero_testBit] at h; cases h
theorem cl_all {x : TourV} (hok : tourB x = true) : Cl x (2 ^ x.wins.length - 1) := by
  intro b i _ hi
  rw [Nat.testBit_two_pow_sub_one]
  exact decide_eq_true (bit_in (win_all hok b) hi)
end Go.Proofs.YtklhplifceedeaaDoor
