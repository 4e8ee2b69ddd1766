/- Ratings: plain laws behind FnRatings. -/
import Derived.Test.YtihoflfokiijdaaRateT
namespace Go.Proofs.Ytihoflfokiijdaa
open Go.ChangeShapes Go.WideShapes Go.ChangeAt Go.RowKit

theorem expd_flip (a b : Int) : expd b a = 1000 - expd a b := by
  unfold expd
  split <;> split <;> (try split) <;> (try split) <;> omega
theorem chg_flip (a b h f : Int) : chg b a (2 - h) f = -chg a b h f := by
  unfold chg
  rw [expd_flip]
  have e : f * (500 * (2 - h) - (1000 - expd a b)) = -(f * (500 * h - expd a b)) := by
    rw [← Int.mul_neg]; congr 1; omega
  rw [e]
  generalize f * (500 * h - expd a b) = n
  split <;> split <;> omega
theorem chg_lim {a b h f : Int} (h1 : 0 ≤ h) (h2 : h ≤ 2) (h3 : 1 ≤ f) : -f ≤ chg a b h f ∧ chg a b h f ≤ f := by
  obtain ⟨e1, e2⟩ := expd_bd a b
  have b1 : f * (500 * h - expd a b) ≤ f * 950 := Int.mul_le_mul_of_nonneg_left (by omega) (by omega)
  have b2 : f * (-950) ≤ f * (500 * h - expd a b) := Int.mul_le_mul_of_nonneg_left (by omega) (by omega)
  unfold chg
  generalize f * (500 * h - expd a b) = n at *
  split <;> omega
theorem chg_win {a b f : Int} (h3 : 1 ≤ f) : 0 ≤ chg a b 2 f := by
  obtain ⟨e1, e2⟩ := expd_bd a b
  have b1 : f * 0 ≤ f * (500 * 2 - expd a b) := Int.mul_le_mul_of_nonneg_left (by omega) (by omega)
  unfold chg
  generalize f * (500 * 2 - expd a b) = n at *
  split <;> omega
theorem chg_lose {a b f : Int} (h3 : 1 ≤ f) : chg a b 0 f ≤ 0 := by
  obtain ⟨e1, e2⟩ := expd_bd a b
  have b1 : f * (500 * 0 - expd a b) ≤ f * (-50) := Int.mul_le_mul_of_nonneg_left (by omega) (by omega)
  unfold chg
  generalize f * (500 * 0 - expd a b) = n at *
  split <;> omega
theorem sum_set {r : List Int} {i : Nat} {x v : Int} (h : r[i]? = some x) : (r.set i v).sum = r.sum - x + v := by
  induction r generalizing i with
  | nil => simp at h
  | cons a r ih =>
    cases i with
    | zero => simp at h; subst h; simp; omega
    | succ i => simp only [List.getElem?_cons_succ] at h; have := ih h; simp only [List.set_cons_succ, List.sum_cons]; omega
theorem sum_set2 {r : List Int} {i j : Nat} {x y d : Int} (hx : r[i]? = some x) (hy : r[j]? = some y) (hij : i ≠ j) : ((r.set i (x + d)).set j (y - d)).sum = r.sum := by
  have h : (r.set i (x + d))[j]? = some y := by rw [List.getElem?_set_ne hij]; exact hy
  rw [sum_set h, sum_set hx]; omega
theorem game_at {r g : List Int} (hg : gameOk r.length g = true) : ∃ (i j : Nat) (h x y : Int), g = [(i : Int), (j : Int), h] ∧ r[i]? = some x ∧ r[j]? = some y ∧ i ≠ j ∧ 0 ≤ h ∧ h ≤ 2 := by
  obtain ⟨a, b, c, rfl, h1, h2, h3, h4, h5, h6, h7⟩ := gameOk_t hg
  obtain ⟨i, rfl⟩ := Int.eq_ofNat_of_zero_le h1
  obtain ⟨j, rfl⟩ := Int.eq_ofNat_of_zero_le h3
  exact ⟨i, j, c, _, _, rfl, List.getElem?_eq_getElem (by omega), List.getElem?_eq_getElem (by omega), by omega, h6, h7⟩
theorem afterG_sum {r g : List Int} {f : Int} (hg : gameOk r.length g = true) : (afterG r g f).sum = r.sum := by
  obtain ⟨i, j, h, x, y, rfl, hx, hy, hij, _, _⟩ := game_at hg
  rw [afterG_at hx hy]
  split
  · exact sum_set2 hx hy hij
  · rfl
theorem afterGs_sum {r : List Int} (f : Int) {gs : List (List Int)} (hg : ∀ g ∈ gs, gameOk r.length g = true) : (afterGs r f gs).sum = r.sum := by
  induction gs generalizing r with
  | nil => rfl
  | cons g gs ih =>
    have h1 := hg g (List.mem_cons_self ..)
    rw [afterGs, ih, afterG_sum h1]
    intro g' h'
    rw [afterG_len]
    exact hg g' (List.mem_cons_of_mem _ h')
theorem onceG_sum {r : List Int} (f : Int) {gs : List (List Int)} (hg : ∀ g ∈ gs, gameOk r.length g = true) : (onceG r f gs).sum = r.sum := by
  suffices h : ∀ acc : List Int, acc.length = r.length → (gs.foldl (onceStep r f) acc).sum = acc.sum from h r rfl
  induction gs with
  | nil => intro acc _; rfl
  | cons g gs ih =>
    intro acc hl
    have h1 := hg g (List.mem_cons_self ..)
    rw [List.foldl_cons, ih (fun g' h' => hg g' (List.mem_cons_of_mem _ h')) _ (by rw [onceStep_len]; exact hl)]
    obtain ⟨i, j, h, x, y, rfl, hx, hy, hij, _, _⟩ := game_at h1
    have hi : i < acc.length := by have := (List.getElem?_eq_some_iff.1 hx).1; omega
    have hj : j < acc.length := by have := (List.getElem?_eq_some_iff.1 hy).1; omega
    rw [onceStep_at hx hy (List.getElem?_eq_getElem hi) (List.getElem?_eq_getElem hj)]
    exact sum_set2 (List.getElem?_eq_getElem hi) (List.getElem?_eq_getElem hj) hij
def nearR (r : List Int) (m : Nat) : Prop := ∀ x ∈ r, 1400 - 40 * (m : Int) ≤ x ∧ x ≤ 2192 + 40 * (m : Int)
/-- Ratings and games as they are drawn. -/
structure Drawn (r : List Int) (gs : List (List Int)) : Prop where
  n2 : 2 ≤ r.length
  n5 : r.length ≤ 5
  near : nearR r 0
  m5 : gs.length ≤ 5
  games : ∀ g ∈ gs, gameOk r.length g = true
theorem Drawn.rat {r : List Int} {gs : List (List Int)} (h : Drawn r gs) : ratOk r = true :=
  ratOk_t.2 ⟨⟨by have := h.n2; omega, by have := h.n5; omega⟩, fun x hx => isR_t.2 (by have := h.near x hx; omega)⟩
theorem Drawn.gam {r : List Int} {gs : List (List Int)} (h : Drawn r gs) : gamesOk r.length gs = true := by
  simp only [gamesOk, Bool.and_eq_true, decide_eq_true_eq, List.all_eq_true]
  exact ⟨by have := h.m5; omega, h.games⟩
theorem Drawn.all {r : List Int} {gs : List (List Int)} (h : Drawn r gs) {f : Int} (h1 : 1 ≤ f) (h2 : f ≤ 40) : ratesOk r gs f = true := by
  rw [ratesOk, h.rat, h.gam, inB_mk (by omega) (by omega)]; rfl
theorem near_ok {r : List Int} {m : Nat} (h : nearR r m) (hm : m ≤ 6) {x : Int} (hx : x ∈ r) : isR x = true := isR_t.2 (by have := h x hx; omega)
theorem afterG_go {r : List Int} {i j m : Nat} {h f x y : Int} (hn : nearR r m) (hm : m ≤ 5) (ho : ratOk r = true) (hx : r[i]? = some x) (hy : r[j]? = some y) (hij : i ≠ j) (h0 : 0 ≤ h) (h2 : h ≤ 2) (f1 : 1 ≤ f) (f2 : f ≤ 40) :
    afterG r [(i : Int), (j : Int), h] f = (r.set i (x + chg x y h f)).set j (y - chg x y h f) ∧ nearR ((r.set i (x + chg x y h f)).set j (y - chg x y h f)) (m + 1) := by
  have hi := (List.getElem?_eq_some_iff.1 hx).1
  have hj := (List.getElem?_eq_some_iff.1 hy).1
  have hxm := hn x (List.mem_of_getElem? hx)
  have hym := hn y (List.mem_of_getElem? hy)
  obtain ⟨c1, c2⟩ := chg_lim (a := x) (b := y) h0 h2 f1
  constructor
  · rw [afterG_at hx hy, ratOk_set ho hi hj hij, if_pos]
    rw [Bool.and_eq_true]
    exact ⟨isR_t.2 (by omega), isR_t.2 (by omega)⟩
  · intro z hz
    rw [Int.natCast_add, Int.natCast_one]
    rcases List.mem_or_eq_of_mem_set hz with hz | rfl
    · rcases List.mem_or_eq_of_mem_set hz with hz | rfl
      · have := hn z hz; omega
      · omega
    · omega
theorem afterG_turn {r : List Int} {i j m : Nat} {h f x y : Int} (hn : nearR r m) (hm : m ≤ 5) (ho : ratOk r = true) (hx : r[i]? = some x) (hy : r[j]? = some y) (hij : i ≠ j) (h0 : 0 ≤ h) (h2 : h ≤ 2) (f1 : 1 ≤ f) (f2 : f ≤ 40) :
    afterG r [(j : Int), (i : Int), 2 - h] f = afterG r [(i : Int), (j : Int), h] f := by
  rw [(afterG_go hn hm ho hx hy hij h0 h2 f1 f2).1, (afterG_go hn hm ho hy hx (Ne.symm hij) (by omega) (by omega) f1 f2).1, chg_flip, List.set_comm _ _ (Ne.symm hij), show x - -chg x y h f = x + chg x y h f by omega, show y + -chg x y h f = y - chg x y h f by omega]
theorem afterGs_near {r : List Int} {gs : List (List Int)} {f : Int} (h : Drawn r gs) (f1 : 1 ≤ f) (f2 : f ≤ 40) : ∀ m, m ≤ gs.length → nearR (afterGs r f (gs.take m)) m := by
  intro m
  induction m with
  | zero => intro _; exact h.near
  | succ m ih =>
    intro hm
    have ih := ih (by omega)
    have hg : gs[m]? = some gs[m] := List.getElem?_eq_getElem (by omega)
    have hgo := h.games gs[m] (List.getElem_mem _)
    rw [← afterGs_len r f (gs.take m)] at hgo
    obtain ⟨i, j, c, x, y, e, hx, hy, hij, h0, h2⟩ := game_at hgo
    rw [take_snoc hg, afterGs_snoc, e]
    have := afterG_go ih (by have := h.m5; omega) (afterGs_ok f _ h.rat) hx hy hij h0 h2 f1 f2
    rw [this.1]
    exact this.2
theorem foes_nil {r : List Int} {gs : List (List Int)} {k : Int} (h : foes r k gs = []) : halves k gs = 0 := by
  induction gs with
  | nil => rfl
  | cons g gs ih =>
    have h2 : foes r k (g :: gs) = foeOf r k g ++ foes r k gs := by simp [foes]
    have h3 : halves k (g :: gs) = halfOf k g + halves k gs := by simp [halves]
    rw [h2, List.append_eq_nil_iff] at h
    rw [h3, ih h.2]
    have h4 : halfOf k g = 0 := by
      have h1 := h.1
      unfold foeOf at h1
      unfold halfOf
      split at h1
      · split at h1
        · cases h1
        · split at h1
          · cases h1
          · rename_i ha hb; simp [ha, hb]
      · rfl
    omega
theorem foes_near {r : List Int} {gs : List (List Int)} {k : Int} (hr : nearR r 0) (hg : ∀ g ∈ gs, gameOk r.length g = true) : nearR (foes r k gs) 0 := by
  induction gs with
  | nil => intro x hx; simp [foes] at hx
  | cons g gs ih =>
    have h2 : foes r k (g :: gs) = foeOf r k g ++ foes r k gs := by simp [foes]
    intro z hz
    rw [h2, List.mem_append] at hz
    rcases hz with hz | hz
    · obtain ⟨i, j, h, x, y, rfl, hx, hy, hij, _, _⟩ := game_at (hg g (List.mem_cons_self ..))
      by_cases h1 : (i : Int) = k
      · rw [(foeOf_one h1 hy).1, List.mem_singleton] at hz
        subst hz; exact hr _ (List.mem_of_getElem? hy)
      · by_cases h3 : (j : Int) = k
        · rw [(foeOf_two h1 h3 hx).1, List.mem_singleton] at hz
          subst hz; exact hr _ (List.mem_of_getElem? hx)
        · rw [(foeOf_no h1 h3).1] at hz; cases hz
    · exact ih (fun g' h' => hg g' (List.mem_cons_of_mem _ h')) z hz
theorem exp_top {xs : List Int} (h : nearR xs 0) : (xs.map (expd 3999)).sum = 950 * (xs.length : Int) := by
  induction xs with
  | nil => rfl
  | cons x xs ih =>
    have h1 := h x (List.mem_cons_self ..)
    have h2 : expd 3999 x = 950 := by unfold expd; split <;> (try split) <;> omega
    have := ih (fun y hy => h y (List.mem_cons_of_mem _ hy))
    simp only [List.map_cons, List.sum_cons, List.length_cons, h2]
    omega
/-- What the loop of FnRatings asks of a performance. -/
structure PerfEnd (r : List Int) (gs : List (List Int)) (k p : Int) : Prop where
  lo : 0 ≤ p
  hi : p ≤ 4000
  at_ : p < 4000 → 500 * halves k gs ≤ ((foes r k gs).map (expd p)).sum
  under : 0 < p → ((foes r k gs).map (expd (p - 1))).sum < 500 * halves k gs
  none : (foes r k gs).length = 0 → p = 0
  top : p = 4000 → 950 * ((foes r k gs).length : Int) < 500 * halves k gs
theorem perf_end {r : List Int} {gs : List (List Int)} (h : Drawn r gs) (k : Int) : PerfEnd r gs k (perfG r gs k) := by
  by_cases he : ∃ x : Nat, x < 4000 ∧ 0 ≤ perfSum r gs k (x : Int) ∧ ∀ y : Nat, y < x → perfSum r gs k (y : Int) < 0
  · obtain ⟨x, h1, h2, h3⟩ := he
    rw [perfG_hit h1 h3 h2]
    rw [perfSum_split] at h2
    refine ⟨by omega, by omega, fun _ => by omega, fun hx => ?_, fun hn => ?_, fun hx => by omega⟩
    · have h4 := h3 (x - 1) (by omega)
      rw [perfSum_split, show ((x - 1 : Nat) : Int) = (x : Int) - 1 by omega] at h4
      omega
    · rcases Nat.eq_zero_or_pos x with rfl | hp
      · rfl
      · have h4 := h3 0 hp
        have hn := List.eq_nil_of_length_eq_zero hn
        rw [perfSum_split, foes_nil hn, hn] at h4
        simp at h4
  · have hall : ∀ y : Nat, y < 4000 → perfSum r gs k (y : Int) < 0 := by
      intro y
      induction y using Nat.strongRecOn with
      | ind y ih =>
        intro hy
        rcases Int.lt_or_le (perfSum r gs k (y : Int)) 0 with h1 | h1
        · exact h1
        · exact absurd ⟨y, hy, h1, fun z hz => ih z hz (by omega)⟩ he
    rw [perfG_none hall]
    have h4 := hall 3999 (by omega)
    rw [perfSum_split, show ((3999 : Nat) : Int) = 3999 from rfl, exp_top (foes_near h.near h.games)] at h4
    refine ⟨by omega, by omega, fun hx => by omega, fun _ => ?_, fun hn => ?_, fun _ => by omega⟩
    · rw [show (4000 : Int) - 1 = 3999 from rfl, exp_top (foes_near h.near h.games)]; omega
    · rw [hn, foes_nil (List.eq_nil_of_length_eq_zero hn)] at h4; omega
theorem foes_len {r : List Int} {gs : List (List Int)} {k : Int} (hg : ∀ g ∈ gs, gameOk r.length g = true) : (foes r k gs).length ≤ gs.length ∧ 0 ≤ halves k gs ∧ halves k gs ≤ 2 * (gs.length : Int) := by
  induction gs with
  | nil => simp [foes, halves]
  | cons g gs ih =>
    have h2 : foes r k (g :: gs) = foeOf r k g ++ foes r k gs := by simp [foes]
    have h3 : halves k (g :: gs) = halfOf k g + halves k gs := by simp [halves]
    obtain ⟨i1, i2, i3⟩ := ih (fun g' h' => hg g' (List.mem_cons_of_mem _ h'))
    obtain ⟨i, j, h, x, y, rfl, hx, hy, hij, h0, h5⟩ := game_at (hg g (List.mem_cons_self ..))
    rw [h2, h3, List.length_append, List.length_cons, Int.natCast_add, Int.natCast_one]
    by_cases h1 : (i : Int) = k
    · rw [(foeOf_one h1 hy).1, (foeOf_one h1 hy).2, List.length_singleton]; omega
    · by_cases h4 : (j : Int) = k
      · rw [(foeOf_two h1 h4 hx).1, (foeOf_two h1 h4 hx).2, List.length_singleton]; omega
      · rw [(foeOf_no (r := r) h1 h4).1, (foeOf_no (r := r) h1 h4).2, List.length_nil]; omega
theorem exp_bd (xs : List Int) (x : Int) : 0 ≤ (xs.map (expd x)).sum ∧ (xs.map (expd x)).sum ≤ 950 * (xs.length : Int) := by
  have h := expSum_bd xs x xs.length (Nat.le_refl _)
  rwa [List.take_length] at h
/-- The sums of the inner loop behind m games. -/
structure PerfAt (r : List Int) (gs : List (List Int)) (k P P' : Int) (m : Nat) (a b c d : Int) : Prop where
  a : a = halves k (gs.take m)
  b : b = ((foes r k (gs.take m)).length : Int)
  c : c = ((foes r k (gs.take m)).map (expd P)).sum
  d : d = ((foes r k (gs.take m)).map (expd P')).sum
theorem PerfAt.bd {r : List Int} {gs : List (List Int)} {k P P' : Int} {m : Nat} {a b c d : Int} (h : PerfAt r gs k P P' m a b c d) (hg : ∀ g ∈ gs, gameOk r.length g = true) (hm : m ≤ 5) :
    0 ≤ a ∧ a ≤ 10 ∧ 0 ≤ b ∧ b ≤ 5 ∧ 0 ≤ c ∧ c ≤ 5000 ∧ 0 ≤ d ∧ d ≤ 5000 := by
  obtain ⟨h1, h2, h3⟩ := foes_len (k := k) (gs := gs.take m) (fun g hgm => hg g (List.mem_of_mem_take hgm))
  have h4 := exp_bd (foes r k (gs.take m)) P
  have h5 := exp_bd (foes r k (gs.take m)) P'
  have h6 : (gs.take m).length ≤ 5 := by rw [List.length_take]; omega
  rw [h.a, h.b, h.c, h.d]
  omega
theorem PerfAt.hit {r : List Int} {gs : List (List Int)} {k P P' : Int} {m : Nat} {a b c d : Int} (h : PerfAt r gs k P P' m a b c d) {g : List Int} (hg : gs[m]? = some g) {y z : Int} (h1 : foeOf r k g = [y]) (h2 : halfOf k g = z) :
    PerfAt r gs k P P' (m + 1) (a + z) (b + 1) (c + expd P y) (d + expd P' y) := by
  have e := foes_snoc (r := r) k hg
  rw [h1] at e
  exact ⟨by rw [halves_snoc k hg, h2, h.a], by rw [e, List.length_append, h.b]; rfl, by rw [e, List.map_append, List.sum_append, h.c]; simp, by rw [e, List.map_append, List.sum_append, h.d]; simp⟩
theorem PerfAt.miss {r : List Int} {gs : List (List Int)} {k P P' : Int} {m : Nat} {a b c d : Int} (h : PerfAt r gs k P P' m a b c d) {g : List Int} (hg : gs[m]? = some g) (h1 : foeOf r k g = []) (h2 : halfOf k g = 0) :
    PerfAt r gs k P P' (m + 1) a b c d := by
  have e := foes_snoc (r := r) k hg
  rw [h1, List.append_nil] at e
  exact ⟨by rw [halves_snoc k hg, h2, h.a]; omega, by rw [e, h.b], by rw [e, h.c], by rw [e, h.d]⟩
end Go.Proofs.Ytihoflfokiijdaa
