/- Settling a ladder: what it leads to, and the games that an order has back (plain; for FnLadders). -/
import Derived.Test.YtbipjmaeclgldaaDoorSd
import Derived.Test.YtbipjmaeclgldaaDoorClimb
import Derived.Test.YtbipjmaeclgldaaDoorMaq
namespace Go.Proofs.YtbipjmaeclgldaaDoor
open Go.ChangeShapes Go.WideShapes Go.ChangeAt Go.RowKit

theorem nowU_app {l : List Int} {r : Int} {out more : List (List Int)} : ∀ {j : Nat}, j ≤ out.length → nowU l r (out ++ more) j = nowU l r out j
  | 0, _ => rfl
  | j + 1, h => by
    rw [nowU, nowU, nowU_app (by omega)]
    congr 1
    rw [List.getD_eq_getElem?_getD, List.getD_eq_getElem?_getD, List.getElem?_append_left (by omega)]
theorem okU_app {l : List Int} {r : Int} {out more : List (List Int)} {j : Nat} (h : j < out.length) : okU l r (out ++ more) j = okU l r out j := by
  unfold okU
  rw [nowU_app (by omega), List.getD_eq_getElem?_getD, List.getD_eq_getElem?_getD, List.getElem?_append_left h]
theorem chal_two {l : List Int} {k i : Nat} {r b a : Int} (h : ladB l = true) (hr : inB r 1 7 = true) (hb : l[k]? = some b) (ha : l[i]? = some a) (hki : inB ((k : Int) - (i : Int)) 1 r = true) :
    mayB l r b a = true ∧ chOk l r [b, a, 1] = true ∧ chalF l r [b, a, 1] = riseL l k i ∧ chOk l r [b, a, 0] = true ∧ chalF l r [b, a, 0] = l := by
  obtain ⟨_, _, hd⟩ := ladB_t h
  have e1 := plc_at hd hb
  have e2 := plc_at hd ha
  have hm : mayB l r b a = true := by
    unfold mayB
    rw [h, hr, e1, e2, hki]
    simp
  refine ⟨hm, ?_, ?_, ?_, ?_⟩
  · simp [chOk, hm, inB]
  · simp [chalF, chL, hm, inB, e1, e2]
  · simp [chOk, hm, inB]
  · simp [chalF, chL, hm, inB]
structure SetRun (x : TourV) (l0 l : List Int) (k : Nat) (out : List (List Int)) : Prop where
  ok : SetOk x l0 l k out
  now : nowU l0 1 out out.length = l
  all : ∀ j, j < out.length → okU l0 1 out j = true
  cnt : rev x.wins l0 = rev x.wins l + out.length
  way : ∀ j, 1 ≤ j → j < k → bi x.wins (l.getD j 0) (l.getD (j - 1) 0) = false
theorem setRun_go {x : TourV} {l0 l : List Int} {k : Nat} {out : List (List Int)} {a b : Nat} (ht : tourB x = true) (h : SetRun x l0 l k out) (hk : k < l.length) (hb : l[k]? = some (b : Int)) (ha : l[k - 1]? = some (a : Int))
    (ha2 : a < x.wins.length) (hb2 : b < x.wins.length) (hne : a ≠ b) (hbt : bt x.wins b a = true) : SetRun x l0 (swapAt l k) 1 (out ++ [[(b : Int), (a : Int), 1]]) := by
  obtain ⟨hok, _⟩ := set_go ht h.ok hb ha ha2 hb2 hne hbt
  have hk1 := h.ok.k1
  obtain ⟨c1, c2, c3, _⟩ := chal_two (r := 1) (i := k - 1) h.ok.lad (by decide) hb ha (by rw [inB_t]; omega)
  have g : (out ++ [[(b : Int), (a : Int), 1]]).getD out.length [] = [(b : Int), (a : Int), 1] := by
    rw [List.getD_eq_getElem?_getD, List.getElem?_append_right (Nat.le_refl _), Nat.sub_self]; rfl
  refine ⟨hok, ?_, ?_, ?_, fun j h1 h2 => by omega⟩
  · rw [List.length_append, List.length_singleton, nowU, nowU_app (Nat.le_refl _), h.now, g, c3]; rfl
  · intro j hj
    rw [List.length_append, List.length_singleton] at hj
    rcases Nat.lt_or_ge j out.length with h' | h'
    · rw [okU_app h']; exact h.all j h'
    · obtain rfl : j = out.length := by omega
      unfold okU
      rw [nowU_app (Nat.le_refl _), h.now, g]; exact c2
  · have hba : bi x.wins (b : Int) (a : Int) = true := by simpa [bi] using hbt
    have hab : bi x.wins (a : Int) (b : Int) = false := by
      have := tourB_anti ht ha2 hb2 hne
      rw [hbt] at this
      simpa [bi] using this
    obtain ⟨P, R, e1, e2, e3⟩ := swap_split hk1 hb ha
    have hr := rev_swap x.wins P R (a : Int) (b : Int) hba hab
    rw [← e1, ← e3] at hr
    have := h.cnt
    rw [List.length_append, List.length_singleton]; omega
theorem setRun_on {x : TourV} {l0 l : List Int} {k : Nat} {out : List (List Int)} {a b : Nat} (h : SetRun x l0 l k out) (hk : k < l.length) (hb : l[k]? = some (b : Int)) (ha : l[k - 1]? = some (a : Int))
    (hbt : bt x.wins b a = false) : SetRun x l0 l (k + 1) out := by
  refine ⟨(set_on h.ok hk).1, h.now, h.all, h.cnt, fun j h1 h2 => ?_⟩
  rcases Nat.lt_or_ge j k with h' | h'
  · exact h.way j h1 h'
  · obtain rfl : j = k := by omega
    rw [List.getD_eq_getElem?_getD, List.getD_eq_getElem?_getD, hb, ha]
    simpa [bi] using hbt
theorem setRun_end {x : TourV} {l0 : List Int} (ht : tourB x = true) : ∀ (f : Nat) {l : List Int} {k : Nat} {out : List (List Int)}, SetRun x l0 l k out → meas x.wins l k ≤ f →
    ∃ l', SetRun x l0 l' l'.length (settleS x.wins f l k out)
  | 0, l, k, out, h, hm => by
    have h1 := h.ok.k2
    obtain rfl : k = l.length := by unfold meas at hm; omega
    exact ⟨l, h⟩
  | f + 1, l, k, out, h, hm => by
    by_cases hk : k < l.length
    · obtain ⟨a, b, hb, ha, ha2, hb2, hne⟩ := set_at h.ok hk
      cases hbt : bt x.wins b a
      · rw [settleS_on hk hb ha (by simpa [bi] using hbt)]
        exact setRun_end ht f (setRun_on h hk hb ha hbt) (by have := (set_on h.ok hk).2; omega)
      · rw [settleS_go hk hb ha (by simpa [bi] using hbt)]
        exact setRun_end ht f (setRun_go ht h hk hb ha ha2 hb2 hne hbt) (by have := (set_go ht h.ok hb ha ha2 hb2 hne hbt).2; omega)
    · rw [settleS_end (by omega)]
      have h1 := h.ok.k2
      obtain rfl : k = l.length := by omega
      exact ⟨l, h⟩
/-- What settling leads to. -/
structure SetLaw (x : TourV) (l m : List Int) : Prop where
  climb : climbF l 1 (settleF x l) = m
  many : climbI l 1 (settleF x l) = ((settleF x l).length : Int)
  lad : ladB m = true
  len : m.length = l.length
  way : ∀ j, 1 ≤ j → j < m.length → bi x.wins (m.getD j 0) (m.getD (j - 1) 0) = false
  cnt : rev x.wins l = rev x.wins m + (settleF x l).length
theorem settle_law {x : TourV} {l : List Int} (ht : tourB x = true) (hl : ladB l = true) (hs : (l.length : Int) = x.size) (h5 : l.length ≤ 5) : ∃ m, SetLaw x l m := by
  have hlen : l.length = x.wins.length := by have := (tourB_t ht).2.2.1; omega
  have h0 : SetRun x l l 1 [] := ⟨setOk_start hl hlen, rfl, fun j h => by simp at h, by simp, fun j h1 h2 => by omega⟩
  obtain ⟨m, hm⟩ := setRun_end ht (meas x.wins l 1) h0 (Nat.le_refl _)
  have e : settleF x l = settleS x.wins (meas x.wins l 1) l 1 [] := by unfold settleF; rw [if_pos ⟨ht, hl, hs⟩]
  rw [← e] at hm
  have h40 : (settleF x l).length ≤ 40 := by
    have h1 := hm.cnt
    have h2 := rev_le x.wins l
    have : l.length * l.length ≤ 5 * 5 := Nat.mul_le_mul h5 h5
    omega
  have hc : climbOk l 1 (settleF x l) = true := by simp [climbOk, hl, h40, inB]
  have hst : stopAt (okU l 1 (settleF x l)) (settleF x l).length = (settleF x l).length := stopAt_all hm.all
  refine ⟨m, ?_, ?_, hm.ok.lad, by rw [hm.ok.len, hlen], hm.way, hm.cnt⟩
  · unfold climbF; rw [if_pos hc, hst, hm.now]
  · unfold climbI; rw [if_pos hc, hst]

def backP (xs l : List Int) (a b : Nat) : Bool := bt xs a b && decide (plc l (b : Int) < plc l (a : Int))
/-- The pairs a, b with a beating b and a later than b. -/
def backR (xs l : List Int) (n a m : Nat) : List (List Int) := ((List.range m).filter (backP xs l a)).map fun (b : Nat) => [(a : Int), (b : Int)]
def backL (xs l : List Int) (n m : Nat) : List (List Int) := (List.range m).flatMap fun a => backR xs l n a n
theorem plc_cons_self (a : Int) (r : List Int) : plc (a :: r) a = 0 := by simp [plc, idxF, List.findIdx?_cons]
theorem plc_cons_of {a x : Int} {r : List Int} (h : x ≠ a) (hx : x ∈ r) : plc (a :: r) x = plc r x + 1 := by
  have h1 := (plc_mem hx).1
  unfold plc idxF at h1 ⊢
  rw [List.findIdx?_cons]
  have : (x == a) = false := by simpa using h
  rw [this]
  simp only [Bool.false_eq_true, if_false]
  cases hf : r.findIdx? (fun y => x == y) with
  | none => rw [hf] at h1; exact absurd h1 (by decide)
  | some k => simp
def sumC (f : Int → Nat) : List Int → Nat
  | [] => 0
  | x :: l => f x + sumC f l
theorem sumC_perm {f : Int → Nat} {l m : List Int} (h : l.Perm m) : sumC f l = sumC f m := by
  induction h with
  | nil => rfl
  | cons x h ih => rw [sumC, sumC, ih]
  | swap x y l => simp only [sumC]; omega
  | trans _ _ h1 h2 => exact h1.trans h2
theorem sumC_congr {f g : Int → Nat} : ∀ {l : List Int}, (∀ x ∈ l, f x = g x) → sumC f l = sumC g l
  | [], _ => rfl
  | x :: l, h => by rw [sumC, sumC, h x (List.mem_cons_self ..), sumC_congr fun y hy => h y (List.mem_cons_of_mem _ hy)]
theorem sumC_add {f g : Int → Nat} : ∀ {l : List Int}, sumC (fun x => f x + g x) l = sumC f l + sumC g l
  | [] => rfl
  | x :: l => by simp only [sumC]; rw [sumC_add]; omega
theorem sumC_count {p : Int → Bool} : ∀ {l : List Int}, sumC (fun x => if p x = true then 1 else 0) l = l.countP p
  | [] => rfl
  | x :: l => by rw [sumC, sumC_count, List.countP_cons]; omega
def biP (xs l : List Int) (x y : Int) : Bool := bi xs x y && decide (plc l y < plc l x)
theorem rev_sum (xs : List Int) : ∀ {l : List Int}, l.Nodup → sumC (fun x => l.countP (biP xs l x)) l = rev xs l
  | [], _ => rfl
  | a :: r, hd => by
    obtain ⟨hn, hd2⟩ := List.nodup_cons.1 hd
    rw [sumC, rev, ← rev_sum xs hd2, List.countP_eq_zero.2, Nat.zero_add]
    · rw [← List.countP_eq_length_filter, ← sumC_count (p := fun b => bi xs b a), ← sumC_add]
      refine sumC_congr fun x hx => ?_
      have hxa : x ≠ a := by rintro rfl; exact hn hx
      rw [List.countP_cons, Nat.add_comm]
      congr 1
      · have : biP xs (a :: r) x a = bi xs x a := by
          unfold biP
          rw [plc_cons_self, plc_cons_of hxa hx, decide_eq_true (by have := (plc_mem hx).1; omega), Bool.and_true]
        rw [this]
      · refine List.countP_congr fun y hy => ?_
        have hya : y ≠ a := by rintro rfl; exact hn hy
        unfold biP
        rw [plc_cons_of hxa hx, plc_cons_of hya hy]
        simp
    · intro y hy
      unfold biP
      rw [plc_cons_self, Bool.and_eq_true, decide_eq_true_eq]
      rintro ⟨_, h⟩
      have := (plc_mem hy).1
      omega
theorem backL_succ (xs l : List Int) (n m : Nat) : backL xs l n (m + 1) = backL xs l n m ++ backR xs l n m n := by
  unfold backL
  rw [List.range_succ, List.flatMap_append]
  simp
theorem backR_succ (xs l : List Int) (n a m : Nat) : backR xs l n a (m + 1) = backR xs l n a m ++ (if backP xs l a m = true then [[(a : Int), (m : Int)]] else []) := by
  unfold backR
  rw [List.range_succ, List.filter_append, List.map_append]
  congr 1
  rw [List.filter_cons]
  split <;> rfl
theorem backR_len (xs l : List Int) (n a : Nat) : ∀ m, (backR xs l n a m).length = (upto m).countP (biP xs l (a : Int))
  | 0 => rfl
  | m + 1 => by
    rw [backR_succ, List.length_append, backR_len xs l n a m, upto_succ, List.countP_append]
    congr 1
    have : backP xs l a m = biP xs l (a : Int) (m : Int) := by simp [backP, biP, bi]
    rw [this, List.countP_cons]
    cases biP xs l (a : Int) (m : Int) <;> simp
theorem sumC_append {f : Int → Nat} : ∀ {l m : List Int}, sumC f (l ++ m) = sumC f l + sumC f m
  | [], m => by simp [sumC]
  | x :: l, m => by rw [List.cons_append, sumC, sumC, sumC_append]; omega
theorem backL_len (xs l : List Int) (n : Nat) : ∀ m, (backL xs l n m).length = sumC (fun x => (upto n).countP (biP xs l x)) (upto m)
  | 0 => rfl
  | m + 1 => by
    rw [backL_succ, List.length_append, backL_len xs l n m, upto_succ, sumC_append, backR_len]
    simp [sumC]
theorem backL_rev {xs l : List Int} (h : ladB l = true) : (backL xs l l.length l.length).length = rev xs l := by
  have hp := ladB_perm h
  rw [backL_len, ← rev_sum xs (ladB_t h).2.2, ← sumC_perm hp]
  exact sumC_congr fun x _ => hp.symm.countP_eq _
end Go.Proofs.YtbipjmaeclgldaaDoor
