/- A region that draws: its reads come first where all else waits for them; what is left goes in whatever order. -/
import Derived.Test.YthlkhmbndaecfaaBase
import Derived.StillTail
namespace Go.Proofs.Ythlkhmbndaecfaa
open Go

section
variable {P : Program} {ops : Array Oper} {w : World}
/-- Each operation behind the one with number n waits for one of those from n on. -/
def restWaitsB (ops : Array Oper) (n : Nat) : Bool :=
  (List.range ops.size).all fun t => decide (t ≤ n) || (List.range t).any fun j => decide (n ≤ j) && Region.waitsFor .any ops t j
/-- The first n operations, each in its turn, may come up and are apart from all that may come up beside it. -/
def turnsB (ops : Array Oper) (n : Nat) (goal : Array Bool) : Nat → Nat → Array Bool → Bool
  | 0, _, listed => (listed == goal) && (Region.ready .any ops goal).all fun j => decide (n ≤ j)
  | f + 1, k, listed => (Region.ready .any ops listed).contains k && (Region.free .any ops listed k && turnsB ops n goal f (k + 1) (listed.setIfInBounds k true))
def afterB (ops : Array Oper) (n : Nat) (goal : Array Bool) : Bool :=
  Region.noSelect ops && (decide (n < ops.size) && (Region.sinkB .any ops n && (restWaitsB ops n && turnsB ops n goal n 0 (Array.replicate ops.size false))))
theorem not_ready_of {listed : Array Bool} {t j : Nat} (h : Region.waitsFor .any ops t j = true) (hj : listed.getD j true = false) : t ∉ Region.ready .any ops listed := by
  intro hr
  obtain ⟨_, ot, hot, hall⟩ := mem_ready.1 hr
  obtain ⟨o', ho', e, he, hb, hon⟩ := Region.waitsFor_spec h
  obtain rfl : o' = ot := by rw [hot] at ho'; injection ho' with ho'; exact ho'.symm
  have h2 := hall e he hb
  rw [hon, getD_both hj] at h2
  cases h2
/-- As long as one of the first n stands out, none from n on may come up. -/
theorem rest_waits {n : Nat} (hs : Region.sinkB .any ops n = true) (hc : restWaitsB ops n = true) (hn : n < ops.size) {listed : Array Bool} (inv : HeadInv .any ops n listed)
    {i : Nat} (hi : i < n) (hun : listed.getD i true = false) {t : Nat} (ht : n ≤ t) : t ∉ Region.ready .any ops listed := by
  rcases Nat.lt_or_ge t ops.size with htl | htl
  · rcases Nat.eq_or_lt_of_le ht with rfl | htn
    · -- the one with number n: by what waits for i
      have key : ∀ d i, n - i ≤ d → i < n → listed.getD i true = false → n ∉ Region.ready .any ops listed := by
        intro d
        induction d with
        | zero => intro i h1 h2; omega
        | succ d ih =>
          intro i h1 h2 h3
          obtain ⟨j, hj, hw⟩ := List.any_eq_true.1 (List.all_eq_true.1 hs i (List.mem_range.2 h2))
          rw [Bool.and_eq_true, decide_eq_true_eq] at hw
          have hjn := List.mem_range.1 hj
          rcases Nat.eq_or_lt_of_le (Nat.le_of_lt_succ hjn) with rfl | hlt
          · exact not_ready_of hw.2 h3
          · refine ih j (by omega) hlt ?_
            cases hl : listed.getD j false with
            | false => exact getD_in (by rw [inv.size]; omega) hl
            | true =>
              obtain ⟨oj, hoj, e, he, hb, hon⟩ := Region.waitsFor_spec hw.2
              have h4 := inv.closed j oj hoj hl e he hb
              rw [hon, getD_both h3] at h4
              cases h4
      exact key _ i (Nat.le_refl _) hi hun
    · have h1 := List.all_eq_true.1 hc t (List.mem_range.2 htl)
      rw [Bool.or_eq_true, decide_eq_true_eq] at h1
      rcases h1 with h1 | h1
      · omega
      · obtain ⟨j, hj, hw⟩ := List.any_eq_true.1 h1
        rw [Bool.and_eq_true, decide_eq_true_eq] at hw
        have := List.mem_range.1 hj
        exact not_ready_of hw.2 (inv.tail j hw.1 (by omega))
  · intro hr
    obtain ⟨_, ot, hot, _⟩ := mem_ready.1 hr
    have := (Array.getElem?_eq_some_iff.1 hot).1
    omega
/-- One of the first n is taken first. -/
theorem first_of {n : Nat} {L : Array Bool → Act → Prop} (hsel : Region.noSelect ops = true) (hs : Region.sinkB .any ops n = true) (hc : restWaitsB ops n = true) (hn : n < ops.size)
    (hL : ∀ listed a, L listed a → ∀ j ∈ Region.ready .any ops listed, n ≤ j) {i : Nat} {oi : Oper} {v : Value} (hi : ops[i]? = some oi) (hin : i < n) (f : Nat) :
    ∀ (listed : Array Bool) (a : Act), HeadInv .any ops n listed →
      (∀ j oj, ops[j]? = some oj → j ≠ i → listed.getD j true = false → (∀ e ∈ oj.after, Region.binds .any e = true → e.on ≠ i) → oi.apart ops oj = true) →
      i ∈ Region.ready .any ops listed → YieldsAt P ops w oi v a → wpAnyL P .any ops w n L f (listed.setIfInBounds i true) (a.put oi.dst v) → wpAnyL P .any ops w n L (f + 1) listed a := by
  induction f with
  | zero =>
    intro listed a inv _ hr hy H
    refine ⟨List.ne_nil_of_mem hr, fun j hj => ?_⟩
    have hun := (mem_ready.1 hr).1
    have hjn : j < n := Nat.lt_of_not_le fun h => rest_waits hs hc hn inv hin hun h hj
    rcases Decidable.em (j = i) with rfl | hne
    · exact ⟨hjn, hy.stOp hi H⟩
    · have := hL _ _ H j (ready_mono hj hne)
      omega
  | succ f ih =>
    intro listed a inv hap hr hy H
    refine ⟨List.ne_nil_of_mem hr, fun j hj => ?_⟩
    have hun := (mem_ready.1 hr).1
    have hjn : j < n := Nat.lt_of_not_le fun h => rest_waits hs hc hn inv hin hun h hj
    rcases Decidable.em (j = i) with rfl | hne
    · exact ⟨hjn, hy.stOp hi H⟩
    · obtain ⟨hjun, oj, hoj, hall⟩ := mem_ready.1 hj
      have hno : ∀ e ∈ oj.after, Region.binds .any e = true → e.on ≠ i := by
        intro e he hb h
        have h1 := hall e he hb
        rw [h, getD_both hun] at h1
        cases h1
      have h2 := stOp_put hoj (hap j oj hoj hne hjun hno) (fun cs b => Region.noSelect_spec hsel i oi cs b hi) (fun cs b => Region.noSelect_spec hsel j oj cs b hoj) hy (H.2 j (ready_mono hj hne)).2
      refine ⟨hjn, stOp_mono (fun a' h3 => ih _ a' (inv.set hj hjn) ?_ (ready_mono hr (Ne.symm hne)) h3.1 ?_) h2⟩
      · intro k ok hk hki hkun hkno
        refine hap k ok hk hki ?_ hkno
        rcases Decidable.em (j = k) with rfl | hjk
        · exact hjun
        · rwa [getD_set_ne true hjk] at hkun
      · rw [Array.setIfInBounds_comm _ _ hne]
        exact h3.2
theorem turns_of {n : Nat} {goal : Array Bool} {Lq : Act → Prop} (hsel : Region.noSelect ops = true) (hs : Region.sinkB .any ops n = true) (hc : restWaitsB ops n = true) (hn : n < ops.size) :
    ∀ (l : List Oper) (k : Nat) (listed : Array Bool) (a : Act), (∀ j, j < l.length → l[j]? = ops[k + j]?) → k + l.length = n → HeadInv .any ops n listed → turnsB ops n goal l.length k listed = true → wpStill P ops w Lq l a →
      wpAnyL P .any ops w n (fun listed' a' => (listed' = goal ∧ (Region.ready .any ops goal).all (fun j => decide (n ≤ j)) = true) ∧ Lq a') l.length listed a
  | [], k, listed, a, _, _, _, hB, h => by
    simp only [List.length_nil, turnsB, Bool.and_eq_true] at hB
    exact ⟨⟨eq_of_beq hB.1, hB.2⟩, h⟩
  | o :: l, k, listed, a, hl, hk, inv, hB, h => by
    have h0 : ops[k]? = some o := (hl 0 (by simp)).symm
    simp only [List.length_cons] at hk
    simp only [List.length_cons, turnsB, Bool.and_eq_true] at hB
    obtain ⟨hr, hf, hB⟩ := hB
    have hr : k ∈ Region.ready .any ops listed := by simpa using hr
    have hst : stOp P ops w k (wpStill P ops w Lq l) a := by unfold stOp; simp only [h0]; exact h
    obtain ⟨v, hy, hK⟩ := yieldsAt_of_stOp h0 hst
    refine first_of hsel hs hc hn (fun listed' a' hL j hj => ?_) h0 (by omega) l.length listed a inv (Region.free_spec h0 hf) hr hy (turns_of hsel hs hc hn l (k + 1) _ _ (fun j hj => ?_) (by omega) (inv.set hr (by omega)) hB hK)
    · obtain ⟨⟨rfl, h1⟩, _⟩ := hL
      simpa using List.all_eq_true.1 h1 j hj
    · have h1 := hl (j + 1) (by simp; omega)
      rw [List.getElem?_cons_succ] at h1
      rw [h1]; congr 1; omega
/-- The reads ahead are walked in their turn; the rest is left in whatever order. -/
theorem region_after {id : Nat} {Q : Exit → Act → World → Prop} {a : Act} {w : World} {l : List Oper} (n : Nat) (goal : Array Bool) (hm : P.follows .mixedOrders = true) (hB : afterB l.toArray n goal = true)
    (h : wpStill P l.toArray w.drew (fun a' => wpAny P .any l.toArray Q (l.length - n) goal a' w.drew) (l.take n) a) : (Code.region id l.toArray true).wp P Q a w := by
  simp only [afterB, Bool.and_eq_true, decide_eq_true_eq] at hB
  obtain ⟨hsel, hn, hs, hc, ht⟩ := hB
  have hn' : n < l.length := by simpa using hn
  have hlen : (l.take n).length = n := by rw [List.length_take]; omega
  have inv : HeadInv .any l.toArray n (Array.replicate l.toArray.size false) :=
    ⟨by simp, fun j oj _ h1 => (by rw [getD_replicate_false] at h1; cases h1), fun t _ h1 => getD_in (by simpa using h1) (getD_replicate_false _ _)⟩
  have H := turns_of hsel hs hc hn (l.take n) 0 _ a (fun j hj => by rw [hlen] at hj; simp [hj]) (by omega) inv (by rw [hlen]; exact ht) h
  refine wp_region_any hm ?_
  have h1 := wpAny_of_head (Q' := Q) (g := l.length - n) (fun listed a' hL => by obtain ⟨⟨rfl, _⟩, hq⟩ := hL; exact hq) _ _ _ H
  have e : (l.take n).length + (l.length - n) = l.toArray.size := by rw [hlen]; simp; omega
  rw [e] at h1
  exact h1
end
end Go.Proofs.Ythlkhmbndaecfaa
