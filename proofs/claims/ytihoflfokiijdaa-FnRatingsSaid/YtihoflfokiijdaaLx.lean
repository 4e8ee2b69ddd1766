/- A great region that draws: its lexical order is allowed, shown pair by pair (a list's walk in place of an array's). -/
import Derived.Test.YtihoflfokiijdaaBase
import Derived.Deep.Quiet
namespace Go.Proofs.Ytihoflfokiijdaa
open Go.ChangeShapes Go.WideShapes Go.ChangeAt Go.RowKit

def apartL (x : Oper) (lx : List Tmp) (y : Oper) (ly : List Tmp) : Bool :=
  (match x.dst with
   | some d => !ly.contains d && y.dst != some d
   | none => true) &&
  (match y.dst with
   | some d => !lx.contains d
   | none => true)
def pairsB : Nat → List (Oper × List Tmp) → Bool
  | _, [] => true
  | i, p :: rest => p.1.after.toList.all (fun e => !Region.binds .any e || decide (e.on < i)) && (rest.all (fun q => q.1.after.toList.any (fun e => Region.binds .any e && e.on == i) || apartL p.1 p.2 q.1 q.2) && pairsB (i + 1) rest)
theorem pairs_spec : ∀ (l : List (Oper × List Tmp)) (n : Nat), pairsB n l = true →
    (∀ (i : Nat) (p : Oper × List Tmp), l[i]? = some p → ∀ e ∈ p.1.after, Region.binds .any e = true → e.on < n + i) ∧
    (∀ (i j : Nat) (p q : Oper × List Tmp), i < j → l[i]? = some p → l[j]? = some q → (q.1.after.any (fun e => Region.binds .any e && e.on == n + i) || apartL p.1 p.2 q.1 q.2) = true)
  | [], _, _ => ⟨fun i p h => by simp at h, fun i j p q _ h => by simp at h⟩
  | a :: l, n, h => by
    simp only [pairsB, Bool.and_eq_true] at h
    obtain ⟨h1, h2, h3⟩ := h
    obtain ⟨i1, i2⟩ := pairs_spec l (n + 1) h3
    constructor
    · intro i p hp e he hb
      cases i with
      | zero =>
        simp only [List.getElem?_cons_zero, Option.some.injEq] at hp
        subst hp
        have := List.all_eq_true.1 h1 e (by simpa using he)
        rw [hb] at this
        simpa using this
      | succ i =>
        simp only [List.getElem?_cons_succ] at hp
        have := i1 i p hp e he hb
        omega
    · intro i j p q hij hp hq
      cases i with
      | zero =>
        simp only [List.getElem?_cons_zero, Option.some.injEq] at hp
        subst hp
        cases j with
        | zero => omega
        | succ j =>
          simp only [List.getElem?_cons_succ] at hq
          have := List.all_eq_true.1 h2 q (List.mem_of_getElem? hq)
          simpa using this
      | succ i =>
        cases j with
        | zero => omega
        | succ j =>
          simp only [List.getElem?_cons_succ] at hp hq
          have := i2 i j p q (by omega) hp hq
          rw [show n + (i + 1) = n + 1 + i by omega]
          exact this
theorem apartL_eq (ops : Array Oper) (x y : Oper) : apartL x (x.looksAt ops) y (y.looksAt ops) = x.apart ops y := rfl
theorem lexB_pairs (l : List Oper) (h0 : l.all (fun o => match o.op with | .select .. => false | _ => true) = true) (h : pairsB 0 (l.map fun o => (o, o.looksAt l.toArray)) = true) : Region.lexB .any l.toArray = true := by
  obtain ⟨h1, h2⟩ := pairs_spec _ 0 h
  have p1 : ∀ (i : Nat) (o : Oper), l[i]? = some o → ∀ e ∈ o.after, Region.binds .any e = true → e.on < i := by
    intro i o ho e he hb
    have := h1 i (o, o.looksAt l.toArray) (by simp [ho]) e he hb
    omega
  have p2 : ∀ (i j : Nat) (o q : Oper), i < j → l[i]? = some o → l[j]? = some q → (q.after.any (fun e => Region.binds .any e && e.on == i) || o.apart l.toArray q) = true := by
    intro i j o q hij ho hq
    have := h2 i j (o, o.looksAt l.toArray) (q, q.looksAt l.toArray) hij (by simp [ho]) (by simp [hq])
    rw [Nat.zero_add] at this
    exact this
  clear h h1 h2
  have key : ∀ (fuel k : Nat) (listed : Array Bool), k + fuel = l.length → listed.size = l.length → (∀ j, j < l.length → listed[j]? = some (decide (j < k))) → Region.lexFrom .any l.toArray fuel k listed = true := by
    intro fuel
    induction fuel with
    | zero =>
      intro k listed hk hs hl
      rw [Region.lexFrom, List.isEmpty_iff, Region.ready, List.filter_eq_nil_iff]
      intro i hi
      have hi' : i < l.length := by simpa using hi
      have := hl i hi'
      simp [Array.getD_eq_getD_getElem?, this, show i < k by omega]
    | succ fuel ih =>
      intro k listed hk hs hl
      have hkl : k < l.length := by omega
      have hk0 : l[k]? = some l[k] := List.getElem?_eq_getElem hkl
      rw [Region.lexFrom, Bool.and_eq_true, Bool.and_eq_true]
      refine ⟨⟨?_, ?_⟩, ?_⟩
      · rw [Region.ready, List.contains_iff_mem, List.mem_filter]
        refine ⟨by simpa using hkl, ?_⟩
        have h3 := hl k hkl
        have ha : (l[k].after.all fun e => !Region.binds .any e || listed.getD e.on false) = true := by
          rw [Array.all_eq_true_iff_forall_mem]
          intro e he
          cases hb : Region.binds .any e
          · rfl
          · have h4 := p1 k l[k] hk0 e he hb
            have h5 := hl e.on (by omega)
            simp [Array.getD_eq_getD_getElem?, h5, h4]
        have h6 : (!listed.getD k true) = true := by simp [Array.getD_eq_getD_getElem?, h3]
        rw [h6, Bool.true_and, List.getElem?_toArray, hk0]
        exact ha
      · rw [Region.free]
        simp only [List.getElem?_toArray, hk0, List.all_eq_true, List.mem_range]
        intro j hj
        have hj0 : l[j]? = some l[j] := List.getElem?_eq_getElem hj
        rw [hj0]
        rcases Nat.lt_trichotomy j k with h4 | h4 | h4
        · have h5 := hl j hj
          simp [Array.getD_eq_getD_getElem?, h5, h4]
        · simp [h4]
        · have := p2 k j l[k] l[j] h4 hk0 hj0
          show (j == k || listed.getD j true || ((l[j].after.any fun e => Region.binds .any e && e.on == k) || Oper.apart l.toArray l[k] l[j])) = true
          rw [this, Bool.or_true]
      · refine ih (k + 1) _ (by omega) (by simpa using hs) fun j hj => ?_
        by_cases hjk : j = k
        · subst hjk
          rw [Array.getElem?_setIfInBounds_self_of_lt (by omega)]
          simp
        · rw [Array.getElem?_setIfInBounds_ne (fun e => hjk e.symm), hl j hj]
          congr 1
          simp only [decide_eq_decide]; omega
  rw [Region.lexB, Bool.and_eq_true]
  refine ⟨?_, ?_⟩
  · rw [Region.noSelect, Array.all_eq_true_iff_forall_mem]
    intro o ho
    exact List.all_eq_true.1 h0 o (by simpa using ho)
  · have := key l.length 0 (Array.replicate l.length false) (by omega) (by simp) (fun j hj => by simp [hj])
    simpa using this
end Go.Proofs.Ytihoflfokiijdaa
