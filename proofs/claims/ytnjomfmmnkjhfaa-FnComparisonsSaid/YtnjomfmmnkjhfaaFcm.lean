/- Comparing orders: plain facts for the law FnComparisons. -/
import Derived.Test.YtnjomfmmnkjhfaaFcd
namespace Go.Proofs.Ytnjomfmmnkjhfaa
open Go.ChangeShapes Go.WideShapes Go.ChangeAt Go.RowKit

/-- How many pairs of a list (the first ahead of the second) S holds of. -/
def prs (S : Int → Int → Bool) : List Int → Nat
  | [] => 0
  | x :: l => l.countP (S x) + prs S l
theorem distU_cons (x : Int) (l b : List Int) : ∀ j, distU (x :: l) b (j + 1) = later b x l + distU l b j
  | 0 => by simp [distU]
  | j + 1 => by rw [distU, distU_cons x l b j, distU]; simp; omega
theorem dist_prs0 (b : List Int) : ∀ a : List Int, dist a b = prs (fun x y => decide (plc b y < plc b x)) a
  | [] => rfl
  | x :: l => by rw [dist, List.length_cons, distU_cons, prs, ← dist_prs0 b l]; rfl
theorem prs_perm {S : Int → Int → Bool} (hs : ∀ x y, S x y = S y x) {l m : List Int} (h : l.Perm m) : prs S l = prs S m := by
  induction h with
  | nil => rfl
  | cons x h ih => rw [prs, prs, ih, h.countP_eq]
  | swap x y l => simp only [prs, List.countP_cons, hs x y]; omega
  | trans _ _ h1 h2 => exact h1.trans h2
theorem prs_congr {S T : Int → Int → Bool} {R : Int → Int → Prop} (h : ∀ x y, R x y → S x y = T x y) : ∀ {l : List Int}, l.Pairwise R → prs S l = prs T l
  | [], _ => rfl
  | x :: l, hp => by
    obtain ⟨h1, h2⟩ := List.pairwise_cons.1 hp
    rw [prs, prs, prs_congr h h2, List.countP_congr (fun y hy => by rw [h x y (h1 y hy)])]
theorem countP_or {p q r : Int → Bool} : ∀ {l : List Int}, (∀ y ∈ l, p y = true → q y = true ∨ r y = true) → l.countP p ≤ l.countP q + l.countP r
  | [], _ => by simp
  | y :: l, h => by
    have ih := countP_or (l := l) (fun z hz => h z (List.mem_cons_of_mem _ hz))
    have h0 := h y (List.mem_cons_self ..)
    simp only [List.countP_cons]
    cases hp : p y
    · simp; omega
    · rcases h0 hp with e | e <;> simp [e] <;> omega
theorem prs_le {S T U : Int → Int → Bool} {R : Int → Int → Prop} (h : ∀ x y, R x y → S x y = true → T x y = true ∨ U x y = true) : ∀ {l : List Int}, l.Pairwise R → prs S l ≤ prs T l + prs U l
  | [], _ => by simp [prs]
  | x :: l, hp => by
    obtain ⟨h1, h2⟩ := List.pairwise_cons.1 hp
    have h3 := prs_le h h2
    have h4 := countP_or (l := l) (fun y hy => h x y (h1 y hy))
    rw [prs, prs, prs]; omega
theorem plc_inj {c : List Int} {x y : Int} (hx : x ∈ c) (hy : y ∈ c) (h : plc c x = plc c y) : x = y := by
  have h1 := (plc_mem hx).2.2
  have h2 := (plc_mem hy).2.2
  rw [h, h2] at h1; injection h1 with h1; exact h1.symm
def Rk (a : List Int) (x y : Int) : Prop := x ≠ y ∧ x ∈ a ∧ y ∈ a ∧ plc a x < plc a y
theorem rk_of {a : List Int} (hd : a.Nodup) : a.Pairwise (Rk a) := by
  rw [List.pairwise_iff_getElem]
  intro i j hi hj hij
  have h1 := plc_at hd (List.getElem?_eq_getElem hi)
  have h2 := plc_at hd (List.getElem?_eq_getElem hj)
  refine ⟨fun e => ?_, List.getElem_mem hi, List.getElem_mem hj, by omega⟩
  rw [e] at h1; omega
/-- Two numbers stand in other order in a than in b. -/
def opp (a b : List Int) (x y : Int) : Bool := decide ((plc a x < plc a y ∧ plc b y < plc b x) ∨ (plc a y < plc a x ∧ plc b x < plc b y))
theorem opp_sym (a b : List Int) (x y : Int) : opp a b x y = opp a b y x := by
  unfold opp; exact decide_eq_decide.2 ⟨fun h => by omega, fun h => by omega⟩
theorem opp_swap (a b : List Int) (x y : Int) : opp a b x y = opp b a x y := by
  unfold opp; exact decide_eq_decide.2 ⟨fun h => by omega, fun h => by omega⟩
theorem dist_opp {a b : List Int} (hd : a.Nodup) : dist a b = prs (opp a b) a := by
  rw [dist_prs0]
  refine prs_congr (R := Rk a) (fun x y h => ?_) (rk_of hd)
  obtain ⟨_, _, _, h⟩ := h
  unfold opp; exact decide_eq_decide.2 ⟨fun h => by omega, fun h => by omega⟩
theorem dist_symm {a b : List Int} (ha : a.Nodup) (hb : b.Nodup) (h : a.Perm b) : dist a b = dist b a := by
  rw [dist_opp ha, dist_opp hb, prs_perm (opp_sym a b) h]
  congr 1
  funext x y; exact opp_swap a b x y
theorem dist_tri {a b c : List Int} (ha : a.Nodup) (hc : c.Nodup) (h : a.Perm c) : dist a b ≤ dist a c + dist c b := by
  rw [dist_opp ha, dist_opp ha, dist_opp hc, ← prs_perm (opp_sym c b) h]
  refine prs_le (R := Rk a) (fun x y hr hs => ?_) (rk_of ha)
  obtain ⟨hne, hx, hy, hlt⟩ := hr
  have hx' := h.mem_iff.1 hx
  have hy' := h.mem_iff.1 hy
  have hc' : plc c x ≠ plc c y := fun e => hne (plc_inj hx' hy' e)
  simp only [opp, decide_eq_true_eq] at hs ⊢
  omega
/-- The places in b of a's numbers, in a's order. -/
def qL (a b : List Int) : List Int := a.map (plc b)
theorem qL_length (a b : List Int) : (qL a b).length = a.length := by simp [qL]
theorem upto_nodup (n : Nat) : (upto n).Nodup := by
  rw [List.nodup_iff_pairwise_ne, List.pairwise_iff_getElem]
  intro i j hi hj hij
  have h1 := upto_get (n := n) (k := i) (by rw [← upto_length n]; exact hi)
  have h2 := upto_get (n := n) (k := j) (by rw [← upto_length n]; exact hj)
  rw [List.getElem?_eq_getElem hi] at h1
  rw [List.getElem?_eq_getElem hj] at h2
  injection h1 with h1; injection h2 with h2
  rw [h1, h2]; omega
theorem plc_upto {n : Nat} {z : Int} (h0 : 0 ≤ z) (h1 : z < n) : plc (upto n) z = z := by
  obtain ⟨k, rfl⟩ : ∃ k : Nat, z = k := ⟨z.toNat, by omega⟩
  rw [plc_at (upto_nodup n) (upto_get (by omega))]
theorem dist_map {b : List Int} {n : Nat} (hn : b.length = n) : ∀ {a : List Int}, (∀ x ∈ a, x ∈ b) → dist a b = dist (qL a b) (upto n)
  | [], _ => rfl
  | x :: l, h => by
    have ih := dist_map hn (a := l) (fun y hy => h y (List.mem_cons_of_mem _ hy))
    rw [dist_prs0, dist_prs0] at ih ⊢
    show prs _ (x :: l) = prs _ (plc b x :: qL l b)
    rw [prs, prs, ih]
    congr 1
    have hx := plc_mem (h x (List.mem_cons_self ..))
    unfold qL
    rw [List.countP_map]
    refine List.countP_congr fun y hy => ?_
    have hy' := plc_mem (h y (List.mem_cons_of_mem _ hy))
    simp only [Function.comp_apply]
    rw [plc_upto hy'.1 (by omega), plc_upto hx.1 (by omega)]
theorem getD_q {a b : List Int} {k : Nat} (h : k < a.length) : (qL a b).getD k 0 = plc b (a.getD k 0) := by
  simp [qL, List.getD_eq_getElem?_getD, h]
theorem stepC_q {a b best : List Int} {n : Nat} (hn : b.length = n) (hm : ∀ x ∈ a, x ∈ b) (x : Int) (hx : x ∈ b) : ∀ k, k ≤ a.length → stepC b a best x k = stepC (upto n) (qL a b) best (plc b x) k
  | 0, _ => rfl
  | k + 1, hk => by
    have hx' := plc_mem hx
    have hk' : a.getD k 0 ∈ a := by
      rw [List.getD_eq_getElem?_getD, List.getElem?_eq_getElem (show k < a.length by omega)]; exact List.getElem_mem _
    have hy' := plc_mem (hm _ hk')
    rw [stepC, stepC, stepC_q hn hm x hx k (by omega), getD_q (by omega), plc_upto hy'.1 (by omega), plc_upto hx'.1 (by omega)]
theorem bestU_q {a b : List Int} {n : Nat} (hn : b.length = n) (hm : ∀ x ∈ a, x ∈ b) : ∀ j, j ≤ a.length → bestU a b j = bestU (qL a b) (upto n) j
  | 0, _ => rfl
  | j + 1, hj => by
    have hk' : a.getD j 0 ∈ a := by
      rw [List.getD_eq_getElem?_getD, List.getElem?_eq_getElem (show j < a.length by omega)]; exact List.getElem_mem _
    rw [bestU, bestU, bestU_q hn hm j (by omega), stepC_q hn hm _ (hm _ hk') j (by omega), getD_q (by omega)]
theorem mostU_q {a b : List Int} {n : Nat} (hn : b.length = n) (hm : ∀ x ∈ a, x ∈ b) : ∀ j, j ≤ a.length → mostU a b j = mostU (qL a b) (upto n) j
  | 0, _ => rfl
  | j + 1, hj => by
    have hk' : a.getD j 0 ∈ a := by
      rw [List.getD_eq_getElem?_getD, List.getElem?_eq_getElem (show j < a.length by omega)]; exact List.getElem_mem _
    rw [mostU, mostU, mostU_q hn hm j (by omega), valC, valC, bestU_q hn hm j (by omega), stepC_q hn hm _ (hm _ hk') j (by omega), getD_q (by omega)]
end Go.Proofs.Ytnjomfmmnkjhfaa
