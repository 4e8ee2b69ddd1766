/- Corrected leagues: plain facts on tables, leaders, places and points. -/
import Derived.Test.YthlkhmbndaecfaaOf
import Derived.Test.YthlkhmbndaecfaaLc
import Derived.Test.YthlkhmbndaecfaaMv
namespace Go.Proofs.Ythlkhmbndaecfaa
open Go.ChangeShapes Go.WideShapes Go.ChangeAt Go.RowKit

theorem snoc_ind {α : Type} {P : List α → Prop} (h0 : P []) (h1 : ∀ l x, P l → P (l ++ [x])) : ∀ l, P l := by
  intro l
  rw [← List.reverse_reverse l]
  induction l.reverse with
  | nil => exact h0
  | cons x t ih => rw [List.reverse_cons]; exact h1 _ _ ih
/-- No later element has a greater key. -/
def DescK (key : Int → Int) (l : List Int) : Prop := l.Pairwise (fun a b => ¬ key a < key b)
theorem posR_all {key : Int → Int} {l : List Int} {x : Int} (h : ∀ y ∈ l, ¬ key y < key x) : posR key l x l.length = l.length := by
  cases hl : l.length with
  | zero => rfl
  | succ k =>
    have hk : k < l.length := by omega
    exact posR_stop (List.getElem?_eq_getElem hk) (h _ (List.getElem_mem hk))
theorem insF_desc {key : Int → Int} {l : List Int} (h : DescK key l) : insF key l = l := by
  revert h
  refine snoc_ind (P := fun l => DescK key l → insF key l = l) (fun _ => rfl) (fun l x ih h => ?_) l
  have h' := List.pairwise_append.1 h
  rw [insF_snoc, ih h'.1, insR, posR_all (fun y hy => h'.2.2 y hy x (List.mem_singleton.2 rfl))]
  simp
theorem posR_spec (key : Int → Int) (l : List Int) (x : Int) : ∀ k, k ≤ l.length → (∀ i y, posR key l x k ≤ i → i < k → l[i]? = some y → key y < key x) ∧ (0 < posR key l x k → ∃ y, l[posR key l x k - 1]? = some y ∧ ¬ key y < key x)
  | 0, _ => ⟨fun i y _ h => by omega, fun h => by simp [posR] at h⟩
  | k + 1, hk => by
    have hk' : k < l.length := by omega
    have e : l[k]? = some l[k] := List.getElem?_eq_getElem hk'
    obtain ⟨h1, h2⟩ := posR_spec key l x k (by omega)
    by_cases h : key l[k] < key x
    · rw [posR_go e h]
      refine ⟨fun i y hi hik hy => ?_, h2⟩
      rcases Nat.lt_or_ge i k with h3 | h3
      · exact h1 i y hi h3 hy
      · obtain rfl : i = k := by omega
        rw [e] at hy; injection hy with hy; subst hy; exact h
    · rw [posR_stop e h]
      exact ⟨fun i y hi hik hy => by omega, fun _ => ⟨l[k], e, h⟩⟩
theorem insR_desc {key : Int → Int} {l : List Int} (x : Int) (h : DescK key l) : DescK key (insR key l x) := by
  obtain ⟨h1, h2⟩ := posR_spec key l x l.length (Nat.le_refl _)
  have hp := posR_le key l x l.length
  unfold insR
  generalize posR key l x l.length = p at *
  have hl : ∀ y ∈ l.take p, ¬ key y < key x := by
    intro y hy
    have hp0 : 0 < p := by
      rcases Nat.eq_zero_or_pos p with e | e
      · subst e; simp at hy
      · exact e
    obtain ⟨z, hz, hzx⟩ := h2 hp0
    obtain ⟨i, hi⟩ := List.mem_iff_getElem?.1 hy
    rw [List.getElem?_take] at hi
    split at hi
    · rename_i hip
      obtain ⟨hz1, hz2⟩ := List.getElem?_eq_some_iff.1 hz
      obtain ⟨hi1, hi2⟩ := List.getElem?_eq_some_iff.1 hi
      rcases Nat.lt_or_ge i (p - 1) with h3 | h3
      · have := List.pairwise_iff_getElem.1 h i (p - 1) hi1 hz1 h3
        rw [hi2, hz2] at this
        omega
      · obtain rfl : i = p - 1 := by omega
        rw [hz] at hi; injection hi with hi; subst hi; exact hzx
    · cases hi
  have hr : ∀ y ∈ l.drop p, key y < key x := by
    intro y hy
    obtain ⟨i, hi⟩ := List.mem_iff_getElem?.1 hy
    rw [List.getElem?_drop] at hi
    exact h1 _ y (by omega) (List.getElem?_eq_some_iff.1 hi).1 hi
  have hd := h
  rw [← List.take_append_drop p l] at hd
  obtain ⟨d1, d2, d3⟩ := List.pairwise_append.1 hd
  refine List.pairwise_append.2 ⟨d1, List.pairwise_cons.2 ⟨fun y hy => by have := hr y hy; omega, d2⟩, fun a ha b hb => ?_⟩
  rcases List.mem_cons.1 hb with rfl | hb
  · exact hl a ha
  · exact d3 a ha b hb
theorem insF_isDesc (key : Int → Int) (xs : List Int) : DescK key (insF key xs) := by
  refine snoc_ind (P := fun xs => DescK key (insF key xs)) List.Pairwise.nil (fun l x ih => ?_) xs
  rw [insF_snoc]; exact insR_desc x ih

theorem keyT_off {P : List Int} {n : Nat} {rs : List Res} (hr : rs.all (resB (n : Int)) = true) (hl : rs.length ≤ 60) {a b : Int} (h : ¬ keyT P rs a < keyT P rs b) : ¬ P.getD a.toNat 0 < P.getD b.toNat 0 := by
  have a1 := made_cap (c := a) hr
  have a2 := lost_cap (c := a) hr
  have b1 := made_cap (c := b) hr
  have b2 := lost_cap (c := b) hr
  unfold keyT at h
  omega
theorem tableF_nodup (n : Nat) (rs : List Res) : (tableF n rs).Nodup := by
  rw [tableF, (insF_perm _ _).nodup_iff]; exact idxs_nodup n
/-- No points are taken off: the table stands. -/
theorem off_zero {n : Nat} {rs : List Res} (hr : rs.all (resB (n : Int)) = true) (hl : rs.length ≤ 60) : insF (keyOff (ptsF n rs) (List.replicate n 0)) (tableF n rs) = tableF n rs := by
  refine insF_desc ?_
  have h := insF_isDesc (keyT (ptsF n rs) rs) (idxs n)
  refine List.Pairwise.imp (fun {a b} hab => ?_) h
  have h1 := keyT_off (P := ptsF n rs) hr hl hab
  have hz : ∀ k : Nat, (List.replicate n (0 : Int)).getD k 0 = 0 := fun k => by
    rw [List.getD_eq_getElem?_getD, List.getElem?_replicate]; split <;> rfl
  unfold keyOff
  rw [hz, hz]
  omega
theorem table_none : ∀ n : Fin 9, tableF n.val [] = idxs n.val := by decide +kernel
theorem mvS_self (T : List Int) : ∀ k, mvS T T k = 0
  | 0 => rfl
  | k + 1 => by rw [mvS_stay rfl, mvS_self T k]
theorem plc_first {T : List Int} {k : Nat} {a : Int} (hn : T.Nodup) (h : T[k]? = some a) : plc T a = k := by
  obtain ⟨hk, e⟩ := List.getElem?_eq_some_iff.1 h
  have h1 : T.findIdx? (fun y => a == y) = some k := by
    rw [List.findIdx?_eq_some_iff_getElem]
    refine ⟨hk, by simp [e], fun j hj => ?_⟩
    have hne := List.pairwise_iff_getElem.1 hn j k (by omega) hk hj
    rw [e] at hne
    simp only [Bool.not_eq_true, beq_eq_false_iff_ne, ne_eq]
    exact fun x => hne x.symm
  unfold plc idxF
  rw [h1]
theorem plc_in {T : List Int} {a : Int} (hn : T.Nodup) (h : a ∈ T) : ∃ k : Nat, plc T a = k ∧ T[k]? = some a := by
  obtain ⟨k, hk⟩ := List.mem_iff_getElem?.1 h
  exact ⟨k, plc_first hn hk, hk⟩
/-- A club's place in a table: 1 to n; it is the first just where the club leads. -/
theorem place_facts {n : Nat} (rs : List Res) {a : Nat} (ha : a < n) : ∃ k : Nat, k < n ∧ plc (tableF n rs) (a : Int) = k ∧ (tableF n rs)[k]? = some (a : Int) ∧ (decide ((k : Int) + 1 = 1) = decide ((tableF n rs).getD 0 0 = (a : Int))) := by
  obtain ⟨k, hk, hg⟩ := plc_in (tableF_nodup n rs) (tableF_mem.2 (show 0 ≤ (a : Int) ∧ (a : Int) < n by omega))
  have hkn := (List.getElem?_eq_some_iff.1 hg).1
  rw [tableF_length] at hkn
  refine ⟨k, hkn, hk, hg, ?_⟩
  obtain ⟨z, hz⟩ : ∃ z, (tableF n rs)[0]? = some z := ⟨_, List.getElem?_eq_getElem (by rw [tableF_length]; omega)⟩
  rw [List.getD_eq_getElem?_getD, hz, decide_eq_decide]
  simp only [Option.getD_some]
  constructor
  · intro h
    obtain rfl : k = 0 := by omega
    rw [hz] at hg; exact Option.some.inj hg
  · intro h
    subst h
    have := plc_first (tableF_nodup n rs) hz
    omega
/-- How often a list's neighbours differ. -/
def diffs (L : List Int) : Nat → Nat
  | 0 => 0
  | k + 1 => diffs L k + (if L.getD (k + 1) 0 = L.getD k 0 then 0 else 1)
theorem diffs_le (L : List Int) : ∀ k, diffs L k ≤ k
  | 0 => Nat.le_refl _
  | k + 1 => by have := diffs_le L k; rw [diffs]; split <;> omega
theorem diffs_compact {L : List Int} : ∀ k, k + 1 ≤ L.length → (Lib.compactUpTo L.toArray (k + 1)).length = diffs L k + 1
  | 0, _ => comp_one L
  | k + 1, h => by
    have ih := diffs_compact (L := L) k (by omega)
    have e1 : L[k + 1]? = some L[k + 1] := List.getElem?_eq_getElem (by omega)
    have e0 : L[k + 1 - 1]? = some L[k] := List.getElem?_eq_getElem (by omega)
    rw [diffs, List.getD_eq_getElem?_getD, e1, List.getD_eq_getElem?_getD, show L[k]? = some L[k] from List.getElem?_eq_getElem (by omega)]
    simp only [Option.getD_some]
    by_cases hd : L[k + 1] = L[k]
    · rw [if_pos hd, comp_stay ih (by omega) e1 e0 hd]
    · rw [if_neg hd, comp_go ih (by omega) e1 e0 hd]
theorem changes_diffs {x : LeagueV} (h : leagueB x = true) : changesF x = diffs (leadF x) x.results.length := by
  rw [changesF, if_pos h]
  have h1 := diffs_compact (L := leadF x) x.results.length (by rw [leadF_length]; exact Nat.le_refl _)
  have h2 : Lib.compact (leadF x) = Lib.compactUpTo (leadF x).toArray (x.results.length + 1) := by
    rw [← leadF_length x]; rfl
  rw [h2, h1]; omega

/-- What one result adds to a club's points. -/
def ptC (k : Nat) (r : Res) : Int := (if r.h.toNat = k then ptsOf r.g r.t else 0) + (if r.a.toNat = k then ptsOf r.t r.g else 0)
theorem addAt_get {P : List Int} {i v : Int} {k : Nat} (hi : i.toNat < P.length) : (addAt P i v).getD k 0 = P.getD k 0 + (if i.toNat = k then v else 0) := by
  unfold addAt
  rw [List.getD_eq_getElem?_getD, List.getElem?_set]
  by_cases h : i.toNat = k
  · subst h
    rw [if_pos rfl, if_pos hi, if_pos rfl]
    rfl
  · rw [if_neg h, if_neg h, List.getD_eq_getElem?_getD]; simp
theorem pts_fold {n k : Nat} : ∀ (rs : List Res) (P : List Int), P.length = n → rs.all (resB (n : Int)) = true → (rs.foldl ptsStep P).getD k 0 = P.getD k 0 + (rs.map (ptC k)).sum
  | [], P, _, _ => by simp
  | r :: rs, P, hP, h => by
    rw [List.all_cons, Bool.and_eq_true] at h
    have hr := resB_goals h.1
    rw [List.foldl_cons, pts_fold rs _ (by rw [ptsStep_length]; exact hP) h.2, ptsStep, addAt_get (by rw [addAt_length]; omega), addAt_get (by omega), List.map_cons, List.sum_cons, ptC]
    omega
theorem pts_get {n k : Nat} {rs : List Res} (h : rs.all (resB (n : Int)) = true) : (ptsF n rs).getD k 0 = (rs.map (ptC k)).sum := by
  rw [ptsF, pts_fold rs _ (List.length_replicate) h]
  have : (List.replicate n (0 : Int)).getD k 0 = 0 := by
    rw [List.getD_eq_getElem?_getD, List.getElem?_replicate]; split <;> rfl
  omega
theorem sum_set_erase {f : Res → Int} : ∀ {rs : List Res} {i : Nat} (r : Res), i < rs.length → ((rs.set i r).map f).sum = ((rs.eraseIdx i).map f).sum + f r
  | q :: rs, 0, r, _ => by simp only [List.set_cons_zero, List.eraseIdx_cons_zero, List.map_cons, List.sum_cons]; omega
  | q :: rs, i + 1, r, h => by
    have ih := sum_set_erase (f := f) (rs := rs) (i := i) r (by simpa using h)
    simp only [List.set_cons_succ, List.eraseIdx_cons_succ, List.map_cons, List.sum_cons, ih]
    omega
theorem all_set {p : Res → Bool} {rs : List Res} {i : Nat} {r : Res} (h : rs.all p = true) (hr : p r = true) : (rs.set i r).all p = true :=
  List.all_eq_true.2 fun x hx => by
    rcases List.mem_or_eq_of_mem_set hx with hx | rfl
    · exact List.all_eq_true.1 h x hx
    · exact hr
theorem all_erase {p : Res → Bool} {rs : List Res} {i : Nat} (h : rs.all p = true) : (rs.eraseIdx i).all p = true :=
  List.all_eq_true.2 fun x hx => List.all_eq_true.1 h x (List.mem_of_mem_eraseIdx hx)
/-- A result replaced by a home win, against the league without it. -/
theorem pts_win {n i : Nat} {rs : List Res} {r : Res} {g t : Int} (h : rs.all (resB (n : Int)) = true) (hi : rs[i]? = some r) (hw : t < g) (hb : resB (n : Int) ⟨r.h, r.a, g, t⟩ = true) :
    (ptsF n (rs.set i ⟨r.h, r.a, g, t⟩)).getD r.h.toNat 0 = (ptsF n (rs.eraseIdx i)).getD r.h.toNat 0 + 3 ∧ (ptsF n (rs.set i ⟨r.h, r.a, g, t⟩)).getD r.a.toNat 0 = (ptsF n (rs.eraseIdx i)).getD r.a.toNat 0 := by
  have hl := (List.getElem?_eq_some_iff.1 hi).1
  have hr := resB_goals hb
  simp only at hr
  have hne : r.h.toNat ≠ r.a.toNat := by omega
  rw [pts_get (all_set h hb), pts_get (all_set h hb), pts_get (all_erase h), pts_get (all_erase h), sum_set_erase _ hl, sum_set_erase _ hl]
  have p1 : ptsOf g t = 3 := by unfold ptsOf; rw [if_pos hw]
  have p2 : ptsOf t g = 0 := by unfold ptsOf; rw [if_neg (by omega), if_pos hw]
  constructor
  · rw [ptC, if_pos rfl, if_neg (fun e => hne e.symm), p1]; omega
  · rw [ptC, if_neg hne, if_pos rfl, p2]; omega
end Go.Proofs.Ythlkhmbndaecfaa
