/- Tables of leagues: plain law. -/
import Derived.Test.YthlkhmbndaecfaaSt
import Derived.Test.YthlkhmbndaecfaaLo
import Derived.Test.YthlkhmbndaecfaaIx
namespace Go.Proofs.Ythlkhmbndaecfaa
open Go.ChangeShapes Go.WideShapes Go.ChangeAt Go.RowKit

def ptsOf (g t : Int) : Int := if t < g then 3 else if g < t then 0 else 1
def addAt (P : List Int) (i v : Int) : List Int := P.set i.toNat (P.getD i.toNat 0 + v)
def ptsStep (P : List Int) (r : Res) : List Int := addAt (addAt P r.h (ptsOf r.g r.t)) r.a (ptsOf r.t r.g)
def ptsF (c : Nat) (rs : List Res) : List Int := rs.foldl ptsStep (List.replicate c 0)
theorem ptsOf_le (g t : Int) : 0 ≤ ptsOf g t ∧ ptsOf g t ≤ 3 := by
  unfold ptsOf; split
  · omega
  · split <;> omega
theorem addAt_length (P : List Int) (i v : Int) : (addAt P i v).length = P.length := by simp [addAt]
theorem ptsStep_length (P : List Int) (r : Res) : (ptsStep P r).length = P.length := by simp [ptsStep, addAt_length]
theorem ptsF_take {c : Nat} {rs : List Res} {k : Nat} {r : Res} (h : rs[k]? = some r) : ptsF c (rs.take (k + 1)) = ptsStep (ptsF c (rs.take k)) r := by
  rw [ptsF, take_snoc h, List.foldl_append]; rfl
theorem ptsF_length (c : Nat) (rs : List Res) : (ptsF c rs).length = c := by
  have : ∀ (rs : List Res) (P : List Int), (rs.foldl ptsStep P).length = P.length := by
    intro rs
    induction rs with
    | nil => intro P; rfl
    | cons r rs ih => intro P; rw [List.foldl_cons, ih, ptsStep_length]
  rw [ptsF, this]; simp
theorem addAt_cap {P : List Int} {i v : Int} {n : Int} (h : ∀ y ∈ P, 0 ≤ y ∧ y ≤ n) (hv : 0 ≤ v ∧ v ≤ 3) (hn : 0 ≤ n) : ∀ y ∈ addAt P i v, 0 ≤ y ∧ y ≤ n + 3 := by
  intro y hy
  rcases List.mem_or_eq_of_mem_set hy with h1 | h1
  · have := h y h1; omega
  · have : 0 ≤ P.getD i.toNat 0 ∧ P.getD i.toNat 0 ≤ n := by
      rw [List.getD_eq_getElem?_getD]
      cases h2 : P[i.toNat]? with
      | none => simp; omega
      | some z => exact h z (List.mem_of_getElem? h2)
    omega
theorem ptsF_cap (c : Nat) : ∀ (rs : List Res) (P : List Int) (n : Int), 0 ≤ n → (∀ y ∈ P, 0 ≤ y ∧ y ≤ n) → ∀ y ∈ rs.foldl ptsStep P, 0 ≤ y ∧ y ≤ n + 6 * rs.length
  | [], P, n, hn, h => by intro y hy; have := h y hy; simp; omega
  | r :: rs, P, n, hn, h => by
    intro y hy
    have h1 := addAt_cap (i := r.h) h (ptsOf_le r.g r.t) hn
    have h2 := addAt_cap (i := r.a) h1 (ptsOf_le r.t r.g) (by omega)
    have := ptsF_cap c rs _ (n + 6) (by omega) (fun y hy => by have := h2 y hy; omega) y hy
    simp only [List.length_cons] at *
    omega
theorem ptsF_bound {c : Nat} {rs : List Res} {y : Int} (h : y ∈ ptsF c rs) : 0 ≤ y ∧ y ≤ 6 * rs.length := by
  have := ptsF_cap c rs _ 0 (by omega) (fun y hy => by rw [List.eq_of_mem_replicate hy]; omega) y h
  omega
theorem ptsF_get {c : Nat} {rs : List Res} {k : Nat} (h : k < c) : ∃ y, (ptsF c rs)[k]? = some y ∧ (ptsF c rs).getD k 0 = y ∧ 0 ≤ y ∧ y ≤ 6 * rs.length := by
  have hl : k < (ptsF c rs).length := by rw [ptsF_length]; exact h
  have h1 : (ptsF c rs)[k]? = some (ptsF c rs)[k] := List.getElem?_eq_getElem hl
  exact ⟨_, h1, by rw [List.getD_eq_getElem?_getD, h1]; rfl, ptsF_bound (List.getElem_mem _)⟩
def ownG (c : Int) (r : Res) : Int := if r.h = c then r.g else if r.a = c then r.t else 0
def othG (c : Int) (r : Res) : Int := if r.h = c then r.t else if r.a = c then r.g else 0
def madeF (c : Int) (rs : List Res) : Int := (rs.map (ownG c)).sum
def lostF (c : Int) (rs : List Res) : Int := (rs.map (othG c)).sum
theorem sum_take {f : Res → Int} {rs : List Res} {k : Nat} {r : Res} (h : rs[k]? = some r) : ((rs.take (k + 1)).map f).sum = ((rs.take k).map f).sum + f r := by
  rw [take_snoc h, List.map_append, List.sum_append]; simp
theorem sum_cap {f : Res → Int} : ∀ {rs : List Res}, (∀ r ∈ rs, 0 ≤ f r ∧ f r ≤ 99) → 0 ≤ (rs.map f).sum ∧ (rs.map f).sum ≤ 99 * rs.length
  | [], _ => by simp
  | r :: rs, h => by
    have h1 := h r (by simp)
    have h2 := sum_cap (rs := rs) (fun q hq => h q (by simp [hq]))
    simp only [List.map_cons, List.sum_cons, List.length_cons]
    omega
theorem resB_goals {c : Int} {r : Res} (h : resB c r = true) : 0 ≤ r.h ∧ r.h ≤ c - 1 ∧ 0 ≤ r.a ∧ r.a ≤ c - 1 ∧ r.h ≠ r.a ∧ 0 ≤ r.g ∧ r.g ≤ 99 ∧ 0 ≤ r.t ∧ r.t ≤ 99 := by
  simp [resB, inB] at h; omega
theorem made_cap {n c : Int} {rs : List Res} (h : rs.all (resB n) = true) : 0 ≤ madeF c rs ∧ madeF c rs ≤ 99 * rs.length := by
  refine sum_cap (fun r hr => ?_)
  have := resB_goals (List.all_eq_true.1 h r hr)
  unfold ownG; split
  · omega
  · split <;> omega
theorem lost_cap {n c : Int} {rs : List Res} (h : rs.all (resB n) = true) : 0 ≤ lostF c rs ∧ lostF c rs ≤ 99 * rs.length := by
  refine sum_cap (fun r hr => ?_)
  have := resB_goals (List.all_eq_true.1 h r hr)
  unfold othG; split
  · omega
  · split <;> omega
def keyT (P : List Int) (rs : List Res) (c : Int) : Int := (P.getD c.toNat 0 * 20000 + madeF c rs - lostF c rs + 10000) * 10000 + madeF c rs
/-- What 'cmp.Or' hands back. -/
def orF (a b c : Int) : Int := if a = 0 then (if b = 0 then c else b) else a
theorem keyT_cmp {p q d e m n : Int} (hd : -5940 ≤ d ∧ d ≤ 5940) (he : -5940 ≤ e ∧ e ≤ 5940) (hm : 0 ≤ m ∧ m ≤ 5940) (hn : 0 ≤ n ∧ n ≤ 5940) :
    (orF (q - p) (e - d) (n - m) < 0 ↔ (q * 20000 + e + 10000) * 10000 + n < (p * 20000 + d + 10000) * 10000 + m) := by
  unfold orF
  split
  · split <;> omega
  · omega
def tableF (c : Nat) (rs : List Res) : List Int := insF (keyT (ptsF c rs) rs) (idxs c)
def tableL (x : LeagueV) : List Int := if leagueB x then tableF x.clubs.toNat x.results else []
theorem tableF_length (c : Nat) (rs : List Res) : (tableF c rs).length = c := by rw [tableF, insF_length, idxs_length]
theorem tableF_mem {c : Nat} {rs : List Res} {x : Int} : x ∈ tableF c rs ↔ 0 ≤ x ∧ x < c := by
  rw [tableF, (insF_perm _ _).mem_iff, idxs_mem]
theorem leagueB_t {x : LeagueV} (h : leagueB x = true) : 2 ≤ x.clubs ∧ x.clubs ≤ 8 ∧ x.results.length ≤ 60 ∧ x.results.all (resB x.clubs) = true := by
  simp only [leagueB, Bool.and_eq_true, decide_eq_true_eq] at h
  exact ⟨(inB_t.1 h.1).1, (inB_t.1 h.1).2, h.2.1, h.2.2⟩
theorem all_take {α : Type} {p : α → Bool} {xs : List α} (h : xs.all p = true) (k : Nat) : (xs.take k).all p = true :=
  List.all_eq_true.2 fun x hx => List.all_eq_true.1 h x (List.mem_of_mem_take hx)
end Go.Proofs.Ythlkhmbndaecfaa
