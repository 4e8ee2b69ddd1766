/- All corrections: plain words and what stands in a round. -/
import Derived.Test.YthlkhmbndaecfaaRepl
import Derived.StillTailTactics
namespace Go.Proofs.Ythlkhmbndaecfaa
open Go.ChangeShapes Go.WideShapes Go.ChangeAt Go.RowKit

/-- One correction. -/
def corr1 (x : LeagueV) (c : List Int) : Option LeagueV :=
  if c.length = 3 ∧ replOk x (c.getD 0 0) (c.getD 1 0) (c.getD 2 0) = true then some (replF x (c.getD 0 0) (c.getD 1 0) (c.getD 2 0)) else none
def corrS : LeagueV → List (List Int) → Option LeagueV
  | x, [] => some x
  | x, c :: cs => (corr1 x c).bind fun y => corrS y cs
def corrT (x : LeagueV) (l : List (List Int)) : Option LeagueV := if leagueB x = true ∧ l.length ≤ 20 then corrS x l else none
def corrOk (x : LeagueV) (l : List (List Int)) : Bool := (corrT x l).isSome
def corrF (x : LeagueV) (l : List (List Int)) : LeagueV := (corrT x l).getD ⟨0, []⟩
theorem corr1_len {x y : LeagueV} {c : List Int} (h : corr1 x c = some y) (hn : x.results.length ≤ 1048576) : y.results.length ≤ 1048576 := by
  unfold corr1 at h
  split at h
  · injection h with h; subst h; exact replF_len hn
  · cases h
theorem corrS_len : ∀ {l : List (List Int)} {x y : LeagueV}, corrS x l = some y → x.results.length ≤ 1048576 → y.results.length ≤ 1048576
  | [], x, y, h, hn => by rw [corrS] at h; injection h with h; subst h; exact hn
  | c :: cs, x, y, h, hn => by
    rw [corrS] at h
    cases hc : corr1 x c with
    | none => rw [hc] at h; cases h
    | some z => rw [hc] at h; exact corrS_len h (corr1_len hc hn)
theorem corrF_len {x : LeagueV} {l : List (List Int)} (h : x.results.length ≤ 1048576) : (corrF x l).results.length ≤ 1048576 := by
  unfold corrF corrT
  split
  · cases hc : corrS x l with
    | none => simp
    | some y => exact corrS_len hc h
  · simp
theorem corr_no {x : LeagueV} {l : List (List Int)} (h : ¬ (leagueB x = true ∧ l.length ≤ 20)) : corrOk x l = false ∧ corrF x l = ⟨0, []⟩ := by
  unfold corrOk corrF corrT; rw [if_neg h]; exact ⟨rfl, rfl⟩
theorem corr_go {x : LeagueV} {l : List (List Int)} (h1 : leagueB x = true) (h2 : l.length ≤ 20) : corrT x l = corrS x l := by unfold corrT; rw [if_pos ⟨h1, h2⟩]
theorem corr_none {x : LeagueV} {l : List (List Int)} (h : corrT x l = none) : corrOk x l = false ∧ corrF x l = ⟨0, []⟩ := by
  unfold corrOk corrF; rw [h]; exact ⟨rfl, rfl⟩
theorem corr_some {x y : LeagueV} {l : List (List Int)} (h : corrT x l = some y) : corrOk x l = true ∧ corrF x l = y := by
  unfold corrOk corrF; rw [h]; exact ⟨rfl, rfl⟩
theorem corrS_at {y : LeagueV} {l : List (List Int)} {j : Nat} {c : List Int} (h : l[j]? = some c) : corrS y (l.drop j) = (corr1 y c).bind fun z => corrS z (l.drop (j + 1)) := by
  have hj : j < l.length := (List.getElem?_eq_some_iff.1 h).1
  have he : l[j] = c := (List.getElem?_eq_some_iff.1 h).2
  rw [List.drop_eq_getElem_cons hj, he, corrS]
theorem corr1_bad {y : LeagueV} {c : List Int} (h : ¬ c.length = 3) : corr1 y c = none := by unfold corr1; rw [if_neg (by intro h'; exact h h'.1)]
theorem corr1_no {y : LeagueV} {i z u : Int} (h : replOk y i z u = false) : corr1 y [i, z, u] = none := by unfold corr1; rw [if_neg (by intro h'; simp at h'; rw [h'] at h; cases h)]
theorem corr1_yes {y : LeagueV} {i z u : Int} (h : replOk y i z u = true) : corr1 y [i, z, u] = some (replF y i z u) := by unfold corr1; rw [if_pos ⟨rfl, h⟩]; rfl

/-- The box of the result, empty yet. -/
structure ResAt (w W : World) : Prop where
  r0 : W.cell? ⟨w.heap.size + 1, 0, none⟩ = some (.int .i64 0)
  r1 : W.cell? ⟨w.heap.size + 1, 1, none⟩ = some (.slice none 0 0)
  f0 : W.frozen? ⟨w.heap.size + 1, 0, none⟩ = false
  f1 : W.frozen? ⟨w.heap.size + 1, 1, none⟩ = false
  sz : w.heap.size + 2 ≤ W.heap.size
  be : Below w.heap.size w W
theorem ResAt.below {w W W' : World} (h : ResAt w W) (hb : Below (w.heap.size + 2) W W') : ResAt w W' :=
  ⟨(hb.cell (p := ⟨w.heap.size + 1, 0, none⟩) (by show w.heap.size + 1 < _; omega)).trans h.r0, (hb.cell (p := ⟨w.heap.size + 1, 1, none⟩) (by show w.heap.size + 1 < _; omega)).trans h.r1,
   (hb.frozen (p := ⟨w.heap.size + 1, 0, none⟩) (by show w.heap.size + 1 < _; omega)).trans h.f0, (hb.frozen (p := ⟨w.heap.size + 1, 1, none⟩) (by show w.heap.size + 1 < _; omega)).trans h.f1,
   Nat.le_trans h.sz hb.size, h.be.trans (hb.mono (by omega))⟩
theorem ResAt.grow {w W W' : World} (h : ResAt w W) (hb : Below W.heap.size W W') : ResAt w W' := h.below (hb.mono h.sz)
/-- The box p holds the league y, whose results lie in a row of the call's own. -/
def CorAt (w W : World) (p : Nat) (y : LeagueV) : Prop :=
  ∃ A c lo hi, W.cell? ⟨p, 0, none⟩ = some (.int .i64 y.clubs) ∧ W.cell? ⟨p, 1, none⟩ = some (.slice A y.results.length c) ∧ W.frozen? ⟨p, 0, none⟩ = false ∧ W.frozen? ⟨p, 1, none⟩ = false ∧
    w.heap.size + 2 ≤ p ∧ p < W.heap.size ∧ w.heap.size + 2 ≤ lo ∧ (p < lo ∨ hi ≤ p) ∧ FrR W lo hi (.slice A y.results.length c) y.results ∧ (Lit.int .i64 y.clubs).wf = true ∧ ResAt w W ∧ y.results.length ≤ 1048576
theorem CorAt.res {w W : World} {p : Nat} {y : LeagueV} (h : CorAt w W p y) : ResAt w W := by
  obtain ⟨A, c, lo, hi, _, _, _, _, _, _, _, _, _, _, h, _⟩ := h; exact h
/-- Two stores into a box. -/
theorem corAt_put {w W : World} {p lo hi n c : Nat} {A : Option Addr} {y : LeagueV} {u0 u1 : Value} (hr : ResAt w W) (hp : w.heap.size + 2 ≤ p) (hlt : p < W.heap.size) (hlo : w.heap.size + 2 ≤ lo) (hd : p < lo ∨ hi ≤ p)
    (hf : FrR W lo hi (.slice A n c) y.results) (hnn : n = y.results.length) (hw : (Lit.int .i64 y.clubs).wf = true) (hn : y.results.length ≤ 1048576) (p0 : W.cell? ⟨p, 0, none⟩ = some u0) (p1 : W.cell? ⟨p, 1, none⟩ = some u1) (f0 : W.frozen? ⟨p, 0, none⟩ = false) (f1 : W.frozen? ⟨p, 1, none⟩ = false) :
    CorAt w ((W.setCell ⟨p, 0, none⟩ (.int .i64 y.clubs)).setCell ⟨p, 1, none⟩ (.slice A n c)) p y := by
  subst hnn
  have kp : Keep p (p + 1) W ((W.setCell ⟨p, 0, none⟩ (.int .i64 y.clubs)).setCell ⟨p, 1, none⟩ (.slice A y.results.length c)) :=
    ((Keep.refl _ _ _).setCell (p := ⟨p, 0, none⟩) (Nat.le_refl _) (Nat.lt_succ_self _) _).setCell (p := ⟨p, 1, none⟩) (Nat.le_refl _) (Nat.lt_succ_self _) _
  refine ⟨A, c, lo, hi, by simp [go_sem, p0], by simp [go_sem, p1], by simp [go_sem, f0], by simp [go_sem, f1], hp, Nat.lt_of_lt_of_le hlt kp.size, hlo, hd, hf.keep kp (by omega), hw, hr.below (kp.below hp hr.sz), hn⟩
theorem corAt_new {w W : World} {lo hi n c : Nat} {A : Option Addr} {y : LeagueV} (hr : ResAt w W) (hlo : w.heap.size + 2 ≤ lo) (hf : FrR W lo hi (.slice A n c) y.results) (hnn : n = y.results.length) (hw : (Lit.int .i64 y.clubs).wf = true) (hn : y.results.length ≤ 1048576) :
    CorAt w (W.alloc (.cells #[.int .i64 y.clubs, .slice A n c] 25)) W.heap.size y := by
  subst hnn
  have hb : Below W.heap.size W (W.alloc (.cells #[.int .i64 y.clubs, .slice A y.results.length c] 25)) := (Below.refl _ W).alloc (Nat.le_refl _) _
  exact ⟨A, c, lo, hi, by simp [go_sem], by simp [go_sem], by simp [go_sem], by simp [go_sem], hr.sz, by simp, hlo, .inr hf.2.2, hf.grow hb, hw, hr.grow hb, hn⟩
theorem resAt_init (w : World) (o : Obj) : ResAt w ((w.alloc o).alloc (.cells #[.int .i64 0, .slice none 0 0] 25)) :=
  ⟨by simp [go_sem], by simp [go_sem], by simp [go_sem], by simp [go_sem], by simp, ((Below.refl _ w).alloc (Nat.le_refl _) _).alloc (by simp) _⟩
end Go.Proofs.Ythlkhmbndaecfaa
