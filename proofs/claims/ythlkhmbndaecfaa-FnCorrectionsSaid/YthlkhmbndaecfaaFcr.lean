/- Corrected leagues: what the law FnCorrections asks of a valid league. -/
import Derived.Test.YthlkhmbndaecfaaFcp
import Derived.Test.YthlkhmbndaecfaaForf
import Derived.Test.YthlkhmbndaecfaaRm
import Derived.Test.YthlkhmbndaecfaaCa
namespace Go.Proofs.Ythlkhmbndaecfaa
open Go.ChangeShapes Go.WideShapes Go.ChangeAt Go.RowKit

theorem league_take {x : LeagueV} (h : leagueB x = true) (k : Nat) : leagueB ⟨x.clubs, x.results.take k⟩ = true := by
  obtain ⟨h1, h2, h3, h4⟩ := leagueB_t h
  simp only [leagueB, Bool.and_eq_true, inB_t, decide_eq_true_eq]
  refine ⟨⟨h1, h2⟩, by rw [List.length_take]; omega, List.all_eq_true.2 fun r hr => List.all_eq_true.1 h4 r (List.mem_of_mem_take hr)⟩
/-- A valid league of n clubs and m results. -/
structure Lx (x : LeagueV) (n m : Nat) : Prop where
  ok : leagueB x = true
  cl : x.clubs = (n : Int)
  len : x.results.length = m
theorem Lx.bd {x : LeagueV} {n m : Nat} (h : Lx x n m) : 2 ≤ n ∧ n ≤ 8 ∧ m ≤ 60 := by
  obtain ⟨h1, h2, h3, _⟩ := leagueB_t h.ok
  have := h.cl; have := h.len; omega
theorem Lx.all {x : LeagueV} {n m : Nat} (h : Lx x n m) : x.results.all (resB (n : Int)) = true := by
  have := (leagueB_t h.ok).2.2.2
  rw [h.cl] at this; exact this
theorem Lx.table {x : LeagueV} {n m : Nat} (h : Lx x n m) (k : Nat) : tableL ⟨x.clubs, x.results.take k⟩ = tableF n (x.results.take k) := by
  unfold tableL
  rw [if_pos (league_take h.ok k), h.cl, Int.toNat_natCast]
theorem Lx.tab {x : LeagueV} {n m : Nat} (h : Lx x n m) : tableL x = tableF n x.results := by
  unfold tableL
  rw [if_pos h.ok, h.cl, Int.toNat_natCast]
theorem Lx.after {x : LeagueV} {n m : Nat} (h : Lx x n m) : afterT x (m : Int) = tableF n x.results := by
  unfold afterT
  rw [h.ok, h.len, show inB (m : Int) 0 (m : Int) = true from inB_t.2 ⟨by omega, by omega⟩, if_pos (by rfl), Int.toNat_natCast, h.table, List.take_of_length_le (by rw [h.len]; exact Nat.le_refl _)]
theorem Lx.lead {x : LeagueV} {n m : Nat} (h : Lx x n m) {k : Nat} (hk : k ≤ m) : (leadF x)[k]? = some ((tableF n (x.results.take k)).getD 0 0) := by
  rw [leadF, List.getElem?_map, List.getElem?_range (by rw [h.len]; omega)]
  show some (leadAt x k) = _
  rw [leadAt, h.table]
theorem Lx.lead0 {x : LeagueV} {n m : Nat} (h : Lx x n m) : (leadF x)[0]? = some 0 := by
  rw [h.lead (Nat.zero_le _), List.take_zero]
  have hb := h.bd
  have := table_none ⟨n, by omega⟩
  simp only at this
  rw [this, List.getD_eq_getElem?_getD, idxs_get (by omega)]; rfl
theorem Lx.leadM {x : LeagueV} {n m : Nat} (h : Lx x n m) : (leadF x)[m]? = (tableF n x.results)[0]? := by
  rw [h.lead (Nat.le_refl _), List.take_of_length_le (by rw [h.len]; exact Nat.le_refl _)]
  have hb := h.bd
  rw [List.getD_eq_getElem?_getD, List.getElem?_eq_getElem (show 0 < (tableF n x.results).length by rw [tableF_length]; omega)]; rfl
theorem Lx.off {x : LeagueV} {n m : Nat} (h : Lx x n m) : offF x (List.replicate n 0) = tableF n x.results := by
  unfold offF
  rw [h.ok, h.cl, List.length_replicate, if_pos (by simp [inB_t]), Int.toNat_natCast]
  exact off_zero h.all (by have := h.bd; have := h.len; omega)
theorem Lx.moved {x : LeagueV} {n m : Nat} (h : Lx x n m) : movedF x x = 0 := by
  unfold movedF
  rw [h.ok, if_pos (by simp), mvS_self]; rfl
theorem Lx.places {x : LeagueV} {n m a : Nat} (h : Lx x n m) (ha : a < n) : placesF x (a : Int) = placeF x (a : Int) := by
  unfold placesF
  rw [h.ok, h.cl, if_pos (by simp [inB_t]; omega)]
theorem Lx.place {x : LeagueV} {n m a k : Nat} (h : Lx x n m) (ha : a < n) (hk : k ≤ m) : ∃ p : Nat, p < n ∧ (placeF x (a : Int))[k]? = some ((p : Int) + 1) ∧ (tableF n (x.results.take k))[p]? = some (a : Int) ∧
    (decide ((p : Int) + 1 = 1) = decide ((tableF n (x.results.take k)).getD 0 0 = (a : Int))) := by
  obtain ⟨p, hp, h1, h2, h3⟩ := place_facts (x.results.take k) ha
  refine ⟨p, hp, ?_, h2, h3⟩
  rw [placeF, List.getElem?_map, List.getElem?_range (by rw [h.len]; omega)]
  show some (placeAt x a k) = _
  rw [placeAt, h.table, h1]
theorem Lx.place0 {x : LeagueV} {n m a : Nat} (h : Lx x n m) (ha : a < n) : (placeF x (a : Int))[0]? = some ((a : Int) + 1) := by
  obtain ⟨p, hp, h1, h2, -⟩ := h.place ha (Nat.zero_le m)
  have hb := h.bd
  have ht := table_none ⟨n, by omega⟩
  simp only at ht
  rw [List.take_zero, ht, idxs_get hp] at h2
  injection h2 with h2
  rw [h1, h2]

theorem set_same {rs : List Res} {i : Nat} {r s : Res} (h : rs[i]? = some r) : (rs.set i s).set i r = rs := by
  rw [List.set_set]
  obtain ⟨hi, e⟩ := List.getElem?_eq_some_iff.1 h
  rw [← e, List.set_getElem_self]
theorem Lx.has {x : LeagueV} {n m i : Nat} (h : Lx x n m) (hi : i < m) : hasR x (i : Int) = true := by
  unfold hasR
  rw [h.ok, h.len]
  simp only [Bool.true_and, inB_t]; omega
theorem Lx.none {x : LeagueV} {n : Nat} (h : Lx x n 0) : hasR x 0 = false := by
  unfold hasR
  rw [h.ok, h.len, Bool.true_and]
  cases hb : inB 0 0 (((0 : Nat) : Int) - 1)
  · rfl
  · have := inB_t.1 hb; omega
/-- The league with the result i turned. -/
def setL (x : LeagueV) (i : Nat) (r : Res) (g t : Int) : LeagueV := ⟨x.clubs, x.results.set i ⟨r.h, r.a, g, t⟩⟩
theorem Lx.set {x : LeagueV} {n m i : Nat} {r : Res} {g t : Int} (h : Lx x n m) (hr : x.results[i]? = some r) (hg : 0 ≤ g ∧ g ≤ 99) (ht : 0 ≤ t ∧ t ≤ 99) : Lx (setL x i r g t) n m := by
  have hb := List.all_eq_true.1 h.all r (List.mem_of_getElem? hr)
  have hb' : resB (n : Int) ⟨r.h, r.a, g, t⟩ = true := by
    simp only [resB, Bool.and_eq_true, inB_t] at hb ⊢
    exact ⟨hb.1, hb.2.1, hb.2.2.1, hg, ht⟩
  refine ⟨?_, h.cl, by show (x.results.set _ _).length = m; rw [List.length_set]; exact h.len⟩
  obtain ⟨h1, h2, h3, _⟩ := leagueB_t h.ok
  simp only [leagueB, setL, Bool.and_eq_true, inB_t]
  exact ⟨⟨h1, h2⟩, decide_eq_true (by show (x.results.set i _).length ≤ 60; rw [List.length_set]; exact h3), by rw [h.cl]; exact all_set h.all hb'⟩
theorem Lx.repl {x : LeagueV} {n m i : Nat} {r : Res} {g t : Int} (h : Lx x n m) (hr : x.results[i]? = some r) (hg : 0 ≤ g ∧ g ≤ 99) (ht : 0 ≤ t ∧ t ≤ 99) :
    replOk x (i : Int) g t = true ∧ replF x (i : Int) g t = setL x i r g t := by
  have hi := (List.getElem?_eq_some_iff.1 hr).1
  have hq : replQ x (i : Int) g t = setL x i r g t := by
    unfold replQ setL
    rw [Int.toNat_natCast, List.getD_eq_getElem?_getD, hr]; rfl
  have ho : replOk x (i : Int) g t = true := by
    unfold replOk
    rw [hq, h.has (by rw [← h.len]; exact hi), (h.set hr hg ht).ok]; rfl
  exact ⟨ho, by unfold replF; rw [if_pos ho, hq]⟩
structure Fc5 (x : LeagueV) (n m i : Nat) (r : Res) : Prop where
  y : replOk x (i : Int) 4 1 = true ∧ replF x (i : Int) 4 1 = setL x i r 4 1
  z : replOk (setL x i r 4 1) (i : Int) r.g r.t = true ∧ replF (setL x i r 4 1) (i : Int) r.g r.t = x
  w : corrOk x [[(i : Int), 0, 0], [(i : Int), 4, 1]] = true ∧ corrF x [[(i : Int), 0, 0], [(i : Int), 4, 1]] = setL x i r 4 1
  f : forfOk x (i : Int) r.a = true ∧ forfF x (i : Int) r.a = setL x i r 3 0
  v : hasR x (i : Int) = true ∧ removeF x (i : Int) = ⟨x.clubs, x.results.eraseIdx i⟩
  vok : Lx ⟨x.clubs, x.results.eraseIdx i⟩ n (m - 1)
  yok : Lx (setL x i r 4 1) n m
  fok : Lx (setL x i r 3 0) n m
  q1 : (ptsF n (setL x i r 4 1).results).getD r.h.toNat 0 = (ptsF n (x.results.eraseIdx i)).getD r.h.toNat 0 + 3
  q2 : (ptsF n (setL x i r 4 1).results).getD r.a.toNat 0 = (ptsF n (x.results.eraseIdx i)).getD r.a.toNat 0
  s1 : (ptsF n (setL x i r 3 0).results).getD r.h.toNat 0 = (ptsF n (x.results.eraseIdx i)).getD r.h.toNat 0 + 3
  rb : 0 ≤ r.h ∧ r.h < n ∧ 0 ≤ r.a ∧ r.a < n ∧ 0 ≤ r.g ∧ r.g ≤ 99 ∧ 0 ≤ r.t ∧ r.t ≤ 99
theorem fc5_of {x : LeagueV} {n m i : Nat} {r : Res} (h : Lx x n m) (hr : x.results[i]? = some r) : Fc5 x n m i r := by
  have hi := (List.getElem?_eq_some_iff.1 hr).1
  have hb := List.all_eq_true.1 h.all r (List.mem_of_getElem? hr)
  simp only [resB, Bool.and_eq_true, inB_t, Bool.not_eq_true', beq_eq_false_iff_ne] at hb
  obtain ⟨b1, b2, b3, b4, b5⟩ := hb
  have hy := h.repl hr (g := 4) (t := 1) (by omega) (by omega)
  have yok := h.set hr (g := 4) (t := 1) (by omega) (by omega)
  have fok := h.set hr (g := 3) (t := 0) (by omega) (by omega)
  have oy : ∀ g t, (setL x i r g t).results[i]? = some ⟨r.h, r.a, g, t⟩ := fun g t => by
    show (x.results.set i _)[i]? = _
    rw [List.getElem?_set_self hi]
  have hz := yok.repl (oy 4 1) (g := r.g) (t := r.t) b4 b5
  have ez : setL (setL x i r 4 1) i ⟨r.h, r.a, 4, 1⟩ r.g r.t = x := by
    unfold setL
    show LeagueV.mk x.clubs ((x.results.set i _).set i r) = x
    rw [set_same hr]
  have hx1 := h.repl hr (g := 0) (t := 0) (by omega) (by omega)
  have ok1 := h.set hr (g := 0) (t := 0) (by omega) (by omega)
  have hx2 := ok1.repl (oy 0 0) (g := 4) (t := 1) (by omega) (by omega)
  have e2 : setL (setL x i r 0 0) i ⟨r.h, r.a, 0, 0⟩ 4 1 = setL x i r 4 1 := by
    unfold setL
    show LeagueV.mk x.clubs ((x.results.set i _).set i _) = _
    rw [List.set_set]
  have hc : corrT x [[(i : Int), 0, 0], [(i : Int), 4, 1]] = some (setL x i r 4 1) := by
    unfold corrT
    rw [if_pos ⟨h.ok, by simp⟩]
    show (corr1 x [(i : Int), 0, 0]).bind _ = _
    have c1 : corr1 x [(i : Int), 0, 0] = some (setL x i r 0 0) := by
      unfold corr1
      rw [if_pos ⟨rfl, hx1.1⟩]
      show some (replF x (i : Int) 0 0) = _
      rw [hx1.2]
    have c2 : corr1 (setL x i r 0 0) [(i : Int), 4, 1] = some (setL x i r 4 1) := by
      unfold corr1
      rw [if_pos ⟨rfl, hx2.1⟩]
      show some (replF (setL x i r 0 0) (i : Int) 4 1) = _
      rw [hx2.2, e2]
    rw [c1]
    show (corr1 (setL x i r 0 0) [(i : Int), 4, 1]).bind _ = _
    rw [c2]; rfl
  have hf : forfCase x (i : Int) r.a = some (3, 0) := by
    unfold forfCase
    rw [h.has (by rw [← h.len]; exact hi), if_pos rfl, Int.toNat_natCast, List.getD_eq_getElem?_getD, hr]
    simp only [Option.getD_some]
    rw [if_neg (fun e => b3 e.symm)]; simp
  have hf2 := forf_some hf
  have hfr := h.repl hr (g := 3) (t := 0) (by omega) (by omega)
  have hrm : removeF x (i : Int) = ⟨x.clubs, x.results.eraseIdx i⟩ := by
    unfold removeF
    rw [if_pos (h.has (by rw [← h.len]; exact hi)), removeQ, Int.toNat_natCast, List.eraseIdx_eq_take_drop_succ]
  have hrb : ∀ g t : Int, 0 ≤ g ∧ g ≤ 99 → 0 ≤ t ∧ t ≤ 99 → resB (n : Int) ⟨r.h, r.a, g, t⟩ = true := fun g t hg ht => by
    simp only [resB, Bool.and_eq_true, inB_t, Bool.not_eq_true', beq_eq_false_iff_ne]
    exact ⟨b1, b2, b3, hg, ht⟩
  have w1 := pts_win h.all hr (show (1 : Int) < 4 by omega) (hrb 4 1 (by omega) (by omega))
  have w2 := pts_win h.all hr (show (0 : Int) < 3 by omega) (hrb 3 0 (by omega) (by omega))
  refine ⟨hy, ⟨hz.1, hz.2.trans ez⟩, ⟨by unfold corrOk; rw [hc]; rfl, by unfold corrF; rw [hc]; rfl⟩, ⟨hf2.1.trans hfr.1, hf2.2.trans hfr.2⟩, ⟨h.has (by rw [← h.len]; exact hi), hrm⟩, ?_, yok, fok, w1.1, w1.2, w2.1, by omega⟩
  refine ⟨?_, h.cl, by show (x.results.eraseIdx i).length = _; rw [List.length_eraseIdx_of_lt hi, h.len]⟩
  obtain ⟨h1, h2, h3, _⟩ := leagueB_t h.ok
  simp only [leagueB, Bool.and_eq_true, inB_t, decide_eq_true_eq]
  exact ⟨⟨h1, h2⟩, by rw [List.length_eraseIdx_of_lt hi]; omega, by rw [h.cl]; exact all_erase h.all⟩
end Go.Proofs.Ythlkhmbndaecfaa
