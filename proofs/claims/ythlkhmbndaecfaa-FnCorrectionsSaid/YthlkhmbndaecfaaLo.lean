/- Valid leagues: contracts. -/
import Derived.Test.YthlkhmbndaecfaaLg
import Derived.Test.YthlkhmbndaecfaaTools
namespace Go.Proofs.Ythlkhmbndaecfaa
open Go.ChangeShapes Go.WideShapes Go.ChangeAt Go.RowKit

def resB (c : Int) (r : Res) : Bool := inB r.h 0 (c - 1) && (inB r.a 0 (c - 1) && (!(r.h == r.a) && (inB r.g 0 99 && inB r.t 0 99)))
def leagueB (x : LeagueV) : Bool := inB x.clubs 2 8 && (decide (x.results.length ≤ 60) && x.results.all (resB x.clubs))
theorem leagueB_clubs {x : LeagueV} (h : inB x.clubs 2 8 = false) : leagueB x = false := by simp [leagueB, h]
theorem leagueB_len {x : LeagueV} (h : ¬ x.results.length ≤ 60) : leagueB x = false := by simp [leagueB, h]
theorem leagueB_all {x : LeagueV} (h1 : inB x.clubs 2 8 = true) (h2 : x.results.length ≤ 60) : leagueB x = x.results.all (resB x.clubs) := by simp [leagueB, h1, h2]
theorem all_hit {α : Type} {p : α → Bool} {xs : List α} {k : Nat} {x : α} (h : xs[k]? = some x) (hp : p x = false) : xs.all p = false := by
  rw [List.all_eq_false]
  exact ⟨x, List.mem_of_getElem? h, by simp [hp]⟩

set_option maxRecDepth 100000 in
theorem has_any (c : Int) (u : Value) (n : Int) (w : World) (h1 : 2 ≤ c) (h2 : c ≤ 8) :
    Calls Try.prog 31 #[.agg #[.int .i64 c, u], .int .i64 n] w fun e w' => e = .returned (.bool (inB n 0 (c - 1))) ∧ Below w.heap.size w w' := by
  go_enter Try.func31, Try.ntmps31
  go_wp2_with (go_at_call 22; refine (within_any _ _ _ _).mono ?_; rintro e w' ⟨rfl, rfl⟩)
  go_ret
  exact ⟨rfl, (Below.refl _ w).alloc (Nat.le_refl _) _⟩

set_option maxHeartbeats 4000000 in
set_option maxRecDepth 100000 in
theorem leagueOk1_any (c : Int) (A : Option Addr) (n k : Nat) (bq : Nat) (r : Res) (w : World) (h1 : 2 ≤ c) (h2 : c ≤ 8) (q0 : w.cell? ⟨bq, 0, none⟩ = some (.int .i64 c)) (q1 : w.cell? ⟨bq, 1, none⟩ = some (.slice A n k)) (hbq : bq < w.heap.size) :
    Calls Try.prog 39 #[.agg #[.int .i64 r.h, .int .i64 r.a, .int .i64 r.g, .int .i64 r.t], .pointer (some ⟨bq, 0, none⟩)] w fun e w' => e = .returned (.bool (!resB c r)) ∧ Below w.heap.size w w' := by
  have hne2 : ¬ bq = w.heap.size := by omega
  have hrb : Hid (resB c r = (inB r.h 0 (c - 1) && (inB r.a 0 (c - 1) && (!(r.h == r.a) && (inB r.g 0 99 && inB r.t 0 99))))) := rfl
  have bel : ∀ o1 o2 o3 : Obj, Below w.heap.size w (w.alloc o1) ∧ Below w.heap.size w ((w.alloc o1).alloc o2) ∧ Below w.heap.size w (((w.alloc o1).alloc o2).alloc o3) := fun o1 o2 o3 =>
    ⟨(Below.refl _ w).alloc (Nat.le_refl _) _, ((Below.refl _ w).alloc (Nat.le_refl _) _).alloc (by simp) _, (((Below.refl _ w).alloc (Nat.le_refl _) _).alloc (by simp) _).alloc (by simp; omega) _⟩
  have BEL := Lib.hid bel
  clear bel
  go_enter Try.func39, Try.ntmps39
  go_wp2
  all_goals go_ret
  all_goals refine ⟨ret_bool ?_, by first | exact (BEL.out _ _ _).2.2 | exact (BEL.out _ (.cells #[] 0) (.cells #[] 0)).1 | exact (BEL.out _ _ (.cells #[] 0)).2.1⟩
  all_goals rw [hrb.out, Bool.eq_iff_iff]
  all_goals simp [inB]
  all_goals omega

def idxG {α : Type} (p : α → Bool) (xs : List α) : Int := match xs.findIdx? p with
  | none => -1
  | some k => (k : Int)
theorem idxG_hit {α : Type} {p : α → Bool} {xs : List α} {k : Nat} {x : α} (h : (xs.take k).all (fun y => !p y) = true) (hx : xs[k]? = some x) (hp : p x = true) : idxG p xs = k := by
  unfold idxG; rw [findIdx?_take h hx hp]
theorem idxG_none {α : Type} {p : α → Bool} {xs : List α} (h : xs.all (fun y => !p y) = true) : idxG p xs = -1 := by
  unfold idxG; rw [findIdx?_nope h]
theorem idxG_ge {α : Type} (p : α → Bool) (xs : List α) : decide (0 ≤ idxG p xs) = xs.any p := by
  unfold idxG
  cases h : xs.findIdx? p with
  | none =>
    rw [List.findIdx?_eq_none_iff] at h
    have : xs.any p = false := by rw [List.any_eq_false]; intro x hx; simpa using h x hx
    rw [this]; rfl
  | some k =>
    rw [List.findIdx?_eq_some_iff_getElem] at h
    obtain ⟨hk, hp, _⟩ := h
    have : xs.any p = true := by rw [List.any_eq_true]; exact ⟨xs[k], List.getElem_mem hk, hp⟩
    rw [this]; exact decide_eq_true (Int.natCast_nonneg k)

set_option maxHeartbeats 1000000 in
set_option maxRecDepth 100000 in
theorem indexFuncR_any (A : Option Addr) (c : Nat) (rs : List Res) (w : World) (hs : SlR w A rs) (hn : rs.length ≤ 1048576) (G : FuncId) (caps : Array Value) (p : Res → Bool)
    (hG : ∀ (args : Array Value) (W : World), (callFunc G args).run Try.prog W = .ok (.enter G args) W)
    (hp : ∀ (W : World) (r : Res), Below w.heap.size w W → Calls Try.prog G (#[.agg #[.int .i64 r.h, .int .i64 r.a, .int .i64 r.g, .int .i64 r.t]] ++ caps) W fun e W' => e = .returned (.bool (p r)) ∧ Below W.heap.size W W') :
    Calls Try.prog 48 #[.slice A rs.length c, .func (.func G) #[] caps] w fun e w' => e = .returned (.int .i64 (idxG p rs)) ∧ Below w.heap.size w w' := by
  have HP := Lib.hid hp
  have HS := Lib.hid hs
  clear hp hs
  generalize hl : rs.length = n at *
  have Hl := Lib.hid hl
  clear hl
  go_enter Try.func48, Try.ntmps48
  go_wp2
  go_loopw [8] (fun i wr => ∃ j : Nat, j ≤ n ∧ i = .int .i64 j ∧ Hid ((rs.take j).all (fun y => !p y) = true) ∧ Hid (Below w.heap.size w wr)) (fun i _ => n - (intOf i).toNat)
  case atStart => exact ⟨0, Nat.zero_le _, rfl, rfl, Below.refl _ _⟩
  case round =>
    obtain ⟨j, hj, rfl, HT, HR⟩ := hrel
    by_cases hlt : j < n
    · obtain ⟨b, off, r, rfl, hr, c1, c2, c3, c4, _⟩ := (HS.out.below HR.out).at_ (k := j) (by rw [Hl.out]; exact hlt)
      have Hx := Lib.hid hr
      clear hr
      have HPX := Lib.hid (HP.out wr r HR.out)
      go_wp2_with fail
      refine (HPX.out).mono ?_
      rintro e w1 ⟨rfl, hb1⟩
      have B1 : Hid (Below w.heap.size w w1) := HR.out.trans (hb1.mono HR.out.size)
      clear hb1
      cases hpc : p r
      · go_wp2
        go_roundw
        all_goals first | exact ⟨j + 1, by omega, by go_num, all_take_snoc HT.out Hx.out (by simp [hpc]), B1.out⟩ | (simp [intOf]; try omega)
      · go_wp2
        go_ret
        exact ⟨ret_int (idxG_hit HT.out Hx.out hpc).symm, B1.out⟩
    · obtain rfl : j = n := by omega
      go_wp2
      go_ret
      have h := HT.out
      rw [List.take_of_length_le (by rw [Hl.out]; exact Nat.le_refl _)] at h
      exact ⟨ret_int (idxG_none h).symm, HR.out⟩

theorem containsFuncR_any (A : Option Addr) (c : Nat) (rs : List Res) (w : World) (hs : SlR w A rs) (hn : rs.length ≤ 1048576) (G : FuncId) (caps : Array Value) (p : Res → Bool)
    (hG : ∀ (args : Array Value) (W : World), (callFunc G args).run Try.prog W = .ok (.enter G args) W)
    (hp : ∀ (W : World) (r : Res), Below w.heap.size w W → Calls Try.prog G (#[.agg #[.int .i64 r.h, .int .i64 r.a, .int .i64 r.g, .int .i64 r.t]] ++ caps) W fun e W' => e = .returned (.bool (p r)) ∧ Below W.heap.size W W') :
    Calls Try.prog 38 #[.slice A rs.length c, .func (.func G) #[] caps] w fun e w' => e = .returned (.bool (rs.any p)) ∧ Below w.heap.size w w' := by
  have HC := Lib.hid (indexFuncR_any A c rs w hs hn G caps p hG hp)
  clear hs hp hG
  go_enter Try.func38, Try.ntmps38
  go_wp2_with fail
  refine HC.out.mono ?_
  rintro e w1 ⟨rfl, hb1⟩
  have B1 := Lib.hid hb1
  clear hb1
  go_wp2
  go_ret
  exact ⟨ret_bool (idxG_ge p rs), B1.out⟩

set_option maxHeartbeats 4000000 in
set_option maxRecDepth 100000 in
theorem implLeagueOk_any (v : Value) (x : LeagueV) (w : World) (hs : InL w v x) :
    Calls Try.prog 14 #[v] w fun e w' => e = .returned (.bool (leagueB x)) ∧ Below w.heap.size w w' := by
  obtain ⟨A, c, rfl, hc, hm, hs, hw⟩ := hs
  have HS := Lib.hid hs
  clear hs
  unfold maxLen at hm
  cases h1 : inB x.clubs 2 8
  case false =>
    go_enter Try.func14, Try.ntmps14
    go_wp2_with (go_at_call 22; refine (within_any _ _ _ _).mono ?_; rintro e w' ⟨rfl, rfl⟩)
    go_ret
    exact ⟨ret_bool (leagueB_clubs h1).symm, (Below.refl _ w).alloc (Nat.le_refl _) _⟩
  have hcl := inB_t.1 h1
  by_cases h2 : x.results.length ≤ 60
  case neg =>
    go_enter Try.func14, Try.ntmps14
    go_wp2_with (go_at_call 22; refine (within_any _ _ _ _).mono ?_; rintro e w' ⟨rfl, rfl⟩)
    go_ret
    exact ⟨ret_bool (leagueB_len h2).symm, (Below.refl _ w).alloc (Nat.le_refl _) _⟩
  have HE : Hid (leagueB x = x.results.all (resB x.clubs)) := leagueB_all h1 h2
  go_enter Try.func14, Try.ntmps14
  go_wp2_with (go_at_call 22; refine (within_any _ _ _ _).mono ?_; rintro e w' ⟨rfl, rfl⟩)
  refine (containsFuncR_any A c x.results _ (SlI.alloc HS.out _) (by omega) 39 _ (fun r => !resB x.clubs r) (fun _ _ => by kernel_rfl) (fun W r hW => ?_)).mono ?_
  · refine leagueOk1_any x.clubs A x.results.length c w.heap.size r W hcl.1 hcl.2 ?_ ?_ ?_
    · rw [hW.cell (by simp)]; simp
    · rw [hW.cell (by simp)]; simp
    · have := hW.size; simp at this; omega
  · rintro e w1 ⟨rfl, hb⟩
    have B1 : Hid (Below w.heap.size w w1) := ((Below.refl _ w).alloc (Nat.le_refl _) _).trans (hb.mono (by simp))
    clear hb
    go_wp2
    go_ret
    exact ⟨ret_bool (by rw [HE.out]; exact all_not_any _ _), B1.out⟩
end Go.Proofs.Ythlkhmbndaecfaa
