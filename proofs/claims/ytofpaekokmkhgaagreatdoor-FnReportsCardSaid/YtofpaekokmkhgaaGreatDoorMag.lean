/- Small sets as numbers: the contracts of membersOf, l02List, l02Bits. -/
import Derived.Test.YtofpaekokmkhgaaGreatDoorMaf
import Derived.Laws.BitsLemmas
import Derived.Test.YtofpaekokmkhgaaGreatDoorStd
namespace Go.Proofs.YtofpaekokmkhgaaGreatDoor
open Go.ChangeShapes Go.WideShapes Go.ChangeAt Go.RowKit

theorem bits_low {s k : Nat} (hs : s < 256) : bits BinOp.and IntKind.i64 ((s : Int) / 2 ^ k) 1 = if s.testBit k then 1 else 0 := by
  have h := and_at hs k
  rwa [Int.natCast_ediv, Int.natCast_pow] at h
theorem bits_low' {d : Nat} (hs : d < 256) : bits BinOp.and IntKind.i64 (d : Int) 1 = if d.testBit 0 then 1 else 0 := by
  have h := and_at hs 0
  simpa using h
theorem half_bit (s k : Nat) : (s / 2 ^ k).testBit 0 = s.testBit k := by rw [Nat.testBit_div_two_pow]; simp
theorem half_next (s k : Nat) : ((s / 2 ^ k : Nat) : Int) / 2 = ((s / 2 ^ (k + 1) : Nat) : Int) := by
  rw [Nat.pow_succ, ← Nat.div_div_eq_div_mul]; rfl

set_option maxHeartbeats 1000000 in
theorem membersOf_any (s : Nat) (w : World) (hs : s < 256) :
    Calls Tryz.prog 37 #[.int .i64 (s : Int)] w fun e w' => ∃ v', e = .returned v' ∧ Fr w' w.heap.size w'.heap.size v' (memL s) ∧ Below w.heap.size w w' := by
  have HS := Lib.hid hs
  clear hs
  go_enter Tryz.func37, Tryz.ntmps37
  go_wp2
  go_loopw [3, 4] (fun v i wr => ∃ (k : Nat) (vv : Value), k ≤ 8 ∧ i = .int .i64 k ∧ vv = v ∧ Hid (Fr wr w.heap.size wr.heap.size vv (memT s k) ∧ Below w.heap.size w wr)) (fun _ i _ => 8 - (intOf i).toNat)
  case atStart => exact ⟨0, _, by omega, rfl, rfl, Fr.nil _ (Nat.le_refl _), Below.refl _ _⟩
  case round =>
    obtain ⟨k, vv, hk, rfl, rfl, HR⟩ := hrel
    have hb := bits_low (k := k) HS.out
    have hD : (s : Int) / 2 ^ k = ((s / 2 ^ k : Nat) : Int) := by rw [Int.natCast_ediv, Int.natCast_pow]; rfl
    rw [hD] at hb
    have HD := Lib.hid hD
    obtain ⟨D, HDe⟩ : ∃ D : Nat, Hid (s / 2 ^ k = D) := ⟨_, rfl⟩
    rw [HDe.out] at hD hb
    by_cases hz : D = 0
    · have HE : Hid (memT s k = memL s) := memT_done hk (by rw [HDe.out]; exact hz)
      have hz' : ¬ (0 : Int) < (D : Int) := by omega
      clear hb hz
      go_wp2
      go_ret
      exact ⟨_, rfl, by rw [← HE.out]; exact HR.out.1, HR.out.2⟩
    · have hz' : (0 : Int) < (D : Int) := by omega
      have hk8 : k < 8 := by
        rcases Nat.lt_or_ge k 8 with h | h
        · exact h
        · obtain rfl : k = 8 := by omega
          exact absurd (HDe.out.symm.trans (div_stop HS.out)) hz
      have HL : Hid ((memT s k).length ≤ 1048576) := by show _ ≤ _; rw [memT_len]; have := cntT_le s k; omega
      clear hz
      cases ht : s.testBit k
      · rw [ht] at hb
        simp only [Bool.false_eq_true, if_false] at hb
        have HN : Hid (memT s (k + 1) = memT s k) := memT_out ht
        clear ht
        go_wp2
        go_roundw
        case rel => exact ⟨k + 1, _, by omega, by go_num, rfl, by rw [HN.out]; exact HR.out⟩
        case measure => simp [intOf]; omega
      · rw [ht] at hb
        simp only [if_true] at hb
        have HN : Hid (memT s (k + 1) = memT s k ++ [(k : Int)]) := memT_in ht
        clear ht
        go_wp2_with (at_builtin; refine app1 rfl _ _ rfl wr w.heap.size vv (memT s k).length (memT s k) rfl HR.out.1.1 (k : Int) rfl HL.out HR.out.2.size ?_; intro v2 w2 hown hb2 _ _; have H2 : Hid (Fr w2 w.heap.size w2.heap.size v2 (memT s (k + 1)) ∧ Below w.heap.size w w2) := ⟨by rw [HN.out]; exact Fr.of_own (by simpa using hown), HR.out.2.trans (hb2 _ (Nat.le_refl _) HR.out.2.size)⟩; clear hown hb2)
        go_roundw
        case rel => exact ⟨k + 1, _, by omega, by go_num, rfl, H2.out⟩
        case measure => simp [intOf]; omega
end Go.Proofs.YtofpaekokmkhgaaGreatDoor
namespace Go.Proofs.YtofpaekokmkhgaaGreatDoor
open Go.ChangeShapes Go.WideShapes Go.ChangeAt Go.RowKit

/-- The first index at which p holds, -1 if there is none. -/
def idxFS (p : List Int → Bool) (xs : List (List Int)) : Int := match xs.findIdx? p with | some k => (k : Int) | none => -1

theorem idxFS_hit {p : List Int → Bool} {xs : List (List Int)} {k : Nat} {x : List Int} (h : (xs.take k).all (fun y => !p y) = true) (hx : xs[k]? = some x) (hp : p x = true) : idxFS p xs = k := by
  unfold idxFS; rw [findIdx?_take h hx hp]
theorem idxFS_none {p : List Int → Bool} {xs : List (List Int)} (h : xs.all (fun y => !p y) = true) : idxFS p xs = -1 := by
  unfold idxFS; rw [findIdx?_nope h]
theorem idxFS_ge (p : List Int → Bool) (xs : List (List Int)) : decide (0 ≤ idxFS p xs) = xs.any p := by
  unfold idxFS
  cases h : xs.findIdx? p with
  | none =>
    rw [List.findIdx?_eq_none_iff] at h
    have : xs.any p = false := by rw [List.any_eq_false]; intro x hx; rw [h x hx]; simp
    rw [this]; rfl
  | some k =>
    have : xs.any p = true := by
      rw [List.findIdx?_eq_some_iff_getElem] at h
      obtain ⟨hk, hp, _⟩ := h
      rw [List.any_eq_true]; exact ⟨_, List.getElem_mem hk, hp⟩
    rw [this]; simp

set_option maxHeartbeats 400000 in
theorem indexFuncS_any (v : Value) (xss : List (List Int)) (w : World) (hs : InS w v xss) (hn : xss.length ≤ 1048576) (G : FuncId) (caps : Array Value) (p : List Int → Bool)
    (hG : ∀ (args : Array Value) (W : World), (callFunc G args).run Tryz.prog W = .ok (.enter G args) W)
    (hp : ∀ (q : Nat) (u : Value) (xs : List Int), InI (w.drewN q) u xs → xs ∈ xss → Calls Tryz.prog G (#[u] ++ caps) (w.drewN q) fun e w' => e = .returned (.bool (p xs)) ∧ ∃ q', w' = w.drewN q') :
    Calls Tryz.prog 77 #[v, .func (.func G) #[] caps] w fun e w' => e = .returned (.int .i64 (idxFS p xss)) ∧ ∃ q, w' = w.drewN q := by
  have HS := Lib.hid hs
  obtain ⟨A, c, _, rfl, -⟩ := hs
  have HP := Lib.hid hp
  clear hp
  generalize hl : xss.length = n at *
  have Hl := Lib.hid hl
  clear hl
  go_enter Tryz.func77, Tryz.ntmps77
  go_wp2
  go_loopw [8] (fun i wr => ∃ j : Nat, j ≤ n ∧ i = .int .i64 j ∧ Hid ((xss.take j).all (fun y => !p y) = true) ∧ Hid (∃ q, wr = w.drewN q)) (fun i _ => n - (intOf i).toNat)
  case atStart => exact ⟨0, Nat.zero_le _, rfl, rfl, 0, rfl⟩
  case round =>
    obtain ⟨j, hj, rfl, HT, HQ⟩ := hrel
    obtain ⟨q0, rfl⟩ := HQ
    by_cases hlt : j < n
    · obtain ⟨b, off, u, xs, rfl, hx1, hx2, hin, _⟩ := (HS.out.drewN q0).at_ (k := j) (by rw [Hl.out]; exact hlt)
      have Hx := Lib.hid hx1
      have hx3 := hx2
      have hpx := HP.out q0 u xs hin (List.mem_of_getElem? hx1)
      clear hx1 hx2 hin HS
      obtain ⟨w0, hw0⟩ : ∃ w0, w0 = w.drewN q0 := ⟨_, rfl⟩
      rw [← hw0] at hx3 hpx ⊢
      have HPX := Lib.hid hpx
      have HW := Lib.hid hw0
      clear hpx hw0
      go_wp2_with fail
      refine (HPX.out).mono ?_
      rintro e w1 ⟨rfl, q1, rfl⟩
      cases hpc : p xs
      · go_wp2
        go_roundw
        case rel => exact ⟨j + 1, by omega, by go_num, all_take_snoc HT.out Hx.out (by simp [hpc]), q1, rfl⟩
        case measure => simp [intOf]; omega
      · go_wp2
        go_ret
        exact ⟨ret_int (idxFS_hit HT.out Hx.out hpc).symm, q1, rfl⟩
    · obtain rfl : j = n := by omega
      go_wp2
      go_ret
      have h := HT.out
      rw [List.take_of_length_le (by rw [Hl.out]; exact Nat.le_refl _)] at h
      exact ⟨ret_int (idxFS_none h).symm, q0, rfl⟩

theorem containsFuncS_any (v : Value) (xss : List (List Int)) (w : World) (hs : InS w v xss) (hn : xss.length ≤ 1048576) (G : FuncId) (caps : Array Value) (p : List Int → Bool)
    (hG : ∀ (args : Array Value) (W : World), (callFunc G args).run Tryz.prog W = .ok (.enter G args) W)
    (hp : ∀ (q : Nat) (u : Value) (xs : List Int), InI (w.drewN q) u xs → xs ∈ xss → Calls Tryz.prog G (#[u] ++ caps) (w.drewN q) fun e w' => e = .returned (.bool (p xs)) ∧ ∃ q', w' = w.drewN q') :
    Calls Tryz.prog 57 #[v, .func (.func G) #[] caps] w fun e w' => e = .returned (.bool (xss.any p)) ∧ ∃ q, w' = w.drewN q := by
  have HC := Lib.hid (indexFuncS_any v xss w hs hn G caps p hG hp)
  obtain ⟨A, c, _, rfl, -⟩ := hs
  clear hp hG
  go_enter Tryz.func57, Tryz.ntmps57
  go_wp2_with fail
  refine HC.out.mono ?_
  rintro e w1 ⟨rfl, q1, rfl⟩
  go_wp2
  go_ret
  exact ⟨ret_bool (idxFS_ge p xss), q1, rfl⟩
end Go.Proofs.YtofpaekokmkhgaaGreatDoor
namespace Go.Proofs.YtofpaekokmkhgaaGreatDoor
open Go.ChangeShapes Go.WideShapes Go.ChangeAt Go.RowKit

def pairB (n : Nat) (g : List Int) : Bool := match g with
  | [a, b, k] => decide (0 ≤ a) && (decide (a < b) && (decide (b < (n : Int)) && inB k 1 20))
  | _ => false
def samePair (g h : List Int) : Bool := match g, h with
  | [a, b, _], [c, d, _] => a == c && b == d
  | _, _ => false
def rowOk (n : Nat) (gs : List (List Int)) (i : Nat) : Bool := pairB n (gs.getD i []) && (gs.take i).all (fun h => !samePair h (gs.getD i []))
def raceB (ws : List Int) (gs : List (List Int)) : Bool := inB ws.length 2 6 && (ws.all (fun w => inB w 0 200) && (decide (gs.length ≤ 15) && (List.range gs.length).all (rowOk ws.length gs)))
theorem three' {g : List Int} (h : g.length = 3) : ∃ a b c, g = [a, b, c] := by
  match g, h with
  | [a, b, c], _ => exact ⟨a, b, c, rfl⟩
theorem pairB_len {n : Nat} {g : List Int} (h : ¬ g.length = 3) : pairB n g = false := by
  match g, h with
  | [], _ => rfl
  | [_], _ => rfl
  | [_, _], _ => rfl
  | [_, _, _], h => simp at h
  | _ :: _ :: _ :: _ :: _, _ => rfl
theorem pairB_t {n : Nat} {a b k : Int} : pairB n [a, b, k] = true ↔ 0 ≤ a ∧ a < b ∧ b < (n : Int) ∧ 1 ≤ k ∧ k ≤ 20 := by
  simp only [pairB, Bool.and_eq_true, decide_eq_true_eq, inB_t]
theorem pairB_f {n : Nat} {a b k : Int} (h : ¬ (0 ≤ a ∧ a < b ∧ b < (n : Int) ∧ 1 ≤ k ∧ k ≤ 20)) : pairB n [a, b, k] = false := by
  cases hp : pairB n [a, b, k]
  · rfl
  · exact absurd (pairB_t.1 hp) h
theorem pairB_shape {n : Nat} {g : List Int} (h : pairB n g = true) : ∃ a b k : Nat, g = [(a : Int), (b : Int), (k : Int)] ∧ a < b ∧ b < n ∧ 1 ≤ k ∧ k ≤ 20 := by
  by_cases hl : g.length = 3
  · obtain ⟨a, b, k, rfl⟩ := three' hl
    obtain ⟨h1, h2, h3, h4, h5⟩ := pairB_t.1 h
    obtain ⟨a, rfl⟩ := Int.eq_ofNat_of_zero_le h1
    obtain ⟨b, rfl⟩ := Int.eq_ofNat_of_zero_le (show 0 ≤ b by omega)
    obtain ⟨k, rfl⟩ := Int.eq_ofNat_of_zero_le (show 0 ≤ k by omega)
    exact ⟨a, b, k, rfl, by omega, by omega, by omega, by omega⟩
  · rw [pairB_len hl] at h; cases h
theorem getD_at {gs : List (List Int)} {i : Nat} {g : List Int} (h : gs[i]? = some g) : gs.getD i [] = g := by rw [List.getD_eq_getElem?_getD, h]; rfl
theorem rowOk_f1 {n i : Nat} {gs : List (List Int)} {g : List Int} (h : gs[i]? = some g) (hp : pairB n g = false) : rowOk n gs i = false := by
  rw [rowOk, getD_at h, hp]; rfl
theorem rowOk_f2 {n i j : Nat} {gs : List (List Int)} {g h : List Int} (hg : gs[i]? = some g) (hj : j < i) (hh : gs[j]? = some h) (hs : samePair h g = true) : rowOk n gs i = false := by
  rw [rowOk, getD_at hg, Bool.and_eq_false_iff]
  refine .inr (List.all_eq_false.2 ⟨h, ?_, by simp [hs]⟩)
  refine List.mem_of_getElem? (i := j) ?_
  rw [List.getElem?_take, if_pos hj]; exact hh
theorem rowOk_f3 {n i : Nat} {gs : List (List Int)} {g : List Int} (hg : gs[i]? = some g) (h : (gs.take i).any (fun h => samePair h g) = true) : rowOk n gs i = false := by
  rw [List.any_eq_true] at h
  obtain ⟨x, hx, hs⟩ := h
  rw [rowOk, getD_at hg, Bool.and_eq_false_iff]
  exact .inr (List.all_eq_false.2 ⟨x, hx, by simp [hs]⟩)
theorem rowOk_go {n i : Nat} {gs : List (List Int)} {g : List Int} (hg : gs[i]? = some g) (hp : pairB n g = true) (h : ∀ (j : Nat) (x : List Int), j < i → gs[j]? = some x → samePair x g = false) : rowOk n gs i = true := by
  rw [rowOk, getD_at hg, hp, Bool.true_and, List.all_eq_true]
  intro x hx
  obtain ⟨j, hj, e⟩ := List.getElem_of_mem hx
  have hj' : j < i := by rw [List.length_take] at hj; omega
  have : gs[j]? = some x := by
    have h1 : (gs.take i)[j]? = some x := by rw [List.getElem?_eq_getElem hj, e]
    rwa [List.getElem?_take, if_pos hj'] at h1
  simp [h j x hj' this]
theorem rowOk_any {n i : Nat} {gs : List (List Int)} {g : List Int} (hg : gs[i]? = some g) (hp : pairB n g = true) (h : (gs.take i).any (fun h => samePair h g) = false) : rowOk n gs i = true := by
  rw [rowOk, getD_at hg, hp, Bool.true_and, List.all_eq_true]
  intro x hx
  rw [List.any_eq_false] at h
  simpa using h x hx
theorem rowOk_pair {n i : Nat} {gs : List (List Int)} {g : List Int} (hg : gs[i]? = some g) (h : rowOk n gs i = true) : pairB n g = true := by
  rw [rowOk, getD_at hg, Bool.and_eq_true] at h; exact h.1
theorem raceB_1 {ws : List Int} {gs : List (List Int)} (h : inB ws.length 2 6 = false) : raceB ws gs = false := by simp [raceB, h]
theorem raceB_2 {ws : List Int} {gs : List (List Int)} (h : (ws.all fun w => inB w 0 200) = false) : raceB ws gs = false := by rw [raceB, h]; simp
theorem raceB_3 {ws : List Int} {gs : List (List Int)} (h : ¬ gs.length ≤ 15) : raceB ws gs = false := by simp [raceB, h]
theorem raceB_4 {ws : List Int} {gs : List (List Int)} {i : Nat} (hi : i < gs.length) (h : rowOk ws.length gs i = false) : raceB ws gs = false := by
  have : (List.range gs.length).all (rowOk ws.length gs) = false := List.all_eq_false.2 ⟨i, List.mem_range.2 hi, by simp [h]⟩
  rw [raceB, this]; simp
theorem raceB_5 {ws : List Int} {gs : List (List Int)} (h1 : inB ws.length 2 6 = true) (h2 : (ws.all fun w => inB w 0 200) = true) (h3 : gs.length ≤ 15) (h4 : ∀ i, i < gs.length → rowOk ws.length gs i = true) : raceB ws gs = true := by
  have : (List.range gs.length).all (rowOk ws.length gs) = true := List.all_eq_true.2 fun i hi => h4 i (List.mem_range.1 hi)
  rw [raceB, this, h1, h2]; simp [h3]
structure Race (ws : List Int) (gs : List (List Int)) : Prop where
  n2 : 2 ≤ ws.length
  n6 : ws.length ≤ 6
  wins : ∀ w ∈ ws, 0 ≤ w ∧ w ≤ 200
  m15 : gs.length ≤ 15
  games : ∀ g ∈ gs, ∃ a b k : Nat, g = [(a : Int), (b : Int), (k : Int)] ∧ a < b ∧ b < ws.length ∧ 1 ≤ k ∧ k ≤ 20
theorem raceB_t {ws : List Int} {gs : List (List Int)} (h : raceB ws gs = true) : Race ws gs := by
  simp only [raceB, Bool.and_eq_true, decide_eq_true_eq, List.all_eq_true, List.mem_range] at h
  obtain ⟨h1, h2, h3, h4⟩ := h
  obtain ⟨h5, h6⟩ := inB_t.1 h1
  refine ⟨by omega, by omega, fun w hw => inB_t.1 (h2 w hw), h3, fun g hg => ?_⟩
  obtain ⟨i, hi, e⟩ := List.getElem_of_mem hg
  exact pairB_shape (rowOk_pair (by rw [List.getElem?_eq_getElem hi, e]) (h4 i hi))
end Go.Proofs.YtofpaekokmkhgaaGreatDoor
