/- Go's small slice functions at slices of slices of integers. -/
import Derived.Test.YtihoflfokiijdaaStd
namespace Go.Proofs.Ytihoflfokiijdaa
open Go.ChangeShapes Go.WideShapes Go.ChangeAt Go.RowKit

/-- The first index at which p holds, -1 if there is none. -/
def idxFS (p : List Int → Bool) (xs : List (List Int)) : Int := match xs.findIdx? p with | some k => (k : Int) | none => -1

theorem idxFS_hit {p : List Int → Bool} {xs : List (List Int)} {k : Nat} {x : List Int} (h : (xs.take k).all (fun y => !p y) = true) (hx : xs[k]? = some x) (hp : p x = true) : idxFS p xs = k := by
  unfold idxFS; rw [findIdx?_take h hx hp]
theorem idxFS_none {p : List Int → Bool} {xs : List (List Int)} (h : xs.all (fun y => !p y) = true) : idxFS p xs = -1 := by
  unfold idxFS; rw [findIdx?_nope h]
theorem idxFS_ge (p : List Int → Bool) (xs : List (List Int)) : decide (0 ≤ idxFS p xs) = xs.any p := by
  unfold idxFS
  cases h : xs.findIdx? p with
  | none =>
    rw [List.findIdx?_eq_none_iff] at h
    have : xs.any p = false := by rw [List.any_eq_false]; intro x hx; rw [h x hx]; simp
    rw [this]; rfl
  | some k =>
    have : xs.any p = true := by
      rw [List.findIdx?_eq_some_iff_getElem] at h
      obtain ⟨hk, hp, _⟩ := h
      rw [List.any_eq_true]; exact ⟨_, List.getElem_mem hk, hp⟩
    rw [this]; simp

set_option maxHeartbeats 400000 in
theorem indexFuncS_any (v : Value) (xss : List (List Int)) (w : World) (hs : InS w v xss) (hn : xss.length ≤ 1048576) (G : FuncId) (caps : Array Value) (p : List Int → Bool)
    (hG : ∀ (args : Array Value) (W : World), (callFunc G args).run Try.prog W = .ok (.enter G args) W)
    (hp : ∀ (q : Nat) (u : Value) (xs : List Int), InI (w.drewN q) u xs → xs ∈ xss → Calls Try.prog G (#[u] ++ caps) (w.drewN q) fun e w' => e = .returned (.bool (p xs)) ∧ ∃ q', w' = w.drewN q') :
    Calls Try.prog 35 #[v, .func (.func G) #[] caps] w fun e w' => e = .returned (.int .i64 (idxFS p xss)) ∧ ∃ q, w' = w.drewN q := by
  have HS := Lib.hid hs
  obtain ⟨A, c, _, rfl, -⟩ := hs
  have HP := Lib.hid hp
  clear hp
  generalize hl : xss.length = n at *
  have Hl := Lib.hid hl
  clear hl
  go_enter Try.func35, Try.ntmps35
  go_wp2
  go_loopw [8] (fun i wr => ∃ j : Nat, j ≤ n ∧ i = .int .i64 j ∧ Hid ((xss.take j).all (fun y => !p y) = true) ∧ Hid (∃ q, wr = w.drewN q)) (fun i _ => n - (intOf i).toNat)
  case atStart => exact ⟨0, Nat.zero_le _, rfl, rfl, 0, rfl⟩
  case round =>
    obtain ⟨j, hj, rfl, HT, HQ⟩ := hrel
    obtain ⟨q0, rfl⟩ := HQ
    by_cases hlt : j < n
    · obtain ⟨b, off, u, xs, rfl, hx1, hx2, hin, _⟩ := (HS.out.drewN q0).at_ (k := j) (by rw [Hl.out]; exact hlt)
      have Hx := Lib.hid hx1
      have hx3 := hx2
      have hpx := HP.out q0 u xs hin (List.mem_of_getElem? hx1)
      clear hx1 hx2 hin HS
      obtain ⟨w0, hw0⟩ : ∃ w0, w0 = w.drewN q0 := ⟨_, rfl⟩
      rw [← hw0] at hx3 hpx ⊢
      have HPX := Lib.hid hpx
      have HW := Lib.hid hw0
      clear hpx hw0
      go_wp2_with fail
      refine (HPX.out).mono ?_
      rintro e w1 ⟨rfl, q1, rfl⟩
      cases hpc : p xs
      · go_wp2
        go_roundw
        case rel => exact ⟨j + 1, by omega, by go_num, all_take_snoc HT.out Hx.out (by simp [hpc]), q1, rfl⟩
        case measure => simp [intOf]; omega
      · go_wp2
        go_ret
        exact ⟨ret_int (idxFS_hit HT.out Hx.out hpc).symm, q1, rfl⟩
    · obtain rfl : j = n := by omega
      go_wp2
      go_ret
      have h := HT.out
      rw [List.take_of_length_le (by rw [Hl.out]; exact Nat.le_refl _)] at h
      exact ⟨ret_int (idxFS_none h).symm, q0, rfl⟩

theorem containsFuncS_any (v : Value) (xss : List (List Int)) (w : World) (hs : InS w v xss) (hn : xss.length ≤ 1048576) (G : FuncId) (caps : Array Value) (p : List Int → Bool)
    (hG : ∀ (args : Array Value) (W : World), (callFunc G args).run Try.prog W = .ok (.enter G args) W)
    (hp : ∀ (q : Nat) (u : Value) (xs : List Int), InI (w.drewN q) u xs → xs ∈ xss → Calls Try.prog G (#[u] ++ caps) (w.drewN q) fun e w' => e = .returned (.bool (p xs)) ∧ ∃ q', w' = w.drewN q') :
    Calls Try.prog 25 #[v, .func (.func G) #[] caps] w fun e w' => e = .returned (.bool (xss.any p)) ∧ ∃ q, w' = w.drewN q := by
  have HC := Lib.hid (indexFuncS_any v xss w hs hn G caps p hG hp)
  obtain ⟨A, c, _, rfl, -⟩ := hs
  clear hp hG
  go_enter Try.func25, Try.ntmps25
  go_wp2_with fail
  refine HC.out.mono ?_
  rintro e w1 ⟨rfl, q1, rfl⟩
  go_wp2
  go_ret
  exact ⟨ret_bool (idxFS_ge p xss), q1, rfl⟩
end Go.Proofs.Ytihoflfokiijdaa
