/- Orders: ladders, places, inverse orders. -/
import Derived.Test.YtbipjmaeclgldaaDoorStd
namespace Go.Proofs.YtbipjmaeclgldaaDoor
open Go.ChangeShapes Go.WideShapes Go.ChangeAt Go.RowKit

/-- The place of x in xs, -1 if it is not there. -/
def plc (xs : List Int) (x : Int) : Int := idxF (fun y => x == y) xs
theorem plc_bd (xs : List Int) (x : Int) : -1 ≤ plc xs x ∧ plc xs x < xs.length := by
  unfold plc idxF
  cases h : xs.findIdx? (fun y => x == y) with
  | none => exact ⟨by decide, by show (-1 : Int) < _; omega⟩
  | some k =>
    rw [List.findIdx?_eq_some_iff_getElem] at h
    obtain ⟨hk, _⟩ := h
    exact ⟨by show (-1 : Int) ≤ (k : Int); omega, by show (k : Int) < _; omega⟩
theorem plc_ge (xs : List Int) (x : Int) : decide (0 ≤ plc xs x) = xs.contains x := by
  unfold plc; rw [idxF_ge, Bool.eq_iff_iff]; simp
theorem all_ne_of {xs : List Int} {k : Nat} {x y : Int} (h : (xs.take k).all (fun y => !(x == y)) = true) (hy : xs[k]? = some y) (he : (x == y) = false) : (xs.take (k + 1)).all (fun y => !(x == y)) = true :=
  all_take_snoc h hy (by rw [he]; rfl)

set_option maxHeartbeats 400000 in
theorem indexI_any (A : Option Addr) (c : Nat) (xs : List Int) (x : Int) (w : World) (hs : SlI w A xs) (hn : xs.length ≤ 1048576) :
    Calls Tryd.prog 44 #[.slice A xs.length c, .int .i64 x] w fun e w' => e = .returned (.int .i64 (plc xs x)) ∧ w = w' := by
  generalize hl : xs.length = n at *
  have HL := Lib.hid hl
  clear hl
  go_enter Tryd.func44, Tryd.ntmps44
  go_wp2
  go_loop [8] (fun i => ∃ j : Nat, j ≤ n ∧ i = .int .i64 j ∧ Hid ((xs.take j).all (fun y => !(x == y)) = true)) (fun i => n - (intOf i).toNat)
  case atStart => exact ⟨0, Nat.zero_le _, rfl, rfl⟩
  case round =>
    obtain ⟨j, hj, rfl, HT⟩ := hrel
    by_cases hlt : j < n
    · obtain ⟨b, off, y, rfl, hx1, hx2, _⟩ := hs.at_ (k := j) (by rw [HL.out]; exact hlt)
      have HX := Lib.hid hx1
      clear hx1 hs
      cases he : (x == y)
      · have HE := Lib.hid he
        go_wp2
        go_round
        case rel => exact ⟨j + 1, by omega, by go_num, all_ne_of HT.out HX.out HE.out⟩
        case measure => simp [intOf]; omega
      · have HE := Lib.hid he
        go_wp2
        go_ret
        exact ⟨ret_int (idxF_hit HT.out HX.out HE.out).symm, rfl⟩
    · obtain rfl : j = n := by omega
      go_wp2
      go_ret
      have h := HT.out
      rw [List.take_of_length_le (by rw [HL.out]; exact Nat.le_refl _)] at h
      exact ⟨ret_int (idxF_none h).symm, rfl⟩

theorem containsI_any (A : Option Addr) (c : Nat) (xs : List Int) (x : Int) (w : World) (hs : SlI w A xs) (hn : xs.length ≤ 1048576) :
    Calls Tryd.prog 41 #[.slice A xs.length c, .int .i64 x] w fun e w' => e = .returned (.bool (xs.contains x)) ∧ w = w' := by
  have HC := Lib.hid (indexI_any A c xs x w hs hn)
  clear hs
  go_enter Tryd.func41, Tryd.ntmps41
  go_wp2_with fail
  refine HC.out.mono ?_
  rintro e w1 ⟨rfl, rfl⟩
  go_wp2
  go_ret
  exact ⟨ret_bool (plc_ge xs x), rfl⟩

def newAt (n : Nat) (xs : List Int) (k : Nat) : Bool := inB (xs.getD k 0) 0 ((n : Int) - 1) && !(xs.take k).contains (xs.getD k 0)
def permB (xs : List Int) : Bool := (List.range xs.length).all (newAt xs.length xs)
theorem newAt_get {n : Nat} {xs : List Int} {k : Nat} {x : Int} (h : xs[k]? = some x) : newAt n xs k = (inB x 0 ((n : Int) - 1) && !(xs.take k).contains x) := by
  simp [newAt, List.getD_eq_getElem?_getD, h]
theorem permB_false {xs : List Int} {k : Nat} {x : Int} (h : xs[k]? = some x) (hb : (inB x 0 ((xs.length : Int) - 1) && !(xs.take k).contains x) = false) : permB xs = false := by
  unfold permB
  rw [List.all_eq_false]
  have hk : k < xs.length := by
    rcases Nat.lt_or_ge k xs.length with h' | h'
    · exact h'
    · rw [List.getElem?_eq_none h'] at h; cases h
  exact ⟨k, List.mem_range.2 hk, by rw [newAt_get h, hb]; simp⟩
theorem permB_upto {xs : List Int} (h : ∀ k, k < xs.length → newAt xs.length xs k = true) : permB xs = true := by
  unfold permB; rw [List.all_eq_true]; intro k hk; exact h k (List.mem_range.1 hk)
theorem permB_t {xs : List Int} (h : permB xs = true) : (∀ x ∈ xs, 0 ≤ x ∧ x < xs.length) ∧ xs.Nodup := by
  unfold permB at h
  rw [List.all_eq_true] at h
  have hk : ∀ k (hk : k < xs.length), inB xs[k] 0 ((xs.length : Int) - 1) = true ∧ xs[k] ∉ xs.take k := by
    intro k hk
    have := h k (List.mem_range.2 hk)
    rw [newAt_get (List.getElem?_eq_getElem hk)] at this
    simpa using this
  refine ⟨fun x hx => ?_, ?_⟩
  · obtain ⟨k, hk', rfl⟩ := List.getElem_of_mem hx
    have := inB_t.1 (hk k hk').1
    omega
  · rw [List.nodup_iff_pairwise_ne, List.pairwise_iff_getElem]
    intro i j hi hj hij he
    refine (hk j hj).2 ?_
    rw [← he, List.mem_take_iff_getElem]
    exact ⟨i, by omega, rfl⟩
theorem permB_mk {xs : List Int} (h1 : ∀ x ∈ xs, 0 ≤ x ∧ x < xs.length) (h2 : xs.Nodup) : permB xs = true := by
  refine permB_upto fun k hk => ?_
  rw [newAt_get (List.getElem?_eq_getElem hk)]
  have hb := h1 xs[k] (List.getElem_mem _)
  rw [inB_mk hb.1 (by omega)]
  simp only [Bool.true_and, Bool.not_eq_true', List.contains_eq_mem, decide_eq_false_iff_not]
  intro hm
  rw [List.mem_take_iff_getElem] at hm
  obtain ⟨i, hi, he⟩ := hm
  rw [List.nodup_iff_pairwise_ne, List.pairwise_iff_getElem] at h2
  exact h2 i k (by omega) hk (by omega) he
def ladB (xs : List Int) : Bool := inB xs.length 1 8 && permB xs
theorem ladB_t {xs : List Int} (h : ladB xs = true) : (1 ≤ xs.length ∧ xs.length ≤ 8) ∧ (∀ x ∈ xs, 0 ≤ x ∧ x < xs.length) ∧ xs.Nodup := by
  simp only [ladB, Bool.and_eq_true, inB_t] at h
  exact ⟨⟨by omega, by omega⟩, permB_t h.2⟩
theorem ladB_mk {xs : List Int} (h0 : 1 ≤ xs.length) (h8 : xs.length ≤ 8) (h1 : ∀ x ∈ xs, 0 ≤ x ∧ x < xs.length) (h2 : xs.Nodup) : ladB xs = true := by
  simp only [ladB, Bool.and_eq_true, inB_t]
  exact ⟨⟨by omega, by omega⟩, permB_mk h1 h2⟩

set_option maxHeartbeats 800000 in
theorem isOrder_any (A : Option Addr) (c : Nat) (xs : List Int) (w : World) (hs : SlI w A xs) (hn : xs.length ≤ 1048576) (hc : xs.length ≤ c) :
    Calls Tryd.prog 35 #[.slice A xs.length c] w fun e w' => e = .returned (.bool (permB xs)) ∧ w = w' := by
  generalize hl : xs.length = n at *
  have HL := Lib.hid hl
  have HS := Lib.hid hs
  clear hl
  go_enter Tryd.func35, Tryd.ntmps35
  go_wp2
  go_loop [7] (fun i => ∃ j : Nat, j ≤ n ∧ i = .int .i64 j ∧ Hid (∀ k, k < j → newAt n xs k = true)) (fun i => n - (intOf i).toNat)
  case atStart => exact ⟨0, Nat.zero_le _, rfl, fun k hk => absurd hk (Nat.not_lt_zero _)⟩
  case round =>
    obtain ⟨j, hj, rfl, HT⟩ := hrel
    by_cases hlt : j < n
    · obtain ⟨b, off, x, rfl, hx1, hx2, _⟩ := hs.at_ (k := j) (by rw [HL.out]; exact hlt)
      have HX := Lib.hid hx1
      have HTK : Hid (SlI w (some ⟨b, off, none⟩) (xs.take j) ∧ (xs.take j).length = j) := by
        refine ⟨?_, by rw [List.length_take, HL.out]; omega⟩
        rcases HS.out with rfl | ⟨b', off', hA, h⟩
        · exact .inl (by simp)
        · refine .inr ⟨b', off', hA, fun k y hy => ?_⟩
          rw [List.getElem?_take] at hy
          split at hy
          · exact h k y hy
          · cases hy
      clear hx1 hs
      cases h1 : inB x 0 ((n : Int) - 1)
      · go_wp2_with (go_at_call 26; refine (within_any _ _ _ _).mono ?_; rintro e w' ⟨rfl, rfl⟩)
        go_ret
        exact ⟨ret_bool (permB_false HX.out (by rw [HL.out, h1]; rfl)).symm, rfl⟩
      · go_wp2_with (go_at_call 26; refine (within_any _ _ _ _).mono ?_; rintro e w' ⟨rfl, rfl⟩)
        have hcc := containsI_any (some ⟨b, off, none⟩) c (xs.take j) x w HTK.out.1 (by rw [HTK.out.2]; omega)
        rw [HTK.out.2] at hcc
        refine hcc.mono ?_
        rintro e w1 ⟨rfl, rfl⟩
        cases h2 : (xs.take j).contains x
        · go_wp2
          go_round
          case rel =>
            refine ⟨j + 1, by omega, by go_num, fun k hk => ?_⟩
            rcases Nat.lt_or_ge k j with hlt' | hge
            · exact HT.out k hlt'
            · obtain rfl : k = j := by omega
              rw [newAt_get HX.out, h1, h2]; rfl
          case measure => simp [intOf]; omega
        · go_wp2
          go_ret
          exact ⟨ret_bool (permB_false HX.out (by rw [h2]; simp)).symm, rfl⟩
    · obtain rfl : j = n := by omega
      go_wp2
      go_ret
      exact ⟨ret_bool (permB_upto (by rw [HL.out]; exact HT.out)).symm, rfl⟩

theorem implLadderOk_any (A : Option Addr) (c : Nat) (xs : List Int) (w : World) (hs : SlI w A xs) (hn : xs.length ≤ 1048576) (hc : xs.length ≤ c) :
    Calls Tryd.prog 13 #[.slice A xs.length c] w fun e w' => e = .returned (.bool (ladB xs)) ∧ w = w' := by
  have HC := Lib.hid (isOrder_any A c xs w hs hn hc)
  clear hs
  cases h : inB xs.length 1 8
  · go_enter Tryd.func13, Tryd.ntmps13
    go_wp2_with (go_at_call 26; refine (within_any _ _ _ _).mono ?_; rintro e w' ⟨rfl, rfl⟩)
    go_ret
    exact ⟨by simp [ladB, h], rfl⟩
  · go_enter Tryd.func13, Tryd.ntmps13
    go_wp2_with (go_at_call 26; refine (within_any _ _ _ _).mono ?_; rintro e w' ⟨rfl, rfl⟩)
    refine HC.out.mono ?_
    rintro e w1 ⟨rfl, rfl⟩
    go_wp2
    go_ret
    exact ⟨by simp [ladB, h], rfl⟩

theorem own_get {w : World} {lo g n c : Nat} {e : TypeId} {vs : List Value} (h : w.ownsRow lo e 1 (.slice (some ⟨g, 0, none⟩) n c) n vs) {k : Nat} (hk : k < n) (u : Value) :
    ∃ x, vs[k]? = some x ∧ w.cell? ⟨g, k, none⟩ = some x ∧ w.frozen? ⟨g, k, none⟩ = false ∧ (w.setCell ⟨g, k, none⟩ u).ownsRow lo e 1 (.slice (some ⟨g, 0, none⟩) n c) n (vs.set k u) ∧ Keep g (g + 1) w (w.setCell ⟨g, k, none⟩ u) := by
  have hl : vs.length = n := by simpa using h.1
  refine ⟨vs[k], List.getElem?_eq_getElem (by omega), ?_, h.frozenAt k, (h.stored k u).1, (Keep.refl _ _ _).setCell (p := ⟨g, k, none⟩) (Nat.le_refl _) (Nat.lt_succ_self _) _⟩
  rw [h.cellAt k (by omega)]; exact List.getElem?_eq_getElem (by omega)

def twoB (a b : List Int) : Bool := ladB a && (ladB b && decide (a.length = b.length))
theorem twoB_t {a b : List Int} (h : twoB a b = true) : ladB a = true ∧ ladB b = true ∧ a.length = b.length := by
  simp only [twoB, Bool.and_eq_true, decide_eq_true_eq] at h; exact h
end Go.Proofs.YtbipjmaeclgldaaDoor
