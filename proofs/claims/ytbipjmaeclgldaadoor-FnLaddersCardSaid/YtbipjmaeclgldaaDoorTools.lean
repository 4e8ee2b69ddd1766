/- Contracts of the laws' own helpers on slices of integers, and of Go's small slice functions. -/
import Derived.Test.YtbipjmaeclgldaaDoorSl
import Derived.Test.YtbipjmaeclgldaaDoorNum
import Derived.WalkSpells
namespace Go.Proofs.YtbipjmaeclgldaaDoor
open Go.ChangeShapes Go.WideShapes Go.ChangeAt Go.RowKit

/-- The first index at which p holds, -1 if there is none. -/
def idxF (p : Int → Bool) (xs : List Int) : Int := match xs.findIdx? p with | some k => (k : Int) | none => -1
theorem findIdx?_take {α : Type} {p : α → Bool} {xs : List α} {k : Nat} {x : α} (h : (xs.take k).all (fun y => !p y) = true) (hx : xs[k]? = some x) (hp : p x = true) : xs.findIdx? p = some k := by
  have hk : k < xs.length := by
    rcases Nat.lt_or_ge k xs.length with h' | h'
    · exact h'
    · rw [List.getElem?_eq_none h'] at hx; cases hx
  rw [List.findIdx?_eq_some_iff_getElem]
  refine ⟨hk, by rw [List.getElem?_eq_getElem hk] at hx; injection hx with hx; rw [hx]; exact hp, fun j hj => ?_⟩
  rw [List.all_eq_true] at h
  have hjm : xs[j]'(by omega) ∈ xs.take k := by
    rw [List.mem_take_iff_getElem]
    exact ⟨j, by omega, rfl⟩
  simpa using h _ hjm
theorem findIdx?_nope {α : Type} {p : α → Bool} {xs : List α} (h : xs.all (fun y => !p y) = true) : xs.findIdx? p = none := by
  rw [List.findIdx?_eq_none_iff]
  intro x hx
  rw [List.all_eq_true] at h
  simpa using h x hx
theorem idxF_hit {p : Int → Bool} {xs : List Int} {k : Nat} {x : Int} (h : (xs.take k).all (fun y => !p y) = true) (hx : xs[k]? = some x) (hp : p x = true) : idxF p xs = k := by
  unfold idxF; rw [findIdx?_take h hx hp]
theorem idxF_none {p : Int → Bool} {xs : List Int} (h : xs.all (fun y => !p y) = true) : idxF p xs = -1 := by
  unfold idxF; rw [findIdx?_nope h]
theorem all_take_snoc {α : Type} {p : α → Bool} {xs : List α} {k : Nat} {x : α} (h : (xs.take k).all p = true) (hx : xs[k]? = some x) (hp : p x = true) : (xs.take (k + 1)).all p = true := by
  rw [take_snoc hx, List.all_append, h]; simp [hp]
theorem idxF_ge (p : Int → Bool) (xs : List Int) : decide (0 ≤ idxF p xs) = xs.any p := by
  unfold idxF
  cases h : xs.findIdx? p with
  | none =>
    rw [List.findIdx?_eq_none_iff] at h
    have : xs.any p = false := by rw [List.any_eq_false]; intro x hx; rw [h x hx]; simp
    rw [this]; rfl
  | some k =>
    have : xs.any p = true := by
      rw [List.findIdx?_eq_some_iff_getElem] at h
      obtain ⟨hk, hp, _⟩ := h
      rw [List.any_eq_true]; exact ⟨_, List.getElem_mem hk, hp⟩
    rw [this]; simp

set_option maxHeartbeats 400000 in
theorem indexFuncI_any (A : Option Addr) (c : Nat) (xs : List Int) (w : World) (hs : SlI w A xs) (hn : xs.length ≤ 1048576) (G : FuncId) (caps : Array Value) (p : Int → Bool)
    (hG : ∀ (args : Array Value) (W : World), (callFunc G args).run Tryd.prog W = .ok (.enter G args) W)
    (hp : ∀ q x, Calls Tryd.prog G (#[.int .i64 x] ++ caps) (w.drewN q) fun e w' => e = .returned (.bool (p x)) ∧ ∃ q', w' = w.drewN q') :
    Calls Tryd.prog 63 #[.slice A xs.length c, .func (.func G) #[] caps] w fun e w' => e = .returned (.int .i64 (idxF p xs)) ∧ ∃ q, w' = w.drewN q := by
  have HP := Lib.hid hp
  clear hp
  generalize hl : xs.length = n at *
  have Hl := Lib.hid hl
  clear hl
  go_enter Tryd.func63, Tryd.ntmps63
  go_wp2
  go_loopw [8] (fun i wr => ∃ j : Nat, j ≤ n ∧ i = .int .i64 j ∧ Hid ((xs.take j).all (fun y => !p y) = true) ∧ Hid (∃ q, wr = w.drewN q)) (fun i _ => n - (intOf i).toNat)
  case atStart => exact ⟨0, Nat.zero_le _, rfl, rfl, 0, rfl⟩
  case round =>
    obtain ⟨j, hj, rfl, HT, HQ⟩ := hrel
    obtain ⟨q0, rfl⟩ := HQ
    by_cases hlt : j < n
    · obtain ⟨b, off, x, rfl, hx1, hx2, _⟩ := (hs.drewN q0).at_ (k := j) (by rw [Hl.out]; exact hlt)
      have Hx := Lib.hid hx1
      have hx3 := hx2
      clear hx1 hs hx2
      have hpx := HP.out q0 x
      obtain ⟨w0, hw0⟩ : ∃ w0, w0 = w.drewN q0 := ⟨_, rfl⟩
      rw [← hw0] at hx3 hpx ⊢
      have HPX := Lib.hid hpx
      have HW := Lib.hid hw0
      clear hpx hw0
      go_wp2_with fail
      refine (HPX.out).mono ?_
      rintro e w1 ⟨rfl, q1, rfl⟩
      cases hpc : p x
      · go_wp2
        go_roundw
        case rel => exact ⟨j + 1, by omega, by go_num, all_take_snoc HT.out Hx.out (by simp [hpc]), q1, rfl⟩
        case measure => simp [intOf]; omega
      · go_wp2
        go_ret
        exact ⟨ret_int (idxF_hit HT.out Hx.out hpc).symm, q1, rfl⟩
    · obtain rfl : j = n := by omega
      go_wp2
      go_ret
      have h := HT.out
      rw [List.take_of_length_le (by rw [Hl.out]; exact Nat.le_refl _)] at h
      exact ⟨ret_int (idxF_none h).symm, q0, rfl⟩

theorem containsFuncI_any (A : Option Addr) (c : Nat) (xs : List Int) (w : World) (hs : SlI w A xs) (hn : xs.length ≤ 1048576) (G : FuncId) (caps : Array Value) (p : Int → Bool)
    (hG : ∀ (args : Array Value) (W : World), (callFunc G args).run Tryd.prog W = .ok (.enter G args) W)
    (hp : ∀ q x, Calls Tryd.prog G (#[.int .i64 x] ++ caps) (w.drewN q) fun e w' => e = .returned (.bool (p x)) ∧ ∃ q', w' = w.drewN q') :
    Calls Tryd.prog 56 #[.slice A xs.length c, .func (.func G) #[] caps] w fun e w' => e = .returned (.bool (xs.any p)) ∧ ∃ q, w' = w.drewN q := by
  have HC := Lib.hid (indexFuncI_any A c xs w hs hn G caps p hG hp)
  clear hs hp hG
  go_enter Tryd.func56, Tryd.ntmps56
  go_wp2_with fail
  refine HC.out.mono ?_
  rintro e w1 ⟨rfl, q1, rfl⟩
  go_wp2
  go_ret
  exact ⟨ret_bool (idxF_ge p xs), q1, rfl⟩

theorem all_not_any {α : Type} (p : α → Bool) (xs : List α) : (!xs.any (fun x => !p x)) = xs.all p := by
  rw [List.not_any_eq_all_not]; simp

theorem allWithin1_any (x lo hi : Int) (bl bh : Nat) (w : World) (h1 : w.cell? ⟨bl, 0, none⟩ = some (.int .i64 lo)) (h2 : w.cell? ⟨bh, 0, none⟩ = some (.int .i64 hi)) :
    Calls Tryd.prog 57 #[.int .i64 x, .pointer (some ⟨bl, 0, none⟩), .pointer (some ⟨bh, 0, none⟩)] w fun e w' => e = .returned (.bool (!inB x lo hi)) ∧ w = w' := by
  go_enter Tryd.func57, Tryd.ntmps57
  go_wp2_with (go_at_call 26; refine (within_any _ _ _ _).mono ?_; rintro e w' ⟨rfl, rfl⟩)
  go_ret
  exact ⟨rfl, rfl⟩
theorem allWithin_any (A : Option Addr) (c : Nat) (xs : List Int) (lo hi : Int) (w : World) (hs : SlI w A xs) (hn : xs.length ≤ 1048576) :
    Calls Tryd.prog 51 #[.slice A xs.length c, .int .i64 lo, .int .i64 hi] w fun e w' => e = .returned (.bool (xs.all (fun x => inB x lo hi))) ∧ Below w.heap.size w w' := by
  go_enter Tryd.func51, Tryd.ntmps51
  go_wp2_with fail
  refine (containsFuncI_any A c xs _ ((hs.alloc _).alloc _) hn 57 _ (fun x => !inB x lo hi) (fun _ _ => by kernel_rfl) (fun q x => ?_)).mono ?_
  · refine (allWithin1_any x lo hi w.heap.size (w.heap.size + 1) _ ?_ ?_).mono ?_
    · simp [go_sem]
    · simp [go_sem]
    · rintro e w' ⟨rfl, rfl⟩; exact ⟨rfl, q, rfl⟩
  · rintro e w1 ⟨rfl, q1, rfl⟩
    go_wp2
    go_ret
    exact ⟨ret_bool (all_not_any _ _), below_drewN (((Below.refl _ w).alloc (Nat.le_refl _) _).alloc (by simp) _) _⟩

set_option maxRecDepth 100000 in
/-- 'append(out, src...)' at a row of the call's own, the source not nil. -/
theorem appSrc {ops : Array Oper} {rest : List Oper} {o : Oper} {a : Act} {Q : Exit → Act → World → Prop} (hgd : o.guard = none) (s y : Operand)
    (ho : o.op = .call { callee := .builtin .append, args := #[s, y], argTypes := #[22, 22] })
    (w : World) (base : Nat) (v : Value) (n : Nat) (xs : List Int) (hs : a.eval s = v) (hown : w.ownsRow base 3 1 v n (ints xs)) (ad : Addr) (m c : Nat) (ys : List Int) (hm : ys.length = m)
    (hx : a.eval y = .slice (some ad) m c) (hys : SlI w (some ad) ys) (hl : n + m ≤ 1048576) (hbase : base ≤ w.heap.size)
    (h : ∀ v' w', w'.ownsRow base 3 1 v' (n + m) (ints (xs ++ ys)) → (∀ B, B ≤ base → B ≤ w.heap.size → Below B w w') → w.grownBy w' v.ownBlock → wpList Tryd.prog ops Q rest (a.put o.dst v') w') :
    wpList Tryd.prog ops Q (o :: rest) a w := by
  obtain ⟨i0, hi, hz0, hz1, hz2⟩ := info_parts infoInt
  refine wpList_append_own _ hgd s y _ ho base 3 i0 (.int .i64 0) 1 8 Tryd.underlying22 hi hz0 hz1 hz2 rfl (by decide) v n (ints xs) hs hown ad m c (ints ys) hx (by simp [ints, hm]) ?_ ?_ (by unfold maxLen; omega) (by omega) hbase ?_
  · intro j u hj
    rcases hys with rfl | ⟨b, off, hA, hc⟩
    · simp [ints] at hj
    · injection hA with hA
      subst hA
      simp only [ints, List.getElem?_map, Option.map_eq_some_iff] at hj
      obtain ⟨y, hy, rfl⟩ := hj
      rw [Go.WideShapes.add_plain]; exact hc j y hy
  · intro u hu
    simp only [ints, List.mem_map] at hu
    obtain ⟨y, _, rfl⟩ := hu; rfl
  · intro v' w' h2 h3 _
    refine h v' w' (by rw [ints_append]; exact h2) (fun B h4 h5 => ?_) h3
    refine (Below.refl B w).grown h3 h5 (fun k hk => ?_)
    have := (hown.lt k hk).1; omega

theorem slI_none {w : World} {xs : List Int} (h : SlI w none xs) : xs = [] := by
  rcases h with rfl | ⟨b, off, h, _⟩
  · rfl
  · cases h
theorem cloneI_any (A : Option Addr) (c : Nat) (xs : List Int) (w : World) (hs : SlI w A xs) (hn : xs.length ≤ 1048576) :
    Calls Tryd.prog 28 #[.slice A xs.length c] w fun e w' => ∃ A' c', e = .returned (.slice A' xs.length c') ∧ Fr w' w.heap.size w'.heap.size (.slice A' xs.length c') xs ∧ Below w.heap.size w w' := by
  have qT : ∀ (w : World) (a : Option Addr) (n c n' c' : Nat), (binOp .eql 22 (.slice a n c) (.slice none n' c')).run Tryd.prog w = .ok (.bool a.isNone) w := fun w a n c n' c' => Lib.run_eql_slice_nil w _ _ a n c n' c' Tryd.underlying22
  cases A with
  | none =>
    obtain rfl := slI_none hs
    go_enter Tryd.func28, Tryd.ntmps28
    go_wp2
    go_ret
    exact ⟨none, 0, rfl, Fr.nil w (Nat.le_refl _), Below.refl _ _⟩
  | some ad =>
    generalize hl : xs.length = n at *
    have HL := Lib.hid hl
    clear hl
    go_enter Tryd.func28, Tryd.ntmps28
    go_wp2_with (at_builtin; refine appSrc rfl _ _ rfl (w.alloc (.cells #[] 3)) w.heap.size _ 0 [] rfl (World.ownsRow_made w #[] 0 (Nat.le_refl _) (by unfold maxLen; omega) rfl) ad n c xs HL.out rfl (hs.alloc _) (by omega) (by simp) ?_; intro v' w1 hown hb _)
    have hb' := (((Below.refl w.heap.size w).alloc (Nat.le_refl _) (.cells #[] 3)).trans (hb w.heap.size (Nat.le_refl _) (by simp)))
    have HF : Hid (Fr w1 w.heap.size w1.heap.size v' xs) := Fr.of_own (by rw [HL.out]; simpa using hown)
    have HB := Lib.hid hb'
    clear hown hb hb' hs
    go_wp2
    go_ret
    obtain ⟨A', c', rfl, _⟩ := HF.out.form
    rw [HL.out] at HF ⊢
    exact ⟨A', c', rfl, HF.out, HB.out⟩
end Go.Proofs.YtbipjmaeclgldaaDoor
