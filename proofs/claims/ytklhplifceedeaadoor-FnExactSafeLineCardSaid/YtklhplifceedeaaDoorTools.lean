/- Contracts of the laws' own helpers on slices of integers, and of Go's small slice functions. -/
import Derived.Test.YtklhplifceedeaaDoorSl
import Derived.Test.YtklhplifceedeaaDoorNum
import Derived.WalkSpells
namespace Go.Proofs.YtklhplifceedeaaDoor
open Go.ChangeShapes Go.WideShapes Go.ChangeAt Go.RowKit

set_option maxHeartbeats 400000 in
theorem toIntS_any (A : Option Addr) (c : Nat) (xs : List Int) (w : World) (hs : SlI w A xs) (hn : xs.length ≤ 1048576) :
    Calls Tryd.prog 12 #[.slice A xs.length c] w fun e w' => ∃ A' c', e = .returned (.slice A' xs.length c') ∧ Fr w' w.heap.size w'.heap.size (.slice A' xs.length c') xs ∧ Below w.heap.size w w' := by
  go_enter Tryd.func12, Tryd.ntmps12
  go_wp2_with (at_make; refine makeI rfl _ _ rfl w xs.length rfl rfl hn ?_; intro w1 hfr hb hsz)
  go_loopw [4] (fun i wr => ∃ j : Nat, j ≤ xs.length ∧ i = .int .i64 j ∧ wr.heap.size = w.heap.size + 1 ∧ Fr wr w.heap.size wr.heap.size (.slice (some ⟨w.heap.size, 0, none⟩) xs.length xs.length) (xs.take j ++ List.replicate (xs.length - j) 0) ∧ Below w.heap.size w wr) (fun i _ => xs.length - (intOf i).toNat)
  case atStart => exact ⟨0, Nat.zero_le _, rfl, hsz, by simpa using hfr, hb⟩
  case round =>
    obtain ⟨j, hj, rfl, hsz', hfr', hb'⟩ := hrel
    clear hfr hb hsz
    by_cases hlt : j < xs.length
    · obtain ⟨b, off, x, rfl, hx, hc, hbl⟩ := (hs.below hb').at_ hlt
      obtain ⟨g, y, hg, h1, h2, h3, h4, h5, h6⟩ := hfr'.at_ (k := j) (by simp; omega)
      obtain rfl : w.heap.size = g := by injection hg with hg; injection hg
      have H6 := Lib.hid (h6 x)
      have Hx := Lib.hid hx
      have HS := Lib.hid hsz'
      have Hb := Lib.hid hb'
      clear h6 hx h3 hg hfr' hs hsz' hb'
      go_wp2
      go_roundw
      case rel =>
        refine ⟨j + 1, by omega, by go_num, by simpa using HS.out, ?_, ?_⟩
        · have h := H6.out.1
          have e : (xs.take j ++ List.replicate (xs.length - j) 0).set j x = xs.take (j + 1) ++ List.replicate (xs.length - (j + 1)) 0 := by
            rw [take_snoc Hx.out, show xs.length - j = (xs.length - (j + 1)) + 1 from by omega, List.replicate_succ, List.set_append_right _ _ (by simp; omega)]
            simp only [List.length_take]
            rw [show j - min j xs.length = 0 from by omega]; simp
          rw [e] at h
          simpa using h
        · exact Hb.out.trans ((Below.refl _ _).setCell (p := ⟨w.heap.size, j, none⟩) (Nat.le_refl _) _)
      case measure => simp [intOf]; omega
    · obtain rfl : j = xs.length := by omega
      have HF := Lib.hid hfr'
      clear hfr' hs
      go_wp2
      go_ret
      refine ⟨_, _, rfl, ?_, hb'⟩
      simpa using HF.out

def eqL (xs ys : List Int) : Bool := decide (xs = ys)
theorem eqL_len {xs ys : List Int} (h : xs.length ≠ ys.length) : eqL xs ys = false := by
  unfold eqL; rw [decide_eq_false_iff_not]; intro e; exact h (by rw [e])
theorem eqL_get {xs ys : List Int} {k : Nat} {x y : Int} (h1 : xs[k]? = some x) (h2 : ys[k]? = some y) (h : x ≠ y) : eqL xs ys = false := by
  unfold eqL; rw [decide_eq_false_iff_not]; intro e; rw [e, h2] at h1; injection h1 with h1; exact h h1.symm
theorem eqL_all {xs ys : List Int} (hl : xs.length = ys.length) (h : xs.take xs.length = ys.take xs.length) : eqL xs ys = true := by
  unfold eqL; rw [decide_eq_true_eq]
  rw [List.take_of_length_le (Nat.le_refl _), List.take_of_length_le (by omega)] at h
  exact h
theorem eqL_self (xs : List Int) : eqL xs xs = true := by simp [eqL]
set_option maxHeartbeats 400000 in
theorem eqIntS_any (A B : Option Addr) (n m c d : Nat) (xs ys : List Int) (w : World) (hn : n = xs.length) (hm : m = ys.length) (hx : SlI w A xs) (hy : SlI w B ys) (h1 : xs.length ≤ 1048576) (h2 : ys.length ≤ 1048576) :
    Calls Tryd.prog 15 #[.slice A n c, .slice B m d] w fun e w' => e = .returned (.bool (eqL xs ys)) ∧ ∃ q, w' = w.drewN q := by
  subst hn hm
  by_cases hl : xs.length = ys.length
  · have hle : ((xs.length : Int) != ys.length) = false := by simp [hl]
    have HL := Lib.hid hl
    clear hl
    have Hle := Lib.hid hle
    clear hle
    generalize hn : xs.length = n at *
    generalize hm : ys.length = m at *
    have hlm : n = m := HL.out
    subst hlm
    clear HL Hle
    have Hn := Lib.hid hn
    have Hm := Lib.hid hm
    clear hn hm
    go_enter Tryd.func15, Tryd.ntmps15
    go_wp2
    go_loopw [5] (fun i wr => ∃ j : Nat, j ≤ n ∧ i = .int .i64 j ∧ Hid (xs.take j = ys.take j) ∧ Hid (∃ q, wr = w.drewN q)) (fun i _ => n - (intOf i).toNat)
    case atStart => exact ⟨0, Nat.zero_le _, rfl, rfl, 0, rfl⟩
    case round =>
      obtain ⟨j, hj, rfl, HT, HQ⟩ := hrel
      obtain ⟨q0, rfl⟩ := HQ
      by_cases hlt : j < n
      · obtain ⟨b, off, x, rfl, hx1, hx2, _⟩ := (hx.drewN q0).at_ (k := j) (by rw [Hn.out]; exact hlt)
        obtain ⟨b', off', y, rfl, hy1, hy2, _⟩ := (hy.drewN q0).at_ (k := j) (by rw [Hm.out]; exact hlt)
        have Hx := Lib.hid hx1
        have Hy := Lib.hid hy1
        have hx3 := hx2
        have hy3 := hy2
        clear hx1 hy1 hx hy
        obtain ⟨w0, hw0⟩ : ∃ w0, w0 = w.drewN q0 := ⟨_, rfl⟩
        rw [← hw0] at hx3 hy3 ⊢
        have Hw := Lib.hid hw0
        clear hw0 hx2 hy2
        by_cases he : x = y
        · have he' : (x != y) = false := by simp [he]
          have HE := Lib.hid he
          clear he
          go_wp2
          go_quiet (fail)
          all_goals go_wp2
          all_goals go_roundw
          case rel =>
            refine ⟨j + 1, by omega, by go_num, ?_, ?_⟩
            · show _ = _
              rw [take_snoc Hx.out, take_snoc Hy.out, HT.out, HE.out]
            · rw [Hw.out]; exact ⟨_, World.drewN_drewN _ _ _⟩
          case measure => simp [intOf]; omega
        · have he' : (x != y) = true := by simp [he]
          have HE := Lib.hid he
          clear he
          go_wp2
          go_quiet (fail)
          all_goals go_wp2
          all_goals go_ret
          all_goals exact ⟨by rw [eqL_get Hx.out Hy.out HE.out]; rfl, by rw [Hw.out]; exact ⟨_, World.drewN_drewN _ _ _⟩⟩
      · obtain rfl : j = n := by omega
        go_wp2
        go_ret
        exact ⟨by rw [eqL_all (by rw [Hn.out, Hm.out]) (by rw [Hn.out]; exact HT.out)]; rfl, _, rfl⟩
  · have hle : ((xs.length : Int) != ys.length) = true := by simp; omega
    have HL := Lib.hid hl
    clear hl
    go_enter Tryd.func15, Tryd.ntmps15
    go_wp2
    go_ret
    exact ⟨by rw [eqL_len HL.out]; rfl, 0, rfl⟩

/-- The first index at which p holds, -1 if there is none. -/
def idxF (p : Int → Bool) (xs : List Int) : Int := match xs.findIdx? p with | some k => (k : Int) | none => -1
theorem findIdx?_take {α : Type} {p : α → Bool} {xs : List α} {k : Nat} {x : α} (h : (xs.take k).all (fun y => !p y) = true) (hx : xs[k]? = some x) (hp : p x = true) : xs.findIdx? p = some k := by
  have hk : k < xs.length := by
    rcases Nat.lt_or_ge k xs.length with h' | h'
    · exact h'
    · rw [List.getElem?_eq_none h'] at hx; cases hx
  rw [List.findIdx?_eq_some_iff_getElem]
  refine ⟨hk, by rw [List.getElem?_eq_getElem hk] at hx; injection hx with hx; rw [hx]; exact hp, fun j hj => ?_⟩
  rw [List.all_eq_true] at h
  have hjm : xs[j]'(by omega) ∈ xs.take k := by
    rw [List.mem_take_iff_getElem]
    exact ⟨j, by omega, rfl⟩
  simpa using h _ hjm
theorem findIdx?_nope {α : Type} {p : α → Bool} {xs : List α} (h : xs.all (fun y => !p y) = true) : xs.findIdx? p = none := by
  rw [List.findIdx?_eq_none_iff]
  intro x hx
  rw [List.all_eq_true] at h
  simpa using h x hx
theorem idxF_hit {p : Int → Bool} {xs : List Int} {k : Nat} {x : Int} (h : (xs.take k).all (fun y => !p y) = true) (hx : xs[k]? = some x) (hp : p x = true) : idxF p xs = k := by
  unfold idxF; rw [findIdx?_take h hx hp]
theorem idxF_none {p : Int → Bool} {xs : List Int} (h : xs.all (fun y => !p y) = true) : idxF p xs = -1 := by
  unfold idxF; rw [findIdx?_nope h]
theorem all_take_snoc {α : Type} {p : α → Bool} {xs : List α} {k : Nat} {x : α} (h : (xs.take k).all p = true) (hx : xs[k]? = some x) (hp : p x = true) : (xs.take (k + 1)).all p = true := by
  rw [take_snoc hx, List.all_append, h]; simp [hp]
theorem idxF_ge (p : Int → Bool) (xs : List Int) : decide (0 ≤ idxF p xs) = xs.any p := by
  unfold idxF
  cases h : xs.findIdx? p with
  | none =>
    rw [List.findIdx?_eq_none_iff] at h
    have : xs.any p = false := by rw [List.any_eq_false]; intro x hx; rw [h x hx]; simp
    rw [this]; rfl
  | some k =>
    have : xs.any p = true := by
      rw [List.findIdx?_eq_some_iff_getElem] at h
      obtain ⟨hk, hp, _⟩ := h
      rw [List.any_eq_true]; exact ⟨_, List.getElem_mem hk, hp⟩
    rw [this]; simp

set_option maxHeartbeats 400000 in
theorem indexFuncI_any (A : Option Addr) (c : Nat) (xs : List Int) (w : World) (hs : SlI w A xs) (hn : xs.length ≤ 1048576) (G : FuncId) (caps : Array Value) (p : Int → Bool)
    (hG : ∀ (args : Array Value) (W : World), (callFunc G args).run Tryd.prog W = .ok (.enter G args) W)
    (hp : ∀ q x, Calls Tryd.prog G (#[.int .i64 x] ++ caps) (w.drewN q) fun e w' => e = .returned (.bool (p x)) ∧ ∃ q', w' = w.drewN q') :
    Calls Tryd.prog 54 #[.slice A xs.length c, .func (.func G) #[] caps] w fun e w' => e = .returned (.int .i64 (idxF p xs)) ∧ ∃ q, w' = w.drewN q := by
  have HP := Lib.hid hp
  clear hp
  generalize hl : xs.length = n at *
  have Hl := Lib.hid hl
  clear hl
  go_enter Tryd.func54, Tryd.ntmps54
  go_wp2
  go_loopw [8] (fun i wr => ∃ j : Nat, j ≤ n ∧ i = .int .i64 j ∧ Hid ((xs.take j).all (fun y => !p y) = true) ∧ Hid (∃ q, wr = w.drewN q)) (fun i _ => n - (intOf i).toNat)
  case atStart => exact ⟨0, Nat.zero_le _, rfl, rfl, 0, rfl⟩
  case round =>
    obtain ⟨j, hj, rfl, HT, HQ⟩ := hrel
    obtain ⟨q0, rfl⟩ := HQ
    by_cases hlt : j < n
    · obtain ⟨b, off, x, rfl, hx1, hx2, _⟩ := (hs.drewN q0).at_ (k := j) (by rw [Hl.out]; exact hlt)
      have Hx := Lib.hid hx1
      have hx3 := hx2
      clear hx1 hs hx2
      have hpx := HP.out q0 x
      obtain ⟨w0, hw0⟩ : ∃ w0, w0 = w.drewN q0 := ⟨_, rfl⟩
      rw [← hw0] at hx3 hpx ⊢
      have HPX := Lib.hid hpx
      have HW := Lib.hid hw0
      clear hpx hw0
      go_wp2_with fail
      refine (HPX.out).mono ?_
      rintro e w1 ⟨rfl, q1, rfl⟩
      cases hpc : p x
      · go_wp2
        go_roundw
        case rel => exact ⟨j + 1, by omega, by go_num, all_take_snoc HT.out Hx.out (by simp [hpc]), q1, rfl⟩
        case measure => simp [intOf]; omega
      · go_wp2
        go_ret
        exact ⟨ret_int (idxF_hit HT.out Hx.out hpc).symm, q1, rfl⟩
    · obtain rfl : j = n := by omega
      go_wp2
      go_ret
      have h := HT.out
      rw [List.take_of_length_le (by rw [Hl.out]; exact Nat.le_refl _)] at h
      exact ⟨ret_int (idxF_none h).symm, q0, rfl⟩

theorem containsFuncI_any (A : Option Addr) (c : Nat) (xs : List Int) (w : World) (hs : SlI w A xs) (hn : xs.length ≤ 1048576) (G : FuncId) (caps : Array Value) (p : Int → Bool)
    (hG : ∀ (args : Array Value) (W : World), (callFunc G args).run Tryd.prog W = .ok (.enter G args) W)
    (hp : ∀ q x, Calls Tryd.prog G (#[.int .i64 x] ++ caps) (w.drewN q) fun e w' => e = .returned (.bool (p x)) ∧ ∃ q', w' = w.drewN q') :
    Calls Tryd.prog 46 #[.slice A xs.length c, .func (.func G) #[] caps] w fun e w' => e = .returned (.bool (xs.any p)) ∧ ∃ q, w' = w.drewN q := by
  have HC := Lib.hid (indexFuncI_any A c xs w hs hn G caps p hG hp)
  clear hs hp hG
  go_enter Tryd.func46, Tryd.ntmps46
  go_wp2_with fail
  refine HC.out.mono ?_
  rintro e w1 ⟨rfl, q1, rfl⟩
  go_wp2
  go_ret
  exact ⟨ret_bool (idxF_ge p xs), q1, rfl⟩

theorem all_not_any {α : Type} (p : α → Bool) (xs : List α) : (!xs.any (fun x => !p x)) = xs.all p := by
  rw [List.not_any_eq_all_not]; simp

theorem allWithin1_any (x lo hi : Int) (bl bh : Nat) (w : World) (h1 : w.cell? ⟨bl, 0, none⟩ = some (.int .i64 lo)) (h2 : w.cell? ⟨bh, 0, none⟩ = some (.int .i64 hi)) :
    Calls Tryd.prog 47 #[.int .i64 x, .pointer (some ⟨bl, 0, none⟩), .pointer (some ⟨bh, 0, none⟩)] w fun e w' => e = .returned (.bool (!inB x lo hi)) ∧ w = w' := by
  go_enter Tryd.func47, Tryd.ntmps47
  go_wp2_with (go_at_call 35; refine (within_any _ _ _ _).mono ?_; rintro e w' ⟨rfl, rfl⟩)
  go_ret
  exact ⟨rfl, rfl⟩
theorem allWithin_any (A : Option Addr) (c : Nat) (xs : List Int) (lo hi : Int) (w : World) (hs : SlI w A xs) (hn : xs.length ≤ 1048576) :
    Calls Tryd.prog 36 #[.slice A xs.length c, .int .i64 lo, .int .i64 hi] w fun e w' => e = .returned (.bool (xs.all (fun x => inB x lo hi))) ∧ Below w.heap.size w w' := by
  go_enter Tryd.func36, Tryd.ntmps36
  go_wp2_with fail
  refine (containsFuncI_any A c xs _ ((hs.alloc _).alloc _) hn 47 _ (fun x => !inB x lo hi) (fun _ _ => by kernel_rfl) (fun q x => ?_)).mono ?_
  · refine (allWithin1_any x lo hi w.heap.size (w.heap.size + 1) _ ?_ ?_).mono ?_
    · simp [go_sem]
    · simp [go_sem]
    · rintro e w' ⟨rfl, rfl⟩; exact ⟨rfl, q, rfl⟩
  · rintro e w1 ⟨rfl, q1, rfl⟩
    go_wp2
    go_ret
    exact ⟨ret_bool (all_not_any _ _), below_drewN (((Below.refl _ w).alloc (Nat.le_refl _) _).alloc (by simp) _) _⟩

theorem std_same {P : Program} {f : FuncId} {args : Array Value} {w : World} {v : Value} (h : Calls P f args w fun e w' => e = .returned v ∧ w = w') :
    Calls P f args w fun e w' => e = .returned v ∧ Below w.heap.size w w' := h.mono fun _ _ ⟨he, hw⟩ => ⟨he, by rw [← hw]; exact Below.refl _ _⟩
theorem std_drew {P : Program} {f : FuncId} {args : Array Value} {w : World} {v : Value} (h : Calls P f args w fun e w' => e = .returned v ∧ ∃ q, w' = w.drewN q) :
    Calls P f args w fun e w' => e = .returned v ∧ Below w.heap.size w w' := h.mono fun _ _ ⟨he, q, hw⟩ => ⟨he, by rw [hw]; exact below_of_drewN _ _ _⟩
theorem slI_of_row {w : World} {a : Option Addr} {len cap : Nat} {zs : List Int}
    (h : (a = none ∧ len = 0 ∧ cap = 0 ∧ zs = []) ∨ ∃ x, a = some x ∧ len ≤ cap ∧ cap ≤ maxLen ∧ zs.length = cap ∧ (∀ i, i < zs.length → w.cell? (x.add i) = some (.int .i64 (zs.getD i 0))) ∧ ∀ n ∈ zs, (Lit.int .i64 n).wf = true) :
    ∃ xs : List Int, xs.length = len ∧ SlI w a xs ∧ ∀ x ∈ xs, (Lit.int .i64 x).wf = true := by
  rcases h with ⟨rfl, rfl, rfl, rfl⟩ | ⟨x, rfl, hl, hm, hz, hc, hw⟩
  · exact ⟨[], rfl, .inl rfl, by simp⟩
  · refine ⟨zs.take len, by simp; omega, ?_, fun x hx => hw x (List.mem_of_mem_take hx)⟩
    by_cases h0 : 0 < zs.length
    · obtain ⟨b, off, rfl, hc'⟩ := ints_at hc h0
      refine .inr ⟨b, off, rfl, fun k y hy => ?_⟩
      rw [List.getElem?_take] at hy
      split at hy
      · have hk : k < zs.length := by
          rcases Nat.lt_or_ge k zs.length with h | h
          · exact h
          · rw [List.getElem?_eq_none h] at hy; cases hy
        rw [hc' k hk, List.getD_eq_getElem?_getD, hy]; rfl
      · cases hy
    · exact .inl (by have : zs = [] := List.eq_nil_of_length_eq_zero (by omega); rw [this]; simp)

theorem eqIntS_same (A B : Option Addr) (n m c d : Nat) (xs : List Int) (w : World) (hn : n = xs.length) (hm : m = xs.length) (hx : SlI w A xs) (hy : SlI w B xs) (h1 : xs.length ≤ 1048576) :
    Calls Tryd.prog 15 #[.slice A n c, .slice B m d] w fun e w' => e = .returned (.bool true) ∧ Below w.heap.size w w' := by
  have h := std_drew (eqIntS_any A B n m c d xs xs w hn hm hx hy h1 h1)
  rwa [eqL_self] at h

set_option maxRecDepth 100000 in
/-- 'append(out, src...)' at a row of the call's own, the source not nil. -/
theorem appSrc {ops : Array Oper} {rest : List Oper} {o : Oper} {a : Act} {Q : Exit → Act → World → Prop} (hgd : o.guard = none) (s y : Operand)
    (ho : o.op = .call { callee := .builtin .append, args := #[s, y], argTypes := #[22, 22] })
    (w : World) (base : Nat) (v : Value) (n : Nat) (xs : List Int) (hs : a.eval s = v) (hown : w.ownsRow base 3 1 v n (ints xs)) (ad : Addr) (m c : Nat) (ys : List Int) (hm : ys.length = m)
    (hx : a.eval y = .slice (some ad) m c) (hys : SlI w (some ad) ys) (hl : n + m ≤ 1048576) (hbase : base ≤ w.heap.size)
    (h : ∀ v' w', w'.ownsRow base 3 1 v' (n + m) (ints (xs ++ ys)) → (∀ B, B ≤ base → B ≤ w.heap.size → Below B w w') → w.grownBy w' v.ownBlock → wpList Tryd.prog ops Q rest (a.put o.dst v') w') :
    wpList Tryd.prog ops Q (o :: rest) a w := by
  obtain ⟨i0, hi, hz0, hz1, hz2⟩ := info_parts infoInt
  refine wpList_append_own _ hgd s y _ ho base 3 i0 (.int .i64 0) 1 8 Tryd.underlying22 hi hz0 hz1 hz2 rfl (by decide) v n (ints xs) hs hown ad m c (ints ys) hx (by simp [ints, hm]) ?_ ?_ (by unfold maxLen; omega) (by omega) hbase ?_
  · intro j u hj
    rcases hys with rfl | ⟨b, off, hA, hc⟩
    · simp [ints] at hj
    · injection hA with hA
      subst hA
      simp only [ints, List.getElem?_map, Option.map_eq_some_iff] at hj
      obtain ⟨y, hy, rfl⟩ := hj
      rw [Go.WideShapes.add_plain]; exact hc j y hy
  · intro u hu
    simp only [ints, List.mem_map] at hu
    obtain ⟨y, _, rfl⟩ := hu; rfl
  · intro v' w' h2 h3 _
    refine h v' w' (by rw [ints_append]; exact h2) (fun B h4 h5 => ?_) h3
    refine (Below.refl B w).grown h3 h5 (fun k hk => ?_)
    have := (hown.lt k hk).1; omega

theorem slI_none {w : World} {xs : List Int} (h : SlI w none xs) : xs = [] := by
  rcases h with rfl | ⟨b, off, h, _⟩
  · rfl
  · cases h
theorem cloneI_any (A : Option Addr) (c : Nat) (xs : List Int) (w : World) (hs : SlI w A xs) (hn : xs.length ≤ 1048576) :
    Calls Tryd.prog 40 #[.slice A xs.length c] w fun e w' => ∃ A' c', e = .returned (.slice A' xs.length c') ∧ Fr w' w.heap.size w'.heap.size (.slice A' xs.length c') xs ∧ Below w.heap.size w w' := by
  have qT : ∀ (w : World) (a : Option Addr) (n c n' c' : Nat), (binOp .eql 22 (.slice a n c) (.slice none n' c')).run Tryd.prog w = .ok (.bool a.isNone) w := fun w a n c n' c' => Lib.run_eql_slice_nil w _ _ a n c n' c' Tryd.underlying22
  cases A with
  | none =>
    obtain rfl := slI_none hs
    go_enter Tryd.func40, Tryd.ntmps40
    go_wp2
    go_ret
    exact ⟨none, 0, rfl, Fr.nil w (Nat.le_refl _), Below.refl _ _⟩
  | some ad =>
    generalize hl : xs.length = n at *
    have HL := Lib.hid hl
    clear hl
    go_enter Tryd.func40, Tryd.ntmps40
    go_wp2_with (at_builtin; refine appSrc rfl _ _ rfl (w.alloc (.cells #[] 3)) w.heap.size _ 0 [] rfl (World.ownsRow_made w #[] 0 (Nat.le_refl _) (by unfold maxLen; omega) rfl) ad n c xs HL.out rfl (hs.alloc _) (by omega) (by simp) ?_; intro v' w1 hown hb _)
    have hb' := (((Below.refl w.heap.size w).alloc (Nat.le_refl _) (.cells #[] 3)).trans (hb w.heap.size (Nat.le_refl _) (by simp)))
    have HF : Hid (Fr w1 w.heap.size w1.heap.size v' xs) := Fr.of_own (by rw [HL.out]; simpa using hown)
    have HB := Lib.hid hb'
    clear hown hb hb' hs
    go_wp2
    go_ret
    obtain ⟨A', c', rfl, _⟩ := HF.out.form
    rw [HL.out] at HF ⊢
    exact ⟨A', c', rfl, HF.out, HB.out⟩

def sumB (xs : List Int) : Prop := ∀ x ∈ xs, -1000000 ≤ x ∧ x ≤ 1000000
theorem sumB_take {xs : List Int} (h : sumB xs) (k : Nat) (hk : k ≤ xs.length) : -1000000 * (k : Int) ≤ (xs.take k).sum ∧ (xs.take k).sum ≤ 1000000 * (k : Int) := by
  induction k with
  | zero => simp
  | succ k ih =>
    have ih := ih (by omega)
    have hx : xs[k]? = some xs[k] := List.getElem?_eq_getElem (by omega)
    have hb := h xs[k] (List.getElem_mem _)
    rw [take_snoc hx, List.sum_append]
    simp only [List.sum_cons, List.sum_nil]
    omega
theorem sum_snoc {xs : List Int} {k : Nat} {x : Int} (h : xs[k]? = some x) : (xs.take (k + 1)).sum = (xs.take k).sum + x := by
  rw [take_snoc h, List.sum_append]; simp
end Go.Proofs.YtklhplifceedeaaDoor
