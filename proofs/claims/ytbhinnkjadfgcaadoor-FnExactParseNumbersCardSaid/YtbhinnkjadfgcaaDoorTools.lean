/- Contracts of the laws' own helpers on slices of integers, and of Go's small slice functions. -/
import Derived.Test.YtbhinnkjadfgcaaDoorSl
import Derived.Test.YtbhinnkjadfgcaaDoorNum
import Derived.WalkSpells
namespace Go.Proofs.YtbhinnkjadfgcaaDoor
open Go.ChangeShapes Go.WideShapes Go.ChangeAt Go.RowKit

def eqL (xs ys : List Int) : Bool := decide (xs = ys)
theorem eqL_len {xs ys : List Int} (h : xs.length ≠ ys.length) : eqL xs ys = false := by
  unfold eqL; rw [decide_eq_false_iff_not]; intro e; exact h (by rw [e])
theorem eqL_get {xs ys : List Int} {k : Nat} {x y : Int} (h1 : xs[k]? = some x) (h2 : ys[k]? = some y) (h : x ≠ y) : eqL xs ys = false := by
  unfold eqL; rw [decide_eq_false_iff_not]; intro e; rw [e, h2] at h1; injection h1 with h1; exact h h1.symm
theorem eqL_all {xs ys : List Int} (hl : xs.length = ys.length) (h : xs.take xs.length = ys.take xs.length) : eqL xs ys = true := by
  unfold eqL; rw [decide_eq_true_eq]
  rw [List.take_of_length_le (Nat.le_refl _), List.take_of_length_le (by omega)] at h
  exact h
theorem eqL_self (xs : List Int) : eqL xs xs = true := by simp [eqL]
set_option maxHeartbeats 400000 in
theorem eqIntS_any (A B : Option Addr) (n m c d : Nat) (xs ys : List Int) (w : World) (hn : n = xs.length) (hm : m = ys.length) (hx : SlI w A xs) (hy : SlI w B ys) (h1 : xs.length ≤ 1048576) (h2 : ys.length ≤ 1048576) :
    Calls Tryd.prog 6 #[.slice A n c, .slice B m d] w fun e w' => e = .returned (.bool (eqL xs ys)) ∧ ∃ q, w' = w.drewN q := by
  subst hn hm
  by_cases hl : xs.length = ys.length
  · have hle : ((xs.length : Int) != ys.length) = false := by simp [hl]
    have HL := Lib.hid hl
    clear hl
    have Hle := Lib.hid hle
    clear hle
    generalize hn : xs.length = n at *
    generalize hm : ys.length = m at *
    have hlm : n = m := HL.out
    subst hlm
    clear HL Hle
    have Hn := Lib.hid hn
    have Hm := Lib.hid hm
    clear hn hm
    go_enter Tryd.func6, Tryd.ntmps6
    go_wp2
    go_loopw [5] (fun i wr => ∃ j : Nat, j ≤ n ∧ i = .int .i64 j ∧ Hid (xs.take j = ys.take j) ∧ Hid (∃ q, wr = w.drewN q)) (fun i _ => n - (intOf i).toNat)
    case atStart => exact ⟨0, Nat.zero_le _, rfl, rfl, 0, rfl⟩
    case round =>
      obtain ⟨j, hj, rfl, HT, HQ⟩ := hrel
      obtain ⟨q0, rfl⟩ := HQ
      by_cases hlt : j < n
      · obtain ⟨b, off, x, rfl, hx1, hx2, _⟩ := (hx.drewN q0).at_ (k := j) (by rw [Hn.out]; exact hlt)
        obtain ⟨b', off', y, rfl, hy1, hy2, _⟩ := (hy.drewN q0).at_ (k := j) (by rw [Hm.out]; exact hlt)
        have Hx := Lib.hid hx1
        have Hy := Lib.hid hy1
        have hx3 := hx2
        have hy3 := hy2
        clear hx1 hy1 hx hy
        obtain ⟨w0, hw0⟩ : ∃ w0, w0 = w.drewN q0 := ⟨_, rfl⟩
        rw [← hw0] at hx3 hy3 ⊢
        have Hw := Lib.hid hw0
        clear hw0 hx2 hy2
        by_cases he : x = y
        · have he' : (x != y) = false := by simp [he]
          have HE := Lib.hid he
          clear he
          go_wp2
          go_quiet (fail)
          all_goals go_wp2
          all_goals go_roundw
          case rel =>
            refine ⟨j + 1, by omega, by go_num, ?_, ?_⟩
            · show _ = _
              rw [take_snoc Hx.out, take_snoc Hy.out, HT.out, HE.out]
            · rw [Hw.out]; exact ⟨_, World.drewN_drewN _ _ _⟩
          case measure => simp [intOf]; omega
        · have he' : (x != y) = true := by simp [he]
          have HE := Lib.hid he
          clear he
          go_wp2
          go_quiet (fail)
          all_goals go_wp2
          all_goals go_ret
          all_goals exact ⟨by rw [eqL_get Hx.out Hy.out HE.out]; rfl, by rw [Hw.out]; exact ⟨_, World.drewN_drewN _ _ _⟩⟩
      · obtain rfl : j = n := by omega
        go_wp2
        go_ret
        exact ⟨by rw [eqL_all (by rw [Hn.out, Hm.out]) (by rw [Hn.out]; exact HT.out)]; rfl, _, rfl⟩
  · have hle : ((xs.length : Int) != ys.length) = true := by simp; omega
    have HL := Lib.hid hl
    clear hl
    go_enter Tryd.func6, Tryd.ntmps6
    go_wp2
    go_ret
    exact ⟨by rw [eqL_len HL.out]; rfl, 0, rfl⟩

/-- The first index at which p holds, -1 if there is none. -/
def idxF (p : Int → Bool) (xs : List Int) : Int := match xs.findIdx? p with | some k => (k : Int) | none => -1
theorem findIdx?_take {α : Type} {p : α → Bool} {xs : List α} {k : Nat} {x : α} (h : (xs.take k).all (fun y => !p y) = true) (hx : xs[k]? = some x) (hp : p x = true) : xs.findIdx? p = some k := by
  have hk : k < xs.length := by
    rcases Nat.lt_or_ge k xs.length with h' | h'
    · exact h'
    · rw [List.getElem?_eq_none h'] at hx; cases hx
  rw [List.findIdx?_eq_some_iff_getElem]
  refine ⟨hk, by rw [List.getElem?_eq_getElem hk] at hx; injection hx with hx; rw [hx]; exact hp, fun j hj => ?_⟩
  rw [List.all_eq_true] at h
  have hjm : xs[j]'(by omega) ∈ xs.take k := by
    rw [List.mem_take_iff_getElem]
    exact ⟨j, by omega, rfl⟩
  simpa using h _ hjm
theorem findIdx?_nope {α : Type} {p : α → Bool} {xs : List α} (h : xs.all (fun y => !p y) = true) : xs.findIdx? p = none := by
  rw [List.findIdx?_eq_none_iff]
  intro x hx
  rw [List.all_eq_true] at h
  simpa using h x hx
theorem idxF_hit {p : Int → Bool} {xs : List Int} {k : Nat} {x : Int} (h : (xs.take k).all (fun y => !p y) = true) (hx : xs[k]? = some x) (hp : p x = true) : idxF p xs = k := by
  unfold idxF; rw [findIdx?_take h hx hp]
theorem idxF_none {p : Int → Bool} {xs : List Int} (h : xs.all (fun y => !p y) = true) : idxF p xs = -1 := by
  unfold idxF; rw [findIdx?_nope h]
theorem all_take_snoc {α : Type} {p : α → Bool} {xs : List α} {k : Nat} {x : α} (h : (xs.take k).all p = true) (hx : xs[k]? = some x) (hp : p x = true) : (xs.take (k + 1)).all p = true := by
  rw [take_snoc hx, List.all_append, h]; simp [hp]
theorem idxF_ge (p : Int → Bool) (xs : List Int) : decide (0 ≤ idxF p xs) = xs.any p := by
  unfold idxF
  cases h : xs.findIdx? p with
  | none =>
    rw [List.findIdx?_eq_none_iff] at h
    have : xs.any p = false := by rw [List.any_eq_false]; intro x hx; rw [h x hx]; simp
    rw [this]; rfl
  | some k =>
    have : xs.any p = true := by
      rw [List.findIdx?_eq_some_iff_getElem] at h
      obtain ⟨hk, hp, _⟩ := h
      rw [List.any_eq_true]; exact ⟨_, List.getElem_mem hk, hp⟩
    rw [this]; simp

theorem all_not_any {α : Type} (p : α → Bool) (xs : List α) : (!xs.any (fun x => !p x)) = xs.all p := by
  rw [List.not_any_eq_all_not]; simp

theorem std_same {P : Program} {f : FuncId} {args : Array Value} {w : World} {v : Value} (h : Calls P f args w fun e w' => e = .returned v ∧ w = w') :
    Calls P f args w fun e w' => e = .returned v ∧ Below w.heap.size w w' := h.mono fun _ _ ⟨he, hw⟩ => ⟨he, by rw [← hw]; exact Below.refl _ _⟩
theorem std_drew {P : Program} {f : FuncId} {args : Array Value} {w : World} {v : Value} (h : Calls P f args w fun e w' => e = .returned v ∧ ∃ q, w' = w.drewN q) :
    Calls P f args w fun e w' => e = .returned v ∧ Below w.heap.size w w' := h.mono fun _ _ ⟨he, q, hw⟩ => ⟨he, by rw [hw]; exact below_of_drewN _ _ _⟩
theorem slI_of_row {w : World} {a : Option Addr} {len cap : Nat} {zs : List Int}
    (h : (a = none ∧ len = 0 ∧ cap = 0 ∧ zs = []) ∨ ∃ x, a = some x ∧ len ≤ cap ∧ cap ≤ maxLen ∧ zs.length = cap ∧ (∀ i, i < zs.length → w.cell? (x.add i) = some (.int .i64 (zs.getD i 0))) ∧ ∀ n ∈ zs, (Lit.int .i64 n).wf = true) :
    ∃ xs : List Int, xs.length = len ∧ SlI w a xs ∧ ∀ x ∈ xs, (Lit.int .i64 x).wf = true := by
  rcases h with ⟨rfl, rfl, rfl, rfl⟩ | ⟨x, rfl, hl, hm, hz, hc, hw⟩
  · exact ⟨[], rfl, .inl rfl, by simp⟩
  · refine ⟨zs.take len, by simp; omega, ?_, fun x hx => hw x (List.mem_of_mem_take hx)⟩
    by_cases h0 : 0 < zs.length
    · obtain ⟨b, off, rfl, hc'⟩ := ints_at hc h0
      refine .inr ⟨b, off, rfl, fun k y hy => ?_⟩
      rw [List.getElem?_take] at hy
      split at hy
      · have hk : k < zs.length := by
          rcases Nat.lt_or_ge k zs.length with h | h
          · exact h
          · rw [List.getElem?_eq_none h] at hy; cases hy
        rw [hc' k hk, List.getD_eq_getElem?_getD, hy]; rfl
      · cases hy
    · exact .inl (by have : zs = [] := List.eq_nil_of_length_eq_zero (by omega); rw [this]; simp)

theorem eqIntS_same (A B : Option Addr) (n m c d : Nat) (xs : List Int) (w : World) (hn : n = xs.length) (hm : m = xs.length) (hx : SlI w A xs) (hy : SlI w B xs) (h1 : xs.length ≤ 1048576) :
    Calls Tryd.prog 6 #[.slice A n c, .slice B m d] w fun e w' => e = .returned (.bool true) ∧ Below w.heap.size w w' := by
  have h := std_drew (eqIntS_any A B n m c d xs xs w hn hm hx hy h1 h1)
  rwa [eqL_self] at h

/-- n numbers from k on. -/
def seqI (k : Int) (n : Nat) : List Int := (List.range n).map (fun (j : Nat) => k + (j : Int))
theorem seqI_length (k : Int) (n : Nat) : (seqI k n).length = n := by simp [seqI]
theorem seqI_get {k : Int} {n j : Nat} (h : j < n) : (seqI k n)[j]? = some (k + (j : Int)) := by simp [seqI, h]
set_option maxHeartbeats 400000 in
theorem markIntS_any (A : Option Addr) (c lo hi : Nat) (n : Nat) (xs : List Int) (k : Int) (w : World) (hn : n = xs.length) (hs : Fr w lo hi (.slice A n c) xs) (h1 : xs.length ≤ 1048576) (h2 : 0 ≤ k) (h3 : k ≤ 1099511627776) :
    Calls Tryd.prog 7 #[.slice A n c, .int .i64 k] w fun e w' => e = .returned (.int .i64 (k + n)) ∧ Fr w' lo hi (.slice A n c) (seqI k n) ∧ Keep lo hi w w' := by
  have Hn := Lib.hid hn
  have hn' : n ≤ 1048576 := by omega
  clear hn
  go_enter Tryd.func7, Tryd.ntmps7
  go_wp2
  go_loopw [1, 5] (fun kv i wr => ∃ j : Nat, j ≤ n ∧ i = .int .i64 j ∧ kv = .int .i64 (k + (j : Int)) ∧ Fr wr lo hi (.slice A n c) (seqI k j ++ xs.drop j) ∧ Keep lo hi w wr) (fun _ i _ => n - (intOf i).toNat)
  case atStart => exact ⟨0, Nat.zero_le _, rfl, by simp, by simpa [seqI] using hs, Keep.refl _ _ _⟩
  case round =>
    obtain ⟨j, hj, rfl, rfl, hfr, hk⟩ := hrel
    clear hs
    by_cases hlt : j < n
    · have hlen : (seqI k j ++ xs.drop j).length = n := by simp [seqI]; have := Hn.out; omega
      obtain ⟨g, y, rfl, hg1, hg2, hy, hc, hf, hst⟩ := hfr.at_ (k := j) (by omega)
      have HST := Lib.hid (hst (k + (j : Int)))
      have HK := Lib.hid hk
      have HL := Lib.hid hlen
      clear hst hy hfr hk hlen
      go_wp2
      go_roundw
      case rel =>
        refine ⟨j + 1, by omega, by go_num, by go_num, ?_, HK.out.trans HST.out.2⟩
        have h := HST.out.1
        have hj' : j < xs.length := by have := Hn.out; omega
        have e : (seqI k j ++ xs.drop j).set j (k + (j : Int)) = seqI k (j + 1) ++ xs.drop (j + 1) := by
          rw [List.set_append_right _ _ (by rw [seqI_length]; exact Nat.le_refl _), seqI_length, Nat.sub_self, List.drop_eq_getElem_cons hj', List.set_cons_zero]
          simp [seqI, List.range_succ]
        rw [e] at h
        exact h
      case measure => simp [intOf]; omega
    · obtain rfl : j = n := by omega
      have HF := Lib.hid hfr
      have HK := Lib.hid hk
      clear hfr hk
      go_wp2
      go_ret
      refine ⟨ret_int (by omega), ?_, HK.out⟩
      have h := HF.out
      rw [List.drop_of_length_le (by have := Hn.out; omega), List.append_nil] at h
      exact h

set_option maxHeartbeats 400000 in
theorem heldIntS_any (A : Option Addr) (c : Nat) (n : Nat) (k : Int) (w : World) (hs : SlI w A (seqI k n)) (h1 : n ≤ 1048576) (h2 : 0 ≤ k) (h3 : k ≤ 1099511627776) :
    Calls Tryd.prog 8 #[.slice A n c, .int .i64 k] w fun e w' => e = .returned (.int .i64 (k + n)) ∧ Below w.heap.size w w' := by
  go_enter Tryd.func8, Tryd.ntmps8
  go_wp2
  go_loopw [1, 5] (fun kv i wr => ∃ j : Nat, j ≤ n ∧ i = .int .i64 j ∧ kv = .int .i64 (k + (j : Int)) ∧ Hid (∃ q, wr = w.drewN q)) (fun _ i _ => n - (intOf i).toNat)
  case atStart => exact ⟨0, Nat.zero_le _, rfl, by simp, 0, rfl⟩
  case round =>
    obtain ⟨j, hj, rfl, rfl, HQ⟩ := hrel
    obtain ⟨q0, rfl⟩ := HQ
    by_cases hlt : j < n
    · obtain ⟨b, off, x, rfl, hx1, hx2, _⟩ := (hs.drewN q0).at_ (k := j) (by rw [seqI_length]; exact hlt)
      rw [seqI_get hlt] at hx1
      injection hx1 with hx1
      subst hx1
      have hx3 := hx2
      clear hx2 hs
      obtain ⟨w0, hw0⟩ : ∃ w0, w0 = w.drewN q0 := ⟨_, rfl⟩
      rw [← hw0] at hx3 ⊢
      have Hw := Lib.hid hw0
      clear hw0
      go_wp2
      try (go_quiet (fail))
      all_goals (try go_wp2)
      all_goals go_roundw
      case rel =>
        refine ⟨j + 1, by omega, by go_num, by go_num, ?_⟩
        rw [Hw.out]
        first | exact ⟨_, World.drewN_drewN _ _ _⟩ | exact ⟨_, rfl⟩
      case measure => simp [intOf]; omega
    · obtain rfl : j = n := by omega
      go_wp2
      go_ret
      exact ⟨ret_int (by omega), below_of_drewN _ _ _⟩

set_option maxRecDepth 100000 in
/-- 'append(out, src...)' at a row of the call's own, the source not nil. -/
theorem appSrc {ops : Array Oper} {rest : List Oper} {o : Oper} {a : Act} {Q : Exit → Act → World → Prop} (hgd : o.guard = none) (s y : Operand)
    (ho : o.op = .call { callee := .builtin .append, args := #[s, y], argTypes := #[22, 22] })
    (w : World) (base : Nat) (v : Value) (n : Nat) (xs : List Int) (hs : a.eval s = v) (hown : w.ownsRow base 3 1 v n (ints xs)) (ad : Addr) (m c : Nat) (ys : List Int) (hm : ys.length = m)
    (hx : a.eval y = .slice (some ad) m c) (hys : SlI w (some ad) ys) (hl : n + m ≤ 1048576) (hbase : base ≤ w.heap.size)
    (h : ∀ v' w', w'.ownsRow base 3 1 v' (n + m) (ints (xs ++ ys)) → (∀ B, B ≤ base → B ≤ w.heap.size → Below B w w') → w.grownBy w' v.ownBlock → wpList Tryd.prog ops Q rest (a.put o.dst v') w') :
    wpList Tryd.prog ops Q (o :: rest) a w := by
  obtain ⟨i0, hi, hz0, hz1, hz2⟩ := info_parts infoInt
  refine wpList_append_own _ hgd s y _ ho base 3 i0 (.int .i64 0) 1 8 Tryd.underlying22 hi hz0 hz1 hz2 rfl (by decide) v n (ints xs) hs hown ad m c (ints ys) hx (by simp [ints, hm]) ?_ ?_ (by unfold maxLen; omega) (by omega) hbase ?_
  · intro j u hj
    rcases hys with rfl | ⟨b, off, hA, hc⟩
    · simp [ints] at hj
    · injection hA with hA
      subst hA
      simp only [ints, List.getElem?_map, Option.map_eq_some_iff] at hj
      obtain ⟨y, hy, rfl⟩ := hj
      rw [Go.WideShapes.add_plain]; exact hc j y hy
  · intro u hu
    simp only [ints, List.mem_map] at hu
    obtain ⟨y, _, rfl⟩ := hu; rfl
  · intro v' w' h2 h3 _
    refine h v' w' (by rw [ints_append]; exact h2) (fun B h4 h5 => ?_) h3
    refine (Below.refl B w).grown h3 h5 (fun k hk => ?_)
    have := (hown.lt k hk).1; omega

def sumB (xs : List Int) : Prop := ∀ x ∈ xs, -1000000 ≤ x ∧ x ≤ 1000000
theorem sumB_take {xs : List Int} (h : sumB xs) (k : Nat) (hk : k ≤ xs.length) : -1000000 * (k : Int) ≤ (xs.take k).sum ∧ (xs.take k).sum ≤ 1000000 * (k : Int) := by
  induction k with
  | zero => simp
  | succ k ih =>
    have ih := ih (by omega)
    have hx : xs[k]? = some xs[k] := List.getElem?_eq_getElem (by omega)
    have hb := h xs[k] (List.getElem_mem _)
    rw [take_snoc hx, List.sum_append]
    simp only [List.sum_cons, List.sum_nil]
    omega
theorem sum_snoc {xs : List Int} {k : Nat} {x : Int} (h : xs[k]? = some x) : (xs.take (k + 1)).sum = (xs.take k).sum + x := by
  rw [take_snoc h, List.sum_append]; simp
end Go.Proofs.YtbhinnkjadfgcaaDoor
