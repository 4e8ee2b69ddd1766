/- Contracts of the laws' own helpers on slices of integers, and of Go's small slice functions. -/
import Derived.Test.YtpjbgcflepebgaaDoorSl
import Derived.Test.YtpjbgcflepebgaaDoorNum
import Derived.WalkSpells
namespace Go.Proofs.YtpjbgcflepebgaaDoor
open Go.ChangeShapes Go.WideShapes Go.ChangeAt Go.RowKit

/-- The first index at which p holds, -1 if there is none. -/
def idxF (p : Int → Bool) (xs : List Int) : Int := match xs.findIdx? p with | some k => (k : Int) | none => -1
theorem findIdx?_take {α : Type} {p : α → Bool} {xs : List α} {k : Nat} {x : α} (h : (xs.take k).all (fun y => !p y) = true) (hx : xs[k]? = some x) (hp : p x = true) : xs.findIdx? p = some k := by
  have hk : k < xs.length := by
    rcases Nat.lt_or_ge k xs.length with h' | h'
    · exact h'
    · rw [List.getElem?_eq_none h'] at hx; cases hx
  rw [List.findIdx?_eq_some_iff_getElem]
  refine ⟨hk, by rw [List.getElem?_eq_getElem hk] at hx; injection hx with hx; rw [hx]; exact hp, fun j hj => ?_⟩
  rw [List.all_eq_true] at h
  have hjm : xs[j]'(by omega) ∈ xs.take k := by
    rw [List.mem_take_iff_getElem]
    exact ⟨j, by omega, rfl⟩
  simpa using h _ hjm
theorem findIdx?_nope {α : Type} {p : α → Bool} {xs : List α} (h : xs.all (fun y => !p y) = true) : xs.findIdx? p = none := by
  rw [List.findIdx?_eq_none_iff]
  intro x hx
  rw [List.all_eq_true] at h
  simpa using h x hx
theorem idxF_hit {p : Int → Bool} {xs : List Int} {k : Nat} {x : Int} (h : (xs.take k).all (fun y => !p y) = true) (hx : xs[k]? = some x) (hp : p x = true) : idxF p xs = k := by
  unfold idxF; rw [findIdx?_take h hx hp]
theorem idxF_none {p : Int → Bool} {xs : List Int} (h : xs.all (fun y => !p y) = true) : idxF p xs = -1 := by
  unfold idxF; rw [findIdx?_nope h]
theorem all_take_snoc {α : Type} {p : α → Bool} {xs : List α} {k : Nat} {x : α} (h : (xs.take k).all p = true) (hx : xs[k]? = some x) (hp : p x = true) : (xs.take (k + 1)).all p = true := by
  rw [take_snoc hx, List.all_append, h]; simp [hp]
theorem idxF_ge (p : Int → Bool) (xs : List Int) : decide (0 ≤ idxF p xs) = xs.any p := by
  unfold idxF
  cases h : xs.findIdx? p with
  | none =>
    rw [List.findIdx?_eq_none_iff] at h
    have : xs.any p = false := by rw [List.any_eq_false]; intro x hx; rw [h x hx]; simp
    rw [this]; rfl
  | some k =>
    have : xs.any p = true := by
      rw [List.findIdx?_eq_some_iff_getElem] at h
      obtain ⟨hk, hp, _⟩ := h
      rw [List.any_eq_true]; exact ⟨_, List.getElem_mem hk, hp⟩
    rw [this]; simp

theorem all_not_any {α : Type} (p : α → Bool) (xs : List α) : (!xs.any (fun x => !p x)) = xs.all p := by
  rw [List.not_any_eq_all_not]; simp

theorem std_same {P : Program} {f : FuncId} {args : Array Value} {w : World} {v : Value} (h : Calls P f args w fun e w' => e = .returned v ∧ w = w') :
    Calls P f args w fun e w' => e = .returned v ∧ Below w.heap.size w w' := h.mono fun _ _ ⟨he, hw⟩ => ⟨he, by rw [← hw]; exact Below.refl _ _⟩
theorem std_drew {P : Program} {f : FuncId} {args : Array Value} {w : World} {v : Value} (h : Calls P f args w fun e w' => e = .returned v ∧ ∃ q, w' = w.drewN q) :
    Calls P f args w fun e w' => e = .returned v ∧ Below w.heap.size w w' := h.mono fun _ _ ⟨he, q, hw⟩ => ⟨he, by rw [hw]; exact below_of_drewN _ _ _⟩
theorem slI_of_row {w : World} {a : Option Addr} {len cap : Nat} {zs : List Int}
    (h : (a = none ∧ len = 0 ∧ cap = 0 ∧ zs = []) ∨ ∃ x, a = some x ∧ len ≤ cap ∧ cap ≤ maxLen ∧ zs.length = cap ∧ (∀ i, i < zs.length → w.cell? (x.add i) = some (.int .i64 (zs.getD i 0))) ∧ ∀ n ∈ zs, (Lit.int .i64 n).wf = true) :
    ∃ xs : List Int, xs.length = len ∧ SlI w a xs ∧ ∀ x ∈ xs, (Lit.int .i64 x).wf = true := by
  rcases h with ⟨rfl, rfl, rfl, rfl⟩ | ⟨x, rfl, hl, hm, hz, hc, hw⟩
  · exact ⟨[], rfl, .inl rfl, by simp⟩
  · refine ⟨zs.take len, by simp; omega, ?_, fun x hx => hw x (List.mem_of_mem_take hx)⟩
    by_cases h0 : 0 < zs.length
    · obtain ⟨b, off, rfl, hc'⟩ := ints_at hc h0
      refine .inr ⟨b, off, rfl, fun k y hy => ?_⟩
      rw [List.getElem?_take] at hy
      split at hy
      · have hk : k < zs.length := by
          rcases Nat.lt_or_ge k zs.length with h | h
          · exact h
          · rw [List.getElem?_eq_none h] at hy; cases hy
        rw [hc' k hk, List.getD_eq_getElem?_getD, hy]; rfl
      · cases hy
    · exact .inl (by have : zs = [] := List.eq_nil_of_length_eq_zero (by omega); rw [this]; simp)

set_option maxRecDepth 100000 in
/-- 'append(out, src...)' at a row of the call's own, the source not nil. -/
theorem appSrc {ops : Array Oper} {rest : List Oper} {o : Oper} {a : Act} {Q : Exit → Act → World → Prop} (hgd : o.guard = none) (s y : Operand)
    (ho : o.op = .call { callee := .builtin .append, args := #[s, y], argTypes := #[39, 39] })
    (w : World) (base : Nat) (v : Value) (n : Nat) (xs : List Int) (hs : a.eval s = v) (hown : w.ownsRow base 3 1 v n (ints xs)) (ad : Addr) (m c : Nat) (ys : List Int) (hm : ys.length = m)
    (hx : a.eval y = .slice (some ad) m c) (hys : SlI w (some ad) ys) (hl : n + m ≤ 1048576) (hbase : base ≤ w.heap.size)
    (h : ∀ v' w', w'.ownsRow base 3 1 v' (n + m) (ints (xs ++ ys)) → (∀ B, B ≤ base → B ≤ w.heap.size → Below B w w') → w.grownBy w' v.ownBlock → wpList Tryd.prog ops Q rest (a.put o.dst v') w') :
    wpList Tryd.prog ops Q (o :: rest) a w := by
  obtain ⟨i0, hi, hz0, hz1, hz2⟩ := info_parts infoInt
  refine wpList_append_own _ hgd s y _ ho base 3 i0 (.int .i64 0) 1 8 Tryd.underlying39 hi hz0 hz1 hz2 rfl (by decide) v n (ints xs) hs hown ad m c (ints ys) hx (by simp [ints, hm]) ?_ ?_ (by unfold maxLen; omega) (by omega) hbase ?_
  · intro j u hj
    rcases hys with rfl | ⟨b, off, hA, hc⟩
    · simp [ints] at hj
    · injection hA with hA
      subst hA
      simp only [ints, List.getElem?_map, Option.map_eq_some_iff] at hj
      obtain ⟨y, hy, rfl⟩ := hj
      rw [Go.WideShapes.add_plain]; exact hc j y hy
  · intro u hu
    simp only [ints, List.mem_map] at hu
    obtain ⟨y, _, rfl⟩ := hu; rfl
  · intro v' w' h2 h3 _
    refine h v' w' (by rw [ints_append]; exact h2) (fun B h4 h5 => ?_) h3
    refine (Below.refl B w).grown h3 h5 (fun k hk => ?_)
    have := (hown.lt k hk).1; omega

def sumB (xs : List Int) : Prop := ∀ x ∈ xs, -1000000 ≤ x ∧ x ≤ 1000000
theorem sumB_take {xs : List Int} (h : sumB xs) (k : Nat) (hk : k ≤ xs.length) : -1000000 * (k : Int) ≤ (xs.take k).sum ∧ (xs.take k).sum ≤ 1000000 * (k : Int) := by
  induction k with
  | zero => simp
  | succ k ih =>
    have ih := ih (by omega)
    have hx : xs[k]? = some xs[k] := List.getElem?_eq_getElem (by omega)
    have hb := h xs[k] (List.getElem_mem _)
    rw [take_snoc hx, List.sum_append]
    simp only [List.sum_cons, List.sum_nil]
    omega
theorem sum_snoc {xs : List Int} {k : Nat} {x : Int} (h : xs[k]? = some x) : (xs.take (k + 1)).sum = (xs.take k).sum + x := by
  rw [take_snoc h, List.sum_append]; simp
end Go.Proofs.YtpjbgcflepebgaaDoor
