/- Slices of integers in memory: predicates, how they are kept, and the laws on make, store and append for them. -/
import Derived.Test.YtklhplifceedeaaDoorBase
import Derived.Laws.OwnMore
import Derived.Deep.Draws
namespace Go.Proofs.YtklhplifceedeaaDoor
open Go.ChangeShapes Go.WideShapes Go.ChangeAt Go.RowKit

/-- The slice address A reads as the integers xs in the world w. -/
def SlI (w : World) (A : Option Addr) (xs : List Int) : Prop :=
  xs = [] ∨ ∃ b off, A = some ⟨b, off, none⟩ ∧ ∀ k x, xs[k]? = some x → w.cell? ⟨b, off + k, none⟩ = some (.int .i64 x)
theorem SlI.at_ {w : World} {A : Option Addr} {xs : List Int} (h : SlI w A xs) {k : Nat} (hk : k < xs.length) :
    ∃ b off x, A = some ⟨b, off, none⟩ ∧ xs[k]? = some x ∧ w.cell? ⟨b, off + k, none⟩ = some (.int .i64 x) ∧ b < w.heap.size := by
  rcases h with rfl | ⟨b, off, rfl, h⟩
  · simp at hk
  · have h0 : xs[k]? = some xs[k] := List.getElem?_eq_getElem hk
    exact ⟨b, off, xs[k], rfl, h0, h k _ h0, block_lt_of_cell (h k _ h0)⟩
theorem SlI.keep {w w' : World} {A : Option Addr} {xs : List Int} (h : SlI w A xs) (hk : ∀ p : Addr, p.block < w.heap.size → w'.cell? p = w.cell? p) : SlI w' A xs := by
  rcases h with rfl | ⟨b, off, rfl, h⟩
  · exact .inl rfl
  · exact .inr ⟨b, off, rfl, fun k x hx => by rw [hk _ (block_lt_of_cell (h k x hx))]; exact h k x hx⟩
theorem SlI.below {w w' : World} {A : Option Addr} {xs : List Int} (h : SlI w A xs) (hb : Below w.heap.size w w') : SlI w' A xs := h.keep fun _ hp => hb.cell hp
theorem SlI.drewN {w : World} {A : Option Addr} {xs : List Int} (h : SlI w A xs) (q : Nat) : SlI (w.drewN q) A xs := h
theorem SlI.drew {w : World} {A : Option Addr} {xs : List Int} (h : SlI w A xs) : SlI w.drew A xs := h
theorem SlI.alloc {w : World} {A : Option Addr} {xs : List Int} (h : SlI w A xs) (o : Obj) : SlI (w.alloc o) A xs := h.keep fun p hp => World.cell?_alloc_lt w o p hp
theorem SlI.nil {w : World} {A : Option Addr} : SlI w A [] := .inl rfl
theorem take_snoc {α : Type} {xs : List α} {k : Nat} {x : α} (h : xs[k]? = some x) : xs.take (k + 1) = xs.take k ++ [x] := by
  rw [List.take_add_one, h]; rfl
theorem below_drewN {B : Nat} {a w : World} (h : Below B a w) (n : Nat) : Below B a (w.drewN n) := ⟨h.os, h.tape, h.output, h.size, h.block⟩
theorem below_of_drewN (B : Nat) (w : World) (n : Nat) : Below B w (w.drewN n) := below_drewN (Below.refl _ _) n
theorem below_from {B : Nat} {a w : World} (h : Below B (a.drewN 0) w) : Below B a w := h
theorem below_undraw {B q : Nat} {a w : World} (h : Below B (a.drewN q) w) : Below B a w := ⟨h.os, h.tape, h.output, h.size, h.block⟩

/-- Only blocks from lo to hi, and new ones, have turned. -/
structure Keep (lo hi : Nat) (w w' : World) : Prop where
  os : w'.os = w.os
  tape : w'.tape = w.tape
  output : w'.output = w.output
  size : w.heap.size ≤ w'.heap.size
  block : ∀ k, k < w.heap.size → k < lo ∨ hi ≤ k → w'.heap[k]? = w.heap[k]?
theorem Keep.refl (lo hi : Nat) (w : World) : Keep lo hi w w := ⟨rfl, rfl, rfl, Nat.le_refl _, fun _ _ _ => rfl⟩
theorem Keep.of_below {lo hi B : Nat} {w w' : World} (h : Below B w w') (hB : w.heap.size ≤ B) : Keep lo hi w w' :=
  ⟨h.os, h.tape, h.output, h.size, fun k hk _ => h.block k (by omega)⟩
theorem Keep.of_below' {lo hi B : Nat} {w w' : World} (h : Below B w w') (hB : lo ≤ B) (hh : w.heap.size ≤ hi) : Keep lo hi w w' :=
  ⟨h.os, h.tape, h.output, h.size, fun k hk hd => h.block k (by omega)⟩
theorem Keep.trans {lo hi : Nat} {a b c : World} (h : Keep lo hi a b) (k : Keep lo hi b c) : Keep lo hi a c :=
  ⟨k.os.trans h.os, k.tape.trans h.tape, k.output.trans h.output, Nat.le_trans h.size k.size, fun i hi hd => (k.block i (Nat.lt_of_lt_of_le hi h.size) hd).trans (h.block i hi hd)⟩
theorem Keep.wide {lo hi lo' hi' : Nat} {w w' : World} (h : Keep lo hi w w') (h1 : lo' ≤ lo) (h2 : hi ≤ hi') : Keep lo' hi' w w' :=
  ⟨h.os, h.tape, h.output, h.size, fun k hk hd => h.block k hk (by omega)⟩
theorem Keep.below {lo hi B : Nat} {w w' : World} (h : Keep lo hi w w') (h1 : B ≤ lo) (h2 : B ≤ w.heap.size) : Below B w w' :=
  ⟨h.os, h.tape, h.output, h.size, fun k hk => h.block k (by omega) (by omega)⟩
theorem Keep.drewN {lo hi : Nat} {w w' : World} (h : Keep lo hi w w') (q : Nat) : Keep lo hi w (w'.drewN q) := ⟨h.os, h.tape, h.output, h.size, h.block⟩
theorem Keep.setCell {lo hi : Nat} {w w' : World} (h : Keep lo hi w w') {p : Addr} (h1 : lo ≤ p.block) (h2 : p.block < hi) (u : Value) : Keep lo hi w (w'.setCell p u) :=
  h.trans ⟨rfl, rfl, rfl, by simp [World.setCell], fun k _ hd => Below.heap_setCell _ _ _ _ (by omega)⟩
theorem Keep.alloc {lo hi : Nat} {w w' : World} (h : Keep lo hi w w') (o : Obj) : Keep lo hi w (w'.alloc o) :=
  h.trans ⟨rfl, rfl, rfl, by simp, fun k hk _ => Below.heap_alloc _ _ _ hk⟩

def ints (xs : List Int) : List Value := xs.map (Value.int .i64)
theorem ints_nil : ints [] = [] := rfl
theorem ints_length (xs : List Int) : (ints xs).length = xs.length := by simp [ints]
theorem ints_append (xs ys : List Int) : ints (xs ++ ys) = ints xs ++ ints ys := by simp [ints]
theorem ints_get {xs : List Int} {k : Nat} {x : Int} (h : xs[k]? = some x) : (ints xs)[k]? = some (.int .i64 x) := by simp [ints, h]
theorem ints_set (xs : List Int) (j : Nat) (x : Int) : (ints xs).set j (.int .i64 x) = ints (xs.set j x) := by simp [ints, List.map_set]
theorem ints_replicate (n : Nat) : (madeCells (Value.int .i64 0).cells (n * 1)).toList = ints (List.replicate n 0) := by
  show (madeCells #[Value.int .i64 0] (n * 1)).toList = _
  rw [toList_madeCells_one]; simp [ints]

/-- The slice value v owns a row of its own, in a block from lo to hi, that holds the integers xs. -/
def Fr (w : World) (lo hi : Nat) (v : Value) (xs : List Int) : Prop :=
  w.ownsRow lo 3 1 v xs.length (ints xs) ∧ (∀ g, v.ownBlock = some g → g < hi) ∧ hi ≤ w.heap.size
theorem Fr.own {w : World} {lo hi : Nat} {v : Value} {xs : List Int} (h : Fr w lo hi v xs) : w.ownsRow lo 3 1 v xs.length (ints xs) := h.1
theorem Fr.form {w : World} {lo hi : Nat} {v : Value} {xs : List Int} (h : Fr w lo hi v xs) : ∃ A c, v = .slice A xs.length c ∧ xs.length ≤ c ∧ c ≤ maxLen := by
  rcases h.1.2 with ⟨rfl, hn⟩ | ⟨g, cap, cur, rfl, _, _, hc, hm, _⟩
  · exact ⟨none, 0, by rw [hn], by omega, by unfold maxLen; omega⟩
  · exact ⟨_, cap, rfl, hc, hm⟩
theorem Fr.sl {w : World} {lo hi n c : Nat} {A : Option Addr} {xs : List Int} (h : Fr w lo hi (.slice A n c) xs) : SlI w A xs := by
  rcases h.1.2 with ⟨he, hn⟩ | ⟨g, cap, cur, he, _, hh, hc, hm, hs, ht⟩
  · exact .inl (List.eq_nil_of_length_eq_zero hn)
  · injection he with h1 h2 h3
    subst h1
    refine .inr ⟨g, 0, rfl, fun k x hx => ?_⟩
    have hk : k < xs.length := by
      rcases Nat.lt_or_ge k xs.length with h | h
      · exact h
      · rw [List.getElem?_eq_none h] at hx; cases hx
    rw [cell_of_row w g (0 + k) cur _ _ hh, Nat.zero_add]
    have h5 : (ints xs)[k]? = some (.int .i64 x) := ints_get hx
    rw [← ht, List.getElem?_take, if_pos (by omega)] at h5
    simpa using h5
theorem Fr.len {w : World} {lo hi n c : Nat} {A : Option Addr} {xs : List Int} (h : Fr w lo hi (.slice A n c) xs) : n = xs.length := by
  obtain ⟨A', c', he, _⟩ := h.form
  injection he
theorem Fr.keep {w w' : World} {lo hi l2 h2 : Nat} {v : Value} {xs : List Int} (h : Fr w lo hi v xs) (hk : Keep l2 h2 w w') (hd : hi ≤ l2 ∨ h2 ≤ lo) : Fr w' lo hi v xs := by
  obtain ⟨h1, hg, hs⟩ := h
  refine ⟨⟨h1.1, ?_⟩, hg, Nat.le_trans hs hk.size⟩
  rcases h1.2 with h1 | ⟨g, cap, cur, rfl, hb, hh, r⟩
  · exact .inl h1
  · have hgh := hg g rfl
    exact .inr ⟨g, cap, cur, rfl, hb, by rw [hk.block g (by omega) (by omega)]; exact hh, r⟩
theorem Fr.below {w w' : World} {lo hi B : Nat} {v : Value} {xs : List Int} (h : Fr w lo hi v xs) (hb : Below B w w') (hB : hi ≤ B) : Fr w' lo hi v xs := by
  obtain ⟨h1, hg, hs⟩ := h
  refine ⟨⟨h1.1, ?_⟩, hg, Nat.le_trans hs hb.size⟩
  rcases h1.2 with h1 | ⟨g, cap, cur, rfl, hb', hh, r⟩
  · exact .inl h1
  · have hgh := hg g rfl
    exact .inr ⟨g, cap, cur, rfl, hb', by rw [hb.block g (by omega)]; exact hh, r⟩
theorem Fr.drewN {w : World} {lo hi : Nat} {v : Value} {xs : List Int} (h : Fr w lo hi v xs) (q : Nat) : Fr (w.drewN q) lo hi v xs := h
theorem Fr.of_own {w : World} {lo : Nat} {v : Value} {xs : List Int} (h : w.ownsRow lo 3 1 v xs.length (ints xs)) : Fr w lo w.heap.size v xs :=
  ⟨h, fun g hg => (h.lt g hg).2, Nat.le_refl _⟩
theorem Fr.wide {w : World} {lo hi lo' hi' : Nat} {v : Value} {xs : List Int} (h : Fr w lo hi v xs) (h1 : lo' ≤ lo) (h2 : hi ≤ hi') (h3 : hi' ≤ w.heap.size) : Fr w lo' hi' v xs := by
  obtain ⟨h, hg, hs⟩ := h
  refine ⟨⟨h.1, ?_⟩, fun g e => Nat.lt_of_lt_of_le (hg g e) h2, h3⟩
  rcases h.2 with h | ⟨g, cap, cur, rfl, hb, r⟩
  · exact .inl h
  · exact .inr ⟨g, cap, cur, rfl, by omega, r⟩
theorem Fr.nil (w : World) {lo hi : Nat} (h : hi ≤ w.heap.size) : Fr w lo hi (.slice none 0 0) [] :=
  ⟨World.ownsRow_nil _ _ _ _, fun g hg => by simp [Value.ownBlock] at hg, h⟩
/-- An element that is there: where it lies, that it may be written, and what holds behind a store. -/
theorem Fr.at_ {w : World} {lo hi n c : Nat} {A : Option Addr} {xs : List Int} (h : Fr w lo hi (.slice A n c) xs) {k : Nat} (hk : k < xs.length) :
    ∃ g x, A = some ⟨g, 0, none⟩ ∧ lo ≤ g ∧ g < hi ∧ xs[k]? = some x ∧ w.cell? ⟨g, k, none⟩ = some (.int .i64 x) ∧ w.frozen? ⟨g, k, none⟩ = false ∧
      ∀ y, Fr (w.setCell ⟨g, k, none⟩ (.int .i64 y)) lo hi (.slice A n c) (xs.set k y) ∧ Keep lo hi w (w.setCell ⟨g, k, none⟩ (.int .i64 y)) := by
  have hn := h.len
  subst hn
  obtain ⟨h1, hg, hs⟩ := h
  have h1' := h1
  rcases h1.2 with ⟨he, hn⟩ | ⟨g, cap, cur, he, hb, hh, r⟩
  · omega
  · injection he with e1 e2 e3
    subst e1; subst e3
    have hgh := hg g rfl
    have hx : xs[k]? = some xs[k] := List.getElem?_eq_getElem hk
    refine ⟨g, xs[k], rfl, hb, hgh, hx, by rw [h1'.cellAt k (by omega)]; exact ints_get hx, h1'.frozenAt k, fun y => ?_⟩
    have hst := h1'.stored k (.int .i64 y)
    refine ⟨⟨?_, fun g' hg' => ?_, by simpa [World.setCell] using hs⟩, (Keep.refl _ _ _).setCell hb hgh _⟩
    · rw [List.length_set, ← ints_set]; exact hst.1
    · exact hg g' hg'

theorem infoInt : (Tryd.prog.info? 3).map (fun i => (i.zero, i.size, i.bytes)) = some (some (.int .i64 0), 1, 8) := by kernel_rfl

/-- 'out = append(out, x)' at a row of the call's own. -/
theorem app1 {ops : Array Oper} {rest : List Oper} {o : Oper} {a : Act} {Q : Exit → Act → World → Prop} (hgd : o.guard = none) (s y : Operand)
    (ho : o.op = .call { callee := .builtin .append, args := #[s, y], argTypes := #[22, 22] })
    (w : World) (base : Nat) (v : Value) (n : Nat) (xs : List Int) (hs : a.eval s = v) (hown : w.ownsRow base 3 1 v n (ints xs)) (x : Int)
    (hx : a.eval y = .slice (some ⟨w.heap.size, 0, none⟩) 1 1) (hl : n ≤ 1048576) (hbase : base ≤ w.heap.size)
    (h : ∀ v' w', w'.ownsRow base 3 1 v' (n + 1) (ints (xs ++ [x])) → (∀ B, B ≤ base → B ≤ w.heap.size → Below B w w') → w.heap.size < w'.heap.size → w.grownBy w' v.ownBlock → wpList Tryd.prog ops Q rest (a.put o.dst v') w') :
    wpList Tryd.prog ops Q (o :: rest) a (w.alloc (.cells #[.int .i64 x] 3)) := by
  obtain ⟨i0, hi, hz0, hz1, hz2⟩ := info_parts infoInt
  refine wpList_append_own _ hgd s y _ ho base 3 i0 (.int .i64 0) 1 8 Tryd.underlying22 hi hz0 hz1 hz2 rfl (by decide) v n (ints xs) hs (hown.alloc _) ⟨w.heap.size, 0, none⟩ 1 1 [.int .i64 x] hx rfl ?_ ?_ (by unfold maxLen; omega) (by omega) (by simp; omega) ?_
  · intro j u hj
    match j, hj with
    | 0, hj => simp at hj; subst hj; simp [Addr.add]
  · intro u hu; simp at hu; subst hu; rfl
  · intro v' w' h2 h3 _
    have hsz := h3.size
    simp only [World.size_alloc] at hsz
    refine h v' w' (by rw [ints_append]; exact h2) (fun B h4 h5 => ?_) (by omega) ?_
    · refine ((Below.refl B w).alloc h5 _).grown h3 (by simp; omega) (fun k hk => ?_)
      have := (hown.lt k hk).1; omega
    · exact ⟨h3.os, h3.tape, h3.output, by omega, fun k hk hne => by rw [h3.block k (by simp; omega) hne]; exact Below.heap_alloc _ _ _ hk⟩

/-- 'out := make([]int, n)'. -/
theorem makeI {ops : Array Oper} {rest : List Oper} {o : Oper} {a : Act} {Q : Exit → Act → World → Prop} (hgd : o.guard = none) (l c : Operand)
    (ho : o.op = Op.makeSlice 22 l c) (w : World) (n : Nat) (hl : a.eval l = .int .i64 n) (hc : a.eval c = .int .i64 n) (hn : n ≤ 1048576)
    (h : ∀ w', Fr w' w.heap.size w'.heap.size (.slice (some ⟨w.heap.size, 0, none⟩) n n) (List.replicate n 0) → Below w.heap.size w w' → w'.heap.size = w.heap.size + 1 → wpList Tryd.prog ops Q rest (a.put o.dst (.slice (some ⟨w.heap.size, 0, none⟩) n n)) w') :
    wpList Tryd.prog ops Q (o :: rest) a w := by
  obtain ⟨i0, hi, hz0, hz1, hz2⟩ := info_parts infoInt
  refine wpList_plain hgd fun K hK' => ?_
  have hr := run_make (P := Tryd.prog) w 22 3 i0 (.int .i64 0) Tryd.underlying22 hi hz0 .i64 .i64 n n (by omega) (Int.le_refl _) (by rw [hz2]; omega) (by omega)
  simp only [Int.toNat_natCast] at hr
  unfold Oper.wp
  simp [execOp, ho, hl, hc, hr, Result.andThen]
  refine hK' _ _ (h _ ?_ ((Below.refl _ w).alloc (Nat.le_refl _) _) (by simp))
  rw [hz1]
  have h1 := World.ownsRow_lit (base := w.heap.size) (e := 3) (size := 1) w (madeCells (Value.int .i64 0).cells (n * 1)) n (Nat.le_refl _) (by unfold maxLen; omega) (size_madeCells _ _)
  rw [ints_replicate] at h1
  exact Fr.of_own (by rw [List.length_replicate]; exact h1)
end Go.Proofs.YtklhplifceedeaaDoor
