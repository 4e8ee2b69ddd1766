/- Orders: ladders, places, inverse orders. -/
import Derived.Test.YtklhplifceedeaaDoorStd
namespace Go.Proofs.YtklhplifceedeaaDoor
open Go.ChangeShapes Go.WideShapes Go.ChangeAt Go.RowKit

/-- The place of x in xs, -1 if it is not there. -/
def plc (xs : List Int) (x : Int) : Int := idxF (fun y => x == y) xs
theorem plc_comm (xs : List Int) (x : Int) : idxF (fun y => y == x) xs = plc xs x := by
  have : (fun y : Int => y == x) = (fun y => x == y) := by funext y; exact Bool.beq_comm
  rw [this]; rfl
theorem plc_bd (xs : List Int) (x : Int) : -1 ≤ plc xs x ∧ plc xs x < xs.length := by
  unfold plc idxF
  cases h : xs.findIdx? (fun y => x == y) with
  | none => exact ⟨by decide, by show (-1 : Int) < _; omega⟩
  | some k =>
    rw [List.findIdx?_eq_some_iff_getElem] at h
    obtain ⟨hk, _⟩ := h
    exact ⟨by show (-1 : Int) ≤ (k : Int); omega, by show (k : Int) < _; omega⟩
theorem plc_ge (xs : List Int) (x : Int) : decide (0 ≤ plc xs x) = xs.contains x := by
  unfold plc; rw [idxF_ge, Bool.eq_iff_iff]; simp
theorem all_ne_of {xs : List Int} {k : Nat} {x y : Int} (h : (xs.take k).all (fun y => !(x == y)) = true) (hy : xs[k]? = some y) (he : (x == y) = false) : (xs.take (k + 1)).all (fun y => !(x == y)) = true :=
  all_take_snoc h hy (by rw [he]; rfl)

def newAt (n : Nat) (xs : List Int) (k : Nat) : Bool := inB (xs.getD k 0) 0 ((n : Int) - 1) && !(xs.take k).contains (xs.getD k 0)
def permB (xs : List Int) : Bool := (List.range xs.length).all (newAt xs.length xs)
theorem newAt_get {n : Nat} {xs : List Int} {k : Nat} {x : Int} (h : xs[k]? = some x) : newAt n xs k = (inB x 0 ((n : Int) - 1) && !(xs.take k).contains x) := by
  simp [newAt, List.getD_eq_getElem?_getD, h]
theorem permB_false {xs : List Int} {k : Nat} {x : Int} (h : xs[k]? = some x) (hb : (inB x 0 ((xs.length : Int) - 1) && !(xs.take k).contains x) = false) : permB xs = false := by
  unfold permB
  rw [List.all_eq_false]
  have hk : k < xs.length := by
    rcases Nat.lt_or_ge k xs.length with h' | h'
    · exact h'
    · rw [List.getElem?_eq_none h'] at h; cases h
  exact ⟨k, List.mem_range.2 hk, by rw [newAt_get h, hb]; simp⟩
theorem permB_upto {xs : List Int} (h : ∀ k, k < xs.length → newAt xs.length xs k = true) : permB xs = true := by
  unfold permB; rw [List.all_eq_true]; intro k hk; exact h k (List.mem_range.1 hk)
theorem permB_t {xs : List Int} (h : permB xs = true) : (∀ x ∈ xs, 0 ≤ x ∧ x < xs.length) ∧ xs.Nodup := by
  unfold permB at h
  rw [List.all_eq_true] at h
  have hk : ∀ k (hk : k < xs.length), inB xs[k] 0 ((xs.length : Int) - 1) = true ∧ xs[k] ∉ xs.take k := by
    intro k hk
    have := h k (List.mem_range.2 hk)
    rw [newAt_get (List.getElem?_eq_getElem hk)] at this
    simpa using this
  refine ⟨fun x hx => ?_, ?_⟩
  · obtain ⟨k, hk', rfl⟩ := List.getElem_of_mem hx
    have := inB_t.1 (hk k hk').1
    omega
  · rw [List.nodup_iff_pairwise_ne, List.pairwise_iff_getElem]
    intro i j hi hj hij he
    refine (hk j hj).2 ?_
    rw [← he, List.mem_take_iff_getElem]
    exact ⟨i, by omega, rfl⟩
theorem permB_mk {xs : List Int} (h1 : ∀ x ∈ xs, 0 ≤ x ∧ x < xs.length) (h2 : xs.Nodup) : permB xs = true := by
  refine permB_upto fun k hk => ?_
  rw [newAt_get (List.getElem?_eq_getElem hk)]
  have hb := h1 xs[k] (List.getElem_mem _)
  rw [inB_mk hb.1 (by omega)]
  simp only [Bool.true_and, Bool.not_eq_true', List.contains_eq_mem, decide_eq_false_iff_not]
  intro hm
  rw [List.mem_take_iff_getElem] at hm
  obtain ⟨i, hi, he⟩ := hm
  rw [List.nodup_iff_pairwise_ne, List.pairwise_iff_getElem] at h2
  exact h2 i k (by omega) hk (by omega) he
def ladB (xs : List Int) : Bool := inB xs.length 1 8 && permB xs
theorem ladB_t {xs : List Int} (h : ladB xs = true) : (1 ≤ xs.length ∧ xs.length ≤ 8) ∧ (∀ x ∈ xs, 0 ≤ x ∧ x < xs.length) ∧ xs.Nodup := by
  simp only [ladB, Bool.and_eq_true, inB_t] at h
  exact ⟨⟨by omega, by omega⟩, permB_t h.2⟩
theorem ladB_mk {xs : List Int} (h0 : 1 ≤ xs.length) (h8 : xs.length ≤ 8) (h1 : ∀ x ∈ xs, 0 ≤ x ∧ x < xs.length) (h2 : xs.Nodup) : ladB xs = true := by
  simp only [ladB, Bool.and_eq_true, inB_t]
  exact ⟨⟨by omega, by omega⟩, permB_mk h1 h2⟩

/-- 'make([]T, n)' at elements of one cell. -/
theorem makeV (t e : TypeId) (z : Value) (bytes : Nat) (hu : Tryd.prog.underlying t = some (.slice e)) (hinfo : (Tryd.prog.info? e).map (fun i => (i.zero, i.size, i.bytes)) = some (some z, 1, bytes)) (hzc : z.cells = #[z]) (hby : bytes ≤ 64)
    {ops : Array Oper} {rest : List Oper} {o : Oper} {a : Act} {Q : Exit → Act → World → Prop} (hgd : o.guard = none) (l c : Operand)
    (ho : o.op = Op.makeSlice t l c) (w : World) (n : Nat) (hl : a.eval l = .int .i64 n) (hc : a.eval c = .int .i64 n) (hn : n ≤ 1048576)
    (h : ∀ w', w'.ownsRow w.heap.size e 1 (.slice (some ⟨w.heap.size, 0, none⟩) n n) n (List.replicate n z) → Below w.heap.size w w' → w'.heap.size = w.heap.size + 1 → wpList Tryd.prog ops Q rest (a.put o.dst (.slice (some ⟨w.heap.size, 0, none⟩) n n)) w') :
    wpList Tryd.prog ops Q (o :: rest) a w := by
  obtain ⟨i0, hi, hz0, hz1, hz2⟩ := info_parts hinfo
  refine wpList_plain hgd fun K hK' => ?_
  have hb : (bytes : Int) * (n : Int) ≤ 281474976710656 := by
    have h1 : bytes * n ≤ 64 * 1048576 := Nat.mul_le_mul hby hn
    have h2 : ((bytes * n : Nat) : Int) ≤ 281474976710656 := by omega
    rwa [Int.natCast_mul] at h2
  have hr := run_make (P := Tryd.prog) w t e i0 z hu hi hz0 .i64 .i64 n n (by omega) (Int.le_refl _) (by rw [hz2]; exact hb) (by omega)
  simp only [Int.toNat_natCast] at hr
  unfold Oper.wp
  simp [execOp, ho, hl, hc, hr, Result.andThen]
  refine hK' _ _ (h _ ?_ ((Below.refl _ w).alloc (Nat.le_refl _) _) (by simp))
  rw [hz1]
  have h1 := World.ownsRow_lit (base := w.heap.size) (e := e) (size := 1) w (madeCells z.cells (n * 1)) n (Nat.le_refl _) (by unfold maxLen; omega) (size_madeCells _ _)
  have e : (madeCells z.cells (n * 1)).toList = List.replicate n z := by
    rw [hzc, toList_madeCells_one, Nat.mul_one]
  rw [e] at h1
  exact h1
theorem own_get {w : World} {lo g n c : Nat} {e : TypeId} {vs : List Value} (h : w.ownsRow lo e 1 (.slice (some ⟨g, 0, none⟩) n c) n vs) {k : Nat} (hk : k < n) (u : Value) :
    ∃ x, vs[k]? = some x ∧ w.cell? ⟨g, k, none⟩ = some x ∧ w.frozen? ⟨g, k, none⟩ = false ∧ (w.setCell ⟨g, k, none⟩ u).ownsRow lo e 1 (.slice (some ⟨g, 0, none⟩) n c) n (vs.set k u) ∧ Keep g (g + 1) w (w.setCell ⟨g, k, none⟩ u) := by
  have hl : vs.length = n := by simpa using h.1
  refine ⟨vs[k], List.getElem?_eq_getElem (by omega), ?_, h.frozenAt k, (h.stored k u).1, (Keep.refl _ _ _).setCell (p := ⟨g, k, none⟩) (Nat.le_refl _) (Nat.lt_succ_self _) _⟩
  rw [h.cellAt k (by omega)]; exact List.getElem?_eq_getElem (by omega)

def twoB (a b : List Int) : Bool := ladB a && (ladB b && decide (a.length = b.length))
theorem twoB_t {a b : List Int} (h : twoB a b = true) : ladB a = true ∧ ladB b = true ∧ a.length = b.length := by
  simp only [twoB, Bool.and_eq_true, decide_eq_true_eq] at h; exact h
end Go.Proofs.YtklhplifceedeaaDoor
