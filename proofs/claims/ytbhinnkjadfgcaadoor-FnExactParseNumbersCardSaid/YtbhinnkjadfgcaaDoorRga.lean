/- Boxes of one cell; an append to a row of the call's own inside a round. -/
import Derived.Test.YtbhinnkjadfgcaaDoorRgf
import Derived.Test.YtbhinnkjadfgcaaDoorSl
import Derived.Maps.OwnIn
import Derived.Laws.EntriesVeiled
namespace Go.Proofs.YtbhinnkjadfgcaaDoor
open Go.ChangeShapes Go.WideShapes Go.ChangeAt Go.RowKit
attribute [local go_sem] Oper.semAt_some

theorem cell_heap {W W' : World} {b o : Nat} (h : W'.heap[b]? = W.heap[b]?) : W'.cell? ⟨b, o, none⟩ = W.cell? ⟨b, o, none⟩ := by simp [World.cell?, h]
theorem box_cell {W : World} {b : Nat} {v : Value} {t : TypeId} (h : W.heap[b]? = some (.cells #[v] t (0, 0))) : W.cell? ⟨b, 0, none⟩ = some v ∧ W.frozen? ⟨b, 0, none⟩ = false := by
  constructor <;> simp [World.cell?, World.frozen?, h]
theorem box_set {W : World} {b : Nat} {v u : Value} {t : TypeId} (h : W.heap[b]? = some (.cells #[v] t (0, 0))) : (W.setCell ⟨b, 0, none⟩ u).heap[b]? = some (.cells #[u] t (0, 0)) := by
  have hb := (Array.getElem?_eq_some_iff.1 h).1
  have hb2 := (Array.getElem?_eq_some_iff.1 h).2
  show (W.heap.modify b _)[b]? = _
  rw [Array.getElem?_eq_getElem (by rw [Array.size_modify]; exact hb), Array.getElem_modify_self, hb2]
  rfl

set_option maxRecDepth 100000 in
/-- 'out = append(out, x)' at a row of the call's own, in a fence. -/
theorem app1AtIn {F : Fence} {nF : Nat} {ops : Array Oper} {rest : List Oper} {o : Oper} {a : Act} {Q : Exit → Act → World → Prop} (hgd : o.guard = none) (s y : Operand)
    (ho : o.op = .call { callee := .builtin .append, args := #[s, y], argTypes := #[22, 22] })
    (w : World) (base : Nat) (v : Value) (n : Nat) (xs : List Int) (hs : a.eval s = v) (hown : w.ownsRow base 3 1 v n (ints xs)) (x : Int)
    (hx : a.eval y = .slice (some ⟨w.heap.size, 0, none⟩) 1 1) (hl : n ≤ 1048576) (hbase : base ≤ w.heap.size)
    (h : ∀ v' w', w'.ownsRow base 3 1 v' (n + 1) (ints (xs ++ [x])) → (∀ B, B ≤ base → B ≤ w.heap.size → Below B w w') → w.heap.size < w'.heap.size → w.grownBy w' v.ownBlock → (v'.ownBlock = v.ownBlock ∨ v'.ownBlock = some (w.heap.size + 1)) → wpListIn F nF Tryd.prog ops Q rest (a.put o.dst v') w') :
    wpListIn F nF Tryd.prog ops Q (o :: rest) a (w.alloc (.cells #[.int .i64 x] 3)) := by
  obtain ⟨i0, hi, hz0, hz1, hz2⟩ := info_parts infoInt
  refine wpListIn_append_own_at _ hgd s y _ ho base 3 i0 (.int .i64 0) 1 8 Tryd.underlying22 hi hz0 hz1 hz2 rfl (by decide) v n (ints xs) hs (hown.alloc _) ⟨w.heap.size, 0, none⟩ 1 1 [.int .i64 x] hx rfl ?_ ?_ (by unfold maxLen; omega) (by omega) (by simp; omega) ?_
  · intro j u hj
    match j, hj with
    | 0, hj => simp at hj; subst hj; simp [Addr.add]
  · intro u hu; simp at hu; subst hu; rfl
  · intro v' w' h2 h3 _ h6
    rw [World.size_alloc] at h6
    have hsz := h3.size
    simp only [World.size_alloc] at hsz
    refine h v' w' (by rw [ints_append]; exact h2) (fun B h4 h5 => ?_) (by omega) ?_ h6
    · refine ((Below.refl B w).alloc h5 _).grown h3 (by simp; omega) (fun k hk => ?_)
      have := (hown.lt k hk).1; omega
    · exact ⟨h3.os, h3.tape, h3.output, by omega, fun k hk hne => by rw [h3.block k (by simp; omega) hne]; exact Below.heap_alloc _ _ _ hk⟩
end Go.Proofs.YtbhinnkjadfgcaaDoor
