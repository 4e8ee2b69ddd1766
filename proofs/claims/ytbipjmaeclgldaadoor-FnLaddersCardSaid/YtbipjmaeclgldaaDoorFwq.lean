/- The fewest challenges: the program's queue (a row that is cut at its head and appended to). -/
import Derived.Test.YtbipjmaeclgldaaDoorFwu
import Derived.ArgAppend
namespace Go.Proofs.YtbipjmaeclgldaaDoor
open Go.ChangeShapes Go.WideShapes Go.ChangeAt Go.RowKit

/-- The value v stands for the elements vs, somewhere in a block of the call's own. -/
def Que (w wr : World) (v : Value) (vs : List Value) : Prop :=
  ∃ g off cap cur, v = .slice (some ⟨g, off, none⟩) vs.length cap ∧ vs.length ≤ cap ∧ cap ≤ maxLen ∧ w.heap.size ≤ g ∧ wr.heap[g]? = some (.cells cur 22 (0, 0)) ∧ off + cap ≤ cur.size ∧ ∀ j u, vs[j]? = some u → cur[off + j]? = some u
theorem Que.of_own {w wr : World} {lo n : Nat} {v : Value} {vs : List Value} (h : wr.ownsRow lo 22 1 v n vs) (h0 : 0 < n) (hlo : w.heap.size ≤ lo) : Que w wr v vs := by
  have hl : vs.length = n := by simpa using h.1
  rcases h.2 with ⟨_, hn⟩ | ⟨g, cap, cur, rfl, h1, h2, h3, h4, h5, h6⟩
  · omega
  · refine ⟨g, 0, cap, cur, by rw [hl], by omega, h4, by omega, h2, by omega, fun j u hj => ?_⟩
    have hj2 := (List.getElem?_eq_some_iff.1 hj).1
    rw [← h6, List.getElem?_take] at hj
    rw [Nat.zero_add]
    split at hj
    · simpa using hj
    · cases hj
theorem Que.kept {w wr W' : World} {v : Value} {vs : List Value} (h : Que w wr v vs) (hk : ∀ b, w.heap.size ≤ b → b < wr.heap.size → v.ownBlock = some b → W'.heap[b]? = wr.heap[b]?) : Que w W' v vs := by
  obtain ⟨g, off, cap, cur, rfl, h1, h2, h3, h4, h5, h6⟩ := h
  exact ⟨g, off, cap, cur, rfl, h1, h2, h3, (hk g h3 (Array.getElem?_eq_some_iff.1 h4).1 rfl).trans h4, h5, h6⟩
theorem Que.below {w wr W' : World} {v : Value} {vs : List Value} (h : Que w wr v vs) (hb : Below wr.heap.size wr W') : Que w W' v vs := h.kept fun b _ h2 _ => hb.block b h2
theorem cell_at_cells {W : World} {b k : Nat} {a : Array Value} {t : TypeId} {fr : Nat × Nat} (h : W.heap[b]? = some (.cells a t fr)) : W.cell? ⟨b, k, none⟩ = a[k]? := by simp [World.cell?, h]
theorem Que.form {w wr : World} {v : Value} {vs : List Value} (h : Que w wr v vs) : ∃ g off cap, v = .slice (some ⟨g, off, none⟩) vs.length cap ∧ vs.length ≤ cap ∧ cap ≤ 2 ^ 63 - 1 ∧ ∀ j u, vs[j]? = some u → wr.cell? ⟨g, off + j, none⟩ = some u := by
  obtain ⟨g, off, cap, cur, rfl, h1, h2, h3, h4, h5, h6⟩ := h
  exact ⟨g, off, cap, rfl, h1, h2, fun j u hj => by rw [cell_at_cells h4]; exact h6 j u hj⟩
theorem Que.tail {w wr : World} {g off n cap : Nat} {u : Value} {vs : List Value} (h : Que w wr (.slice (some ⟨g, off, none⟩) n cap) (u :: vs)) :
    ∀ ao : Option Addr, ao = (if cap = 1 then some ⟨g, off, none⟩ else some ⟨g, off + 1, none⟩) → Que w wr (.slice ao vs.length (cap - 1)) vs := by
  obtain ⟨g', off', cap', cur, e, h1, h2, h3, h4, h5, h6⟩ := h
  injection e with e1 e2 e3
  injection e1 with e1
  injection e1 with e4 e5
  subst e4; subst e5; subst e3
  rw [List.length_cons] at h1
  intro ao ha
  by_cases hc : cap = 1
  · rw [if_pos hc] at ha
    subst ha
    have : vs.length = 0 := by omega
    have : vs = [] := List.eq_nil_of_length_eq_zero this
    subst this
    exact ⟨g, off, cap - 1, cur, rfl, by simp, by omega, h3, h4, by omega, fun j u hj => by simp at hj⟩
  · rw [if_neg hc] at ha
    subst ha
    refine ⟨g, off + 1, cap - 1, cur, rfl, by omega, by omega, h3, h4, by omega, fun j y hj => ?_⟩
    have := h6 (j + 1) y (by rw [List.getElem?_cons_succ]; exact hj)
    rw [show off + 1 + j = off + (j + 1) by omega]; exact this
set_option maxRecDepth 100000 in
/-- 'queue = append(queue, row)'. -/
theorem queApp {ops : Array Oper} {rest : List Oper} {o : Oper} {a : Act} {Q : Exit → Act → World → Prop} (hgd : o.guard = none) (s y : Operand)
    (ho : o.op = .call { callee := .builtin .append, args := #[s, y], argTypes := #[35, 35] })
    (w0 w : World) (v : Value) (vs : List Value) (hs : a.eval s = v) (hq : Que w0 w v vs) (A : Option Addr) (m c : Nat) (hx : a.eval y = .slice (some ⟨w.heap.size, 0, none⟩) 1 1) (hl : vs.length ≤ 1048576) (hw : w0.heap.size ≤ w.heap.size)
    (h : ∀ v' w', Que w0 w' v' (vs ++ [.slice A m c]) → Below w0.heap.size w w' → (∀ b, b < w.heap.size → v.ownBlock ≠ some b → w'.heap[b]? = w.heap[b]?) → (v'.ownBlock = v.ownBlock ∨ ∃ b, v'.ownBlock = some b ∧ w.heap.size ≤ b) → wpList Tryd.prog ops Q rest (a.put o.dst v') w') :
    wpList Tryd.prog ops Q (o :: rest) a (w.alloc (.cells #[.slice A m c] 22)) := by
  obtain ⟨i0, hi, hz0, hz1, hz2⟩ := info_parts infoIS
  have hq0 := hq
  obtain ⟨g, off, cap, cur, rfl, h1, h2, h3, h4, h5, h6⟩ := hq
  have hg := (Array.getElem?_eq_some_iff.1 h4).1
  have h4' : (w.alloc (.cells #[.slice A m c] 22)).heap[g]? = some (.cells cur 22 (0, 0)) := (Below.heap_alloc _ _ _ hg).trans h4
  have hcell : ∀ k, (w.alloc (.cells #[.slice A m c] 22)).cell? ⟨g, k, none⟩ = cur[k]? := fun k => cell_at_cells h4'
  have hsz : (w.alloc (.cells #[.slice A m c] 22)).heap.size = w.heap.size + 1 := by simp
  have hB : Below w0.heap.size w (w.alloc (.cells #[.slice A m c] 22)) := (Below.refl _ w).alloc hw _
  refine wpList_append_arg _ hgd s y _ ho 22 i0 (.slice none 0 0) 1 24 Tryd.underlying35 hi hz0 hz1 hz2 rfl (by decide) g off vs.length cap vs hs (by simp) (fun j u hj => by rw [hcell]; exact h6 j u hj) ⟨w.heap.size, 0, none⟩ 1 1 [.slice A m c] hx rfl ?_ ?_ ?_ (by unfold maxLen; omega) (by omega) ?_ ?_
  · intro j u hj
    match j, hj with
    | 0, hj => simp at hj; subst hj; simp [Addr.add]
  · intro u hu; simp at hu; subst hu; rfl
  · intro hr j hj
    have hj0 : j = 0 := by simpa using hj
    subst hj0
    refine ⟨?_, ?_⟩
    · rw [hcell, Array.getElem?_eq_getElem (by omega)]; rfl
    · simp [World.frozen?, h4']
  · intro hr
    have hblk : ∀ b, b ≠ g → ((w.alloc (.cells #[.slice A m c] 22)).setCells g (off + vs.length * 1) [.slice A m c]).heap[b]? = (w.alloc (.cells #[.slice A m c] 22)).heap[b]? := fun b hb => by
      show ((w.alloc (.cells #[.slice A m c] 22)).heap.modify g _)[b]? = _
      rw [Array.getElem?_modify, if_neg (fun e => hb e.symm)]
    have hg2 : ((w.alloc (.cells #[.slice A m c] 22)).setCells g (off + vs.length * 1) [.slice A m c]).heap[g]? = some (.cells (cur.setIfInBounds (off + vs.length * 1) (.slice A m c)) 22 (0, 0)) := by
      show ((w.alloc (.cells #[.slice A m c] 22)).heap.modify g _)[g]? = _
      rw [Array.getElem?_modify, if_pos rfl, h4']; rfl
    refine h _ _ ⟨g, off, cap, _, by rw [List.length_append, List.length_singleton], by rw [List.length_append, List.length_singleton]; omega, h2, h3, hg2, by simp; omega, fun j u hj => ?_⟩ ?_ ?_ (.inl rfl)
    · rcases Nat.lt_or_ge j vs.length with hj2 | hj2
      · rw [List.getElem?_append_left hj2] at hj
        rw [Array.getElem?_setIfInBounds_ne (by omega)]
        exact h6 j u hj
      · rw [List.getElem?_append_right hj2] at hj
        have hj3 : j = vs.length := by
          cases hk : j - vs.length with
          | zero => omega
          | succ k => rw [hk] at hj; simp at hj
        subst hj3
        simp only [Nat.sub_self, List.getElem?_cons_zero, Option.some.injEq] at hj
        subst hj
        rw [Nat.mul_one, Array.getElem?_setIfInBounds_self_of_lt (by omega)]
    · exact hB.trans ((Below.refl _ _).setCell (p := ⟨g, off + vs.length * 1, none⟩) h3 _)
    · intro b hb hne
      have hbg : b ≠ g := fun e => hne (by rw [e]; rfl)
      rw [hblk b hbg]; exact Below.heap_alloc _ _ _ hb
  · intro hr v' w' hown hgr
    have hn : 0 < vs.length + 1 := by omega
    refine h v' w' (Que.of_own hown hn (by rw [hsz]; omega)) ?_ ?_ ?_
    · exact hB.grown hgr (by rw [hsz]; omega) (fun k hk => by cases hk)
    · intro b hb _
      rw [hgr.block b (by rw [hsz]; omega) (fun e => by cases e)]; exact Below.heap_alloc _ _ _ hb
    · rcases hown.2 with ⟨_, hn0⟩ | ⟨g2, cap2, cur2, rfl, hb2, _⟩
      · omega
      · exact .inr ⟨g2, rfl, by rw [hsz] at hb2; omega⟩
end Go.Proofs.YtbipjmaeclgldaaDoor
