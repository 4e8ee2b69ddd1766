/- An append that tells where the grown row lies; two rows that grow beside each other. -/
import Derived.Test.YtklhplifceedeaaDoorStd
import Derived.Test.YtklhplifceedeaaDoorRo
import Derived.Maps.AppendAt
namespace Go.Proofs.YtklhplifceedeaaDoor
open Go.ChangeShapes Go.WideShapes Go.ChangeAt Go.RowKit

set_option maxRecDepth 100000 in
/-- 'out = append(out, x)' at a row of the call's own. -/
theorem app1At {ops : Array Oper} {rest : List Oper} {o : Oper} {a : Act} {Q : Exit → Act → World → Prop} (hgd : o.guard = none) (s y : Operand)
    (ho : o.op = .call { callee := .builtin .append, args := #[s, y], argTypes := #[22, 22] })
    (w : World) (base : Nat) (v : Value) (n : Nat) (xs : List Int) (hs : a.eval s = v) (hown : w.ownsRow base 3 1 v n (ints xs)) (x : Int)
    (hx : a.eval y = .slice (some ⟨w.heap.size, 0, none⟩) 1 1) (hl : n ≤ 1048576) (hbase : base ≤ w.heap.size)
    (h : ∀ v' w', w'.ownsRow base 3 1 v' (n + 1) (ints (xs ++ [x])) → (∀ B, B ≤ base → B ≤ w.heap.size → Below B w w') → w.heap.size < w'.heap.size → w.grownBy w' v.ownBlock → (v'.ownBlock = v.ownBlock ∨ v'.ownBlock = some (w.heap.size + 1)) → wpList Tryd.prog ops Q rest (a.put o.dst v') w') :
    wpList Tryd.prog ops Q (o :: rest) a (w.alloc (.cells #[.int .i64 x] 3)) := by
  obtain ⟨i0, hi, hz0, hz1, hz2⟩ := info_parts infoInt
  refine wpList_append_own_at _ hgd s y _ ho base 3 i0 (.int .i64 0) 1 8 Tryd.underlying22 hi hz0 hz1 hz2 rfl (by decide) v n (ints xs) hs (hown.alloc _) ⟨w.heap.size, 0, none⟩ 1 1 [.int .i64 x] hx rfl ?_ ?_ (by unfold maxLen; omega) (by omega) (by simp; omega) ?_
  · intro j u hj
    match j, hj with
    | 0, hj => simp at hj; subst hj; simp [Addr.add]
  · intro u hu; simp at hu; subst hu; rfl
  · intro v' w' h2 h3 _ h6
    rw [World.size_alloc] at h6
    have hsz := h3.size
    simp only [World.size_alloc] at hsz
    refine h v' w' (by rw [ints_append]; exact h2) (fun B h4 h5 => ?_) (by omega) ?_ h6
    · refine ((Below.refl B w).alloc h5 _).grown h3 (by simp; omega) (fun k hk => ?_)
      have := (hown.lt k hk).1; omega
    · exact ⟨h3.os, h3.tape, h3.output, by omega, fun k hk hne => by rw [h3.block k (by simp; omega) hne]; exact Below.heap_alloc _ _ _ hk⟩

/-- Two rows of the call's own, beside each other. -/
structure Two (wr : World) (lo : Nat) (vb vw : Value) (bs ws : List Int) : Prop where
  fb : Fr wr lo wr.heap.size vb bs
  fw : Fr wr lo wr.heap.size vw ws
  ne : ∀ g, vb.ownBlock = some g → vw.ownBlock ≠ some g
theorem Two.below {wr w2 : World} {lo : Nat} {vb vw : Value} {bs ws : List Int} (h : Two wr lo vb vw bs ws) (hb : Below wr.heap.size wr w2) : Two w2 lo vb vw bs ws :=
  ⟨(h.fb.grow hb).wide (Nat.le_refl _) hb.size (Nat.le_refl _), (h.fw.grow hb).wide (Nat.le_refl _) hb.size (Nat.le_refl _), h.ne⟩
theorem Two.left {wr w2 : World} {lo : Nat} {vb vb' vw : Value} {bs ws : List Int} {x : Int} (h : Two wr lo vb vw bs ws) (hown : w2.ownsRow lo 3 1 vb' (bs.length + 1) (ints (bs ++ [x])))
    (hg : wr.grownBy w2 vb.ownBlock) (hat : vb'.ownBlock = vb.ownBlock ∨ vb'.ownBlock = some (wr.heap.size + 1)) : Two w2 lo vb' vw (bs ++ [x]) ws := by
  refine ⟨Fr.of_own (by rw [List.length_append]; exact hown), (h.fw.grownBy hg fun g hw hb => h.ne g hb hw).wide (Nat.le_refl _) hg.size (Nat.le_refl _), ?_⟩
  intro g hb hw
  rcases hat with e | e
  · exact h.ne g (e ▸ hb) hw
  · rw [e] at hb
    injection hb with hb
    have := h.fw.2.1 g hw
    omega
theorem Two.right {wr w2 : World} {lo : Nat} {vb vw vw' : Value} {bs ws : List Int} {x : Int} (h : Two wr lo vb vw bs ws) (hown : w2.ownsRow lo 3 1 vw' (ws.length + 1) (ints (ws ++ [x])))
    (hg : wr.grownBy w2 vw.ownBlock) (hat : vw'.ownBlock = vw.ownBlock ∨ vw'.ownBlock = some (wr.heap.size + 1)) : Two w2 lo vb vw' bs (ws ++ [x]) := by
  refine ⟨(h.fb.grownBy hg fun g hb hw => h.ne g hb hw).wide (Nat.le_refl _) hg.size (Nat.le_refl _), Fr.of_own (by rw [List.length_append]; exact hown), ?_⟩
  intro g hb hw
  rcases hat with e | e
  · exact h.ne g hb (e ▸ hw)
  · rw [e] at hw
    injection hw with hw
    have := h.fb.2.1 g hb
    omega
end Go.Proofs.YtklhplifceedeaaDoor
