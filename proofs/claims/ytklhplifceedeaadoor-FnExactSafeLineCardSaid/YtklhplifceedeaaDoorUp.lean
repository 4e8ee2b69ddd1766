/- A player who goes up in a ladder: contracts. -/
import Derived.Test.YtklhplifceedeaaDoorPerm
import Derived.Test.YtklhplifceedeaaDoorShelf
import Derived.Lib.OwnBridge
import Derived.Sort.OwnSorted
namespace Go.Proofs.YtklhplifceedeaaDoor
open Go.ChangeShapes Go.WideShapes Go.ChangeAt Go.RowKit

theorem own_full {w : World} {lo g n cap : Nat} {e : TypeId} {vs : List Value} (h : w.ownsRow lo e 1 (.slice (some ⟨g, 0, none⟩) n cap) n vs) :
    ∃ us : List Value, us.length = cap ∧ us.take n = vs ∧ n ≤ cap ∧ w.ownsRow lo e 1 (.slice (some ⟨g, 0, none⟩) cap cap) cap us := by
  rcases h.2 with ⟨e0, _⟩ | ⟨g', cap', cur, e0, hb, hg, hn, hm, hs, ht⟩
  · cases e0
  · injection e0 with e1 _ e3
    injection e1 with e1
    injection e1 with e1
    subst e1; subst e3
    refine ⟨cur.toList, by simpa using hs, by simpa using ht, hn, by simpa using hs, .inr ⟨g, cap, cur, rfl, hb, hg, Nat.le_refl _, hm, hs, ?_⟩⟩
    rw [List.take_of_length_le (by simp [hs])]
theorem own_cut {w : World} {lo g cap k : Nat} {e : TypeId} {us : List Value} (h : w.ownsRow lo e 1 (.slice (some ⟨g, 0, none⟩) cap cap) cap us) (hk : k ≤ cap) :
    w.ownsRow lo e 1 (.slice (some ⟨g, 0, none⟩) k cap) k (us.take k) := by
  have hl : us.length = cap := by simpa using h.1
  rcases h.2 with ⟨e0, _⟩ | ⟨g', cap', cur, e0, hb, hg, hn, hm, hs, ht⟩
  · cases e0
  · injection e0 with e1 _ e3
    injection e1 with e1
    injection e1 with e1
    subst e1; subst e3
    refine ⟨by simp; omega, .inr ⟨g, cap, cur, rfl, hb, hg, hk, hm, hs, ?_⟩⟩
    rw [← ht, List.take_take]; congr 1; omega
theorem own_setCells {lo g cap : Nat} {e : TypeId} : ∀ (vs : List Value) (o : Nat) (w : World) (us : List Value), w.ownsRow lo e 1 (.slice (some ⟨g, 0, none⟩) cap cap) cap us → o + vs.length ≤ cap →
    (w.setCells g o vs).ownsRow lo e 1 (.slice (some ⟨g, 0, none⟩) cap cap) cap (us.take o ++ vs ++ us.drop (o + vs.length)) ∧ Keep g (g + 1) w (w.setCells g o vs)
  | [], o, w, us, h, _ => by
    refine ⟨?_, Keep.refl _ _ _⟩
    simp only [List.append_nil, List.length_nil, Nat.add_zero, List.take_append_drop]
    exact h
  | v :: vs, o, w, us, h, hl => by
    have hul : us.length = cap := by simpa using h.1
    rw [List.length_cons] at hl
    obtain ⟨_, _, _, _, h4, h5⟩ := own_get h (k := o) (by omega) v
    obtain ⟨i1, i2⟩ := own_setCells vs (o + 1) _ _ h4 (by omega)
    refine ⟨?_, h5.trans i2⟩
    have e : us.take o ++ (v :: vs) ++ us.drop (o + (v :: vs).length) = (us.set o v).take (o + 1) ++ vs ++ (us.set o v).drop (o + 1 + vs.length) := by
      have e1 : (us.set o v).take (o + 1) = us.take o ++ [v] := by
        rw [take_snoc (x := v) (by rw [List.getElem?_set_self (by omega)])]
        rw [List.take_set_of_le (Nat.le_refl _)]
      have e2 : (us.set o v).drop (o + 1 + vs.length) = us.drop (o + (v :: vs).length) := by
        rw [List.drop_set_of_lt (by omega), List.length_cons]; congr 1; omega
      rw [e1, e2]; simp
    rw [e]; exact i1

theorem keep_putRow {w : World} {g : Nat} {q : Nat} {d : Array Int} {lo hi : Nat} (h1 : lo ≤ g) (h2 : g < hi) : Keep lo hi w (Sort.putRow (Value.int .i64) (Sort.ahead w q) g 0 d) := by
  refine ⟨rfl, rfl, rfl, by simp [Sort.putRow, Sort.mapBlock, Sort.ahead], fun k hk hd => ?_⟩
  simp [Sort.putRow, Sort.mapBlock, Sort.ahead, Array.getElem?_modify, show ¬ g = k from by omega]
theorem deleteI_any (g n c lo hi i : Nat) (xs : List Int) (w : World) (hn : n = xs.length) (hf : Fr w lo hi (.slice (some ⟨g, 0, none⟩) n c) xs) (hi' : i < n) :
    Calls Tryd.prog 39 #[.slice (some ⟨g, 0, none⟩) n c, .int .i64 i, .int .i64 ((i : Int) + 1)] w fun e w' =>
      e = .returned (.slice (some ⟨g, 0, none⟩) ((n - 1 : Nat)) c) ∧ Fr w' lo hi (.slice (some ⟨g, 0, none⟩) (n - 1) c) (xs.take i ++ xs.drop (i + 1)) ∧ Keep lo hi w w' := by
  obtain ⟨A', c', he, hc, hm⟩ := hf.form
  injection he with h1 h2 h3
  subst h1; subst h3; subst hn
  obtain ⟨g', cap, he2, hb, hgl, hc2, hm2, _, hH⟩ := Lib.holds_of_ownsRow hf.1 (by simp)
  injection he2 with h1 _ h3
  injection h1 with h1
  injection h1 with h1
  subst h1; subst h3
  have hgh : g < hi := hf.2.1 g rfl
  have h := Tryd.slices_Delete_int g 0 c i (i + 1) xs w hH hc (by unfold maxLen at hm; omega) (by omega) (by omega)
  rw [show ((i + 1 : Nat) : Int) = (i : Int) + 1 from by push_cast; rfl] at h
  refine h.mono ?_
  rintro e w' ⟨rfl, q, rfl⟩
  have hy : (xs.take i ++ xs.drop (i + 1) ++ List.replicate (i + 1 - i) 0).length = xs.length := by simp; omega
  have ho := Lib.ownsRow_putRow (q := q) (k := xs.length - 1) hf.1 hy (by omega)
  have ht : (xs.take i ++ xs.drop (i + 1) ++ List.replicate (i + 1 - i) 0).take (xs.length - 1) = xs.take i ++ xs.drop (i + 1) := by
    apply List.take_left'; simp; omega
  rw [ht] at ho
  have hk := keep_putRow (w := w) (q := q) (d := (xs.take i ++ xs.drop (i + 1) ++ List.replicate (i + 1 - i) 0).toArray) hb hgh
  refine ⟨by rw [show i + 1 - i = 1 from by omega], ⟨?_, fun g' hg' => ?_, Nat.le_trans hf.2.2 hk.size⟩, hk⟩
  · rw [show (xs.take i ++ xs.drop (i + 1)).length = xs.length - 1 from by simp; omega]
    exact ho
  · simp only [Value.ownBlock, Option.some.injEq] at hg'; omega
end Go.Proofs.YtklhplifceedeaaDoor
