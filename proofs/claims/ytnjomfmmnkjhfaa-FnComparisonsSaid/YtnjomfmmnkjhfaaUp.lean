/- A player who goes up in a ladder: contracts. -/
import Derived.Test.YtnjomfmmnkjhfaaPerm
import Derived.Test.YtnjomfmmnkjhfaaShelf
import Derived.Lib.OwnBridge
import Derived.Sort.OwnSorted
namespace Go.Proofs.Ytnjomfmmnkjhfaa
open Go.ChangeShapes Go.WideShapes Go.ChangeAt Go.RowKit

theorem own_full {w : World} {lo g n cap : Nat} {e : TypeId} {vs : List Value} (h : w.ownsRow lo e 1 (.slice (some ⟨g, 0, none⟩) n cap) n vs) :
    ∃ us : List Value, us.length = cap ∧ us.take n = vs ∧ n ≤ cap ∧ w.ownsRow lo e 1 (.slice (some ⟨g, 0, none⟩) cap cap) cap us := by
  rcases h.2 with ⟨e0, _⟩ | ⟨g', cap', cur, e0, hb, hg, hn, hm, hs, ht⟩
  · cases e0
  · injection e0 with e1 _ e3
    injection e1 with e1
    injection e1 with e1
    subst e1; subst e3
    refine ⟨cur.toList, by simpa using hs, by simpa using ht, hn, by simpa using hs, .inr ⟨g, cap, cur, rfl, hb, hg, Nat.le_refl _, hm, hs, ?_⟩⟩
    rw [List.take_of_length_le (by simp [hs])]
theorem own_cut {w : World} {lo g cap k : Nat} {e : TypeId} {us : List Value} (h : w.ownsRow lo e 1 (.slice (some ⟨g, 0, none⟩) cap cap) cap us) (hk : k ≤ cap) :
    w.ownsRow lo e 1 (.slice (some ⟨g, 0, none⟩) k cap) k (us.take k) := by
  have hl : us.length = cap := by simpa using h.1
  rcases h.2 with ⟨e0, _⟩ | ⟨g', cap', cur, e0, hb, hg, hn, hm, hs, ht⟩
  · cases e0
  · injection e0 with e1 _ e3
    injection e1 with e1
    injection e1 with e1
    subst e1; subst e3
    refine ⟨by simp; omega, .inr ⟨g, cap, cur, rfl, hb, hg, hk, hm, hs, ?_⟩⟩
    rw [← ht, List.take_take]; congr 1; omega
theorem own_setCells {lo g cap : Nat} {e : TypeId} : ∀ (vs : List Value) (o : Nat) (w : World) (us : List Value), w.ownsRow lo e 1 (.slice (some ⟨g, 0, none⟩) cap cap) cap us → o + vs.length ≤ cap →
    (w.setCells g o vs).ownsRow lo e 1 (.slice (some ⟨g, 0, none⟩) cap cap) cap (us.take o ++ vs ++ us.drop (o + vs.length)) ∧ Keep g (g + 1) w (w.setCells g o vs)
  | [], o, w, us, h, _ => by
    refine ⟨?_, Keep.refl _ _ _⟩
    simp only [List.append_nil, List.length_nil, Nat.add_zero, List.take_append_drop]
    exact h
  | v :: vs, o, w, us, h, hl => by
    have hul : us.length = cap := by simpa using h.1
    rw [List.length_cons] at hl
    obtain ⟨_, _, _, _, h4, h5⟩ := own_get h (k := o) (by omega) v
    obtain ⟨i1, i2⟩ := own_setCells vs (o + 1) _ _ h4 (by omega)
    refine ⟨?_, h5.trans i2⟩
    have e : us.take o ++ (v :: vs) ++ us.drop (o + (v :: vs).length) = (us.set o v).take (o + 1) ++ vs ++ (us.set o v).drop (o + 1 + vs.length) := by
      have e1 : (us.set o v).take (o + 1) = us.take o ++ [v] := by
        rw [take_snoc (x := v) (by rw [List.getElem?_set_self (by omega)])]
        rw [List.take_set_of_le (Nat.le_refl _)]
      have e2 : (us.set o v).drop (o + 1 + vs.length) = us.drop (o + (v :: vs).length) := by
        rw [List.drop_set_of_lt (by omega), List.length_cons]; congr 1; omega
      rw [e1, e2]; simp
    rw [e]; exact i1
end Go.Proofs.Ytnjomfmmnkjhfaa
