/- Rows of strings: the laws' helpers for them. -/
import Derived.Test.YthpphojodohboaaDoorFz
import Derived.Deep.RegionHeld3
namespace Go.Proofs.YthpphojodohboaaDoor
open Go.ChangeShapes Go.WideShapes Go.ChangeAt Go.RowKit

/-- The slice value v owns a row of its own, in a block from lo to hi, that holds the strings ls. -/
def FrZ (w : World) (lo hi : Nat) (v : Value) (ls : List (List UInt8)) : Prop :=
  w.ownsRow lo 9 1 v ls.length (strs ls) ∧ (∀ g, v.ownBlock = some g → g < hi) ∧ hi ≤ w.heap.size
theorem FrZ.form {w : World} {lo hi : Nat} {v : Value} {ls : List (List UInt8)} (h : FrZ w lo hi v ls) : ∃ A c, v = .slice A ls.length c ∧ ls.length ≤ c := ownZ_form h.1
theorem FrZ.sl {w : World} {lo hi n c : Nat} {A : Option Addr} {ls : List (List UInt8)} (h : FrZ w lo hi (.slice A n c) ls) : SlV w A (strs ls) := by
  obtain ⟨A', c', he, _⟩ := h.form
  injection he with _ e2 _
  subst e2
  exact SlV.of_own h.1
theorem FrZ.keep {w w' : World} {lo hi l2 h2 : Nat} {v : Value} {ls : List (List UInt8)} (h : FrZ w lo hi v ls) (hk : Keep l2 h2 w w') (hd : hi ≤ l2 ∨ h2 ≤ lo) : FrZ w' lo hi v ls :=
  ⟨ownsRow_keep h.1 h.2.1 h.2.2 hk hd, h.2.1, Nat.le_trans h.2.2 hk.size⟩
theorem FrZ.grow {w w' : World} {lo hi : Nat} {v : Value} {ls : List (List UInt8)} (h : FrZ w lo hi v ls) (hb : Below w.heap.size w w') : FrZ w' lo hi v ls :=
  h.keep (Keep.of_below (lo := w.heap.size) (hi := w.heap.size) hb (Nat.le_refl _)) (.inl h.2.2)
theorem FrZ.of_own {w : World} {lo : Nat} {v : Value} {ls : List (List UInt8)} (h : w.ownsRow lo 9 1 v ls.length (strs ls)) : FrZ w lo w.heap.size v ls :=
  ⟨h, fun g hg => (h.lt g hg).2, Nat.le_refl _⟩
theorem FrZ.nil (w : World) {lo hi : Nat} (h : hi ≤ w.heap.size) : FrZ w lo hi (.slice none 0 0) [] :=
  ⟨World.ownsRow_nil _ _ _ _, fun g hg => by simp [Value.ownBlock] at hg, h⟩
theorem strs_at {ls : List (List UInt8)} {k : Nat} {l : List UInt8} (h : ls[k]? = some l) : (strs ls)[k]? = some (.string ⟨l.toArray⟩) := by simp [strs, h]
theorem strs_set (ls : List (List UInt8)) (k : Nat) (l : List UInt8) : (strs ls).set k (.string ⟨l.toArray⟩) = strs (ls.set k l) := by simp [strs, List.map_set]
theorem FrZ.at_ {w : World} {lo hi n c : Nat} {A : Option Addr} {ls : List (List UInt8)} (h : FrZ w lo hi (.slice A n c) ls) {k : Nat} (hk : k < ls.length) :
    ∃ g l, A = some ⟨g, 0, none⟩ ∧ lo ≤ g ∧ g < hi ∧ ls[k]? = some l ∧ w.cell? ⟨g, k, none⟩ = some (.string ⟨l.toArray⟩) ∧ w.frozen? ⟨g, k, none⟩ = false ∧
      ∀ y : List UInt8, FrZ (w.setCell ⟨g, k, none⟩ (.string ⟨y.toArray⟩)) lo hi (.slice A n c) (ls.set k y) ∧ Keep lo hi w (w.setCell ⟨g, k, none⟩ (.string ⟨y.toArray⟩)) := by
  obtain ⟨A', c', he, _⟩ := h.form
  injection he with _ hn _
  subst hn
  obtain ⟨h1, hg, hs⟩ := h
  have h1' := h1
  rcases h1.2 with ⟨he, hn⟩ | ⟨g, cap, cur, he, hb, hh, r⟩
  · omega
  · injection he with e1 e2 e3
    subst e1; subst e3
    have hgh := hg g rfl
    have hx : ls[k]? = some ls[k] := List.getElem?_eq_getElem hk
    refine ⟨g, ls[k], rfl, hb, hgh, hx, by rw [h1'.cellAt k (by omega)]; exact strs_at hx, h1'.frozenAt k, fun y => ?_⟩
    have hst := h1'.stored k (.string ⟨y.toArray⟩)
    refine ⟨⟨?_, fun g' hg' => ?_, by simpa [World.setCell] using hs⟩, (Keep.refl _ _ _).setCell hb hgh _⟩
    · rw [List.length_set, ← strs_set]; exact hst.1
    · exact hg g' hg'

theorem own_neZ {w : World} {lo lo2 m n s s2 : Nat} {u v : Value} {xs vs : List Value} (h1 : w.ownsRow lo 3 s u m xs) (h2 : w.ownsRow lo2 9 s2 v n vs) {g : Nat} (hg : u.ownBlock = some g) : v.ownBlock ≠ some g := by
  intro hv
  rcases h1.2 with ⟨rfl, _⟩ | ⟨g1, _, cur1, rfl, _, e1, _⟩
  · cases hg
  · rcases h2.2 with ⟨rfl, _⟩ | ⟨g2, _, cur2, rfl, _, e2, _⟩
    · cases hv
    · simp only [Value.ownBlock, Option.some.injEq] at hg hv
      subst hg; subst hv
      rw [e1] at e2
      injection e2 with e2
      injection e2 with _ e2 _
      exact absurd e2 (by decide)
theorem Fr.grownByZ {w w' : World} {lo hi : Nat} {u : Value} {xs : List Int} {row : Option Nat} (h : Fr w lo hi u xs) (hg : w.grownBy w' row) (hd : ∀ g, u.ownBlock = some g → row ≠ some g) : Fr w' lo hi u xs := by
  refine ⟨h.1.kept hg ?_, h.2.1, Nat.le_trans h.2.2 hg.size⟩
  cases hu : u.ownBlock with
  | none => exact .inl rfl
  | some g => exact .inr fun e => hd g hu e.symm
end Go.Proofs.YthpphojodohboaaDoor
