/- From the row's readings of arguments to the readings that the walks take. -/
import Derived.Test.YtkfpgbmlopfabaaStd
import Derived.ChangeOld
import Derived.Deep.Matrix
import Derived.ShutString
namespace Go.Proofs.Ytkfpgbmlopfabaa
open Go.ChangeShapes Go.WideShapes Go.ChangeAt Go.RowKit Go.Deep

theorem inI_of_row {w : World} {a : Option Addr} {len cap : Nat} {zs : List Int}
    (h : (a = none ∧ len = 0 ∧ cap = 0 ∧ zs = []) ∨ ∃ x, a = some x ∧ len ≤ cap ∧ cap ≤ maxLen ∧ zs.length = cap ∧ (∀ i, i < zs.length → w.cell? (x.add i) = some (.int .i64 (zs.getD i 0))) ∧ ∀ n ∈ zs, (Lit.int .i64 n).wf = true) :
    ∃ xs : List Int, InI w (.slice a len cap) xs := by
  have h' := h
  obtain ⟨xs, hl, hs, _⟩ := slI_of_row h
  subst hl
  rcases h' with ⟨rfl, h1, rfl, _⟩ | ⟨x, rfl, h1, h2, _⟩
  · exact ⟨xs, none, 0, rfl, by omega, by unfold maxLen; omega, hs⟩
  · exact ⟨xs, some x, cap, rfl, h1, h2, hs⟩
set_option maxRecDepth 100000 in
theorem openI {H : Type} {enc : TypeId × Value → H} {W : World} {base : Nat} {v : Value} {d : DataW H} {p : List MemPlace}
    (hok : Value.okWide Try.prog W .any base 22 v) (h : DataW.Trod enc Try.prog W 0 (fun _ => true) true 22 v d p) : ∃ xs : List Int, InI W v xs := by
  obtain ⟨a0, len0, cap0, rfl⟩ := okWide_slice Try.underlying22 hok
  obtain ⟨fuel, hf⟩ := h
  rcases open_ints Try.underlying22 Try.underlying3 (by kernel_rfl) hf with ⟨hcs, _⟩ | ⟨x, l, c, zs, hcs, _, hl, hm, hz, _, hcell, hwz⟩
  · simp [Value.cells] at hcs
    obtain ⟨rfl, rfl, rfl⟩ := hcs
    exact inI_of_row (.inl ⟨rfl, rfl, rfl, rfl⟩)
  · simp [Value.cells] at hcs
    obtain ⟨rfl, rfl, rfl⟩ := hcs
    exact inI_of_row (.inr ⟨_, rfl, hl, hm, by simpa using hz, hcell, hwz⟩)

set_option maxRecDepth 100000 in
theorem openS {H : Type} {enc : TypeId × Value → H} {W : World} {base : Nat} {v : Value} {d : DataW H} {p : List MemPlace}
    (hok : Value.okWide Try.prog W .any base 26 v) (h : DataW.Trod enc Try.prog W 0 (fun _ => true) true 26 v d p) : ∃ xss : List (List Int), InS W v xss := by
  obtain ⟨a0, len, cap, rfl⟩ := okWide_slice Try.underlying26 hok
  obtain ⟨fuel, hf⟩ := h
  rcases open_int_rows Try.underlying26 Try.underlying22 Try.underlying3 (by kernel_rfl) (by kernel_rfl) hf with ⟨hcs, _⟩ | ⟨a, len', cap', A, L, C, Z, hcs, _, hl, hm, _, hr⟩
  · simp [Value.cells] at hcs
    obtain ⟨rfl, rfl, rfl⟩ := hcs
    exact ⟨[], none, 0, [], rfl, rfl, by simp, by unfold maxLen; omega, .inl rfl, fun k u xs hu => by simp at hu⟩
  · simp [Value.cells] at hcs
    obtain ⟨rfl, rfl, rfl⟩ := hcs
    have each : ∀ r, r < cap → ∃ xs : List Int, InI W (.slice (A r) (L r) (C r)) xs := by
      intro r hr'
      obtain ⟨h1, h2, h3, h4, h5, h6, h7⟩ := hr r hr'
      cases hA : A r with
      | none =>
        have hC := h6 hA
        exact inI_of_row (zs := []) (.inl ⟨rfl, by omega, hC, rfl⟩)
      | some a' =>
        exact inI_of_row (zs := Z r) (.inr ⟨a', rfl, h2, h3, h4, fun i hi => (h7 a' hA).2 i (by omega), h5⟩)
    obtain ⟨F, hF⟩ := choose_lt each
    refine ⟨(List.range len).map F, some a, cap, (List.range len).map fun r => .slice (A r) (L r) (C r), by simp, by simp, by simpa using hl, hm, ?_, ?_⟩
    · by_cases h0 : 0 < len
      · obtain ⟨b, off, spot⟩ := a
        have hspot : spot = none := by simpa [Addr.add] using World.cell?_spot (hr 0 (by omega)).1
        subst hspot
        refine .inr ⟨b, off, rfl, fun k u hu => ?_⟩
        have hk : k < len := by
          rcases Nat.lt_or_ge k len with h | h
          · exact h
          · rw [List.getElem?_eq_none (by simpa using h)] at hu; cases hu
        rw [List.getElem?_map, List.getElem?_range hk] at hu
        injection hu with hu
        rw [← hu, ← Go.WideShapes.add_plain]; exact (hr k (by omega)).1
      · exact .inl (by have : len = 0 := by omega
                       subst this; rfl)
    · intro k u xs hu hx
      have hk : k < len := by
        rcases Nat.lt_or_ge k len with h | h
        · exact h
        · rw [List.getElem?_eq_none (by simpa using h)] at hu; cases hu
      rw [List.getElem?_map, List.getElem?_range hk] at hu hx
      injection hu with hu
      injection hx with hx
      rw [← hu, ← hx]; exact hF k (by omega)
end Go.Proofs.Ytkfpgbmlopfabaa
