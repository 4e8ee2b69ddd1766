/- From the row's readings of arguments to the readings that the walks take. -/
import Derived.Test.YtklhplifceedeaaDoorStd
import Derived.ChangeOld
import Derived.Deep.Matrix
import Derived.ShutString
namespace Go.Proofs.YtklhplifceedeaaDoor
open Go.ChangeShapes Go.WideShapes Go.ChangeAt Go.RowKit Go.Deep

theorem inI_of_row {w : World} {a : Option Addr} {len cap : Nat} {zs : List Int}
    (h : (a = none ∧ len = 0 ∧ cap = 0 ∧ zs = []) ∨ ∃ x, a = some x ∧ len ≤ cap ∧ cap ≤ maxLen ∧ zs.length = cap ∧ (∀ i, i < zs.length → w.cell? (x.add i) = some (.int .i64 (zs.getD i 0))) ∧ ∀ n ∈ zs, (Lit.int .i64 n).wf = true) :
    ∃ xs : List Int, InI w (.slice a len cap) xs := by
  have h' := h
  obtain ⟨xs, hl, hs, _⟩ := slI_of_row h
  subst hl
  rcases h' with ⟨rfl, h1, rfl, _⟩ | ⟨x, rfl, h1, h2, _⟩
  · exact ⟨xs, none, 0, rfl, by omega, by unfold maxLen; omega, hs⟩
  · exact ⟨xs, some x, cap, rfl, h1, h2, hs⟩
set_option maxRecDepth 100000 in
theorem openI {H : Type} {enc : TypeId × Value → H} {W : World} {base : Nat} {v : Value} {d : DataW H} {p : List MemPlace}
    (hok : Value.okWide Tryd.prog W .any base 22 v) (h : DataW.Trod enc Tryd.prog W 0 (fun _ => true) true 22 v d p) : ∃ xs : List Int, InI W v xs := by
  obtain ⟨a0, len0, cap0, rfl⟩ := okWide_slice Tryd.underlying22 hok
  obtain ⟨fuel, hf⟩ := h
  rcases open_ints Tryd.underlying22 Tryd.underlying3 (by kernel_rfl) hf with ⟨hcs, _⟩ | ⟨x, l, c, zs, hcs, _, hl, hm, hz, _, hcell, hwz⟩
  · simp [Value.cells] at hcs
    obtain ⟨rfl, rfl, rfl⟩ := hcs
    exact inI_of_row (.inl ⟨rfl, rfl, rfl, rfl⟩)
  · simp [Value.cells] at hcs
    obtain ⟨rfl, rfl, rfl⟩ := hcs
    exact inI_of_row (.inr ⟨_, rfl, hl, hm, by simpa using hz, hcell, hwz⟩)

set_option maxRecDepth 100000 in
theorem openS {H : Type} {enc : TypeId × Value → H} {W : World} {base : Nat} {v : Value} {d : DataW H} {p : List MemPlace}
    (hok : Value.okWide Tryd.prog W .any base 48 v) (h : DataW.Trod enc Tryd.prog W 0 (fun _ => true) true 48 v d p) : ∃ xss : List (List Int), InS W v xss := by
  obtain ⟨a0, len, cap, rfl⟩ := okWide_slice Tryd.underlying48 hok
  obtain ⟨fuel, hf⟩ := h
  rcases open_int_rows Tryd.underlying48 Tryd.underlying22 Tryd.underlying3 (by kernel_rfl) (by kernel_rfl) hf with ⟨hcs, _⟩ | ⟨a, len', cap', A, L, C, Z, hcs, _, hl, hm, _, hr⟩
  · simp [Value.cells] at hcs
    obtain ⟨rfl, rfl, rfl⟩ := hcs
    exact ⟨[], none, 0, [], rfl, rfl, by simp, by unfold maxLen; omega, .inl rfl, fun k u xs hu => by simp at hu⟩
  · simp [Value.cells] at hcs
    obtain ⟨rfl, rfl, rfl⟩ := hcs
    have each : ∀ r, r < cap → ∃ xs : List Int, InI W (.slice (A r) (L r) (C r)) xs := by
      intro r hr'
      obtain ⟨h1, h2, h3, h4, h5, h6, h7⟩ := hr r hr'
      cases hA : A r with
      | none =>
        have hC := h6 hA
        exact inI_of_row (zs := []) (.inl ⟨rfl, by omega, hC, rfl⟩)
      | some a' =>
        exact inI_of_row (zs := Z r) (.inr ⟨a', rfl, h2, h3, h4, fun i hi => (h7 a' hA).2 i (by omega), h5⟩)
    obtain ⟨F, hF⟩ := choose_lt each
    refine ⟨(List.range len).map F, some a, cap, (List.range len).map fun r => .slice (A r) (L r) (C r), by simp, by simp, by simpa using hl, hm, ?_, ?_⟩
    · by_cases h0 : 0 < len
      · obtain ⟨b, off, spot⟩ := a
        have hspot : spot = none := by simpa [Addr.add] using World.cell?_spot (hr 0 (by omega)).1
        subst hspot
        refine .inr ⟨b, off, rfl, fun k u hu => ?_⟩
        have hk : k < len := by
          rcases Nat.lt_or_ge k len with h | h
          · exact h
          · rw [List.getElem?_eq_none (by simpa using h)] at hu; cases hu
        rw [List.getElem?_map, List.getElem?_range hk] at hu
        injection hu with hu
        rw [← hu, ← Go.WideShapes.add_plain]; exact (hr k (by omega)).1
      · exact .inl (by have : len = 0 := by omega
                       subst this; rfl)
    · intro k u xs hu hx
      have hk : k < len := by
        rcases Nat.lt_or_ge k len with h | h
        · exact h
        · rw [List.getElem?_eq_none (by simpa using h)] at hu; cases hu
      rw [List.getElem?_map, List.getElem?_range hk] at hu hx
      injection hu with hu
      injection hx with hx
      rw [← hu, ← hx]; exact hF k (by omega)


theorem inI_of_row_w {w : World} {a : Option Addr} {len cap : Nat} {zs : List Int}
    (h : (a = none ∧ len = 0 ∧ cap = 0 ∧ zs = []) ∨ ∃ x, a = some x ∧ len ≤ cap ∧ cap ≤ maxLen ∧ zs.length = cap ∧ (∀ i, i < zs.length → w.cell? (x.add i) = some (.int .i64 (zs.getD i 0))) ∧ ∀ n ∈ zs, (Lit.int .i64 n).wf = true) :
    ∃ xs : List Int, InI w (.slice a len cap) xs ∧ ∀ x ∈ xs, (Lit.int .i64 x).wf = true := by
  rcases h with ⟨rfl, rfl, rfl, rfl⟩ | ⟨⟨b, off, spot⟩, rfl, h1, h2, h3, h4, h5⟩
  · exact ⟨[], ⟨none, 0, rfl, by simp, by unfold maxLen; omega, .inl rfl⟩, by simp⟩
  · have hl : (zs.take len).length = len := by rw [List.length_take]; omega
    refine ⟨zs.take len, ⟨some ⟨b, off, spot⟩, cap, by rw [hl], by omega, h2, ?_⟩, fun x hx => h5 x (List.mem_of_mem_take hx)⟩
    by_cases h0 : len = 0
    · exact .inl (List.eq_nil_of_length_eq_zero (by omega))
    have hspot : spot = none := by simpa [Addr.add] using World.cell?_spot (h4 0 (by omega))
    subst hspot
    refine .inr ⟨b, off, rfl, fun k x hx => ?_⟩
    have hk : k < len := by
      rcases Nat.lt_or_ge k len with h | h
      · exact h
      · rw [List.getElem?_eq_none (by omega)] at hx; cases hx
    rw [List.getElem?_take, if_pos hk] at hx
    have := h4 k (by omega)
    rw [List.getD_eq_getElem?_getD, hx] at this
    by_cases hk0 : k = 0
    · subst hk0; simpa [Addr.add] using this
    · simpa [Addr.add, hk0] using this
set_option maxRecDepth 100000 in
theorem openIW {H : Type} {enc : TypeId × Value → H} {W : World} {base : Nat} {v : Value} {d : DataW H} {p : List MemPlace}
    (hok : Value.okWide Tryd.prog W .any base 22 v) (h : DataW.Trod enc Tryd.prog W 0 (fun _ => true) true 22 v d p) : ∃ xs : List Int, InI W v xs ∧ ∀ x ∈ xs, (Lit.int .i64 x).wf = true := by
  obtain ⟨a0, len0, cap0, rfl⟩ := okWide_slice Tryd.underlying22 hok
  obtain ⟨fuel, hf⟩ := h
  rcases open_ints Tryd.underlying22 Tryd.underlying3 (by kernel_rfl) hf with ⟨hcs, _⟩ | ⟨x, l, c, zs, hcs, _, hl, hm, hz, _, hcell, hwz⟩
  · simp [Value.cells] at hcs
    obtain ⟨rfl, rfl, rfl⟩ := hcs
    exact inI_of_row_w (.inl ⟨rfl, rfl, rfl, rfl⟩)
  · simp [Value.cells] at hcs
    obtain ⟨rfl, rfl, rfl⟩ := hcs
    exact inI_of_row_w (.inr ⟨_, rfl, hl, hm, by simpa using hz, hcell, hwz⟩)
end Go.Proofs.YtklhplifceedeaaDoor
