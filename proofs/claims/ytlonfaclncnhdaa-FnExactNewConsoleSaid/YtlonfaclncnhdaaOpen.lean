/- From the row's readings of arguments to the readings that the walks take. -/
import Derived.Test.YtlonfaclncnhdaaStd
import Derived.ChangeOld
import Derived.Deep.Matrix
import Derived.ShutString
namespace Go.Proofs.Ytlonfaclncnhdaa
open Go.ChangeShapes Go.WideShapes Go.ChangeAt Go.RowKit Go.Deep

theorem inI_of_row {w : World} {a : Option Addr} {len cap : Nat} {zs : List Int}
    (h : (a = none ∧ len = 0 ∧ cap = 0 ∧ zs = []) ∨ ∃ x, a = some x ∧ len ≤ cap ∧ cap ≤ maxLen ∧ zs.length = cap ∧ (∀ i, i < zs.length → w.cell? (x.add i) = some (.int .i64 (zs.getD i 0))) ∧ ∀ n ∈ zs, (Lit.int .i64 n).wf = true) :
    ∃ xs : List Int, InI w (.slice a len cap) xs := by
  have h' := h
  obtain ⟨xs, hl, hs, _⟩ := slI_of_row h
  subst hl
  rcases h' with ⟨rfl, h1, rfl, _⟩ | ⟨x, rfl, h1, h2, _⟩
  · exact ⟨xs, none, 0, rfl, by omega, by unfold maxLen; omega, hs⟩
  · exact ⟨xs, some x, cap, rfl, h1, h2, hs⟩
set_option maxRecDepth 100000 in
theorem openI {H : Type} {enc : TypeId × Value → H} {W : World} {base : Nat} {v : Value} {d : DataW H} {p : List MemPlace}
    (hok : Value.okWide Try.prog W .any base 24 v) (h : DataW.Trod enc Try.prog W 0 (fun _ => true) true 24 v d p) : ∃ xs : List Int, InI W v xs := by
  obtain ⟨a0, len0, cap0, rfl⟩ := okWide_slice Try.underlying24 hok
  obtain ⟨fuel, hf⟩ := h
  rcases open_ints Try.underlying24 Try.underlying3 (by kernel_rfl) hf with ⟨hcs, _⟩ | ⟨x, l, c, zs, hcs, _, hl, hm, hz, _, hcell, hwz⟩
  · simp [Value.cells] at hcs
    obtain ⟨rfl, rfl, rfl⟩ := hcs
    exact inI_of_row (.inl ⟨rfl, rfl, rfl, rfl⟩)
  · simp [Value.cells] at hcs
    obtain ⟨rfl, rfl, rfl⟩ := hcs
    exact inI_of_row (.inr ⟨_, rfl, hl, hm, by simpa using hz, hcell, hwz⟩)
end Go.Proofs.Ytlonfaclncnhdaa
