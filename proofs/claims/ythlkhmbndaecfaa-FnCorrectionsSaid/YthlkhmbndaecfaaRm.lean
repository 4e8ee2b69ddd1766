/- A result struck: the reference's contract. -/
import Derived.Test.YthlkhmbndaecfaaRepl
import Derived.Test.YthlkhmbndaecfaaCu
namespace Go.Proofs.Ythlkhmbndaecfaa
open Go.ChangeShapes Go.WideShapes Go.ChangeAt Go.RowKit

def removeQ (x : LeagueV) (i : Int) : LeagueV := ⟨x.clubs, x.results.take i.toNat ++ x.results.drop (i.toNat + 1)⟩
def removeF (x : LeagueV) (i : Int) : LeagueV := if hasR x i then removeQ x i else ⟨0, []⟩
theorem removeF_len {x : LeagueV} {i : Int} (h : x.results.length ≤ 1048576) : (removeF x i).results.length ≤ 1048576 := by
  unfold removeF
  split
  · simp only [removeQ, List.length_append, List.length_take, List.length_drop]; omega
  · simp
theorem flat_takeR : ∀ (rs : List Res) (k : Nat), flat (rs.take k) = (flat rs).take (k * 4)
  | [], k => by simp [flat]
  | r :: rs, 0 => by simp [flat]
  | r :: rs, k + 1 => by
    rw [List.take_succ_cons, flat, flat, flat_takeR rs k, show (k + 1) * 4 = k * 4 + 1 + 1 + 1 + 1 from by omega]
    rfl
theorem flat_dropR : ∀ (rs : List Res) (k : Nat), flat (rs.drop k) = (flat rs).drop (k * 4)
  | [], k => by simp [flat]
  | r :: rs, 0 => by simp
  | r :: rs, k + 1 => by
    rw [List.drop_succ_cons, flat, flat_dropR rs k, show (k + 1) * 4 = k * 4 + 1 + 1 + 1 + 1 from by omega]
    rfl
theorem SlR.take_ {w : World} {A : Option Addr} {rs : List Res} (h : SlR w A rs) (k : Nat) : SlR w A (rs.take k) := by
  show SlI w A (flat (rs.take k))
  rw [flat_takeR]; exact SlI.take_ h _
theorem SlR.drop_ {w : World} {b off : Nat} {rs : List Res} (h : SlR w (some ⟨b, off, none⟩) rs) (k : Nat) : SlR w (some ⟨b, off + k * 4, none⟩) (rs.drop k) := by
  show SlI w _ (flat (rs.drop k))
  rw [flat_dropR]; exact SlI.drop_ h _
theorem ownsEd (W : World) : ((W.alloc (.cells #[] 39)).drew).ownsRow W.heap.size 39 4 (.slice (some ⟨W.heap.size, 0, none⟩) 0 0) 0 (ints (flat [])) := ownsE W _ W.heap.size rfl (Nat.le_refl _)
theorem belowEd {W W' : World} {o : Obj} (h : ∀ B, B ≤ W.heap.size → B ≤ ((W.alloc o).drew).heap.size → Below B (W.alloc o).drew W') : Below W.heap.size W W' := by
  have hb := h W.heap.size (Nat.le_refl _) (by show _ ≤ (W.alloc o).heap.size; simp)
  exact ((Below.refl W.heap.size W).alloc (Nat.le_refl _) o).trans ⟨hb.os, hb.tape, hb.output, hb.size, hb.block⟩
theorem slR_nil {w : World} {A : Option Addr} : SlR w A [] := .inl rfl
end Go.Proofs.Ythlkhmbndaecfaa
