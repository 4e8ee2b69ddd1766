/- A made row of integers, inside a region that draws its order. -/
import Derived.Test.YthlkhmbndaecfaaApa
namespace Go.Proofs.Ythlkhmbndaecfaa
open Go.ChangeShapes Go.WideShapes Go.ChangeAt Go.RowKit

def mkO (n : Nat) : Obj := .cells (madeCells (Value.int .i64 0).cells (n * 1)) 3
theorem run_mkI {n : Nat} (hn : n ≤ 1048576) (W : World) : (Instr.makeSlice 27 (.int .i64 (n : Int)) (.int .i64 (n : Int))).run Try.prog W = .ok (.slice (some ⟨W.heap.size, 0, none⟩) n n) (W.alloc (mkO n)) := by
  obtain ⟨i0, hi, hz0, hz1, hz2⟩ := info_parts infoInt
  have hr := run_make (P := Try.prog) W 27 3 i0 (.int .i64 0) Try.underlying27 hi hz0 .i64 .i64 n n (by omega) (Int.le_refl _) (by rw [hz2]; omega) (by omega)
  simp only [Int.toNat_natCast, hz1] at hr
  exact hr
theorem fr_mkO {n : Nat} (hn : n ≤ 1048576) (W : World) : Fr (W.alloc (mkO n)) W.heap.size (W.alloc (mkO n)).heap.size (.slice (some ⟨W.heap.size, 0, none⟩) n n) (List.replicate n 0) := by
  have h1 := World.ownsRow_lit (base := W.heap.size) (e := 3) (size := 1) W (madeCells (Value.int .i64 0).cells (n * 1)) n (Nat.le_refl _) (by unfold maxLen; omega) (size_madeCells _ _)
  rw [ints_replicate] at h1
  exact Fr.of_own (by rw [List.length_replicate]; exact h1)

theorem cell_mkO {W : World} {b n : Nat} {v : Value} (h : W.cell? ⟨b, 0, none⟩ = some v) (hb : b < W.heap.size) : (W.alloc (mkO n)).drew.cell? ⟨b, 0, none⟩ = some v := (((Below.refl _ W).alloc (Nat.le_refl _) _).cell (p := ⟨b, 0, none⟩) hb).trans h
end Go.Proofs.Ythlkhmbndaecfaa
