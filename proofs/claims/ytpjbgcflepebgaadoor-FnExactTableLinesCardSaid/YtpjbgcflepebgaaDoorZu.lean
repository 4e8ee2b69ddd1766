/- Rows of strings: the laws' helpers in one standard form; tables as lines in that form. -/
import Derived.Test.YtpjbgcflepebgaaDoorTz
namespace Go.Proofs.YtpjbgcflepebgaaDoor
open Go.ChangeShapes Go.WideShapes Go.ChangeAt Go.RowKit

def InZ (w : World) (v : Value) (ls : List (List UInt8)) : Prop := ∃ A c, v = .slice A ls.length c ∧ SlV w A (strs ls)
theorem InZ.below {w w' : World} {v : Value} {ls : List (List UInt8)} (h : InZ w v ls) (hb : Below w.heap.size w w') : InZ w' v ls := by
  obtain ⟨A, c, rfl, h⟩ := h; exact ⟨A, c, rfl, SlV.below h hb⟩
theorem FrZ.in_ {w : World} {lo hi : Nat} {v : Value} {ls : List (List UInt8)} (h : FrZ w lo hi v ls) : InZ w v ls := by
  obtain ⟨A, c, rfl, _⟩ := h.form; exact ⟨A, c, rfl, h.sl⟩
theorem FrZ.drew {w : World} {lo hi : Nat} {v : Value} {ls : List (List UInt8)} (h : FrZ w lo hi v ls) : FrZ w.drew lo hi v ls := h
theorem eqStringS_std (v u : Value) (ls : List (List UInt8)) (w : World) (hv : InZ w v ls) (hu : InZ w u ls) (hn : ls.length ≤ 1048576) :
    Calls Tryd.prog 8 #[v, u] w fun e w' => e = .returned (.bool true) ∧ Below w.heap.size w w' := by
  obtain ⟨A, c, rfl, hv⟩ := hv
  obtain ⟨B, d, rfl, hu⟩ := hu
  exact eqStringS_same A B c d ls w hv hu hn
theorem markStringS_std (v : Value) (lo hi : Nat) (ls : List (List UInt8)) (k : Int) (w : World) (hs : FrZ w lo hi v ls) (h1 : ls.length ≤ 1048576) (h2 : 1 ≤ k) (h3 : k ≤ 1099511627776) :
    Calls Tryd.prog 11 #[v, .int .i64 k] w fun e w' => e = .returned (.int .i64 (k + ls.length)) ∧ FrZ w' lo hi v (marksF k.toNat ls.length) ∧ Keep lo hi w w' := by
  obtain ⟨A, c, rfl, _⟩ := hs.form
  obtain ⟨q, rfl⟩ := Int.eq_ofNat_of_zero_le (show 0 ≤ k by omega)
  rw [Int.toNat_natCast]
  exact markStringS_any A c lo hi ls.length ls q w rfl hs h1 (by omega) (by omega)
theorem heldStringS_std (v : Value) (n : Nat) (k : Int) (w : World) (hs : InZ w v (marksF k.toNat n)) (h1 : n ≤ 1048576) (h2 : 1 ≤ k) (h3 : k ≤ 1099511627776) :
    Calls Tryd.prog 12 #[v, .int .i64 k] w fun e w' => e = .returned (.int .i64 (k + n)) ∧ Below w.heap.size w w' := by
  obtain ⟨A, c, rfl, hs⟩ := hs
  obtain ⟨q, rfl⟩ := Int.eq_ofNat_of_zero_le (show 0 ≤ k by omega)
  rw [Int.toNat_natCast, marksF_length] at *
  exact heldStringS_any A c n q w hs h1 (by omega) (by omega)

theorem linesF_len {x : LeagueV} : (linesF x).length ≤ 1048576 := by rw [linesF_length]; have := tableL_len x; omega
theorem specTableLines_std (v : Value) (x : LeagueV) (w : World) (hs : InL w v x) (_hn : x.results.length ≤ 1048576) :
    Calls Tryd.prog 5 #[v] w fun e w' => ∃ v', e = .returned v' ∧ FrZ w' w.heap.size w'.heap.size v' (linesF x) ∧ Below w.heap.size w w' := specTableLines_any v x w hs
theorem implTableLines_std (v : Value) (x : LeagueV) (w : World) (hs : InL w v x) (_hn : x.results.length ≤ 1048576) (ht : tabP w) :
    Calls Tryd.prog 7 #[v] w fun e w' => ∃ v', e = .returned v' ∧ FrZ w' w.heap.size w'.heap.size v' (linesF x) ∧ Below w.heap.size w w' := implTableLines_any v x w hs ht
end Go.Proofs.YtpjbgcflepebgaaDoor
