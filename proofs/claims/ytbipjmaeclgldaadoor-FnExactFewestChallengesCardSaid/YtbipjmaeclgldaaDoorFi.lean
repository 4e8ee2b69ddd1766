/- Integers as texts: the reference's contract. -/
import Derived.Test.YtbipjmaeclgldaaDoorSl
import Derived.Lib.ItoaNum
import Derived.Lib.ItoaLen
import Derived.Lib.ItoaMem
import Derived.Below
import Derived.Laws.IdiomStrings
import Derived.Laws.Concat
import Derived.Deep.RegionHeld3
import Derived.Deep.RegionWith
import Derived.Deep.Cut
import Derived.Deep.CutRange
import Derived.Lib.Hide
namespace Go.Proofs.YtbipjmaeclgldaaDoor
open Go.ChangeShapes Go.WideShapes Go.ChangeAt Go.RowKit

theorem decDigits_big {u : Nat} (h : ¬ u < 10) : Lib.decDigits u = Lib.decDigits (u / 10) ++ [UInt8.ofNat (48 + u % 10)] := by rw [Lib.decDigits, dif_neg h]
theorem dec_len {n : Nat} (h : n ≤ 9223372036854775807) : (Lib.decDigits n).length ≤ 21 := by
  have := Lib.itoa_length_le (n : Int) (by omega) (by omega)
  rwa [Lib.itoa_nonneg] at this
theorem bcat (a b : List UInt8) : (⟨a.toArray⟩ : ByteArray) ++ ⟨b.toArray⟩ = ⟨(a ++ b).toArray⟩ := by
  apply ByteArray.ext; simp
theorem bcat1 (x : UInt8) (b : List UInt8) : (⟨#[x]⟩ : ByteArray) ++ ⟨b.toArray⟩ = ⟨(x :: b).toArray⟩ := bcat [x] b
theorem drew_lt (w : World) (o : Obj) : w.heap.size < ((w.alloc o).drew).heap.size := by show w.heap.size < (w.alloc o).heap.size; simp
set_option maxRecDepth 100000 in
theorem byteAt (W : World) (g : Nat) (x : Int) (h0 : 0 ≤ x) (h1 : x < 256) (hg : W.cell? ⟨g, 0, none⟩ = some (.int .u8 x)) :
    (convert 27 9 (.slice (some ⟨g, 0, none⟩) 1 1)).run Tryd.prog W = .ok (.string ⟨#[UInt8.ofNat x.toNat]⟩) W :=
  run_convert_bytes_back (P := Tryd.prog) W 27 9 5 ⟨g, 0, none⟩ 1 [UInt8.ofNat x.toNat] Tryd.underlying27 Tryd.underlying5 Tryd.underlying9 (fun j hj => by
    have hj0 : j = 0 := by simpa using hj
    subst hj0
    have e : ((UInt8.ofNat x.toNat).toNat : Int) = x := by
      rw [UInt8.toNat_ofNat']; omega
    simp only [Addr.add, Nat.add_zero, List.getElem_cons_zero]
    rw [e]; exact hg)
set_option maxRecDepth 100000 in
/-- 'string([]byte{b})'. -/
theorem byteStr (W : World) (x : Int) (h0 : 0 ≤ x) (h1 : x < 256) :
    (convert 27 9 (.slice (some ⟨W.heap.size, 0, none⟩) 1 1)).run Tryd.prog (W.alloc (.cells #[.int .u8 x] 5)) = .ok (.string ⟨#[UInt8.ofNat x.toNat]⟩) (W.alloc (.cells #[.int .u8 x] 5)) := by
  have h := run_convert_bytes_back (P := Tryd.prog) (W.alloc (.cells #[.int .u8 x] 5)) 27 9 5 ⟨W.heap.size, 0, none⟩ 1 [UInt8.ofNat x.toNat] Tryd.underlying27 Tryd.underlying5 Tryd.underlying9 (fun j hj => by
    have hj0 : j = 0 := by simpa using hj
    subst hj0
    have e : ((UInt8.ofNat x.toNat).toNat : Int) = x := by
      rw [UInt8.toNat_ofNat']; omega
    simp [Addr.add, go_sem]
    omega)
  exact h
/-- One digit more behind a negative number's text. -/
theorem td10 (u : Nat) : (-(u : Int)).tdiv 10 = -((u / 10 : Nat) : Int) := by
  rw [Int.neg_tdiv, Int.tdiv_eq_ediv_of_nonneg (by omega)]; rfl
theorem tm10 (u : Nat) : (-(u : Int)).tmod 10 = -((u % 10 : Nat) : Int) := by
  rw [Int.neg_tmod, Int.tmod_eq_emod_of_nonneg (by omega)]; rfl
theorem itoa_more {u : Nat} (h : 10 ≤ u) : Lib.itoa (-(u : Int)) = Lib.itoa (-((u / 10 : Nat) : Int)) ++ [UInt8.ofNat (48 + u % 10)] := by
  rw [Lib.itoa_neg u (by omega), Lib.itoa_neg (u / 10) (by omega), decDigits_big (u := u) (by omega)]
  simp
theorem itoa_one {u : Nat} (h : 1 ≤ u) (h2 : u < 10) : Lib.itoa (-(u : Int)) = [45, UInt8.ofNat (48 + u)] := by
  rw [Lib.itoa_neg u (by omega), Lib.decDigits_one (by omega)]
end Go.Proofs.YtbipjmaeclgldaaDoor
