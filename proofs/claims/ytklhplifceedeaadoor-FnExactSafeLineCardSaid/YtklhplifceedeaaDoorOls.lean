/- Orders with few reversals: the cost of a first player: plain facts and contracts. -/
import Derived.Test.YtklhplifceedeaaDoorMo
import Derived.Test.YtklhplifceedeaaDoorTo
import Derived.Test.YtklhplifceedeaaDoorTq
import Derived.Test.YtklhplifceedeaaDoorTs
namespace Go.Proofs.YtklhplifceedeaaDoor
open Go.ChangeShapes Go.WideShapes Go.ChangeAt Go.RowKit

/-- Those who beat a player, as a set. -/
def lossN (n w a : Nat) : Nat := 2 ^ n - 1 - w - 2 ^ a
theorem loss_all : ∀ n : Fin 9, ∀ a : Fin 8, ∀ w : Fin 256, a.val < n.val → w.val < 2 ^ n.val → w.val.testBit a.val = false →
    w.val + 2 ^ a.val + 1 ≤ 2 ^ n.val ∧ ∀ b : Fin 8, (lossN n.val w.val a.val).testBit b.val = (decide (b.val < n.val) && (!w.val.testBit b.val && b.val != a.val)) := by decide +kernel
theorem loss_ok {n a w : Nat} (hn : n ≤ 8) (ha : a < n) (hw : w < 2 ^ n) (hb : w.testBit a = false) :
    w + 2 ^ a + 1 ≤ 2 ^ n ∧ ∀ b, b < 8 → (lossN n w a).testBit b = (decide (b < n) && (!w.testBit b && b != a)) := by
  have h8 : (2 : Nat) ^ n ≤ 256 := Nat.pow_le_pow_right (by omega) hn
  have h := loss_all ⟨n, by omega⟩ ⟨a, by omega⟩ ⟨w, by omega⟩ ha hw hb
  exact ⟨h.1, fun b hb8 => h.2 ⟨b, hb8⟩⟩
theorem i64_small (n : Int) (h₀ : 0 ≤ n) (h₁ : n < 2 ^ 8) : IntKind.i64.wrap n = n := by rw [IntKind.wrap_i64]; omega
theorem and_small {a b : Nat} (ha : a < 256) (hb : b < 256) : bits BinOp.and IntKind.i64 (a : Int) (b : Int) = ((a &&& b : Nat) : Int) := (bits_nat .i64 8 (by decide) i64_small a b ha hb).1
theorem andNot_small {s w : Nat} (hs : s < 256) (_hw : w < 256) : bits BinOp.andNot IntKind.i64 (s : Int) (w : Int) = ((s &&& (255 ^^^ w) : Nat) : Int) := by
  have h1 : (BitVec.ofInt 64 (s : Int) &&& ~~~BitVec.ofInt 64 (w : Int)).toNat = s &&& (255 ^^^ w) := by
    apply Nat.eq_of_testBit_eq
    intro i
    have e : (BitVec.ofInt 64 (s : Int) &&& ~~~BitVec.ofInt 64 (w : Int)).toNat.testBit i = (BitVec.ofInt 64 (s : Int) &&& ~~~BitVec.ofInt 64 (w : Int)).getLsbD i := rfl
    rw [e, BitVec.getLsbD_and, BitVec.getLsbD_not, BitVec.ofInt_natCast, BitVec.ofInt_natCast, BitVec.getLsbD_ofNat, BitVec.getLsbD_ofNat, Nat.testBit_and, Nat.testBit_xor]
    by_cases hi : i < 8
    · have h255 : ∀ i : Fin 8, (255 : Nat).testBit i.val = true := by decide
      rw [h255 ⟨i, hi⟩]
      have : i < 64 := by omega
      simp [this]
    · rw [bit_hi hs (by omega)]; simp
  show IntKind.i64.wrap ((BitVec.ofInt 64 (s : Int) &&& ~~~BitVec.ofInt 64 (w : Int)).toNat : Int) = _
  rw [h1]
  have h2 : s &&& (255 ^^^ w) ≤ s := Nat.and_le_left
  rw [IntKind.wrap_i64]; omega
def winN (x : TourV) (a : Nat) : Nat := (x.wins.getD a 0).toNat
theorem win_at {w : World} {A : Option Addr} {x : TourV} (hok : tourB x = true) {a : Nat} (hs : SlI w A x.wins) (ha : a < x.wins.length) :
    ∃ b off, A = some ⟨b, off, none⟩ ∧ w.cell? ⟨b, off + a, none⟩ = some (.int .i64 (winN x a : Nat)) ∧ b < w.heap.size ∧ winN x a < 2 ^ x.wins.length ∧ (winN x a).testBit a = false := by
  obtain ⟨h1, h2, h3, h4, h5⟩ := tourB_t hok
  obtain ⟨b, off, y, rfl, hy, c1, hlt⟩ := hs.at_ ha
  have hin := inB_t.1 (List.all_eq_true.1 h4 y (List.mem_of_getElem? hy))
  have e : winN x a = y.toNat := by rw [winN, List.getD_eq_getElem?_getD, hy]; rfl
  have hirr := tourB_irr hok ha
  rw [bt, List.getD_eq_getElem?_getD, hy] at hirr
  refine ⟨b, off, rfl, by rw [e, Int.toNat_of_nonneg hin.1]; exact c1, hlt, ?_, by rw [e]; exact hirr⟩
  have h6 : (2 : Int) ^ x.wins.length = ((2 ^ x.wins.length : Nat) : Int) := by rw [Int.natCast_pow]; rfl
  rw [h6] at hin
  rw [e]
  omega
end Go.Proofs.YtklhplifceedeaaDoor
