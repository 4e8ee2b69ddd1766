/- Whom a player reaches: both packages' contracts. -/
import Derived.Test.YtklhplifceedeaaDoorRcp
import Derived.Test.YtklhplifceedeaaDoorMo
namespace Go.Proofs.YtklhplifceedeaaDoor
open Go.ChangeShapes Go.WideShapes Go.ChangeAt Go.RowKit

theorem or_small {a b : Nat} (ha : a < 256) (hb : b < 256) : bits BinOp.or IntKind.i64 (a : Int) (b : Int) = ((a ||| b : Nat) : Int) := (bits_nat .i64 8 (by decide) i64_small a b ha hb).2
/-- The wins of a valid tour, cell by cell. -/
theorem win_cells {w : World} {A : Option Addr} {x : TourV} (hok : tourB x = true) (hs : SlI w A x.wins) : ∃ bk off, A = some ⟨bk, off, none⟩ ∧ bk < w.heap.size ∧ ∀ b, b < x.wins.length → w.cell? ⟨bk, off + b, none⟩ = some (.int .i64 (winN x b : Nat)) := by
  obtain ⟨t1, t2, t3, _, _⟩ := tourB_t hok
  obtain ⟨bk, off, rfl, _, hlt, _, _⟩ := win_at hok hs (show 0 < x.wins.length by omega)
  refine ⟨bk, off, rfl, hlt, fun b hb => ?_⟩
  obtain ⟨b', o', e, c1, _⟩ := win_at hok hs hb
  injection e with e
  injection e with e1 e2
  subst e1; subst e2
  exact c1
theorem Bx.under {w w' : World} {b B : Nat} {x y : Value} (h : Bx w b x y) (hb : Below B w w') (hB : b < B) : Bx w' b x y :=
  ⟨(hb.cell (p := ⟨b, 0, none⟩) hB).trans h.1, (hb.cell (p := ⟨b, 1, none⟩) hB).trans h.2.1, Nat.lt_of_lt_of_le h.2.2 hb.size⟩
theorem pow_wrap8 : ∀ k : Fin 8, wrap64 ((2 : Int) ^ k.val) = ((2 ^ k.val : Nat) : Int) := by decide +kernel
theorem pow_lt8 {a : Nat} (h : a < 8) : wrap64 ((2 : Int) ^ a) = ((2 ^ a : Nat) : Int) := pow_wrap8 ⟨a, h⟩

def orM (x : TourV) (s : Nat) (l : List Int) : Nat := l.foldl (fun (acc : Nat) (b : Int) => acc ||| winN x b.toNat) s
theorem orM_lt {x : TourV} {n : Nat} (hw : ∀ b, winN x b < 2 ^ n) : ∀ (l : List Int) (s : Nat), s < 2 ^ n → orM x s l < 2 ^ n := by
  intro l
  induction l with
  | nil => intro s h; exact h
  | cons y l ih => intro s h; exact ih _ (Nat.or_lt_two_pow h (hw _))
theorem orM_snoc {x : TourV} {s j : Nat} {l : List Int} {y : Int} (h : l[j]? = some y) : orM x s (l.take (j + 1)) = orM x s (l.take j) ||| winN x y.toNat := by
  rw [take_snoc h, orM, List.foldl_append]; rfl
end Go.Proofs.YtklhplifceedeaaDoor
