/- Whom a player reaches: both packages' contracts. -/
import Derived.Test.YtnjomfmmnkjhfaaRcp
import Derived.Test.YtnjomfmmnkjhfaaMba
import Derived.Test.YtnjomfmmnkjhfaaMbg
namespace Go.Proofs.Ytnjomfmmnkjhfaa
open Go.ChangeShapes Go.WideShapes Go.ChangeAt Go.RowKit

theorem or_small {a b : Nat} (ha : a < 256) (hb : b < 256) : bits BinOp.or IntKind.i64 (a : Int) (b : Int) = ((a ||| b : Nat) : Int) := (bits_nat .i64 8 (by decide) i64_small a b ha hb).2
/-- The wins of a valid tour, cell by cell. -/
theorem win_cells {w : World} {A : Option Addr} {x : TourV} (hok : tourB x = true) (hs : SlI w A x.wins) : ∃ bk off, A = some ⟨bk, off, none⟩ ∧ bk < w.heap.size ∧ ∀ b, b < x.wins.length → w.cell? ⟨bk, off + b, none⟩ = some (.int .i64 (winN x b : Nat)) := by
  obtain ⟨t1, t2, t3, _, _⟩ := tourB_t hok
  obtain ⟨bk, off, rfl, _, hlt, _, _⟩ := win_at hok hs (show 0 < x.wins.length by omega)
  refine ⟨bk, off, rfl, hlt, fun b hb => ?_⟩
  obtain ⟨b', o', e, c1, _⟩ := win_at hok hs hb
  injection e with e
  injection e with e1 e2
  subst e1; subst e2
  exact c1
theorem Bx.under {w w' : World} {b B : Nat} {x y : Value} (h : Bx w b x y) (hb : Below B w w') (hB : b < B) : Bx w' b x y :=
  ⟨(hb.cell (p := ⟨b, 0, none⟩) hB).trans h.1, (hb.cell (p := ⟨b, 1, none⟩) hB).trans h.2.1, Nat.lt_of_lt_of_le h.2.2 hb.size⟩
theorem pow_wrap8 : ∀ k : Fin 8, wrap64 ((2 : Int) ^ k.val) = ((2 ^ k.val : Nat) : Int) := by decide +kernel
theorem pow_lt8 {a : Nat} (h : a < 8) : wrap64 ((2 : Int) ^ a) = ((2 ^ a : Nat) : Int) := pow_wrap8 ⟨a, h⟩

def orM (x : TourV) (s : Nat) (l : List Int) : Nat := l.foldl (fun (acc : Nat) (b : Int) => acc ||| winN x b.toNat) s
theorem orM_lt {x : TourV} {n : Nat} (hw : ∀ b, winN x b < 2 ^ n) : ∀ (l : List Int) (s : Nat), s < 2 ^ n → orM x s l < 2 ^ n := by
  intro l
  induction l with
  | nil => intro s h; exact h
  | cons y l ih => intro s h; exact ih _ (Nat.or_lt_two_pow h (hw _))
theorem orM_snoc {x : TourV} {s j : Nat} {l : List Int} {y : Int} (h : l[j]? = some y) : orM x s (l.take (j + 1)) = orM x s (l.take j) ||| winN x y.toNat := by
  rw [take_snoc h, orM, List.foldl_append]; rfl
end Go.Proofs.Ytnjomfmmnkjhfaa
namespace Go.Proofs.Ytnjomfmmnkjhfaa
open Go.ChangeShapes Go.WideShapes Go.ChangeAt Go.RowKit

def scN (x : TourV) (a : Nat) : Nat := cntL (winN x a)
def scoresL (x : TourV) : List Int := (List.range x.wins.length).map (fun a => ((scN x a : Nat) : Int))
theorem scoresL_len (x : TourV) : (scoresL x).length = x.wins.length := by simp [scoresL]
theorem scoresL_at {x : TourV} {a : Nat} (h : a < x.wins.length) : (scoresL x)[a]? = some ((scN x a : Nat) : Int) := by simp [scoresL, h]
theorem scN_le (x : TourV) (a : Nat) : scN x a ≤ 8 := cntL_le _
theorem scoresL_take {x : TourV} {a : Nat} (h : a < x.wins.length) : (scoresL x).take (a + 1) = (scoresL x).take a ++ [((scN x a : Nat) : Int)] := take_snoc (scoresL_at h)
theorem scoresL_all (x : TourV) : (scoresL x).take x.wins.length = scoresL x := List.take_of_length_le (by rw [scoresL_len]; exact Nat.le_refl _)
theorem scoresL_bd {x : TourV} : ∀ y ∈ scoresL x, 0 ≤ y ∧ y ≤ 8 := by
  intro y hy
  simp only [scoresL, List.mem_map, List.mem_range] at hy
  obtain ⟨a, _, rfl⟩ := hy
  have := scN_le x a
  omega
end Go.Proofs.Ytnjomfmmnkjhfaa
namespace Go.Proofs.Ytnjomfmmnkjhfaa
open Go.ChangeShapes Go.WideShapes Go.ChangeAt Go.RowKit

def triT (x : TourV) : Nat → Int
  | 0 => (bin x.wins.length 3 : Nat)
  | k + 1 => triT x k - (bin (scN x k) 2 : Nat)
/-- How many triangles a valid tour has. -/
def triF (x : TourV) : Int := triT x x.wins.length
theorem bin3 : ∀ n : Fin 9, bin n.val 3 = n.val * (n.val - 1) * (n.val - 2) / 6 ∧ bin n.val 3 ≤ 56 := by decide +kernel
theorem bin2 : ∀ n : Fin 9, bin n.val 2 = n.val * (n.val - 1) / 2 ∧ bin n.val 2 ≤ 28 := by decide +kernel
theorem bin3i : ∀ n : Fin 9, wrap64 ((wrap64 (wrap64 ((n.val : Int) * ((n.val : Int) - 1)) * ((n.val : Int) - 2))).tdiv 6) = (bin n.val 3 : Nat) := by decide +kernel
theorem bin2i : ∀ n : Fin 9, wrap64 ((wrap64 ((n.val : Int) * ((n.val : Int) - 1))).tdiv 2) = (bin n.val 2 : Nat) := by decide +kernel
theorem triT_bd {x : TourV} (hn : x.wins.length ≤ 8) : ∀ k, triT x k ≤ 56 ∧ -28 * (k : Int) ≤ triT x k := by
  intro k
  induction k with
  | zero => have := (bin3 ⟨x.wins.length, by omega⟩).2; simp only at this; unfold triT; omega
  | succ k ih =>
    have := (bin2 ⟨scN x k, Nat.lt_succ_of_le (scN_le x k)⟩).2
    simp only at this
    unfold triT
    rw [Int.natCast_add, Int.natCast_one]
    omega
end Go.Proofs.Ytnjomfmmnkjhfaa
