/- Records of clubs: plain law. -/
import Derived.Test.YtpjbgcflepebgaaDoorGl
namespace Go.Proofs.YtpjbgcflepebgaaDoor
open Go.ChangeShapes Go.WideShapes Go.ChangeAt Go.RowKit

/-- How a result ended for a club: 2 won, 1 drawn, 0 lost. -/
def outc (r : Res) (c : Int) : Int := 1 + cmpI (if c = r.h then r.g else r.t) (if c = r.h then r.t else r.g)
def hits (c k : Int) (r : Res) : Bool := (r.h == c || r.a == c) && outc r c == k
def recN (c k : Int) (rs : List Res) : Nat := rs.countP (hits c k)
theorem recN_snoc {c k : Int} {rs : List Res} {j : Nat} {r : Res} (h : rs[j]? = some r) : recN c k (rs.take (j + 1)) = recN c k (rs.take j) + (if hits c k r then 1 else 0) := by
  rw [recN, take_snoc h, List.countP_append, List.countP_singleton]; rfl
theorem recN_le (c k : Int) (rs : List Res) : recN c k rs ≤ rs.length := List.countP_le_length
theorem outc_rng (r : Res) (c : Int) : 0 ≤ outc r c ∧ outc r c ≤ 2 := by
  unfold outc cmpI
  split
  · omega
  · split <;> omega
/-- The reference's points of a club in a result tell the same. -/
theorem outc_pts (r : Res) (c : Int) (hne : r.h ≠ r.a) (hc : r.h = c ∨ r.a = c) :
    (if r.a = c then ptsOf r.t r.g else ptsOf r.g r.t) = if outc r c = 2 then 3 else outc r c := by
  unfold outc cmpI ptsOf
  by_cases h1 : r.a = c
  · have h2 : ¬ c = r.h := by omega
    simp only [h1, if_true, h2, if_false]
    repeat' split
    all_goals omega
  · have h2 : c = r.h := by omega
    simp only [h2, if_true]
    repeat' split
    all_goals omega
end Go.Proofs.YtpjbgcflepebgaaDoor
