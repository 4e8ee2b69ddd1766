/- Tables after some results: contracts. -/
import Derived.Test.YthlkhmbndaecfaaTi
import Derived.Test.YthlkhmbndaecfaaTl
import Derived.Test.YthlkhmbndaecfaaCu
import Derived.Deep.RegionHeld3
namespace Go.Proofs.Ythlkhmbndaecfaa
open Go.ChangeShapes Go.WideShapes Go.ChangeAt Go.RowKit

theorem flat_take : ∀ (rs : List Res) (k : Nat), flat (rs.take k) = (flat rs).take (k * 4)
  | [], k => by simp [flat]
  | r :: rs, 0 => by simp [flat]
  | r :: rs, k + 1 => by
    rw [List.take_succ_cons, flat, flat, flat_take rs k, show (k + 1) * 4 = k * 4 + 1 + 1 + 1 + 1 from by omega]
    rfl
theorem InL.take {w : World} {cl : Int} {rs : List Res} {A : Option Addr} {c k : Nat} (h : InL w (.agg #[.int .i64 cl, .slice A rs.length c]) ⟨cl, rs⟩) (hk : k ≤ rs.length) : InL w (.agg #[.int .i64 cl, .slice A k c]) ⟨cl, rs.take k⟩ := by
  obtain ⟨A', c', he, hc, hm, hs, hw⟩ := h
  simp only [Value.agg.injEq, Array.mk.injEq, List.cons.injEq, and_true, true_and, Value.slice.injEq] at he
  obtain ⟨rfl, rfl⟩ := he
  have hl : (rs.take k).length = k := by rw [List.length_take]; omega
  simp only at hc hm hs hw
  refine ⟨A, c, by simp only [hl], by simp only [hl]; omega, hm, ?_, hw⟩
  show SlI w A (flat (rs.take k))
  rw [flat_take]
  exact SlI.take_ hs _
theorem leagueB_take {cl : Int} {rs : List Res} (h : leagueB ⟨cl, rs⟩ = true) (k : Nat) : leagueB ⟨cl, rs.take k⟩ = true := by
  simp only [leagueB, Bool.and_eq_true, decide_eq_true_eq] at h ⊢
  exact ⟨h.1, by rw [List.length_take]; omega, all_take h.2.2 k⟩
def afterT (x : LeagueV) (k : Int) : List Int := if leagueB x && inB k 0 x.results.length then tableL ⟨x.clubs, x.results.take k.toNat⟩ else []
theorem tableL_len (x : LeagueV) : (tableL x).length ≤ 8 := by
  unfold tableL
  split
  · next h =>
    rw [tableF_length]
    have := leagueB_t h
    omega
  · simp
theorem afterT_len {x : LeagueV} {k : Int} : (afterT x k).length ≤ 1048576 := by
  unfold afterT
  split
  · have := tableL_len ⟨x.clubs, x.results.take k.toNat⟩; omega
  · simp
end Go.Proofs.Ythlkhmbndaecfaa
