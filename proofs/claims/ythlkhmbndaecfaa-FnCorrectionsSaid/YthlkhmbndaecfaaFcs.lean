/- Corrected leagues: contracts that the law FnCorrections calls beside those that stand. -/
import Derived.Test.YthlkhmbndaecfaaGp
import Derived.Test.YthlkhmbndaecfaaMkl
import Derived.Test.YthlkhmbndaecfaaCq
import Derived.Test.YthlkhmbndaecfaaLsb
namespace Go.Proofs.Ythlkhmbndaecfaa
open Go.ChangeShapes Go.WideShapes Go.ChangeAt Go.RowKit

set_option maxHeartbeats 1000000 in
set_option maxRecDepth 100000 in
theorem implPointsOf_okB (A : Option Addr) (c : Nat) (x : LeagueV) (w : World) (hs : InL w (.agg #[.int .i64 x.clubs, .slice A x.results.length c]) x) (hok : leagueB x = true) :
    Calls Try.prog 19 #[.agg #[.int .i64 x.clubs, .slice A x.results.length c]] w fun e w' => ∃ v', e = .returned v' ∧ Fr w' w.heap.size w'.heap.size v' (ptsF x.clubs.toNat x.results) ∧ Below w.heap.size w w' := by
  have HS := Lib.hid hs
  have HO := Lib.hid hok
  have W1 : Hid (Below w.heap.size w (w.alloc (.cells #[.int .i64 x.clubs, .slice A x.results.length c] 25))) := (Below.refl _ w).alloc (Nat.le_refl _) _
  clear hs hok
  go_enter Try.func19, Try.ntmps19
  go_wp2_with fail
  refine (implLeagueOk_any _ _ _ (HS.out.below W1.out)).mono ?_
  rintro e w1 ⟨rfl, hb⟩
  rw [HO.out]
  have q0 : w1.cell? ⟨w.heap.size, 0, none⟩ = some (.int .i64 x.clubs) := by rw [hb.cell (p := ⟨w.heap.size, 0, none⟩) (by simp)]; simp
  have q1 : w1.cell? ⟨w.heap.size, 1, none⟩ = some (.slice A x.results.length c) := by rw [hb.cell (p := ⟨w.heap.size, 1, none⟩) (by simp)]; simp
  have HB : Hid (Below w.heap.size w w1) := W1.out.trans (hb.mono (by simp))
  clear hb
  go_wp2_with fail
  refine (implPoints_any _ x _ (HS.out.below HB.out) HO.out).mono ?_
  rintro e w2 ⟨v2, rfl, hf, hb⟩
  have H2 : Hid (Fr w2 w.heap.size w2.heap.size v2 (ptsF x.clubs.toNat x.results) ∧ Below w.heap.size w w2) := ⟨hf.wide HB.out.size (Nat.le_refl _) (Nat.le_refl _), HB.out.trans (hb.mono HB.out.size)⟩
  clear hf hb
  go_wp2
  go_ret
  exact ⟨_, rfl, H2.out.1, H2.out.2⟩

/-- A league that lies in a box of its own (block b). -/
structure XS (w W : World) (b : Nat) (n : Nat) (A : Option Addr) (m c : Nat) (rs : List Res) : Prop where
  hb : W.heap[b]? = some (.cells #[.int .i64 (n : Int), .slice A m c] 25 (0, 0))
  inl : InL W (.agg #[.int .i64 (n : Int), .slice A m c]) ⟨(n : Int), rs⟩
  be : Below w.heap.size w W
theorem XS.grow {w W W' : World} {b n m c : Nat} {A : Option Addr} {rs : List Res} (h : XS w W b n A m c rs) (hb : Below W.heap.size W W') : XS w W' b n A m c rs :=
  ⟨(hb.block _ (Array.getElem?_eq_some_iff.1 h.hb).1).trans h.hb, h.inl.below hb, h.be.trans (hb.mono h.be.size)⟩
theorem xS_new {w W : World} {n m c : Nat} {A : Option Addr} {rs : List Res} (hi : InL W (.agg #[.int .i64 (n : Int), .slice A m c]) ⟨(n : Int), rs⟩) (hb : Below w.heap.size w W) :
    XS w (W.alloc (.cells #[.int .i64 (n : Int), .slice A m c] 25)) W.heap.size n A m c rs := by
  have b1 : Below W.heap.size W (W.alloc (.cells #[.int .i64 (n : Int), .slice A m c] 25)) := (Below.refl _ W).alloc (Nat.le_refl _) _
  exact ⟨World.alloc_heap_new W _, hi.below b1, hb.trans (b1.mono hb.size)⟩
end Go.Proofs.Ythlkhmbndaecfaa
