/- From the row's reading of a league to the reading that the walks take. -/
import Derived.Test.YtpjbgcflepebgaaDoorLg
import Derived.Test.YtpjbgcflepebgaaDoorOpen
import Derived.Lib.SmallJoins
namespace Go.Proofs.YtpjbgcflepebgaaDoor
open Go.ChangeShapes Go.WideShapes Go.ChangeAt Go.RowKit Go.Deep

set_option maxRecDepth 100000 in
theorem res_at {H : Type} {enc : TypeId × Value → H} {W : World} {ad : Addr} {n : Nat} {cs : List Value} {x : DataW H × List MemPlace}
    (h1 : W.cells? 0 ad (Tryd.prog.cellsOf 58) = some cs) (h2 : DataW.trod enc Tryd.prog W 0 (fun _ => true) true n 58 cs = some x) :
    ∃ r : Res, W.cell? ad = some (.int .i64 r.h) ∧ W.cell? (ad.add 1) = some (.int .i64 r.a) ∧ W.cell? (ad.add 2) = some (.int .i64 r.g) ∧ W.cell? (ad.add 3) = some (.int .i64 r.t) := by
  obtain ⟨_, hlen, hcell⟩ := World.cells?_some h1
  have hce : Tryd.prog.cellsOf 58 = 4 := by kernel_rfl
  have hci : Tryd.prog.cellsOf 3 = 1 := by kernel_rfl
  rw [hce] at hlen hcell
  obtain ⟨y0, y1, y2, y3, n3, -, -, g0, g1, g2, g3⟩ := Go.Joins.trod_struct4 Tryd.underlying58 h2
  match cs, hlen with
  | [u0, u1, u2, u3], _ =>
    simp only [hci] at g0 g1 g2 g3
    obtain ⟨r0, e0, -, -⟩ := DataW.trod_int Tryd.underlying3 g0
    obtain ⟨r1, e1, -, -⟩ := DataW.trod_int Tryd.underlying3 g1
    obtain ⟨r2, e2, -, -⟩ := DataW.trod_int Tryd.underlying3 g2
    obtain ⟨r3, e3, -, -⟩ := DataW.trod_int Tryd.underlying3 g3
    simp at e0 e1 e2 e3
    subst e0; subst e1; subst e2; subst e3
    have k0 := hcell 0 (by omega)
    have k1 := hcell 1 (by omega)
    have k2 := hcell 2 (by omega)
    have k3 := hcell 3 (by omega)
    exact ⟨⟨r0, r1, r2, r3⟩, by simpa [Addr.add] using k0, by simpa using k1, by simpa using k2, by simpa using k3⟩
set_option maxRecDepth 100000 in
theorem openL {H : Type} {enc : TypeId × Value → H} {W : World} {base : Nat} {v : Value} {d : DataW H} {p : List MemPlace}
    (hok : Value.okWide Tryd.prog W .any base 24 v) (h : DataW.Trod enc Tryd.prog W 0 (fun _ => true) true 24 v d p) : ∃ x : LeagueV, InL W v x := by
  obtain ⟨v0, v1, y0, y1, n, rfl, -, -, h0, h1⟩ := Go.Joins.open_agg2 Tryd.underlying24 (by kernel_rfl) (by kernel_rfl) hok h
  obtain ⟨a, he, -, hw⟩ := DataW.trod_int Tryd.underlying3 h0
  simp at he
  subst he
  rcases open_slice Tryd.underlying22 h1 with ⟨hcs, _⟩ | ⟨ad, len, cap, m, n2, D, Pl, hcs, _, hl, hm, hmm, _, hx⟩
  · simp at hcs
    subst hcs
    exact ⟨⟨a, []⟩, none, 0, rfl, by simp, by unfold maxLen; omega, .inl rfl, hw⟩
  · simp at hcs
    subst hcs
    have hmc : m = cap := by simpa using hmm
    subst hmc
    have hce : Tryd.prog.cellsOf 58 = 4 := by kernel_rfl
    have each : ∀ i, i < m → ∃ r : Res, W.cell? (ad.add (i * 4)) = some (.int .i64 r.h) ∧ W.cell? ((ad.add (i * 4)).add 1) = some (.int .i64 r.a) ∧ W.cell? ((ad.add (i * 4)).add 2) = some (.int .i64 r.g) ∧ W.cell? ((ad.add (i * 4)).add 3) = some (.int .i64 r.t) := by
      intro i hi
      obtain ⟨cs', c1, c2⟩ := hx i hi
      have k := res_at c1 c2
      rw [hce] at k
      exact k
    obtain ⟨F, hF⟩ := choose_lt each
    refine ⟨⟨a, (List.range len).map F⟩, some ad, m, by simp, by simpa using hl, hm, ?_, hw⟩
    by_cases h0 : 0 < len
    · obtain ⟨b, off, spot⟩ := ad
      have hspot : spot = none := by simpa [Addr.add] using World.cell?_spot (hF 0 (by omega)).1
      subst hspot
      refine .inr ⟨b, off, rfl, fun k x hk => ?_⟩
      have hkl : k < len * 4 := by
        rcases Nat.lt_or_ge k (flat ((List.range len).map F)).length with h | h
        · rw [flat_length] at h; simpa using h
        · rw [List.getElem?_eq_none h] at hk; cases hk
      have hi : k / 4 < len := by omega
      have hr : ((List.range len).map F)[k / 4]? = some (F (k / 4)) := by simp [hi]
      obtain ⟨f1, f2, f3, f4⟩ := flat_get hr
      obtain ⟨c1, c2, c3, c4⟩ := hF (k / 4) (by omega)
      simp only [Go.WideShapes.add_plain] at c1 c2 c3 c4
      have hm4 : k = k / 4 * 4 ∨ k = k / 4 * 4 + 1 ∨ k = k / 4 * 4 + 2 ∨ k = k / 4 * 4 + 3 := by omega
      rcases hm4 with e | e | e | e
      · rw [e, f1] at hk; injection hk with hk
        rw [e, ← hk]; exact c1
      · rw [e, f2] at hk; injection hk with hk
        rw [e, ← hk, ← Nat.add_assoc]; exact c2
      · rw [e, f3] at hk; injection hk with hk
        rw [e, ← hk, ← Nat.add_assoc]; exact c3
      · rw [e, f4] at hk; injection hk with hk
        rw [e, ← hk, ← Nat.add_assoc]; exact c4
    · obtain rfl : len = 0 := by omega
      exact .inl rfl
end Go.Proofs.YtpjbgcflepebgaaDoor
