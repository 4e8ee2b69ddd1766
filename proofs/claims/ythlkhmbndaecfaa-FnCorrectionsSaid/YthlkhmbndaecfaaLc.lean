/- Changes of the leader: contracts. -/
import Derived.Test.YthlkhmbndaecfaaLd
import Derived.Test.YthlkhmbndaecfaaShelf
import Derived.Lib.OwnBridge
import Derived.Lib.SlicesCompact
import Derived.Deep.QuietTactic
import Derived.BigQuiet
namespace Go.Proofs.Ythlkhmbndaecfaa
open Go.ChangeShapes Go.WideShapes Go.ChangeAt Go.RowKit Go.Sort

def changesF (x : LeagueV) : Int := if leagueB x then ((Lib.compact (leadF x)).length : Int) - 1 else -1
theorem comp_one (xs : List Int) : (Lib.compactUpTo xs.toArray 1).length = 1 := by simp [Lib.compactUpTo, Lib.keeps]
theorem get_bang {xs : List Int} {k : Nat} {x : Int} (h : xs[k]? = some x) : xs.toArray[k]! = x := by
  obtain ⟨hl, e⟩ := List.getElem?_eq_some_iff.1 h
  rw [getElem!_pos _ k (by simpa using hl)]; simpa using e
theorem comp_go {xs : List Int} {k c : Nat} {x y : Int} (hc : (Lib.compactUpTo xs.toArray k).length = c + 1) (_hk : 1 ≤ k) (hx : xs[k]? = some x) (hy : xs[k - 1]? = some y) (h : x ≠ y) : (Lib.compactUpTo xs.toArray (k + 1)).length = c + 1 + 1 := by
  rw [Lib.compactUpTo_succ, Lib.keeps_pos (by rw [get_bang hx, get_bang hy]; exact h), List.length_append, hc]; rfl
theorem comp_stay {xs : List Int} {k c : Nat} {x y : Int} (hc : (Lib.compactUpTo xs.toArray k).length = c + 1) (hk : 1 ≤ k) (hx : xs[k]? = some x) (hy : xs[k - 1]? = some y) (h : x = y) : (Lib.compactUpTo xs.toArray (k + 1)).length = c + 1 := by
  rw [Lib.compactUpTo_succ, Lib.keeps_neg hk (by rw [get_bang hx, get_bang hy]; exact h), List.length_append, hc]; simp

theorem compact_len (zs : List Int) : (Lib.compact zs).length ≤ zs.length := by
  unfold Lib.compact Lib.compactUpTo
  rw [List.length_map]
  exact Nat.le_trans (List.length_filter_le _ _) (by simp)
theorem holds_fr {w : World} {lo hi n c g : Nat} {xs : List Int} (h : Fr w lo hi (.slice (some ⟨g, 0, none⟩) n c) xs) : Holds (Value.int .i64) w g 0 xs.toArray := by
  intro j hj
  have hj : j < xs.length := by simpa using hj
  obtain ⟨g', x, e, _, _, hx, hc, hf, _⟩ := h.at_ hj
  obtain rfl : g = g' := congrArg Addr.block (Option.some.inj e)
  rw [get_bang hx, Nat.zero_add]
  exact ⟨hc, hf⟩
set_option maxHeartbeats 4000000 in
set_option maxRecDepth 100000 in
theorem implLeadChanges_std (v : Value) (x : LeagueV) (w : World) (hs : InL w v x) (hn : x.results.length ≤ 1048576) :
    Calls Try.prog 12 #[v] w fun e w' => e = .returned (.int .i64 (changesF x)) ∧ Below w.heap.size w w' := by
  have hs0 := hs
  obtain ⟨A, c, rfl, hc, hm, hsl, hw⟩ := hs
  have HS := Lib.hid hs0
  clear hs0 hsl
  have W1 : Hid (Below w.heap.size w (w.alloc (.cells #[.int .i64 x.clubs, .slice A x.results.length c] 25))) := (Below.refl _ w).alloc (Nat.le_refl _) _
  cases h1 : leagueB x
  case false =>
    have HE : Hid (changesF x = -1) := by show _ = _; simp [changesF, h1]
    go_enter Try.func12, Try.ntmps12
    go_wp2_with fail
    refine (implLeagueOk_any _ _ _ (HS.out.below W1.out)).mono ?_
    rintro e w1 ⟨rfl, hb⟩
    rw [h1]
    have HB : Hid (Below w.heap.size w w1) := W1.out.trans (hb.mono (by simp))
    clear hb
    go_wp2
    go_ret
    exact ⟨ret_int HE.out.symm, HB.out⟩
  obtain ⟨_, _, l3, _⟩ := leagueB_t h1
  have HE : Hid (changesF x = ((Lib.compact (leadF x)).length : Int) - 1 ∧ leadersF x = leadF x) := ⟨by simp [changesF, h1], by simp [leadersF, h1]⟩
  have HL := Lib.hid (leadF_length x)
  have HN := Lib.hid hn
  have hCL := compact_len (leadF x)
  rw [HL.out] at hCL
  have hC2 : (Lib.compact (leadF x)).length ≤ 61 := by omega
  clear hCL
  go_enter Try.func12, Try.ntmps12
  go_wp2_with fail
  refine (implLeagueOk_any _ _ _ (HS.out.below W1.out)).mono ?_
  rintro e w1 ⟨rfl, hb⟩
  rw [h1]
  have q0 : w1.cell? ⟨w.heap.size, 0, none⟩ = some (.int .i64 x.clubs) := by rw [hb.cell (p := ⟨w.heap.size, 0, none⟩) (by simp)]; simp
  have q1 : w1.cell? ⟨w.heap.size, 1, none⟩ = some (.slice A x.results.length c) := by rw [hb.cell (p := ⟨w.heap.size, 1, none⟩) (by simp)]; simp
  have HB : Hid (Below w.heap.size w w1) := W1.out.trans (hb.mono (by simp))
  clear hb
  go_wp2_with fail
  refine (implLeadersOf_std _ x w1 (HS.out.below HB.out) HN.out).mono ?_
  rintro e w2 ⟨v2, rfl, hf, hb⟩
  rw [HE.out.2] at hf
  obtain ⟨g, cp, rfl, hg1, hg2⟩ := hf.someA (by rw [HL.out]; omega)
  have hcap : (leadF x).length ≤ cp := by
    obtain ⟨A', c', he, hc', _⟩ := hf.form
    injection he with _ _ e3
    subst e3; exact hc'
  have H2 : Hid (Below w.heap.size w w2 ∧ Holds (Value.int .i64) w2 g 0 (leadF x).toArray ∧ (leadF x).length ≤ cp) := ⟨HB.out.trans (hb.mono HB.out.size), holds_fr hf, hcap⟩
  have HCM := Lib.hid (Try.slices_Compact_int g 0 cp (leadF x) w2 H2.out.2.1 (by rw [HL.out]; omega) hcap)
  have hwg : w.heap.size ≤ g := Nat.le_trans HB.out.size hg1
  clear hf hb q0 q1 hcap
  go_wp2_with fail
  refine HCM.out.mono ?_
  rintro e w3 ⟨rfl, q, rfl⟩
  have H3 := Lib.hid (Lib.below_putRow (q := q) (enc := Value.int .i64) (d := (Lib.compact (leadF x) ++ List.replicate ((leadF x).length - (Lib.compact (leadF x)).length) 0).toArray) H2.out.1 hwg)
  generalize (putRow (Value.int .i64) (Sort.ahead w2 q) g 0 (Lib.compact (leadF x) ++ List.replicate ((leadF x).length - (Lib.compact (leadF x)).length) 0).toArray) = w4 at *
  clear HCM
  generalize (Lib.compact (leadF x)).length = m at *
  go_wp2
  go_ret
  exact ⟨ret_int HE.out.1.symm, H3.out⟩
end Go.Proofs.Ythlkhmbndaecfaa
