/- Rows of strings: the laws' helpers for them. -/
import Derived.Test.YtpjbgcflepebgaaDoorFz
import Derived.Deep.RegionHeld3
namespace Go.Proofs.YtpjbgcflepebgaaDoor
open Go.ChangeShapes Go.WideShapes Go.ChangeAt Go.RowKit

/-- The slice value v owns a row of its own, in a block from lo to hi, that holds the strings ls. -/
def FrZ (w : World) (lo hi : Nat) (v : Value) (ls : List (List UInt8)) : Prop :=
  w.ownsRow lo 9 1 v ls.length (strs ls) ∧ (∀ g, v.ownBlock = some g → g < hi) ∧ hi ≤ w.heap.size
theorem FrZ.form {w : World} {lo hi : Nat} {v : Value} {ls : List (List UInt8)} (h : FrZ w lo hi v ls) : ∃ A c, v = .slice A ls.length c ∧ ls.length ≤ c := ownZ_form h.1
theorem FrZ.sl {w : World} {lo hi n c : Nat} {A : Option Addr} {ls : List (List UInt8)} (h : FrZ w lo hi (.slice A n c) ls) : SlV w A (strs ls) := by
  obtain ⟨A', c', he, _⟩ := h.form
  injection he with _ e2 _
  subst e2
  exact SlV.of_own h.1
theorem FrZ.keep {w w' : World} {lo hi l2 h2 : Nat} {v : Value} {ls : List (List UInt8)} (h : FrZ w lo hi v ls) (hk : Keep l2 h2 w w') (hd : hi ≤ l2 ∨ h2 ≤ lo) : FrZ w' lo hi v ls :=
  ⟨ownsRow_keep h.1 h.2.1 h.2.2 hk hd, h.2.1, Nat.le_trans h.2.2 hk.size⟩
theorem FrZ.grow {w w' : World} {lo hi : Nat} {v : Value} {ls : List (List UInt8)} (h : FrZ w lo hi v ls) (hb : Below w.heap.size w w') : FrZ w' lo hi v ls :=
  h.keep (Keep.of_below (lo := w.heap.size) (hi := w.heap.size) hb (Nat.le_refl _)) (.inl h.2.2)
theorem FrZ.of_own {w : World} {lo : Nat} {v : Value} {ls : List (List UInt8)} (h : w.ownsRow lo 9 1 v ls.length (strs ls)) : FrZ w lo w.heap.size v ls :=
  ⟨h, fun g hg => (h.lt g hg).2, Nat.le_refl _⟩
theorem FrZ.nil (w : World) {lo hi : Nat} (h : hi ≤ w.heap.size) : FrZ w lo hi (.slice none 0 0) [] :=
  ⟨World.ownsRow_nil _ _ _ _, fun g hg => by simp [Value.ownBlock] at hg, h⟩
theorem strs_at {ls : List (List UInt8)} {k : Nat} {l : List UInt8} (h : ls[k]? = some l) : (strs ls)[k]? = some (.string ⟨l.toArray⟩) := by simp [strs, h]
theorem strs_set (ls : List (List UInt8)) (k : Nat) (l : List UInt8) : (strs ls).set k (.string ⟨l.toArray⟩) = strs (ls.set k l) := by simp [strs, List.map_set]
theorem FrZ.at_ {w : World} {lo hi n c : Nat} {A : Option Addr} {ls : List (List UInt8)} (h : FrZ w lo hi (.slice A n c) ls) {k : Nat} (hk : k < ls.length) :
    ∃ g l, A = some ⟨g, 0, none⟩ ∧ lo ≤ g ∧ g < hi ∧ ls[k]? = some l ∧ w.cell? ⟨g, k, none⟩ = some (.string ⟨l.toArray⟩) ∧ w.frozen? ⟨g, k, none⟩ = false ∧
      ∀ y : List UInt8, FrZ (w.setCell ⟨g, k, none⟩ (.string ⟨y.toArray⟩)) lo hi (.slice A n c) (ls.set k y) ∧ Keep lo hi w (w.setCell ⟨g, k, none⟩ (.string ⟨y.toArray⟩)) := by
  obtain ⟨A', c', he, _⟩ := h.form
  injection he with _ hn _
  subst hn
  obtain ⟨h1, hg, hs⟩ := h
  have h1' := h1
  rcases h1.2 with ⟨he, hn⟩ | ⟨g, cap, cur, he, hb, hh, r⟩
  · omega
  · injection he with e1 e2 e3
    subst e1; subst e3
    have hgh := hg g rfl
    have hx : ls[k]? = some ls[k] := List.getElem?_eq_getElem hk
    refine ⟨g, ls[k], rfl, hb, hgh, hx, by rw [h1'.cellAt k (by omega)]; exact strs_at hx, h1'.frozenAt k, fun y => ?_⟩
    have hst := h1'.stored k (.string ⟨y.toArray⟩)
    refine ⟨⟨?_, fun g' hg' => ?_, by simpa [World.setCell] using hs⟩, (Keep.refl _ _ _).setCell hb hgh _⟩
    · rw [List.length_set, ← strs_set]; exact hst.1
    · exact hg g' hg'

def markF (k : Nat) : List UInt8 := 109 :: Lib.decDigits k
set_option maxHeartbeats 1000000 in
theorem markText_any (k : Nat) (w : World) (h0 : 1 ≤ k) (hk : k ≤ 9223372036854775807) :
    Calls Tryd.prog 29 #[.int .i64 k] w fun e w' => e = .returned (.string ⟨(markF k).toArray⟩) ∧ Below w.heap.size w w' := by
  go_enter Tryd.func29, Tryd.ntmps29
  go_wp2_with fail
  go_loopw [0, 3] (fun nv sv wr => ∃ (m : Nat) (l : List UInt8), m ≤ k ∧ nv = .int .i64 m ∧ sv = .string ⟨l.toArray⟩ ∧ l.length ≤ 21 ∧ Hid ((0 < m ∧ Lib.decDigits k = Lib.decDigits m ++ l) ∨ (m = 0 ∧ Lib.decDigits k = l)) ∧ Hid (Below w.heap.size w wr)) (fun nv _ _ => (intOf nv).toNat)
  case atStart => exact ⟨k, [], Nat.le_refl _, rfl, rfl, by simp, .inl ⟨by omega, by simp⟩, Below.refl _ _⟩
  case round =>
    obtain ⟨m, l, hm, rfl, rfl, hl, HD, HB⟩ := hrel
    by_cases h9 : 0 < m
    · have kc := byteStr wr (48 + (m : Int) % 10) (by omega) (by omega)
      have HN : Hid ((0 < m / 10 ∧ Lib.decDigits k = Lib.decDigits (m / 10) ++ (UInt8.ofNat (48 + m % 10) :: l)) ∨ (m / 10 = 0 ∧ Lib.decDigits k = (UInt8.ofNat (48 + m % 10) :: l))) := by
        show _ ∨ _
        rcases HD.out with ⟨_, hd⟩ | ⟨h, _⟩
        · by_cases h10 : m < 10
          · refine .inr ⟨by omega, ?_⟩
            rw [hd, Lib.decDigits_one h10, Nat.mod_eq_of_lt h10]; rfl
          · refine .inl ⟨by omega, ?_⟩
            rw [hd, decDigits_big h10]; simp
        · omega
      have HLN : Hid (l.length + 1 ≤ 21) := by
        show _ ≤ _
        have h1 := dec_len hk
        rcases HN.out with ⟨_, h2⟩ | ⟨_, h2⟩
        · rw [h2, List.length_append, List.length_cons] at h1; omega
        · rw [h2, List.length_cons] at h1; omega
      go_wp2
      refine ⟨⟨m / 10, UInt8.ofNat (48 + m % 10) :: l, by omega, by go_num, ?_, HLN.out, HN, HB.out.alloc HB.out.size _⟩, by simp [intOf]; omega⟩
      rw [bcat1]; simp [UInt8.ofNat_add]
    · obtain rfl : m = 0 := by omega
      have HM : Hid (markF k = 109 :: l) := by
        show _ = _
        rcases HD.out with ⟨h, _⟩ | ⟨_, h⟩
        · omega
        · rw [markF, h]
      go_wp2
      go_ret
      refine ⟨?_, HB.out⟩
      show Ending.returned (Value.string ((⟨#[109]⟩ : ByteArray) ++ ⟨l.toArray⟩)) = _
      rw [bcat1, HM.out]

set_option maxHeartbeats 1000000 in
theorem eqStringS_same (A B : Option Addr) (c d : Nat) (ls : List (List UInt8)) (w : World) (hx : SlV w A (strs ls)) (hy : SlV w B (strs ls)) (h1 : ls.length ≤ 1048576) :
    Calls Tryd.prog 8 #[.slice A ls.length c, .slice B ls.length d] w fun e w' => e = .returned (.bool true) ∧ Below w.heap.size w w' := by
  generalize hn : ls.length = n at *
  have Hn := Lib.hid hn
  clear hn
  go_enter Tryd.func8, Tryd.ntmps8
  go_wp2
  go_loopw [5] (fun i wr => ∃ j : Nat, j ≤ n ∧ i = .int .i64 j ∧ Hid (∃ q, wr = w.drewN q)) (fun i _ => n - (intOf i).toNat)
  case atStart => exact ⟨0, Nat.zero_le _, rfl, 0, rfl⟩
  case round =>
    obtain ⟨j, hj, rfl, HQ⟩ := hrel
    obtain ⟨q0, rfl⟩ := HQ
    by_cases hlt : j < n
    · have hx' : SlV (w.drewN q0) A (strs ls) := hx
      have hy' : SlV (w.drewN q0) B (strs ls) := hy
      obtain ⟨b, off, x, rfl, hx1, hx2, _⟩ := hx'.at_ (k := j) (by rw [strs_length, Hn.out]; exact hlt)
      obtain ⟨b', off', y, rfl, hy1, hy2, _⟩ := hy'.at_ (k := j) (by rw [strs_length, Hn.out]; exact hlt)
      obtain rfl : x = y := by rw [hx1] at hy1; injection hy1
      obtain ⟨l, _, rfl⟩ := strs_get hx1
      have hx3 := hx2
      have hy3 := hy2
      clear hx1 hy1 hx hy hx' hy'
      obtain ⟨w0, hw0⟩ : ∃ w0, w0 = w.drewN q0 := ⟨_, rfl⟩
      rw [← hw0] at hx3 hy3 ⊢
      have Hw := Lib.hid hw0
      clear hw0 hx2 hy2
      go_wp2
      try (go_quiet (fail))
      all_goals (try go_wp2)
      all_goals go_roundw
      case rel => exact ⟨j + 1, by omega, by go_num, by rw [Hw.out]; first | exact ⟨_, World.drewN_drewN _ _ _⟩ | exact ⟨_, rfl⟩⟩
      case measure => simp [intOf]; omega
    · obtain rfl : j = n := by omega
      go_wp2
      go_ret
      exact ⟨rfl, below_of_drewN _ _ _⟩

def marksF (k n : Nat) : List (List UInt8) := (List.range n).map fun j => markF (k + j)
theorem marksF_length (k n : Nat) : (marksF k n).length = n := by simp [marksF]
theorem marksF_get {k n j : Nat} (h : j < n) : (marksF k n)[j]? = some (markF (k + j)) := by simp [marksF, List.getElem?_range h]
set_option maxHeartbeats 1000000 in
theorem markStringS_any (A : Option Addr) (c lo hi n : Nat) (ls : List (List UInt8)) (k : Nat) (w : World) (hn : n = ls.length) (hs : FrZ w lo hi (.slice A n c) ls) (h1 : ls.length ≤ 1048576) (h2 : 1 ≤ k) (h3 : k ≤ 1099511627776) :
    Calls Tryd.prog 11 #[.slice A n c, .int .i64 k] w fun e w' => e = .returned (.int .i64 ((k : Int) + n)) ∧ FrZ w' lo hi (.slice A n c) (marksF k n) ∧ Keep lo hi w w' := by
  have Hn := Lib.hid hn
  have hn' : n ≤ 1048576 := by omega
  have HS := Lib.hid hs
  clear hn hs
  go_enter Tryd.func11, Tryd.ntmps11
  go_wp2
  go_loopw [1, 5] (fun kv i wr => ∃ j : Nat, j ≤ n ∧ i = .int .i64 j ∧ kv = .int .i64 (((k + j : Nat)) : Int) ∧ Hid (FrZ wr lo hi (.slice A n c) (marksF k j ++ ls.drop j) ∧ Keep lo hi w wr)) (fun _ i _ => n - (intOf i).toNat)
  case atStart => exact ⟨0, Nat.zero_le _, rfl, by simp, by simpa [marksF] using HS.out, Keep.refl _ _ _⟩
  case round =>
    obtain ⟨j, hj, rfl, rfl, HR⟩ := hrel
    by_cases hlt : j < n
    · have hlen : (marksF k j ++ ls.drop j).length = n := by simp [marksF]; have := Hn.out; omega
      have HLN := Lib.hid hlen
      clear hlen
      go_wp2_with fail
      refine (markText_any (k + j) _ (by omega) (by omega)).mono ?_
      rintro e w2 ⟨rfl, hb⟩
      have H2 : Hid (FrZ w2 lo hi (.slice A n c) (marksF k j ++ ls.drop j) ∧ Keep lo hi w w2) := ⟨HR.out.1.grow hb, HR.out.2.trans (Keep.of_below hb (Nat.le_refl _))⟩
      clear hb
      obtain ⟨g, y, rfl, hg1, hg2, hy, hc, hf, hst⟩ := H2.out.1.at_ (k := j) (by rw [HLN.out]; exact hlt)
      have HST := Lib.hid (hst (markF (k + j)))
      clear hst hy
      go_wp2
      go_roundw
      case rel =>
        refine ⟨j + 1, by omega, by go_num, by go_num, ?_, H2.out.2.trans HST.out.2⟩
        have h := HST.out.1
        have hj' : j < ls.length := by have := Hn.out; omega
        have e : (marksF k j ++ ls.drop j).set j (markF (k + j)) = marksF k (j + 1) ++ ls.drop (j + 1) := by
          rw [List.set_append_right _ _ (by rw [marksF_length]; exact Nat.le_refl _), marksF_length, Nat.sub_self, List.drop_eq_getElem_cons hj', List.set_cons_zero]
          simp [marksF, List.range_succ]
        rw [e] at h
        exact h
      case measure => simp [intOf]; omega
    · obtain rfl : j = n := by omega
      go_wp2
      go_ret
      refine ⟨ret_int (by omega), ?_, HR.out.2⟩
      have h := HR.out.1
      rw [List.drop_of_length_le (by have := Hn.out; omega), List.append_nil] at h
      exact h

set_option maxHeartbeats 1000000 in
theorem heldStringS_any (A : Option Addr) (c n k : Nat) (w : World) (hs : SlV w A (strs (marksF k n))) (h1 : n ≤ 1048576) (h2 : 1 ≤ k) (h3 : k ≤ 1099511627776) :
    Calls Tryd.prog 12 #[.slice A n c, .int .i64 k] w fun e w' => e = .returned (.int .i64 ((k : Int) + n)) ∧ Below w.heap.size w w' := by
  have HS := Lib.hid hs
  clear hs
  go_enter Tryd.func12, Tryd.ntmps12
  go_wp2
  go_loopw [1, 5] (fun kv i wr => ∃ j : Nat, j ≤ n ∧ i = .int .i64 j ∧ kv = .int .i64 (((k + j : Nat)) : Int) ∧ Hid (Below w.heap.size w wr)) (fun _ i _ => n - (intOf i).toNat)
  case atStart => exact ⟨0, Nat.zero_le _, rfl, by simp, Below.refl _ _⟩
  case round =>
    obtain ⟨j, hj, rfl, rfl, HB⟩ := hrel
    by_cases hlt : j < n
    · obtain ⟨b, off, x, rfl, hx1, hx2, _⟩ := (SlV.below HS.out HB.out).at_ (k := j) (by rw [strs_length, marksF_length]; exact hlt)
      obtain ⟨l, hl, rfl⟩ := strs_get hx1
      rw [marksF_get hlt] at hl
      injection hl with hl
      subst hl
      have hbl := block_lt_of_cell hx2
      have HX := Lib.hid (And.intro hx2 hbl)
      clear hx1 hbl
      have HB1 : Hid (Below w.heap.size w wr.drew) := below_drewN HB.out 1
      go_wp2
      go_region_held3 (fun W => W.cell? ⟨b, off + j, none⟩ = some (.string ⟨(markF (k + j)).toArray⟩)) (first | exact hx2 | exact (HC2.out.cell (p := ⟨b, off + j, none⟩) HX.out.2).trans HX.out.1 | go_keep) (first
        | (go_at_call 29; refine (markText_any (k + j) _ (by omega) (by omega)).mono ?_; rintro e w2 ⟨rfl, hb⟩; have HB2 : Hid (Below w.heap.size w w2) := HB1.out.trans (hb.mono HB1.out.size); have HC2 : Hid (Below wr.heap.size wr w2) := (below_drewN (Below.refl wr.heap.size wr) 1).trans hb; clear hb))
      all_goals go_wp2
      all_goals go_roundw
      case rel => exact ⟨j + 1, by omega, by go_num, by go_num, HB2.out⟩
      case measure => simp [intOf]; omega
    · obtain rfl : j = n := by omega
      go_wp2
      go_ret
      exact ⟨ret_int (by omega), HB.out⟩
end Go.Proofs.YtpjbgcflepebgaaDoor
