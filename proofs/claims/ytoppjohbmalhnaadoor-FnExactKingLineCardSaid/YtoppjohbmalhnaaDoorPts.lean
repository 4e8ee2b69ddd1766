/- Part tours: the spec's contract; triangles. -/
import Derived.Test.YtoppjohbmalhnaaDoorPto
namespace Go.Proofs.YtoppjohbmalhnaaDoor
open Go.ChangeShapes Go.WideShapes Go.ChangeAt Go.RowKit

/-- The box of the tour and that of the result. -/
structure SzAt (w W : World) (y0 y1 : Value) : Prop where
  q0 : W.cell? ⟨w.heap.size, 0, none⟩ = some y0
  q1 : W.cell? ⟨w.heap.size, 1, none⟩ = some y1
  z0 : W.cell? ⟨w.heap.size + 1, 0, none⟩ = some (.int .i64 0)
  z1 : W.cell? ⟨w.heap.size + 1, 1, none⟩ = some (.slice none 0 0)
  f0 : W.frozen? ⟨w.heap.size + 1, 0, none⟩ = false
  f1 : W.frozen? ⟨w.heap.size + 1, 1, none⟩ = false
  q2 : w.heap.size < W.heap.size
  z2 : w.heap.size + 1 < W.heap.size
  be : Below w.heap.size w W
theorem SzAt.keep {w W W2 : World} {y0 y1 : Value} {lo hi : Nat} (h : SzAt w W y0 y1) (hk : Keep lo hi W W2) (hl : w.heap.size + 2 ≤ lo) : SzAt w W2 y0 y1 := by
  have h2 := h.q2
  have h3 := h.z2
  exact ⟨(hk.cell (p := ⟨w.heap.size, 0, none⟩) h.q2 (.inl (by show w.heap.size < lo; omega))).trans h.q0, (hk.cell (p := ⟨w.heap.size, 1, none⟩) h.q2 (.inl (by show w.heap.size < lo; omega))).trans h.q1, (hk.cell (p := ⟨w.heap.size + 1, 0, none⟩) h.z2 (.inl (by show w.heap.size + 1 < lo; omega))).trans h.z0, (hk.cell (p := ⟨w.heap.size + 1, 1, none⟩) h.z2 (.inl (by show w.heap.size + 1 < lo; omega))).trans h.z1,
    (hk.frozen (p := ⟨w.heap.size + 1, 0, none⟩) h.z2 (.inl (by show w.heap.size + 1 < lo; omega))).trans h.f0, (hk.frozen (p := ⟨w.heap.size + 1, 1, none⟩) h.z2 (.inl (by show w.heap.size + 1 < lo; omega))).trans h.f1, Nat.lt_of_lt_of_le h.q2 hk.size, Nat.lt_of_lt_of_le h.z2 hk.size, h.be.trans (hk.below (by omega) (by omega))⟩
theorem SzAt.below {w W W2 : World} {y0 y1 : Value} (h : SzAt w W y0 y1) (hb : Below W.heap.size W W2) : SzAt w W2 y0 y1 := h.keep (Keep.of_below hb (Nat.le_refl _) : Keep W.heap.size W.heap.size W W2) (by have := h.z2; omega)
theorem SzAt.bx {w W : World} {y0 y1 : Value} (h : SzAt w W y0 y1) : Bx W w.heap.size y0 y1 := ⟨h.q0, h.q1, h.q2⟩
theorem szStart {w : World} {y0 y1 : Value} : SzAt w ((w.alloc (.cells #[y0, y1] 27)).alloc (.cells #[.int .i64 0, .slice none 0 0] 27)) y0 y1 := by
  have b1 : Below w.heap.size w (w.alloc (.cells #[y0, y1] 27)) := (Below.refl _ w).alloc (Nat.le_refl _) _
  have z1 : (w.alloc (.cells #[y0, y1] 27)).heap.size = w.heap.size + 1 := World.size_alloc _ _
  have a0 : (w.alloc (.cells #[y0, y1] 27)).cell? ⟨w.heap.size, 0, none⟩ = some y0 := by simp
  have a1 : (w.alloc (.cells #[y0, y1] 27)).cell? ⟨w.heap.size, 1, none⟩ = some y1 := by simp
  generalize w.alloc (.cells #[y0, y1] 27) = W at *
  have b2 : Below W.heap.size W (W.alloc (.cells #[.int .i64 0, .slice none 0 0] 27)) := (Below.refl _ W).alloc (Nat.le_refl _) _
  have c0 : (W.alloc (.cells #[.int .i64 0, .slice none 0 0] 27)).cell? ⟨W.heap.size, 0, none⟩ = some (.int .i64 0) := by simp
  have c1 : (W.alloc (.cells #[.int .i64 0, .slice none 0 0] 27)).cell? ⟨W.heap.size, 1, none⟩ = some (.slice none 0 0) := by simp
  have g0 : (W.alloc (.cells #[.int .i64 0, .slice none 0 0] 27)).frozen? ⟨W.heap.size, 0, none⟩ = false := by rw [frozen?_alloc_cells]; simp [World.frozen?]
  have g1 : (W.alloc (.cells #[.int .i64 0, .slice none 0 0] 27)).frozen? ⟨W.heap.size, 1, none⟩ = false := by rw [frozen?_alloc_cells]; simp [World.frozen?]
  have s2 : (W.alloc (.cells #[.int .i64 0, .slice none 0 0] 27)).heap.size = W.heap.size + 1 := World.size_alloc _ _
  rw [z1] at c0 c1 g0 g1
  exact ⟨(b2.cell (p := ⟨w.heap.size, 0, none⟩) (by show w.heap.size < _; omega)).trans a0, (b2.cell (p := ⟨w.heap.size, 1, none⟩) (by show w.heap.size < _; omega)).trans a1, c0, c1, g0, g1, by omega, by omega, b1.trans (b2.mono (by omega))⟩
/-- The loop over the players of the part: the box b of the tour that is made, its row. -/
structure PsAt (w wr : World) (y0 y1 : Value) (b g : Nat) (l : List Int) (u vv : Value) (xs : List Int) : Prop where
  rz : SzAt w wr y0 y1
  li : ∀ (i : Nat) (z : Int), l[i]? = some z → wr.cell? ⟨g, 0 + i, none⟩ = some (.int .i64 z)
  gb : g < b
  wb : w.heap.size + 2 ≤ b
  c0 : wr.cell? ⟨b, 0, none⟩ = some (.int .i64 (l.length : Int))
  c1 : wr.cell? ⟨b, 1, none⟩ = some u
  f1 : wr.frozen? ⟨b, 1, none⟩ = false
  row : Fr wr (b + 1) wr.heap.size vv xs
  bl : b + 1 ≤ wr.heap.size
theorem PsAt.under {w wr w2 : World} {y0 y1 : Value} {b g : Nat} {l : List Int} {u vv v2 : Value} {xs ys : List Int} (h : PsAt w wr y0 y1 b g l u vv xs) (hb : Below (b + 1) wr w2) (hr : Fr w2 (b + 1) w2.heap.size v2 ys) : PsAt w w2 y0 y1 b g l u v2 ys := by
  have h2 := h.bl
  have h3 := h.gb
  have h4 := h.wb
  have hk : Keep (b + 1) w2.heap.size wr w2 := by
    refine ⟨hb.os, hb.tape, hb.output, hb.size, fun p hp hd => ?_⟩
    rcases hd with hd | hd
    · exact hb.block p hd
    · have := hb.size; omega
  exact ⟨h.rz.keep hk (by omega), fun i z hz => (hk.cell (p := ⟨g, 0 + i, none⟩) (by show g < _; omega) (.inl (by show g < _; omega))).trans (h.li i z hz), h.gb, h.wb,
    (hk.cell (p := ⟨b, 0, none⟩) (by show b < _; omega) (.inl (Nat.lt_succ_self _))).trans h.c0, (hk.cell (p := ⟨b, 1, none⟩) (by show b < _; omega) (.inl (Nat.lt_succ_self _))).trans h.c1, (hk.frozen (p := ⟨b, 1, none⟩) (by show b < _; omega) (.inl (Nat.lt_succ_self _))).trans h.f1, hr, Nat.le_trans h2 hk.size⟩
theorem PsAt.below {w wr w2 : World} {y0 y1 : Value} {b g : Nat} {l : List Int} {u vv : Value} {xs : List Int} (h : PsAt w wr y0 y1 b g l u vv xs) (hb : Below wr.heap.size wr w2) : PsAt w w2 y0 y1 b g l u vv xs :=
  h.under (hb.mono h.bl) ((h.row.grow hb).wide (Nat.le_refl _) hb.size (Nat.le_refl _))
theorem PsAt.set {w wr : World} {y0 y1 : Value} {b g : Nat} {l : List Int} {u vv : Value} {xs : List Int} (h : PsAt w wr y0 y1 b g l u vv xs) (u2 : Value) : PsAt w (wr.setCell ⟨b, 1, none⟩ u2) y0 y1 b g l u2 vv xs := by
  have h2 := h.bl
  have h3 := h.gb
  have h4 := h.wb
  have hk : Keep b (b + 1) wr (wr.setCell ⟨b, 1, none⟩ u2) := Keep.setCell (p := ⟨b, 1, none⟩) (Keep.refl b (b + 1) wr) (Nat.le_refl _) (Nat.lt_succ_self _) _
  refine ⟨h.rz.keep hk h4, fun i z hz => (hk.cell (p := ⟨g, 0 + i, none⟩) (by show g < _; omega) (.inl h3)).trans (h.li i z hz), h.gb, h.wb, ?_, ?_, ?_, (h.row.keep hk (.inr (Nat.le_refl _))).wide (Nat.le_refl _) hk.size (Nat.le_refl _), Nat.le_trans h2 hk.size⟩
  · exact (World.cell?_setCell_other wr ⟨b, 1, none⟩ ⟨b, 0, none⟩ u2 (by simp)).trans h.c0
  · exact World.cell?_setCell_same wr ⟨b, 1, none⟩ u2 h.c1
  · rw [World.frozen?_setCell]; exact h.f1

theorem psStart {w w3 : World} {y0 y1 : Value} {g c3 : Nat} {l : List Int} (h3 : SzAt w w3 y0 y1) (hf : Fr w3 (w.heap.size + 2) w3.heap.size (.slice (some ⟨g, 0, none⟩) l.length c3) l) :
    PsAt w (w3.alloc (.cells #[.int .i64 (l.length : Int), .slice none 0 0] 27)) y0 y1 w3.heap.size g l (.slice none 0 0) (.slice none 0 0) [] := by
  have hal : Below w3.heap.size w3 (w3.alloc (.cells #[.int .i64 (l.length : Int), .slice none 0 0] 27)) := (Below.refl _ w3).alloc (Nat.le_refl _) _
  have c0 : (w3.alloc (.cells #[.int .i64 (l.length : Int), .slice none 0 0] 27)).cell? ⟨w3.heap.size, 0, none⟩ = some (.int .i64 (l.length : Int)) := by simp
  have c1 : (w3.alloc (.cells #[.int .i64 (l.length : Int), .slice none 0 0] 27)).cell? ⟨w3.heap.size, 1, none⟩ = some (.slice none 0 0) := by simp
  have f1 : (w3.alloc (.cells #[.int .i64 (l.length : Int), .slice none 0 0] 27)).frozen? ⟨w3.heap.size, 1, none⟩ = false := by rw [frozen?_alloc_cells]; simp [World.frozen?]
  have s2 : (w3.alloc (.cells #[.int .i64 (l.length : Int), .slice none 0 0] 27)).heap.size = w3.heap.size + 1 := World.size_alloc _ _
  have hg := hf.2.1 g rfl
  have hz := h3.z2
  refine ⟨h3.below hal, fun i z hz => ?_, hg, by omega, c0, c1, f1, Fr.nil _ (by omega), by omega⟩
  refine (hal.cell (p := ⟨g, 0 + i, none⟩) hg).trans ?_
  obtain ⟨b', o', y', e, hy', c1', _⟩ := hf.sl.at_ (List.getElem?_eq_some_iff.1 hz).1
  injection e with e
  injection e with e1 e2
  subst e1; subst e2
  rw [hz] at hy'
  rw [c1', Option.some.inj hy']
set_option maxHeartbeats 4000000 in
set_option maxRecDepth 100000 in
theorem specPartTour_any (v : Value) (x : TourV) (s : Nat) (w : World) (hs : InT w v x) (hok : tourB x = true) (h0 : s ≠ 0) (hsl : s < 2 ^ x.wins.length) :
    Calls Tryd.prog 28 #[v, .int .i64 (s : Int)] w fun e w' => ∃ v', e = .returned (.tuple #[.agg #[.int .i64 ((memL s).length : Int), v'], .bool true]) ∧ Fr w' w.heap.size w'.heap.size v' (pwL x (memL s)) ∧ Below w.heap.size w w' := by
  have HIT := Lib.hid hs
  have HOK := Lib.hid hok
  obtain ⟨u, rfl, A, c, rfl, hc, hm, -⟩ := hs
  obtain ⟨t1, t2, t3, t4, _⟩ := tourB_t hok
  have hn8 : x.wins.length ≤ 8 := by omega
  have h256 : (2 : Nat) ^ x.wins.length ≤ 256 := Nat.pow_le_pow_right (by omega) hn8
  have hpos : 1 ≤ (2 : Nat) ^ x.wins.length := Nat.one_le_two_pow
  have HMB : Hid (∀ (i : Nat) (y : Int), (memL s)[i]? = some y → ∃ p : Nat, y = (p : Int) ∧ p < x.wins.length) := fun i y hy => by
    obtain ⟨p, e, _, hb⟩ := memT_mem.1 (List.mem_of_getElem? hy)
    exact ⟨p, e, bit_in hsl hb⟩
  have hs256 : s < 256 := by omega
  have hml := memL_pos h0 hs256
  have hml8 : (memL s).length ≤ 8 := by rw [memL_len]; exact cntL_le _
  have HTO : Hid (∀ W, Below w.heap.size w W → Calls Tryd.prog 10 #[.agg #[.int .i64 x.size, .slice A x.wins.length c]] W fun e w' => e = .returned (.bool true) ∧ Below W.heap.size W w') := fun W hW => by
    have h := specTourOk_any _ x W (HIT.out.below hW)
    rwa [HOK.out] at h
  have HALL : Hid (∀ W, Below w.heap.size w W → Calls Tryd.prog 27 #[.agg #[.int .i64 x.size, .slice A x.wins.length c]] W fun e w' => e = .returned (.int .i64 ((2 ^ x.wins.length - 1 : Nat) : Int)) ∧ Below W.heap.size W w') := fun W hW => l02All_any _ x W (HIT.out.below hW) HOK.out
  have HBT : Hid (∀ V (p q : Nat), Below w.heap.size w V → p < x.wins.length → q < x.wins.length → Calls Tryd.prog 39 #[.agg #[.int .i64 x.size, .slice A x.wins.length c], .int .i64 (p : Int), .int .i64 (q : Int)] V fun e w' => e = .returned (.bool (bt x.wins p q)) ∧ Below V.heap.size V w') := fun V p q hV hp hq => specBeats_any _ x p q V (HIT.out.below hV) hn8 t4 hp (by omega)
  obtain ⟨T, HT⟩ : ∃ T : Nat, Hid (2 ^ x.wins.length = T) := ⟨_, rfl⟩
  rw [HT.out] at h256 hpos hsl HALL
  have hin : inB (s : Int) 1 ((T - 1 : Nat) : Int) = true := inB_t.2 ⟨by omega, by omega⟩
  have HWI : Hid (∀ W, Calls Tryd.prog 23 #[.int .i64 (s : Int), .int .i64 1, .int .i64 ((T - 1 : Nat) : Int)] W fun e w' => e = .returned (.bool true) ∧ W = w') := fun W => by
    have h := l01In_any (s : Int) 1 ((T - 1 : Nat) : Int) W
    rwa [hin] at h
  obtain ⟨T1, HT1⟩ : ∃ T1 : Nat, Hid (T - 1 = T1) := ⟨_, rfl⟩
  rw [HT1.out] at HWI HALL
  have HRA : Hid (SzAt w ((w.alloc (.cells #[.int .i64 x.size, .slice A x.wins.length c] 27)).alloc (.cells #[.int .i64 0, .slice none 0 0] 27)) (.int .i64 x.size) (.slice A x.wins.length c)) := szStart
  clear hin t1 t2 t3 t4 hok hsl hm
  go_enter Tryd.func28, Tryd.ntmps28
  go_wp2_with (first
    | (go_at_call 10; refine (HTO.out _ HRA.out.be).mono ?_; rintro e w1 ⟨rfl, hb⟩; have H1 := Lib.hid (HRA.out.below hb); clear hb HRA; obtain ⟨q0, q1, -, -, -, -, q2, -, -⟩ := id H1.out)
    | (go_at_call 27; refine (HALL.out _ H1.out.be).mono ?_; rintro e w2 ⟨rfl, hb⟩; have H2 := Lib.hid (H1.out.below hb); clear hb q0 q1 q2 H1)
    | (go_at_call 23; refine (HWI.out _).mono ?_; rintro e w' ⟨rfl, rfl⟩)
    | (go_at_call 12; refine (l02List_any s _ hs256).mono ?_; rintro e w3 ⟨v3, rfl, hf, hb⟩; obtain ⟨g3, c3, rfl, hg3, hg4⟩ := hf.someC hml; have H4 : Hid (PsAt w (w3.alloc (.cells #[.int .i64 ((memL s).length : Int), .slice none 0 0] 27)) (.int .i64 x.size) (.slice A x.wins.length c) w3.heap.size g3 (memL s) (.slice none 0 0) (.slice none 0 0) []) := psStart (H2.out.below hb) (hf.wide (by have := H2.out.z2; omega) (Nat.le_refl _) (Nat.le_refl _)); clear hf hb hg3 hg4 H2))
  generalize w3.heap.size = b7 at *
  go_loopw [31] (fun i wr => ∃ (j : Nat) (vv : Value), j ≤ (memL s).length ∧ i = .int .i64 j ∧ Hid (PsAt w wr (.int .i64 x.size) (.slice A x.wins.length c) b7 g3 (memL s) vv vv ((pwL x (memL s)).take j))) (fun i _ => (memL s).length - (intOf i).toNat)
  case atStart => exact ⟨0, _, Nat.zero_le _, rfl, H4.out⟩
  case round =>
    obtain ⟨j, vv, hj, rfl, HR⟩ := hrel
    obtain ⟨wo, rfl⟩ : ∃ W, W = wr := ⟨wr, rfl⟩
    clear H4
    by_cases hlt : j < (memL s).length
    case neg =>
      obtain rfl : j = (memL s).length := by omega
      have h := HR.out.row
      rw [List.take_of_length_le (by rw [pwL_len]; exact Nat.le_refl _)] at h
      obtain ⟨A5, c5, e5, -⟩ := h.form
      rw [pwL_len] at e5
      subst e5
      have HROW := Lib.hid h
      clear h
      obtain ⟨q0, q1, z0, z1, f0, f1, q2, z2, -⟩ := id HR.out.rz
      have c0 := HR.out.c0
      have c1 := HR.out.c1
      go_wp2
      have KP : Keep (w.heap.size + 1) (w.heap.size + 2) wo ((wo.setCell ⟨w.heap.size + 1, 0, none⟩ (.int .i64 ((memL s).length : Int))).setCell ⟨w.heap.size + 1, 1, none⟩ (.slice A5 (memL s).length c5)) :=
        ((Keep.refl _ _ _).setCell (p := ⟨w.heap.size + 1, 0, none⟩) (Nat.le_refl _) (Nat.lt_succ_self _) _).setCell (p := ⟨w.heap.size + 1, 1, none⟩) (Nat.le_refl _) (Nat.lt_succ_self _) _
      have hwb := HR.out.wb
      refine bodyPost_ret (v := .tuple #[.agg #[.int .i64 ((memL s).length : Int), .slice A5 (memL s).length c5], .bool true]) (by simp [results, Tryd.results28, go_sem, z0, z1]) rfl ⟨_, rfl, ((HROW.out.keep KP (.inr (by omega))).wide (by omega) (Nat.le_trans HROW.out.2.2 KP.size) (Nat.le_refl _)), HR.out.rz.be.trans (KP.below (Nat.le_succ _) HR.out.rz.be.size)⟩
    obtain ⟨a, ea, han⟩ := HMB.out j _ (List.getElem?_eq_getElem hlt)
    have ea2 : (memL s)[j]? = some (a : Int) := by rw [List.getElem?_eq_getElem hlt, ea]
    have HEA := Lib.hid ea2
    have qa := HR.out.li j _ ea2
    have hji : (j : Int) < (memL s).length := by omega
    rw [Nat.zero_add] at qa
    clear ea ea2
    go_wp2
    go_loopw [10, 37] (fun g i wr => ∃ b : Nat, b ≤ (memL s).length ∧ i = .int .i64 b ∧ g = .int .i64 (pwT x (memL s) a b : Nat) ∧ Hid (PsAt w wr (.int .i64 x.size) (.slice A x.wins.length c) b7 g3 (memL s) vv vv ((pwL x (memL s)).take j))) (fun _ i _ => (memL s).length - (intOf i).toNat)
    case atStart => exact ⟨0, Nat.zero_le _, rfl, rfl, HR.out⟩
    case round =>
      obtain ⟨b, hb, rfl, rfl, HI⟩ := hrel
      clear HR qa
      have hl := pwT_lt x (memL s) a b
      by_cases hlt2 : b < (memL s).length
      case neg =>
        obtain rfl : b = (memL s).length := by omega
        have HTK := Lib.hid (pwL_take (x := x) HEA.out)
        rw [Int.toNat_natCast] at HTK
        have HL : Hid (((pwL x (memL s)).take j).length = j) := by show _ = _; rw [List.length_take, pwL_len]; omega
        have HL1 : Hid (((pwL x (memL s)).take (j + 1)).length = j + 1) := by show _ = _; rw [List.length_take, pwL_len]; omega
        generalize pwT x (memL s) a (memL s).length = R at *
        have c1 := HI.out.c1
        have hbl := HI.out.bl
        clear hl
        go_wp2_with (at_builtin; refine app1 rfl _ _ rfl wr (b7 + 1) vv j ((pwL x (memL s)).take j) rfl (by have h := HI.out.row.1; rw [HL.out] at h; exact h) (R : Int) rfl (by omega) hbl ?_; intro v5 w5 hown hb5 _ _; have H5 : Hid (PsAt w w5 (.int .i64 x.size) (.slice A x.wins.length c) b7 g3 (memL s) vv v5 ((pwL x (memL s)).take (j + 1))) := HI.out.under (hb5 _ (Nat.le_refl _) hbl) (by rw [HTK.out]; exact Fr.of_own (by rw [List.length_append, HL.out]; exact hown)); clear hown hb5 c1 hbl; have c1 := H5.out.c1; have f1 := H5.out.f1; obtain ⟨A5, c5, e5, -⟩ := H5.out.row.form; rw [HL1.out] at e5; subst e5)
        have H6 := Lib.hid (H5.out.set (.slice A5 (j + 1) c5))
        go_roundw
        case rel => exact ⟨j + 1, _, by omega, by go_num, H6.out⟩
        case measure => simp [intOf]; omega
      obtain ⟨p, ep, hpn⟩ := HMB.out b _ (List.getElem?_eq_getElem hlt2)
      have ep2 : (memL s)[b]? = some (p : Int) := by rw [List.getElem?_eq_getElem hlt2, ep]
      have qb := HI.out.li b _ ep2
      rw [Nat.zero_add] at qb
      have HGD : Hid ((memL s).getD b 0 = (p : Int)) := by show _ = _; rw [List.getD_eq_getElem?_getD, ep2]; rfl
      have hbi : (b : Int) < (memL s).length := by omega
      obtain ⟨q0, q1, -, -, -, -, q2, -, -⟩ := id HI.out.rz
      have HB := Lib.hid (HBT.out wr a p HI.out.rz.be han hpn)
      clear ep ep2
      have hQ128 : (2 : Nat) ^ b ≤ 128 := by
        have h : ∀ b : Fin 8, (2 : Nat) ^ b.val ≤ 128 := by decide
        exact h ⟨b, by omega⟩
      have hR256 : pwT x (memL s) a b < 256 := by omega
      have hb64 : (b : Int) < 64 := by omega
      have hb8 : b < 8 := by omega
      have hsh := pow_lt8 hb8
      cases hbt : bt x.wins a p
      · have HX : Hid (pwT x (memL s) a (b + 1) = pwT x (memL s) a b) := by show _ = _; rw [pwT, HGD.out, Int.toNat_natCast, hbt]; rfl
        rw [hbt] at HB
        clear hbt hsh hQ128 hR256 hl
        go_wp2_with (go_at_call 39; refine HB.out.mono ?_; rintro e w4 ⟨rfl, hb4⟩; have HI2 := Lib.hid (HI.out.below hb4); clear hb4 q0 q1 q2)
        go_roundw
        case rel => exact ⟨b + 1, by omega, by go_num, by rw [HX.out], HI2.out⟩
        case measure => simp [intOf]; omega
      · have HX : Hid (pwT x (memL s) a (b + 1) = pwT x (memL s) a b + 2 ^ b) := by show _ = _; rw [pwT, HGD.out, Int.toNat_natCast, hbt]; rfl
        rw [hbt] at HB
        obtain ⟨Q, hQ⟩ : ∃ Q : Nat, 2 ^ b = Q := ⟨_, rfl⟩
        rw [hQ] at HX hsh hQ128
        have hwr : wrap64 (((pwT x (memL s) a b : Nat) : Int) + (Q : Int)) = ((pwT x (memL s) a b : Nat) : Int) + (Q : Int) := by clear hsh HX; unfold wrap64; omega
        generalize pwT x (memL s) a b = R at *
        clear hbt hQ hl
        go_wp2_with (go_at_call 39; refine HB.out.mono ?_; rintro e w4 ⟨rfl, hb4⟩; have HI2 := Lib.hid (HI.out.below hb4); clear hb4 q0 q1 q2)
        go_roundw
        case rel => exact ⟨b + 1, by omega, by go_num, by rw [HX.out, hwr]; rfl, HI2.out⟩
        case measure => simp [intOf]; omega
end Go.Proofs.YtoppjohbmalhnaaDoor
