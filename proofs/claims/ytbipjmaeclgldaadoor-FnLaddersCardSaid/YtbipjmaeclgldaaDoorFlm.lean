/- Ladders: a tour made from a code; whether a list is a way. -/
import Derived.Test.YtbipjmaeclgldaaDoorFlw
import Derived.Test.YtbipjmaeclgldaaDoorMbp
import Derived.Deep.RegionWith
namespace Go.Proofs.YtbipjmaeclgldaaDoor
open Go.ChangeShapes Go.WideShapes Go.ChangeAt Go.RowKit

structure MkAt (w wr : World) (v : Value) (n : Nat) : Prop where
  bx : Bx wr w.heap.size (.int .i64 0) (.slice none 0 0)
  cur : Cur wr (w.heap.size + 1) v n
  be : Below w.heap.size w wr
  f0 : wr.frozen? ⟨w.heap.size, 0, none⟩ = false
  f1 : wr.frozen? ⟨w.heap.size, 1, none⟩ = false
theorem MkAt.draw {w wr w2 : World} {v : Value} {n : Nat} (h : MkAt w wr v n) (hc : Cur w2 (w.heap.size + 1) v n) (hk : Keep (w.heap.size + 1) (w.heap.size + 1 + 1) wr w2) : MkAt w w2 v n :=
  ⟨h.bx.keep hk (.inl (Nat.lt_succ_self _)), hc, h.be.trans (hk.below (Nat.le_succ _) (Nat.le_of_lt h.bx.2.2)), (hk.frozen (p := ⟨w.heap.size, 0, none⟩) h.bx.2.2 (.inl (Nat.lt_succ_self _))).trans h.f0, (hk.frozen (p := ⟨w.heap.size, 1, none⟩) h.bx.2.2 (.inl (Nat.lt_succ_self _))).trans h.f1⟩
set_option maxHeartbeats 2000000 in
set_option maxRecDepth 100000 in
theorem makeOf_any (v : Value) (n : Nat) (M : Int) (N : Nat) (w : World) (hv : InB w v n) (hn : n ≤ 1048576) (h0 : 0 ≤ M) (hm : M ≤ 1048576) (h1 : 1 ≤ N) (h8 : N ≤ 8) :
    Calls Tryd.prog 14 #[v, .int .i64 M, .int .i64 (N : Int)] w fun e w' => ∃ (A : Option Addr) (c : Nat) (xs : List Int), e = .returned (.agg #[.int .i64 (N : Int), .slice A N c]) ∧ xs.length = N ∧ tourB ⟨(N : Int), xs⟩ = true ∧ InI w' (.slice A N c) xs ∧ Below w.heap.size w w' := by
  obtain ⟨m, rfl⟩ := Int.eq_ofNat_of_zero_le h0
  have HV := Lib.hid hv
  have b0 : Below w.heap.size w (w.alloc (.cells #[.int .i64 0, .slice none 0 0] 33)) := (Below.refl _ w).alloc (Nat.le_refl _) _
  have H0 : Hid (Bx (w.alloc (.cells #[.int .i64 0, .slice none 0 0] 33)) w.heap.size (.int .i64 0) (.slice none 0 0) ∧ InB (w.alloc (.cells #[.int .i64 0, .slice none 0 0] 33)) v n ∧ Below w.heap.size w (w.alloc (.cells #[.int .i64 0, .slice none 0 0] 33)) ∧ (w.alloc (.cells #[.int .i64 0, .slice none 0 0] 33)).heap.size = w.heap.size + 1 ∧
      (w.alloc (.cells #[.int .i64 0, .slice none 0 0] 33)).frozen? ⟨w.heap.size, 0, none⟩ = false ∧ (w.alloc (.cells #[.int .i64 0, .slice none 0 0] 33)).frozen? ⟨w.heap.size, 1, none⟩ = false) :=
    ⟨⟨by simp, by simp, by simp⟩, hv.below b0, b0, by simp, by rw [frozen?_alloc_cells]; simp [World.frozen?], by rw [frozen?_alloc_cells]; simp [World.frozen?]⟩
  clear hv b0
  have e1 : min (N : Int) 8 = (N : Int) := by omega
  have e2 : max 1 (N : Int) = (N : Int) := by omega
  go_enter Tryd.func14, Tryd.ntmps14
  go_wp2_with fail
  refine (l32New_any v n m _ H0.out.2.1 hn (by omega)).mono ?_
  rintro e w1 ⟨rfl, hc, hb⟩
  have hsz := H0.out.2.2.2.1
  have H1 : Hid (MkAt w w1 v n) := by
    rw [hsz] at hc hb
    exact ⟨H0.out.1.below (by rw [hsz]; exact hb), hc, H0.out.2.2.1.trans (hb.mono (by omega)), (hb.frozen (p := ⟨w.heap.size, 0, none⟩) (Nat.lt_succ_self _)).trans H0.out.2.2.2.2.1, (hb.frozen (p := ⟨w.heap.size, 1, none⟩) (Nat.lt_succ_self _)).trans H0.out.2.2.2.2.2⟩
  rw [hsz]
  clear hc hb hsz H0
  have t1 : Hid True := trivial
  have t2 : Hid True := trivial
  have t3 : Hid True := trivial
  go_wp2_with (first
    | (go_at_call 37; clear t1; refine (l01Below_any (w.heap.size + 1) v n 256 _ H1.out.cur hn (by omega) (by omega)).mono ?_; rintro e w2 ⟨y1, hy1, rfl, hc2, hk2⟩; have H2 := Lib.hid (H1.out.draw hc2 hk2); clear hc2 hk2)
    | (go_at_call 37; have h_ := H2.out; clear h_ t2; refine (l01Below_any (w.heap.size + 1) v n 256 _ H2.out.cur hn (by omega) (by omega)).mono ?_; rintro e w3 ⟨y2, hy2, rfl, hc2, hk2⟩; have H3 := Lib.hid (H2.out.draw hc2 hk2); clear hc2 hk2)
    | (go_at_call 37; have h_ := H3.out; clear h_ t3; refine (l01Below_any (w.heap.size + 1) v n 256 _ H3.out.cur hn (by omega) (by omega)).mono ?_; rintro e w4 ⟨y3, hy3, rfl, hc2, hk2⟩; have H4 := Lib.hid (H3.out.draw hc2 hk2); clear hc2 hk2)
    | (go_at_call 37; have h_ := H4.out; clear h_; refine (l01Below_any (w.heap.size + 1) v n 16 _ H4.out.cur hn (by omega) (by omega)).mono ?_; rintro e w5 ⟨y4, hy4, rfl, hc2, hk2⟩; have H5 := Lib.hid (H4.out.draw hc2 hk2); clear hc2 hk2; obtain ⟨⟨q0, q1, q2⟩, -, -, f0, f1⟩ := id H5.out)
    | (go_at_call 36; refine (l02OfN N _ _ h1 h8 (by omega) (by omega)).mono ?_; rintro e w6 ⟨A, c, xs, hl, rfl, hf, ht, hb⟩; have H6 : Hid (Bx w6 w.heap.size (.int .i64 0) (.slice none 0 0) ∧ Fr w6 w5.heap.size w6.heap.size (.slice A N c) xs ∧ Below w.heap.size w w6 ∧ w.heap.size + 1 ≤ w5.heap.size) := ⟨H5.out.bx.below hb, hf, H5.out.be.trans (hb.mono H5.out.be.size), Nat.le_of_lt H5.out.cur.lt⟩; have HT : Hid (xs.length = N ∧ tourB ⟨(N : Int), xs⟩ = true) := ⟨hl, ht⟩; have g0 := (hb.frozen (p := ⟨w.heap.size, 0, none⟩) q2).trans f0; have g1 := (hb.frozen (p := ⟨w.heap.size, 1, none⟩) q2).trans f1; clear hl hf ht hb q0 q1 q2 f0 f1; obtain ⟨⟨q0, q1, -⟩, -⟩ := id H6.out))
  have KP : Keep w.heap.size (w.heap.size + 1) w6 ((w6.setCell ⟨w.heap.size, 0, none⟩ (.int .i64 (N : Int))).setCell ⟨w.heap.size, 1, none⟩ (.slice A N c)) :=
    ((Keep.refl _ _ _).setCell (p := ⟨w.heap.size, 0, none⟩) (Nat.le_refl _) (Nat.lt_succ_self _) _).setCell (p := ⟨w.heap.size, 1, none⟩) (Nat.le_refl _) (Nat.lt_succ_self _) _
  refine bodyPost_ret (v := .agg #[.int .i64 (N : Int), .slice A N c]) (by simp [results, Tryd.results14, go_sem, q0, q1]) rfl ⟨A, c, xs, rfl, HT.out.1, HT.out.2, (H6.out.2.1.keep KP (.inr H6.out.2.2.2)).in_, H6.out.2.2.1.trans (KP.below (Nat.le_refl _) H6.out.2.2.1.size)⟩

set_option maxRecDepth 100000 in
theorem implHas_any (n : Nat) (vs : Value) (a : Int) (w : World) (hn : n ≤ 8) :
    Calls Tryd.prog 40 #[.agg #[.int .i64 (n : Int), vs], .int .i64 a] w fun e w' => e = .returned (.bool (inB a 0 ((n : Int) - 1))) ∧ Below w.heap.size w w' := by
  have HB : Hid (Below w.heap.size w (w.alloc (.cells #[.int .i64 (n : Int), vs] 33))) := (Below.refl _ w).alloc (Nat.le_refl _) _
  go_enter Tryd.func40, Tryd.ntmps40
  go_wp2_with (go_at_call 26; refine (within_any _ _ _ _).mono ?_; rintro e w' ⟨rfl, rfl⟩)
  go_ret
  exact ⟨rfl, HB.out⟩

structure IwAt (w wr : World) (x : TourV) (B : Option Addr) (d : Nat) : Prop where
  bx : Bx wr w.heap.size (.int .i64 (x.wins.length : Int)) (.slice B x.wins.length d)
  be : Below w.heap.size w wr
theorem IwAt.below {w wr w2 : World} {x : TourV} {B : Option Addr} {d : Nat} (h : IwAt w wr x B d) (hb : Below wr.heap.size wr w2) : IwAt w w2 x B d := ⟨h.bx.below hb, h.be.trans (hb.mono h.be.size)⟩
theorem IwAt.drew {w wr : World} {x : TourV} {B : Option Addr} {d : Nat} (h : IwAt w wr x B d) : IwAt w wr.drew x B d := h.below (below_of_drewN _ wr 1)
theorem sl_take {w : World} {A : Option Addr} {xs : List Int} (h : SlI w A xs) (j : Nat) : SlI w A (xs.take j) := by
  rcases h with rfl | ⟨b', off', hA, h⟩
  · exact .inl (by simp)
  · refine .inr ⟨b', off', hA, fun k y hy => ?_⟩
    rw [List.getElem?_take] at hy
    split at hy
    · exact h k y hy
    · cases hy
theorem nodup_take {l : List Int} (hd : l.Nodup) {j : Nat} {x : Int} (h : l[j]? = some x) : (l.take j).contains x = false := by
  rw [Bool.eq_false_iff, Ne, List.contains_iff_mem]
  intro hm
  obtain ⟨i, hi, he⟩ := List.mem_take_iff_getElem.1 hm
  have h1 := plc_at hd h
  have h2 := plc_at hd (k := i) (x := x) (by rw [List.getElem?_eq_getElem (by omega), he])
  omega
set_option maxHeartbeats 4000000 in
set_option maxRecDepth 100000 in
theorem implIsWay_any (v : Value) (x : TourV) (A : Option Addr) (c : Nat) (l : List Int) (w : World) (hs : InT w v x) (hok : tourB x = true) (hl : InI w (.slice A l.length c) l) (hlad : ladB l = true) (hlen : l.length = x.wins.length)
    (hway : ∀ j, 1 ≤ j → j < l.length → bi x.wins (l.getD (j - 1) 0) (l.getD j 0) = true) :
    Calls Tryd.prog 17 #[v, .slice A l.length c] w fun e w' => e = .returned (.bool true) ∧ Below w.heap.size w w' := by
  have HIT := Lib.hid hs
  have HIL := Lib.hid hl
  obtain ⟨u, rfl, B, d, rfl, hd, hm, hsl⟩ := hs
  obtain ⟨A', c', he, hc, hcm, hsl2⟩ := hl
  injection he with e1 e2 e3
  subst e1; subst e3
  obtain ⟨t1, t2, t3, t4, _⟩ := tourB_t hok
  have hn8 : x.wins.length ≤ 8 := by omega
  have HSZ : Hid (x.size = (x.wins.length : Int)) := t3.symm
  have HTO : Hid (∀ W, Below w.heap.size w W → Calls Tryd.prog 38 #[.agg #[.int .i64 x.size, .slice B x.wins.length d]] W fun e w' => e = .returned (.bool true) ∧ Below W.heap.size W w') := fun W hW => by
    have h := implTourOk_any _ x W (HIT.out.below hW)
    rwa [hok] at h
  have HBT : Hid (∀ V (p q : Nat), Below w.heap.size w V → p < x.wins.length → q < x.wins.length → Calls Tryd.prog 39 #[.agg #[.int .i64 x.size, .slice B x.wins.length d], .int .i64 (p : Int), .int .i64 (q : Int)] V fun e w' => e = .returned (.bool (bt x.wins p q)) ∧ Below V.heap.size V w') := fun V p q hV hp hq => implBeats_any _ x p q V (HIT.out.below hV) hn8 t4 hp (by omega)
  have H0 : Hid (IwAt w (w.alloc (.cells #[.int .i64 (x.wins.length : Int), .slice B x.wins.length d] 33)) x B d) := ⟨⟨by simp, by simp, by simp⟩, (Below.refl _ w).alloc (Nat.le_refl _) _⟩
  have HLD := Lib.hid (ladB_t hlad)
  have HWY := Lib.hid hway
  have HLEN := Lib.hid hlen
  have HSL := Lib.hid hsl2
  rw [HSZ.out] at HBT HTO
  rw [HSZ.out, hlen]
  rw [hlen] at hc
  clear hsl hsl2 hok t1 t2 t3 t4 hm hd hlad hway hlen e2
  obtain ⟨q0, q1, q2⟩ := id H0.out.bx
  go_enter Tryd.func17, Tryd.ntmps17
  go_wp2_with (go_at_call 38; refine (HTO.out _ H0.out.be).mono ?_; rintro e w1 ⟨rfl, hb⟩; have H1 := Lib.hid (H0.out.below hb); clear hb q0 q1 q2 H0)
  go_loopw [12] (fun i wr => ∃ j : Nat, j ≤ x.wins.length ∧ i = .int .i64 j ∧ Hid (IwAt w wr x B d)) (fun i _ => x.wins.length - (intOf i).toNat)
  case atStart => exact ⟨0, Nat.zero_le _, rfl, H1.out⟩
  case round =>
    obtain ⟨j, hj, rfl, HR⟩ := hrel
    clear H1
    by_cases hlt : j < x.wins.length
    case neg =>
      go_wp2
      go_ret
      exact ⟨rfl, HR.out.be⟩
    obtain ⟨bk, off, a, rfl, ha, hca, -⟩ := (HSL.out.below HR.out.be).at_ (k := j) (by rw [HLEN.out]; exact hlt)
    have HA := Lib.hid ha
    have ham := HLD.out.2.1 a (List.mem_of_getElem? ha)
    rw [HLEN.out] at ham
    obtain ⟨a, rfl⟩ := Int.eq_ofNat_of_zero_le ham.1
    have hal : a < x.wins.length := by omega
    have hhas : inB (a : Int) 0 ((x.wins.length : Int) - 1) = true := by rw [inB_t]; omega
    have HHS : Hid (∀ V, Calls Tryd.prog 40 #[.agg #[.int .i64 (x.wins.length : Int), .slice B x.wins.length d], .int .i64 (a : Int)] V fun e w' => e = .returned (.bool true) ∧ Below V.heap.size V w') := fun V => by
      have h := implHas_any x.wins.length (.slice B x.wins.length d) (a : Int) V hn8
      rwa [hhas] at h
    have HCT : Hid (∀ V, Below w.heap.size w V → Calls Tryd.prog 41 #[.slice (some ⟨bk, off, none⟩) j c, .int .i64 (a : Int)] V fun e w' => e = .returned (.bool false) ∧ V = w') := fun V hV => by
      have hl2 : (l.take j).length = j := by rw [List.length_take, HLEN.out]; omega
      have h := containsI_any (some ⟨bk, off, none⟩) c (l.take j) (a : Int) V (sl_take (HSL.out.below hV) j) (by rw [hl2]; omega)
      rw [hl2, nodup_take HLD.out.2.2 HA.out] at h
      exact h
    clear ha ham hhas
    obtain ⟨q0, q1, q2⟩ := id HR.out.bx
    have hjc : j ≤ c := by omega
    have j0 : (0 : Int) ≤ (j : Int) := by omega
    have j1 : (j : Int) ≤ (c : Int) := by omega
    have j4 : (j : Int) < (x.wins.length : Int) := by omega
    have j6 : (j : Int) ≤ (x.wins.length : Int) := by omega
    by_cases hj0 : 0 < j
    case neg =>
      have hz : decide (0 < j) = false := decide_eq_false (by omega)
      have HJ := Lib.hid hj0
      clear hj0
      go_upto_region 6 with (fail)
      refine wp_region_noPanic ?_
      refine wp_region_held_drew (S := fun W => W.cell? ⟨w.heap.size, 0, none⟩ = some (.int .i64 (x.wins.length : Int)) ∧ W.cell? ⟨w.heap.size, 1, none⟩ = some (.slice B x.wins.length d)) (by kernel_rfl) ⟨q0, q1⟩ (fun hHeld => ?_)
      refine wpAnyH_take (i := 0) (v := ?v0) (by simp only [List.getElem?_toArray, List.getElem?_cons_succ, List.getElem?_cons_zero]; exact rfl) (by kernel_rfl) (by kernel_rfl) (by kernel_rfl) (fun _ _ _ h => h) (Or.inl ⟨by kernel_rfl, ?hy0⟩) (by assumption) ?_
      case hy0 => (intro w hSw; (try dsimp only at hSw); go_simp <;> (try with_reducible rfl))
      try simp only [Act.put, List.setIfInBounds_toArray, List.set_cons_zero, List.set_cons_succ]
      refine wpAnyH_take (i := 1) (v := ?v1) (by simp only [List.getElem?_toArray, List.getElem?_cons_succ, List.getElem?_cons_zero]; exact rfl) (by kernel_rfl) (by kernel_rfl) (by kernel_rfl) (fun _ _ _ h => h) (Or.inl ⟨by kernel_rfl, ?hy1⟩) (by assumption) ?_
      case hy1 => (intro w hSw; (try dsimp only at hSw); go_simp <;> (try with_reducible rfl))
      try simp only [Act.put, List.setIfInBounds_toArray, List.set_cons_zero, List.set_cons_succ]
      refine wpAnyH_ready (rs := [2]) (by kernel_rfl) (by simp) ?_
      refine AllReadyH.cons rfl (fun K hK => ?_) AllReadyH.nil
      go_simp
      go_at_call 40
      (with_reducible refine (HHS.out _).mono ?_)
      rintro e w3 ⟨rfl, hb3⟩
      have H3 : Hid (IwAt w w3 x B d) := HR.out.drew.below hb3
      try (go_wp2_with fail)
      refine hK.out _ _ ⟨H3.out.bx.1, H3.out.bx.2.1⟩ (fun hHeld => ?_)
      clear hK K
      try simp only [Act.put, List.setIfInBounds_toArray, List.set_cons_zero, List.set_cons_succ]
      clear hb3 q0 q1 q2
      refine wpAnyH_take (i := 3) (v := ?v3) (by simp only [List.getElem?_toArray, List.getElem?_cons_succ, List.getElem?_cons_zero]; exact rfl) (by kernel_rfl) (by kernel_rfl) (by kernel_rfl) (fun _ _ _ h => h) (Or.inl ⟨by kernel_rfl, ?hy3⟩) (by assumption) ?_
      case hy3 => (intro w hSw; (try dsimp only at hSw); go_simp <;> (try with_reducible rfl))
      try simp only [Act.put, List.setIfInBounds_toArray, List.set_cons_zero, List.set_cons_succ]
      refine wpAnyH_take (i := 4) (v := ?v4) (by simp only [List.getElem?_toArray, List.getElem?_cons_succ, List.getElem?_cons_zero]; exact rfl) (by kernel_rfl) (by kernel_rfl) (by kernel_rfl) (fun _ _ _ h => h) (Or.inl ⟨by kernel_rfl, ?hy4⟩) (by assumption) ?_
      case hy4 => (intro w hSw; (try dsimp only at hSw); go_simp <;> (try with_reducible rfl))
      try simp only [Act.put, List.setIfInBounds_toArray, List.set_cons_zero, List.set_cons_succ]
      refine wpAnyH_take (i := 5) (v := ?v5) (by simp only [List.getElem?_toArray, List.getElem?_cons_succ, List.getElem?_cons_zero]; exact rfl) (by kernel_rfl) (by kernel_rfl) (by kernel_rfl) (fun _ _ _ h => h) (Or.inl ⟨by kernel_rfl, ?hy5⟩) (by assumption) ?_
      case hy5 => (intro w hSw; (try dsimp only at hSw); go_simp <;> (try with_reducible rfl))
      try simp only [Act.put, List.setIfInBounds_toArray, List.set_cons_zero, List.set_cons_succ]
      refine wpAnyH_take (i := 6) (v := ?v6) (by simp only [List.getElem?_toArray, List.getElem?_cons_succ, List.getElem?_cons_zero]; exact rfl) (by kernel_rfl) (by kernel_rfl) (by kernel_rfl) (fun _ _ _ h => h) (Or.inl ⟨by kernel_rfl, ?hy6⟩) (by assumption) ?_
      case hy6 => (intro w hSw; (try dsimp only at hSw); go_simp <;> (try with_reducible rfl))
      try simp only [Act.put, List.setIfInBounds_toArray, List.set_cons_zero, List.set_cons_succ]
      refine wpAnyH_take (i := 7) (v := ?v7) (by simp only [List.getElem?_toArray, List.getElem?_cons_succ, List.getElem?_cons_zero]; exact rfl) (by kernel_rfl) (by kernel_rfl) (by kernel_rfl) (fun _ _ _ h => h) (Or.inl ⟨by kernel_rfl, ?hy7⟩) (by assumption) ?_
      case hy7 => (intro w hSw; (try dsimp only at hSw); go_simp <;> (try with_reducible rfl))
      try simp only [Act.put, List.setIfInBounds_toArray, List.set_cons_zero, List.set_cons_succ]
      refine wpAnyH_take (i := 8) (v := ?v8) (by simp only [List.getElem?_toArray, List.getElem?_cons_succ, List.getElem?_cons_zero]; exact rfl) (by kernel_rfl) (by kernel_rfl) (by kernel_rfl) (fun _ _ _ h => h) (Or.inl ⟨by kernel_rfl, ?hy8⟩) (by assumption) ?_
      case hy8 => (intro w hSw; (try dsimp only at hSw); go_simp <;> (try with_reducible rfl))
      try simp only [Act.put, List.setIfInBounds_toArray, List.set_cons_zero, List.set_cons_succ]
      refine wpAnyH_ready (rs := [9]) (by kernel_rfl) (by simp) ?_
      refine AllReadyH.cons rfl (fun K hK => ?_) AllReadyH.nil
      go_simp
      go_at_call 41
      (with_reducible refine (HCT.out _ H3.out.be).mono ?_)
      rintro e w4 ⟨rfl, rfl⟩
      try (go_wp2_with fail)
      refine hK.out _ _ ⟨H3.out.bx.1, H3.out.bx.2.1⟩ (fun hHeld => ?_)
      clear hK K
      try simp only [Act.put, List.setIfInBounds_toArray, List.set_cons_zero, List.set_cons_succ]
      refine wpAnyH_take (i := 10) (v := ?v10) (by simp only [List.getElem?_toArray, List.getElem?_cons_succ, List.getElem?_cons_zero]; exact rfl) (by kernel_rfl) (by kernel_rfl) (by kernel_rfl) (fun _ _ _ h => h) (Or.inl ⟨by kernel_rfl, ?hy10⟩) (by assumption) ?_
      case hy10 => (intro w hSw; (try dsimp only at hSw); go_simp <;> (try with_reducible rfl))
      try simp only [Act.put, List.setIfInBounds_toArray, List.set_cons_zero, List.set_cons_succ]
      refine wpAnyH_take (i := 11) (v := ?v11) (by simp only [List.getElem?_toArray, List.getElem?_cons_succ, List.getElem?_cons_zero]; exact rfl) (by kernel_rfl) (by kernel_rfl) (by kernel_rfl) (fun _ _ _ h => h) (Or.inl ⟨by kernel_rfl, ?hy11⟩) (by assumption) ?_
      case hy11 => (intro w hSw; (try dsimp only at hSw); go_simp <;> (try with_reducible rfl))
      try simp only [Act.put, List.setIfInBounds_toArray, List.set_cons_zero, List.set_cons_succ]
      refine wpAnyH_take (i := 12) (v := ?v12) (by simp only [List.getElem?_toArray, List.getElem?_cons_succ, List.getElem?_cons_zero]; exact rfl) (by kernel_rfl) (by kernel_rfl) (by kernel_rfl) (fun _ _ _ h => h) (Or.inl ⟨by kernel_rfl, ?hy12⟩) (by assumption) ?_
      case hy12 => (intro w hSw; (try dsimp only at hSw); go_simp <;> (try with_reducible rfl))
      try simp only [Act.put, List.setIfInBounds_toArray, List.set_cons_zero, List.set_cons_succ]
      refine wpAnyH_take (i := 13) (v := ?v13) (by simp only [List.getElem?_toArray, List.getElem?_cons_succ, List.getElem?_cons_zero]; exact rfl) (by kernel_rfl) (by kernel_rfl) (by kernel_rfl) (fun _ _ _ h => h) (Or.inl ⟨by kernel_rfl, ?hy13⟩) (by assumption) ?_
      case hy13 => (intro w hSw; (try dsimp only at hSw); go_simp <;> (try with_reducible rfl))
      try simp only [Act.put, List.setIfInBounds_toArray, List.set_cons_zero, List.set_cons_succ]
      refine wpAnyH_take (i := 14) (v := ?v14) (by simp only [List.getElem?_toArray, List.getElem?_cons_succ, List.getElem?_cons_zero]; exact rfl) (by kernel_rfl) (by kernel_rfl) (by kernel_rfl) (fun _ _ _ h => h) (Or.inl ⟨by kernel_rfl, ?hy14⟩) (by assumption) ?_
      case hy14 => (intro w hSw; (try dsimp only at hSw); go_simp <;> (try with_reducible rfl))
      try simp only [Act.put, List.setIfInBounds_toArray, List.set_cons_zero, List.set_cons_succ]
      refine wpAnyH_take (i := 15) (v := undef) (by simp only [List.getElem?_toArray, List.getElem?_cons_succ, List.getElem?_cons_zero]; exact rfl) (by kernel_rfl) (by kernel_rfl) (by kernel_rfl) (fun _ _ _ h => h) (Or.inr ⟨by kernel_rfl, rfl⟩) (by assumption) ?_
      try simp only [Act.put, List.setIfInBounds_toArray, List.set_cons_zero, List.set_cons_succ]
      refine wpAnyH_take (i := 16) (v := undef) (by simp only [List.getElem?_toArray, List.getElem?_cons_succ, List.getElem?_cons_zero]; exact rfl) (by kernel_rfl) (by kernel_rfl) (by kernel_rfl) (fun _ _ _ h => h) (Or.inr ⟨by kernel_rfl, rfl⟩) (by assumption) ?_
      try simp only [Act.put, List.setIfInBounds_toArray, List.set_cons_zero, List.set_cons_succ]
      refine wpAnyH_take (i := 17) (v := undef) (by simp only [List.getElem?_toArray, List.getElem?_cons_succ, List.getElem?_cons_zero]; exact rfl) (by kernel_rfl) (by kernel_rfl) (by kernel_rfl) (fun _ _ _ h => h) (Or.inr ⟨by kernel_rfl, rfl⟩) (by assumption) ?_
      try simp only [Act.put, List.setIfInBounds_toArray, List.set_cons_zero, List.set_cons_succ]
      refine wpAnyH_take (i := 18) (v := undef) (by simp only [List.getElem?_toArray, List.getElem?_cons_succ, List.getElem?_cons_zero]; exact rfl) (by kernel_rfl) (by kernel_rfl) (by kernel_rfl) (fun _ _ _ h => h) (Or.inr ⟨by kernel_rfl, rfl⟩) (by assumption) ?_
      try simp only [Act.put, List.setIfInBounds_toArray, List.set_cons_zero, List.set_cons_succ]
      refine wpAnyH_take (i := 19) (v := undef) (by simp only [List.getElem?_toArray, List.getElem?_cons_succ, List.getElem?_cons_zero]; exact rfl) (by kernel_rfl) (by kernel_rfl) (by kernel_rfl) (fun _ _ _ h => h) (Or.inr ⟨by kernel_rfl, rfl⟩) (by assumption) ?_
      try simp only [Act.put, List.setIfInBounds_toArray, List.set_cons_zero, List.set_cons_succ]
      refine wpAnyH_take (i := 20) (v := undef) (by simp only [List.getElem?_toArray, List.getElem?_cons_succ, List.getElem?_cons_zero]; exact rfl) (by kernel_rfl) (by kernel_rfl) (by kernel_rfl) (fun _ _ _ h => h) (Or.inr ⟨by kernel_rfl, rfl⟩) (by assumption) ?_
      try simp only [Act.put, List.setIfInBounds_toArray, List.set_cons_zero, List.set_cons_succ]
      refine wpAnyH_take (i := 21) (v := undef) (by simp only [List.getElem?_toArray, List.getElem?_cons_succ, List.getElem?_cons_zero]; exact rfl) (by kernel_rfl) (by kernel_rfl) (by kernel_rfl) (fun _ _ _ h => h) (Or.inr ⟨by kernel_rfl, rfl⟩) (by assumption) ?_
      try simp only [Act.put, List.setIfInBounds_toArray, List.set_cons_zero, List.set_cons_succ]
      refine wpAnyH_take (i := 22) (v := undef) (by simp only [List.getElem?_toArray, List.getElem?_cons_succ, List.getElem?_cons_zero]; exact rfl) (by kernel_rfl) (by kernel_rfl) (by kernel_rfl) (fun _ _ _ h => h) (Or.inr ⟨by kernel_rfl, rfl⟩) (by assumption) ?_
      try simp only [Act.put, List.setIfInBounds_toArray, List.set_cons_zero, List.set_cons_succ]
      refine wpAnyH_take (i := 23) (v := undef) (by simp only [List.getElem?_toArray, List.getElem?_cons_succ, List.getElem?_cons_zero]; exact rfl) (by kernel_rfl) (by kernel_rfl) (by kernel_rfl) (fun _ _ _ h => h) (Or.inr ⟨by kernel_rfl, rfl⟩) (by assumption) ?_
      try simp only [Act.put, List.setIfInBounds_toArray, List.set_cons_zero, List.set_cons_succ]
      refine wpAnyH_take (i := 24) (v := ?v24) (by simp only [List.getElem?_toArray, List.getElem?_cons_succ, List.getElem?_cons_zero]; exact rfl) (by kernel_rfl) (by kernel_rfl) (by kernel_rfl) (fun _ _ _ h => h) (Or.inl ⟨by kernel_rfl, ?hy24⟩) (by assumption) ?_
      case hy24 => (intro w hSw; (try dsimp only at hSw); go_simp <;> (try with_reducible rfl))
      try simp only [Act.put, List.setIfInBounds_toArray, List.set_cons_zero, List.set_cons_succ]
      refine wpAnyH_take (i := 25) (v := ?v25) (by simp only [List.getElem?_toArray, List.getElem?_cons_succ, List.getElem?_cons_zero]; exact rfl) (by kernel_rfl) (by kernel_rfl) (by kernel_rfl) (fun _ _ _ h => h) (Or.inl ⟨by kernel_rfl, ?hy25⟩) (by assumption) ?_
      case hy25 => (intro w hSw; (try dsimp only at hSw); go_simp <;> (try with_reducible rfl))
      try simp only [Act.put, List.setIfInBounds_toArray, List.set_cons_zero, List.set_cons_succ]
      refine wpAnyH_done (by kernel_rfl) ?_ _
      refine NoPanic.normal ?_
      go_wp2
      go_roundw
      case rel => exact ⟨j + 1, by omega, by go_num, H3.out⟩
      case measure => simp [intOf]; omega
    · have j5 : decide (0 < j) = true := decide_eq_true (by omega)
      have j7 : (1 : Int) ≤ (j : Int) := by omega
      have j7' : 1 ≤ j := by omega
      have j8 : (j : Int) - 1 < (x.wins.length : Int) := by omega
      have j9 : ((j : Int) - 1).toNat = j - 1 := by omega
      obtain ⟨k, hk⟩ : ∃ k, k = j - 1 := ⟨_, rfl⟩
      have HKL : Hid (k < l.length) := by show _ < _; rw [HLEN.out]; omega
      obtain ⟨b, hb0⟩ : ∃ b, l[k]? = some b := ⟨_, List.getElem?_eq_getElem HKL.out⟩
      have hbm := HLD.out.2.1 b (List.mem_of_getElem? hb0)
      rw [HLEN.out] at hbm
      obtain ⟨b, rfl⟩ := Int.eq_ofNat_of_zero_le hbm.1
      have hbl : b < x.wins.length := by omega
      have HBK : Hid (bt x.wins b a = true) := by
        show _ = _
        have h := HWY.out j (by omega) (by rw [HLEN.out]; exact hlt)
        rw [List.getD_eq_getElem?_getD, List.getD_eq_getElem?_getD, ← hk, hb0, HA.out] at h
        simpa [bi] using h
      have HCB : Hid (∀ V, Below w.heap.size w V → V.cell? ⟨bk, off + (j - 1), none⟩ = some (.int .i64 (b : Int))) := fun V hV => by
        rw [← hk]
        rcases HSL.out.below hV with h | ⟨b', off', hA, h⟩
        · rw [h] at hb0; simp at hb0
        · injection hA with hA
          injection hA with e1 e2 _
          subst e1; subst e2
          exact h k _ hb0
      have HBA : Hid (∀ V, Below w.heap.size w V → Calls Tryd.prog 39 #[.agg #[.int .i64 (x.wins.length : Int), .slice B x.wins.length d], .int .i64 (b : Int), .int .i64 (a : Int)] V fun e w' => e = .returned (.bool true) ∧ Below V.heap.size V w') := fun V hV => by
        have h := HBT.out V b a hV hbl hal
        rwa [HBK.out] at h
      have k0 := HCB.out _ HR.out.be
      have j2 : IntKind.i64.wrap ((j : Int) - 1) = (j : Int) - 1 := by rw [IntKind.wrap_i64]; omega
      clear hb0 hbm hk hj0 HKL
      go_upto_region 6 with (fail)
      refine wp_region_noPanic ?_
      refine wp_region_held_drew (S := fun W => W.cell? ⟨w.heap.size, 0, none⟩ = some (.int .i64 (x.wins.length : Int)) ∧ W.cell? ⟨w.heap.size, 1, none⟩ = some (.slice B x.wins.length d) ∧ W.cell? ⟨bk, off + (j - 1), none⟩ = some (.int .i64 (b : Int))) (by kernel_rfl) ⟨q0, q1, k0⟩ (fun hHeld => ?_)
      refine wpAnyH_take (i := 0) (v := ?v0) (by simp only [List.getElem?_toArray, List.getElem?_cons_succ, List.getElem?_cons_zero]; exact rfl) (by kernel_rfl) (by kernel_rfl) (by kernel_rfl) (fun _ _ _ h => h) (Or.inl ⟨by kernel_rfl, ?hy0⟩) (by assumption) ?_
      case hy0 => (intro w hSw; (try dsimp only at hSw); go_simp <;> (try with_reducible rfl))
      try simp only [Act.put, List.setIfInBounds_toArray, List.set_cons_zero, List.set_cons_succ]
      refine wpAnyH_take (i := 1) (v := ?v1) (by simp only [List.getElem?_toArray, List.getElem?_cons_succ, List.getElem?_cons_zero]; exact rfl) (by kernel_rfl) (by kernel_rfl) (by kernel_rfl) (fun _ _ _ h => h) (Or.inl ⟨by kernel_rfl, ?hy1⟩) (by assumption) ?_
      case hy1 => (intro w hSw; (try dsimp only at hSw); go_simp <;> (try with_reducible rfl))
      try simp only [Act.put, List.setIfInBounds_toArray, List.set_cons_zero, List.set_cons_succ]
      refine wpAnyH_ready (rs := [2]) (by kernel_rfl) (by simp) ?_
      refine AllReadyH.cons rfl (fun K hK => ?_) AllReadyH.nil
      go_simp
      go_at_call 40
      (with_reducible refine (HHS.out _).mono ?_)
      rintro e w3 ⟨rfl, hb3⟩
      have H3 : Hid (IwAt w w3 x B d) := HR.out.drew.below hb3
      try (go_wp2_with fail)
      refine hK.out _ _ ⟨H3.out.bx.1, H3.out.bx.2.1, HCB.out _ H3.out.be⟩ (fun hHeld => ?_)
      clear hK K
      try simp only [Act.put, List.setIfInBounds_toArray, List.set_cons_zero, List.set_cons_succ]
      clear hb3 q0 q1 q2 k0
      refine wpAnyH_take (i := 3) (v := ?v3) (by simp only [List.getElem?_toArray, List.getElem?_cons_succ, List.getElem?_cons_zero]; exact rfl) (by kernel_rfl) (by kernel_rfl) (by kernel_rfl) (fun _ _ _ h => h) (Or.inl ⟨by kernel_rfl, ?hy3⟩) (by assumption) ?_
      case hy3 => (intro w hSw; (try dsimp only at hSw); go_simp <;> (try with_reducible rfl))
      try simp only [Act.put, List.setIfInBounds_toArray, List.set_cons_zero, List.set_cons_succ]
      refine wpAnyH_take (i := 4) (v := ?v4) (by simp only [List.getElem?_toArray, List.getElem?_cons_succ, List.getElem?_cons_zero]; exact rfl) (by kernel_rfl) (by kernel_rfl) (by kernel_rfl) (fun _ _ _ h => h) (Or.inl ⟨by kernel_rfl, ?hy4⟩) (by assumption) ?_
      case hy4 => (intro w hSw; (try dsimp only at hSw); go_simp <;> (try with_reducible rfl))
      try simp only [Act.put, List.setIfInBounds_toArray, List.set_cons_zero, List.set_cons_succ]
      refine wpAnyH_take (i := 5) (v := ?v5) (by simp only [List.getElem?_toArray, List.getElem?_cons_succ, List.getElem?_cons_zero]; exact rfl) (by kernel_rfl) (by kernel_rfl) (by kernel_rfl) (fun _ _ _ h => h) (Or.inl ⟨by kernel_rfl, ?hy5⟩) (by assumption) ?_
      case hy5 => (intro w hSw; (try dsimp only at hSw); go_simp <;> (try with_reducible rfl))
      try simp only [Act.put, List.setIfInBounds_toArray, List.set_cons_zero, List.set_cons_succ]
      refine wpAnyH_take (i := 6) (v := ?v6) (by simp only [List.getElem?_toArray, List.getElem?_cons_succ, List.getElem?_cons_zero]; exact rfl) (by kernel_rfl) (by kernel_rfl) (by kernel_rfl) (fun _ _ _ h => h) (Or.inl ⟨by kernel_rfl, ?hy6⟩) (by assumption) ?_
      case hy6 => (intro w hSw; (try dsimp only at hSw); go_simp <;> (try with_reducible rfl))
      try simp only [Act.put, List.setIfInBounds_toArray, List.set_cons_zero, List.set_cons_succ]
      refine wpAnyH_take (i := 7) (v := ?v7) (by simp only [List.getElem?_toArray, List.getElem?_cons_succ, List.getElem?_cons_zero]; exact rfl) (by kernel_rfl) (by kernel_rfl) (by kernel_rfl) (fun _ _ _ h => h) (Or.inl ⟨by kernel_rfl, ?hy7⟩) (by assumption) ?_
      case hy7 => (intro w hSw; (try dsimp only at hSw); go_simp <;> (try with_reducible rfl))
      try simp only [Act.put, List.setIfInBounds_toArray, List.set_cons_zero, List.set_cons_succ]
      refine wpAnyH_take (i := 8) (v := ?v8) (by simp only [List.getElem?_toArray, List.getElem?_cons_succ, List.getElem?_cons_zero]; exact rfl) (by kernel_rfl) (by kernel_rfl) (by kernel_rfl) (fun _ _ _ h => h) (Or.inl ⟨by kernel_rfl, ?hy8⟩) (by assumption) ?_
      case hy8 => (intro w hSw; (try dsimp only at hSw); go_simp <;> (try with_reducible rfl))
      try simp only [Act.put, List.setIfInBounds_toArray, List.set_cons_zero, List.set_cons_succ]
      refine wpAnyH_ready (rs := [9]) (by kernel_rfl) (by simp) ?_
      refine AllReadyH.cons rfl (fun K hK => ?_) AllReadyH.nil
      go_simp
      go_at_call 41
      (with_reducible refine (HCT.out _ H3.out.be).mono ?_)
      rintro e w4 ⟨rfl, rfl⟩
      try (go_wp2_with fail)
      refine hK.out _ _ ⟨H3.out.bx.1, H3.out.bx.2.1, HCB.out _ H3.out.be⟩ (fun hHeld => ?_)
      clear hK K
      try simp only [Act.put, List.setIfInBounds_toArray, List.set_cons_zero, List.set_cons_succ]
      refine wpAnyH_take (i := 10) (v := ?v10) (by simp only [List.getElem?_toArray, List.getElem?_cons_succ, List.getElem?_cons_zero]; exact rfl) (by kernel_rfl) (by kernel_rfl) (by kernel_rfl) (fun _ _ _ h => h) (Or.inl ⟨by kernel_rfl, ?hy10⟩) (by assumption) ?_
      case hy10 => (intro w hSw; (try dsimp only at hSw); go_simp <;> (try with_reducible rfl))
      try simp only [Act.put, List.setIfInBounds_toArray, List.set_cons_zero, List.set_cons_succ]
      refine wpAnyH_take (i := 11) (v := ?v11) (by simp only [List.getElem?_toArray, List.getElem?_cons_succ, List.getElem?_cons_zero]; exact rfl) (by kernel_rfl) (by kernel_rfl) (by kernel_rfl) (fun _ _ _ h => h) (Or.inl ⟨by kernel_rfl, ?hy11⟩) (by assumption) ?_
      case hy11 => (intro w hSw; (try dsimp only at hSw); go_simp <;> (try with_reducible rfl))
      try simp only [Act.put, List.setIfInBounds_toArray, List.set_cons_zero, List.set_cons_succ]
      refine wpAnyH_take (i := 12) (v := ?v12) (by simp only [List.getElem?_toArray, List.getElem?_cons_succ, List.getElem?_cons_zero]; exact rfl) (by kernel_rfl) (by kernel_rfl) (by kernel_rfl) (fun _ _ _ h => h) (Or.inl ⟨by kernel_rfl, ?hy12⟩) (by assumption) ?_
      case hy12 => (intro w hSw; (try dsimp only at hSw); go_simp <;> (try with_reducible rfl))
      try simp only [Act.put, List.setIfInBounds_toArray, List.set_cons_zero, List.set_cons_succ]
      refine wpAnyH_take (i := 13) (v := .bool true) (by simp only [List.getElem?_toArray, List.getElem?_cons_succ, List.getElem?_cons_zero]; exact rfl) (by kernel_rfl) (by kernel_rfl) (by kernel_rfl) (fun _ _ _ h => h) (Or.inl ⟨by kernel_rfl, ?hy13⟩) (by assumption) ?_
      case hy13 => (intro w hSw; (try dsimp only at hSw); go_simp)
      try simp only [Act.put, List.setIfInBounds_toArray, List.set_cons_zero, List.set_cons_succ]
      refine wpAnyH_take (i := 14) (v := .bool true) (by simp only [List.getElem?_toArray, List.getElem?_cons_succ, List.getElem?_cons_zero]; exact rfl) (by kernel_rfl) (by kernel_rfl) (by kernel_rfl) (fun _ _ _ h => h) (Or.inl ⟨by kernel_rfl, ?hy14⟩) (by assumption) ?_
      case hy14 => (intro w hSw; (try dsimp only at hSw); go_simp)
      try simp only [Act.put, List.setIfInBounds_toArray, List.set_cons_zero, List.set_cons_succ]
      refine wpAnyH_take (i := 15) (v := ?v15) (by simp only [List.getElem?_toArray, List.getElem?_cons_succ, List.getElem?_cons_zero]; exact rfl) (by kernel_rfl) (by kernel_rfl) (by kernel_rfl) (fun _ _ _ h => h) (Or.inl ⟨by kernel_rfl, ?hy15⟩) (by assumption) ?_
      case hy15 => (intro w hSw; (try dsimp only at hSw); go_simp <;> (try with_reducible rfl))
      try simp only [Act.put, List.setIfInBounds_toArray, List.set_cons_zero, List.set_cons_succ]
      refine wpAnyH_take (i := 16) (v := ?v16) (by simp only [List.getElem?_toArray, List.getElem?_cons_succ, List.getElem?_cons_zero]; exact rfl) (by kernel_rfl) (by kernel_rfl) (by kernel_rfl) (fun _ _ _ h => h) (Or.inl ⟨by kernel_rfl, ?hy16⟩) (by assumption) ?_
      case hy16 => (intro w hSw; (try dsimp only at hSw); go_simp <;> (try with_reducible rfl))
      try simp only [Act.put, List.setIfInBounds_toArray, List.set_cons_zero, List.set_cons_succ]
      refine wpAnyH_take (i := 17) (v := ?v17) (by simp only [List.getElem?_toArray, List.getElem?_cons_succ, List.getElem?_cons_zero]; exact rfl) (by kernel_rfl) (by kernel_rfl) (by kernel_rfl) (fun _ _ _ h => h) (Or.inl ⟨by kernel_rfl, ?hy17⟩) (by assumption) ?_
      case hy17 => (intro w hSw; (try dsimp only at hSw); go_simp <;> (try with_reducible rfl))
      try simp only [Act.put, List.setIfInBounds_toArray, List.set_cons_zero, List.set_cons_succ]
      refine wpAnyH_take (i := 18) (v := ?v18) (by simp only [List.getElem?_toArray, List.getElem?_cons_succ, List.getElem?_cons_zero]; exact rfl) (by kernel_rfl) (by kernel_rfl) (by kernel_rfl) (fun _ _ _ h => h) (Or.inl ⟨by kernel_rfl, ?hy18⟩) (by assumption) ?_
      case hy18 => (intro w hSw; (try dsimp only at hSw); go_simp <;> (try with_reducible rfl))
      try simp only [Act.put, List.setIfInBounds_toArray, List.set_cons_zero, List.set_cons_succ]
      refine wpAnyH_take (i := 19) (v := ?v19) (by simp only [List.getElem?_toArray, List.getElem?_cons_succ, List.getElem?_cons_zero]; exact rfl) (by kernel_rfl) (by kernel_rfl) (by kernel_rfl) (fun _ _ _ h => h) (Or.inl ⟨by kernel_rfl, ?hy19⟩) (by assumption) ?_
      case hy19 => (intro w hSw; (try dsimp only at hSw); go_simp <;> (try with_reducible rfl))
      try simp only [Act.put, List.setIfInBounds_toArray, List.set_cons_zero, List.set_cons_succ]
      refine wpAnyH_take (i := 20) (v := ?v20) (by simp only [List.getElem?_toArray, List.getElem?_cons_succ, List.getElem?_cons_zero]; exact rfl) (by kernel_rfl) (by kernel_rfl) (by kernel_rfl) (fun _ _ _ h => h) (Or.inl ⟨by kernel_rfl, ?hy20⟩) (by assumption) ?_
      case hy20 => (intro w hSw; (try dsimp only at hSw); go_simp <;> (try with_reducible rfl))
      try simp only [Act.put, List.setIfInBounds_toArray, List.set_cons_zero, List.set_cons_succ]
      refine wpAnyH_take (i := 21) (v := ?v21) (by simp only [List.getElem?_toArray, List.getElem?_cons_succ, List.getElem?_cons_zero]; exact rfl) (by kernel_rfl) (by kernel_rfl) (by kernel_rfl) (fun _ _ _ h => h) (Or.inl ⟨by kernel_rfl, ?hy21⟩) (by assumption) ?_
      case hy21 => (intro w hSw; (try dsimp only at hSw); go_simp <;> (try with_reducible rfl))
      try simp only [Act.put, List.setIfInBounds_toArray, List.set_cons_zero, List.set_cons_succ]
      refine wpAnyH_ready (rs := [22]) (by kernel_rfl) (by simp) ?_
      refine AllReadyH.cons rfl (fun K hK => ?_) AllReadyH.nil
      go_simp
      go_at_call 39
      (with_reducible refine (HBA.out _ H3.out.be).mono ?_)
      rintro e w5 ⟨rfl, hb5⟩
      have H5 : Hid (IwAt w w5 x B d) := H3.out.below hb5
      try (go_wp2_with fail)
      refine hK.out _ _ ⟨H5.out.bx.1, H5.out.bx.2.1, HCB.out _ H5.out.be⟩ (fun hHeld => ?_)
      clear hK K
      try simp only [Act.put, List.setIfInBounds_toArray, List.set_cons_zero, List.set_cons_succ]
      clear hb5
      refine wpAnyH_take (i := 23) (v := ?v23) (by simp only [List.getElem?_toArray, List.getElem?_cons_succ, List.getElem?_cons_zero]; exact rfl) (by kernel_rfl) (by kernel_rfl) (by kernel_rfl) (fun _ _ _ h => h) (Or.inl ⟨by kernel_rfl, ?hy23⟩) (by assumption) ?_
      case hy23 => (intro w hSw; (try dsimp only at hSw); go_simp <;> (try with_reducible rfl))
      try simp only [Act.put, List.setIfInBounds_toArray, List.set_cons_zero, List.set_cons_succ]
      refine wpAnyH_take (i := 24) (v := ?v24) (by simp only [List.getElem?_toArray, List.getElem?_cons_succ, List.getElem?_cons_zero]; exact rfl) (by kernel_rfl) (by kernel_rfl) (by kernel_rfl) (fun _ _ _ h => h) (Or.inl ⟨by kernel_rfl, ?hy24⟩) (by assumption) ?_
      case hy24 => (intro w hSw; (try dsimp only at hSw); go_simp <;> (try with_reducible rfl))
      try simp only [Act.put, List.setIfInBounds_toArray, List.set_cons_zero, List.set_cons_succ]
      refine wpAnyH_take (i := 25) (v := ?v25) (by simp only [List.getElem?_toArray, List.getElem?_cons_succ, List.getElem?_cons_zero]; exact rfl) (by kernel_rfl) (by kernel_rfl) (by kernel_rfl) (fun _ _ _ h => h) (Or.inl ⟨by kernel_rfl, ?hy25⟩) (by assumption) ?_
      case hy25 => (intro w hSw; (try dsimp only at hSw); go_simp <;> (try with_reducible rfl))
      try simp only [Act.put, List.setIfInBounds_toArray, List.set_cons_zero, List.set_cons_succ]
      refine wpAnyH_done (by kernel_rfl) ?_ _
      refine NoPanic.normal ?_
      go_wp2
      go_roundw
      case rel => exact ⟨j + 1, by omega, by go_num, H5.out⟩
      case measure => simp [intOf]; omega
end Go.Proofs.YtbipjmaeclgldaaDoor
