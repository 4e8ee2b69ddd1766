/- Tours and plans made from a code. -/
import Derived.Test.YtofpaekokmkhgaaGreatDoorDtd
import Derived.Test.YtofpaekokmkhgaaGreatDoorMbj
import Derived.Test.YtofpaekokmkhgaaGreatDoorMac
import Derived.Test.YtofpaekokmkhgaaGreatDoorPrs
import Derived.Test.YtofpaekokmkhgaaGreatDoorMav
namespace Go.Proofs.YtofpaekokmkhgaaGreatDoor
open Go.ChangeShapes Go.WideShapes Go.ChangeAt Go.RowKit

set_option maxHeartbeats 2000000 in
set_option maxRecDepth 100000 in
theorem makeTour_any (v : Value) (n : Nat) (w : World) (hv : InB w v n) (hn : n ≤ 1048576) :
    Calls Tryz.prog 4 #[v, .int .i64 0, .int .i64 6] w fun e w' => ∃ (m : Nat) (A : Option Addr) (c : Nat) (xs : List Int), e = .returned (.agg #[.int .i64 (m : Int), .slice A m c]) ∧ xs.length = m ∧ tourB ⟨(m : Int), xs⟩ = true ∧ InI w' (.slice A m c) xs ∧ Below w.heap.size w w' := by
  have HV := Lib.hid hv
  have b0 : Below w.heap.size w (w.alloc (.cells #[.int .i64 0, .slice none 0 0] 25)) := (Below.refl _ w).alloc (Nat.le_refl _) _
  have H0 : Hid (Bx (w.alloc (.cells #[.int .i64 0, .slice none 0 0] 25)) w.heap.size (.int .i64 0) (.slice none 0 0) ∧ InB (w.alloc (.cells #[.int .i64 0, .slice none 0 0] 25)) v n ∧ Below w.heap.size w (w.alloc (.cells #[.int .i64 0, .slice none 0 0] 25)) ∧ (w.alloc (.cells #[.int .i64 0, .slice none 0 0] 25)).heap.size = w.heap.size + 1 ∧
      (w.alloc (.cells #[.int .i64 0, .slice none 0 0] 25)).frozen? ⟨w.heap.size, 0, none⟩ = false ∧ (w.alloc (.cells #[.int .i64 0, .slice none 0 0] 25)).frozen? ⟨w.heap.size, 1, none⟩ = false) :=
    ⟨⟨by simp, by simp, by simp⟩, hv.below b0, b0, by simp, by rw [frozen?_alloc_cells]; simp [World.frozen?], by rw [frozen?_alloc_cells]; simp [World.frozen?]⟩
  clear hv b0
  go_enter Tryz.func4, Tryz.ntmps4
  go_wp2_with fail
  refine (l32New_any v n 0 _ H0.out.2.1 hn (by omega)).mono ?_
  rintro e w1 ⟨rfl, hc, hb⟩
  have hsz := H0.out.2.2.2.1
  have H1 : Hid (Bx w1 w.heap.size (.int .i64 0) (.slice none 0 0) ∧ Cur w1 (w.heap.size + 1) v n ∧ Below w.heap.size w w1 ∧ w1.frozen? ⟨w.heap.size, 0, none⟩ = false ∧ w1.frozen? ⟨w.heap.size, 1, none⟩ = false ∧ w.heap.size + 1 < w1.heap.size) := by
    rw [hsz] at hc hb
    exact ⟨H0.out.1.below (by rw [hsz]; exact hb), hc, H0.out.2.2.1.trans (hb.mono (by omega)), (hb.frozen (p := ⟨w.heap.size, 0, none⟩) (Nat.lt_succ_self _)).trans H0.out.2.2.2.2.1, (hb.frozen (p := ⟨w.heap.size, 1, none⟩) (Nat.lt_succ_self _)).trans H0.out.2.2.2.2.2, hc.lt⟩
  rw [hsz]
  clear hc hb hsz H0
  go_wp2_with fail
  refine (l05Draw_any (w.heap.size + 1) v n 6 w1 H1.out.2.1 hn (by omega) (by omega)).mono ?_
  rintro e w2 ⟨m, A, c, xs, hl, rfl, hf, ht, hc, hk⟩
  have H2 : Hid (Bx w2 w.heap.size (.int .i64 0) (.slice none 0 0) ∧ Fr w2 w1.heap.size w2.heap.size (.slice A m c) xs ∧ Below w.heap.size w w2 ∧ w2.frozen? ⟨w.heap.size, 0, none⟩ = false ∧ w2.frozen? ⟨w.heap.size, 1, none⟩ = false) :=
    ⟨H1.out.1.keep hk (.inl (Nat.lt_succ_self _)), hf, H1.out.2.2.1.trans (hk.below (Nat.le_succ _) (Nat.le_of_lt H1.out.1.2.2)), (hk.frozen (p := ⟨w.heap.size, 0, none⟩) H1.out.1.2.2 (.inl (Nat.lt_succ_self _))).trans H1.out.2.2.2.1, (hk.frozen (p := ⟨w.heap.size, 1, none⟩) H1.out.1.2.2 (.inl (Nat.lt_succ_self _))).trans H1.out.2.2.2.2.1⟩
  have HT : Hid (xs.length = m ∧ tourB ⟨(m : Int), xs⟩ = true ∧ w.heap.size + 1 ≤ w1.heap.size) := ⟨hl, ht, Nat.le_of_lt H1.out.2.2.2.2.2⟩
  clear hl hf ht hc hk H1
  obtain ⟨⟨q0, q1, -⟩, -, -, f0, f1⟩ := id H2.out
  go_wp2
  have KP : Keep w.heap.size (w.heap.size + 1) w2 ((w2.setCell ⟨w.heap.size, 0, none⟩ (.int .i64 (m : Int))).setCell ⟨w.heap.size, 1, none⟩ (.slice A m c)) :=
    ((Keep.refl _ _ _).setCell (p := ⟨w.heap.size, 0, none⟩) (Nat.le_refl _) (Nat.lt_succ_self _) _).setCell (p := ⟨w.heap.size, 1, none⟩) (Nat.le_refl _) (Nat.lt_succ_self _) _
  refine bodyPost_ret (v := .agg #[.int .i64 (m : Int), .slice A m c]) (by simp [results, Tryz.results4, go_sem, q0, q1]) rfl ⟨m, A, c, xs, rfl, HT.out.1, HT.out.2.1, (H2.out.2.1.keep KP (.inr HT.out.2.2)).in_, H2.out.2.2.1.trans (KP.below (Nat.le_refl _) H2.out.2.2.1.size)⟩

set_option maxHeartbeats 2000000 in
theorem makePlan_any (v : Value) (n m : Nat) (w : World) (hv : InB w v n) (hn : n ≤ 1048576) (hm : m ≤ 1048576) :
    Calls Tryz.prog 5 #[v, .int .i64 (m : Int)] w fun e w' => ∃ (N : Nat) (vp : Value) (P : List (List Int)), e = .returned (.tuple #[.int .i64 (N : Int), vp]) ∧ planB (N : Int) P = true ∧ InS w' vp P ∧ Below w.heap.size w w' := by
  have HV := Lib.hid hv
  clear hv
  go_enter Tryz.func5, Tryz.ntmps5
  go_wp2_with (first
    | (go_at_call 23; refine (l32New_any v n m w HV.out hn hm).mono ?_; rintro e w1 ⟨rfl, hc, hb⟩; have HC : Hid (Cur w1 w.heap.size v n ∧ Below w.heap.size w w1) := ⟨hc, hb⟩; clear hc hb)
    | (go_at_call 24; refine (l16Draw_any w.heap.size v n _ HC.out.1 hn).mono ?_; rintro e w2 ⟨N, vp, P, rfl, hpl, h1, hc2, hk2⟩; have H2 : Hid (planB (N : Int) P = true ∧ InS w2 vp P ∧ Below w.heap.size w w2) := ⟨hpl, h1, HC.out.2.trans (hk2.below (Nat.le_refl _) (Nat.le_of_lt HC.out.1.lt))⟩; clear hpl h1 hc2 hk2))
  go_ret2
  exact ⟨_, _, P, rfl, H2.out⟩
end Go.Proofs.YtofpaekokmkhgaaGreatDoor
namespace Go.Proofs.YtofpaekokmkhgaaGreatDoor
open Go.ChangeShapes Go.WideShapes Go.ChangeAt Go.RowKit

/-- The loop over the players, from the least score up: j are left. -/
structure PtAt (w0 wr : World) (x : TourV) (j k : Nat) (vv : Value) (L : List Int) : Prop where
  fr : Fr wr w0.heap.size wr.heap.size vv L
  be : Below w0.heap.size w0 wr
  klt : k < 2 ^ x.wins.length
  cl : Cl x k
  len : L.length = clN x k
  vis : ∀ i y, j ≤ i → (byL x)[i]? = some (y : Int) → k.testBit y.toNat = true
  l8 : L.length + j ≤ 8
theorem PtAt.below {w0 wr w2 : World} {x : TourV} {j k : Nat} {vv : Value} {L : List Int} (h : PtAt w0 wr x j k vv L) (hb : Below wr.heap.size wr w2) : PtAt w0 w2 x j k vv L :=
  ⟨(h.fr.grow hb).wide (Nat.le_refl _) hb.size (Nat.le_refl _), h.be.trans (hb.mono h.be.size), h.klt, h.cl, h.len, h.vis, h.l8⟩
theorem PtAt.start {w0 : World} {x : TourV} (hn : x.wins.length ≤ 8) : PtAt w0 w0 x x.wins.length 0 (.slice none 0 0) [] :=
  ⟨Fr.nil _ (Nat.le_refl _), Below.refl _ _, Nat.pow_pos (by omega), cl_zero x, by rw [clN_zero]; rfl, fun i y h1 h2 => by
    have := (List.getElem?_eq_some_iff.1 h2).1
    rw [byL_len] at this; omega, by simpa using hn⟩
theorem PtAt.more {w0 wr w2 : World} {x : TourV} {j k p : Nat} {y : Int} {vv v2 : Value} {L : List Int} (hok : tourB x = true) (h : PtAt w0 wr x (j + 1) k vv L) (hp : (byL x)[j]? = some (p : Int)) (hpk : k.testBit p = false)
    (hown : w2.ownsRow w0.heap.size 3 1 v2 (L.length + 1) (ints (L ++ [y]))) (hb2 : ∀ B, B ≤ w0.heap.size → B ≤ wr.heap.size → Below B wr w2) : PtAt w0 w2 x j (k ||| reachF x p) v2 (L ++ [y]) := by
  have hpl := byL_mem.1 (List.mem_of_getElem? hp)
  obtain ⟨r1, r2, r3⟩ := reach_ok hok (show p < x.wins.length by omega)
  refine ⟨Fr.of_own (by simpa using hown), h.be.trans (hb2 _ (Nat.le_refl _) h.be.size), Nat.or_lt_two_pow h.klt r3, cl_or h.cl r1, ?_, ?_, ?_⟩
  · rw [parts_more hok (L := byL x) (fun y => byL_mem) (insF_desc _ _) h.klt h.cl hp hpk (fun i y h1 h2 => h.vis i y (by omega) h2), List.length_append, h.len]; rfl
  · intro i y h1 h2
    rw [Nat.testBit_or, Bool.or_eq_true]
    rcases Nat.eq_or_lt_of_le h1 with rfl | h1
    · rw [hp] at h2
      rw [← Option.some.inj h2, Int.toNat_natCast]; exact .inr r2
    · exact .inl (h.vis i y (by omega) h2)
  · have := h.l8
    rw [List.length_append]; simp; omega
theorem PtAt.same {w0 wr : World} {x : TourV} {j k p : Nat} {vv : Value} {L : List Int} (h : PtAt w0 wr x (j + 1) k vv L) (hp : (byL x)[j]? = some (p : Int)) (hpk : k.testBit p = true) : PtAt w0 wr x j k vv L := by
  refine ⟨h.fr, h.be, h.klt, h.cl, h.len, ?_, by have := h.l8; omega⟩
  intro i y h1 h2
  rcases Nat.eq_or_lt_of_le h1 with rfl | h1
  · rw [hp] at h2
    rw [← Option.some.inj h2, Int.toNat_natCast]; exact hpk
  · exact h.vis i y (by omega) h2
theorem PtAt.all {w0 wr : World} {x : TourV} {k : Nat} {vv : Value} {L : List Int} (h : PtAt w0 wr x 0 k vv L) : L.length = partN x := by
  have e : k = 2 ^ x.wins.length - 1 := all_eq h.klt (fun i hi => by
    obtain ⟨q, hq, e⟩ := List.mem_iff_getElem.1 ((byL_mem (x := x) (y := (i : Int))).2 ⟨by omega, by omega⟩)
    have := h.vis q (i : Int) (Nat.zero_le _) (by rw [← e]; exact List.getElem?_eq_getElem hq)
    rwa [Int.toNat_natCast] at this)
  rw [h.len, e]; rfl
set_option maxHeartbeats 4000000 in
set_option maxRecDepth 100000 in
theorem implParts_any (v : Value) (x : TourV) (w : World) (hs : InT w v x) (hok : tourB x = true) :
    Calls Tryz.prog 35 #[v] w fun e w' => ∃ v' L, e = .returned v' ∧ Fr w' w.heap.size w'.heap.size v' L ∧ L.length = partN x ∧ Below w.heap.size w w' := by
  have HIT := Lib.hid hs
  have HOK := Lib.hid hok
  obtain ⟨u, rfl, A, c, rfl, hc, hm, hsl⟩ := hs
  obtain ⟨t1, t2, t3, _, _⟩ := tourB_t hok
  have hn8 : x.wins.length ≤ 8 := by omega
  have hn1 : 1 ≤ x.wins.length := by omega
  have HBY : Hid (∀ W, Below w.heap.size w W → Calls Tryz.prog 64 #[.agg #[.int .i64 x.size, .slice A x.wins.length c]] W fun e w' => ∃ v', e = .returned v' ∧ Fr w' W.heap.size w'.heap.size v' (byL x) ∧ Below W.heap.size W w') := fun W hW => byScore_any _ x W (HIT.out.below hW) HOK.out
  have HRE : Hid (∀ W (a : Nat), Below w.heap.size w W → a < x.wins.length → Calls Tryz.prog 65 #[.agg #[.int .i64 x.size, .slice A x.wins.length c], .int .i64 (a : Int)] W fun e w' => e = .returned (.int .i64 (reachF x a : Nat)) ∧ Below W.heap.size W w') := fun W a hW ha => implReach_any _ x a W (HIT.out.below hW) HOK.out ha
  have h256 : (2 : Nat) ^ x.wins.length ≤ 256 := Nat.pow_le_pow_right (by omega) hn8
  have HN : Hid ((2 : Nat) ^ x.wins.length ≤ 256) := h256
  have HBL := Lib.hid (byL_len x)
  have HBX : Hid (Bx (w.alloc (.cells #[.int .i64 x.size, .slice A x.wins.length c] 25)) w.heap.size (.int .i64 x.size) (.slice A x.wins.length c) ∧ Below w.heap.size w (w.alloc (.cells #[.int .i64 x.size, .slice A x.wins.length c] 25)) ∧ w.heap.size < (w.alloc (.cells #[.int .i64 x.size, .slice A x.wins.length c] 25)).heap.size) := ⟨⟨by simp, by simp, by simp⟩, (Below.refl _ w).alloc (Nat.le_refl _) _, by simp⟩
  clear hsl h256 hok t1 t2 t3
  go_enter Tryz.func35, Tryz.ntmps35
  go_wp2_with (go_at_call 64; refine (HBY.out _ HBX.out.2.1).mono ?_; rintro e w1 ⟨v1, rfl, hf, hb⟩; obtain ⟨gi, ci, rfl, hi1, hi2⟩ := hf.someC (by rw [HBL.out]; omega); rw [HBL.out]; have H1 : Hid (Bx w1 w.heap.size (.int .i64 x.size) (.slice A x.wins.length c) ∧ Below w.heap.size w w1 ∧ w.heap.size < w1.heap.size ∧ SlI w1 (some ⟨gi, 0, none⟩) (byL x) ∧ gi < w1.heap.size) := (show _ ∧ _ from ⟨HBX.out.1.below hb, HBX.out.2.1.trans (hb.mono (Nat.le_of_lt HBX.out.2.2)), Nat.lt_of_lt_of_le HBX.out.2.2 hb.size, hf.sl, hi2⟩); clear hf hb hi1 hi2 HBX)
  go_loopw [3, 4, 6] (fun o k i wr => ∃ (j K : Nat) (vv : Value) (L : List Int), j ≤ x.wins.length ∧ i = .int .i64 ((j : Int) - 1) ∧ k = .int .i64 (K : Int) ∧ vv = o ∧ Hid (PtAt w1 wr x j K vv L)) (fun _ _ i _ => ((intOf i) + 1).toNat)
  case atStart => exact ⟨x.wins.length, 0, _, [], Nat.le_refl _, rfl, rfl, rfl, PtAt.start hn8⟩
  case round =>
    obtain ⟨j, K, vv, L, hj, rfl, rfl, rfl, HR⟩ := hrel
    cases j with
    | zero =>
      have HAL : Hid (L.length = partN x) := HR.out.all
      have hpos : 0 < L.length := by rw [HAL.out]; exact partN_pos HOK.out
      obtain ⟨go, co, rfl, hg1, hg2⟩ := HR.out.fr.someC hpos
      have hl8 : L.length ≤ 8 := by have := HR.out.l8; omega
      have HRV := Lib.hid (reverseI_any go L.length co w1.heap.size wr.heap.size 0 co L wr rfl (by omega) HR.out.fr (Nat.zero_le _))
      clear hg1 hg2
      go_wp2_with (go_at_call 66; refine HRV.out.mono ?_; rintro e w5 ⟨rfl, hf5, kp5⟩; have H5 := Lib.hid (And.intro hf5 kp5); clear hf5 kp5)
      go_ret
      have hw1 := H1.out.2.2.1
      exact ⟨_, _, rfl, H5.out.1.wide (by omega) H5.out.2.size (Nat.le_refl _), by rw [← HAL.out]; simp, (H1.out.2.1.trans (HR.out.be.mono (by omega))).trans (H5.out.2.below (by omega) (by have := HR.out.be.size; omega))⟩
    | succ j =>
      obtain ⟨bg, og, y, eg, ey, cy, -⟩ := H1.out.2.2.2.1.at_ (k := j) (by rw [HBL.out]; omega)
      injection eg with eg; injection eg with e1 e2; subst e1; subst e2
      obtain ⟨y0, y1⟩ := byL_mem.1 (List.mem_of_getElem? ey)
      obtain ⟨p, rfl⟩ := Int.eq_ofNat_of_zero_le y0
      have HEY := Lib.hid ey
      have hpn : p < x.wins.length := by omega
      rw [Nat.zero_add] at cy
      have HCL : Hid (∀ W, Below w1.heap.size w1 W → W.cell? ⟨w.heap.size, 0, none⟩ = some (.int .i64 x.size) ∧ W.cell? ⟨w.heap.size, 1, none⟩ = some (.slice A x.wins.length c) ∧ W.cell? ⟨gi, j, none⟩ = some (.int .i64 (p : Int))) := by
        intro W hW
        obtain ⟨r0, r1, _⟩ := H1.out.1.below hW
        exact ⟨r0, r1, (hW.cell (p := ⟨gi, j, none⟩) H1.out.2.2.2.2).trans cy⟩
      have HRP : Hid (∀ W, Below w.heap.size w W → Calls Tryz.prog 65 #[.agg #[.int .i64 x.size, .slice A x.wins.length c], .int .i64 (p : Int)] W fun e w' => e = .returned (.int .i64 (reachF x p : Nat)) ∧ Below W.heap.size W w') := fun W hW => HRE.out W p hW hpn
      have HR256 : Hid (reachF x p < 256) := Nat.lt_of_lt_of_le (reach_ok HOK.out hpn).2.2 HN.out
      have hK256 : K < 256 := Nat.lt_of_lt_of_le HR.out.klt HN.out
      have HW1 : Hid (Below w1.heap.size w1 wr.drew) := below_drewL HR.out.be
      have HW0 : Hid (Below w.heap.size w wr.drew) := H1.out.2.1.trans (HW1.out.mono (Nat.le_of_lt H1.out.2.2.1))
      have HRD : Hid (PtAt w1 wr.drew x (j + 1) K vv L) := HR.out.below (below_drewL (Below.refl _ _))
      obtain ⟨q0, q1, qy⟩ := HCL.out wr HR.out.be
      have j0 : (0 : Int) ≤ (j : Int) := by omega
      have j1 : (j : Int) < x.wins.length := by omega
      have je : ((j + 1 : Nat) : Int) - 1 = (j : Int) := by omega
      rw [je]
      have hbb := bits_low (k := p) hK256
      have hp64 : (p : Int) < 64 := by omega
      clear ey cy je
      cases hbit : K.testBit p
      · rw [hbit] at hbb
        simp only [Bool.false_eq_true, if_false] at hbb
        have hor := or_small hK256 HR256.out
        have han := andNot_small HR256.out hK256
        have HPM : Hid (∀ (y : Int) (w2 w3 : World) (v3 : Value), PtAt w1 w2 x (j + 1) K vv L → w3.ownsRow w1.heap.size 3 1 v3 (L.length + 1) (ints (L ++ [y])) → (∀ B, B ≤ w1.heap.size → B ≤ w2.heap.size → Below B w2 w3) → PtAt w1 w3 x j (K ||| reachF x p) v3 (L ++ [y])) := fun y w2 w3 v3 h2 ho hb => h2.more HOK.out HEY.out hbit ho hb
        have hl8 : L.length ≤ 1048576 := by have := HR.out.l8; omega
        clear hbit
        generalize reachF x p = S at *
        generalize hKS : K ||| S = KS at *
        obtain ⟨Y, hY⟩ : ∃ Y : Nat, S &&& (255 ^^^ K) = Y := ⟨_, rfl⟩
        rw [hY] at han
        clear hKS hY
        go_wp2_with fail
        go_region_held3 (fun W => W.cell? ⟨w.heap.size, 0, none⟩ = some (.int .i64 x.size) ∧ W.cell? ⟨w.heap.size, 1, none⟩ = some (.slice A x.wins.length c) ∧ W.cell? ⟨gi, j, none⟩ = some (.int .i64 (p : Int))) (first | exact ⟨q0, q1, qy⟩ | exact HCL.out _ H4.out.be) (first | (go_at_call 65; refine (HRP.out _ HW0.out).mono ?_; rintro e w4 ⟨rfl, hb⟩; have H4 : Hid (PtAt w1 w4 x (j + 1) K vv L) := HRD.out.below hb; clear hb))
        clear q0 q1 qy
        obtain ⟨q0, q1, qy⟩ := HCL.out w4 H4.out.be
        go_wp2_with (at_builtin; refine app1 rfl _ _ rfl w4 w1.heap.size vv L.length L rfl H4.out.fr.own (Y : Int) rfl hl8 H4.out.be.size ?_; intro v5 w5 hown hb5 _ _; have H5 := Lib.hid (HPM.out _ _ _ _ H4.out hown hb5); clear hown hb5)
        exact ⟨⟨j, KS, _, _, by omega, rfl, rfl, rfl, H5.out⟩, by simp [intOf]⟩
      · rw [hbit] at hbb
        simp only [if_true] at hbb
        have HPS : Hid (∀ w2, PtAt w1 w2 x (j + 1) K vv L → PtAt w1 w2 x j K vv L) := fun w2 h2 => h2.same HEY.out hbit
        clear hbit
        generalize reachF x p = S at *
        go_wp2_with fail
        go_region_held3 (fun W => W.cell? ⟨w.heap.size, 0, none⟩ = some (.int .i64 x.size) ∧ W.cell? ⟨w.heap.size, 1, none⟩ = some (.slice A x.wins.length c) ∧ W.cell? ⟨gi, j, none⟩ = some (.int .i64 (p : Int))) (first | exact ⟨q0, q1, qy⟩ | exact HCL.out _ H4.out.be) (first | (go_at_call 65; refine (HRP.out _ HW0.out).mono ?_; rintro e w4 ⟨rfl, hb⟩; have H4 : Hid (PtAt w1 w4 x (j + 1) K vv L) := HRD.out.below hb; clear hb))
        clear q0 q1 qy
        obtain ⟨q0, q1, qy⟩ := HCL.out w4 H4.out.be
        go_wp2
        exact ⟨⟨j, K, _, _, by omega, rfl, rfl, rfl, HPS.out _ H4.out⟩, by simp [intOf]⟩

set_option maxHeartbeats 2000000 in
set_option maxRecDepth 100000 in
theorem implStrongParts_any (v : Value) (x : TourV) (w : World) (hs : InT w v x) (hok : tourB x = true) :
    Calls Tryz.prog 14 #[v] w fun e w' => ∃ v' L, e = .returned v' ∧ Fr w' w.heap.size w'.heap.size v' L ∧ L.length = partN x ∧ Below w.heap.size w w' := by
  have HIT := Lib.hid hs
  have HOK := Lib.hid hok
  obtain ⟨u, rfl, A, c, rfl, hc, hm, hsl⟩ := hs
  have HTO : Hid (∀ W, Below w.heap.size w W → Calls Tryz.prog 30 #[.agg #[.int .i64 x.size, .slice A x.wins.length c]] W fun e w' => e = .returned (.bool true) ∧ Below W.heap.size W w') := fun W hW => by
    have h := implTourOk_any _ x W (HIT.out.below hW)
    rwa [HOK.out] at h
  have HPA : Hid (∀ W, Below w.heap.size w W → Calls Tryz.prog 35 #[.agg #[.int .i64 x.size, .slice A x.wins.length c]] W fun e w' => ∃ v' L, e = .returned v' ∧ Fr w' W.heap.size w'.heap.size v' L ∧ L.length = partN x ∧ Below W.heap.size W w') := fun W hW => implParts_any _ x W (HIT.out.below hW) HOK.out
  have HBX : Hid (Bx (w.alloc (.cells #[.int .i64 x.size, .slice A x.wins.length c] 25)) w.heap.size (.int .i64 x.size) (.slice A x.wins.length c) ∧ Below w.heap.size w (w.alloc (.cells #[.int .i64 x.size, .slice A x.wins.length c] 25)) ∧ w.heap.size < (w.alloc (.cells #[.int .i64 x.size, .slice A x.wins.length c] 25)).heap.size) := ⟨⟨by simp, by simp, by simp⟩, (Below.refl _ w).alloc (Nat.le_refl _) _, by simp⟩
  clear hsl hok
  go_enter Tryz.func14, Tryz.ntmps14
  go_wp2_with (first
    | (go_at_call 30; refine (HTO.out _ HBX.out.2.1).mono ?_; rintro e w0 ⟨rfl, hb⟩; have H0 : Hid (Bx w0 w.heap.size (.int .i64 x.size) (.slice A x.wins.length c) ∧ Below w.heap.size w w0 ∧ w.heap.size < w0.heap.size) := (show _ ∧ _ from ⟨HBX.out.1.below hb, HBX.out.2.1.trans (hb.mono (Nat.le_of_lt HBX.out.2.2)), Nat.lt_of_lt_of_le HBX.out.2.2 hb.size⟩); clear hb HBX; obtain ⟨q0, q1, q2⟩ := id H0.out.1)
    | (go_at_call 35; refine (HPA.out _ H0.out.2.1).mono ?_; rintro e w1 ⟨v1, L, rfl, hf, hl, hb⟩; have H1 : Hid (Fr w1 w.heap.size w1.heap.size v1 L ∧ L.length = partN x ∧ Below w.heap.size w w1) := (show _ ∧ _ from ⟨hf.wide (Nat.le_of_lt H0.out.2.2) (Nat.le_refl _) (Nat.le_refl _), hl, H0.out.2.1.trans (hb.mono (Nat.le_of_lt H0.out.2.2))⟩); clear hf hl hb))
  go_ret
  exact ⟨_, _, rfl, H1.out.1, H1.out.2.1, H1.out.2.2⟩
end Go.Proofs.YtofpaekokmkhgaaGreatDoor
