/- The fewest challenges: the reference's walk. -/
import Derived.Test.YtbipjmaeclgldaaDoorFwu
import Derived.Test.YtbipjmaeclgldaaDoorNum
import Derived.Test.YtbipjmaeclgldaaDoorTools
import Derived.Deep.RegionHeld3
import Derived.BigQuiet
import Derived.Deep.QuietTactic
namespace Go.Proofs.YtbipjmaeclgldaaDoor
open Go.ChangeShapes Go.WideShapes Go.ChangeAt Go.RowKit

theorem numL_snoc {xs : List Int} {j : Nat} {x : Int} (h : xs[j]? = some x) : numL (xs.take (j + 1)) = 8 * numL (xs.take j) + x := by
  rw [take_snoc h, numL, List.foldl_append]; rfl
theorem numL_take {xs : List Int} (hx : ∀ x ∈ xs, 0 ≤ x ∧ x < 8) (h5 : xs.length ≤ 5) (j : Nat) : 0 ≤ numL (xs.take j) ∧ numL (xs.take j) < 32768 := by
  obtain ⟨h1, h2⟩ := numF_range (xs.take j) 0 (by omega) (fun x h => hx x (List.mem_of_mem_take h))
  refine ⟨h1, Int.lt_of_lt_of_le h2 ?_⟩
  have : (8 : Int) ^ (xs.take j).length ≤ 8 ^ 5 := by
    have : (8 : Nat) ^ (xs.take j).length ≤ 8 ^ 5 := Nat.pow_le_pow_right (by omega) (by rw [List.length_take]; omega)
    exact_mod_cast this
  omega
set_option maxHeartbeats 1000000 in
theorem l25Index_any (A : Option Addr) (c : Nat) (xs : List Int) (w : World) (hs : SlI w A xs) (h5 : xs.length ≤ 5) (hx : ∀ x ∈ xs, 0 ≤ x ∧ x < 8) :
    Calls Tryd.prog 24 #[.slice A xs.length c] w fun e w' => e = .returned (.int .i64 (numL xs)) ∧ w = w' := by
  have HS := Lib.hid hs
  have HX := Lib.hid (And.intro hx (numL_take hx h5))
  clear hs hx
  go_enter Tryd.func24, Tryd.ntmps24
  go_wp2
  go_loop [3, 8] (fun s i => ∃ j : Nat, j ≤ xs.length ∧ i = .int .i64 j ∧ s = .int .i64 (numL (xs.take j))) (fun _ i => xs.length - (intOf i).toNat)
  case atStart => exact ⟨0, Nat.zero_le _, rfl, rfl⟩
  case round =>
    obtain ⟨j, hj, rfl, rfl⟩ := hrel
    obtain ⟨r0, r1⟩ := HX.out.2 j
    by_cases hlt : j < xs.length
    · obtain ⟨b1, o1, x, rfl, hx1, hx2, _⟩ := HS.out.at_ (k := j) hlt
      have HSN := Lib.hid (numL_snoc hx1)
      obtain ⟨x0, x1⟩ := HX.out.1 x (List.mem_of_getElem? hx1)
      obtain ⟨s0, s1⟩ := HX.out.2 (j + 1)
      rw [HSN.out] at s0 s1
      clear hx1
      generalize numL (xs.take j) = N at *
      go_wp2
      go_round
      case rel => exact ⟨j + 1, by omega, by go_num, by (rw [HSN.out]; try go_num)⟩
      case measure => simp [intOf]; omega
    · obtain rfl : j = xs.length := by omega
      have HT : Hid (numL (xs.take xs.length) = numL xs) := by show _ = _; rw [List.take_length]
      go_wp2
      go_ret
      first | exact ⟨rfl, rfl⟩ | exact ⟨by rw [HT.out], rfl⟩
/-- At a ladder of n players, with its number as it stands in the row of steps. -/
theorem l25IndexN {A : Option Addr} {c n k : Nat} {xs : List Int} {w : World} (hs : SlI w A xs) (hn : xs.length = n) (h5 : n ≤ 5) (hl : ladB xs = true) (hk : numL xs = (k : Int)) :
    Calls Tryd.prog 24 #[.slice A n c] w fun e w' => e = .returned (.int .i64 (k : Int)) ∧ w = w' := by
  subst hn
  have h := l25Index_any A c xs w hs h5 (lad_small hl)
  rw [hk] at h; exact h

/-- A ladder and where it lies. -/
theorem RowIn.sl {w wr : World} {gf b o n c : Nat} {x : List Int} (h : RowIn w wr gf (.slice (some ⟨b, o, none⟩) n c) x) : SlI wr (some ⟨b, o, none⟩) x := by
  obtain ⟨b', o', c', e, h1, h2, h3, h4⟩ := h
  injection e with e1 e2 e3
  injection e1 with e1
  injection e1 with e4 e5
  subst e4; subst e5
  exact .inr ⟨_, _, rfl, h4⟩
theorem RowIn.open_ {w wr : World} {gf n : Nat} {v : Value} {x : List Int} (h : RowIn w wr gf v x) (hn : x.length = n) : ∃ b o c, v = .slice (some ⟨b, o, none⟩) n c ∧ n ≤ c ∧ c ≤ 2 ^ 63 - 1 ∧ ∀ W, Below wr.heap.size wr W → ∀ k y, x[k]? = some y → W.cell? ⟨b, o + k, none⟩ = some (.int .i64 y) := by
  obtain ⟨b, o, c, rfl, h1, h2, h3, h4⟩ := h
  subst hn
  exact ⟨b, o, c, rfl, h1, h2, fun W hW k y hy => (hW.cell (p := ⟨b, o + k, none⟩) h3.1).trans (h4 k y hy)⟩
theorem l25UpN {A : Option Addr} {c n lo up : Nat} {xs : List Int} {a b : Int} {w : World} (hs : SlI w A xs) (hn : xs.length = n) (h5 : n ≤ 5) (hl : ladB xs = true) (h : up < lo) (ha : xs[lo]? = some a) (hb : xs[up]? = some b) :
    Calls Tryd.prog 25 #[.slice A n c, .int .i64 a, .int .i64 b] w fun e w' => ∃ v', e = .returned v' ∧ Fr w' w.heap.size w'.heap.size v' (riseL xs lo up) ∧ Below w.heap.size w w' := by
  subst hn
  have h := l25Up_any A c xs a b w hs (by omega)
  rw [up_rise (ladB_t hl).2.2 ‹_› ha hb] at h
  exact h
theorem specLadderN {A : Option Addr} {c n : Nat} {xs : List Int} {w : World} (hs : SlI w A xs) (hl : xs.length = n) (h : n ≤ 1048576) :
    Calls Tryd.prog 22 #[.slice A n c] w fun e w' => e = .returned (.bool (ladB xs)) ∧ Below w.heap.size w w' := by
  subst hl; exact specLadderOk_any A c xs w hs h
set_option maxHeartbeats 4000000 in
set_option maxRecDepth 100000 in
theorem specFewCh_core (A B : Option Addr) (c d n m : Nat) (a b : List Int) (r : Int) (w : World) (HL : Hid (a.length = n ∧ b.length = m)) (HIN : Hid (InI w (.slice A n c) a ∧ InI w (.slice B m d) b ∧ SlI w A a ∧ SlI w B b))
    (hc : n ≤ c) (hm : c ≤ 2 ^ 63 - 1) (hd : m ≤ d) (hm2 : d ≤ 2 ^ 63 - 1) (hn : n ≤ 1048576) (hmm : m ≤ 1048576) :
    Calls Tryd.prog 5 #[.slice A n c, .slice B m d, .int .i64 r] w fun e w' => e = .returned (.int .i64 (fewF a b r)) ∧ Below w.heap.size w w' := by
  cases h1 : ladB a
  case false =>
    have HE : Hid (fewF a b r = -1) := fewF_no (by simp [fewOk, h1])
    have k0 : Hid True := trivial
    go_enter Tryd.func5, Tryd.ntmps5
    go_wp2_with (first | (go_at_call 22; have h_ := k0.out; clear h_ k0; (with_reducible refine (specLadderN HIN.out.2.2.1 HL.out.1 hn).mono ?_); rintro e w1 ⟨rfl, hb1⟩; rw [h1]; have H1 : Hid (Below w.heap.size w w1) := hb1; clear hb1; have k1 : Hid True := trivial))
    go_ret
    exact ⟨by rw [HE.out]; rfl, H1.out⟩
  cases h2 : ladB b
  case false =>
    have HE : Hid (fewF a b r = -1) := fewF_no (by simp [fewOk, h1, h2])
    have k0 : Hid True := trivial
    go_enter Tryd.func5, Tryd.ntmps5
    go_wp2_with (first | (go_at_call 22; have h_ := k0.out; clear h_ k0; (with_reducible refine (specLadderN HIN.out.2.2.1 HL.out.1 hn).mono ?_); rintro e w1 ⟨rfl, hb1⟩; rw [h1]; have H1 : Hid (Below w.heap.size w w1) := hb1; clear hb1; have k1 : Hid True := trivial) | (go_at_call 22; have h_ := k1.out; clear h_ k1; (with_reducible refine (specLadderN (HIN.out.2.2.2.below H1.out) HL.out.2 hmm).mono ?_); rintro e w2 ⟨rfl, hb2⟩; rw [h2]; have H2 : Hid (Below w.heap.size w w2) := H1.out.trans (hb2.mono H1.out.size); clear hb2))
    go_ret
    exact ⟨by rw [HE.out]; rfl, H2.out⟩
  by_cases h3 : n = m
  case neg =>
    have x3 : ((n : Int) != (m : Int)) = true := bne_iff_ne.2 (by omega)
    have x3' : ¬ (n : Int) = (m : Int) := by omega
    have HE : Hid (fewF a b r = -1) := fewF_no (by simp [fewOk, h1, h2, HL.out.1, HL.out.2, h3])
    have k0 : Hid True := trivial
    go_enter Tryd.func5, Tryd.ntmps5
    go_wp2_with (first | (go_at_call 22; have h_ := k0.out; clear h_ k0; (with_reducible refine (specLadderN HIN.out.2.2.1 HL.out.1 hn).mono ?_); rintro e w1 ⟨rfl, hb1⟩; rw [h1]; have H1 : Hid (Below w.heap.size w w1) := hb1; clear hb1; have k1 : Hid True := trivial) | (go_at_call 22; have h_ := k1.out; clear h_ k1; (with_reducible refine (specLadderN (HIN.out.2.2.2.below H1.out) HL.out.2 hmm).mono ?_); rintro e w2 ⟨rfl, hb2⟩; rw [h2]; have H2 : Hid (Below w.heap.size w w2) := H1.out.trans (hb2.mono H1.out.size); clear hb2))
    go_ret
    exact ⟨by rw [HE.out]; rfl, H2.out⟩
  subst h3
  have x3 : ((n : Int) != (n : Int)) = false := by simp
  by_cases h4 : n ≤ 5
  case neg =>
    have i4 : (5 : Int) < (n : Int) := by omega
    have HE : Hid (fewF a b r = -1) := fewF_no (by simp [fewOk, h1, h2, HL.out.1, h4])
    have k0 : Hid True := trivial
    go_enter Tryd.func5, Tryd.ntmps5
    go_wp2_with (first | (go_at_call 22; have h_ := k0.out; clear h_ k0; (with_reducible refine (specLadderN HIN.out.2.2.1 HL.out.1 hn).mono ?_); rintro e w1 ⟨rfl, hb1⟩; rw [h1]; have H1 : Hid (Below w.heap.size w w1) := hb1; clear hb1; have k1 : Hid True := trivial) | (go_at_call 22; have h_ := k1.out; clear h_ k1; (with_reducible refine (specLadderN (HIN.out.2.2.2.below H1.out) HL.out.2 hmm).mono ?_); rintro e w2 ⟨rfl, hb2⟩; rw [h2]; have H2 : Hid (Below w.heap.size w w2) := H1.out.trans (hb2.mono H1.out.size); clear hb2))
    go_ret
    exact ⟨by rw [HE.out]; rfl, H2.out⟩
  have i4 : ¬ ((5 : Int) < (n : Int)) := by omega
  cases h5 : inB r 1 7
  case false =>
    have HE : Hid (fewF a b r = -1) := fewF_no (by simp [fewOk, h5])
    have k0 : Hid True := trivial
    go_enter Tryd.func5, Tryd.ntmps5
    go_wp2_with (first | (go_at_call 22; have h_ := k0.out; clear h_ k0; (with_reducible refine (specLadderN HIN.out.2.2.1 HL.out.1 hn).mono ?_); rintro e w1 ⟨rfl, hb1⟩; rw [h1]; have H1 : Hid (Below w.heap.size w w1) := hb1; clear hb1; have k1 : Hid True := trivial) | (go_at_call 22; have h_ := k1.out; clear h_ k1; (with_reducible refine (specLadderN (HIN.out.2.2.2.below H1.out) HL.out.2 hmm).mono ?_); rintro e w2 ⟨rfl, hb2⟩; rw [h2]; have H2 : Hid (Below w.heap.size w w2) := H1.out.trans (hb2.mono H1.out.size); clear hb2) | (go_at_call 23; (with_reducible refine (l01In_any _ 1 7 _).mono ?_); rintro e w_ ⟨rfl, rfl⟩; rw [h5]))
    go_ret
    exact ⟨by rw [HE.out]; rfl, H2.out⟩
  have HF : Hid (fewF a b r = fewB r.toNat a b) := by
    show _ = _
    unfold fewF
    rw [if_pos (fewOk_mk h1 h2 (by rw [HL.out.1, HL.out.2]) (by rw [HL.out.1]; exact h4) h5)]
  obtain ⟨R, rfl⟩ := Int.eq_ofNat_of_zero_le (show 0 ≤ r by have := inB_t.1 h5; omega)
  have hR : 1 ≤ R ∧ R ≤ 7 := by have := inB_t.1 h5; omega
  obtain ⟨hR1, hR7⟩ := hR
  rw [Int.toNat_natCast] at HF
  have hl1 := (ladB_t h1).1
  rw [HL.out.1] at hl1
  obtain ⟨hn0, -⟩ := hl1
  have HLA : Hid (ladB a = true ∧ ladB b = true) := ⟨h1, h2⟩
  obtain ⟨ka, hka⟩ := Int.eq_ofNat_of_zero_le (numL_range h1 (by rw [HL.out.1]; exact h4)).1
  obtain ⟨kb, hkb⟩ := Int.eq_ofNat_of_zero_le (numL_range h2 (by rw [HL.out.2]; omega)).1
  have hka2 : ka < 32768 := by have := (numL_range h1 (by rw [HL.out.1]; exact h4)).2; omega
  have hkb2 : kb < 32768 := by have := (numL_range h2 (by rw [HL.out.2]; omega)).2; omega
  have HK : Hid (numL a = (ka : Int) ∧ numL b = (kb : Int)) := ⟨hka, hkb⟩
  clear hka hkb
  have k0 : Hid True := trivial
  go_enter Tryd.func5, Tryd.ntmps5
  go_wp2_with (first
    | (go_at_call 22; have h_ := k0.out; clear h_ k0; (with_reducible refine (specLadderN HIN.out.2.2.1 HL.out.1 hn).mono ?_); rintro e w1 ⟨rfl, hb1⟩; rw [h1]; have H1 : Hid (Below w.heap.size w w1) := hb1; clear hb1; have k1 : Hid True := trivial)
    | (go_at_call 22; have h_ := k1.out; clear h_ k1; (with_reducible refine (specLadderN (HIN.out.2.2.2.below H1.out) HL.out.2 hmm).mono ?_); rintro e w2 ⟨rfl, hb2⟩; rw [h2]; have H2 : Hid (Below w.heap.size w w2) := H1.out.trans (hb2.mono H1.out.size); clear hb2)
    | (go_at_call 23; (with_reducible refine (l01In_any _ 1 7 _).mono ?_); rintro e w_ ⟨rfl, rfl⟩; rw [h5])
    | (at_make; have g1 := h1; have g2 := h2; clear g1 g2 h1 h2 h5 x3; refine makeI rfl _ _ rfl w2 32768 rfl rfl (by omega) ?_; intro w3 hfr hb3 hsz3; obtain ⟨⟨uu, s0⟩, s1, hst⟩ := FwR.start HIN.out.1 HL.out.1 hn0 h4 HLA.out.1 H2.out hfr hb3 hsz3; rw [HK.out.1, Int.toNat_natCast] at s0 s1 hst; have HST := Lib.hid hst; have H3 : Hid (Below w.heap.size w (w3.alloc (.cells #[.slice A n c] 22))) := (H2.out.trans (hb3.mono H2.out.size)).alloc (H2.out.trans (hb3.mono H2.out.size)).size _; have S3 := Lib.hid hsz3; clear hfr hb3 hsz3 hst)
    | (go_at_call 24; (with_reducible refine (l25IndexN (HIN.out.2.2.1.below H3.out) HL.out.1 h4 HLA.out.1 HK.out.1).mono ?_); rintro e w_ ⟨rfl, rfl⟩))
  have HG := Lib.hid (fun i => runB_good (r := R) HLA.out.1 HL.out.1 i)
  have HD := Lib.hid (fun i => runB_d R a i)
  have HS0 : Hid (FwR w ((w3.alloc (.cells #[.slice A n c] 22)).setCell ⟨w2.heap.size, ka, none⟩ (.int .i64 1)) w2.heap.size (.slice (some ⟨w3.heap.size, 0, none⟩) 1 1) (runB R a 0)) := HST.out
  clear s0 s1 uu HST
  generalize (w3.alloc (.cells #[.slice A n c] 22)).setCell ⟨w2.heap.size, ka, none⟩ (.int .i64 1) = w4 at *
  have S3' := S3.out
  rw [S3'] at HS0 ⊢
  clear S3' S3 H3
  have HGS : Hid (w2.heap.size < w2.heap.size + 1) := Nat.lt_succ_self _
  generalize w2.heap.size = gf at *
  go_loopw [8, 9] (fun lv iv wr => ∃ (i M : Nat) (A' : Option Addr) (c' : Nat), iv = .int .i64 (i : Int) ∧ lv = .slice A' M c' ∧ i ≤ 32768 ∧ Hid (FwR w wr gf (.slice A' M c') (runB R a i) ∧ (runB R a i).length = M ∧ i ≤ M)) (fun _ iv _ => 32768 - (intOf iv).toNat)
  case atStart => exact ⟨0, 1, _, _, rfl, rfl, by omega, HS0.out, rfl, by omega⟩
  case round =>
    obtain ⟨i, M, A', c', rfl, rfl, hi, HR⟩ := hrel
    clear HS0
    have hM : M ≤ 32768 := by have := good_len (HG.out i) h4; rw [HR.out.2.1] at this; exact this
    by_cases hlt : i < M
    case neg =>
      obtain ⟨z, z0, z1, z2, z3⟩ := few_last HR.out.1 HR.out.2.1 hi (by omega) (HG.out i) h4 ⟨HLA.out.2, HL.out.2⟩ HK.out.2 (HD.out i)
      have HZ : Hid (fewF a b (R : Int) = z - 1) := HF.out.trans z1
      clear z1
      have w1 : wrap64 (z - 1) = z - 1 := by unfold wrap64; omega
      have i6 : (kb : Int) < 32768 := by omega
      go_wp2_with (go_at_call 24; (with_reducible refine (l25IndexN (HIN.out.2.2.2.below HR.out.1.be) HL.out.2 h4 HLA.out.2 HK.out.2).mono ?_); rintro e w_ ⟨rfl, rfl⟩)
      go_ret
      exact ⟨by rw [HZ.out]; rfl, HR.out.1.be⟩
    obtain ⟨⟨now, dd⟩, hp⟩ : ∃ p, (runB R a i)[i]? = some p := ⟨_, List.getElem?_eq_getElem (by rw [HR.out.2.1]; exact hlt)⟩
    have hlad := (HG.out i).lad _ (List.mem_of_getElem? hp)
    simp only at hlad
    have hdd := HD.out i _ (List.mem_of_getElem? hp)
    simp only at hdd
    obtain ⟨g, bn, on, cn, rfl, hcell, hcn0, hcn1, hrow⟩ := HR.out.1.rowN HR.out.2.1 hp hlad.2
    have HP : Hid ((now, dd) ∈ runB R a i ∧ ladB now = true ∧ now.length = n ∧ (runB R a i)[i]? = some (now, dd)) := ⟨List.mem_of_getElem? hp, hlad.1, hlad.2, hp⟩
    have HRW : Hid (RowIn w wr gf (.slice (some ⟨bn, on, none⟩) n cn) now) := hrow
    obtain ⟨kn, hkn⟩ := Int.eq_ofNat_of_zero_le (numL_range hlad.1 (by rw [hlad.2]; exact h4)).1
    have hkn2 : kn < 32768 := by have := (numL_range hlad.1 (by rw [hlad.2]; exact h4)).2; omega
    have HKN : Hid (numL now = (kn : Int)) := hkn
    clear hp hlad hrow hkn
    go_wp2
    obtain ⟨wo, rfl⟩ : ∃ W, W = wr := ⟨wr, rfl⟩
    go_loopw [8, 58] (fun lv sv wr => ∃ (lo M2 : Nat) (A2 : Option Addr) (c2 : Nat), sv = .int .i64 (lo : Int) ∧ lv = .slice A2 M2 c2 ∧ lo ≤ n ∧ Hid (FwR w wr gf (.slice A2 M2 c2) (accR dd R now lo (runB R a i)) ∧ (accR dd R now lo (runB R a i)).length = M2 ∧ RowIn w wr gf (.slice (some ⟨bn, on, none⟩) n cn) now)) (fun _ sv _ => n - (intOf sv).toNat)
    case atStart => exact ⟨0, M, _, c', rfl, rfl, by omega, HR.out.1, HR.out.2.1, HRW.out⟩
    case round =>
      obtain ⟨lo, M2, A2, c2, rfl, rfl, hlo, HR2⟩ := hrel
      by_cases hlt2 : lo < n
      case neg =>
        obtain rfl : lo = n := by omega
        have HNX : Hid (accR dd R now lo (runB R a i) = runB R a (i + 1)) := by
          have h := step_accR (r := R) HP.out.2.2.2
          rw [HP.out.2.2.1] at h
          exact h.symm
        have hle := accR_le dd R now lo (runB R a i)
        rw [HR2.out.2.1, HR.out.2.1] at hle
        go_wp2
        go_roundw
        case rel => exact ⟨i + 1, M2, A2, c2, by go_num, rfl, by omega, by rw [← HNX.out]; exact HR2.out.1, by rw [← HNX.out]; exact HR2.out.2.1, by omega⟩
        case measure => simp [intOf]; omega
      obtain ⟨u0, hu0⟩ : ∃ u0, lo - R = u0 := ⟨_, rfl⟩
      have m1 : max (0 : Int) ((lo : Int) - (R : Int)) = (u0 : Int) := by omega
      have m2 : (if (0 : Int) < (lo : Int) - (R : Int) then (lo : Int) - (R : Int) else 0) = (u0 : Int) := by split <;> omega
      have hul : u0 ≤ lo := by omega
      have HU : Hid (lo - R = u0) := hu0
      clear hu0
      go_wp2
      all_goals
        obtain ⟨wq, rfl⟩ : ∃ W, W = wr := ⟨wr, rfl⟩
        go_loopw [8, 12] (fun lv sv wr => ∃ (up M3 : Nat) (A3 : Option Addr) (c3 : Nat), sv = .int .i64 (up : Int) ∧ lv = .slice A3 M3 c3 ∧ u0 ≤ up ∧ up ≤ lo ∧ Hid (FwR w wr gf (.slice A3 M3 c3) (accU dd R now lo up (accR dd R now lo (runB R a i))) ∧ (accU dd R now lo up (accR dd R now lo (runB R a i))).length = M3 ∧ RowIn w wr gf (.slice (some ⟨bn, on, none⟩) n cn) now)) (fun _ sv _ => lo - (intOf sv).toNat)
        case atStart =>
          have hz := accU_zero (d := dd) (r := R) (lo := lo) (now := now) (L := accR dd R now lo (runB R a i)) (up := u0) (by rw [HU.out]; exact Nat.le_refl _)
          exact ⟨u0, M2, A2, c2, by first | (congr 1; done) | (congr 1; omega), rfl, Nat.le_refl _, hul, by rw [hz]; exact HR2.out⟩
        case round =>
          obtain ⟨up, M3, A3, c3, rfl, rfl, hu1, hu2, HR3⟩ := hrel
          by_cases hlt3 : up < lo
          case neg =>
            obtain rfl : up = lo := by omega
            have HNX : Hid (accU dd R now up up (accR dd R now up (runB R a i)) = accR dd R now (up + 1) (runB R a i)) := (accR_succ dd R now up (runB R a i)).symm
            go_wp2
            go_roundw
            case rel => exact ⟨up + 1, M3, A3, c3, by go_num, rfl, by omega, by rw [← HNX.out]; exact HR3.out⟩
            case measure => simp [intOf]; omega
          have HAD : Hid (accU dd R now lo (up + 1) (accR dd R now lo (runB R a i)) = addB dd (accU dd R now lo up (accR dd R now lo (runB R a i))) (riseL now lo up)) := accU_succ (by have := HU.out; omega)
          have hg3 := accU_good (d := dd) (r := R) (accR_good (d := dd) (r := R) (HG.out i) HP.out.2.1 HP.out.2.2.1 (lo := lo) (by omega)) HP.out.2.1 HP.out.2.2.1 hlt2 (up := up) hu2
          have hx3 := rise_lad HP.out.2.1 (lo := lo) (up := up) (by rw [HP.out.2.2.1]; exact hlt2) (by omega)
          have HX : Hid (GoodB n (accU dd R now lo up (accR dd R now lo (runB R a i))) ∧ (now, dd) ∈ accU dd R now lo up (accR dd R now lo (runB R a i)) ∧ ladB (riseL now lo up) = true ∧ (riseL now lo up).length = n) := ⟨hg3, accU_mem (accR_mem HP.out.1), hx3.1, hx3.2.trans HP.out.2.2.1⟩
          have hM3 : M3 ≤ 32768 := by have := good_len hg3 h4; rw [HR3.out.2.1] at this; exact this
          clear hg3 hx3
          obtain ⟨p1, hp1⟩ : ∃ y, now[lo]? = some y := ⟨_, List.getElem?_eq_getElem (by rw [HP.out.2.2.1]; exact hlt2)⟩
          obtain ⟨p2, hp2⟩ : ∃ y, now[up]? = some y := ⟨_, List.getElem?_eq_getElem (by rw [HP.out.2.2.1]; omega)⟩
          have HPQ : Hid (now[lo]? = some p1 ∧ now[up]? = some p2) := ⟨hp1, hp2⟩
          have q0 := HR3.out.2.2.cells _ (Below.refl _ _) _ _ hp1
          have q1 := HR3.out.2.2.cells _ (Below.refl _ _) _ _ hp2
          have HCC : Hid (∀ W, Below wr.heap.size wr W → W.cell? ⟨bn, on + lo, none⟩ = some (.int .i64 p1) ∧ W.cell? ⟨bn, on + up, none⟩ = some (.int .i64 p2)) := fun W hW => ⟨HR3.out.2.2.cells _ hW _ _ HPQ.out.1, HR3.out.2.2.cells _ hW _ _ HPQ.out.2⟩
          have HUP : Hid (∀ W, Below wr.heap.size wr W → Calls Tryd.prog 25 #[.slice (some ⟨bn, on, none⟩) n cn, .int .i64 p1, .int .i64 p2] W fun e w' => ∃ v', e = .returned v' ∧ Fr w' W.heap.size w'.heap.size v' (riseL now lo up) ∧ Below W.heap.size W w') := fun W hW => l25UpN (HR3.out.2.2.sl.below hW) HP.out.2.2.1 h4 HP.out.2.1 hlt3 HPQ.out.1 HPQ.out.2
          clear hp1 hp2
          generalize accU dd R now lo up (accR dd R now lo (runB R a i)) = L3 at *
          generalize riseL now lo up = x at *
          obtain ⟨kx, hkx⟩ := Int.eq_ofNat_of_zero_le (numL_range HX.out.2.2.1 (by rw [HX.out.2.2.2]; exact h4)).1
          have hkx2 : kx < 32768 := by have := (numL_range HX.out.2.2.1 (by rw [HX.out.2.2.2]; exact h4)).2; omega
          have HKX : Hid (numL x = (kx : Int)) := hkx
          clear hkx
          have HDR : Hid (Below wr.heap.size wr wr.drew) := (Below.refl _ _).drew
          have j1 : (lo : Int) < (n : Int) := by omega
          have j2 : (up : Int) < (n : Int) := by omega
          have j3 : (up : Int) < (lo : Int) := by omega
          go_wp2_with fail
          go_region_held3 (fun W => W.cell? ⟨bn, on + lo, none⟩ = some (.int .i64 p1) ∧ W.cell? ⟨bn, on + up, none⟩ = some (.int .i64 p2)) (first | exact ⟨q0, q1⟩ | exact HCC.out _ H5.out) (first
            | (go_at_call 25; (with_reducible refine (HUP.out _ HDR.out).mono ?_); rintro e w5 ⟨v5, rfl, hf5, hb5⟩; have H5 : Hid (Below wr.heap.size wr w5) := HDR.out.trans (hb5.mono HDR.out.size); have hr5 : RowIn w w5 gf v5 x := RowIn.fresh (wr := wr) hf5 (by rw [HX.out.2.2.2]; omega) HR3.out.1.gs; obtain ⟨b5, o5, c5, rfl, hc50, hc51, -⟩ := hr5.open_ HX.out.2.2.2; have HX5 := Lib.hid hr5; clear hr5 hf5 hb5))
          have HF5 : Hid (FwR w w5 gf (.slice A3 M3 c3) L3 ∧ RowIn w w5 gf (.slice (some ⟨bn, on, none⟩) n cn) now ∧ L3.length = M3) := ⟨HR3.out.1.below H5.out, HR3.out.2.2.keepRow H5.out, HR3.out.2.1⟩
          have hnx := numL_range HX.out.2.2.1 (by rw [HX.out.2.2.2]; exact h4)
          have hnn := numL_range HP.out.2.1 (by rw [HP.out.2.2.1]; exact h4)
          have HNR : Hid ((0 ≤ numL x ∧ numL x < 32768) ∧ (0 ≤ numL now ∧ numL now < 32768)) := ⟨hnx, hnn⟩
          clear hnx hnn q0 q1 j1 j2
          have j4 : (kx : Int) < 32768 := by omega
          have j5 : (kn : Int) < 32768 := by omega
          cases hk : hasK L3 x
          case true =>
            obtain ⟨dx, hdx⟩ := hasK_t.1 hk
            have f0 := HF5.out.1.hit hdx HNR.out.1
            rw [HKX.out, Int.toNat_natCast] at f0
            have e0 : (((dx : Int) + 1) == 0) = false := beq_eq_false_iff_ne.2 (by omega)
            have HA : Hid (addB dd L3 x = L3) := addB_t hk
            clear hk hdx
            go_wp2_with (go_at_call 24; (with_reducible refine (l25IndexN HX5.out.sl HX.out.2.2.2 h4 HX.out.2.2.1 HKX.out).mono ?_); rintro e w_ ⟨rfl, rfl⟩)
            go_roundw
            case rel => exact ⟨up + 1, M3, _, c3, by go_num, rfl, by omega, by omega, by rw [HAD.out, HA.out]; exact ⟨HF5.out.1, HF5.out.2.2, HF5.out.2.1⟩⟩
            case measure => simp [intOf]; omega
          have f0 := HF5.out.1.miss HX.out.1 ⟨HX.out.2.2.1, HX.out.2.2.2⟩ h4 hk
          have f1 := HF5.out.1.hit HX.out.2.1 HNR.out.2
          rw [HKX.out, Int.toNat_natCast] at f0
          rw [HKN.out, Int.toNat_natCast] at f1
          have f2 := HF5.out.1.frozen hkx2
          obtain ⟨vs, hvs, hsz, hnext⟩ := HF5.out.1.stored' HX.out.1 ⟨HX.out.2.2.1, HX.out.2.2.2⟩ h4 hk (z := (dd : Int) + 1 + 1) rfl HKX.out HX5.out HF5.out.2.1
          rw [HF5.out.2.2] at hvs hnext
          have HNX := Lib.hid hnext
          have HVS := Lib.hid (And.intro hvs hsz)
          have HSZ : Hid ((w5.setCell ⟨gf, kx, none⟩ (.int .i64 ((dd : Int) + 1 + 1))).heap.size = w5.heap.size) := World.size_setCell _ _ _
          clear hk hnext hvs hsz
          have k0 : Hid True := trivial
          go_wp2_with (first
            | (go_at_call 24; have h_ := k0.out; clear h_ k0; (with_reducible refine (l25IndexN HX5.out.sl HX.out.2.2.2 h4 HX.out.2.2.1 HKX.out).mono ?_); rintro e w_ ⟨rfl, rfl⟩; have k1 : Hid True := trivial)
            | (go_at_call 24; have h_ := k1.out; clear h_ k1; (with_reducible refine (l25IndexN HX5.out.sl HX.out.2.2.2 h4 HX.out.2.2.1 HKX.out).mono ?_); rintro e w_ ⟨rfl, rfl⟩; have k2 : Hid True := trivial)
            | (go_at_call 24; have h_ := k2.out; clear h_ k2; (with_reducible refine (l25IndexN HF5.out.2.1.sl HP.out.2.2.1 h4 HP.out.2.1 HKN.out).mono ?_); rintro e w_ ⟨rfl, rfl⟩)
            | (at_builtin; rw [← HSZ.out]; refine appS rfl _ _ rfl (w5.setCell ⟨gf, kx, none⟩ (.int .i64 ((dd : Int) + 1 + 1))) w.heap.size (.slice A3 M3 c3) M3 vs rfl HVS.out.1 (some ⟨b5, o5, none⟩) n c5 rfl (by omega) HVS.out.2 ?_; intro v6 w6 ho6 hb6 hs6 hg6; have H6 := Lib.hid (HNX.out v6 w6 ho6 hg6 (fun B h1 h2 => hb6 B h1 h2)); clear ho6 hb6 hs6 hg6; obtain ⟨A6, c6, rfl⟩ := H6.out.1.form))
          all_goals first | exact ⟨⟨up + 1, _, A6, c6, by go_num, rfl, by omega, by omega, by rw [HAD.out]; exact ⟨H6.out.1, rfl, H6.out.2.2⟩⟩, by simp [intOf]; omega⟩
theorem specFewCh_std (va : Value) (a : List Int) (vb : Value) (b : List Int) (r : Int) (w : World) (ha : InI w va a) (na : a.length ≤ 1048576) (hb : InI w vb b) (nb : b.length ≤ 1048576) (_hr : (Lit.int .i64 r).wf = true) :
    Calls Tryd.prog 5 #[va, vb, .int .i64 r] w fun e w' => e = .returned (.int .i64 (fewF a b r)) ∧ Below w.heap.size w w' := by
  have ha0 := ha
  have hb0 := hb
  obtain ⟨A, c, rfl, hc, hm, hsa⟩ := ha
  obtain ⟨B, d, rfl, hd, hm2, hsb⟩ := hb
  exact specFewCh_core A B c d _ _ a b r w ⟨rfl, rfl⟩ ⟨ha0, hb0, hsa, hsb⟩ hc hm hd hm2 na nb
end Go.Proofs.YtbipjmaeclgldaaDoor
