/- The fewest challenges: the program's walk (printed by print/fwj.py). -/
import Derived.Test.YtbipjmaeclgldaaDoorFwi
import Derived.Test.YtbipjmaeclgldaaDoorFz
import Derived.Test.YtbipjmaeclgldaaDoorChal
import Derived.Test.YtbipjmaeclgldaaDoorShelf
import Derived.Maps.OwnOps
import Derived.Maps.OwnSet
import Derived.Deep.RegionHeld3
namespace Go.Proofs.YtbipjmaeclgldaaDoor
open Go.ChangeShapes Go.WideShapes Go.ChangeAt Go.RowKit

theorem RowIn.openN {w wr : World} {gf n : Nat} {v : Value} {x : List Int} (h : RowIn w wr gf v x) (hn : x.length = n) : ∃ b o c, v = .slice (some ⟨b, o, none⟩) n c ∧ n ≤ c ∧ c ≤ 2 ^ 63 - 1 := by
  obtain ⟨b, o, c, rfl, h1, h2, _, _⟩ := h
  subst hn
  exact ⟨b, o, c, rfl, h1, h2⟩
theorem implLadderN {A : Option Addr} {c n : Nat} {xs : List Int} {w : World} (hs : SlI w A xs) (hl : xs.length = n) (h : n ≤ 1048576) (hc : n ≤ c) :
    Calls Tryd.prog 13 #[.slice A n c] w fun e w' => e = .returned (.bool (ladB xs)) ∧ w = w' := by
  subst hl; exact implLadderOk_any A c xs w hs h hc
theorem risenN {A : Option Addr} {c n lo up : Nat} {xs : List Int} {w : World} (hs : SlI w A xs) (hn : xs.length = n) (h5 : n ≤ 5) (h1 : lo < n) (h2 : up < lo) :
    Calls Tryd.prog 30 #[.slice A n c, .int .i64 (lo : Int), .int .i64 (up : Int)] w fun e w' => ∃ v', e = .returned v' ∧ Fr w' w.heap.size w'.heap.size v' (riseL xs lo up) ∧ Below w.heap.size w w' := by
  subst hn; exact risen_any A c xs lo up w hs (by omega) h1 h2
theorem cloneN {A : Option Addr} {c n : Nat} {xs : List Int} {w : World} (hs : SlI w A xs) (hn : xs.length = n) (h5 : n ≤ 5) :
    Calls Tryd.prog 28 #[.slice A n c] w fun e w' => ∃ A' c', e = .returned (.slice A' n c') ∧ Fr w' w.heap.size w'.heap.size (.slice A' n c') xs ∧ Below w.heap.size w w' := by
  subst hn; exact cloneI_any A c xs w hs (by omega)
theorem lad_wf {xs : List Int} (h : ladB xs = true) : wfI xs := fun x hx => by have := lad_small h x hx; omega
theorem fmtN {v : Value} {n : Nat} {xs : List Int} {w : World} (hs : InI w v xs) (hn : xs.length = n) (h5 : n ≤ 5) (hl : ladB xs = true) (ht : tabP w) :
    Calls Tryd.prog 27 #[v] w fun e w' => e = .returned (.string ⟨(fmtF xs).toArray⟩) ∧ Below w.heap.size w w' := implFormatNumbers_any v xs w hs (by omega) (lad_wf hl) ht
theorem keyN {xs : List Int} {n : Nat} (hn : xs.length = n) (h5 : n ≤ 5) (hl : ladB xs = true) : keyOf Tryd.prog 9 (.string ⟨(fmtF xs).toArray⟩) = some (keyS xs) := by
  have h0 := (ladB_t hl).1.1
  have hb := fmt_bound (lad_wf hl)
  have hsz : (⟨(fmtF xs).toArray⟩ : ByteArray).size ≤ maxLen := by
    show (fmtF xs).toArray.size ≤ _
    rw [List.size_toArray]
    unfold fmtF maxLen
    rw [if_neg (by rintro rfl; simp at h0)]
    omega
  have h := WideMaps.keyOf_string_mk (P := Tryd.prog) Tryd.underlying9 hsz
  rw [h]; rfl
theorem lawS : Maps.Keyed Tryd.prog 9 := Maps.string_keyed Tryd.underlying9
theorem zeroI (w : World) : (zeroValue 3).run Tryd.prog w = .ok (.int .i64 0) w := by kernel_rfl
theorem equalN {b1 o1 c b2 o2 d n : Nat} {xs ys : List Int} {w : World} (hx : xs.length = n) (hy : ys.length = n) (h5 : n ≤ 5) (hc1 : ∀ j y, xs[j]? = some y → w.cell? ⟨b1, o1 + j, none⟩ = some (.int .i64 y)) (hc2 : ∀ j y, ys[j]? = some y → w.cell? ⟨b2, o2 + j, none⟩ = some (.int .i64 y)) :
    Calls Tryd.prog 29 #[.slice (some ⟨b1, o1, none⟩) n c, .slice (some ⟨b2, o2, none⟩) n d] w fun e w' => e = .returned (.bool (xs == ys)) ∧ ∃ q, w' = w.drewN q := by
  have h := Tryd.slices_Equal_int b1 o1 n c b2 o2 n d xs ys w (by omega) (by omega) (by omega) (by omega) (fun j hj => hc1 j _ (by rw [List.getD_eq_getElem?_getD, List.getElem?_eq_getElem hj]; rfl)) (fun j hj => hc2 j _ (by rw [List.getD_eq_getElem?_getD, List.getElem?_eq_getElem hj]; rfl))
  rw [List.take_of_length_le (by omega), List.take_of_length_le (by omega)] at h
  exact h
theorem few_none {r i : Nat} {a b : List Int} (hi : i ≤ 32768) (hl : (runB r a i).length = i) (h : ∀ (k : Nat) (p : List Int × Nat), k < i → (runB r a i)[k]? = some p → p.1 ≠ b) : fewB r a b = -1 := by
  rw [fewB_end hi (by omega), atK_none]
  rw [← Bool.not_eq_true, hasK_t]
  rintro ⟨d, hm⟩
  obtain ⟨k, hk⟩ := List.getElem?_of_mem hm
  exact h k _ (by have := (List.getElem?_eq_some_iff.1 hk).1; omega) hk rfl
theorem few_next {r i : Nat} {a b now : List Int} {d : Nat} (hp : (runB r a i)[i]? = some (now, d)) (hne : now ≠ b) (h : ∀ (k : Nat) (p : List Int × Nat), k < i → (runB r a i)[k]? = some p → p.1 ≠ b) :
    ∀ (k : Nat) (p : List Int × Nat), k < i + 1 → (runB r a (i + 1))[k]? = some p → p.1 ≠ b := by
  intro k p hk hq
  obtain ⟨E, e⟩ := runB_pre r a i 1
  have hlt := (List.getElem?_eq_some_iff.1 hp).1
  rw [e, List.getElem?_append_left (by omega)] at hq
  by_cases h2 : k = i
  · subst h2
    rw [hp] at hq
    injection hq with hq
    rw [← hq]; exact hne
  · exact h k p (by omega) hq
/-- The start: the map holds the first ladder, the queue a copy of it. -/
theorem FwI.start {w w3 w4 : World} {bm n c : Nat} {A : Option Addr} {a : List Int} (hb : Below w.heap.size w w3) (hlo : w.heap.size ≤ bm) (hlt : bm < w3.heap.size) (hn : a.length = n) (h0 : 0 < n) (hl : ladB a = true)
    (hm : mapI w3 bm 1 ((DataW.map []).put (keyS a) (.lit (.int .i64 0)))) (hf : Fr w4 w3.heap.size w4.heap.size (.slice A n c) a) (hb4 : Below w3.heap.size w3 w4) :
    FwI w (w4.alloc (.cells #[.slice A n c] 22)) bm (.slice (some ⟨w4.heap.size, 0, none⟩) 1 1) 0 [(a, 0)] := by
  have hB4 : Below w.heap.size w w4 := hb.trans (hb4.mono hb.size)
  have b5 : Below w4.heap.size w4 (w4.alloc (.cells #[.slice A n c] 22)) := (Below.refl _ w4).alloc (Nat.le_refl _) _
  have hr : RowIn w w4 bm (.slice A n c) a := RowIn.fresh (wr := w3) hf (by omega) hlt
  have hg0 : GoodB n [] := ⟨by simp, fun p hp => by cases hp⟩
  have hD := (MapL.nil).add hg0 (x := a) (d := 0) ⟨hl, hn⟩ rfl
  have hlit := World.ownsRow_lit (base := w4.heap.size) (e := 22) (size := 1) w4 #[.slice A n c] 1 (Nat.le_refl _) (by unfold maxLen; omega) rfl
  refine ⟨hB4.alloc hB4.size _, hlo, ⟨_, hD, ?_⟩, [.slice A n c], Que.of_own hlit (by omega) hB4.size, rfl, fun k u p e1 e2 => ?_⟩
  · exact (hm.block (hb4.block bm hlt)).block (b5.block bm (Nat.lt_of_lt_of_le hlt hb4.size))
  · match k, e1, e2 with
    | 0, e1, e2 =>
      simp only [List.getElem?_cons_zero, Option.some.injEq] at e1
      have e2 : some (a, 0) = some p := e2
      injection e2 with e2
      subst e1; subst e2
      exact hr.keepRow b5
    | k + 1, e1, e2 => simp at e1

set_option maxHeartbeats 4000000 in
set_option maxRecDepth 100000 in
theorem implFewCh_core (A B : Option Addr) (c d n m : Nat) (a b : List Int) (r : Int) (w : World) (HL : Hid (a.length = n ∧ b.length = m)) (HIN : Hid (InI w (.slice A n c) a ∧ InI w (.slice B m d) b ∧ SlI w A a ∧ SlI w B b)) (HT : Hid (tabP w))
    (hc : n ≤ c) (hm : c ≤ 2 ^ 63 - 1) (hd : m ≤ d) (hm2 : d ≤ 2 ^ 63 - 1) (hn : n ≤ 1048576) (hmm : m ≤ 1048576) :
    Calls Tryd.prog 7 #[.slice A n c, .slice B m d, .int .i64 r] w fun e w' => e = .returned (.int .i64 (fewF a b r)) ∧ Below w.heap.size w w' := by
  cases h1 : ladB a
  case false =>
    have HE : Hid (fewF a b r = -1) := fewF_no (by simp [fewOk, h1])
    have k0 : Hid True := trivial
    go_enter Tryd.func7, Tryd.ntmps7
    go_wp2_with (first | (go_at_call 13; have h_ := k0.out; clear h_ k0; (with_reducible refine (implLadderN HIN.out.2.2.1 HL.out.1 hn hc).mono ?_); rintro e w_ ⟨rfl, rfl⟩; rw [h1]; have k1 : Hid True := trivial))
    go_ret
    exact ⟨by rw [HE.out]; rfl, Below.refl _ _⟩
  cases h2 : ladB b
  case false =>
    have HE : Hid (fewF a b r = -1) := fewF_no (by simp [fewOk, h1, h2])
    have k0 : Hid True := trivial
    go_enter Tryd.func7, Tryd.ntmps7
    go_wp2_with (first | (go_at_call 13; have h_ := k0.out; clear h_ k0; (with_reducible refine (implLadderN HIN.out.2.2.1 HL.out.1 hn hc).mono ?_); rintro e w_ ⟨rfl, rfl⟩; rw [h1]; have k1 : Hid True := trivial) | (go_at_call 13; have h_ := k1.out; clear h_ k1; (with_reducible refine (implLadderN HIN.out.2.2.2 HL.out.2 hmm hd).mono ?_); rintro e w_ ⟨rfl, rfl⟩; rw [h2]))
    go_ret
    exact ⟨by rw [HE.out]; rfl, Below.refl _ _⟩
  by_cases h3 : n = m
  case neg =>
    have x3 : ((n : Int) != (m : Int)) = true := bne_iff_ne.2 (by omega)
    have x3' : ¬ (n : Int) = (m : Int) := by omega
    have HE : Hid (fewF a b r = -1) := fewF_no (by simp [fewOk, h1, h2, HL.out.1, HL.out.2, h3])
    have k0 : Hid True := trivial
    go_enter Tryd.func7, Tryd.ntmps7
    go_wp2_with (first | (go_at_call 13; have h_ := k0.out; clear h_ k0; (with_reducible refine (implLadderN HIN.out.2.2.1 HL.out.1 hn hc).mono ?_); rintro e w_ ⟨rfl, rfl⟩; rw [h1]; have k1 : Hid True := trivial) | (go_at_call 13; have h_ := k1.out; clear h_ k1; (with_reducible refine (implLadderN HIN.out.2.2.2 HL.out.2 hmm hd).mono ?_); rintro e w_ ⟨rfl, rfl⟩; rw [h2]))
    go_ret
    exact ⟨by rw [HE.out]; rfl, Below.refl _ _⟩
  subst h3
  have x3 : ((n : Int) != (n : Int)) = false := by simp
  by_cases h4 : n ≤ 5
  case neg =>
    have i4 : (5 : Int) < (n : Int) := by omega
    have HE : Hid (fewF a b r = -1) := fewF_no (by simp [fewOk, h1, h2, HL.out.1, h4])
    have k0 : Hid True := trivial
    go_enter Tryd.func7, Tryd.ntmps7
    go_wp2_with (first | (go_at_call 13; have h_ := k0.out; clear h_ k0; (with_reducible refine (implLadderN HIN.out.2.2.1 HL.out.1 hn hc).mono ?_); rintro e w_ ⟨rfl, rfl⟩; rw [h1]; have k1 : Hid True := trivial) | (go_at_call 13; have h_ := k1.out; clear h_ k1; (with_reducible refine (implLadderN HIN.out.2.2.2 HL.out.2 hmm hd).mono ?_); rintro e w_ ⟨rfl, rfl⟩; rw [h2]))
    go_ret
    exact ⟨by rw [HE.out]; rfl, Below.refl _ _⟩
  have i4 : ¬ ((5 : Int) < (n : Int)) := by omega
  cases h5 : inB r 1 7
  case false =>
    have HE : Hid (fewF a b r = -1) := fewF_no (by simp [fewOk, h5])
    have k0 : Hid True := trivial
    go_enter Tryd.func7, Tryd.ntmps7
    go_wp2_with (first | (go_at_call 13; have h_ := k0.out; clear h_ k0; (with_reducible refine (implLadderN HIN.out.2.2.1 HL.out.1 hn hc).mono ?_); rintro e w_ ⟨rfl, rfl⟩; rw [h1]; have k1 : Hid True := trivial) | (go_at_call 13; have h_ := k1.out; clear h_ k1; (with_reducible refine (implLadderN HIN.out.2.2.2 HL.out.2 hmm hd).mono ?_); rintro e w_ ⟨rfl, rfl⟩; rw [h2]) | (go_at_call 26; (with_reducible refine (within_any _ 1 7 _).mono ?_); rintro e w_ ⟨rfl, rfl⟩; rw [h5]))
    go_ret
    exact ⟨by rw [HE.out]; rfl, Below.refl _ _⟩
  have HF : Hid (fewF a b r = fewB r.toNat a b) := by
    show _ = _
    unfold fewF
    rw [if_pos (fewOk_mk h1 h2 (by rw [HL.out.1, HL.out.2]) (by rw [HL.out.1]; exact h4) h5)]
  obtain ⟨R, rfl⟩ := Int.eq_ofNat_of_zero_le (show 0 ≤ r by have := inB_t.1 h5; omega)
  have hR : 1 ≤ R ∧ R ≤ 7 := by have := inB_t.1 h5; omega
  obtain ⟨hR1, hR7⟩ := hR
  rw [Int.toNat_natCast] at HF
  have hl1 := (ladB_t h1).1
  rw [HL.out.1] at hl1
  obtain ⟨hn0, -⟩ := hl1
  have HLA : Hid (ladB a = true ∧ ladB b = true) := ⟨h1, h2⟩
  obtain ⟨bb, ob, rfl, hbc⟩ : ∃ bb ob, B = some ⟨bb, ob, none⟩ ∧ ∀ j y, b[j]? = some y → w.cell? ⟨bb, ob + j, none⟩ = some (.int .i64 y) := by
    rcases HIN.out.2.2.2 with h | ⟨b', o', e, h⟩
    · have := HL.out.2; rw [h] at this; simp at this; omega
    · exact ⟨b', o', e, h⟩
  have HBC : Hid (∀ W, Below w.heap.size w W → ∀ j y, b[j]? = some y → W.cell? ⟨bb, ob + j, none⟩ = some (.int .i64 y)) := fun W hW j y hj => (hW.cell (block_lt_of_cell (hbc j y hj))).trans (hbc j y hj)
  clear hbc
  have k0 : Hid True := trivial
  have hmk := @run_makeMap Tryd.prog
  have HM0 : Hid (mapI (w.alloc (.map #[] 0)) w.heap.size 0 (.map []) ∧ Below w.heap.size w (w.alloc (.map #[] 0))) := ⟨World.ownsMap_made _ _ _ _, (Below.refl _ w).alloc (Nat.le_refl _) _⟩
  go_enter Tryd.func7, Tryd.ntmps7
  go_wp2_with (first
    | (go_at_call 13; have h_ := k0.out; clear h_ k0; (with_reducible refine (implLadderN HIN.out.2.2.1 HL.out.1 hn hc).mono ?_); rintro e w_ ⟨rfl, rfl⟩; rw [h1]; have k1 : Hid True := trivial)
    | (go_at_call 13; have h_ := k1.out; clear h_ k1; (with_reducible refine (implLadderN HIN.out.2.2.2 HL.out.2 hmm hd).mono ?_); rintro e w_ ⟨rfl, rfl⟩; rw [h2])
    | (go_at_call 26; (with_reducible refine (within_any _ 1 7 _).mono ?_); rintro e w_ ⟨rfl, rfl⟩; rw [h5])
    | (go_at_call 27; (with_reducible refine (fmtN (HIN.out.1.below HM0.out.2) HL.out.1 h4 HLA.out.1 (HT.out.below HM0.out.2 (Nat.le_refl _))).mono ?_); rintro e w2 ⟨rfl, hb2⟩; have hm2' : mapI w2 w.heap.size 0 (.map []) := HM0.out.1.block (hb2.block _ (by simp)); obtain ⟨w3, hrun, hm3, hg3⟩ := World.ownsMap.update (t := 50) (e := 3) hm2' lawS Tryd.underlying50 (by unfold maxLen; omega) (keyN HL.out.1 h4 HLA.out.1) (plainElem_int Tryd.underlying3 (a := 0) rfl); have H3 : Hid (mapI w3 w.heap.size 1 ((DataW.map []).put (keyS a) (.lit (.int .i64 0))) ∧ Below w.heap.size w w3 ∧ w.heap.size < w3.heap.size) := ⟨hm3, (HM0.out.2.trans (hb2.mono HM0.out.2.size)).grown hg3 (HM0.out.2.trans (hb2.mono HM0.out.2.size)).size (fun k hk => by cases hk; exact Nat.le_refl _), by have h1 := hb2.size; have h2 := hg3.size; simp at h1; omega⟩; clear hm2' hm3 hg3 hb2)
    | (go_at_call 28; (with_reducible refine (cloneN (HIN.out.2.2.1.below H3.out.2.1) HL.out.1 h4).mono ?_); rintro e w4 ⟨A4, c4, rfl, hf4, hb4⟩; have HS0 := Lib.hid (FwI.start H3.out.2.1 (Nat.le_refl _) H3.out.2.2 HL.out.1 hn0 HLA.out.1 H3.out.1 hf4 hb4); clear hf4 hb4))
  have HG := Lib.hid (fun i => runB_good (r := R) HLA.out.1 HL.out.1 i)
  have HD := Lib.hid (fun i => runB_d R a i)
  clear h1 h2 h5 x3 hrun hmk
  replace HS0 : Hid (FwI w (w4.alloc (.cells #[.slice A4 n c4] 22)) w.heap.size (.slice (some ⟨w4.heap.size, 0, none⟩) 1 1) 0 (runB R a 0)) := HS0.out
  obtain ⟨g4, hg4⟩ : ∃ g, w4.heap.size = g := ⟨_, rfl⟩
  rw [hg4] at HS0 ⊢
  generalize w4.alloc (.cells #[.slice A4 n c4] 22) = w5 at *
  clear hg4 H3 HM0
  obtain ⟨bm, hbm⟩ : ∃ bm, w.heap.size = bm := ⟨_, rfl⟩
  have HBM : Hid (w.heap.size = bm) := hbm
  rw [hbm] at HS0 ⊢
  clear hbm
  go_loopg [8] 32768 (fun gk lv wr => ∃ (i M cap : Nat) (A' : Option Addr), gk = 32768 - i ∧ lv = .slice A' M cap ∧ i ≤ 32768 ∧ Hid (FwI w wr bm (.slice A' M cap) i (runB R a i) ∧ i + M = (runB R a i).length ∧ ∀ (k : Nat) (p : List Int × Nat), k < i → (runB R a i)[k]? = some p → p.1 ≠ b))
  case atStart => exact ⟨0, 1, 1, _, rfl, rfl, by omega, HS0.out, rfl, fun k p h _ => by omega⟩
  case round =>
    obtain ⟨i, M, cap, A', rfl, rfl, hi, HR⟩ := hrel
    clear HS0
    have hM : i + M ≤ 32768 := by have := good_len (HG.out i) h4; rw [← HR.out.2.1] at this; exact this
    by_cases hlt : 0 < M
    case neg =>
      have HE : Hid (fewF a b (R : Int) = -1) := HF.out.trans (few_none hi (by rw [← HR.out.2.1]; omega) HR.out.2.2)
      go_wp2
      go_ret
      exact ⟨by rw [HE.out]; rfl, HR.out.1.be⟩
    obtain ⟨⟨now, dd⟩, hp⟩ : ∃ p, (runB R a i)[i]? = some p := ⟨_, List.getElem?_eq_getElem (by rw [← HR.out.2.1]; omega)⟩
    have hlad := (HG.out i).lad _ (List.mem_of_getElem? hp)
    simp only at hlad
    have hdd := HD.out i _ (List.mem_of_getElem? hp)
    simp only at hdd
    obtain ⟨g, off, M', cap', bn, on, cn, e8, -, hcp0, hcp1, hcell, hcn0, hcn1, hrow⟩ := HR.out.1.first hp hlad.2
    injection e8 with e8 e9 e10
    subst e8; subst e9; subst e10
    have HP : Hid ((now, dd) ∈ runB R a i ∧ ladB now = true ∧ now.length = n ∧ (runB R a i)[i]? = some (now, dd)) := ⟨List.mem_of_getElem? hp, hlad.1, hlad.2, hp⟩
    have HRW : Hid (RowIn w wr bm (.slice (some ⟨bn, on, none⟩) n cn) now) := hrow
    clear hp hlad hrow
    have HEQ : Hid (Calls Tryd.prog 29 #[.slice (some ⟨bn, on, none⟩) n cn, .slice (some ⟨bb, ob, none⟩) n d] wr fun e w' => e = .returned (.bool (now == b)) ∧ ∃ q, w' = wr.drewN q) :=
      equalN HP.out.2.2.1 HL.out.2 h4 (HRW.out.cells _ (Below.refl _ _)) (HBC.out _ HR.out.1.be)
    by_cases hnb : now = b
    case pos =>
      have t1 : (now == b) = true := by simp [hnb]
      have HW : Hid (fewF a b (R : Int) = (dd : Int)) := HF.out.trans (fewB_hit HLA.out.1 HL.out.1 hi (by rw [← hnb]; exact HP.out.1))
      clear hnb
      obtain ⟨D, hD, hmD⟩ := HR.out.1.mp
      have HDD : Hid (MapL (runB R a i) D ∧ mapI wr bm (runB R a i).length D) := ⟨hD, hmD⟩
      clear hD hmD
      go_wp2_with (first
        | (go_at_call 29; (with_reducible refine HEQ.out.mono ?_); rintro e w6 ⟨rfl, q6, rfl⟩; rw [t1]; have H6 : Hid (RowIn w (wr.drewN q6) bm (.slice (some ⟨bn, on, none⟩) n cn) now ∧ Below w.heap.size w (wr.drewN q6)) := ⟨HRW.out.keepRow (below_drewN (Below.refl _ _) _), below_drewN HR.out.1.be _⟩)
        | (go_at_call 27; (with_reducible refine (fmtN H6.out.1.in_ HP.out.2.2.1 h4 HP.out.2.1 (HT.out.below H6.out.2 (Nat.le_refl _))).mono ?_); rintro e w7 ⟨rfl, hb7⟩; have H7 : Hid (mapI w7 bm (runB R a i).length D ∧ Below w.heap.size w w7) := ⟨HDD.out.2.block (hb7.block bm HDD.out.2.lt), H6.out.2.trans (hb7.mono H6.out.2.size)⟩; clear hb7)
        | (at_lookup; refine wpList_lookup_own_int _ rfl _ _ 50 rfl 9 3 .i64 lawS Tryd.underlying50 Tryd.underlying3 (zeroI _) bm _ D rfl H7.out.1 _ _ rfl (keyN HP.out.2.2.1 h4 HP.out.2.1) ?_; intro cc hat hwc; have HC : Hid (cc = (dd : Int)) := (by have h := hat.symm.trans (HDD.out.1.hit now dd HP.out.1).1; injection h with h; injection h); clear hat hwc))
      go_ret
      exact ⟨by rw [HW.out, ← HC.out]; rfl, H7.out.2⟩
    have t1 : (now == b) = false := by simp [hnb]
    go_wp2_with (go_at_call 29; (with_reducible refine HEQ.out.mono ?_); rintro e w6 ⟨rfl, q6, rfl⟩; rw [t1]; have H6 : Hid (FwI w (wr.drewN q6) bm (.slice (some ⟨g, off, none⟩) M cap) i (runB R a i) ∧ RowIn w (wr.drewN q6) bm (.slice (some ⟨bn, on, none⟩) n cn) now) := ⟨HR.out.1.below (below_drewN (Below.refl _ _) _), HRW.out.keepRow (below_drewN (Below.refl _ _) _)⟩)
    have HR6 := H6
    have HNE : Hid (now ≠ b) := hnb
    clear H6 HEQ t1 hnb hcell
    generalize wr.drewN q6 = w6 at *
    go_loopw [8, 64] (fun lv sv wr => ∃ (lo M2 cap2 : Nat) (A2 : Option Addr), sv = .int .i64 (lo : Int) ∧ lv = .slice A2 M2 cap2 ∧ lo ≤ n ∧ Hid (FwI w wr bm (.slice A2 M2 cap2) i (accR dd R now lo (runB R a i)) ∧ i + M2 = (accR dd R now lo (runB R a i)).length ∧ RowIn w wr bm (.slice (some ⟨bn, on, none⟩) n cn) now)) (fun _ sv _ => n - (intOf sv).toNat)
    case atStart => exact ⟨0, M, cap, _, rfl, rfl, by omega, HR6.out.1, HR.out.2.1, HR6.out.2⟩
    case round =>
      obtain ⟨lo, M2, cap2, A2, rfl, rfl, hlo, HR2⟩ := hrel
      clear HR6
      by_cases hlt2 : lo < n
      case neg =>
        obtain rfl : lo = n := by omega
        have HNX : Hid (accR dd R now lo (runB R a i) = runB R a (i + 1)) := by
          have h := step_accR (r := R) HP.out.2.2.2
          rw [HP.out.2.2.1] at h
          exact h.symm
        have hle := accR_le dd R now lo (runB R a i)
        rw [← HR2.out.2.1, ← HR.out.2.1] at hle
        obtain ⟨E, hE⟩ := runB_pre R a i 1
        obtain ⟨g2, o2, M2', cap2', bn2, on2, cn2, e8, -, hq0, hq1, -⟩ := HR2.out.1.first (n := lo) (p := (now, dd)) (by rw [HNX.out, hE, List.getElem?_append_left (by have := (List.getElem?_eq_some_iff.1 HP.out.2.2.2).1; exact this)]; exact HP.out.2.2.2) HP.out.2.2.1
        injection e8 with e8 e9 e10
        subst e8; subst e9; subst e10
        have HCUT := Lib.hid (HR2.out.1.cut (by omega))
        have HNB := Lib.hid (few_next HP.out.2.2.2 HNE.out HR.out.2.2)
        clear hE
        have hM2 : 1 ≤ M2 := by omega
        have hi2 : i + 1 ≤ 32768 := by omega
        have HLN : Hid (i + M2 = (runB R a (i + 1)).length) := by rw [← HNX.out]; exact HR2.out.2.1
        by_cases hc1 : cap2 = 1
        · have hm1 : M2 = 1 := by omega
          have HCU : Hid (FwI w wr bm (.slice (some ⟨g2, o2, none⟩) 0 0) (i + 1) (runB R a (i + 1))) := by
            have h := HCUT.out (some ⟨g2, o2, none⟩) (by rw [if_pos hc1])
            rw [HNX.out, show M2 - 1 = 0 by omega, show cap2 - 1 = 0 by omega] at h
            exact h
          go_wp2
          go_roundg (32768 - (i + 1))
          case rel => exact ⟨i + 1, 0, 0, _, rfl, rfl, hi2, HCU.out, by rw [← HLN.out]; omega, HNB.out⟩
          case measure => omega
        · have HCU : Hid (FwI w wr bm (.slice (some ⟨g2, o2 + 1, none⟩) (M2 - 1) (cap2 - 1)) (i + 1) (runB R a (i + 1))) := by
            have h := HCUT.out (some ⟨g2, o2 + 1, none⟩) (by rw [if_neg hc1])
            rw [HNX.out] at h
            exact h
          go_wp2
          go_roundg (32768 - (i + 1))
          case rel => exact ⟨i + 1, M2 - 1, cap2 - 1, _, rfl, rfl, hi2, HCU.out, by rw [← HLN.out]; omega, HNB.out⟩
          case measure => omega
      obtain ⟨u0, hu0⟩ : ∃ u0, lo - R = u0 := ⟨_, rfl⟩
      have m1 : max (0 : Int) ((lo : Int) - (R : Int)) = (u0 : Int) := by omega
      have m2 : (if (0 : Int) < (lo : Int) - (R : Int) then (lo : Int) - (R : Int) else 0) = (u0 : Int) := by split <;> omega
      have hul : u0 ≤ lo := by omega
      have HU : Hid (lo - R = u0) := hu0
      clear hu0
      go_wp2
      all_goals
        obtain ⟨wq, rfl⟩ : ∃ W, W = wr := ⟨wr, rfl⟩
        go_loopw [8, 11] (fun lv sv wr => ∃ (up M3 cap3 : Nat) (A3 : Option Addr), sv = .int .i64 (up : Int) ∧ lv = .slice A3 M3 cap3 ∧ u0 ≤ up ∧ up ≤ lo ∧ Hid (FwI w wr bm (.slice A3 M3 cap3) i (accU dd R now lo up (accR dd R now lo (runB R a i))) ∧ i + M3 = (accU dd R now lo up (accR dd R now lo (runB R a i))).length ∧ RowIn w wr bm (.slice (some ⟨bn, on, none⟩) n cn) now)) (fun _ sv _ => lo - (intOf sv).toNat)
        case atStart =>
          have hz := accU_zero (d := dd) (r := R) (lo := lo) (now := now) (L := accR dd R now lo (runB R a i)) (up := u0) (by rw [HU.out]; exact Nat.le_refl _)
          exact ⟨u0, M2, cap2, A2, by first | (congr 1; done) | (congr 1; omega), rfl, Nat.le_refl _, hul, by rw [hz]; exact HR2.out⟩
        case round =>
          obtain ⟨up, M3, cap3, A3, rfl, rfl, hu1, hu2, HR3⟩ := hrel
          by_cases hlt3 : up < lo
          case neg =>
            obtain rfl : up = lo := by omega
            have HNX : Hid (accU dd R now up up (accR dd R now up (runB R a i)) = accR dd R now (up + 1) (runB R a i)) := (accR_succ dd R now up (runB R a i)).symm
            go_wp2
            go_roundw
            case rel => exact ⟨up + 1, M3, cap3, A3, by go_num, rfl, by omega, by rw [← HNX.out]; exact HR3.out⟩
            case measure => simp [intOf]; omega
          have HAD : Hid (accU dd R now lo (up + 1) (accR dd R now lo (runB R a i)) = addB dd (accU dd R now lo up (accR dd R now lo (runB R a i))) (riseL now lo up)) := accU_succ (by have := HU.out; omega)
          have hg3 := accU_good (d := dd) (r := R) (accR_good (d := dd) (r := R) (HG.out i) HP.out.2.1 HP.out.2.2.1 (lo := lo) (by omega)) HP.out.2.1 HP.out.2.2.1 hlt2 (up := up) hu2
          have hx3 := rise_lad HP.out.2.1 (lo := lo) (up := up) (by rw [HP.out.2.2.1]; exact hlt2) (by omega)
          have HX : Hid (GoodB n (accU dd R now lo up (accR dd R now lo (runB R a i))) ∧ (now, dd) ∈ accU dd R now lo up (accR dd R now lo (runB R a i)) ∧ ladB (riseL now lo up) = true ∧ (riseL now lo up).length = n) := ⟨hg3, accU_mem (accR_mem HP.out.1), hx3.1, hx3.2.trans HP.out.2.2.1⟩
          have hM3 : i + M3 ≤ 32768 := by have := good_len hg3 h4; rw [← HR3.out.2.1] at this; exact this
          have HRI : Hid (Calls Tryd.prog 30 #[.slice (some ⟨bn, on, none⟩) n cn, .int .i64 (lo : Int), .int .i64 (up : Int)] wr fun e w' => ∃ v', e = .returned v' ∧ Fr w' wr.heap.size w'.heap.size v' (riseL now lo up) ∧ Below wr.heap.size wr w') := by
            obtain ⟨b', o', c', e, _, _, _, hcl⟩ := HR3.out.2.2
            injection e with e1 e2 e3
            injection e1 with e1
            injection e1 with e4 e5
            subst e4; subst e5
            exact risenN (.inr ⟨_, _, rfl, hcl⟩) HP.out.2.2.1 h4 hlt2 hlt3
          clear hg3 hx3
          generalize accU dd R now lo up (accR dd R now lo (runB R a i)) = L3 at *
          generalize riseL now lo up = x at *
          obtain ⟨D, hD, hmD⟩ := HR3.out.1.mp
          have HDD : Hid (MapL L3 D ∧ mapI wr bm L3.length D) := ⟨hD, hmD⟩
          clear hD hmD
          have hlen : L3.length ≤ 32768 := by rw [← HR3.out.2.1]; exact hM3
          have j3 : (up : Int) < (lo : Int) := by omega
          cases hk : hasK L3 x
          case true =>
            have HHAS : Hid (Maps.has D (keyS x) = true) := by obtain ⟨dx, h⟩ := hasK_t.1 hk; exact (HDD.out.1.hit x dx h).2
            have HA : Hid (addB dd L3 x = L3) := addB_t hk
            clear hk
            go_wp2_with (first
              | (go_at_call 30; (with_reducible refine HRI.out.mono ?_); rintro e w7 ⟨v7, rfl, hf7, hb7⟩; have hr7 : RowIn w w7 bm v7 x := RowIn.fresh (wr := wr) hf7 (by rw [HX.out.2.2.2]; omega) HDD.out.2.lt; obtain ⟨b7, o7, c7, rfl, hc70, hc71⟩ := hr7.openN HX.out.2.2.2; have H7 : Hid (FwI w w7 bm (.slice A3 M3 cap3) i L3 ∧ RowIn w w7 bm (.slice (some ⟨bn, on, none⟩) n cn) now ∧ RowIn w w7 bm (.slice (some ⟨b7, o7, none⟩) n c7) x ∧ mapI w7 bm L3.length D) := ⟨HR3.out.1.below hb7, HR3.out.2.2.keepRow hb7, hr7, HDD.out.2.block (hb7.block bm HDD.out.2.lt)⟩; clear hr7 hf7 hb7)
              | (go_at_call 27; (with_reducible refine (fmtN H7.out.2.2.1.in_ HX.out.2.2.2 h4 HX.out.2.2.1 (HT.out.below H7.out.1.be (Nat.le_refl _))).mono ?_); rintro e w8 ⟨rfl, hb8⟩; have H8 : Hid (FwI w w8 bm (.slice A3 M3 cap3) i L3 ∧ RowIn w w8 bm (.slice (some ⟨bn, on, none⟩) n cn) now ∧ mapI w8 bm L3.length D) := ⟨H7.out.1.below hb8, H7.out.2.1.keepRow hb8, H7.out.2.2.2.block (hb8.block bm H7.out.2.2.2.lt)⟩; clear hb8)
              | (at_lookup; refine wpList_lookup_own_ok_int _ rfl _ _ 50 rfl 9 3 .i64 lawS Tryd.underlying50 Tryd.underlying3 (zeroI _) bm _ D rfl H8.out.2.2 _ _ rfl (keyN HX.out.2.2.2 h4 HX.out.2.2.1) ?_; intro c0 hat0 hwc0; rw [HHAS.out]; clear hat0 hwc0))
            go_roundw
            case rel => exact ⟨up + 1, M3, cap3, A3, by go_num, rfl, by omega, by omega, by rw [HAD.out, HA.out]; exact ⟨H8.out.1, HR3.out.2.1, H8.out.2.1⟩⟩
            case measure => simp [intOf]; omega
          have HHAS : Hid (Maps.has D (keyS x) = false) := HDD.out.1.miss x n HX.out.2.2.1 HX.out.2.2.2 HX.out.1 hk
          have HKF := Lib.hid hk
          clear hk
          have k0 : Hid True := trivial
          have t0 : Hid True := trivial
          go_wp2_with (first
            | (go_at_call 30; (with_reducible refine HRI.out.mono ?_); rintro e w7 ⟨v7, rfl, hf7, hb7⟩; have hr7 : RowIn w w7 bm v7 x := RowIn.fresh (wr := wr) hf7 (by rw [HX.out.2.2.2]; omega) HDD.out.2.lt; obtain ⟨b7, o7, c7, rfl, hc70, hc71⟩ := hr7.openN HX.out.2.2.2; have H7 : Hid (FwI w w7 bm (.slice A3 M3 cap3) i L3 ∧ RowIn w w7 bm (.slice (some ⟨bn, on, none⟩) n cn) now ∧ RowIn w w7 bm (.slice (some ⟨b7, o7, none⟩) n c7) x ∧ mapI w7 bm L3.length D) := ⟨HR3.out.1.below hb7, HR3.out.2.2.keepRow hb7, hr7, HDD.out.2.block (hb7.block bm HDD.out.2.lt)⟩; clear hr7 hf7 hb7)
            | (go_at_call 27; have h_ := k0.out; clear h_ k0; (with_reducible refine (fmtN H7.out.2.2.1.in_ HX.out.2.2.2 h4 HX.out.2.2.1 (HT.out.below H7.out.1.be (Nat.le_refl _))).mono ?_); rintro e w8 ⟨rfl, hb8⟩; have H8 : Hid (FwI w w8 bm (.slice A3 M3 cap3) i L3 ∧ RowIn w w8 bm (.slice (some ⟨bn, on, none⟩) n cn) now ∧ RowIn w w8 bm (.slice (some ⟨b7, o7, none⟩) n c7) x ∧ mapI w8 bm L3.length D) := ⟨H7.out.1.below hb8, H7.out.2.1.keepRow hb8, H7.out.2.2.1.keepRow hb8, H7.out.2.2.2.block (hb8.block bm H7.out.2.2.2.lt)⟩; clear hb8; have k1 : Hid True := trivial)
            | (go_at_call 27; have h_ := k1.out; clear h_ k1; (with_reducible refine (fmtN H8.out.2.2.1.in_ HX.out.2.2.2 h4 HX.out.2.2.1 (HT.out.below H8.out.1.be (Nat.le_refl _))).mono ?_); rintro e w9 ⟨rfl, hb8⟩; have H9 : Hid (FwI w w9 bm (.slice A3 M3 cap3) i L3 ∧ RowIn w w9 bm (.slice (some ⟨bn, on, none⟩) n cn) now ∧ RowIn w w9 bm (.slice (some ⟨b7, o7, none⟩) n c7) x ∧ mapI w9 bm L3.length D) := ⟨H8.out.1.below hb8, H8.out.2.1.keepRow hb8, H8.out.2.2.1.keepRow hb8, H8.out.2.2.2.block (hb8.block bm H8.out.2.2.2.lt)⟩; clear hb8; have k2 : Hid True := trivial)
            | (go_at_call 27; have h_ := k2.out; clear h_ k2; (with_reducible refine (fmtN H9.out.2.1.in_ HP.out.2.2.1 h4 HP.out.2.1 (HT.out.below H9.out.1.be (Nat.le_refl _))).mono ?_); rintro e w10 ⟨rfl, hb8⟩; have H10 : Hid (FwI w w10 bm (.slice A3 M3 cap3) i L3 ∧ RowIn w w10 bm (.slice (some ⟨bn, on, none⟩) n cn) now ∧ RowIn w w10 bm (.slice (some ⟨b7, o7, none⟩) n c7) x ∧ mapI w10 bm L3.length D) := ⟨H9.out.1.below hb8, H9.out.2.1.keepRow hb8, H9.out.2.2.1.keepRow hb8, H9.out.2.2.2.block (hb8.block bm H9.out.2.2.2.lt)⟩; clear hb8; have k3 : Hid True := trivial)
            | (at_lookup; have h_ := t0.out; clear h_ t0; refine wpList_lookup_own_ok_int _ rfl _ _ 50 rfl 9 3 .i64 lawS Tryd.underlying50 Tryd.underlying3 (zeroI _) bm _ D rfl H8.out.2.2.2 _ _ rfl (keyN HX.out.2.2.2 h4 HX.out.2.2.1) ?_; intro c0 hat0 hwc0; rw [HHAS.out]; clear hat0 hwc0)
            | (at_lookup; refine wpList_lookup_own_int _ rfl _ _ 50 rfl 9 3 .i64 lawS Tryd.underlying50 Tryd.underlying3 (zeroI _) bm _ D rfl H10.out.2.2.2 _ _ rfl (keyN HP.out.2.2.1 h4 HP.out.2.1) ?_; intro cc hat hwc; obtain rfl : cc = (dd : Int) := (by have h := hat.symm.trans (HDD.out.1.hit now dd HX.out.2.1).1; injection h with h; injection h); clear hat hwc)
            | (at_mapUpdate; refine wpList_mapUpdate_own _ rfl _ _ _ 50 rfl 9 3 lawS Tryd.underlying50 _ bm L3.length D rfl H10.out.2.2.2 (by unfold maxLen; omega) _ _ _ rfl rfl (keyN HX.out.2.2.2 h4 HX.out.2.2.1) _ [] (plainElem_int Tryd.underlying3 (WalkArith.wf_i64 (by omega))) ?_; intro w11 hm11 hg11; obtain ⟨vs, hq11, hs11, hl11, hnx11⟩ := H10.out.1.added HX.out.1 ⟨HX.out.2.2.1, HX.out.2.2.2⟩ HKF.out HDD.out.1 (d := dd) hm11 hg11 H10.out.2.2.1 H10.out.2.1; have HQ : Hid (Que w w11 (.slice A3 M3 cap3) vs ∧ w.heap.size ≤ w11.heap.size ∧ vs.length ≤ 1048576) := ⟨hq11, hs11, by omega⟩; have HNX := Lib.hid hnx11; clear hq11 hs11 hl11 hnx11 hm11 hg11)
            | (at_builtin; refine queApp rfl _ _ rfl w w11 (.slice A3 M3 cap3) vs rfl HQ.out.1 (some ⟨b7, o7, none⟩) n c7 rfl HQ.out.2.2 HQ.out.2.1 ?_; intro v12 w12 hq12 hb12 ho12 _; have H12 := Lib.hid (HNX.out v12 w12 hq12 hb12 ho12); obtain ⟨A12, M12, cap12, rfl, hl12⟩ := H12.out.1.form; have HL12 := Lib.hid hl12; clear hq12 hb12 ho12 hl12))
          all_goals first | exact ⟨⟨up + 1, M12, cap12, A12, by go_num, rfl, by omega, by omega, by rw [HAD.out]; exact ⟨H12.out.1, HL12.out, H12.out.2⟩⟩, by simp [intOf]; omega⟩
theorem implFewCh_std (va : Value) (a : List Int) (vb : Value) (b : List Int) (r : Int) (w : World) (ha : InI w va a) (na : a.length ≤ 1048576) (hb : InI w vb b) (nb : b.length ≤ 1048576) (_hr : (Lit.int .i64 r).wf = true) (ht : tabP w) :
    Calls Tryd.prog 7 #[va, vb, .int .i64 r] w fun e w' => e = .returned (.int .i64 (fewF a b r)) ∧ Below w.heap.size w w' := by
  have ha0 := ha
  have hb0 := hb
  obtain ⟨A, c, rfl, hc, hm, hsa⟩ := ha
  obtain ⟨B, d, rfl, hd, hm2, hsb⟩ := hb
  exact implFewCh_core A B c d _ _ a b r w ⟨rfl, rfl⟩ ⟨ha0, hb0, hsa, hsb⟩ ht hc hm hd hm2 na nb
end Go.Proofs.YtbipjmaeclgldaaDoor
