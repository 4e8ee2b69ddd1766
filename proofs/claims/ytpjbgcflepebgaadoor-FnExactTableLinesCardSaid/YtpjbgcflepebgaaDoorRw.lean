/- Records of clubs: the walks (print/rec.py). -/
import Derived.Test.YtpjbgcflepebgaaDoorRc
import Derived.Test.YtpjbgcflepebgaaDoorGq
import Derived.OwnWalk
namespace Go.Proofs.YtpjbgcflepebgaaDoor
open Go.ChangeShapes Go.WideShapes Go.ChangeAt Go.RowKit

/-- Three counts in one block. -/
structure Cnt (w : World) (g : Nat) (a b c : Int) : Prop where
  c0 : w.cell? ⟨g, 0, none⟩ = some (.int .i64 a)
  c1 : w.cell? ⟨g, 1, none⟩ = some (.int .i64 b)
  c2 : w.cell? ⟨g, 2, none⟩ = some (.int .i64 c)
  f0 : w.frozen? ⟨g, 0, none⟩ = false
  f1 : w.frozen? ⟨g, 1, none⟩ = false
  f2 : w.frozen? ⟨g, 2, none⟩ = false
  lt : g < w.heap.size
theorem Cnt.below {w w' : World} {g : Nat} {a b c : Int} (h : Cnt w g a b c) (hb : Below w.heap.size w w') : Cnt w' g a b c :=
  ⟨(hb.cell (p := ⟨g, 0, none⟩) h.lt).trans h.c0, (hb.cell (p := ⟨g, 1, none⟩) h.lt).trans h.c1, (hb.cell (p := ⟨g, 2, none⟩) h.lt).trans h.c2,
    (hb.frozen (p := ⟨g, 0, none⟩) h.lt).trans h.f0, (hb.frozen (p := ⟨g, 1, none⟩) h.lt).trans h.f1, (hb.frozen (p := ⟨g, 2, none⟩) h.lt).trans h.f2, Nat.lt_of_lt_of_le h.lt hb.size⟩
theorem Cnt.set0 {w : World} {g : Nat} {a b c : Int} (h : Cnt w g a b c) (x : Int) : Cnt (w.setCell ⟨g, 0, none⟩ (.int .i64 x)) g x b c :=
  ⟨World.cell?_setCell_same _ _ _ h.c0, (World.cell?_setCell_other _ _ _ _ (by simp)).trans h.c1, (World.cell?_setCell_other _ _ _ _ (by simp)).trans h.c2, by rw [World.frozen?_setCell]; exact h.f0, by rw [World.frozen?_setCell]; exact h.f1, by rw [World.frozen?_setCell]; exact h.f2, by have := h.lt; simpa [World.setCell] using this⟩
theorem Cnt.set1 {w : World} {g : Nat} {a b c : Int} (h : Cnt w g a b c) (x : Int) : Cnt (w.setCell ⟨g, 1, none⟩ (.int .i64 x)) g a x c :=
  ⟨(World.cell?_setCell_other _ _ _ _ (by simp)).trans h.c0, World.cell?_setCell_same _ _ _ h.c1, (World.cell?_setCell_other _ _ _ _ (by simp)).trans h.c2, by rw [World.frozen?_setCell]; exact h.f0, by rw [World.frozen?_setCell]; exact h.f1, by rw [World.frozen?_setCell]; exact h.f2, by have := h.lt; simpa [World.setCell] using this⟩
theorem Cnt.set2 {w : World} {g : Nat} {a b c : Int} (h : Cnt w g a b c) (x : Int) : Cnt (w.setCell ⟨g, 2, none⟩ (.int .i64 x)) g a b x :=
  ⟨(World.cell?_setCell_other _ _ _ _ (by simp)).trans h.c0, (World.cell?_setCell_other _ _ _ _ (by simp)).trans h.c1, World.cell?_setCell_same _ _ _ h.c2, by rw [World.frozen?_setCell]; exact h.f0, by rw [World.frozen?_setCell]; exact h.f1, by rw [World.frozen?_setCell]; exact h.f2, by have := h.lt; simpa [World.setCell] using this⟩
theorem setCell_below {w w1 : World} {B g : Nat} {k : Nat} {u : Value} (hb : Below B w w1) (hg : B ≤ g) : Below B w (w1.setCell ⟨g, k, none⟩ u) :=
  ⟨hb.os, hb.tape, hb.output, by have := hb.size; simpa [World.setCell] using this, fun i hi => by rw [Below.heap_setCell _ _ _ _ (by simp only; omega)]; exact hb.block i hi⟩
theorem recN_hit {c k o : Int} {rs : List Res} {j : Nat} {r : Res} (h : rs[j]? = some r) (hh : r.h = c ∨ r.a = c) (ho : outc r c = o) : recN c k (rs.take (j + 1)) = recN c k (rs.take j) + (if o = k then 1 else 0) := by
  rw [recN_snoc h]
  congr 1
  unfold hits
  have e1 : (r.h == c || r.a == c) = true := by rcases hh with hh | hh <;> simp [hh]
  rw [e1, ho]
  by_cases e : o = k <;> simp [e]
theorem recN_miss {c k : Int} {rs : List Res} {j : Nat} {r : Res} (h : rs[j]? = some r) (h1 : ¬ r.h = c) (h2 : ¬ r.a = c) : recN c k (rs.take (j + 1)) = recN c k (rs.take j) := by
  rw [recN_snoc h]
  unfold hits
  have e1 : (r.h == c || r.a == c) = false := by simp [h1, h2]
  rw [e1]; simp

set_option maxHeartbeats 8000000 in
set_option maxRecDepth 100000 in
theorem implRecordOf_any (v : Value) (x : LeagueV) (c0 : Int) (w : World) (hs : InL w v x) (hok : leagueB x = true) (hc0 : 0 ≤ c0) (hc1 : c0 < x.clubs) :
    Calls Tryd.prog 22 #[v, .int .i64 c0] w fun e w' => e = .returned (.tuple #[.int .i64 (recN c0 2 x.results), .int .i64 (recN c0 1 x.results), .int .i64 (recN c0 0 x.results)]) ∧ Below w.heap.size w w' := by
  have HIL := Lib.hid hs
  obtain ⟨l1, l2, l3, l4⟩ := leagueB_t hok
  have HOK := Lib.hid hok
  obtain ⟨A, c, rfl, hc, hm, hs, hw⟩ := hs
  have hin : inB c0 0 (x.clubs - 1) = true := inB_t.2 (by omega)
  have HIN := Lib.hid hin
  have HS := Lib.hid hs
  have HA := Lib.hid l4
  clear hs hok l4 hin hw
  unfold maxLen at hm
  generalize hl : x.results.length = len at *
  have HL := Lib.hid hl
  clear hl
  have W1 : Hid (InL (w.alloc (.cells #[.int .i64 x.clubs, .slice A len c] 30)) (.agg #[.int .i64 x.clubs, .slice A len c]) x ∧ Below w.heap.size w (w.alloc (.cells #[.int .i64 x.clubs, .slice A len c] 30)) ∧ (w.alloc (.cells #[.int .i64 x.clubs, .slice A len c] 30)).cell? ⟨w.heap.size, 0, none⟩ = some (.int .i64 x.clubs) ∧ (w.alloc (.cells #[.int .i64 x.clubs, .slice A len c] 30)).cell? ⟨w.heap.size, 1, none⟩ = some (.slice A len c) ∧ w.heap.size < (w.alloc (.cells #[.int .i64 x.clubs, .slice A len c] 30)).heap.size) :=
    ⟨HIL.out.below ((Below.refl _ w).alloc (Nat.le_refl _) _), (Below.refl _ w).alloc (Nat.le_refl _) _, by simp, by simp, by simp⟩
  go_enter Tryd.func22, Tryd.ntmps22
  go_wp2_with fail
  generalize w.alloc (.cells #[.int .i64 x.clubs, .slice A len c] 30) = w1 at *
  refine (implLeagueOk_any _ x w1 W1.out.1).mono ?_
  rintro e w2 ⟨rfl, hb⟩
  rw [HOK.out]
  have W2 : Hid (Below w.heap.size w w2 ∧ w2.cell? ⟨w.heap.size, 0, none⟩ = some (.int .i64 x.clubs) ∧ w2.cell? ⟨w.heap.size, 1, none⟩ = some (.slice A len c) ∧ w.heap.size < w2.heap.size) :=
    ⟨W1.out.2.1.trans (hb.mono W1.out.2.1.size), (hb.cell (p := ⟨w.heap.size, 0, none⟩) W1.out.2.2.2.2).trans W1.out.2.2.1, (hb.cell (p := ⟨w.heap.size, 1, none⟩) W1.out.2.2.2.2).trans W1.out.2.2.2.1, Nat.lt_of_lt_of_le W1.out.2.2.2.2 hb.size⟩
  clear hb
  have q0 := W2.out.2.1
  have q1 := W2.out.2.2.1
  have hz := W2.out.2.2.2
  go_wp2_with fail
  refine (has_any x.clubs (.slice A len c) c0 _ l1 l2).mono ?_
  rintro e w3 ⟨rfl, hb⟩
  rw [HIN.out]
  have W3 : Hid (Below w.heap.size w w3 ∧ w3.cell? ⟨w.heap.size, 0, none⟩ = some (.int .i64 x.clubs) ∧ w3.cell? ⟨w.heap.size, 1, none⟩ = some (.slice A len c) ∧ w.heap.size < w3.heap.size) :=
    ⟨W2.out.1.trans (hb.mono W2.out.1.size), (hb.cell (p := ⟨w.heap.size, 0, none⟩) W2.out.2.2.2).trans W2.out.2.1, (hb.cell (p := ⟨w.heap.size, 1, none⟩) W2.out.2.2.2).trans W2.out.2.2.1, Nat.lt_of_lt_of_le W2.out.2.2.2 hb.size⟩
  clear hb q0 q1 hz
  have q0 := W3.out.2.1
  have q1 := W3.out.2.2.1
  have hz := W3.out.2.2.2
  have hzn : ¬ w.heap.size = w3.heap.size := by omega
  go_wp2_with fail
  have F1 : Hid (Below w.heap.size w (w3.alloc (.cells #[.int .i64 0, .int .i64 0, .int .i64 0] 66)) ∧ Cnt (w3.alloc (.cells #[.int .i64 0, .int .i64 0, .int .i64 0] 66)) w3.heap.size ((recN c0 0 (x.results.take 0) : Nat) : Int) ((recN c0 1 (x.results.take 0) : Nat) : Int) ((recN c0 2 (x.results.take 0) : Nat) : Int)) :=
    ⟨W3.out.1.alloc W3.out.1.size _, by constructor <;> simp [recN]⟩
  generalize w3.alloc (.cells #[.int .i64 0, .int .i64 0, .int .i64 0] 66) = w4 at *
  generalize hg : w3.heap.size = g at *
  have hwg : w.heap.size ≤ g := by omega
  clear hg q0 q1 hz hzn W3 W2 W1
  go_loopw [22] (fun i wr => ∃ j : Nat, j ≤ len ∧ i = .int .i64 j ∧ Hid (Below w.heap.size w wr ∧ Cnt wr g ((recN c0 0 (x.results.take j) : Nat) : Int) ((recN c0 1 (x.results.take j) : Nat) : Int) ((recN c0 2 (x.results.take j) : Nat) : Int))) (fun i _ => len - (intOf i).toNat)
  case atStart => exact ⟨0, Nat.zero_le _, rfl, F1.out⟩
  case round =>
    obtain ⟨j, hj, rfl, HR⟩ := hrel
    clear F1
    have n0 : recN c0 0 (x.results.take j) ≤ 60 := by have := recN_le c0 0 (x.results.take j); rw [List.length_take] at this; omega
    have n1 : recN c0 1 (x.results.take j) ≤ 60 := by have := recN_le c0 1 (x.results.take j); rw [List.length_take] at this; omega
    have n2 : recN c0 2 (x.results.take j) ≤ 60 := by have := recN_le c0 2 (x.results.take j); rw [List.length_take] at this; omega
    by_cases hlt : j < len
    case neg =>
      obtain rfl : len = j := by omega
      have HE : Hid (x.results.take len = x.results) := by show _ = _; rw [List.take_of_length_le (by rw [HL.out]; exact Nat.le_refl _)]
      rw [HE.out] at HR n0 n1 n2
      obtain ⟨k0, k1, k2, _, _, _, kl⟩ := HR.out.2
      go_wp2
      go_quiet (fail)
      go_wp2
      go_ret3
      exact ⟨rfl, below_drewN HR.out.1 _⟩
    obtain ⟨b, off, r, rfl, hr, p0, p1, p2, p3, hbl⟩ := SlR.at_ (SlR.below HS.out HR.out.1) (k := j) (by rw [HL.out]; exact hlt)
    have hB := resB_goals (List.all_eq_true.1 HA.out r (List.mem_of_getElem? hr))
    have hhit := fun k (o : Int) => @recN_hit c0 k o x.results j r hr
    have hmiss := fun k => @recN_miss c0 k x.results j r hr
    have hrng := outc_rng r c0
    obtain ⟨rh, ra, rg, rt⟩ := r
    simp only at *
    obtain ⟨a1, a2, a3, a4, a5, a6, a7, a8, a9⟩ := hB
    obtain ⟨o, eo⟩ : ∃ o, outc ⟨rh, ra, rg, rt⟩ c0 = o := ⟨_, rfl⟩
    have HO : Hid (∀ W, Calls Tryd.prog 43 #[.agg #[.int .i64 rh, .int .i64 ra, .int .i64 rg, .int .i64 rt], .int .i64 c0] W fun e w' => e = .returned (.int .i64 o) ∧ Below W.heap.size W w') := fun W => by have := outcome_any rh ra rg rt c0 W; rw [← eo]; exact this
    rw [eo] at hrng
    have HHIT : Hid (rh = c0 ∨ ra = c0 → ∀ k : Int, recN c0 k (x.results.take (j + 1)) = recN c0 k (x.results.take j) + (if o = k then 1 else 0)) := fun h k => hhit k o h eo
    have HMISS : Hid (¬ rh = c0 → ¬ ra = c0 → ∀ k : Int, recN c0 k (x.results.take (j + 1)) = recN c0 k (x.results.take j)) := fun h1 h2 k => hmiss k h1 h2
    clear hr hhit hmiss eo
    have HB : Hid (Below w.heap.size w (wr.alloc (.cells #[.int .i64 rh, .int .i64 ra, .int .i64 rg, .int .i64 rt] 52)) ∧ Below wr.heap.size wr (wr.alloc (.cells #[.int .i64 rh, .int .i64 ra, .int .i64 rg, .int .i64 rt] 52))) := ⟨HR.out.1.alloc HR.out.1.size _, (Below.refl _ wr).alloc (Nat.le_refl _) _⟩
    have hmt : (¬ rh = c0 ∧ ¬ ra = c0) ∨ ((rh == c0) = true) ∨ ((rh == c0) = false ∧ (ra == c0) = true) := by
      by_cases h1 : rh = c0
      · exact .inr (.inl (by simp [h1]))
      · by_cases h2 : ra = c0
        · exact .inr (.inr ⟨by simp [h1], by simp [h2]⟩)
        · exact .inl ⟨h1, h2⟩
    rcases hmt with ⟨h1, h2⟩ | hmt
    · have t1 : (rh == c0) = false := beq_eq_false_iff_ne.2 h1
      have t2 : (ra == c0) = false := beq_eq_false_iff_ne.2 h2
      have HM : Hid (∀ k : Int, recN c0 k (x.results.take (j + 1)) = recN c0 k (x.results.take j)) := HMISS.out h1 h2
      clear h1 h2 HO HHIT HMISS
      go_wp2
      go_roundw
      case rel => exact ⟨j + 1, by omega, by go_num, HB.out.1, by rw [HM.out, HM.out, HM.out]; exact HR.out.2.below HB.out.2⟩
      case measure => simp [intOf]; omega
    have HM : Hid (∀ k : Int, recN c0 k (x.results.take (j + 1)) = recN c0 k (x.results.take j) + (if o = k then 1 else 0)) := HHIT.out (by rcases hmt with h | ⟨_, h⟩ <;> simp at h <;> simp [h])
    clear HHIT HMISS
    obtain ⟨N0, hN0⟩ : ∃ N : Nat, recN c0 0 (x.results.take j) = N := ⟨_, rfl⟩
    obtain ⟨N1, hN1⟩ : ∃ N : Nat, recN c0 1 (x.results.take j) = N := ⟨_, rfl⟩
    obtain ⟨N2, hN2⟩ : ∃ N : Nat, recN c0 2 (x.results.take j) = N := ⟨_, rfl⟩
    have HN := Lib.hid (And.intro hN0 (And.intro hN1 hN2))
    rw [hN0] at HR n0
    rw [hN1] at HR n1
    rw [hN2] at HR n2
    clear hN0 hN1 hN2
    have ho : o = 0 ∨ o = 1 ∨ o = 2 := by omega
    rcases ho with rfl | rfl | rfl
    · have HX : Hid (recN c0 0 (x.results.take (j + 1)) = N0 + 1 ∧ recN c0 1 (x.results.take (j + 1)) = N1 ∧ recN c0 2 (x.results.take (j + 1)) = N2) := ⟨by rw [HM.out, HN.out.1]; rfl, by rw [HM.out, HN.out.2.1]; rfl, by rw [HM.out, HN.out.2.2]; rfl⟩
      clear HM HN
      rcases hmt with t1 | ⟨t1, t2⟩
      all_goals
        go_wp2_with (go_at_call 43; refine (HO.out _).mono ?_; rintro e w5 ⟨rfl, hb⟩; have H5 : Hid (Below w.heap.size w w5 ∧ Cnt w5 g N0 N1 N2) := ⟨HB.out.1.trans (hb.mono HB.out.1.size), (HR.out.2.below HB.out.2).below hb⟩; clear hb; obtain ⟨k0, k1, k2, y0, y1, y2, kl⟩ := H5.out.2)
        go_roundw
        case rel => exact ⟨j + 1, by omega, by go_num, setCell_below H5.out.1 hwg, by rw [HX.out.1, HX.out.2.1, HX.out.2.2]; exact H5.out.2.set0 _⟩
        case measure => simp [intOf]; omega
    · have HX : Hid (recN c0 0 (x.results.take (j + 1)) = N0 ∧ recN c0 1 (x.results.take (j + 1)) = N1 + 1 ∧ recN c0 2 (x.results.take (j + 1)) = N2) := ⟨by rw [HM.out, HN.out.1]; rfl, by rw [HM.out, HN.out.2.1]; rfl, by rw [HM.out, HN.out.2.2]; rfl⟩
      clear HM HN
      rcases hmt with t1 | ⟨t1, t2⟩
      all_goals
        go_wp2_with (go_at_call 43; refine (HO.out _).mono ?_; rintro e w5 ⟨rfl, hb⟩; have H5 : Hid (Below w.heap.size w w5 ∧ Cnt w5 g N0 N1 N2) := ⟨HB.out.1.trans (hb.mono HB.out.1.size), (HR.out.2.below HB.out.2).below hb⟩; clear hb; obtain ⟨k0, k1, k2, y0, y1, y2, kl⟩ := H5.out.2)
        go_roundw
        case rel => exact ⟨j + 1, by omega, by go_num, setCell_below H5.out.1 hwg, by rw [HX.out.1, HX.out.2.1, HX.out.2.2]; exact H5.out.2.set1 _⟩
        case measure => simp [intOf]; omega
    · have HX : Hid (recN c0 0 (x.results.take (j + 1)) = N0 ∧ recN c0 1 (x.results.take (j + 1)) = N1 ∧ recN c0 2 (x.results.take (j + 1)) = N2 + 1) := ⟨by rw [HM.out, HN.out.1]; rfl, by rw [HM.out, HN.out.2.1]; rfl, by rw [HM.out, HN.out.2.2]; rfl⟩
      clear HM HN
      rcases hmt with t1 | ⟨t1, t2⟩
      all_goals
        go_wp2_with (go_at_call 43; refine (HO.out _).mono ?_; rintro e w5 ⟨rfl, hb⟩; have H5 : Hid (Below w.heap.size w w5 ∧ Cnt w5 g N0 N1 N2) := ⟨HB.out.1.trans (hb.mono HB.out.1.size), (HR.out.2.below HB.out.2).below hb⟩; clear hb; obtain ⟨k0, k1, k2, y0, y1, y2, kl⟩ := H5.out.2)
        go_roundw
        case rel => exact ⟨j + 1, by omega, by go_num, setCell_below H5.out.1 hwg, by rw [HX.out.1, HX.out.2.1, HX.out.2.2]; exact H5.out.2.set2 _⟩
        case measure => simp [intOf]; omega

set_option maxHeartbeats 2000000 in
set_option maxRecDepth 100000 in
theorem l12Club_ok (v : Value) (x : LeagueV) (c0 : Int) (w : World) (hs : InL w v x) (hok : leagueB x = true) (hc0 : 0 ≤ c0) (hc1 : c0 < x.clubs) :
    Calls Tryd.prog 33 #[v, .int .i64 c0] w fun e w' => e = .returned (.bool true) ∧ Below w.heap.size w w' := by
  have HIL := Lib.hid hs
  obtain ⟨l1, l2, l3, l4⟩ := leagueB_t hok
  have HOK := Lib.hid hok
  obtain ⟨A, c, rfl, hc, hm, hs, hw⟩ := hs
  have hin : inB c0 0 (x.clubs - 1) = true := inB_t.2 (by omega)
  have HIN := Lib.hid hin
  clear hs hok l4 hin hw
  unfold maxLen at hm
  generalize x.results.length = len at *
  have W1 : Hid (InL (w.alloc (.cells #[.int .i64 x.clubs, .slice A len c] 30)) (.agg #[.int .i64 x.clubs, .slice A len c]) x ∧ Below w.heap.size w (w.alloc (.cells #[.int .i64 x.clubs, .slice A len c] 30)) ∧ (w.alloc (.cells #[.int .i64 x.clubs, .slice A len c] 30)).cell? ⟨w.heap.size, 0, none⟩ = some (.int .i64 x.clubs) ∧ w.heap.size < (w.alloc (.cells #[.int .i64 x.clubs, .slice A len c] 30)).heap.size) :=
    ⟨HIL.out.below ((Below.refl _ w).alloc (Nat.le_refl _) _), (Below.refl _ w).alloc (Nat.le_refl _) _, by simp, by simp⟩
  go_enter Tryd.func33, Tryd.ntmps33
  go_wp2_with fail
  generalize w.alloc (.cells #[.int .i64 x.clubs, .slice A len c] 30) = w1 at *
  refine (specLeagueOk_any _ x w1 W1.out.1).mono ?_
  rintro e w2 ⟨rfl, hb⟩
  rw [HOK.out]
  have W2 : Hid (Below w.heap.size w w2) := W1.out.2.1.trans (hb.mono W1.out.2.1.size)
  have q0 : w2.cell? ⟨w.heap.size, 0, none⟩ = some (.int .i64 x.clubs) := (hb.cell (p := ⟨w.heap.size, 0, none⟩) W1.out.2.2.2).trans W1.out.2.2.1
  clear hb
  go_wp2_with fail
  refine (l01In_any c0 0 (x.clubs - 1) w2).mono ?_
  rintro e w3 ⟨rfl, rfl⟩
  rw [HIN.out]
  go_wp2
  go_ret
  exact ⟨rfl, W2.out⟩

set_option maxHeartbeats 8000000 in
set_option maxRecDepth 100000 in
theorem specRecordOf_any (v : Value) (x : LeagueV) (c0 : Int) (w : World) (hs : InL w v x) (hok : leagueB x = true) (hc0 : 0 ≤ c0) (hc1 : c0 < x.clubs) :
    Calls Tryd.prog 17 #[v, .int .i64 c0] w fun e w' => e = .returned (.tuple #[.int .i64 (recN c0 2 x.results), .int .i64 (recN c0 1 x.results), .int .i64 (recN c0 0 x.results)]) ∧ Below w.heap.size w w' := by
  have HIL := Lib.hid hs
  have HCL := Lib.hid (fun W (h : InL W v x) => l12Club_ok v x c0 W h hok hc0 hc1)
  obtain ⟨l1, l2, l3, l4⟩ := leagueB_t hok
  obtain ⟨A, c, rfl, hc, hm, hs, hw⟩ := hs
  have HS := Lib.hid hs
  have HA := Lib.hid l4
  clear hs hok l4 hw
  unfold maxLen at hm
  generalize hl : x.results.length = len at *
  have HL := Lib.hid hl
  clear hl
  have W1 : Hid (InL (w.alloc (.cells #[.int .i64 x.clubs, .slice A len c] 30)) (.agg #[.int .i64 x.clubs, .slice A len c]) x ∧ Below w.heap.size w (w.alloc (.cells #[.int .i64 x.clubs, .slice A len c] 30)) ∧ (w.alloc (.cells #[.int .i64 x.clubs, .slice A len c] 30)).cell? ⟨w.heap.size, 1, none⟩ = some (.slice A len c) ∧ w.heap.size < (w.alloc (.cells #[.int .i64 x.clubs, .slice A len c] 30)).heap.size) :=
    ⟨HIL.out.below ((Below.refl _ w).alloc (Nat.le_refl _) _), (Below.refl _ w).alloc (Nat.le_refl _) _, by simp, by simp⟩
  go_enter Tryd.func17, Tryd.ntmps17
  go_wp2_with fail
  generalize w.alloc (.cells #[.int .i64 x.clubs, .slice A len c] 30) = w1 at *
  refine (HCL.out w1 W1.out.1).mono ?_
  rintro e w2 ⟨rfl, hb⟩
  have W2 : Hid (Below w.heap.size w w2) := W1.out.2.1.trans (hb.mono W1.out.2.1.size)
  have q1 : w2.cell? ⟨w.heap.size, 1, none⟩ = some (.slice A len c) := (hb.cell (p := ⟨w.heap.size, 1, none⟩) W1.out.2.2.2).trans W1.out.2.2.1
  clear hb
  go_wp2_with fail
  go_loopw [7, 8, 9, 21] (fun a b d i wr => ∃ j : Nat, j ≤ len ∧ i = .int .i64 j ∧ a = .int .i64 ((recN c0 2 (x.results.take j) : Nat) : Int) ∧ b = .int .i64 ((recN c0 1 (x.results.take j) : Nat) : Int) ∧ d = .int .i64 ((recN c0 0 (x.results.take j) : Nat) : Int) ∧ Hid (Below w.heap.size w wr)) (fun _ _ _ i _ => len - (intOf i).toNat)
  case atStart => exact ⟨0, Nat.zero_le _, rfl, by simp [recN], by simp [recN], by simp [recN], W2.out⟩
  case round =>
    obtain ⟨j, hj, rfl, rfl, rfl, rfl, HR⟩ := hrel
    clear q1
    have n0 : recN c0 0 (x.results.take j) ≤ 60 := by have := recN_le c0 0 (x.results.take j); rw [List.length_take] at this; omega
    have n1 : recN c0 1 (x.results.take j) ≤ 60 := by have := recN_le c0 1 (x.results.take j); rw [List.length_take] at this; omega
    have n2 : recN c0 2 (x.results.take j) ≤ 60 := by have := recN_le c0 2 (x.results.take j); rw [List.length_take] at this; omega
    by_cases hlt : j < len
    case neg =>
      obtain rfl : len = j := by omega
      have HE : Hid (x.results.take len = x.results) := by show _ = _; rw [List.take_of_length_le (by rw [HL.out]; exact Nat.le_refl _)]
      rw [HE.out] at n0 n1 n2
      rw [HE.out]
      go_wp2
      go_ret3
      exact ⟨rfl, HR.out⟩
    obtain ⟨b, off, r, rfl, hr, p0, p1, p2, p3, hbl⟩ := SlR.at_ (SlR.below HS.out HR.out) (k := j) (by rw [HL.out]; exact hlt)
    have hB := resB_goals (List.all_eq_true.1 HA.out r (List.mem_of_getElem? hr))
    have hhit := fun k (o : Int) => @recN_hit c0 k o x.results j r hr
    have hmiss := fun k => @recN_miss c0 k x.results j r hr
    have hrng := outc_rng r c0
    have hpts := fun h => outc_pts r c0 hB.2.2.2.2.1 h
    obtain ⟨rh, ra, rg, rt⟩ := r
    simp only at *
    obtain ⟨a1, a2, a3, a4, a5, a6, a7, a8, a9⟩ := hB
    obtain ⟨o, eo⟩ : ∃ o, outc ⟨rh, ra, rg, rt⟩ c0 = o := ⟨_, rfl⟩
    rw [eo] at hrng hpts
    have HP := Lib.hid (fun W => l12Points_any rh ra rg rt W)
    have HHIT : Hid (rh = c0 ∨ ra = c0 → ∀ k : Int, recN c0 k (x.results.take (j + 1)) = recN c0 k (x.results.take j) + (if o = k then 1 else 0)) := fun h k => hhit k o h eo
    have HMISS : Hid (¬ rh = c0 → ¬ ra = c0 → ∀ k : Int, recN c0 k (x.results.take (j + 1)) = recN c0 k (x.results.take j)) := fun h1 h2 k => hmiss k h1 h2
    have HPT := Lib.hid hpts
    clear hr hhit hmiss eo hpts
    have HB : Hid (Below w.heap.size w (wr.alloc (.cells #[.int .i64 rh, .int .i64 ra, .int .i64 rg, .int .i64 rt] 52))) := HR.out.alloc HR.out.size _
    have HQ : Hid ((wr.alloc (.cells #[.int .i64 rh, .int .i64 ra, .int .i64 rg, .int .i64 rt] 52)).cell? ⟨wr.heap.size, 1, none⟩ = some (.int .i64 ra) ∧ wr.heap.size < (wr.alloc (.cells #[.int .i64 rh, .int .i64 ra, .int .i64 rg, .int .i64 rt] 52)).heap.size) := ⟨by simp, by simp⟩
    have hmt : (¬ rh = c0 ∧ ¬ ra = c0) ∨ (rh = c0 ∧ ¬ ra = c0) ∨ (¬ rh = c0 ∧ ra = c0) := by omega
    rcases hmt with ⟨h1, h2⟩ | ⟨h1, h2⟩ | ⟨h1, h2⟩
    · have t1 : (rh != c0) = true := by simp [h1]
      have t2 : (ra != c0) = true := by simp [h2]
      have HM : Hid (∀ k : Int, recN c0 k (x.results.take (j + 1)) = recN c0 k (x.results.take j)) := HMISS.out h1 h2
      clear h1 h2 HHIT HMISS
      go_wp2
      go_roundw
      case rel => exact ⟨j + 1, by omega, by go_num, by rw [HM.out], by rw [HM.out], by rw [HM.out], HB.out⟩
      case measure => simp [intOf]; omega
    · have t1 : (rh != c0) = false := by simp [h1]
      have t2 : (ra != c0) = true := by simp [h2]
      have t3 : (ra == c0) = false := by simp [h2]
      have HM : Hid (∀ k : Int, recN c0 k (x.results.take (j + 1)) = recN c0 k (x.results.take j) + (if o = k then 1 else 0)) := HHIT.out (by omega)
      have HV : Hid (ptsOf rg rt = if o = 2 then 3 else o) := by have h := HPT.out (by omega); rw [if_neg h2] at h; exact h
      clear h1 h2 HHIT HMISS HPT
      obtain ⟨P1, HP1⟩ : ∃ P1, Hid (ptsOf rt rg = P1) := ⟨_, rfl⟩
      rw [HP1.out] at HP
      obtain ⟨N0, hN0⟩ : ∃ N : Nat, recN c0 0 (x.results.take j) = N := ⟨_, rfl⟩
      obtain ⟨N1, hN1⟩ : ∃ N : Nat, recN c0 1 (x.results.take j) = N := ⟨_, rfl⟩
      obtain ⟨N2, hN2⟩ : ∃ N : Nat, recN c0 2 (x.results.take j) = N := ⟨_, rfl⟩
      have HN := Lib.hid (And.intro hN0 (And.intro hN1 hN2))
      rw [hN0] at n0
      rw [hN1] at n1
      rw [hN2] at n2
      rw [hN0, hN1, hN2]
      clear hN0 hN1 hN2
      have ho : o = 0 ∨ o = 1 ∨ o = 2 := by omega
      rcases ho with rfl | rfl | rfl
      · have HV2 : Hid (ptsOf rg rt = 0) := by show _ = _; rw [HV.out]; rfl
        rw [HV2.out] at HP
        have HX : Hid (recN c0 0 (x.results.take (j + 1)) = N0 + 1 ∧ recN c0 1 (x.results.take (j + 1)) = N1 ∧ recN c0 2 (x.results.take (j + 1)) = N2) := ⟨by rw [HM.out, HN.out.1]; rfl, by rw [HM.out, HN.out.2.1]; rfl, by rw [HM.out, HN.out.2.2]; rfl⟩
        clear HM HV HN
        go_wp2_with (go_at_call 31; refine (HP.out _).mono ?_; rintro e w5 ⟨rfl, hb⟩; have q5 := (hb.cell (p := ⟨wr.heap.size, 1, none⟩) HQ.out.2).trans HQ.out.1; have H5 : Hid (Below w.heap.size w w5) := HB.out.trans (hb.mono HB.out.size); clear hb)
        go_roundw
        case rel => exact ⟨j + 1, by omega, by go_num, by rw [HX.out.2.2]; try go_num, by rw [HX.out.2.1]; try go_num, by rw [HX.out.1]; try go_num, H5.out⟩
        case measure => simp [intOf]; omega
      · have HV2 : Hid (ptsOf rg rt = 1) := by show _ = _; rw [HV.out]; rfl
        rw [HV2.out] at HP
        have HX : Hid (recN c0 0 (x.results.take (j + 1)) = N0 ∧ recN c0 1 (x.results.take (j + 1)) = N1 + 1 ∧ recN c0 2 (x.results.take (j + 1)) = N2) := ⟨by rw [HM.out, HN.out.1]; rfl, by rw [HM.out, HN.out.2.1]; rfl, by rw [HM.out, HN.out.2.2]; rfl⟩
        clear HM HV HN
        go_wp2_with (go_at_call 31; refine (HP.out _).mono ?_; rintro e w5 ⟨rfl, hb⟩; have q5 := (hb.cell (p := ⟨wr.heap.size, 1, none⟩) HQ.out.2).trans HQ.out.1; have H5 : Hid (Below w.heap.size w w5) := HB.out.trans (hb.mono HB.out.size); clear hb)
        go_roundw
        case rel => exact ⟨j + 1, by omega, by go_num, by rw [HX.out.2.2]; try go_num, by rw [HX.out.2.1]; try go_num, by rw [HX.out.1]; try go_num, H5.out⟩
        case measure => simp [intOf]; omega
      · have HV2 : Hid (ptsOf rg rt = 3) := by show _ = _; rw [HV.out]; rfl
        rw [HV2.out] at HP
        have HX : Hid (recN c0 0 (x.results.take (j + 1)) = N0 ∧ recN c0 1 (x.results.take (j + 1)) = N1 ∧ recN c0 2 (x.results.take (j + 1)) = N2 + 1) := ⟨by rw [HM.out, HN.out.1]; rfl, by rw [HM.out, HN.out.2.1]; rfl, by rw [HM.out, HN.out.2.2]; rfl⟩
        clear HM HV HN
        go_wp2_with (go_at_call 31; refine (HP.out _).mono ?_; rintro e w5 ⟨rfl, hb⟩; have q5 := (hb.cell (p := ⟨wr.heap.size, 1, none⟩) HQ.out.2).trans HQ.out.1; have H5 : Hid (Below w.heap.size w w5) := HB.out.trans (hb.mono HB.out.size); clear hb)
        go_roundw
        case rel => exact ⟨j + 1, by omega, by go_num, by rw [HX.out.2.2]; try go_num, by rw [HX.out.2.1]; try go_num, by rw [HX.out.1]; try go_num, H5.out⟩
        case measure => simp [intOf]; omega
    · have t1 : (rh != c0) = true := by simp [h1]
      have t2 : (ra != c0) = false := by simp [h2]
      have t3 : (ra == c0) = true := by simp [h2]
      have HM : Hid (∀ k : Int, recN c0 k (x.results.take (j + 1)) = recN c0 k (x.results.take j) + (if o = k then 1 else 0)) := HHIT.out (by omega)
      have HV : Hid (ptsOf rt rg = if o = 2 then 3 else o) := by have h := HPT.out (by omega); rw [if_pos h2] at h; exact h
      clear h1 h2 HHIT HMISS HPT
      obtain ⟨P1, HP1⟩ : ∃ P1, Hid (ptsOf rg rt = P1) := ⟨_, rfl⟩
      rw [HP1.out] at HP
      obtain ⟨N0, hN0⟩ : ∃ N : Nat, recN c0 0 (x.results.take j) = N := ⟨_, rfl⟩
      obtain ⟨N1, hN1⟩ : ∃ N : Nat, recN c0 1 (x.results.take j) = N := ⟨_, rfl⟩
      obtain ⟨N2, hN2⟩ : ∃ N : Nat, recN c0 2 (x.results.take j) = N := ⟨_, rfl⟩
      have HN := Lib.hid (And.intro hN0 (And.intro hN1 hN2))
      rw [hN0] at n0
      rw [hN1] at n1
      rw [hN2] at n2
      rw [hN0, hN1, hN2]
      clear hN0 hN1 hN2
      have ho : o = 0 ∨ o = 1 ∨ o = 2 := by omega
      rcases ho with rfl | rfl | rfl
      · have HV2 : Hid (ptsOf rt rg = 0) := by show _ = _; rw [HV.out]; rfl
        rw [HV2.out] at HP
        have HX : Hid (recN c0 0 (x.results.take (j + 1)) = N0 + 1 ∧ recN c0 1 (x.results.take (j + 1)) = N1 ∧ recN c0 2 (x.results.take (j + 1)) = N2) := ⟨by rw [HM.out, HN.out.1]; rfl, by rw [HM.out, HN.out.2.1]; rfl, by rw [HM.out, HN.out.2.2]; rfl⟩
        clear HM HV HN
        go_wp2_with (go_at_call 31; refine (HP.out _).mono ?_; rintro e w5 ⟨rfl, hb⟩; have q5 := (hb.cell (p := ⟨wr.heap.size, 1, none⟩) HQ.out.2).trans HQ.out.1; have H5 : Hid (Below w.heap.size w w5) := HB.out.trans (hb.mono HB.out.size); clear hb)
        go_roundw
        case rel => exact ⟨j + 1, by omega, by go_num, by rw [HX.out.2.2]; try go_num, by rw [HX.out.2.1]; try go_num, by rw [HX.out.1]; try go_num, H5.out⟩
        case measure => simp [intOf]; omega
      · have HV2 : Hid (ptsOf rt rg = 1) := by show _ = _; rw [HV.out]; rfl
        rw [HV2.out] at HP
        have HX : Hid (recN c0 0 (x.results.take (j + 1)) = N0 ∧ recN c0 1 (x.results.take (j + 1)) = N1 + 1 ∧ recN c0 2 (x.results.take (j + 1)) = N2) := ⟨by rw [HM.out, HN.out.1]; rfl, by rw [HM.out, HN.out.2.1]; rfl, by rw [HM.out, HN.out.2.2]; rfl⟩
        clear HM HV HN
        go_wp2_with (go_at_call 31; refine (HP.out _).mono ?_; rintro e w5 ⟨rfl, hb⟩; have q5 := (hb.cell (p := ⟨wr.heap.size, 1, none⟩) HQ.out.2).trans HQ.out.1; have H5 : Hid (Below w.heap.size w w5) := HB.out.trans (hb.mono HB.out.size); clear hb)
        go_roundw
        case rel => exact ⟨j + 1, by omega, by go_num, by rw [HX.out.2.2]; try go_num, by rw [HX.out.2.1]; try go_num, by rw [HX.out.1]; try go_num, H5.out⟩
        case measure => simp [intOf]; omega
      · have HV2 : Hid (ptsOf rt rg = 3) := by show _ = _; rw [HV.out]; rfl
        rw [HV2.out] at HP
        have HX : Hid (recN c0 0 (x.results.take (j + 1)) = N0 ∧ recN c0 1 (x.results.take (j + 1)) = N1 ∧ recN c0 2 (x.results.take (j + 1)) = N2 + 1) := ⟨by rw [HM.out, HN.out.1]; rfl, by rw [HM.out, HN.out.2.1]; rfl, by rw [HM.out, HN.out.2.2]; rfl⟩
        clear HM HV HN
        go_wp2_with (go_at_call 31; refine (HP.out _).mono ?_; rintro e w5 ⟨rfl, hb⟩; have q5 := (hb.cell (p := ⟨wr.heap.size, 1, none⟩) HQ.out.2).trans HQ.out.1; have H5 : Hid (Below w.heap.size w w5) := HB.out.trans (hb.mono HB.out.size); clear hb)
        go_roundw
        case rel => exact ⟨j + 1, by omega, by go_num, by rw [HX.out.2.2]; try go_num, by rw [HX.out.2.1]; try go_num, by rw [HX.out.1]; try go_num, H5.out⟩
        case measure => simp [intOf]; omega
end Go.Proofs.YtpjbgcflepebgaaDoor
