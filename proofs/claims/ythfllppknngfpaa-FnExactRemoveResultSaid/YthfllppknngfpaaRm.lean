/- A result struck: the reference's contract. -/
import Derived.Test.YthfllppknngfpaaRepl
import Derived.Test.YthfllppknngfpaaCu
namespace Go.Proofs.Ythfllppknngfpaa
open Go.ChangeShapes Go.WideShapes Go.ChangeAt Go.RowKit

def removeQ (x : LeagueV) (i : Int) : LeagueV := ⟨x.clubs, x.results.take i.toNat ++ x.results.drop (i.toNat + 1)⟩
def removeF (x : LeagueV) (i : Int) : LeagueV := if hasR x i then removeQ x i else ⟨0, []⟩
theorem removeF_len {x : LeagueV} {i : Int} (h : x.results.length ≤ 1048576) : (removeF x i).results.length ≤ 1048576 := by
  unfold removeF
  split
  · simp only [removeQ, List.length_append, List.length_take, List.length_drop]; omega
  · simp
theorem flat_takeR : ∀ (rs : List Res) (k : Nat), flat (rs.take k) = (flat rs).take (k * 4)
  | [], k => by simp [flat]
  | r :: rs, 0 => by simp [flat]
  | r :: rs, k + 1 => by
    rw [List.take_succ_cons, flat, flat, flat_takeR rs k, show (k + 1) * 4 = k * 4 + 1 + 1 + 1 + 1 from by omega]
    rfl
theorem flat_dropR : ∀ (rs : List Res) (k : Nat), flat (rs.drop k) = (flat rs).drop (k * 4)
  | [], k => by simp [flat]
  | r :: rs, 0 => by simp
  | r :: rs, k + 1 => by
    rw [List.drop_succ_cons, flat, flat_dropR rs k, show (k + 1) * 4 = k * 4 + 1 + 1 + 1 + 1 from by omega]
    rfl
theorem SlR.take_ {w : World} {A : Option Addr} {rs : List Res} (h : SlR w A rs) (k : Nat) : SlR w A (rs.take k) := by
  show SlI w A (flat (rs.take k))
  rw [flat_takeR]; exact SlI.take_ h _
theorem SlR.drop_ {w : World} {b off : Nat} {rs : List Res} (h : SlR w (some ⟨b, off, none⟩) rs) (k : Nat) : SlR w (some ⟨b, off + k * 4, none⟩) (rs.drop k) := by
  show SlI w _ (flat (rs.drop k))
  rw [flat_dropR]; exact SlI.drop_ h _
theorem ownsEd (W : World) : ((W.alloc (.cells #[] 48)).drew).ownsRow W.heap.size 48 4 (.slice (some ⟨W.heap.size, 0, none⟩) 0 0) 0 (ints (flat [])) := ownsE W _ W.heap.size rfl (Nat.le_refl _)
theorem belowEd {W W' : World} {o : Obj} (h : ∀ B, B ≤ W.heap.size → B ≤ ((W.alloc o).drew).heap.size → Below B (W.alloc o).drew W') : Below W.heap.size W W' := by
  have hb := h W.heap.size (Nat.le_refl _) (by show _ ≤ (W.alloc o).heap.size; simp)
  exact ((Below.refl W.heap.size W).alloc (Nat.le_refl _) o).trans ⟨hb.os, hb.tape, hb.output, hb.size, hb.block⟩
theorem slR_nil {w : World} {A : Option Addr} : SlR w A [] := .inl rfl

set_option maxHeartbeats 4000000 in
set_option maxRecDepth 100000 in
theorem specRemoveResult_std (v : Value) (x : LeagueV) (i : Int) (w : World) (hs : InL w v x) (hn : x.results.length ≤ 1048576) (_hi : (Lit.int .i64 i).wf = true) :
    Calls Try.prog 6 #[v, .int .i64 i] w fun e w' => ∃ v', e = .returned (.tuple #[v', .bool (hasR x i)]) ∧ OwL w' w.heap.size w'.heap.size v' (removeF x i) ∧ Below w.heap.size w w' := by
  have hs0 := hs
  obtain ⟨A, c, rfl, hc, hm, hsl, hw⟩ := hs
  have HS := Lib.hid (And.intro hs0 hsl)
  clear hs0 hsl
  have hcm : c ≤ 9223372036854775807 := by unfold maxLen at hm; omega
  cases h1 : hasR x i
  · have HO : Hid (removeF x i = ⟨0, []⟩) := by show _ = _; simp [removeF, h1]
    go_enter Try.func6, Try.ntmps6
    go_wp2_with fail
    refine (l27At_any _ x i _ (HS.out.1.below (((Below.refl _ w).alloc (Nat.le_refl _) _).alloc (by simp) _)) hn).mono ?_
    rintro e w1 ⟨rfl, hb⟩
    rw [h1]
    (try simp only [World.size_alloc] at hb)
    have r0 : w1.cell? ⟨w.heap.size + 1, 0, none⟩ = some (.int .i64 0) := by rw [hb.cell (p := ⟨w.heap.size + 1, 0, none⟩) (by show w.heap.size + 1 < _; first | omega | simp)]; simp [go_sem]
    have r1 : w1.cell? ⟨w.heap.size + 1, 1, none⟩ = some (.slice none 0 0) := by rw [hb.cell (p := ⟨w.heap.size + 1, 1, none⟩) (by show w.heap.size + 1 < _; first | omega | simp)]; simp [go_sem]
    have r2 : w1.frozen? ⟨w.heap.size + 1, 0, none⟩ = false := by rw [hb.frozen (p := ⟨w.heap.size + 1, 0, none⟩) (by show w.heap.size + 1 < _; first | omega | simp)]; simp [go_sem]
    have r3 : w1.frozen? ⟨w.heap.size + 1, 1, none⟩ = false := by rw [hb.frozen (p := ⟨w.heap.size + 1, 1, none⟩) (by show w.heap.size + 1 < _; first | omega | simp)]; simp [go_sem]
    have HB : Hid (Below w.heap.size w w1) := (((Below.refl _ w).alloc (Nat.le_refl _) _).alloc (by simp) _).trans (hb.mono (by first | omega | (simp; omega)))
    clear hb
    go_wp2
    have KP : Keep (w.heap.size + 1) (w.heap.size + 2) w1 ((w1.setCell ⟨w.heap.size + 1, 0, none⟩ (.int .i64 0)).setCell ⟨w.heap.size + 1, 1, none⟩ (.slice none 0 0)) :=
      ((Keep.refl _ _ _).setCell (p := ⟨w.heap.size + 1, 0, none⟩) (Nat.le_refl _) (Nat.lt_succ_self _) _).setCell (p := ⟨w.heap.size + 1, 1, none⟩) (Nat.le_refl _) (Nat.lt_succ_self _) _
    refine bodyPost_ret (v := .tuple #[.agg #[.int .i64 0, .slice none 0 0], .bool false]) (by simp [results, Try.results6, go_sem, r0, r1]) rfl ⟨_, rfl, ?_, HB.out.trans (KP.below (by omega) HB.out.size)⟩
    rw [HO.out]
    exact ⟨_, rfl, FrR.nil _ (Nat.le_refl _), by decide⟩
  · have hib : inB i 0 ((x.results.length : Int) - 1) = true := by
      unfold hasR at h1; rw [Bool.and_eq_true] at h1; exact h1.2
    obtain ⟨i1, i2⟩ := inB_t.1 hib
    obtain ⟨k, rfl⟩ := Int.eq_ofNat_of_zero_le i1
    have hk : k < x.results.length := by omega
    obtain ⟨b, off, rfl⟩ : ∃ b off, A = some ⟨b, off, none⟩ := by
      obtain ⟨b, off, _, h, _⟩ := HS.out.2.at_ hk
      exact ⟨b, off, h⟩
    have HO : Hid (removeF x k = ⟨x.clubs, x.results.take k ++ x.results.drop (k + 1)⟩) := by show _ = _; rw [removeF, h1, if_pos rfl, removeQ, Int.toNat_natCast]
    have H1 := Lib.hid h1
    have hTL : (x.results.take k).length = k ∧ (x.results.drop (k + 1)).length = x.results.length - (k + 1) := by constructor <;> simp <;> omega
    have HTL := Lib.hid hTL
    clear hib h1 hTL
    go_enter Try.func6, Try.ntmps6
    go_wp2_with fail
    refine (l27At_any _ x _ _ (HS.out.1.below (((Below.refl _ w).alloc (Nat.le_refl _) _).alloc (by simp) _)) hn).mono ?_
    rintro e w1 ⟨rfl, hb⟩
    rw [H1.out]
    (try simp only [World.size_alloc] at hb)
    have q0 : w1.cell? ⟨w.heap.size, 0, none⟩ = some (.int .i64 x.clubs) := by rw [hb.cell (p := ⟨w.heap.size, 0, none⟩) (by show w.heap.size < _; first | omega | simp)]; simp [go_sem]
    have q1 : w1.cell? ⟨w.heap.size, 1, none⟩ = some (.slice (some ⟨b, off, none⟩) x.results.length c) := by rw [hb.cell (p := ⟨w.heap.size, 1, none⟩) (by show w.heap.size < _; first | omega | simp)]; simp [go_sem]
    have r0 : w1.cell? ⟨w.heap.size + 1, 0, none⟩ = some (.int .i64 0) := by rw [hb.cell (p := ⟨w.heap.size + 1, 0, none⟩) (by show w.heap.size + 1 < _; first | omega | simp)]; simp [go_sem]
    have r1 : w1.cell? ⟨w.heap.size + 1, 1, none⟩ = some (.slice none 0 0) := by rw [hb.cell (p := ⟨w.heap.size + 1, 1, none⟩) (by show w.heap.size + 1 < _; first | omega | simp)]; simp [go_sem]
    have r2 : w1.frozen? ⟨w.heap.size + 1, 0, none⟩ = false := by rw [hb.frozen (p := ⟨w.heap.size + 1, 0, none⟩) (by show w.heap.size + 1 < _; first | omega | simp)]; simp [go_sem]
    have r3 : w1.frozen? ⟨w.heap.size + 1, 1, none⟩ = false := by rw [hb.frozen (p := ⟨w.heap.size + 1, 1, none⟩) (by show w.heap.size + 1 < _; first | omega | simp)]; simp [go_sem]
    have hsz : w.heap.size + 2 ≤ w1.heap.size := by have := hb.size; simp at this; omega
    have HB : Hid (Below w.heap.size w w1) := (((Below.refl _ w).alloc (Nat.le_refl _) _).alloc (by simp) _).trans (hb.mono (by first | omega | (simp; omega)))
    have S1 : Hid (SlR w1 (some ⟨b, off, none⟩) x.results) := SlI.below HS.out.2 HB.out
    clear hb
    have j1 : (0 : Int) ≤ (k : Int) := by omega
    have j2 : (k : Int) ≤ (c : Int) := by omega
    have j3 : (0 : Int) ≤ (k : Int) + 1 := by omega
    have j4 : (k : Int) + 1 ≤ (x.results.length : Int) := by omega
    have j5 : ((k : Int) + 1).toNat = k + 1 := by omega
    have j6 : IntKind.i64.wrap ((k : Int) + 1) = (k : Int) + 1 := by rw [IntKind.wrap_i64]; omega
    go_wp2_with fail
    have hq1 : Hid (0 + k ≤ 1048576) := by show _ ≤ _; omega
    have hq2 : Hid (w1.heap.size ≤ ((w1.alloc (.cells #[] 48)).drew).heap.size) := by show _ ≤ (w1.alloc _).heap.size; simp
    have KQ : Hid (∀ W, Below w1.heap.size w1 W → W.cell? ⟨w.heap.size, 0, none⟩ = some (.int .i64 x.clubs) ∧ W.cell? ⟨w.heap.size, 1, none⟩ = some (.slice (some ⟨b, off, none⟩) x.results.length c) ∧ W.cell? ⟨w.heap.size + 1, 0, none⟩ = some (.int .i64 0) ∧ W.cell? ⟨w.heap.size + 1, 1, none⟩ = some (.slice none 0 0) ∧ W.frozen? ⟨w.heap.size + 1, 0, none⟩ = false ∧ W.frozen? ⟨w.heap.size + 1, 1, none⟩ = false) := fun W h =>
      ⟨(h.cell (p := ⟨w.heap.size, 0, none⟩) (by show w.heap.size < _; omega)).trans q0, (h.cell (p := ⟨w.heap.size, 1, none⟩) (by show w.heap.size < _; omega)).trans q1, (h.cell (p := ⟨w.heap.size + 1, 0, none⟩) (by show w.heap.size + 1 < _; omega)).trans r0, (h.cell (p := ⟨w.heap.size + 1, 1, none⟩) (by show w.heap.size + 1 < _; omega)).trans r1, (h.frozen (p := ⟨w.heap.size + 1, 0, none⟩) (by show w.heap.size + 1 < _; omega)).trans r2, (h.frozen (p := ⟨w.heap.size + 1, 1, none⟩) (by show w.heap.size + 1 < _; omega)).trans r3⟩
    clear r0 r1 r2 r3
    by_cases hcap : c = k + 1
    · have hl1 : x.results.length = k + 1 := by omega
      have hd0 : x.results.drop (k + 1) = [] := List.drop_of_length_le (by omega)
      have hq3 : Hid (k + 0 ≤ 1048576) := by show _ ≤ _; omega
      have hq4 : Hid ((x.results.take k ++ []).length = k + 0) := by show _ = _; rw [List.append_nil, HTL.out.1]; rfl
      have HD := Lib.hid hd0
      clear hl1 hd0
      subst hcap
      have j7 : (k : Int) ≤ (k : Int) + 1 := by omega
      go_region_held3 (fun W => W.cell? ⟨w.heap.size, 0, none⟩ = some (.int .i64 x.clubs) ∧ W.cell? ⟨w.heap.size, 1, none⟩ = some (.slice (some ⟨b, off, none⟩) x.results.length (k + 1))) (first | exact ⟨q0, q1⟩ | exact ⟨(KQ.out _ BW.out).1, (KQ.out _ BW.out).2.1⟩ | go_keep) (first
        | (refine stepAppR rfl (.tmp 13) (.tmp 17) rfl w1.heap.size _ 0 [] rfl (ownsEd w1) ⟨b, off, none⟩ k (k + 1) (x.results.take k) HTL.out.1 rfl (SlR.take_ (SlI.alloc S1.out _) k) hq1.out hq2.out ?_; intro v2 w2 hown hb2 hg; rw [Nat.zero_add, List.nil_append] at hown; have BW : Hid (Below w1.heap.size w1 w2) := belowEd hb2; have HO2 := Lib.hid hown; have S2 : Hid (SlR w2 (some ⟨b, off, none⟩) x.results) := SlI.below S1.out BW.out; clear hown hb2 hg)
        | (refine stepAppR rfl (.tmp 18) (.tmp 23) rfl w1.heap.size v2 k (x.results.take k) rfl HO2.out ⟨b, off, none⟩ 0 0 [] rfl rfl slR_nil hq3.out BW.out.size ?_; intro v3 w4 hown hb2 hg; have HO3 := Lib.hid (FrR.of_own (rs := x.results.take k ++ []) (by rw [hq4.out]; exact hown)); replace BW : Hid (Below w1.heap.size w1 w4) := BW.out.trans (hb2 _ (Nat.le_refl _) BW.out.size); clear hown hb2 hg; obtain ⟨A4, c4, rfl, hc4, hm4⟩ := HO3.out.form; rw [hq4.out]; have HF4 := Lib.hid HO3.out; rw [hq4.out] at HF4; obtain ⟨-, -, r0, r1, r2, r3⟩ := KQ.out _ BW.out))
      all_goals
        go_wp2
        have KP : Keep (w.heap.size + 1) (w.heap.size + 2) w4 ((w4.setCell ⟨w.heap.size + 1, 0, none⟩ (.int .i64 x.clubs)).setCell ⟨w.heap.size + 1, 1, none⟩ (.slice A4 (k + 0) c4)) :=
          ((Keep.refl _ _ _).setCell (p := ⟨w.heap.size + 1, 0, none⟩) (Nat.le_refl _) (Nat.lt_succ_self _) _).setCell (p := ⟨w.heap.size + 1, 1, none⟩) (Nat.le_refl _) (Nat.lt_succ_self _) _
        have B4 : Below w.heap.size w w4 := HB.out.trans (BW.out.mono HB.out.size)
        refine bodyPost_ret (v := .tuple #[.agg #[.int .i64 x.clubs, .slice A4 (k + 0) c4], .bool true]) (by simp [results, Try.results6, go_sem, r0, r1]) rfl ⟨_, rfl, ?_, B4.trans (KP.below (by omega) B4.size)⟩
        rw [HO.out]
        refine ⟨.slice A4 (k + 0) c4, rfl, ?_, hw⟩
        have HK := FrR.wide (lo' := w.heap.size) (HF4.out.keep KP (.inr hsz)) (by omega) KP.size (Nat.le_refl _)
        first | exact HK | (simp only; rw [HD.out]; exact HK)
    · have hq3 : Hid (k + (x.results.length - (k + 1)) ≤ 1048576) := by show _ ≤ _; omega
      have hq4 : Hid ((x.results.take k ++ x.results.drop (k + 1)).length = k + (x.results.length - (k + 1))) := by show _ = _; rw [List.length_append, HTL.out.1, HTL.out.2]
      go_region_held3 (fun W => W.cell? ⟨w.heap.size, 0, none⟩ = some (.int .i64 x.clubs) ∧ W.cell? ⟨w.heap.size, 1, none⟩ = some (.slice (some ⟨b, off, none⟩) x.results.length c)) (first | exact ⟨q0, q1⟩ | exact ⟨(KQ.out _ BW.out).1, (KQ.out _ BW.out).2.1⟩ | go_keep) (first
        | (refine stepAppR rfl (.tmp 13) (.tmp 17) rfl w1.heap.size _ 0 [] rfl (ownsEd w1) ⟨b, off, none⟩ k c (x.results.take k) HTL.out.1 rfl (SlR.take_ (SlI.alloc S1.out _) k) hq1.out hq2.out ?_; intro v2 w2 hown hb2 hg; rw [Nat.zero_add, List.nil_append] at hown; have BW : Hid (Below w1.heap.size w1 w2) := belowEd hb2; have HO2 := Lib.hid hown; have S2 : Hid (SlR w2 (some ⟨b, off, none⟩) x.results) := SlI.below S1.out BW.out; clear hown hb2 hg)
        | (refine stepAppR rfl (.tmp 18) (.tmp 23) rfl w1.heap.size v2 k (x.results.take k) rfl HO2.out ⟨b, off + (k + 1) * 4, none⟩ (x.results.length - (k + 1)) (c - (k + 1)) (x.results.drop (k + 1)) HTL.out.2 rfl (SlR.drop_ S2.out (k + 1)) hq3.out BW.out.size ?_; intro v3 w4 hown hb2 hg; have HO3 := Lib.hid (FrR.of_own (rs := x.results.take k ++ x.results.drop (k + 1)) (by rw [hq4.out]; exact hown)); replace BW : Hid (Below w1.heap.size w1 w4) := BW.out.trans (hb2 _ (Nat.le_refl _) BW.out.size); clear hown hb2 hg; obtain ⟨A4, c4, rfl, hc4, hm4⟩ := HO3.out.form; rw [hq4.out]; have HF4 := Lib.hid HO3.out; rw [hq4.out] at HF4; obtain ⟨-, -, r0, r1, r2, r3⟩ := KQ.out _ BW.out))
      all_goals
        go_wp2
        have KP : Keep (w.heap.size + 1) (w.heap.size + 2) w4 ((w4.setCell ⟨w.heap.size + 1, 0, none⟩ (.int .i64 x.clubs)).setCell ⟨w.heap.size + 1, 1, none⟩ (.slice A4 (k + (x.results.length - (k + 1))) c4)) :=
          ((Keep.refl _ _ _).setCell (p := ⟨w.heap.size + 1, 0, none⟩) (Nat.le_refl _) (Nat.lt_succ_self _) _).setCell (p := ⟨w.heap.size + 1, 1, none⟩) (Nat.le_refl _) (Nat.lt_succ_self _) _
        have B4 : Below w.heap.size w w4 := HB.out.trans (BW.out.mono HB.out.size)
        refine bodyPost_ret (v := .tuple #[.agg #[.int .i64 x.clubs, .slice A4 (k + (x.results.length - (k + 1))) c4], .bool true]) (by simp [results, Try.results6, go_sem, r0, r1]) rfl ⟨_, rfl, ?_, B4.trans (KP.below (by omega) B4.size)⟩
        rw [HO.out]
        refine ⟨.slice A4 (k + (x.results.length - (k + 1))) c4, rfl, ?_, hw⟩
        have HK := FrR.wide (lo' := w.heap.size) (HF4.out.keep KP (.inr hsz)) (by omega) KP.size (Nat.le_refl _)
        first | exact HK | (simp only; rw [HD.out]; exact HK)
end Go.Proofs.Ythfllppknngfpaa
