/- Forfeits: contracts. -/
import Derived.Test.YthlkhmbndaecfaaRepl
namespace Go.Proofs.Ythlkhmbndaecfaa
open Go.ChangeShapes Go.WideShapes Go.ChangeAt Go.RowKit

def forfCase (x : LeagueV) (i c : Int) : Option (Int × Int) :=
  if hasR x i then (if c = (x.results.getD i.toNat default).h then some (0, 3) else if c = (x.results.getD i.toNat default).a then some (3, 0) else none) else none
def forfOk (x : LeagueV) (i c : Int) : Bool := match forfCase x i c with
  | some (z, u) => replOk x i z u
  | none => false
def forfF (x : LeagueV) (i c : Int) : LeagueV := match forfCase x i c with
  | some (z, u) => replF x i z u
  | none => ⟨0, []⟩
theorem forf_none {x : LeagueV} {i c : Int} (h : forfCase x i c = none) : forfOk x i c = false ∧ forfF x i c = ⟨0, []⟩ := by simp [forfOk, forfF, h]
theorem forf_some {x : LeagueV} {i c z u : Int} (h : forfCase x i c = some (z, u)) : forfOk x i c = replOk x i z u ∧ forfF x i c = replF x i z u := by simp [forfOk, forfF, h]
theorem forfF_len {x : LeagueV} {i c : Int} (h : x.results.length ≤ 1048576) : (forfF x i c).results.length ≤ 1048576 := by
  unfold forfF
  split
  · unfold replF; split
    · simpa [replQ] using h
    · simp
  · simp

set_option maxHeartbeats 4000000 in
set_option maxRecDepth 100000 in
theorem implForfeitResult_std (v : Value) (x : LeagueV) (i c0 : Int) (w : World) (hs : InL w v x) (hn : x.results.length ≤ 1048576) (_hi : (Lit.int .i64 i).wf = true) (_hc : (Lit.int .i64 c0).wf = true) :
    Calls Try.prog 18 #[v, .int .i64 i, .int .i64 c0] w fun e w' => ∃ v', e = .returned (.tuple #[v', .bool (forfOk x i c0)]) ∧ OwL w' w.heap.size w'.heap.size v' (forfF x i c0) ∧ Below w.heap.size w w' := by
  have hs0 := hs
  obtain ⟨A, c, rfl, hc, hm, hsl, hw⟩ := hs
  have HS := Lib.hid (And.intro hs0 hsl)
  clear hs0 hsl
  cases h1 : hasR x i
  · have HO : Hid (forfOk x i c0 = false ∧ forfF x i c0 = ⟨0, []⟩) := forf_none (by simp [forfCase, h1])
    have H1 := Lib.hid h1
    clear h1
    go_enter Try.func18, Try.ntmps18
    go_wp2_with fail
    refine (hasResult_any _ x i _ (HS.out.1.below (((Below.refl _ w).alloc (Nat.le_refl _) _).alloc (by simp) _)) hn).mono ?_
    rintro e w1 ⟨rfl, hb⟩
    rw [H1.out]
    (try simp only [World.size_alloc] at hb)
    have q0 : w1.cell? ⟨w.heap.size, 0, none⟩ = some (.int .i64 x.clubs) := by rw [hb.cell (p := ⟨w.heap.size, 0, none⟩) (by show w.heap.size < _; first | omega | simp)]; simp [go_sem]
    have q1 : w1.cell? ⟨w.heap.size, 1, none⟩ = some (.slice A x.results.length c) := by rw [hb.cell (p := ⟨w.heap.size, 1, none⟩) (by show w.heap.size < _; first | omega | simp)]; simp [go_sem]
    have r0 : w1.cell? ⟨w.heap.size + 1, 0, none⟩ = some (.int .i64 0) := by rw [hb.cell (p := ⟨w.heap.size + 1, 0, none⟩) (by show w.heap.size + 1 < _; first | omega | simp)]; simp [go_sem]
    have r1 : w1.cell? ⟨w.heap.size + 1, 1, none⟩ = some (.slice none 0 0) := by rw [hb.cell (p := ⟨w.heap.size + 1, 1, none⟩) (by show w.heap.size + 1 < _; first | omega | simp)]; simp [go_sem]
    have r2 : w1.frozen? ⟨w.heap.size + 1, 0, none⟩ = false := by rw [hb.frozen (p := ⟨w.heap.size + 1, 0, none⟩) (by show w.heap.size + 1 < _; first | omega | simp)]; simp [go_sem]
    have r3 : w1.frozen? ⟨w.heap.size + 1, 1, none⟩ = false := by rw [hb.frozen (p := ⟨w.heap.size + 1, 1, none⟩) (by show w.heap.size + 1 < _; first | omega | simp)]; simp [go_sem]
    have hsz : w.heap.size + 2 ≤ w1.heap.size := by have := hb.size; simp at this; omega
    have HB : Hid (Below w.heap.size w w1) := (((Below.refl _ w).alloc (Nat.le_refl _) _).alloc (by simp) _).trans (hb.mono (by first | omega | (simp; omega)))
    clear hb
    go_wp2
    have KP : Keep (w.heap.size + 1) (w.heap.size + 2) w1 ((w1.setCell ⟨w.heap.size + 1, 0, none⟩ (.int .i64 0)).setCell ⟨w.heap.size + 1, 1, none⟩ (.slice none 0 0)) :=
      ((Keep.refl _ _ _).setCell (p := ⟨w.heap.size + 1, 0, none⟩) (Nat.le_refl _) (Nat.lt_succ_self _) _).setCell (p := ⟨w.heap.size + 1, 1, none⟩) (Nat.le_refl _) (Nat.lt_succ_self _) _
    refine bodyPost_ret (v := .tuple #[.agg #[.int .i64 0, .slice none 0 0], .bool false]) (by simp [results, Try.results18, go_sem, r0, r1]) rfl ⟨_, by rw [HO.out.1], ?_, HB.out.trans (KP.below (by omega) HB.out.size)⟩
    rw [HO.out.2]
    exact ⟨_, rfl, FrR.nil _ (Nat.le_refl _), by decide⟩
  · have hib : inB i 0 ((x.results.length : Int) - 1) = true := by
      unfold hasR at h1; rw [Bool.and_eq_true] at h1; exact h1.2
    obtain ⟨i1, i2⟩ := inB_t.1 hib
    obtain ⟨k, rfl⟩ := Int.eq_ofNat_of_zero_le i1
    have hk : k < x.results.length := by omega
    have H1 := Lib.hid h1
    have HK : Hid (∃ r, x.results[k]? = some r ∧ forfCase x k c0 = if c0 = r.h then some (0, 3) else if c0 = r.a then some (3, 0) else none) :=
      ⟨x.results[k], List.getElem?_eq_getElem hk, by rw [forfCase, if_pos h1, Int.toNat_natCast, List.getD_eq_getElem?_getD, List.getElem?_eq_getElem hk]; rfl⟩
    clear hib h1
    obtain ⟨r, hr, hf⟩ := HK.out
    have HR := Lib.hid hr
    by_cases e1 : c0 = r.h
    · have HO : Hid (forfOk x k c0 = replOk x k 0 3 ∧ forfF x k c0 = replF x k 0 3) := forf_some (by rw [hf, if_pos e1])
      have E1 := Lib.hid e1
      clear hf hr e1
      go_enter Try.func18, Try.ntmps18
      go_wp2_with fail
      refine (hasResult_any _ x _ _ (HS.out.1.below (((Below.refl _ w).alloc (Nat.le_refl _) _).alloc (by simp) _)) hn).mono ?_
      rintro e w1 ⟨rfl, hb⟩
      rw [H1.out]
      (try simp only [World.size_alloc] at hb)
      have q0 : w1.cell? ⟨w.heap.size, 0, none⟩ = some (.int .i64 x.clubs) := by rw [hb.cell (p := ⟨w.heap.size, 0, none⟩) (by show w.heap.size < _; first | omega | simp)]; simp [go_sem]
      have q1 : w1.cell? ⟨w.heap.size, 1, none⟩ = some (.slice A x.results.length c) := by rw [hb.cell (p := ⟨w.heap.size, 1, none⟩) (by show w.heap.size < _; first | omega | simp)]; simp [go_sem]
      have r0 : w1.cell? ⟨w.heap.size + 1, 0, none⟩ = some (.int .i64 0) := by rw [hb.cell (p := ⟨w.heap.size + 1, 0, none⟩) (by show w.heap.size + 1 < _; first | omega | simp)]; simp [go_sem]
      have r1 : w1.cell? ⟨w.heap.size + 1, 1, none⟩ = some (.slice none 0 0) := by rw [hb.cell (p := ⟨w.heap.size + 1, 1, none⟩) (by show w.heap.size + 1 < _; first | omega | simp)]; simp [go_sem]
      have r2 : w1.frozen? ⟨w.heap.size + 1, 0, none⟩ = false := by rw [hb.frozen (p := ⟨w.heap.size + 1, 0, none⟩) (by show w.heap.size + 1 < _; first | omega | simp)]; simp [go_sem]
      have r3 : w1.frozen? ⟨w.heap.size + 1, 1, none⟩ = false := by rw [hb.frozen (p := ⟨w.heap.size + 1, 1, none⟩) (by show w.heap.size + 1 < _; first | omega | simp)]; simp [go_sem]
      have hsz : w.heap.size + 2 ≤ w1.heap.size := by have := hb.size; simp at this; omega
      have HB : Hid (Below w.heap.size w w1) := (((Below.refl _ w).alloc (Nat.le_refl _) _).alloc (by simp) _).trans (hb.mono (by first | omega | (simp; omega)))
      clear hb
      obtain ⟨b1, off, r', hA, hr', c1, c2, c3, c4, hb1⟩ := SlR.at_ (SlI.below HS.out.2 HB.out) hk
      obtain rfl : r = r' := by have := HR.out; rw [hr'] at this; injection this with this; exact this.symm
      subst hA
      clear hr' c3 c4
      have t1 : (c0 == r.h) = true := beq_iff_eq.2 E1.out
      have R1 : Hid (w1.cell? ⟨w.heap.size + 1, 0, none⟩ = some (.int .i64 0) ∧ w1.cell? ⟨w.heap.size + 1, 1, none⟩ = some (.slice none 0 0) ∧ w1.frozen? ⟨w.heap.size + 1, 0, none⟩ = false ∧ w1.frozen? ⟨w.heap.size + 1, 1, none⟩ = false) := ⟨r0, r1, r2, r3⟩
      clear r0 r1 r2 r3
      go_wp2_with fail
      refine (implReplaceResult_std _ x k 0 3 w1 (HS.out.1.below HB.out) hn _hi (by decide) (by decide)).mono ?_
      rintro e w2 ⟨v2, rfl, ho, hb2⟩
      have r0 := (hb2.cell (p := ⟨w.heap.size + 1, 0, none⟩) (by show w.heap.size + 1 < _; omega)).trans R1.out.1
      have r1 := (hb2.cell (p := ⟨w.heap.size + 1, 1, none⟩) (by show w.heap.size + 1 < _; omega)).trans R1.out.2.1
      have r2 := (hb2.frozen (p := ⟨w.heap.size + 1, 0, none⟩) (by show w.heap.size + 1 < _; omega)).trans R1.out.2.2.1
      have r3 := (hb2.frozen (p := ⟨w.heap.size + 1, 1, none⟩) (by show w.heap.size + 1 < _; omega)).trans R1.out.2.2.2
      obtain ⟨A2, c2, rfl⟩ := ho.form
      have HB2 : Hid (Below w.heap.size w w2 ∧ OwL w2 w1.heap.size w2.heap.size (.agg #[.int .i64 (replF x k 0 3).clubs, .slice A2 (replF x k 0 3).results.length c2]) (replF x k 0 3)) := ⟨HB.out.trans (hb2.mono HB.out.size), ho⟩
      clear hb2 ho q0 q1
      go_wp2
      have KP : Keep (w.heap.size + 1) (w.heap.size + 2) w2 ((w2.setCell ⟨w.heap.size + 1, 0, none⟩ (.int .i64 (replF x k 0 3).clubs)).setCell ⟨w.heap.size + 1, 1, none⟩ (.slice A2 (replF x k 0 3).results.length c2)) :=
        ((Keep.refl _ _ _).setCell (p := ⟨w.heap.size + 1, 0, none⟩) (Nat.le_refl _) (Nat.lt_succ_self _) _).setCell (p := ⟨w.heap.size + 1, 1, none⟩) (Nat.le_refl _) (Nat.lt_succ_self _) _
      refine bodyPost_ret (v := .tuple #[.agg #[.int .i64 (replF x k 0 3).clubs, .slice A2 (replF x k 0 3).results.length c2], .bool (replOk x k 0 3)]) (by simp [results, Try.results18, go_sem, r0, r1]) rfl ⟨_, by rw [HO.out.1], ?_, HB2.out.1.trans (KP.below (by omega) HB2.out.1.size)⟩
      rw [HO.out.2]
      exact (HB2.out.2.keep KP (.inr hsz)).wide (by omega) KP.size (Nat.le_refl _)
    · by_cases e2 : c0 = r.a
      · have HO : Hid (forfOk x k c0 = replOk x k 3 0 ∧ forfF x k c0 = replF x k 3 0) := forf_some (by rw [hf, if_neg e1, if_pos e2])
        have E2 := Lib.hid e2
        have E1 := Lib.hid e1
        clear hf hr e1 e2
        go_enter Try.func18, Try.ntmps18
        go_wp2_with fail
        refine (hasResult_any _ x _ _ (HS.out.1.below (((Below.refl _ w).alloc (Nat.le_refl _) _).alloc (by simp) _)) hn).mono ?_
        rintro e w1 ⟨rfl, hb⟩
        rw [H1.out]
        (try simp only [World.size_alloc] at hb)
        have q0 : w1.cell? ⟨w.heap.size, 0, none⟩ = some (.int .i64 x.clubs) := by rw [hb.cell (p := ⟨w.heap.size, 0, none⟩) (by show w.heap.size < _; first | omega | simp)]; simp [go_sem]
        have q1 : w1.cell? ⟨w.heap.size, 1, none⟩ = some (.slice A x.results.length c) := by rw [hb.cell (p := ⟨w.heap.size, 1, none⟩) (by show w.heap.size < _; first | omega | simp)]; simp [go_sem]
        have r0 : w1.cell? ⟨w.heap.size + 1, 0, none⟩ = some (.int .i64 0) := by rw [hb.cell (p := ⟨w.heap.size + 1, 0, none⟩) (by show w.heap.size + 1 < _; first | omega | simp)]; simp [go_sem]
        have r1 : w1.cell? ⟨w.heap.size + 1, 1, none⟩ = some (.slice none 0 0) := by rw [hb.cell (p := ⟨w.heap.size + 1, 1, none⟩) (by show w.heap.size + 1 < _; first | omega | simp)]; simp [go_sem]
        have r2 : w1.frozen? ⟨w.heap.size + 1, 0, none⟩ = false := by rw [hb.frozen (p := ⟨w.heap.size + 1, 0, none⟩) (by show w.heap.size + 1 < _; first | omega | simp)]; simp [go_sem]
        have r3 : w1.frozen? ⟨w.heap.size + 1, 1, none⟩ = false := by rw [hb.frozen (p := ⟨w.heap.size + 1, 1, none⟩) (by show w.heap.size + 1 < _; first | omega | simp)]; simp [go_sem]
        have hsz : w.heap.size + 2 ≤ w1.heap.size := by have := hb.size; simp at this; omega
        have HB : Hid (Below w.heap.size w w1) := (((Below.refl _ w).alloc (Nat.le_refl _) _).alloc (by simp) _).trans (hb.mono (by first | omega | (simp; omega)))
        clear hb
        obtain ⟨b1, off, r', hA, hr', c1, c2, c3, c4, hb1⟩ := SlR.at_ (SlI.below HS.out.2 HB.out) hk
        obtain rfl : r = r' := by have := HR.out; rw [hr'] at this; injection this with this; exact this.symm
        subst hA
        clear hr' c3 c4
        have t1 : (c0 == r.h) = false := beq_eq_false_iff_ne.2 E1.out
        have t2 : (c0 == r.a) = true := beq_iff_eq.2 E2.out
        have R1 : Hid (w1.cell? ⟨w.heap.size + 1, 0, none⟩ = some (.int .i64 0) ∧ w1.cell? ⟨w.heap.size + 1, 1, none⟩ = some (.slice none 0 0) ∧ w1.frozen? ⟨w.heap.size + 1, 0, none⟩ = false ∧ w1.frozen? ⟨w.heap.size + 1, 1, none⟩ = false) := ⟨r0, r1, r2, r3⟩
        clear r0 r1 r2 r3
        go_wp2_with fail
        refine (implReplaceResult_std _ x k 3 0 w1 (HS.out.1.below HB.out) hn _hi (by decide) (by decide)).mono ?_
        rintro e w2 ⟨v2, rfl, ho, hb2⟩
        have r0 := (hb2.cell (p := ⟨w.heap.size + 1, 0, none⟩) (by show w.heap.size + 1 < _; omega)).trans R1.out.1
        have r1 := (hb2.cell (p := ⟨w.heap.size + 1, 1, none⟩) (by show w.heap.size + 1 < _; omega)).trans R1.out.2.1
        have r2 := (hb2.frozen (p := ⟨w.heap.size + 1, 0, none⟩) (by show w.heap.size + 1 < _; omega)).trans R1.out.2.2.1
        have r3 := (hb2.frozen (p := ⟨w.heap.size + 1, 1, none⟩) (by show w.heap.size + 1 < _; omega)).trans R1.out.2.2.2
        obtain ⟨A2, c2, rfl⟩ := ho.form
        have HB2 : Hid (Below w.heap.size w w2 ∧ OwL w2 w1.heap.size w2.heap.size (.agg #[.int .i64 (replF x k 3 0).clubs, .slice A2 (replF x k 3 0).results.length c2]) (replF x k 3 0)) := ⟨HB.out.trans (hb2.mono HB.out.size), ho⟩
        clear hb2 ho q0 q1
        go_wp2
        have KP : Keep (w.heap.size + 1) (w.heap.size + 2) w2 ((w2.setCell ⟨w.heap.size + 1, 0, none⟩ (.int .i64 (replF x k 3 0).clubs)).setCell ⟨w.heap.size + 1, 1, none⟩ (.slice A2 (replF x k 3 0).results.length c2)) :=
          ((Keep.refl _ _ _).setCell (p := ⟨w.heap.size + 1, 0, none⟩) (Nat.le_refl _) (Nat.lt_succ_self _) _).setCell (p := ⟨w.heap.size + 1, 1, none⟩) (Nat.le_refl _) (Nat.lt_succ_self _) _
        refine bodyPost_ret (v := .tuple #[.agg #[.int .i64 (replF x k 3 0).clubs, .slice A2 (replF x k 3 0).results.length c2], .bool (replOk x k 3 0)]) (by simp [results, Try.results18, go_sem, r0, r1]) rfl ⟨_, by rw [HO.out.1], ?_, HB2.out.1.trans (KP.below (by omega) HB2.out.1.size)⟩
        rw [HO.out.2]
        exact (HB2.out.2.keep KP (.inr hsz)).wide (by omega) KP.size (Nat.le_refl _)
      · have HO : Hid (forfOk x k c0 = false ∧ forfF x k c0 = ⟨0, []⟩) := forf_none (by rw [hf, if_neg e1, if_neg e2])
        have E2 := Lib.hid e2
        have E1 := Lib.hid e1
        clear hf hr e1 e2
        go_enter Try.func18, Try.ntmps18
        go_wp2_with fail
        refine (hasResult_any _ x _ _ (HS.out.1.below (((Below.refl _ w).alloc (Nat.le_refl _) _).alloc (by simp) _)) hn).mono ?_
        rintro e w1 ⟨rfl, hb⟩
        rw [H1.out]
        (try simp only [World.size_alloc] at hb)
        have q0 : w1.cell? ⟨w.heap.size, 0, none⟩ = some (.int .i64 x.clubs) := by rw [hb.cell (p := ⟨w.heap.size, 0, none⟩) (by show w.heap.size < _; first | omega | simp)]; simp [go_sem]
        have q1 : w1.cell? ⟨w.heap.size, 1, none⟩ = some (.slice A x.results.length c) := by rw [hb.cell (p := ⟨w.heap.size, 1, none⟩) (by show w.heap.size < _; first | omega | simp)]; simp [go_sem]
        have r0 : w1.cell? ⟨w.heap.size + 1, 0, none⟩ = some (.int .i64 0) := by rw [hb.cell (p := ⟨w.heap.size + 1, 0, none⟩) (by show w.heap.size + 1 < _; first | omega | simp)]; simp [go_sem]
        have r1 : w1.cell? ⟨w.heap.size + 1, 1, none⟩ = some (.slice none 0 0) := by rw [hb.cell (p := ⟨w.heap.size + 1, 1, none⟩) (by show w.heap.size + 1 < _; first | omega | simp)]; simp [go_sem]
        have r2 : w1.frozen? ⟨w.heap.size + 1, 0, none⟩ = false := by rw [hb.frozen (p := ⟨w.heap.size + 1, 0, none⟩) (by show w.heap.size + 1 < _; first | omega | simp)]; simp [go_sem]
        have r3 : w1.frozen? ⟨w.heap.size + 1, 1, none⟩ = false := by rw [hb.frozen (p := ⟨w.heap.size + 1, 1, none⟩) (by show w.heap.size + 1 < _; first | omega | simp)]; simp [go_sem]
        have hsz : w.heap.size + 2 ≤ w1.heap.size := by have := hb.size; simp at this; omega
        have HB : Hid (Below w.heap.size w w1) := (((Below.refl _ w).alloc (Nat.le_refl _) _).alloc (by simp) _).trans (hb.mono (by first | omega | (simp; omega)))
        clear hb
        obtain ⟨b1, off, r', hA, hr', c1, c2, c3, c4, hb1⟩ := SlR.at_ (SlI.below HS.out.2 HB.out) hk
        obtain rfl : r = r' := by have := HR.out; rw [hr'] at this; injection this with this; exact this.symm
        subst hA
        clear hr' c3 c4
        have t1 : (c0 == r.h) = false := beq_eq_false_iff_ne.2 E1.out
        have t2 : (c0 == r.a) = false := beq_eq_false_iff_ne.2 E2.out
        go_wp2
        have KP : Keep (w.heap.size + 1) (w.heap.size + 2) w1 ((w1.setCell ⟨w.heap.size + 1, 0, none⟩ (.int .i64 0)).setCell ⟨w.heap.size + 1, 1, none⟩ (.slice none 0 0)) :=
          ((Keep.refl _ _ _).setCell (p := ⟨w.heap.size + 1, 0, none⟩) (Nat.le_refl _) (Nat.lt_succ_self _) _).setCell (p := ⟨w.heap.size + 1, 1, none⟩) (Nat.le_refl _) (Nat.lt_succ_self _) _
        refine bodyPost_ret (v := .tuple #[.agg #[.int .i64 0, .slice none 0 0], .bool false]) (by simp [results, Try.results18, go_sem, r0, r1]) rfl ⟨_, by rw [HO.out.1], ?_, HB.out.trans (KP.below (by omega) HB.out.size)⟩
        rw [HO.out.2]
        exact ⟨_, rfl, FrR.nil _ (Nat.le_refl _), by decide⟩
end Go.Proofs.Ythlkhmbndaecfaa
