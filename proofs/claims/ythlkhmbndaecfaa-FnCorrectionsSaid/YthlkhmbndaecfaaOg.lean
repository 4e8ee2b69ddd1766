/- Points off: the program's. -/
import Derived.Test.YthlkhmbndaecfaaOf
import Derived.Deep.Cut
import Derived.Deep.CutRange
import Derived.Deep.RegionHeld3
namespace Go.Proofs.Ythlkhmbndaecfaa
open Go.ChangeShapes Go.WideShapes Go.ChangeAt Go.RowKit

/-- Behind the region: the box of the points at bp, the table at gi, the box of 'off'. -/
structure OffAt (w wx : World) (bp gp cp gi ci lo hi n d : Nat) (P T off : List Int) (B : Option Addr) : Prop where
  c5 : wx.cell? ⟨bp, 0, none⟩ = some (.slice (some ⟨gp, 0, none⟩) n cp)
  c3 : wx.cell? ⟨w.heap.size + 1, 0, none⟩ = some (.slice B n d)
  sp : SlI wx (some ⟨gp, 0, none⟩) P
  so : SlI w B off
  fr : Fr wx lo hi (.slice (some ⟨gi, 0, none⟩) n ci) T
  be : Below w.heap.size w wx
  g1 : gp < lo
  b1 : bp < wx.heap.size
  b2 : bp < lo ∨ hi ≤ bp
  l1 : w.heap.size + 2 ≤ lo
  l2 : lo ≤ hi
theorem OffAt.cmp {w wx : World} {bp gp cp gi ci lo hi n d : Nat} {P T off : List Int} {B : Option Addr} (h : OffAt w wx bp gp cp gi ci lo hi n d P T off B) (hP : P.length = n) (hO : off.length = n) (hPb : ∀ y ∈ P, 0 ≤ y ∧ y ≤ 360) (hOb : ∀ y ∈ off, 0 ≤ y ∧ y ≤ 100) (hT : ∀ y ∈ T, 0 ≤ y ∧ y < n) :
    CmpBy wx lo hi 26 #[.pointer (some ⟨bp, 0, none⟩), .pointer (some ⟨w.heap.size + 1, 0, none⟩)] T (keyOff P off) := by
  intro W a b hk ha hb
  obtain ⟨a1, a2⟩ := hT a ha
  obtain ⟨b1, b2⟩ := hT b hb
  obtain ⟨a, rfl⟩ := Int.eq_ofNat_of_zero_le a1
  obtain ⟨b, rfl⟩ := Int.eq_ofNat_of_zero_le b1
  have h1 := h.l1
  have h2 := h.l2
  have h3 := h.fr.2.2
  have h4 := h.g1
  have bw : Below lo wx W := hk.below (Nat.le_refl _) (by omega)
  have sp : SlI W (some ⟨gp, 0, none⟩) P := by
    rcases h.sp with e | ⟨b', off', he, hc⟩
    · exact .inl e
    · injection he with he
      injection he with e1 e2 _
      subst e1; subst e2
      exact .inr ⟨gp, 0, rfl, fun k x hx => (bw.cell (p := ⟨gp, 0 + k, none⟩) h4).trans (hc k x hx)⟩
  exact offLess_any n P off hP hO B d bp (w.heap.size + 1) gp cp a b W (by omega) (by omega) hPb hOb ((hk.cell (p := ⟨bp, 0, none⟩) h.b1 h.b2).trans h.c5) ((bw.cell (p := ⟨w.heap.size + 1, 0, none⟩) (by show w.heap.size + 1 < _; omega)).trans h.c3) sp (SlI.below h.so (h.be.trans (bw.mono (by omega))))

/-- Ahead of the region: the boxes of the arguments. -/
structure OffPre (w W : World) (cl : Int) (A B : Option Addr) (lr c lo d : Nat) : Prop where
  q0 : W.cell? ⟨w.heap.size, 0, none⟩ = some (.int .i64 cl)
  q1 : W.cell? ⟨w.heap.size, 1, none⟩ = some (.slice A lr c)
  q2 : W.cell? ⟨w.heap.size + 1, 0, none⟩ = some (.slice B lo d)
  be : Below w.heap.size w W
  sz : w.heap.size + 2 ≤ W.heap.size
theorem OffPre.below {w W W' : World} {cl : Int} {A B : Option Addr} {lr c lo d : Nat} (h : OffPre w W cl A B lr c lo d) (hb : Below W.heap.size W W') : OffPre w W' cl A B lr c lo d := by
  have hs := h.sz
  exact ⟨(hb.cell (p := ⟨w.heap.size, 0, none⟩) (by show w.heap.size < _; omega)).trans h.q0, (hb.cell (p := ⟨w.heap.size, 1, none⟩) (by show w.heap.size < _; omega)).trans h.q1, (hb.cell (p := ⟨w.heap.size + 1, 0, none⟩) (by show w.heap.size + 1 < _; omega)).trans h.q2, h.be.trans (hb.mono h.be.size), Nat.le_trans hs hb.size⟩
theorem OffPre.drew {w W : World} {cl : Int} {A B : Option Addr} {lr c lo d : Nat} (h : OffPre w W cl A B lr c lo d) : OffPre w W.drew cl A B lr c lo d := ⟨h.q0, h.q1, h.q2, below_drewL h.be, h.sz⟩
theorem OffPre.alloc {w W : World} {cl : Int} {A B : Option Addr} {lr c lo d : Nat} (h : OffPre w W cl A B lr c lo d) (o : Obj) : OffPre w (W.alloc o) cl A B lr c lo d := h.below ((Below.refl _ W).alloc (Nat.le_refl _) o)
/-- Behind the points: their row, kept. -/
structure OffPts (W : World) (gp cp n : Nat) (P : List Int) : Prop where
  sp : SlI W (some ⟨gp, 0, none⟩) P
  lt : gp < W.heap.size
theorem OffPts.below {W W' : World} {gp cp n : Nat} {P : List Int} (h : OffPts W gp cp n P) (hb : Below W.heap.size W W') : OffPts W' gp cp n P := ⟨SlI.below h.sp hb, Nat.lt_of_lt_of_le h.lt hb.size⟩

theorem offPc {w2 w3 : World} {gp : Nat} (hg : (w2.alloc (.cells #[.slice none 0 0] 27)).drew.heap.size ≤ gp) (hb : Below (w2.alloc (.cells #[.slice none 0 0] 27)).drew.heap.size (w2.alloc (.cells #[.slice none 0 0] 27)).drew w3) : w2.heap.size < gp ∧ w2.heap.size < w3.heap.size ∧ w3.cell? ⟨w2.heap.size, 0, none⟩ = some (.slice none 0 0) ∧ w3.frozen? ⟨w2.heap.size, 0, none⟩ = false := by
  have h1 : w2.heap.size < (w2.alloc (.cells #[.slice none 0 0] 27)).drew.heap.size := by show _ < (w2.alloc (.cells #[.slice none 0 0] 27)).heap.size; simp
  have hb' : Below (w2.alloc (.cells #[.slice none 0 0] 27)).heap.size (w2.alloc (.cells #[.slice none 0 0] 27)) w3 := ⟨hb.os, hb.tape, hb.output, hb.size, hb.block⟩
  refine ⟨by omega, Nat.lt_of_lt_of_le h1 hb.size, (hb'.cell (p := ⟨w2.heap.size, 0, none⟩) (by simp)).trans (by simp), (hb'.frozen (p := ⟨w2.heap.size, 0, none⟩) (by simp)).trans (by simp)⟩
theorem offPd {w3 w4 : World} (hb : Below (w3.alloc (.cells #[.slice none 0 0] 27)).heap.size (w3.alloc (.cells #[.slice none 0 0] 27)) w4) : w4.cell? ⟨w3.heap.size, 0, none⟩ = some (.slice none 0 0) ∧ w4.frozen? ⟨w3.heap.size, 0, none⟩ = false ∧ w3.heap.size < (w3.alloc (.cells #[.slice none 0 0] 27)).heap.size :=
  ⟨(hb.cell (p := ⟨w3.heap.size, 0, none⟩) (by simp)).trans (by simp), (hb.frozen (p := ⟨w3.heap.size, 0, none⟩) (by simp)).trans (by simp), by simp⟩
theorem offDone_put {w w4 : World} {cl : Int} {A B : Option Addr} {lr c d bp gp cp gi ci lo n : Nat} {P T off : List Int} (h : OffPre w w4 cl A B lr c n d) (hp : OffPts w4 gp cp n P) (hf : Fr w4 lo w4.heap.size (.slice (some ⟨gi, 0, none⟩) n ci) T) (so : SlI w B off)
    (pc : w4.cell? ⟨bp, 0, none⟩ = some (.slice none 0 0)) (hgp : gp < lo) (hne : gp ≠ bp) (hbl : bp < lo) (hlo : lo ≤ w4.heap.size) (hs : w.heap.size + 2 ≤ bp) :
    OffAt w (w4.setCell ⟨bp, 0, none⟩ (.slice (some ⟨gp, 0, none⟩) n cp)) bp gp cp gi ci lo w4.heap.size n d P T off B := by
  have kp : Keep bp (bp + 1) w4 (w4.setCell ⟨bp, 0, none⟩ (.slice (some ⟨gp, 0, none⟩) n cp)) := (Keep.refl _ _ _).setCell (p := ⟨bp, 0, none⟩) (Nat.le_refl _) (Nat.lt_succ_self _) _
  have hsz := kp.size
  refine ⟨by simp [go_sem, pc], (kp.cell (p := ⟨w.heap.size + 1, 0, none⟩) (by show w.heap.size + 1 < _; omega) (.inl (by show w.heap.size + 1 < _; omega))).trans h.q2, ?_, so, (hf.keep kp (.inr (by omega))), h.be.trans (kp.below (by omega) h.be.size), hgp, by omega, .inl hbl, by omega, hlo⟩
  rcases hp.sp with e | ⟨b', off', he, hc⟩
  · exact .inl e
  · injection he with he
    injection he with e1 e2 _
    subst e1; subst e2
    exact .inr ⟨gp, 0, rfl, fun k x hx => (kp.cell (p := ⟨gp, 0 + k, none⟩) hp.lt (by show gp < bp ∨ bp + 1 ≤ gp; omega)).trans (hc k x hx)⟩
theorem offDone_new {w w4 : World} {cl : Int} {A B : Option Addr} {lr c d gp cp gi ci lo n : Nat} {P T off : List Int} (h : OffPre w w4 cl A B lr c n d) (hp : OffPts w4 gp cp n P) (hf : Fr w4 lo w4.heap.size (.slice (some ⟨gi, 0, none⟩) n ci) T) (so : SlI w B off)
    (hgp : gp < lo) (hlo : lo ≤ w4.heap.size) (hs : w.heap.size + 2 ≤ lo) :
    OffAt w (w4.alloc (.cells #[.slice (some ⟨gp, 0, none⟩) n cp] 27)) w4.heap.size gp cp gi ci lo w4.heap.size n d P T off B := by
  have ha := h.alloc (.cells #[.slice (some ⟨gp, 0, none⟩) n cp] 27)
  exact ⟨by simp, ha.q2, (hp.below ((Below.refl _ w4).alloc (Nat.le_refl _) _)).sp, so, hf.grow ((Below.refl _ w4).alloc (Nat.le_refl _) _), ha.be, hgp, by simp, .inr (Nat.le_refl _), hs, hlo⟩

set_option maxHeartbeats 8000000 in
set_option maxRecDepth 100000 in
theorem implPointsOff_std (v : Value) (x : LeagueV) (vo : Value) (off : List Int) (w : World) (hs : InL w v x) (hn : x.results.length ≤ 1048576) (ho : InI w vo off) (hno : off.length ≤ 1048576) :
    Calls Try.prog 7 #[v, vo] w fun e w' => ∃ v', e = .returned v' ∧ Fr w' w.heap.size w'.heap.size v' (offF x off) ∧ Below w.heap.size w w' := by
  have hs0 := hs
  obtain ⟨A, c, rfl, hc, hm, hsl, hw⟩ := hs
  obtain ⟨B, d, rfl, hd, hdm, hso⟩ := ho
  have HS := Lib.hid (And.intro hs0 hso)
  clear hs0 hsl hso
  have W1 : Hid (Below w.heap.size w ((w.alloc (.cells #[.int .i64 x.clubs, .slice A x.results.length c] 25)).alloc (.cells #[.slice B off.length d] 27)) ∧ ∀ W, Below ((w.alloc (.cells #[.int .i64 x.clubs, .slice A x.results.length c] 25)).alloc (.cells #[.slice B off.length d] 27)).heap.size ((w.alloc (.cells #[.int .i64 x.clubs, .slice A x.results.length c] 25)).alloc (.cells #[.slice B off.length d] 27)) W → W.cell? ⟨w.heap.size, 0, none⟩ = some (.int .i64 x.clubs) ∧ W.cell? ⟨w.heap.size, 1, none⟩ = some (.slice A x.results.length c) ∧ W.cell? ⟨w.heap.size + 1, 0, none⟩ = some (.slice B off.length d) ∧ w.heap.size + 2 ≤ W.heap.size) :=
    ⟨((Below.refl _ w).alloc (Nat.le_refl _) _).alloc (by simp) _, fun W h => ⟨(h.cell (p := ⟨w.heap.size, 0, none⟩) (by simp; omega)).trans (by simp [go_sem]), (h.cell (p := ⟨w.heap.size, 1, none⟩) (by simp; omega)).trans (by simp [go_sem]), (h.cell (p := ⟨w.heap.size + 1, 0, none⟩) (by simp)).trans (by simp [go_sem]), by have := h.size; simp at this; omega⟩⟩
  cases h1 : leagueB x
  case false =>
    have HE : Hid (offF x off = []) := by show _ = _; simp [offF, h1]
    go_enter Try.func7, Try.ntmps7
    go_wp2_with fail
    generalize ((w.alloc (.cells #[.int .i64 x.clubs, .slice A x.results.length c] 25)).alloc (.cells #[.slice B off.length d] 27)) = w0 at *
    refine (implLeagueOk_any _ _ _ (HS.out.1.below W1.out.1)).mono ?_
    rintro e w1 ⟨rfl, hb⟩
    rw [h1]
    have HB : Hid (Below w.heap.size w w1) := W1.out.1.trans (hb.mono W1.out.1.size)
    clear hb
    go_wp2
    go_ret
    exact ⟨_, rfl, by rw [HE.out]; exact Fr.nil _ (Nat.le_refl _), HB.out⟩
  by_cases h2 : (off.length : Int) = x.clubs
  case neg =>
    have HE : Hid (offF x off = []) := by show _ = _; simp [offF, h2]
    have t2 : (((off.length : Nat) : Int) != x.clubs) = true := by simp [h2]
    clear h2
    go_enter Try.func7, Try.ntmps7
    go_wp2_with fail
    generalize ((w.alloc (.cells #[.int .i64 x.clubs, .slice A x.results.length c] 25)).alloc (.cells #[.slice B off.length d] 27)) = w0 at *
    refine (implLeagueOk_any _ _ _ (HS.out.1.below W1.out.1)).mono ?_
    rintro e w1 ⟨rfl, hb⟩
    rw [h1]
    have HB : Hid (Below w.heap.size w w1) := W1.out.1.trans (hb.mono W1.out.1.size)
    obtain ⟨q0, q1, q2, -⟩ := W1.out.2 w1 hb
    clear hb
    go_wp2
    go_ret
    exact ⟨_, rfl, by rw [HE.out]; exact Fr.nil _ (Nat.le_refl _), HB.out⟩
  have t2 : (((off.length : Nat) : Int) != x.clubs) = false := by simp [h2]
  cases h3 : off.all (fun v => inB v 0 100)
  case false =>
    have HE : Hid (offF x off = []) := by show _ = _; simp only [offF, h3, Bool.and_false]; rfl
    clear h2
    go_enter Try.func7, Try.ntmps7
    go_wp2_with fail
    generalize ((w.alloc (.cells #[.int .i64 x.clubs, .slice A x.results.length c] 25)).alloc (.cells #[.slice B off.length d] 27)) = w0 at *
    refine (implLeagueOk_any _ _ _ (HS.out.1.below W1.out.1)).mono ?_
    rintro e w1 ⟨rfl, hb⟩
    rw [h1]
    have HB : Hid (Below w.heap.size w w1) := W1.out.1.trans (hb.mono W1.out.1.size)
    obtain ⟨q0, q1, q2, -⟩ := W1.out.2 w1 hb
    clear hb
    go_wp2_with fail
    refine (allWithin_any B d off 0 100 _ (SlI.below HS.out.2 HB.out) hno).mono ?_
    rintro e w2 ⟨rfl, hb⟩
    rw [h3]
    have HB2 : Hid (Below w.heap.size w w2) := HB.out.trans (hb.mono HB.out.size)
    clear hb
    go_wp2
    go_ret
    exact ⟨_, rfl, by rw [HE.out]; exact Fr.nil _ (Nat.le_refl _), HB2.out⟩
  obtain ⟨l1, l2, l3, _⟩ := leagueB_t h1
  obtain ⟨n, hcl⟩ := Int.eq_ofNat_of_zero_le (show 0 ≤ x.clubs by omega)
  have hno2 : off.length = n := by omega
  have HE : Hid (offF x off = insF (keyOff (ptsF n x.results) off) (tableF n x.results)) := by
    show _ = _
    rw [offF, h1, h3, hcl]; simp [hno2]
  have H1 : Hid (leagueB x = true ∧ x.clubs = n ∧ (ptsF n x.results).length = n ∧ (tableF n x.results).length = n ∧ tableL x = tableF n x.results) := ⟨h1, hcl, ptsF_length _ _, tableF_length _ _, by rw [tableL, h1, if_pos rfl, hcl, Int.toNat_natCast]⟩
  have HB100 : Hid (∀ y ∈ off, 0 ≤ y ∧ y ≤ 100) := fun y hy => inB_t.1 (List.all_eq_true.1 h3 y hy)
  have H3 := Lib.hid h3
  have HNO := Lib.hid hno2
  have hn2 : 2 ≤ n := by omega
  have hn8 : n ≤ 8 := by omega
  clear h2 hcl h3 hno2
  go_enter Try.func7, Try.ntmps7
  go_wp2_with fail
  generalize ((w.alloc (.cells #[.int .i64 x.clubs, .slice A x.results.length c] 25)).alloc (.cells #[.slice B off.length d] 27)) = w0 at *
  refine (implLeagueOk_any _ _ _ (HS.out.1.below W1.out.1)).mono ?_
  rintro e w1 ⟨rfl, hb⟩
  rw [h1]
  have HB : Hid (Below w.heap.size w w1) := W1.out.1.trans (hb.mono W1.out.1.size)
  obtain ⟨q0, q1, q2, hsz⟩ := W1.out.2 w1 hb
  clear hb
  go_wp2_with fail
  refine (allWithin_any B d off 0 100 _ (SlI.below HS.out.2 HB.out) hno).mono ?_
  rintro e w2 ⟨rfl, hb⟩
  rw [H3.out]
  have P0 : OffPre w w2 x.clubs A B x.results.length c n d := by
    have h := OffPre.below ⟨q0, q1, q2, HB.out, hsz⟩ hb
    rw [HNO.out] at h; exact h
  clear hb q0 q1 q2 hsz
  obtain ⟨q0, q1⟩ := And.intro P0.q0 P0.q1
  have HP0 := Lib.hid P0
  clear P0
  go_upto_region 3 with fail
  go_cut [5, 6] from 22 to 25 (fun s5 s6 wx => ∃ bp gp cp gi ci lo hi, s5 = .pointer (some ⟨bp, 0, none⟩) ∧ s6 = .slice (some ⟨gi, 0, none⟩) n ci ∧ Hid (OffAt w wx bp gp cp gi ci lo hi n d (ptsF n x.results) (tableF n x.results) off B))
  case first =>
    have tokp : True := trivial
    have tokt : True := trivial
    have tokp2 : True := trivial
    have tokt2 : True := trivial
    go_region_held3 (fun W => W.cell? ⟨w.heap.size, 0, none⟩ = some (.int .i64 x.clubs) ∧ W.cell? ⟨w.heap.size, 1, none⟩ = some (.slice A x.results.length c)) (first | exact ⟨q0, q1⟩ | exact ⟨(HP0.out.alloc _).q0, (HP0.out.alloc _).q1⟩ | exact ⟨(HP3.out.1.alloc _).q0, (HP3.out.1.alloc _).q1⟩ | exact ⟨(HP4.out.1.alloc _).q0, (HP4.out.1.alloc _).q1⟩ | exact ⟨(World.cell?_setCell_far _ _ _ _ NE).trans q0, (World.cell?_setCell_far _ _ _ _ NE).trans q1⟩ | go_keep) (first
      | (go_at_call 24; clear tokp; refine (implPoints_any _ x w2.drew (HS.out.1.below HP0.out.drew.be) H1.out.1).mono ?_; rintro e w3 ⟨v3, rfl, hf, hb⟩; rw [H1.out.2.1, Int.toNat_natCast] at hf; obtain ⟨gp, cp, rfl, hg1, hg2⟩ := hf.someA (by rw [H1.out.2.2.1]; omega); rw [H1.out.2.2.1] at hf; rw [H1.out.2.2.1]; have HP3 : Hid (OffPre w w3 x.clubs A B x.results.length c n d ∧ OffPts w3 gp cp n (ptsF n x.results)) := ⟨HP0.out.drew.below hb, ⟨hf.sl, hg2⟩⟩; clear hf hb; clear q0 q1; obtain ⟨q0, q1⟩ := And.intro HP3.out.1.q0 HP3.out.1.q1)
      | (go_at_call 24; clear tokp2; refine (implPoints_any _ x (w2.alloc (.cells #[.slice none 0 0] 27)).drew (HS.out.1.below (HP0.out.alloc _).drew.be) H1.out.1).mono ?_; rintro e w3 ⟨v3, rfl, hf, hb⟩; rw [H1.out.2.1, Int.toNat_natCast] at hf; obtain ⟨gp, cp, rfl, hg1, hg2⟩ := hf.someA (by rw [H1.out.2.2.1]; omega); rw [H1.out.2.2.1] at hf; rw [H1.out.2.2.1]; have HP3 : Hid (OffPre w w3 x.clubs A B x.results.length c n d ∧ OffPts w3 gp cp n (ptsF n x.results)) := ⟨(HP0.out.alloc _).drew.below hb, ⟨hf.sl, hg2⟩⟩; have HPC : Hid (w2.heap.size < gp ∧ w2.heap.size < w3.heap.size ∧ w3.cell? ⟨w2.heap.size, 0, none⟩ = some (.slice none 0 0) ∧ w3.frozen? ⟨w2.heap.size, 0, none⟩ = false) := offPc hg1 hb; clear hf hb; clear q0 q1; obtain ⟨q0, q1⟩ := And.intro HP3.out.1.q0 HP3.out.1.q1)
      | (go_at_call 9; clear tokt; refine (implTableOf_any _ x w3 (HS.out.1.below HP3.out.1.be)).mono ?_; rintro e w4 ⟨v4, rfl, hf, hb⟩; rw [H1.out.2.2.2.2] at hf; obtain ⟨gi, ci, rfl, hi1, hi2⟩ := hf.someA (by rw [H1.out.2.2.2.1]; omega); rw [H1.out.2.2.2.1] at hf; rw [H1.out.2.2.2.1]; have HP4 : Hid (OffPre w w4 x.clubs A B x.results.length c n d ∧ OffPts w4 gp cp n (ptsF n x.results) ∧ Fr w4 w3.heap.size w4.heap.size (.slice (some ⟨gi, 0, none⟩) n ci) (tableF n x.results) ∧ w3.heap.size ≤ w4.heap.size ∧ gp < w3.heap.size) := ⟨HP3.out.1.below hb, HP3.out.2.below hb, hf, hb.size, HP3.out.2.lt⟩; have NE : w2.heap.size ≠ w.heap.size := (by have := HP0.out.sz; omega); (try have pc := (hb.cell (p := ⟨w2.heap.size, 0, none⟩) HPC.out.2.1).trans HPC.out.2.2.1); (try have pf := (hb.frozen (p := ⟨w2.heap.size, 0, none⟩) HPC.out.2.1).trans HPC.out.2.2.2); clear hf hb; clear q0 q1; obtain ⟨q0, q1⟩ := And.intro HP4.out.1.q0 HP4.out.1.q1)
      | (go_at_call 9; clear tokt2; refine (implTableOf_any _ x (w3.alloc (.cells #[.slice none 0 0] 27)) (HS.out.1.below (HP3.out.1.alloc _).be)).mono ?_; rintro e w4 ⟨v4, rfl, hf, hb⟩; rw [H1.out.2.2.2.2] at hf; obtain ⟨gi, ci, rfl, hi1, hi2⟩ := hf.someA (by rw [H1.out.2.2.2.1]; omega); rw [H1.out.2.2.2.1] at hf; rw [H1.out.2.2.2.1]; have HP4 : Hid (OffPre w w4 x.clubs A B x.results.length c n d ∧ OffPts w4 gp cp n (ptsF n x.results) ∧ Fr w4 (w3.alloc (.cells #[.slice none 0 0] 27)).heap.size w4.heap.size (.slice (some ⟨gi, 0, none⟩) n ci) (tableF n x.results) ∧ (w3.alloc (.cells #[.slice none 0 0] 27)).heap.size ≤ w4.heap.size ∧ gp < w3.heap.size) := ⟨(HP3.out.1.alloc _).below hb, (HP3.out.2.below ((Below.refl _ w3).alloc (Nat.le_refl _) _)).below hb, hf, hb.size, HP3.out.2.lt⟩; have NE : w3.heap.size ≠ w.heap.size := (by have := HP3.out.1.sz; omega); have HPD : Hid (w4.cell? ⟨w3.heap.size, 0, none⟩ = some (.slice none 0 0) ∧ w4.frozen? ⟨w3.heap.size, 0, none⟩ = false ∧ w3.heap.size < (w3.alloc (.cells #[.slice none 0 0] 27)).heap.size) := offPd hb; obtain ⟨pc, pf⟩ := And.intro HPD.out.1 HPD.out.2.1; clear hf hb; clear q0 q1; obtain ⟨q0, q1⟩ := And.intro HP4.out.1.q0 HP4.out.1.q1))
    all_goals (go_wp2_with fail; go_meet)
    · exact ⟨_, gp, cp, gi, ci, _, _, rfl, rfl, offDone_new HP4.out.1 HP4.out.2.1 HP4.out.2.2.1 HS.out.2 HP4.out.2.2.2.2 HP4.out.2.2.2.1 HP3.out.1.sz⟩
    · have h1 := HPD.out.2.2
      have h2 := HP4.out.2.2.2.2
      exact ⟨_, gp, cp, gi, ci, _, _, rfl, rfl, offDone_put HP4.out.1 HP4.out.2.1 HP4.out.2.2.1 HS.out.2 pc (by omega) (by omega) h1 HP4.out.2.2.2.1 HP3.out.1.sz⟩
    · have h1 := HPC.out.1
      exact ⟨_, gp, cp, gi, ci, _, _, rfl, rfl, offDone_put HP4.out.1 HP4.out.2.1 HP4.out.2.2.1 HS.out.2 pc HP4.out.2.2.2.2 (by omega) HPC.out.2.1 HP4.out.2.2.2.1 HP0.out.sz⟩
  case rest =>
    obtain ⟨bp, gp, cp, gi, ci, lo, hi, rfl, rfl, HO⟩ := hcut
    clear q0 q1
    have hP60 : ∀ y ∈ ptsF n x.results, 0 ≤ y ∧ y ≤ 360 := fun y hy => by have := ptsF_bound hy; omega
    have HSS := sortStable_any wc lo hi gi ci (tableF n x.results) (keyOff (ptsF n x.results) off) 26 #[.pointer (some ⟨bp, 0, none⟩), .pointer (some ⟨w.heap.size + 1, 0, none⟩)] (by rw [H1.out.2.2.2.1]; exact HO.out.fr) (by rw [H1.out.2.2.2.1]; omega) (by rw [H1.out.2.2.2.1]; omega) (fun _ _ => by kernel_rfl)
      (HO.out.cmp H1.out.2.2.1 HNO.out hP60 HB100.out (fun y hy => tableF_mem.1 hy))
    rw [H1.out.2.2.2.1] at HSS
    have HSH := Lib.hid HSS
    clear HSS hP60
    go_wp2_with fail
    refine HSH.out.mono ?_
    rintro e w5 ⟨rfl, hf5, kp5⟩
    have H5 := Lib.hid (And.intro hf5 kp5)
    clear hf5 kp5
    go_wp2
    go_ret
    have h1 := HO.out.l1
    have h2 := HO.out.l2
    have h3 := HO.out.fr.2.2
    exact ⟨_, rfl, by rw [HE.out]; exact H5.out.1.wide (by omega) (Nat.le_trans h3 H5.out.2.size) (Nat.le_refl _), HO.out.be.trans (H5.out.2.below (by omega) (by omega))⟩
end Go.Proofs.Ythlkhmbndaecfaa
