/- All corrections: the implementation's contract. -/
import Derived.Test.YthlkhmbndaecfaaCa
import Derived.Test.YthlkhmbndaecfaaAn
namespace Go.Proofs.Ythlkhmbndaecfaa
open Go.ChangeShapes Go.WideShapes Go.ChangeAt Go.RowKit

theorem below_ad {w1 w2 : World} {o : Obj} (h : Below ((w1.alloc o).drew).heap.size (w1.alloc o).drew w2) : Below w1.heap.size w1 w2 :=
  ((Below.refl w1.heap.size w1).alloc (Nat.le_refl _) o).trans ((below_undraw (q := 1) h).mono (by simp [World.drew]))
theorem pb_ad {w1 w2 : World} (h : Below ((w1.alloc (.cells #[.int .i64 0, .slice none 0 0] 25)).drew).heap.size (w1.alloc (.cells #[.int .i64 0, .slice none 0 0] 25)).drew w2) :
    w2.cell? ⟨w1.heap.size, 0, none⟩ = some (.int .i64 0) ∧ w2.cell? ⟨w1.heap.size, 1, none⟩ = some (.slice none 0 0) ∧ w2.frozen? ⟨w1.heap.size, 0, none⟩ = false ∧ w2.frozen? ⟨w1.heap.size, 1, none⟩ = false ∧ w1.heap.size < w2.heap.size := by
  have hlt : w1.heap.size < ((w1.alloc (.cells #[.int .i64 0, .slice none 0 0] 25)).drew).heap.size := by simp [World.drew]
  exact ⟨(h.cell (p := ⟨w1.heap.size, 0, none⟩) hlt).trans (by simp [go_sem]), (h.cell (p := ⟨w1.heap.size, 1, none⟩) hlt).trans (by simp [go_sem]), (h.frozen (p := ⟨w1.heap.size, 0, none⟩) hlt).trans (by simp [go_sem]), (h.frozen (p := ⟨w1.heap.size, 1, none⟩) hlt).trans (by simp [go_sem]), Nat.lt_of_lt_of_le hlt h.size⟩
theorem pb_al {w1 w2 : World} (h : Below ((w1.alloc (.cells #[.int .i64 0, .slice none 0 0] 25))).heap.size (w1.alloc (.cells #[.int .i64 0, .slice none 0 0] 25)) w2) :
    w2.cell? ⟨w1.heap.size, 0, none⟩ = some (.int .i64 0) ∧ w2.cell? ⟨w1.heap.size, 1, none⟩ = some (.slice none 0 0) ∧ w2.frozen? ⟨w1.heap.size, 0, none⟩ = false ∧ w2.frozen? ⟨w1.heap.size, 1, none⟩ = false ∧ w1.heap.size < w2.heap.size := by
  have hlt : w1.heap.size < ((w1.alloc (.cells #[.int .i64 0, .slice none 0 0] 25))).heap.size := by simp
  exact ⟨(h.cell (p := ⟨w1.heap.size, 0, none⟩) hlt).trans (by simp [go_sem]), (h.cell (p := ⟨w1.heap.size, 1, none⟩) hlt).trans (by simp [go_sem]), (h.frozen (p := ⟨w1.heap.size, 0, none⟩) hlt).trans (by simp [go_sem]), (h.frozen (p := ⟨w1.heap.size, 1, none⟩) hlt).trans (by simp [go_sem]), Nat.lt_of_lt_of_le hlt h.size⟩
theorem pb_next {w1 w2 w3 : World} (h : w2.cell? ⟨w1.heap.size, 0, none⟩ = some (.int .i64 0) ∧ w2.cell? ⟨w1.heap.size, 1, none⟩ = some (.slice none 0 0) ∧ w2.frozen? ⟨w1.heap.size, 0, none⟩ = false ∧ w2.frozen? ⟨w1.heap.size, 1, none⟩ = false ∧ w1.heap.size < w2.heap.size) (hb : Below w2.heap.size w2 w3) :
    w3.cell? ⟨w1.heap.size, 0, none⟩ = some (.int .i64 0) ∧ w3.cell? ⟨w1.heap.size, 1, none⟩ = some (.slice none 0 0) ∧ w3.frozen? ⟨w1.heap.size, 0, none⟩ = false ∧ w3.frozen? ⟨w1.heap.size, 1, none⟩ = false ∧ w1.heap.size < w3.heap.size :=
  ⟨(hb.cell (p := ⟨w1.heap.size, 0, none⟩) h.2.2.2.2).trans h.1, (hb.cell (p := ⟨w1.heap.size, 1, none⟩) h.2.2.2.2).trans h.2.1, (hb.frozen (p := ⟨w1.heap.size, 0, none⟩) h.2.2.2.2).trans h.2.2.1, (hb.frozen (p := ⟨w1.heap.size, 1, none⟩) h.2.2.2.2).trans h.2.2.2.1, Nat.lt_of_lt_of_le h.2.2.2.2 hb.size⟩
theorem slR_alloc {w : World} {A : Option Addr} {rs : List Res} (h : SlR w A rs) (o : Obj) : SlR (w.alloc o) A rs := SlI.alloc h o
set_option maxHeartbeats 4000000 in
set_option maxRecDepth 100000 in
theorem implCorrectAll_std (v : Value) (x : LeagueV) (v2 : Value) (l : List (List Int)) (w : World) (hs : InL w v x) (hn : x.results.length ≤ 1048576) (hs2 : InS w v2 l) (hn2 : bulk l ≤ 1048576) :
    Calls Try.prog 17 #[v, v2] w fun e w' => ∃ v', e = .returned (.tuple #[v', .bool (corrOk x l)]) ∧ OwL w' w.heap.size w'.heap.size v' (corrF x l) ∧ Below w.heap.size w w' := by
  have hs0 := hs
  obtain ⟨A, c, rfl, hc, hm, hsl, hw⟩ := hs
  have hs3 := hs2
  obtain ⟨A2, c2, vs2, rfl, -, hc2, hm2, -⟩ := hs2
  have HS := Lib.hid (And.intro hs0 (And.intro hsl hs3))
  have hl2 : l.length ≤ 1048576 := Nat.le_trans (bulk_len l) hn2
  clear hs0 hsl hs3 hn2
  cases h1 : leagueB x
  · have HO : Hid (corrOk x l = false ∧ corrF x l = ⟨0, []⟩) := corr_no (by rw [h1]; simp)
    go_enter Try.func17, Try.ntmps17
    go_wp2_with fail
    refine (implLeagueOk_any _ x _ (HS.out.1.below (((Below.refl _ w).alloc (Nat.le_refl _) _).alloc (by simp) _))).mono ?_
    rintro e w1 ⟨rfl, hb⟩
    rw [h1]
    (try simp only [World.size_alloc] at hb)
    have AT1 := (resAt_init w (.cells #[.int .i64 x.clubs, .slice A x.results.length c] 25)).grow (by simpa using hb)
    have r0 := AT1.r0
    have r1 := AT1.r1
    have r2 := AT1.f0
    have r3 := AT1.f1
    clear hb
    go_wp2
    have KP : Keep (w.heap.size + 1) (w.heap.size + 2) w1 ((w1.setCell ⟨w.heap.size + 1, 0, none⟩ (.int .i64 0)).setCell ⟨w.heap.size + 1, 1, none⟩ (.slice none 0 0)) :=
      ((Keep.refl _ _ _).setCell (p := ⟨w.heap.size + 1, 0, none⟩) (Nat.le_refl _) (Nat.lt_succ_self _) _).setCell (p := ⟨w.heap.size + 1, 1, none⟩) (Nat.le_refl _) (Nat.lt_succ_self _) _
    refine bodyPost_ret (v := .tuple #[.agg #[.int .i64 0, .slice none 0 0], .bool false]) (by simp [results, Try.results17, go_sem, r0, r1]) rfl ⟨_, by rw [HO.out.1], ?_, AT1.be.trans (KP.below (by omega) AT1.be.size)⟩
    rw [HO.out.2]
    exact ⟨_, rfl, FrR.nil _ (Nat.le_refl _), by decide⟩
  · by_cases h20 : l.length ≤ 20
    · have HT : Hid (corrT x l = corrS x l) := corr_go h1 h20
      have H1 : Hid (leagueB ⟨x.clubs, x.results⟩ = true) := h1
      have HV : Hid (∀ u, withV x.clubs x.results u = .agg #[.int .i64 x.clubs, u]) := fun u => by show _ = _; rw [withV, H1.out]; rfl
      clear h1
      go_enter Try.func17, Try.ntmps17
      go_wp2_with fail
      refine (implLeagueOk_any _ x _ (HS.out.1.below (((Below.refl _ w).alloc (Nat.le_refl _) _).alloc (by simp) _))).mono ?_
      rintro e w1 ⟨rfl, hb⟩
      have h1 : leagueB x = true := H1.out
      rw [h1]
      clear h1
      have AT1 := (resAt_init w (.cells #[.int .i64 x.clubs, .slice A x.results.length c] 25)).grow hb
      (try simp only [World.size_alloc] at hb)
      have q0 : w1.cell? ⟨w.heap.size, 0, none⟩ = some (.int .i64 x.clubs) := by rw [hb.cell (p := ⟨w.heap.size, 0, none⟩) (by show w.heap.size < _; first | omega | simp)]; simp [go_sem]
      have q1 : w1.cell? ⟨w.heap.size, 1, none⟩ = some (.slice A x.results.length c) := by rw [hb.cell (p := ⟨w.heap.size, 1, none⟩) (by show w.heap.size < _; first | omega | simp)]; simp [go_sem]
      have hsz := AT1.sz
      have HA := Lib.hid AT1
      have S1 : Hid (SlR w1 A x.results) := SlI.below HS.out.2.1 AT1.be
      have KQ : Hid (∀ W, Below w1.heap.size w1 W → W.cell? ⟨w.heap.size, 0, none⟩ = some (.int .i64 x.clubs) ∧ W.cell? ⟨w.heap.size, 1, none⟩ = some (.slice A x.results.length c)) := fun W h =>
        ⟨(h.cell (p := ⟨w.heap.size, 0, none⟩) (by show w.heap.size < _; omega)).trans q0, (h.cell (p := ⟨w.heap.size, 1, none⟩) (by show w.heap.size < _; omega)).trans q1⟩
      clear hb AT1
      go_upto_region 3 with (fail)
      go_cut [6, 7] from 19 to 26 (fun s6 s7 wx => ∃ p, s6 = .pointer (some ⟨p, 0, none⟩) ∧ s7 = .bool true ∧ Hid (CorAt w wx p x))
      case first =>
        go_region_held3 (fun W => W.cell? ⟨w.heap.size, 0, none⟩ = some (.int .i64 x.clubs) ∧ W.cell? ⟨w.heap.size, 1, none⟩ = some (.slice A x.results.length c)) (first | exact ⟨q0, q1⟩ | exact ⟨(KQ.out _ BW.out).1, (KQ.out _ BW.out).2⟩ | exact ⟨(KQ.out _ (BW.out.alloc BW.out.size _)).1, (KQ.out _ (BW.out.alloc BW.out.size _)).2⟩ | exact ⟨((World.cell?_setCell_far _ _ _ _ (by simp; omega)).trans (World.cell?_setCell_far _ _ _ _ (by simp; omega))).trans (KQ.out _ BW.out).1, ((World.cell?_setCell_far _ _ _ _ (by simp; omega)).trans (World.cell?_setCell_far _ _ _ _ (by simp; omega))).trans (KQ.out _ BW.out).2⟩ | go_keep) (first
          | (go_at_call 37; refine (cloneR_any A c x.results _ (by first | exact S1.out | exact SlI.alloc S1.out _) hn).mono ?_; rintro e w2 ⟨v2, rfl, hf, hb2⟩; obtain ⟨A2, c2', rfl, hc2', hm2'⟩ := hf.form; first | (have pb : Hid (w2.cell? ⟨w1.heap.size, 0, none⟩ = some (.int .i64 0) ∧ w2.cell? ⟨w1.heap.size, 1, none⟩ = some (.slice none 0 0) ∧ w2.frozen? ⟨w1.heap.size, 0, none⟩ = false ∧ w2.frozen? ⟨w1.heap.size, 1, none⟩ = false ∧ w1.heap.size < w2.heap.size) := pb_ad hb2; have BW : Hid (Below w1.heap.size w1 w2) := below_ad hb2; have HF := Lib.hid (hf.wide (lo' := w1.heap.size + 1) (by simp [World.drew]) (Nat.le_refl _) (Nat.le_refl _)); clear hf hb2) | (have BW : Hid (Below w1.heap.size w1 w2) := below_undraw (q := 1) hb2; have HF := Lib.hid (hf.wide (lo' := w1.heap.size) (Nat.le_refl _) (Nat.le_refl _) (Nat.le_refl _)); clear hf hb2))
          | (have pc := pb; go_at_call 35; (with_reducible refine (with_any A A2 x.results.length c c2' x.clubs x.results w2 hw HF.out.sl hc2' hm2').mono ?_); rintro e w4 ⟨rfl, hb4⟩; rw [HV.out, H1.out]; obtain ⟨p0, p1, pf0, pf1, plt⟩ := pb_next pc.out hb4; replace BW : Hid (Below w1.heap.size w1 w4) := BW.out.trans (hb4.mono BW.out.size); replace HF := Lib.hid (HF.out.grow hb4); clear hb4 pb pc)
          | (go_at_call 35; (with_reducible refine (with_any A A2 x.results.length c c2' x.clubs x.results (w2.alloc (.cells #[.int .i64 0, .slice none 0 0] 25)) hw (slR_alloc HF.out.sl _) hc2' hm2').mono ?_); rintro e w4 ⟨rfl, hb4⟩; rw [HV.out, H1.out]; obtain ⟨p0, p1, pf0, pf1, plt⟩ := pb_al hb4; have hz2 : w1.heap.size ≤ w2.heap.size := BW.out.size; have hal : Below w2.heap.size w2 w4 := ((Below.refl _ w2).alloc (Nat.le_refl _) _).trans (hb4.mono (by simp)); replace BW : Hid (Below w1.heap.size w1 w4) := BW.out.trans (hal.mono BW.out.size); replace HF := Lib.hid (HF.out.grow hal); clear hb4 hal)
          | (go_at_call 35; (with_reducible refine (with_any A A2 x.results.length c c2' x.clubs x.results w2 hw HF.out.sl hc2' hm2').mono ?_); rintro e w4 ⟨rfl, hb4⟩; rw [HV.out, H1.out]; replace BW : Hid (Below w1.heap.size w1 w4) := BW.out.trans (hb4.mono BW.out.size); replace HF := Lib.hid (HF.out.grow hb4); clear hb4))
        all_goals (go_wp2_with fail; go_meet)
        · exact ⟨_, rfl, rfl, corAt_new (HA.out.grow BW.out) hsz HF.out rfl hw hn⟩
        · exact ⟨_, rfl, rfl, corAt_put (HA.out.grow BW.out) (Nat.le_trans hsz hz2) plt hsz (.inr (Nat.le_refl _)) HF.out rfl hw hn p0 p1 pf0 pf1⟩
        · exact ⟨_, rfl, rfl, corAt_put (HA.out.grow BW.out) hsz plt (by omega) (.inl (Nat.lt_succ_self _)) HF.out rfl hw hn p0 p1 pf0 pf1⟩
      case rest =>
        obtain ⟨p, rfl, rfl, HC⟩ := hcut
        clear q0 q1
        go_wp2_with fail
        go_loopw [7, 29] (fun ok i wr => ∃ (j : Nat) (y : LeagueV), j ≤ l.length ∧ i = .int .i64 j ∧ ok = .bool true ∧ Hid (corrS x l = corrS y (l.drop j)) ∧ Hid (CorAt w wr p y)) (fun _ i _ => l.length - (intOf i).toNat)
        case atStart => exact ⟨0, x, Nat.zero_le _, rfl, rfl, rfl, HC⟩
        case round =>
          obtain ⟨j, y, hj, rfl, rfl, HE, HY⟩ := hrel
          clear HC
          by_cases hlt : j < l.length
          · obtain ⟨b, off, u, xs, rfl, hx, hcell, hin, -⟩ := (HS.out.2.2.below HY.out.res.be).at_ hlt
            obtain ⟨Au, cu, rfl, hcu, hmu, hsu⟩ := hin
            have HX := Lib.hid (And.intro hx hsu)
            clear hx hsu
            by_cases h3 : xs.length = 3
            · obtain ⟨i, z, u, rfl⟩ : ∃ i z u, xs = [i, z, u] := by
                match xs, h3 with
                | [i, z, u], _ => exact ⟨i, z, u, rfl⟩
              clear h3
              obtain ⟨Ay, cy, lo, hi, y0, y1, g0, g1, hp1, hp2, hlo, hd, hf, hwy, hres, hny⟩ := HY.out
              have HR := Lib.hid hres
              have HF := Lib.hid hf
              obtain ⟨bu, ou, rfl, k0, k1, k2⟩ : ∃ bu ou, Au = some ⟨bu, ou, none⟩ ∧ wr.cell? ⟨bu, ou, none⟩ = some (.int .i64 i) ∧ wr.cell? ⟨bu, ou + 1, none⟩ = some (.int .i64 z) ∧ wr.cell? ⟨bu, ou + 2, none⟩ = some (.int .i64 u) := by
                rcases HX.out.2 with h | ⟨bu, ou, h, hk⟩
                · cases h
                · exact ⟨bu, ou, h, hk 0 i rfl, hk 1 z rfl, hk 2 u rfl⟩
              clear hres hf
              obtain ⟨y', hy'⟩ : ∃ y', replF y i z u = y' := ⟨_, rfl⟩
              have HYE := Lib.hid hy'
              have hny' : y'.results.length ≤ 1048576 := by rw [← hy']; exact replF_len hny
              have HI : Hid (InL wr.drew (.agg #[.int .i64 y.clubs, .slice Ay y.results.length cy]) y) := by
                obtain ⟨A9, c9, e9, h8, h9⟩ := HF.out.form
                injection e9 with _ _ e9
                subst e9
                exact ⟨Ay, cy, rfl, h8, h9, HF.out.sl, hwy⟩
              clear hy' HF
              cases hok : replOk y i z u
              all_goals
                have HOK := Lib.hid hok
                clear hok
                go_upto_region 9 with (fail)
                refine region_after 10 #[true, true, true, true, true, true, true, true, true, true, false, false, false, false, false, false] (by kernel_rfl) (by kernel_rfl) ?_
                simp only [List.take_succ_cons, List.take_zero]
                repeat still_step
                refine wpStill_nil ?_
                show wpAny _ _ _ _ (5 + 1) _ _ _
                refine wpAny_ready (rs := [10]) (by kernel_rfl) (by simp) ?_
                refine AllReady.cons rfl (fun K hK => ?_) AllReady.nil
                go_simp
                refine (implReplaceResult_any _ y i z u wr.drew HI.out hny).mono ?_
                rintro e w3 ⟨v3, rfl, ho3, hb3⟩
                rw [HOK.out]
                rw [HYE.out] at ho3
                obtain ⟨A3, c3, rfl⟩ := ho3.form
                have b3 : Below wr.heap.size wr w3 := below_undraw (q := 1) hb3
                have p0 := (b3.cell (p := ⟨p, 0, none⟩) hp2).trans y0
                have p1 := (b3.cell (p := ⟨p, 1, none⟩) hp2).trans y1
                have pf0 := (b3.frozen (p := ⟨p, 0, none⟩) hp2).trans g0
                have pf1 := (b3.frozen (p := ⟨p, 1, none⟩) hp2).trans g1
                have R3 := HR.out.grow b3
                have F3 : FrR w3 wr.heap.size w3.heap.size (.slice A3 y'.results.length c3) y'.results ∧ (Lit.int .i64 y'.clubs).wf = true := by
                  obtain ⟨u9, e9, h8, h9⟩ := ho3
                  injection e9 with e9
                  simp at e9
                  subst e9
                  exact ⟨h8, h9⟩
                have C3 := Lib.hid (corAt_put R3 hp1 (Nat.lt_of_lt_of_le hp2 b3.size) (Nat.le_trans HR.out.sz (Nat.le_refl _)) (.inl hp2) F3.1 rfl F3.2 hny' p0 p1 pf0 pf1)
                clear hb3 b3 R3 F3 ho3
                go_wp2_with fail
                refine wpAny_take (i := 11) (v := ?_) rfl (by kernel_rfl) (by kernel_rfl) (by kernel_rfl) (fun _ _ _ h => h) (Or.inl ⟨by rfl, ?_⟩) ?_
                rotate_left
                · (intro wq; go_simp; try with_reducible rfl)
                refine wpAny_take (i := 12) (v := ?_) rfl (by kernel_rfl) (by kernel_rfl) (by kernel_rfl) (fun _ _ _ h => h) (Or.inl ⟨by rfl, ?_⟩) ?_
                rotate_left
                · (intro wq; go_simp; try with_reducible rfl)
                refine wpAny_take (i := 13) (v := ?_) rfl (by kernel_rfl) (by kernel_rfl) (by kernel_rfl) (fun _ _ _ h => h) (Or.inl ⟨by rfl, ?_⟩) ?_
                rotate_left
                · (intro wq; go_simp; try with_reducible rfl)
                refine wpAny_ready (rs := [14]) (by kernel_rfl) (by simp) ?_
                refine AllReady.cons rfl (fun K hK => ?_) AllReady.nil
                go_simp
                refine hK _ _ ?_
                clear hK K
                refine wpAny_take (i := 15) (v := ?_) rfl (by kernel_rfl) (by kernel_rfl) (by kernel_rfl) (fun _ _ _ h => h) (Or.inl ⟨by rfl, ?_⟩) ?_
                rotate_left
                · (intro wq; go_simp; try with_reducible rfl)
                refine wpAny_done (by kernel_rfl) ?_ _
                generalize ((w3.setCell ⟨p, 0, none⟩ (.int .i64 y'.clubs)).setCell ⟨p, 1, none⟩ (.slice A3 y'.results.length c3)) = w4 at *
                clear p0 p1 pf0 pf1 y0 y1 g0 g1 k0 k1 k2
              · have HO : Hid (corrOk x l = false ∧ corrF x l = ⟨0, []⟩) := corr_none (by rw [HT.out, HE.out, corrS_at HX.out.1, corr1_no HOK.out]; rfl)
                have AT4 := C3.out.res
                have r0 := AT4.r0
                have r1 := AT4.r1
                have r2 := AT4.f0
                have r3 := AT4.f1
                have HB4 := Lib.hid AT4.be
                clear AT4 C3
                go_wp2
                have KP : Keep (w.heap.size + 1) (w.heap.size + 2) w4 ((w4.setCell ⟨w.heap.size + 1, 0, none⟩ (.int .i64 0)).setCell ⟨w.heap.size + 1, 1, none⟩ (.slice none 0 0)) :=
                  ((Keep.refl _ _ _).setCell (p := ⟨w.heap.size + 1, 0, none⟩) (Nat.le_refl _) (Nat.lt_succ_self _) _).setCell (p := ⟨w.heap.size + 1, 1, none⟩) (Nat.le_refl _) (Nat.lt_succ_self _) _
                refine bodyPost_ret (v := .tuple #[.agg #[.int .i64 0, .slice none 0 0], .bool false]) (by simp [results, Try.results17, go_sem, r0, r1]) rfl ⟨_, by rw [HO.out.1], ?_, HB4.out.trans (KP.below (by omega) HB4.out.size)⟩
                rw [HO.out.2]
                exact ⟨_, rfl, FrR.nil _ (Nat.le_refl _), by decide⟩
              · have HE2 : Hid (corrS x l = corrS y' (l.drop (j + 1))) := by show _ = _; rw [HE.out, corrS_at HX.out.1, corr1_yes HOK.out, HYE.out]; rfl
                go_wp2
                exact ⟨⟨j + 1, y', by omega, by go_num, rfl, HE2, C3⟩, by simp [intOf]; omega⟩
            · have HO : Hid (corrOk x l = false ∧ corrF x l = ⟨0, []⟩) := corr_none (by rw [HT.out, HE.out, corrS_at HX.out.1, corr1_bad h3]; rfl)
              have AT4 := HY.out.res
              have r0 := AT4.r0
              have r1 := AT4.r1
              have r2 := AT4.f0
              have r3 := AT4.f1
              have HB4 := Lib.hid AT4.be
              clear AT4 HY
              go_wp2
              have KP : Keep (w.heap.size + 1) (w.heap.size + 2) wr ((wr.setCell ⟨w.heap.size + 1, 0, none⟩ (.int .i64 0)).setCell ⟨w.heap.size + 1, 1, none⟩ (.slice none 0 0)) :=
                ((Keep.refl _ _ _).setCell (p := ⟨w.heap.size + 1, 0, none⟩) (Nat.le_refl _) (Nat.lt_succ_self _) _).setCell (p := ⟨w.heap.size + 1, 1, none⟩) (Nat.le_refl _) (Nat.lt_succ_self _) _
              refine bodyPost_ret (v := .tuple #[.agg #[.int .i64 0, .slice none 0 0], .bool false]) (by simp [results, Try.results17, go_sem, r0, r1]) rfl ⟨_, by rw [HO.out.1], ?_, HB4.out.trans (KP.below (by omega) HB4.out.size)⟩
              rw [HO.out.2]
              exact ⟨_, rfl, FrR.nil _ (Nat.le_refl _), by decide⟩
          · obtain rfl : j = l.length := by omega
            have HO : Hid (corrOk x l = true ∧ corrF x l = y) := corr_some (by rw [HT.out, HE.out, List.drop_length]; rfl)
            obtain ⟨Ay, cy, lo, hi, y0, y1, g0, g1, hp1, hp2, hlo, hd, hf, hwy, hres, hny⟩ := HY.out
            have r0 := hres.r0
            have r1 := hres.r1
            have r2 := hres.f0
            have r3 := hres.f1
            have HB4 := Lib.hid (And.intro hres.be (And.intro hf hres.sz))
            clear hres hf HY
            go_wp2
            have KP : Keep (w.heap.size + 1) (w.heap.size + 2) wr ((wr.setCell ⟨w.heap.size + 1, 0, none⟩ (.int .i64 y.clubs)).setCell ⟨w.heap.size + 1, 1, none⟩ (.slice Ay y.results.length cy)) :=
              ((Keep.refl _ _ _).setCell (p := ⟨w.heap.size + 1, 0, none⟩) (Nat.le_refl _) (Nat.lt_succ_self _) _).setCell (p := ⟨w.heap.size + 1, 1, none⟩) (Nat.le_refl _) (Nat.lt_succ_self _) _
            refine bodyPost_ret (v := .tuple #[.agg #[.int .i64 y.clubs, .slice Ay y.results.length cy], .bool true]) (by simp [results, Try.results17, go_sem, r0, r1]) rfl ⟨_, by rw [HO.out.1], ?_, HB4.out.1.trans (KP.below (by omega) HB4.out.1.size)⟩
            rw [HO.out.2]
            exact ⟨_, rfl, (HB4.out.2.1.keep KP (.inr hlo)).wide (by omega) (Nat.le_trans HB4.out.2.1.2.2 KP.size) (Nat.le_refl _), hwy⟩
    · have HO : Hid (corrOk x l = false ∧ corrF x l = ⟨0, []⟩) := corr_no (fun h => h20 h.2)
      have H1 := Lib.hid h1
      clear h1
      go_enter Try.func17, Try.ntmps17
      go_wp2_with fail
      refine (implLeagueOk_any _ x _ (HS.out.1.below (((Below.refl _ w).alloc (Nat.le_refl _) _).alloc (by simp) _))).mono ?_
      rintro e w1 ⟨rfl, hb⟩
      rw [H1.out]
      have AT1 := (resAt_init w (.cells #[.int .i64 x.clubs, .slice A x.results.length c] 25)).grow hb
      have r0 := AT1.r0
      have r1 := AT1.r1
      have r2 := AT1.f0
      have r3 := AT1.f1
      have HB4 := Lib.hid AT1.be
      clear hb AT1
      go_wp2
      have KP : Keep (w.heap.size + 1) (w.heap.size + 2) w1 ((w1.setCell ⟨w.heap.size + 1, 0, none⟩ (.int .i64 0)).setCell ⟨w.heap.size + 1, 1, none⟩ (.slice none 0 0)) :=
        ((Keep.refl _ _ _).setCell (p := ⟨w.heap.size + 1, 0, none⟩) (Nat.le_refl _) (Nat.lt_succ_self _) _).setCell (p := ⟨w.heap.size + 1, 1, none⟩) (Nat.le_refl _) (Nat.lt_succ_self _) _
      refine bodyPost_ret (v := .tuple #[.agg #[.int .i64 0, .slice none 0 0], .bool false]) (by simp [results, Try.results17, go_sem, r0, r1]) rfl ⟨_, by rw [HO.out.1], ?_, HB4.out.trans (KP.below (by omega) HB4.out.size)⟩
      rw [HO.out.2]
      exact ⟨_, rfl, FrR.nil _ (Nat.le_refl _), by decide⟩
end Go.Proofs.Ythlkhmbndaecfaa
