/- All corrections: the reference's contract. -/
import Derived.Test.YthfllppknngfpaaCb
import Derived.Test.YthfllppknngfpaaAm
namespace Go.Proofs.Ythfllppknngfpaa
open Go.ChangeShapes Go.WideShapes Go.ChangeAt Go.RowKit

theorem inL_ad {w : World} {v : Value} {y : LeagueV} (h : InL w v y) (o : Obj) : InL (w.alloc o).drew v y := h.below (below_drewL ((Below.refl _ w).alloc (Nat.le_refl _) o))
theorem inL_dr {w : World} {v : Value} {y : LeagueV} (h : InL w v y) : InL w.drew v y := h
theorem corAt_step {w wr W : World} {p hi n c : Nat} {A : Option Addr} {y' : LeagueV} {u0 u1 : Value} (hr : ResAt w wr) (hb : Below wr.heap.size wr W) (hp : w.heap.size + 2 ≤ p) (hlt : p < wr.heap.size) (hf : FrR W wr.heap.size hi (.slice A n c) y'.results) (hnn : n = y'.results.length)
    (hw : (Lit.int .i64 y'.clubs).wf = true) (hn : y'.results.length ≤ 1048576) (p0 : W.cell? ⟨p, 0, none⟩ = some u0) (p1 : W.cell? ⟨p, 1, none⟩ = some u1) (f0 : W.frozen? ⟨p, 0, none⟩ = false) (f1 : W.frozen? ⟨p, 1, none⟩ = false) :
    CorAt w ((W.setCell ⟨p, 0, none⟩ (.int .i64 y'.clubs)).setCell ⟨p, 1, none⟩ (.slice A n c)) p y' :=
  corAt_put (hr.grow hb) hp (Nat.lt_of_lt_of_le hlt hb.size) hr.sz (.inl hlt) hf hnn hw hn p0 p1 f0 f1
theorem owL_row {w : World} {lo lo' hi n c : Nat} {A : Option Addr} {cl : Value} {y : LeagueV} (h : OwL w lo hi (.agg #[cl, .slice A n c]) y) (h1 : lo' ≤ lo) : FrR w lo' hi (.slice A n c) y.results := by
  obtain ⟨u, e, hf, _⟩ := h
  injection e with e
  simp at e
  obtain ⟨_, rfl⟩ := e
  exact hf.wide h1 (Nat.le_refl _) hf.2.2
theorem owL_wf {w : World} {lo hi : Nat} {v : Value} {y : LeagueV} (h : OwL w lo hi v y) : (Lit.int .i64 y.clubs).wf = true := by
  obtain ⟨u, e, hf, hw⟩ := h
  exact hw
theorem two_subs : ∀ k : Fin 9, IntKind.i64.wrap (IntKind.i64.wrap (2 ^ k.val) - 1) = ((2 ^ k.val - 1 : Nat) : Int) := by decide +kernel
theorem two_sub {cl : Int} (_h1 : 2 ≤ cl) (h2 : cl ≤ 8) : IntKind.i64.wrap (IntKind.i64.wrap (2 ^ cl.toNat) - 1) = ((2 ^ cl.toNat - 1 : Nat) : Int) := two_subs ⟨cl.toNat, by omega⟩
set_option maxHeartbeats 4000000 in
set_option maxRecDepth 100000 in
theorem specCorrectAll_std (v : Value) (x : LeagueV) (v2 : Value) (l : List (List Int)) (w : World) (hs : InL w v x) (hn : x.results.length ≤ 1048576) (hs2 : InS w v2 l) (hn2 : bulk l ≤ 1048576) :
    Calls Try.prog 13 #[v, v2] w fun e w' => ∃ v', e = .returned (.tuple #[v', .bool (corrOk x l)]) ∧ OwL w' w.heap.size w'.heap.size v' (corrF x l) ∧ Below w.heap.size w w' := by
  have hs0 := hs
  obtain ⟨A, c, rfl, hc, hm, hsl, hw⟩ := hs
  have hs3 := hs2
  obtain ⟨A2, c2, vs2, rfl, -, hc2, hm2, -⟩ := hs2
  have HS := Lib.hid (And.intro hs0 (And.intro hsl hs3))
  have hl2 : l.length ≤ 1048576 := Nat.le_trans (bulk_len l) hn2
  clear hs0 hsl hs3 hn2
  cases h1 : leagueB x
  · have HO : Hid (corrOk x l = false ∧ corrF x l = ⟨0, []⟩) := corr_no (by rw [h1]; simp)
    go_enter Try.func13, Try.ntmps13
    go_wp2_with fail
    refine (specLeagueOk_any _ x _ (HS.out.1.below (((Below.refl _ w).alloc (Nat.le_refl _) _).alloc (by simp) _))).mono ?_
    rintro e w1 ⟨rfl, hb⟩
    rw [h1]
    have AT1 := (resAt_init w (.cells #[.int .i64 x.clubs, .slice A x.results.length c] 28)).grow hb
    have r0 := AT1.r0
    have r1 := AT1.r1
    have r2 := AT1.f0
    have r3 := AT1.f1
    have HB4 := Lib.hid AT1.be
    clear hb AT1
    go_wp2
    have KP : Keep (w.heap.size + 1) (w.heap.size + 2) w1 ((w1.setCell ⟨w.heap.size + 1, 0, none⟩ (.int .i64 0)).setCell ⟨w.heap.size + 1, 1, none⟩ (.slice none 0 0)) :=
      ((Keep.refl _ _ _).setCell (p := ⟨w.heap.size + 1, 0, none⟩) (Nat.le_refl _) (Nat.lt_succ_self _) _).setCell (p := ⟨w.heap.size + 1, 1, none⟩) (Nat.le_refl _) (Nat.lt_succ_self _) _
    refine bodyPost_ret (v := .tuple #[.agg #[.int .i64 0, .slice none 0 0], .bool false]) (by simp [results, Try.results13, go_sem, r0, r1]) rfl ⟨_, by rw [HO.out.1], ?_, HB4.out.trans (KP.below (by omega) HB4.out.size)⟩
    rw [HO.out.2]
    exact ⟨_, rfl, FrR.nil _ (Nat.le_refl _), by decide⟩
  · by_cases h20 : l.length ≤ 20
    · have HT : Hid (corrT x l = corrS x l) := corr_go h1 h20
      have H1 : Hid (leagueB x = true) := h1
      have hcl : 2 ≤ x.clubs ∧ x.clubs ≤ 8 := by
        unfold leagueB at h1
        rw [Bool.and_eq_true] at h1
        exact inB_t.1 h1.1
      obtain ⟨hcl1, hcl2⟩ := hcl
      clear h1
      go_enter Try.func13, Try.ntmps13
      go_wp2_with fail
      refine (specLeagueOk_any _ x _ (HS.out.1.below (((Below.refl _ w).alloc (Nat.le_refl _) _).alloc (by simp) _))).mono ?_
      rintro e w1 ⟨rfl, hb⟩
      rw [H1.out]
      have AT1 := (resAt_init w (.cells #[.int .i64 x.clubs, .slice A x.results.length c] 28)).grow hb
      (try simp only [World.size_alloc] at hb)
      have q0 : w1.cell? ⟨w.heap.size, 0, none⟩ = some (.int .i64 x.clubs) := by rw [hb.cell (p := ⟨w.heap.size, 0, none⟩) (by show w.heap.size < _; first | omega | simp)]; simp [go_sem]
      have q1 : w1.cell? ⟨w.heap.size, 1, none⟩ = some (.slice A x.results.length c) := by rw [hb.cell (p := ⟨w.heap.size, 1, none⟩) (by show w.heap.size < _; first | omega | simp)]; simp [go_sem]
      have hsz := AT1.sz
      have HA := Lib.hid AT1
      have S1 : Hid (InL w1 (.agg #[.int .i64 x.clubs, .slice A x.results.length c]) x) := HS.out.1.below AT1.be
      have KQ : Hid (∀ W, Below w1.heap.size w1 W → W.cell? ⟨w.heap.size, 0, none⟩ = some (.int .i64 x.clubs) ∧ W.cell? ⟨w.heap.size, 1, none⟩ = some (.slice A x.results.length c)) := fun W h =>
        ⟨(h.cell (p := ⟨w.heap.size, 0, none⟩) (by show w.heap.size < _; omega)).trans q0, (h.cell (p := ⟨w.heap.size, 1, none⟩) (by show w.heap.size < _; omega)).trans q1⟩
      clear hb AT1
      go_upto_region 3 with (fail)
      go_cut [6] from 20 to 25 (fun s6 wx => ∃ p, s6 = .pointer (some ⟨p, 0, none⟩) ∧ Hid (CorAt w wx p x))
      case first =>
        go_region_held3 (fun W => W.cell? ⟨w.heap.size, 0, none⟩ = some (.int .i64 x.clubs) ∧ W.cell? ⟨w.heap.size, 1, none⟩ = some (.slice A x.results.length c)) (first | exact ⟨q0, q1⟩ | exact KQ.out _ BW.out | exact KQ.out _ (BW.out.alloc BW.out.size _) | exact KQ.out _ ((BW.out.setCell (Nat.le_refl _) _).setCell (Nat.le_refl _) _) | go_keep) (first
          | (go_at_call 30; rw [two_sub hcl1 hcl2]; (with_reducible refine (l12Among_all _ x _ (w1.alloc (.cells #[.int .i64 0, .slice none 0 0] 28)).drew (inL_ad S1.out _) hn H1.out rfl).mono ?_); rintro e w3 ⟨v3, rfl, ho3, hb3⟩; obtain ⟨A3, c3, rfl⟩ := ho3.form; obtain ⟨t0, t1, tf0, tf1, tlt⟩ := pb_ad hb3; have BW : Hid (Below w1.heap.size w1 w3) := below_ad hb3; have HF := Lib.hid (owL_row ho3 (lo' := w1.heap.size + 1) (by simp [World.drew])); clear hb3 ho3)
          | (go_at_call 30; rw [two_sub hcl1 hcl2]; (with_reducible refine (l12Among_all _ x _ w1.drew (inL_dr S1.out) hn H1.out rfl).mono ?_); rintro e w3 ⟨v3, rfl, ho3, hb3⟩; obtain ⟨A3, c3, rfl⟩ := ho3.form; have BW : Hid (Below w1.heap.size w1 w3) := below_undraw (q := 1) hb3; have HF := Lib.hid (owL_row ho3 (lo' := w1.heap.size) (Nat.le_refl _)); clear hb3 ho3))
        all_goals (go_wp2_with fail; go_meet)
        · exact ⟨_, rfl, corAt_new (HA.out.grow BW.out) hsz HF.out rfl hw hn⟩
        · exact ⟨_, rfl, corAt_put (HA.out.grow BW.out) hsz tlt (by omega) (.inl (Nat.lt_succ_self _)) HF.out rfl hw hn t0 t1 tf0 tf1⟩
      case rest =>
        obtain ⟨p, rfl, HC⟩ := hcut
        clear q0 q1
        go_wp2_with fail
        go_loopw [28] (fun i wr => ∃ (j : Nat) (y : LeagueV), j ≤ l.length ∧ i = .int .i64 j ∧ Hid (corrS x l = corrS y (l.drop j)) ∧ Hid (CorAt w wr p y)) (fun i _ => l.length - (intOf i).toNat)
        case atStart => exact ⟨0, x, Nat.zero_le _, rfl, rfl, HC⟩
        case round =>
          obtain ⟨j, y, hj, rfl, HE, HY⟩ := hrel
          clear HC
          by_cases hlt : j < l.length
          · obtain ⟨b, off, u, xs, rfl, hx, hcell, hin, -⟩ := (HS.out.2.2.below HY.out.res.be).at_ hlt
            obtain ⟨Au, cu, rfl, hcu, hmu, hsu⟩ := hin
            have HX := Lib.hid (And.intro hx hsu)
            clear hx hsu
            by_cases h3 : xs.length = 3
            · obtain ⟨i, z, u, rfl⟩ : ∃ i z u, xs = [i, z, u] := by
                match xs, h3 with
                | [i, z, u], _ => exact ⟨i, z, u, rfl⟩
              clear h3
              obtain ⟨Ay, cy, lo, hi, y0, y1, g0, g1, hp1, hp2, hlo, hd, hf, hwy, hres, hny⟩ := HY.out
              have HR := Lib.hid hres
              have HI : Hid (InL wr (.agg #[.int .i64 y.clubs, .slice Ay y.results.length cy]) y) := by
                obtain ⟨A9, c9, e9, h8, h9⟩ := hf.form
                injection e9 with _ _ e9
                subst e9
                exact ⟨Ay, cy, rfl, h8, h9, hf.sl, hwy⟩
              obtain ⟨bu, ou, rfl, k0, k1, k2⟩ : ∃ bu ou, Au = some ⟨bu, ou, none⟩ ∧ wr.cell? ⟨bu, ou, none⟩ = some (.int .i64 i) ∧ wr.cell? ⟨bu, ou + 1, none⟩ = some (.int .i64 z) ∧ wr.cell? ⟨bu, ou + 2, none⟩ = some (.int .i64 u) := by
                rcases HX.out.2 with h | ⟨bu, ou, h, hk⟩
                · cases h
                · exact ⟨bu, ou, h, hk 0 i rfl, hk 1 z rfl, hk 2 u rfl⟩
              have hbu : bu < wr.heap.size := block_lt_of_cell k0
              have KQ2 : Hid (∀ W, Below wr.heap.size wr W → W.cell? ⟨p, 0, none⟩ = some (.int .i64 y.clubs) ∧ W.cell? ⟨p, 1, none⟩ = some (.slice Ay y.results.length cy) ∧ W.cell? ⟨bu, ou, none⟩ = some (.int .i64 i) ∧ W.cell? ⟨bu, ou + 1, none⟩ = some (.int .i64 z) ∧ W.cell? ⟨bu, ou + 2, none⟩ = some (.int .i64 u)) := fun W h =>
                ⟨(h.cell (p := ⟨p, 0, none⟩) hp2).trans y0, (h.cell (p := ⟨p, 1, none⟩) hp2).trans y1, (h.cell (p := ⟨bu, ou, none⟩) hbu).trans k0, (h.cell (p := ⟨bu, ou + 1, none⟩) hbu).trans k1, (h.cell (p := ⟨bu, ou + 2, none⟩) hbu).trans k2⟩
              have PF : Hid (∀ W, Below wr.heap.size wr W → W.frozen? ⟨p, 0, none⟩ = false ∧ W.frozen? ⟨p, 1, none⟩ = false) := fun W h => ⟨(h.frozen (p := ⟨p, 0, none⟩) hp2).trans g0, (h.frozen (p := ⟨p, 1, none⟩) hp2).trans g1⟩
              obtain ⟨y', hy'⟩ : ∃ y', replF y i z u = y' := ⟨_, rfl⟩
              have HYE := Lib.hid hy'
              have hny' : y'.results.length ≤ 1048576 := by rw [← hy']; exact replF_len hny
              clear hres hf hy'
              cases hok : replOk y i z u
              all_goals
                have HOK := Lib.hid hok
                clear hok
                go_upto_region 9 with (fail)
                go_region_held3 (fun W => W.cell? ⟨p, 0, none⟩ = some (.int .i64 y.clubs) ∧ W.cell? ⟨p, 1, none⟩ = some (.slice Ay y.results.length cy) ∧ W.cell? ⟨bu, ou, none⟩ = some (.int .i64 i) ∧ W.cell? ⟨bu, ou + 1, none⟩ = some (.int .i64 z) ∧ W.cell? ⟨bu, ou + 2, none⟩ = some (.int .i64 u)) (first | exact ⟨y0, y1, k0, k1, k2⟩ | exact KQ2.out _ BW.out | exact KQ2.out _ (BW.out.alloc BW.out.size _) | exact KQ2.out _ ((BW.out.setCell (Nat.le_refl _) _).setCell (Nat.le_refl _) _) | go_keep) (first
                  | (go_at_call 31; (with_reducible refine (specReplaceResult_any _ y i z u (wr.alloc (.cells #[.int .i64 0, .slice none 0 0] 28)).drew (inL_ad HI.out _) hny).mono ?_); rintro e w3 ⟨v3, rfl, ho3, hb3⟩; rw [HOK.out]; rw [HYE.out] at ho3; obtain ⟨A3, c3, rfl⟩ := ho3.form; obtain ⟨t0, t1, tf0, tf1, tlt⟩ := pb_ad hb3; have BW : Hid (Below wr.heap.size wr w3) := below_ad hb3; have HF := Lib.hid (owL_row ho3 (lo' := wr.heap.size + 1) (by simp [World.drew])); have hwy' := owL_wf ho3; clear hb3 ho3)
                  | (go_at_call 31; (with_reducible refine (specReplaceResult_any _ y i z u wr.drew (inL_dr HI.out) hny).mono ?_); rintro e w3 ⟨v3, rfl, ho3, hb3⟩; rw [HOK.out]; rw [HYE.out] at ho3; obtain ⟨A3, c3, rfl⟩ := ho3.form; have BW : Hid (Below wr.heap.size wr w3) := below_undraw (q := 1) hb3; have HF := Lib.hid (owL_row ho3 (lo' := wr.heap.size) (Nat.le_refl _)); have hwy' := owL_wf ho3; clear hb3 ho3))
              · have B5 : Below wr.heap.size wr (w3.alloc (.cells #[.int .i64 y'.clubs, .slice A3 y'.results.length c3] 28)) := BW.out.alloc BW.out.size _
                have F5 : FrR (w3.alloc (.cells #[.int .i64 y'.clubs, .slice A3 y'.results.length c3] 28)) wr.heap.size w3.heap.size (.slice A3 y'.results.length c3) y'.results := HF.out.grow ((Below.refl _ w3).alloc (Nat.le_refl _) _)
                have s0 : (w3.alloc (.cells #[.int .i64 y'.clubs, .slice A3 y'.results.length c3] 28)).cell? ⟨w3.heap.size, 0, none⟩ = some (.int .i64 y'.clubs) := by simp [go_sem]
                have s1 : (w3.alloc (.cells #[.int .i64 y'.clubs, .slice A3 y'.results.length c3] 28)).cell? ⟨w3.heap.size, 1, none⟩ = some (.slice A3 y'.results.length c3) := by simp [go_sem]
                generalize (w3.alloc (.cells #[.int .i64 y'.clubs, .slice A3 y'.results.length c3] 28)) = w5 at *
                have HO : Hid (corrOk x l = false ∧ corrF x l = ⟨0, []⟩) := corr_none (by rw [HT.out, HE.out, corrS_at HX.out.1, corr1_no HOK.out]; rfl)
                have AT4 := HR.out.grow B5
                have r0 := AT4.r0
                have r1 := AT4.r1
                have r2 := AT4.f0
                have r3 := AT4.f1
                have HB4 := Lib.hid AT4.be
                clear AT4 B5 F5 s0 s1
                go_wp2
                have KP : Keep (w.heap.size + 1) (w.heap.size + 2) w5 ((w5.setCell ⟨w.heap.size + 1, 0, none⟩ (.int .i64 0)).setCell ⟨w.heap.size + 1, 1, none⟩ (.slice none 0 0)) :=
                  ((Keep.refl _ _ _).setCell (p := ⟨w.heap.size + 1, 0, none⟩) (Nat.le_refl _) (Nat.lt_succ_self _) _).setCell (p := ⟨w.heap.size + 1, 1, none⟩) (Nat.le_refl _) (Nat.lt_succ_self _) _
                refine bodyPost_ret (v := .tuple #[.agg #[.int .i64 0, .slice none 0 0], .bool false]) (by simp [results, Try.results13, go_sem, r0, r1]) rfl ⟨_, by rw [HO.out.1], ?_, HB4.out.trans (KP.below (by omega) HB4.out.size)⟩
                rw [HO.out.2]
                exact ⟨_, rfl, FrR.nil _ (Nat.le_refl _), by decide⟩
              · have B5 : Below wr.heap.size wr ((w3.setCell ⟨wr.heap.size, 0, none⟩ (.int .i64 y'.clubs)).setCell ⟨wr.heap.size, 1, none⟩ (.slice A3 y'.results.length c3)) := (BW.out.setCell (Nat.le_refl _) _).setCell (Nat.le_refl _) _
                have kp5 : Keep wr.heap.size (wr.heap.size + 1) w3 ((w3.setCell ⟨wr.heap.size, 0, none⟩ (.int .i64 y'.clubs)).setCell ⟨wr.heap.size, 1, none⟩ (.slice A3 y'.results.length c3)) := ((Keep.refl _ _ _).setCell (p := ⟨wr.heap.size, 0, none⟩) (Nat.le_refl _) (Nat.lt_succ_self _) _).setCell (p := ⟨wr.heap.size, 1, none⟩) (Nat.le_refl _) (Nat.lt_succ_self _) _
                have F5 : FrR ((w3.setCell ⟨wr.heap.size, 0, none⟩ (.int .i64 y'.clubs)).setCell ⟨wr.heap.size, 1, none⟩ (.slice A3 y'.results.length c3)) wr.heap.size w3.heap.size (.slice A3 y'.results.length c3) y'.results := (HF.out.keep kp5 (.inr (Nat.le_refl _))).wide (Nat.le_succ _) (Nat.le_refl _) kp5.size
                have s0 : ((w3.setCell ⟨wr.heap.size, 0, none⟩ (.int .i64 y'.clubs)).setCell ⟨wr.heap.size, 1, none⟩ (.slice A3 y'.results.length c3)).cell? ⟨wr.heap.size, 0, none⟩ = some (.int .i64 y'.clubs) := by simp [go_sem, t0]
                have s1 : ((w3.setCell ⟨wr.heap.size, 0, none⟩ (.int .i64 y'.clubs)).setCell ⟨wr.heap.size, 1, none⟩ (.slice A3 y'.results.length c3)).cell? ⟨wr.heap.size, 1, none⟩ = some (.slice A3 y'.results.length c3) := by simp [go_sem, t1]
                clear t0 t1 tf0 tf1 tlt kp5
                generalize ((w3.setCell ⟨wr.heap.size, 0, none⟩ (.int .i64 y'.clubs)).setCell ⟨wr.heap.size, 1, none⟩ (.slice A3 y'.results.length c3)) = w5 at *
                have HO : Hid (corrOk x l = false ∧ corrF x l = ⟨0, []⟩) := corr_none (by rw [HT.out, HE.out, corrS_at HX.out.1, corr1_no HOK.out]; rfl)
                have AT4 := HR.out.grow B5
                have r0 := AT4.r0
                have r1 := AT4.r1
                have r2 := AT4.f0
                have r3 := AT4.f1
                have HB4 := Lib.hid AT4.be
                clear AT4 B5 F5 s0 s1
                go_wp2
                have KP : Keep (w.heap.size + 1) (w.heap.size + 2) w5 ((w5.setCell ⟨w.heap.size + 1, 0, none⟩ (.int .i64 0)).setCell ⟨w.heap.size + 1, 1, none⟩ (.slice none 0 0)) :=
                  ((Keep.refl _ _ _).setCell (p := ⟨w.heap.size + 1, 0, none⟩) (Nat.le_refl _) (Nat.lt_succ_self _) _).setCell (p := ⟨w.heap.size + 1, 1, none⟩) (Nat.le_refl _) (Nat.lt_succ_self _) _
                refine bodyPost_ret (v := .tuple #[.agg #[.int .i64 0, .slice none 0 0], .bool false]) (by simp [results, Try.results13, go_sem, r0, r1]) rfl ⟨_, by rw [HO.out.1], ?_, HB4.out.trans (KP.below (by omega) HB4.out.size)⟩
                rw [HO.out.2]
                exact ⟨_, rfl, FrR.nil _ (Nat.le_refl _), by decide⟩
              · have B5 : Below wr.heap.size wr (w3.alloc (.cells #[.int .i64 y'.clubs, .slice A3 y'.results.length c3] 28)) := BW.out.alloc BW.out.size _
                have F5 : FrR (w3.alloc (.cells #[.int .i64 y'.clubs, .slice A3 y'.results.length c3] 28)) wr.heap.size w3.heap.size (.slice A3 y'.results.length c3) y'.results := HF.out.grow ((Below.refl _ w3).alloc (Nat.le_refl _) _)
                have s0 : (w3.alloc (.cells #[.int .i64 y'.clubs, .slice A3 y'.results.length c3] 28)).cell? ⟨w3.heap.size, 0, none⟩ = some (.int .i64 y'.clubs) := by simp [go_sem]
                have s1 : (w3.alloc (.cells #[.int .i64 y'.clubs, .slice A3 y'.results.length c3] 28)).cell? ⟨w3.heap.size, 1, none⟩ = some (.slice A3 y'.results.length c3) := by simp [go_sem]
                generalize (w3.alloc (.cells #[.int .i64 y'.clubs, .slice A3 y'.results.length c3] 28)) = w5 at *
                have HE2 : Hid (corrS x l = corrS y' (l.drop (j + 1))) := by show _ = _; rw [HE.out, corrS_at HX.out.1, corr1_yes HOK.out, HYE.out]; rfl
                obtain ⟨p0, p1, -⟩ := KQ2.out _ B5
                obtain ⟨pf0, pf1⟩ := PF.out _ B5
                have C5 := Lib.hid (corAt_step HR.out B5 hp1 hp2 F5 rfl hwy' hny' p0 p1 pf0 pf1)
                clear B5 F5
                go_wp2
                exact ⟨⟨j + 1, y', by omega, by go_num, HE2, C5⟩, by simp [intOf]; omega⟩
              · have B5 : Below wr.heap.size wr ((w3.setCell ⟨wr.heap.size, 0, none⟩ (.int .i64 y'.clubs)).setCell ⟨wr.heap.size, 1, none⟩ (.slice A3 y'.results.length c3)) := (BW.out.setCell (Nat.le_refl _) _).setCell (Nat.le_refl _) _
                have kp5 : Keep wr.heap.size (wr.heap.size + 1) w3 ((w3.setCell ⟨wr.heap.size, 0, none⟩ (.int .i64 y'.clubs)).setCell ⟨wr.heap.size, 1, none⟩ (.slice A3 y'.results.length c3)) := ((Keep.refl _ _ _).setCell (p := ⟨wr.heap.size, 0, none⟩) (Nat.le_refl _) (Nat.lt_succ_self _) _).setCell (p := ⟨wr.heap.size, 1, none⟩) (Nat.le_refl _) (Nat.lt_succ_self _) _
                have F5 : FrR ((w3.setCell ⟨wr.heap.size, 0, none⟩ (.int .i64 y'.clubs)).setCell ⟨wr.heap.size, 1, none⟩ (.slice A3 y'.results.length c3)) wr.heap.size w3.heap.size (.slice A3 y'.results.length c3) y'.results := (HF.out.keep kp5 (.inr (Nat.le_refl _))).wide (Nat.le_succ _) (Nat.le_refl _) kp5.size
                have s0 : ((w3.setCell ⟨wr.heap.size, 0, none⟩ (.int .i64 y'.clubs)).setCell ⟨wr.heap.size, 1, none⟩ (.slice A3 y'.results.length c3)).cell? ⟨wr.heap.size, 0, none⟩ = some (.int .i64 y'.clubs) := by simp [go_sem, t0]
                have s1 : ((w3.setCell ⟨wr.heap.size, 0, none⟩ (.int .i64 y'.clubs)).setCell ⟨wr.heap.size, 1, none⟩ (.slice A3 y'.results.length c3)).cell? ⟨wr.heap.size, 1, none⟩ = some (.slice A3 y'.results.length c3) := by simp [go_sem, t1]
                clear t0 t1 tf0 tf1 tlt kp5
                generalize ((w3.setCell ⟨wr.heap.size, 0, none⟩ (.int .i64 y'.clubs)).setCell ⟨wr.heap.size, 1, none⟩ (.slice A3 y'.results.length c3)) = w5 at *
                have HE2 : Hid (corrS x l = corrS y' (l.drop (j + 1))) := by show _ = _; rw [HE.out, corrS_at HX.out.1, corr1_yes HOK.out, HYE.out]; rfl
                obtain ⟨p0, p1, -⟩ := KQ2.out _ B5
                obtain ⟨pf0, pf1⟩ := PF.out _ B5
                have C5 := Lib.hid (corAt_step HR.out B5 hp1 hp2 F5 rfl hwy' hny' p0 p1 pf0 pf1)
                clear B5 F5
                go_wp2
                exact ⟨⟨j + 1, y', by omega, by go_num, HE2, C5⟩, by simp [intOf]; omega⟩
            · have HO : Hid (corrOk x l = false ∧ corrF x l = ⟨0, []⟩) := corr_none (by rw [HT.out, HE.out, corrS_at HX.out.1, corr1_bad h3]; rfl)
              have AT4 := HY.out.res
              have r0 := AT4.r0
              have r1 := AT4.r1
              have r2 := AT4.f0
              have r3 := AT4.f1
              have HB4 := Lib.hid AT4.be
              clear AT4 HY
              go_wp2
              have KP : Keep (w.heap.size + 1) (w.heap.size + 2) wr ((wr.setCell ⟨w.heap.size + 1, 0, none⟩ (.int .i64 0)).setCell ⟨w.heap.size + 1, 1, none⟩ (.slice none 0 0)) :=
                ((Keep.refl _ _ _).setCell (p := ⟨w.heap.size + 1, 0, none⟩) (Nat.le_refl _) (Nat.lt_succ_self _) _).setCell (p := ⟨w.heap.size + 1, 1, none⟩) (Nat.le_refl _) (Nat.lt_succ_self _) _
              refine bodyPost_ret (v := .tuple #[.agg #[.int .i64 0, .slice none 0 0], .bool false]) (by simp [results, Try.results13, go_sem, r0, r1]) rfl ⟨_, by rw [HO.out.1], ?_, HB4.out.trans (KP.below (by omega) HB4.out.size)⟩
              rw [HO.out.2]
              exact ⟨_, rfl, FrR.nil _ (Nat.le_refl _), by decide⟩
          · obtain rfl : j = l.length := by omega
            have HO : Hid (corrOk x l = true ∧ corrF x l = y) := corr_some (by rw [HT.out, HE.out, List.drop_length]; rfl)
            obtain ⟨Ay, cy, lo, hi, y0, y1, g0, g1, hp1, hp2, hlo, hd, hf, hwy, hres, hny⟩ := HY.out
            have r0 := hres.r0
            have r1 := hres.r1
            have r2 := hres.f0
            have r3 := hres.f1
            have HB4 := Lib.hid (And.intro hres.be (And.intro hf hres.sz))
            clear hres hf HY
            go_wp2
            have KP : Keep (w.heap.size + 1) (w.heap.size + 2) wr ((wr.setCell ⟨w.heap.size + 1, 0, none⟩ (.int .i64 y.clubs)).setCell ⟨w.heap.size + 1, 1, none⟩ (.slice Ay y.results.length cy)) :=
              ((Keep.refl _ _ _).setCell (p := ⟨w.heap.size + 1, 0, none⟩) (Nat.le_refl _) (Nat.lt_succ_self _) _).setCell (p := ⟨w.heap.size + 1, 1, none⟩) (Nat.le_refl _) (Nat.lt_succ_self _) _
            refine bodyPost_ret (v := .tuple #[.agg #[.int .i64 y.clubs, .slice Ay y.results.length cy], .bool true]) (by simp [results, Try.results13, go_sem, r0, r1]) rfl ⟨_, by rw [HO.out.1], ?_, HB4.out.1.trans (KP.below (by omega) HB4.out.1.size)⟩
            rw [HO.out.2]
            exact ⟨_, rfl, (HB4.out.2.1.keep KP (.inr hlo)).wide (by omega) (Nat.le_trans HB4.out.2.1.2.2 KP.size) (Nat.le_refl _), hwy⟩
    · have HO : Hid (corrOk x l = false ∧ corrF x l = ⟨0, []⟩) := corr_no (fun h => h20 h.2)
      have H1 := Lib.hid h1
      clear h1
      go_enter Try.func13, Try.ntmps13
      go_wp2_with fail
      refine (specLeagueOk_any _ x _ (HS.out.1.below (((Below.refl _ w).alloc (Nat.le_refl _) _).alloc (by simp) _))).mono ?_
      rintro e w1 ⟨rfl, hb⟩
      rw [H1.out]
      have AT1 := (resAt_init w (.cells #[.int .i64 x.clubs, .slice A x.results.length c] 28)).grow hb
      have r0 := AT1.r0
      have r1 := AT1.r1
      have r2 := AT1.f0
      have r3 := AT1.f1
      have HB4 := Lib.hid AT1.be
      clear hb AT1
      go_wp2
      have KP : Keep (w.heap.size + 1) (w.heap.size + 2) w1 ((w1.setCell ⟨w.heap.size + 1, 0, none⟩ (.int .i64 0)).setCell ⟨w.heap.size + 1, 1, none⟩ (.slice none 0 0)) :=
        ((Keep.refl _ _ _).setCell (p := ⟨w.heap.size + 1, 0, none⟩) (Nat.le_refl _) (Nat.lt_succ_self _) _).setCell (p := ⟨w.heap.size + 1, 1, none⟩) (Nat.le_refl _) (Nat.lt_succ_self _) _
      refine bodyPost_ret (v := .tuple #[.agg #[.int .i64 0, .slice none 0 0], .bool false]) (by simp [results, Try.results13, go_sem, r0, r1]) rfl ⟨_, by rw [HO.out.1], ?_, HB4.out.trans (KP.below (by omega) HB4.out.size)⟩
      rw [HO.out.2]
      exact ⟨_, rfl, FrR.nil _ (Nat.le_refl _), by decide⟩
end Go.Proofs.Ythfllppknngfpaa
