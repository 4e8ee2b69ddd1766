/- The results between all clubs: the reference copies the league. -/
import Derived.Test.YthfllppknngfpaaCa
import Derived.Test.YthfllppknngfpaaAn
namespace Go.Proofs.Ythfllppknngfpaa
open Go.ChangeShapes Go.WideShapes Go.ChangeAt Go.RowKit

/-- The box p of the league that is being built, while the results are gone through. -/
def AmAt (w W : World) (cl : Int) (rs : List Res) : Prop :=
  ∃ A c, W.cell? ⟨w.heap.size + 1 + 1, 0, none⟩ = some (.int .i64 cl) ∧ W.cell? ⟨w.heap.size + 1 + 1, 1, none⟩ = some (.slice A rs.length c) ∧ W.frozen? ⟨w.heap.size + 1 + 1, 0, none⟩ = false ∧ W.frozen? ⟨w.heap.size + 1 + 1, 1, none⟩ = false ∧
    w.heap.size + 3 ≤ W.heap.size ∧ FrR W (w.heap.size + 3) W.heap.size (.slice A rs.length c) rs ∧ ResAt w W
theorem amAt_put {w W : World} {cl : Int} {rs : List Res} {A : Option Addr} {n c : Nat} {u : Value} (hres : ResAt w W) (hsz : w.heap.size + 3 ≤ W.heap.size) (hf : FrR W (w.heap.size + 3) W.heap.size (.slice A n c) rs) (hl : n = rs.length)
    (p0 : W.cell? ⟨w.heap.size + 1 + 1, 0, none⟩ = some (.int .i64 cl)) (p1 : W.cell? ⟨w.heap.size + 1 + 1, 1, none⟩ = some u) (f0 : W.frozen? ⟨w.heap.size + 1 + 1, 0, none⟩ = false) (f1 : W.frozen? ⟨w.heap.size + 1 + 1, 1, none⟩ = false) :
    AmAt w (W.setCell ⟨w.heap.size + 1 + 1, 1, none⟩ (.slice A n c)) cl rs := by
  subst hl
  have kp : Keep (w.heap.size + 2) (w.heap.size + 3) W (W.setCell ⟨w.heap.size + 1 + 1, 1, none⟩ (.slice A rs.length c)) :=
    (Keep.refl _ _ _).setCell (p := ⟨w.heap.size + 1 + 1, 1, none⟩) (Nat.le_refl _) (Nat.lt_succ_self _) _
  exact ⟨A, c, by simp [go_sem, p0], by simp [go_sem, p1], by simp [go_sem, f0], by simp [go_sem, f1], Nat.le_trans hsz kp.size, (hf.keep kp (.inr (Nat.le_refl _))).wide (Nat.le_refl _) kp.size (Nat.le_refl _), hres.below (kp.below (Nat.le_refl _) (by omega))⟩
theorem slR_one (W : World) (r : Res) (g : Nat) (h : g = W.heap.size) : SlR (W.alloc (.cells #[.int .i64 r.h, .int .i64 r.a, .int .i64 r.g, .int .i64 r.t] 48)) (some ⟨g, 0, none⟩) [r] := by
  subst h
  refine .inr ⟨_, 0, rfl, fun k u hk => ?_⟩
  match k, hk with
  | 0, hk => simp [flat] at hk; subst hk; simp [go_sem]
  | 1, hk => simp [flat] at hk; subst hk; simp [go_sem]
  | 2, hk => simp [flat] at hk; subst hk; simp [go_sem]
  | 3, hk => simp [flat] at hk; subst hk; simp [go_sem]
  | k + 4, hk => simp [flat] at hk
theorem am_below {w wr w4 : World} {o1 o2 : Obj} (hsz : w.heap.size + 3 ≤ wr.heap.size) (h : ∀ B, B ≤ w.heap.size + 3 → B ≤ ((wr.alloc o1).alloc o2).heap.size → Below B ((wr.alloc o1).alloc o2) w4) : Below (w.heap.size + 3) wr w4 :=
  (((Below.refl _ wr).alloc hsz _).alloc (by simp; omega) _).trans (h _ (Nat.le_refl _) (by simp; omega))
theorem all_bits : ∀ c : Fin 9, ∀ h : Fin 8, h.val < c.val → bits BinOp.and IntKind.i64 (((2 ^ c.val - 1 : Nat) : Int) / 2 ^ h.val) 1 = 1 := by decide +kernel
theorem all_bit {s : Nat} {cl h : Int} (hs : s = 2 ^ cl.toNat - 1) (h1 : cl ≤ 8) (h2 : 0 ≤ h) (h3 : h ≤ cl - 1) : bits BinOp.and IntKind.i64 ((s : Int) / 2 ^ h.toNat) 1 = 1 := by
  subst hs
  exact all_bits ⟨cl.toNat, by omega⟩ ⟨h.toNat, by omega⟩ (by show h.toNat < cl.toNat; omega)
theorem leagueB_at {x : LeagueV} {j : Nat} {r : Res} (h : leagueB x = true) (hr : x.results[j]? = some r) : 2 ≤ x.clubs ∧ x.clubs ≤ 8 ∧ 0 ≤ r.h ∧ r.h ≤ x.clubs - 1 ∧ 0 ≤ r.a ∧ r.a ≤ x.clubs - 1 := by
  unfold leagueB at h
  simp only [Bool.and_eq_true, List.all_eq_true] at h
  obtain ⟨h1, -, h2⟩ := h
  have h3 := h2 r (List.mem_of_getElem? hr)
  unfold resB at h3
  simp only [Bool.and_eq_true] at h3
  exact ⟨(inB_t.1 h1).1, (inB_t.1 h1).2, (inB_t.1 h3.1).1, (inB_t.1 h3.1).2, (inB_t.1 h3.2.1).1, (inB_t.1 h3.2.1).2⟩
set_option maxHeartbeats 4000000 in
set_option maxRecDepth 100000 in
theorem l12Among_all (v : Value) (x : LeagueV) (s : Nat) (w : World) (hs : InL w v x) (hn : x.results.length ≤ 1048576) (hv : leagueB x = true) (hs0 : s = 2 ^ x.clubs.toNat - 1) :
    Calls Try.prog 30 #[v, .int .i64 s] w fun e w' => ∃ v', e = .returned v' ∧ OwL w' w.heap.size w'.heap.size v' x ∧ Below w.heap.size w w' := by
  obtain ⟨A, c, rfl, hc, hm, hsl, hw⟩ := hs
  have HS := Lib.hid hsl
  have HV := Lib.hid (And.intro hv hs0)
  clear hsl hv hs0
  go_enter Try.func30, Try.ntmps30
  go_wp2_with fail
  go_loopw [14] (fun i wr => ∃ j : Nat, j ≤ x.results.length ∧ i = .int .i64 j ∧ Hid (AmAt w wr x.clubs (x.results.take j))) (fun i _ => x.results.length - (intOf i).toNat)
  case atStart =>
    refine ⟨0, Nat.zero_le _, rfl, none, 0, by simp [go_sem], by simp [go_sem], by simp [go_sem], by simp [go_sem], by simp, ?_, (resAt_init w (.cells #[.int .i64 x.clubs, .slice A x.results.length c] 28)).grow ((Below.refl _ _).alloc (Nat.le_refl _) _)⟩
    exact FrR.nil _ (Nat.le_refl _)
  case round =>
    obtain ⟨j, hj, rfl, HR⟩ := hrel
    by_cases hlt : j < x.results.length
    · obtain ⟨Ay, cy, y0, y1, g0, g1, hsz, hf, hres⟩ := HR.out
      obtain ⟨b, off, r, rfl, hr, c1, c2, c3, c4, hb⟩ := SlR.at_ (SlR.below HS.out hres.be) hlt
      have HX := Lib.hid (And.intro hr (And.intro hf hres))
      obtain ⟨hc1, hc2, hb1, hb2, hb3, hb4⟩ := leagueB_at HV.out.1 hr
      have e1 := all_bit HV.out.2 hc2 hb1 hb2
      have e2 := all_bit HV.out.2 hc2 hb3 hb4
      have hb5 : r.h ≤ 7 := by omega
      have hb6 : r.a ≤ 7 := by omega
      clear hr hf hres
      go_upto_region 6 with (fail)
      clear c1 c2 c3 c4 e1 e2
      have hl : (x.results.take j).length = j := by rw [List.length_take]; omega
      rw [hl] at y1
      have HO : Hid (wr.ownsRow (w.heap.size + 3) 48 4 (.slice Ay j cy) j (ints (flat (x.results.take j)))) := by
        have h := HX.out.2.1.1
        rw [hl] at h; exact h
      have hl2 : (x.results.take (j + 1)).length = j + 1 := by rw [List.length_take]; omega
      have HL := Lib.hid (And.intro hl hl2)
      clear hl hl2
      have hne : ¬ (w.heap.size + 1 + 1 = wr.heap.size) := by omega
      have hne2 : w.heap.size + 1 + 1 < wr.heap.size := by omega
      go_wp2_with (at_builtin; refine appSrcR rfl _ _ rfl ((wr.alloc (.cells #[.int .i64 r.h, .int .i64 r.a, .int .i64 r.g, .int .i64 r.t] 48)).alloc (.cells #[.int .i64 r.h, .int .i64 r.a, .int .i64 r.g, .int .i64 r.t] 48)) (w.heap.size + 3) _ j (x.results.take j) rfl ((HO.out.alloc _).alloc _) ⟨wr.heap.size + 1, 0, none⟩ 1 1 [r] rfl rfl (slR_one _ _ _ (by simp)) (by omega) (by simp; omega) ?_; intro v4 w4 hown4 hb4 _; rw [← take_snoc HX.out.1] at hown4; have b4 : Below (w.heap.size + 3) wr w4 := am_below hsz hb4; obtain ⟨A4, c4, rfl, -⟩ := (FrR.of_own (rs := x.results.take (j + 1)) (by rw [HL.out.2]; exact hown4)).form; have F4 := Lib.hid (FrR.of_own (rs := x.results.take (j + 1)) (by rw [HL.out.2]; exact hown4)); have p0 := (b4.cell (p := ⟨w.heap.size + 1 + 1, 0, none⟩) (by show w.heap.size + 1 + 1 < _; omega)).trans y0; have p1 := (b4.cell (p := ⟨w.heap.size + 1 + 1, 1, none⟩) (by show w.heap.size + 1 + 1 < _; omega)).trans y1; have pf0 := (b4.frozen (p := ⟨w.heap.size + 1 + 1, 0, none⟩) (by show w.heap.size + 1 + 1 < _; omega)).trans g0; have pf1 := (b4.frozen (p := ⟨w.heap.size + 1 + 1, 1, none⟩) (by show w.heap.size + 1 + 1 < _; omega)).trans g1; have R4 := Lib.hid (And.intro (HX.out.2.2.below (b4.mono (by omega))) b4.size); clear hown4 hb4 b4)
      exact ⟨⟨j + 1, by omega, by go_num, amAt_put R4.out.1 (Nat.le_trans hsz R4.out.2) (by have h := F4.out; rw [List.length_take] at h; exact h) (by rw [List.length_take]) p0 p1 pf0 pf1⟩, by simp [intOf]; omega⟩
    · obtain rfl : j = x.results.length := by omega
      obtain ⟨Ay, cy, y0, y1, g0, g1, hsz, hf, hres⟩ := HR.out
      rw [List.take_length] at y1 hf
      have r0 := hres.r0
      have r1 := hres.r1
      have r2 := hres.f0
      have r3 := hres.f1
      have HB4 := Lib.hid (And.intro hres.be (And.intro hf hres.sz))
      clear hres hf HR
      go_wp2
      have KP : Keep (w.heap.size + 1) (w.heap.size + 2) wr ((wr.setCell ⟨w.heap.size + 1, 0, none⟩ (.int .i64 x.clubs)).setCell ⟨w.heap.size + 1, 1, none⟩ (.slice Ay x.results.length cy)) :=
        ((Keep.refl _ _ _).setCell (p := ⟨w.heap.size + 1, 0, none⟩) (Nat.le_refl _) (Nat.lt_succ_self _) _).setCell (p := ⟨w.heap.size + 1, 1, none⟩) (Nat.le_refl _) (Nat.lt_succ_self _) _
      refine bodyPost_ret (v := .agg #[.int .i64 x.clubs, .slice Ay x.results.length cy]) (by simp [results, Try.results30, go_sem, r0, r1]) rfl ⟨_, rfl, ?_, HB4.out.1.trans (KP.below (by omega) HB4.out.1.size)⟩
      exact ⟨_, rfl, (HB4.out.2.1.keep KP (.inr (by omega))).wide (by omega) KP.size (Nat.le_refl _), hw⟩
end Go.Proofs.Ythfllppknngfpaa
