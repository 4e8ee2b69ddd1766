/- Points off: the reference's. -/
import Derived.Test.YtaednfoabklnmaaOg
namespace Go.Proofs.Ytaednfoabklnmaa
open Go.ChangeShapes Go.WideShapes Go.ChangeAt Go.RowKit

/-- The loop of keys: the row of keys v from lo on, the points at gp and the table at gt below it. -/
structure PoAt (w : World) (lo : Nat) (W : World) (cl : Int) (A : Option Addr) (len c gp gt : Nat) (P T : List Int) (v : Value) (KS : List Int) : Prop where
  fr : Fr W lo W.heap.size v KS
  be : Below w.heap.size w W
  q0 : W.cell? ⟨w.heap.size, 0, none⟩ = some (.int .i64 cl)
  q1 : W.cell? ⟨w.heap.size, 1, none⟩ = some (.slice A len c)
  sp : SlI W (some ⟨gp, 0, none⟩) P
  st : SlI W (some ⟨gt, 0, none⟩) T
  hp : gp < lo
  ht : gt < lo
  l1 : w.heap.size < lo
  l2 : lo ≤ W.heap.size
theorem slI_low {W W' : World} {lo g : Nat} {xs : List Int} (h : SlI W (some ⟨g, 0, none⟩) xs) (hb : Below lo W W') (hg : g < lo) : SlI W' (some ⟨g, 0, none⟩) xs := by
  rcases h with e | ⟨b', off', he, hc⟩
  · exact .inl e
  · injection he with he
    injection he with e1 e2 _
    subst e1; subst e2
    exact .inr ⟨g, 0, rfl, fun k x hx => (hb.cell (p := ⟨g, 0 + k, none⟩) hg).trans (hc k x hx)⟩
theorem PoAt.next {w W W' : World} {lo : Nat} {cl : Int} {A : Option Addr} {len c gp gt j : Nat} {P T KS : List Int} {v v' : Value} {K : Int} (h : PoAt w lo W cl A len c gp gt P T v KS) (hl : KS.length = j) (hown : W'.ownsRow lo 3 1 v' (j + 1) (ints (KS ++ [K]))) (B : Below lo W W') : PoAt w lo W' cl A len c gp gt P T v' (KS ++ [K]) := by
  have h1 := h.l1
  have h2 := h.l2
  exact ⟨Fr.of_own (by rw [List.length_append, hl]; exact hown), h.be.trans (B.mono (by omega)), (B.cell (p := ⟨w.heap.size, 0, none⟩) (by show w.heap.size < _; omega)).trans h.q0, (B.cell (p := ⟨w.heap.size, 1, none⟩) (by show w.heap.size < _; omega)).trans h.q1,
    slI_low h.sp B h.hp, slI_low h.st B h.ht, h.hp, h.ht, h1, Nat.le_trans h2 B.size⟩
theorem PoAt.own {w W : World} {lo : Nat} {cl : Int} {A : Option Addr} {len c gp gt j : Nat} {P T KS : List Int} {v : Value} (h : PoAt w lo W cl A len c gp gt P T v KS) (hl : KS.length = j) (o : Obj) : (W.alloc o).drew.ownsRow lo 3 1 v j (ints KS) := by
  have h1 := h.fr.1
  rw [hl] at h1
  exact h1.alloc o
theorem below_fromAlloc {lo : Nat} {W W' : World} {o : Obj} (h : ∀ B, B ≤ lo → B ≤ (W.alloc o).drew.heap.size → Below B (W.alloc o).drew W') (hl : lo ≤ W.heap.size) : Below lo W W' := by
  have hb := h lo (Nat.le_refl _) (by show lo ≤ (W.alloc o).heap.size; simp; omega)
  exact ((Below.refl lo W).alloc hl o).trans ⟨hb.os, hb.tape, hb.output, hb.size, hb.block⟩
def keysO (P off T : List Int) : List Int := T.map (keyOff P off)
theorem offAll {n : Nat} {rs : List Res} {off : List Int} (hl : off.length = n) (h : ∀ c ∈ (tableF n rs), inB (off.getD c.toNat 0) 0 100 = true) : off.all (fun v => inB v 0 100) = true := by
  refine List.all_eq_true.2 fun y hy => ?_
  obtain ⟨k, hk, e⟩ := List.getElem_of_mem hy
  have := h (k : Int) (tableF_mem.2 (by omega))
  rw [Int.toNat_natCast, List.getD_eq_getElem?_getD, List.getElem?_eq_getElem hk, e] at this
  exact this

set_option maxHeartbeats 8000000 in
set_option maxRecDepth 100000 in
theorem specPointsOff_std (v : Value) (x : LeagueV) (vo : Value) (off : List Int) (w : World) (hs : InL w v x) (hn : x.results.length ≤ 1048576) (ho : InI w vo off) (hno : off.length ≤ 1048576) :
    Calls Try.prog 42 #[v, vo] w fun e w' => ∃ v', e = .returned v' ∧ Fr w' w.heap.size w'.heap.size v' (offF x off) ∧ Below w.heap.size w w' := by
  have hs0 := hs
  obtain ⟨A, c, rfl, hc, hm, hsl, hw⟩ := hs
  obtain ⟨B, d, rfl, hd, hdm, hso⟩ := ho
  have HS := Lib.hid (And.intro hs0 hso)
  clear hs0 hsl hso
  have W1 : Hid (Below w.heap.size w (w.alloc (.cells #[.int .i64 x.clubs, .slice A x.results.length c] 28))) := (Below.refl _ w).alloc (Nat.le_refl _) _
  cases h1 : leagueB x
  case false =>
    have HE : Hid (offF x off = []) := by show _ = _; simp [offF, h1]
    go_enter Try.func42, Try.ntmps42
    go_wp2_with fail
    refine (specLeagueOk_any _ _ _ (HS.out.1.below W1.out)).mono ?_
    rintro e w1 ⟨rfl, hb⟩
    rw [h1]
    have HB : Hid (Below w.heap.size w w1) := W1.out.trans (hb.mono (by simp))
    clear hb
    go_wp2
    go_ret
    exact ⟨_, rfl, by rw [HE.out]; exact Fr.nil _ (Nat.le_refl _), HB.out⟩
  by_cases h2 : (off.length : Int) = x.clubs
  case neg =>
    have HE : Hid (offF x off = []) := by show _ = _; simp [offF, h2]
    have t2 : (((off.length : Nat) : Int) != x.clubs) = true := by simp [h2]
    clear h2
    go_enter Try.func42, Try.ntmps42
    go_wp2_with fail
    refine (specLeagueOk_any _ _ _ (HS.out.1.below W1.out)).mono ?_
    rintro e w1 ⟨rfl, hb⟩
    rw [h1]
    have q0 : w1.cell? ⟨w.heap.size, 0, none⟩ = some (.int .i64 x.clubs) := by rw [hb.cell (p := ⟨w.heap.size, 0, none⟩) (by simp)]; simp
    have HB : Hid (Below w.heap.size w w1) := W1.out.trans (hb.mono (by simp))
    clear hb
    go_wp2
    go_ret
    exact ⟨_, rfl, by rw [HE.out]; exact Fr.nil _ (Nat.le_refl _), HB.out⟩
  have t2 : (((off.length : Nat) : Int) != x.clubs) = false := by simp [h2]
  obtain ⟨l1, l2, l3, _⟩ := leagueB_t h1
  obtain ⟨n, hcl⟩ := Int.eq_ofNat_of_zero_le (show 0 ≤ x.clubs by omega)
  have hno2 : off.length = n := by omega
  have H1 : Hid (leagueB x = true ∧ x.clubs = n ∧ (ptsF n x.results).length = n ∧ (tableF n x.results).length = n ∧ tableL x = tableF n x.results) := ⟨h1, hcl, ptsF_length _ _, tableF_length _ _, by rw [tableL, h1, if_pos rfl, hcl, Int.toNat_natCast]⟩
  have HNO := Lib.hid hno2
  have HE : Hid (offF x off = if off.all (fun v => inB v 0 100) then insF (keyOff (ptsF n x.results) off) (tableF n x.results) else []) := by
    show _ = _
    rw [offF, h1, hcl]; simp [hno2]
  have hn2 : 2 ≤ n := by omega
  have hn8 : n ≤ 8 := by omega
  clear h2 hcl hno2
  go_enter Try.func42, Try.ntmps42
  go_wp2_with fail
  refine (specLeagueOk_any _ _ _ (HS.out.1.below W1.out)).mono ?_
  rintro e w1 ⟨rfl, hb⟩
  rw [h1]
  have q0 : w1.cell? ⟨w.heap.size, 0, none⟩ = some (.int .i64 x.clubs) := by rw [hb.cell (p := ⟨w.heap.size, 0, none⟩) (by simp)]; simp
  have q1 : w1.cell? ⟨w.heap.size, 1, none⟩ = some (.slice A x.results.length c) := by rw [hb.cell (p := ⟨w.heap.size, 1, none⟩) (by simp)]; simp
  have hlt1 : w.heap.size < w1.heap.size := by have := hb.size; simp at this; omega
  have HB : Hid (Below w.heap.size w w1) := W1.out.trans (hb.mono (by simp))
  clear hb
  go_wp2_with fail
  refine (l12All_any _ x w1 (HS.out.1.below HB.out) H1.out.1).mono ?_
  rintro e w2 ⟨v2, rfl, hf, hb⟩
  rw [H1.out.2.1, Int.toNat_natCast] at hf
  obtain ⟨gp, cp, rfl, -, hg2⟩ := hf.someA (by rw [H1.out.2.2.1]; omega)
  rw [H1.out.2.2.1] at hf
  rw [H1.out.2.2.1]
  have HP2 : Hid (SlI w2 (some ⟨gp, 0, none⟩) (ptsF n x.results) ∧ Below w.heap.size w w2) := ⟨hf.sl, HB.out.trans (hb.mono HB.out.size)⟩
  replace q0 := (hb.cell (p := ⟨w.heap.size, 0, none⟩) hlt1).trans q0
  replace q1 := (hb.cell (p := ⟨w.heap.size, 1, none⟩) hlt1).trans q1
  replace hlt1 : w.heap.size < w2.heap.size := Nat.lt_of_lt_of_le hlt1 hb.size
  clear hf hb
  go_wp2_with fail
  refine (specTableOf_any _ x w2 (HS.out.1.below HP2.out.2)).mono ?_
  rintro e w3 ⟨v3, rfl, hf, hb⟩
  rw [H1.out.2.2.2.2] at hf
  obtain ⟨gt, ct, rfl, -, ht2⟩ := hf.someA (by rw [H1.out.2.2.2.1]; omega)
  rw [H1.out.2.2.2.1] at hf
  rw [H1.out.2.2.2.1]
  have hgp3 : gp < w3.heap.size := Nat.lt_of_lt_of_le hg2 hb.size
  replace q0 := (hb.cell (p := ⟨w.heap.size, 0, none⟩) hlt1).trans q0
  replace q1 := (hb.cell (p := ⟨w.heap.size, 1, none⟩) hlt1).trans q1
  replace hlt1 : w.heap.size < w3.heap.size := Nat.lt_of_lt_of_le hlt1 hb.size
  have al := (Below.refl w3.heap.size w3).alloc (Nat.le_refl _) (.cells #[] 3)
  have HX : Hid (PoAt w w3.heap.size (w3.alloc (.cells #[] 3)) x.clubs A x.results.length c gp gt (ptsF n x.results) (tableF n x.results) (.slice (some ⟨w3.heap.size, 0, none⟩) 0 0) []) :=
    ⟨Fr.of_own (xs := []) (World.ownsRow_made w3 #[] 0 (Nat.le_refl _) (by unfold maxLen; omega) rfl), (HP2.out.2.trans (hb.mono HP2.out.2.size)).alloc (Nat.le_of_lt hlt1) _, (al.cell (p := ⟨w.heap.size, 0, none⟩) hlt1).trans q0, (al.cell (p := ⟨w.heap.size, 1, none⟩) hlt1).trans q1,
      SlI.alloc (SlI.below HP2.out.1 hb) _, SlI.alloc hf.sl _, hgp3, ht2, hlt1, by simp⟩
  have HTM : Hid (∀ y ∈ tableF n x.results, 0 ≤ y ∧ y < n) := fun y hy => tableF_mem.1 hy
  have HPC : Hid (∀ y ∈ ptsF n x.results, 0 ≤ y ∧ y ≤ 360) := fun y hy => by have := ptsF_bound hy; omega
  clear hf hb al q0 q1
  go_wp2_with fail
  go_loopw [7, 30] (fun v i wr => ∃ (j : Nat) (vv : Value), j ≤ n ∧ i = .int .i64 j ∧ vv = v ∧ Hid (PoAt w w3.heap.size wr x.clubs A x.results.length c gp gt (ptsF n x.results) (tableF n x.results) vv ((keysO (ptsF n x.results) off (tableF n x.results)).take j)) ∧ Hid (∀ c ∈ (tableF n x.results).take j, inB (off.getD c.toNat 0) 0 100 = true)) (fun _ i _ => n - (intOf i).toNat)
  case atStart => exact ⟨0, _, Nat.zero_le _, rfl, rfl, HX.out, fun c hc => by simp at hc⟩
  case round =>
    obtain ⟨j, vv, hj, rfl, rfl, HR, HT⟩ := hrel
    clear HX
    by_cases hlt : j < n
    case neg =>
      obtain rfl : j = n := by omega
      have hall : off.all (fun v => inB v 0 100) = true := offAll (rs := x.results) HNO.out (by have h := HT.out; rw [List.take_of_length_le (by rw [H1.out.2.2.2.1]; exact Nat.le_refl _)] at h; exact h)
      have hKl : (keysO (ptsF j x.results) off (tableF j x.results)).length = j := by rw [keysO, List.length_map, H1.out.2.2.2.1]
      have hR := HR.out
      rw [List.take_of_length_le (by rw [hKl]; exact Nat.le_refl _)] at hR
      have hO := off_order (key := keyOff (ptsF j x.results) off) H1.out.2.2.2.1 (rfl : keysO (ptsF j x.results) off (tableF j x.results) = (tableF j x.results).map (keyOff (ptsF j x.results) off))
      have hOl : (insF (keyOf (keysO (ptsF j x.results) off (tableF j x.results))) (idxs j)).length = j := by rw [insF_length, idxs_length]
      have HOM : Hid (∀ y ∈ insF (keyOf (keysO (ptsF j x.results) off (tableF j x.results))) (idxs j), 0 ≤ y ∧ y < j) := fun y hy => idxs_mem.1 ((insF_perm _ _).mem_iff.1 hy)
      have HEF : Hid (offF x off = (insF (keyOf (keysO (ptsF j x.results) off (tableF j x.results))) (idxs j)).map (fun i => (tableF j x.results).getD i.toNat 0)) := by
        show _ = _
        rw [hO, HE.out, hall]; rfl
      obtain ⟨g7, c7, hv7⟩ := hR.fr.someB (by rw [hKl]; omega)
      subst hv7
      have HL9 := Lib.hid (fun W (h : SlI W (some ⟨g7, 0, none⟩) (keysO (ptsF j x.results) off (tableF j x.results))) => l09Order_any (some ⟨g7, 0, none⟩) c7 (keysO (ptsF j x.results) off (tableF j x.results)) W h (by rw [hKl]; omega))
      rw [hKl] at HL9
      have HRR := Lib.hid hR
      have HSK : Hid (SlI wr (some ⟨g7, 0, none⟩) (keysO (ptsF j x.results) off (tableF j x.results))) := by have h := hR.fr; rw [hKl] at h; exact h.sl
      have HOL := Lib.hid hOl
      rw [hKl]
      clear hR hO hall hKl hOl HR HT
      generalize keysO (ptsF j x.results) off (tableF j x.results) = KY at *
      generalize insF (keyOf KY) (idxs j) = O at *
      obtain ⟨wo, rfl⟩ : ∃ W, W = wr := ⟨wr, rfl⟩
      have HAL : Hid (Below wo.heap.size wo (wo.alloc (.cells #[] 3)) ∧ Fr (wo.alloc (.cells #[] 3)) wo.heap.size (wo.alloc (.cells #[] 3)).heap.size (.slice (some ⟨wo.heap.size, 0, none⟩) 0 0) [] ∧ wo.heap.size < (wo.alloc (.cells #[] 3)).heap.size) := ⟨(Below.refl _ wo).alloc (Nat.le_refl _) _, Fr.of_own (xs := []) (World.ownsRow_made wo #[] 0 (Nat.le_refl _) (by unfold maxLen; omega) rfl), by simp⟩
      go_wp2_with fail
      generalize wo.alloc (.cells #[] 3) = wa at *
      refine (HL9.out wa (SlI.below HSK.out HAL.out.1)).mono ?_
      rintro e w6 ⟨v6, rfl, hf, hb⟩
      obtain ⟨g8, c8, rfl, h81, h82⟩ := hf.someA (by rw [HOL.out]; omega)
      rw [HOL.out] at hf
      rw [HOL.out]
      have hs1 := HAL.out.2.2
      have hs2 := hb.size
      have hgt : gt < wo.heap.size := Nat.lt_of_lt_of_le HRR.out.ht HRR.out.l2
      have hws : w.heap.size < wo.heap.size := Nat.lt_of_lt_of_le HRR.out.l1 HRR.out.l2
      have bow : Below wo.heap.size wo w6 := HAL.out.1.trans (hb.mono (Nat.le_of_lt hs1))
      have HT6 : Hid (TabAt w wo.heap.size wa.heap.size w6.heap.size w6 A g8 j x.results.length c O (.slice (some ⟨wo.heap.size, 0, none⟩) 0 0) [] ∧ SlI w6 (some ⟨gt, 0, none⟩) (tableF j x.results)) :=
        ⟨⟨(HAL.out.2.1.grow hb).wide (Nat.le_refl _) hs2 (Nat.le_refl _), HRR.out.be.trans (bow.mono (Nat.le_of_lt hws)), hf.sl, by rw [← H1.out.2.1]; exact (bow.cell (p := ⟨w.heap.size, 0, none⟩) hws).trans HRR.out.q0, (bow.cell (p := ⟨w.heap.size, 1, none⟩) hws).trans HRR.out.q1, Nat.le_refl _, fun k hk => by simp [Value.ownBlock] at hk; omega⟩, slI_low HRR.out.st bow hgt⟩
      clear hf hb bow HL9 HSK
      go_wp2
      go_loopw [10, 57] (fun v i wr => ∃ (q g0 c0 : Nat), q ≤ j ∧ i = .int .i64 q ∧ v = .slice (some ⟨g0, 0, none⟩) q c0 ∧ Hid (TabAt w wo.heap.size wa.heap.size w6.heap.size wr A g8 j x.results.length c O (.slice (some ⟨g0, 0, none⟩) q c0) ((O.map (fun i => (tableF j x.results).getD i.toNat 0)).take q)) ∧ Hid (SlI wr (some ⟨gt, 0, none⟩) (tableF j x.results))) (fun _ i _ => j - (intOf i).toNat)
      case atStart => exact ⟨0, _, _, Nat.zero_le _, rfl, rfl, HT6.out.1, HT6.out.2⟩
      case round =>
        obtain ⟨q, g0, c0, hq, rfl, rfl, HQ, HTT⟩ := hrel
        clear HT6
        by_cases hlt2 : q < j
        case neg =>
          obtain rfl : q = j := by omega
          have hF := HQ.out.fr
          rw [List.take_of_length_le (by rw [List.length_map, HOL.out]; exact Nat.le_refl _)] at hF
          have HF := Lib.hid hF
          clear hF
          go_wp2
          go_ret
          exact ⟨_, rfl, by rw [HEF.out]; exact HF.out.wide (Nat.le_of_lt hws) (Nat.le_refl _) (Nat.le_refl _), HQ.out.be⟩
        obtain ⟨b1, o1, y1, e1, f1, ca, _⟩ := HQ.out.sl.at_ (k := q) (by rw [HOL.out]; exact hlt2)
        injection e1 with e1; injection e1 with r1 r2; subst r1; subst r2
        obtain ⟨k1, k2⟩ := HOM.out y1 (List.mem_of_getElem? f1)
        obtain ⟨m, rfl⟩ := Int.eq_ofNat_of_zero_le k1
        obtain ⟨b2, o2, ym, e2, f2, cb, _⟩ := HTT.out.at_ (k := m) (by rw [H1.out.2.2.2.1]; omega)
        injection e2 with e2; injection e2 with r1 r2; subst r1; subst r2
        rw [Nat.zero_add] at ca cb
        have HK : Hid ((O.map (fun i => (tableF j x.results).getD i.toNat 0)).take (q + 1) = (O.map (fun i => (tableF j x.results).getD i.toNat 0)).take q ++ [ym] ∧ ((O.map (fun i => (tableF j x.results).getD i.toNat 0)).take q).length = q ∧ ((O.map (fun i => (tableF j x.results).getD i.toNat 0)).take q ++ [ym]).length = q + 1 ∧ q ≤ 1048576) := by
          have hl : ((O.map (fun i => (tableF j x.results).getD i.toNat 0)).take q).length = q := by rw [List.length_take, List.length_map, HOL.out]; omega
          refine ⟨take_snoc (by rw [List.getElem?_map, f1, Option.map_some, Int.toNat_natCast, List.getD_eq_getElem?_getD, f2]; rfl), hl, by rw [List.length_append, hl]; rfl, by omega⟩
        have HOW := Lib.hid (And.intro (tabOwn HQ.out HK.out.2.1) (tabLe HQ.out hs1 hs2))
        clear f1 f2
        go_wp2_with (at_builtin; refine app1At rfl _ _ rfl wr wo.heap.size (.slice (some ⟨g0, 0, none⟩) q c0) q _ rfl HOW.out.1 _ rfl HK.out.2.2.2 HOW.out.2 ?_; intro v5 w5 hown5 hb5 hl5 hg5 ho5; have S5 := Lib.hid (slI_low HTT.out (hb5 _ (Nat.le_refl _) HOW.out.2) hgt); have H5 := Lib.hid (HQ.out.next hws hs1 h81 h82 HK.out.2.2.1 hown5 hb5 hg5 ho5); clear hown5 hb5 hl5 hg5 ho5; obtain ⟨g9, c9, hv5⟩ := l09Form H5.out.fr HK.out.2.2.1; subst hv5)
        all_goals exact ⟨⟨q + 1, g9, c9, by omega, by go_num, rfl, by rw [HK.out.1]; exact H5.out, S5.out⟩, by simp [intOf]; try omega⟩
    obtain ⟨club, hT1⟩ : ∃ q, (tableF n x.results)[j]? = some q := ⟨_, List.getElem?_eq_getElem (by rw [H1.out.2.2.2.1]; exact hlt)⟩
    obtain ⟨k1, k2⟩ := HTM.out _ (List.mem_of_getElem? hT1)
    obtain ⟨b1, o1, y0, e1, f1, ca, _⟩ := HR.out.st.at_ (k := j) (by rw [H1.out.2.2.2.1]; exact hlt)
    injection e1 with e1; injection e1 with r1 r2; subst r1; subst r2
    rw [hT1] at f1
    injection f1 with f1
    subst f1
    obtain ⟨k, rfl⟩ := Int.eq_ofNat_of_zero_le k1
    obtain ⟨b2, o2, yp, e2, f2, cb, _⟩ := HR.out.sp.at_ (k := k) (by rw [H1.out.2.2.1]; omega)
    injection e2 with e2; injection e2 with r1 r2; subst r1; subst r2
    obtain ⟨b3, o3, yo, rfl, f3, cc, _⟩ := (SlI.below HS.out.2 HR.out.be).at_ (k := k) (by rw [HNO.out]; omega)
    rw [Nat.zero_add] at ca cb
    have hk2 : (k : Int) < (n : Int) := k2
    have HB3 : Hid (b3 < w3.heap.size) := by
      obtain ⟨b4, o4, _, e4, _, _, h4⟩ := HS.out.2.at_ (k := k) (by rw [HNO.out]; omega)
      injection e4 with e4; injection e4 with r1 _
      have := HR.out.l1
      show _ < _; omega
    have hk3 : (k : Int) < (off.length : Int) := by rw [HNO.out]; exact k2
    have hgo : off.getD k 0 = yo := by rw [List.getD_eq_getElem?_getD, f3]; rfl
    cases hi : inB yo 0 100
    case false =>
      have HE2 : Hid (offF x off = []) := by
        show _ = _
        have hall : off.all (fun v => inB v 0 100) = false := by
          rw [Bool.eq_false_iff]
          intro h
          have := List.all_eq_true.1 h yo (List.mem_of_getElem? f3)
          rw [hi] at this; cases this
        rw [HE.out, hall]; rfl
      clear f2 f3 hT1 hgo
      go_wp2_with fail
      refine (l01In_any _ _ _ _).mono ?_
      rintro e w' ⟨rfl, rfl⟩
      rw [hi]
      go_wp2
      go_ret
      exact ⟨_, rfl, by rw [HE2.out]; exact Fr.nil _ (Nat.le_refl _), HR.out.be⟩
    have HTN : Hid (∀ c ∈ (tableF n x.results).take (j + 1), inB (off.getD c.toNat 0) 0 100 = true) := fun c hc => by
      rw [take_snoc hT1] at hc
      rcases List.mem_append.1 hc with h | h
      · exact HT.out c h
      · rw [List.mem_singleton.1 h, Int.toNat_natCast, hgo]; exact hi
    have hyp := HPC.out yp (List.mem_of_getElem? f2)
    have hyo := inB_t.1 hi
    have HK : Hid (yp - yo = keyOff (ptsF n x.results) off k ∧ (keysO (ptsF n x.results) off (tableF n x.results)).take (j + 1) = (keysO (ptsF n x.results) off (tableF n x.results)).take j ++ [keyOff (ptsF n x.results) off k] ∧ ((keysO (ptsF n x.results) off (tableF n x.results)).take j).length = j ∧ j ≤ 1048576) := by
      refine ⟨?_, take_snoc (by rw [keysO, List.getElem?_map, hT1]; rfl), by rw [List.length_take, keysO, List.length_map, H1.out.2.2.2.1]; omega, by omega⟩
      rw [keyOff, Int.toNat_natCast, hgo, List.getD_eq_getElem?_getD, f2]; rfl
    have WE : Hid (IntKind.i64.wrap (yp - yo) = yp - yo) := by show _ = _; rw [IntKind.wrap_i64]; omega
    clear f2 f3 hT1 hgo hyp hyo
    go_wp2_with fail
    refine (l01In_any _ _ _ _).mono ?_
    rintro e w' ⟨rfl, rfl⟩
    rw [hi]
    go_wp2_with fail
    have HC1 : Hid (∀ K : Int, ((wr.alloc (.cells #[.int .i64 K] 3)).drew).cell? ⟨wr.heap.size, 0, none⟩ = some (.int .i64 K)) := fun K => by show World.cell? (wr.alloc (.cells #[.int .i64 K] 3)) _ = _; simp
    have HC2 : Hid (∀ o : Obj, w3.heap.size ≤ ((wr.alloc o).drew).heap.size) := fun o => by have := HR.out.l2; show _ ≤ (wr.alloc o).heap.size; simp; omega
    go_region_held3 (fun W => W.cell? ⟨gp, k, none⟩ = some (.int .i64 yp) ∧ W.cell? ⟨b3, o3 + k, none⟩ = some (.int .i64 yo)) (first | exact ⟨cb, cc⟩ | exact ⟨cb2, cc2⟩ | go_keep) (first
      | (refine stepApp1 rfl (.tmp 40) (.tmp 50) rfl w3.heap.size vv j _ rfl (HR.out.own HK.out.2.2.1 _) ⟨wr.heap.size, 0, none⟩ (yp - yo) rfl (HC1.out _) HK.out.2.2.2 (HC2.out _) ?_; intro v5 w5 hown hb5 hg5; rw [HK.out.1] at hown; have BL := below_fromAlloc hb5 HR.out.l2; have H5 := Lib.hid (HR.out.next HK.out.2.2.1 hown BL); have cb2 := (BL.cell (p := ⟨gp, k, none⟩) HR.out.hp).trans cb; have cc2 := (BL.cell (p := ⟨b3, o3 + k, none⟩) HB3.out).trans cc; clear hown hb5 hg5 BL)
      | (refine stepApp1 rfl (.tmp 40) (.tmp 50) rfl w3.heap.size vv j _ rfl (HR.out.own HK.out.2.2.1 _) ⟨wr.heap.size, 0, none⟩ (IntKind.i64.wrap (yp - yo)) rfl (HC1.out _) HK.out.2.2.2 (HC2.out _) ?_; intro v5 w5 hown hb5 hg5; rw [WE.out] at hown; rw [HK.out.1] at hown; have BL := below_fromAlloc hb5 HR.out.l2; have H5 := Lib.hid (HR.out.next HK.out.2.2.1 hown BL); have cb2 := (BL.cell (p := ⟨gp, k, none⟩) HR.out.hp).trans cb; have cc2 := (BL.cell (p := ⟨b3, o3 + k, none⟩) HB3.out).trans cc; clear hown hb5 hg5 BL))
    clear cb cc cb2 cc2 HC1 HC2
    go_wp2
    go_roundw
    all_goals first | exact ⟨j + 1, v5, by omega, by go_num, rfl, by rw [HK.out.2.1]; exact H5.out, HTN.out⟩ | (simp [intOf]; try omega)
end Go.Proofs.Ytaednfoabklnmaa
