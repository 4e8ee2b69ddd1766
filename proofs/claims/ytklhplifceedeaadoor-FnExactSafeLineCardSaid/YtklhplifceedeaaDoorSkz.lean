/- The first safe strategy, and its line: both packages. -/
import Derived.Test.YtklhplifceedeaaDoorSks
import Derived.Test.YtklhplifceedeaaDoorFz
import Derived.Test.YtklhplifceedeaaDoorKgw
import Derived.Lib.SliceRun
import Derived.WalkSpells
namespace Go.Proofs.YtklhplifceedeaaDoor
open Go.ChangeShapes Go.WideShapes Go.ChangeAt Go.RowKit

/-- Balanced weights of a set, spread over all players. -/
def evF (x : TourV) (s : Nat) : Option (List Int) := if cntL s % 2 = 1 then (kerS x s).map (sprL x.wins.length (memN s)) else none
theorem setS_none {x : TourV} {s : Nat} (h : evF x s = none) : setS x s = none := by
  unfold evF at h
  split at h
  · rename_i h1
    cases hk : kerS x s with
    | none => exact setS_no hk
    | some q => rw [hk] at h; cases h
  · exact setS_even (by omega)
theorem setS_ev {x : TourV} {s : Nat} {q : List Int} (h : evF x s = some q) : setS x s = if safeB x q then some q else none := by
  unfold evF at h
  split at h
  · rename_i h1
    cases hk : kerS x s with
    | none => rw [hk] at h; cases h
    | some q' =>
      rw [hk] at h
      injection h with h
      subst h
      exact setS_some h1 hk
  · cases h
theorem evF_facts {x : TourV} {s : Nat} (hs : s < 2 ^ x.wins.length) {q : List Int} (h : evF x s = some q) : q.length = x.wins.length ∧ (∀ y ∈ q, 0 ≤ y ∧ y ≤ 100000) ∧ (∀ y ∈ q, y ≤ 15) ∧ ∃ j, j < x.wins.length ∧ 0 < q.getD j 0 := by
  unfold evF at h
  split at h
  · rename_i h1
    cases hk : kerS x s with
    | none => rw [hk] at h; cases h
    | some q' =>
      rw [hk] at h
      injection h with h
      subst h
      have h8 := cntL_le s
      have hl : (memN s).length = 2 * (cntL s / 2) + 1 := by rw [memN_len]; omega
      obtain ⟨g1, g2⟩ := ker_15 hl (by omega) hk
      refine ⟨sprL_length .., spr_bd g1 g2, fun y hy => ?_, (memN s).getD 0 0, ?_, ?_⟩
      · rcases sprL_mem g1 y hy with rfl | h2
        · omega
        · exact (g2 y h2).2
      · exact memN_lt hs _ (by rw [List.getD_eq_getElem?_getD, List.getElem?_eq_getElem (show 0 < (memN s).length by omega)]; exact List.getElem_mem _)
      · have h3 := sprL_at (q := q') (memN_nd s) (memN_lt hs) (j := 0) (show 0 < (memN s).length by omega)
        have h4 := g2 (fn q' 0) (fn_mem (by omega))
        unfold fn at h3 h4
        rw [h3]; omega
  · cases h
theorem wf_15 {q : List Int} (h : ∀ y ∈ q, 0 ≤ y ∧ y ≤ 100000) : wfI q := fun y hy => by have := h y hy; omega

theorem evenSet_any (v : Value) (x : TourV) (A : Option Addr) (c s : Nat) (w : World) (hok : tourB x = true) (hs : InT w v x) (hss : s < 2 ^ x.wins.length) (hsl : SlI w A (memL s)) (hc : cntL s ≤ c) (hcm : c ≤ maxLen) :
    Calls Tryd.prog 25 #[v, .slice A (cntL s) c] w fun e w' => EvR w e w' (evF x s) := by
  have h8 := cntL_le s
  unfold evF
  by_cases hp : cntL s % 2 = 1
  · rw [if_pos hp]
    have hl : (memN s).length = 2 * (cntL s / 2) + 1 := by rw [memN_len]; omega
    exact evenOn_any v x A c (memN s) (cntL s / 2) w hok hs hsl hl (by omega) (memN_lt hss) (memN_nd s) hc hcm
  · rw [if_neg hp]
    refine (evenOn_even v x A c (cntL s) w hs (by omega) h8).mono ?_
    rintro e w' ⟨rfl, hb⟩
    exact ⟨hb, rfl⟩

theorem implSafe_no (v : Value) (x : TourV) (w : World) (hs : InT w v x) (h : ¬ (tourB x = true ∧ x.wins.length ≤ 7)) :
    Calls Tryd.prog 13 #[v] w fun e w' => KerR w e w' none := by
  have HIT := Lib.hid hs
  obtain ⟨u, rfl, B, d, rfl, hd, hm, hts⟩ := hs
  have HTO : Hid (∀ W, Below w.heap.size w W → Calls Tryd.prog 24 #[.agg #[.int .i64 x.size, .slice B x.wins.length d]] W fun e w' => e = .returned (.bool (tourB x)) ∧ Below W.heap.size W w') := fun W hW => implTourOk_any _ x W (HIT.out.below hW)
  have H0 : Hid (Bx (w.alloc (.cells #[.int .i64 x.size, .slice B x.wins.length d] 27)) w.heap.size (.int .i64 x.size) (.slice B x.wins.length d) ∧ Below w.heap.size w (w.alloc (.cells #[.int .i64 x.size, .slice B x.wins.length d] 27))) := ⟨⟨by simp, by simp, by simp⟩, (Below.refl _ w).alloc (Nat.le_refl _) _⟩
  cases ht : tourB x
  · rw [ht] at HTO
    clear h ht hts
    go_enter Tryd.func13, Tryd.ntmps13
    go_wp2_with fail
    refine (HTO.out _ H0.out.2).mono ?_
    rintro e w1 ⟨rfl, hb1⟩
    have H1 : Hid (Below w.heap.size w w1) := H0.out.2.trans (hb1.mono H0.out.2.size)
    clear hb1
    go_wp2
    go_ret2
    exact ⟨H1.out, rfl⟩
  · obtain ⟨t1, t2, t3, t4, _⟩ := tourB_t ht
    have hsz : x.size = 8 := by
      have : ¬ x.wins.length ≤ 7 := fun h7 => h ⟨ht, h7⟩
      omega
    rw [ht] at HTO
    rw [hsz] at HTO H0 ⊢
    clear h ht hts t1 t2 t3 t4 hsz
    go_enter Tryd.func13, Tryd.ntmps13
    go_wp2_with fail
    refine (HTO.out _ H0.out.2).mono ?_
    rintro e w1 ⟨rfl, hb1⟩
    have H1 : Hid (Bx w1 w.heap.size (.int .i64 8) (.slice B x.wins.length d) ∧ Below w.heap.size w w1) := ⟨H0.out.1.below hb1, H0.out.2.trans (hb1.mono H0.out.2.size)⟩
    obtain ⟨q0, q1, -⟩ := id H1.out.1
    clear hb1
    go_wp2
    go_ret2
    exact ⟨H1.out.2, rfl⟩
set_option maxHeartbeats 4000000 in
set_option maxRecDepth 100000 in
theorem implSafe_any (v : Value) (x : TourV) (w : World) (hs : InT w v x) :
    Calls Tryd.prog 13 #[v] w fun e w' => KerR w e w' (safeF x) := by
  by_cases hc : tourB x = true ∧ x.wins.length ≤ 7
  case neg =>
    rw [show safeF x = none by unfold safeF; rw [if_neg hc]]
    exact implSafe_no v x w hs hc
  obtain ⟨hok, h7⟩ := hc
  have qN : ∀ (w : World) (a : Option Addr) (n c n' c' : Nat), (binOp .neq 22 (.slice a n c) (.slice none n' c')).run Tryd.prog w = .ok (.bool (!a.isNone)) w := fun w a n c n' c' => Go.run_neq_slice_nil_any w _ _ a n c n' c' Tryd.underlying22
  have HSF : Hid (safeF x = safeT x (2 ^ x.wins.length - 1)) := by show _ = _; unfold safeF; rw [if_pos ⟨hok, h7⟩]
  have HIT := Lib.hid hs
  have HOK := Lib.hid hok
  obtain ⟨u, rfl, B, d, rfl, hd, hm, hts⟩ := hs
  obtain ⟨t1, t2, t3, t4, _⟩ := tourB_t hok
  have HTO : Hid (∀ W, Below w.heap.size w W → Calls Tryd.prog 24 #[.agg #[.int .i64 x.size, .slice B x.wins.length d]] W fun e w' => e = .returned (.bool true) ∧ Below W.heap.size W w') := fun W hW => by
    have h := implTourOk_any _ x W (HIT.out.below hW)
    rwa [HOK.out] at h
  have HEV : Hid (∀ W (s : Nat) A c, Below w.heap.size w W → s < 2 ^ x.wins.length → SlI W A (memL s) → cntL s ≤ c → c ≤ maxLen → Calls Tryd.prog 25 #[.agg #[.int .i64 x.size, .slice B x.wins.length d], .slice A (cntL s) c] W fun e w' => EvR W e w' (evF x s)) := fun W s A c hW h1 h2 h3 h4 => evenSet_any _ x A c s W HOK.out (HIT.out.below hW) h1 h2 h3 h4
  have HIS : Hid (∀ W (s : Nat) A c q, Below w.heap.size w W → s < 2 ^ x.wins.length → evF x s = some q → SlI W A q → Calls Tryd.prog 27 #[.agg #[.int .i64 x.size, .slice B x.wins.length d], .slice A x.wins.length c] W fun e w' => e = .returned (.bool (safeB x q)) ∧ Below W.heap.size W w') := fun W s A c q hW h1 h2 h3 => by
    obtain ⟨f1, f2, f3, f4⟩ := evF_facts h1 h2
    exact isSafe_any _ x A c _ q W HOK.out (HIT.out.below hW) h3 f1 rfl f2 f4
  have HQL : Hid (∀ s q, s < 2 ^ x.wins.length → evF x s = some q → q.length = x.wins.length) := fun s q h1 h2 => (evF_facts h1 h2).1
  have h256 : (2 : Nat) ^ x.wins.length ≤ 128 := Nat.pow_le_pow_right (by omega) h7
  have hpos : 1 ≤ (2 : Nat) ^ x.wins.length := Nat.one_le_two_pow
  have hT2 : (2 : Int) ^ x.wins.length = ((2 ^ x.wins.length : Nat) : Int) := by rw [Int.natCast_pow]; rfl
  have hn1 : 1 ≤ x.wins.length := by omega
  generalize x.size = sz at *
  subst t3
  have H0 : Hid (Bx (w.alloc (.cells #[.int .i64 (x.wins.length : Int), .slice B x.wins.length d] 27)) w.heap.size (.int .i64 (x.wins.length : Int)) (.slice B x.wins.length d) ∧ Below w.heap.size w (w.alloc (.cells #[.int .i64 (x.wins.length : Int), .slice B x.wins.length d] 27))) := ⟨⟨by simp, by simp, by simp⟩, (Below.refl _ w).alloc (Nat.le_refl _) _⟩
  obtain ⟨n, hn⟩ : ∃ n, x.wins.length = n := ⟨_, rfl⟩
  simp only [hn] at *
  obtain ⟨T, HT⟩ : ∃ T : Nat, Hid (2 ^ n = T) := ⟨_, rfl⟩
  rw [HT.out] at h256 hpos hT2 HSF HEV HIS HQL
  have HET : Hid ((2 : Int) ^ n = (T : Int) ∧ wrap64 (T : Int) = T) := ⟨hT2, by unfold wrap64; omega⟩
  clear hT2 t1 t2 t4 hok hts hn
  go_enter Tryd.func13, Tryd.ntmps13
  go_wp2_with fail
  refine (HTO.out _ H0.out.2).mono ?_
  rintro e w1 ⟨rfl, hb1⟩
  have H1 : Hid (Bx w1 w.heap.size (.int .i64 (n : Int)) (.slice B n d) ∧ Below w.heap.size w w1) := ⟨H0.out.1.below hb1, H0.out.2.trans (hb1.mono H0.out.2.size)⟩
  obtain ⟨q0, q1, -⟩ := id H1.out.1
  have h7i : ¬ (n : Int) > 7 := by omega
  clear hb1 H0
  go_wp2
  clear q0 q1
  go_loopw [4] (fun i wr => ∃ s : Nat, 1 ≤ s ∧ s ≤ T ∧ i = .int .i64 (s : Int) ∧ Hid (Bx wr w.heap.size (.int .i64 (n : Int)) (.slice B n d) ∧ Below w.heap.size w wr) ∧ Hid (safeT x (s - 1) = none)) (fun i _ => T - (intOf i).toNat)
  case atStart => exact ⟨1, Nat.le_refl _, hpos, rfl, H1.out, rfl⟩
  case round =>
    obtain ⟨s, hs1, hs2, rfl, HR, HN⟩ := hrel
    clear H1
    obtain ⟨wz, rfl⟩ : ∃ W, W = wr := ⟨wr, rfl⟩
    obtain ⟨q0, q1, -⟩ := id HR.out.1
    obtain ⟨hT2, eT⟩ := id HET.out
    by_cases hlt : s < T
    case neg =>
      obtain rfl : T = s := by omega
      have HF : Hid (safeF x = none) := by show _ = _; rw [HSF.out]; exact HN.out
      go_wp2
      go_ret2
      rw [HF.out]
      exact ⟨HR.out.2, rfl⟩
    have hlti : (s : Int) < (T : Int) := by omega
    have HMB : Hid (Calls Tryd.prog 26 #[.int .i64 (s : Int)] wz.drew fun e w' => ∃ A3 c3, e = .returned (.slice A3 (cntL s) c3) ∧ cntL s ≤ c3 ∧ c3 ≤ maxLen ∧ SlI w' A3 (memL s) ∧ Below wz.heap.size wz w') := by
      refine (membersOf_any s wz.drew (by omega)).mono ?_
      rintro e w' ⟨v', rfl, hf, hb⟩
      obtain ⟨A3, c3, rfl, h1, h2⟩ := hf.form
      rw [memL_len] at h1 hf ⊢
      exact ⟨A3, c3, rfl, h1, h2, hf.sl, below_undraw (q := 1) hb⟩
    have HEVs := Lib.hid (fun W A c hW => HEV.out W s A c hW hlt)
    go_upto_region 6 with (fail)
    refine wp_region_noPanic ?_
    refine wp_region_held_drew (S := fun W => W.cell? ⟨w.heap.size, 0, none⟩ = some (.int .i64 (n : Int)) ∧ W.cell? ⟨w.heap.size, 1, none⟩ = some (.slice B n d)) (by kernel_rfl) ⟨q0, q1⟩ (fun hHeld => ?_)
    refine wpAnyH_take (i := 0) (v := .agg #[.int .i64 (n : Int), .slice B n d]) (by simp only [List.getElem?_toArray, List.getElem?_cons_succ, List.getElem?_cons_zero]; exact rfl) (by kernel_rfl) (by kernel_rfl) (by kernel_rfl) (fun _ _ _ h => h) (Or.inl ⟨by kernel_rfl, ?hy0⟩) (by assumption) ?_
    case hy0 => (intro w hSw; (try dsimp only at hSw); go_simp)
    try simp only [Act.put, List.setIfInBounds_toArray, List.set_cons_zero, List.set_cons_succ]
    refine wpAnyH_take (i := 1) (v := .int .i64 (s : Int)) (by simp only [List.getElem?_toArray, List.getElem?_cons_succ, List.getElem?_cons_zero]; exact rfl) (by kernel_rfl) (by kernel_rfl) (by kernel_rfl) (fun _ _ _ h => h) (Or.inl ⟨by kernel_rfl, ?hy1⟩) (by assumption) ?_
    case hy1 => (intro w hSw; (try dsimp only at hSw); go_simp)
    try simp only [Act.put, List.setIfInBounds_toArray, List.set_cons_zero, List.set_cons_succ]
    refine wpAnyH_ready (rs := [2]) (by kernel_rfl) (by simp) ?_
    refine AllReadyH.cons rfl (fun K hK => ?_) AllReadyH.nil
    go_simp
    go_at_call 26
    (with_reducible refine (HMB.out).mono ?_)
    rintro e w3 ⟨A3, c3, rfl, hc3, hcm3, hsl3, hb3⟩
    have H3 : Hid (SlI w3 A3 (memL s) ∧ Bx w3 w.heap.size (.int .i64 (n : Int)) (.slice B n d) ∧ Below w.heap.size w w3) := ⟨hsl3, HR.out.1.below hb3, HR.out.2.trans (hb3.mono HR.out.2.size)⟩
    try (go_wp2_with fail)
    refine hK.out _ _ ⟨H3.out.2.1.1, H3.out.2.1.2.1⟩ (fun hHeld => ?_)
    clear hK K
    try simp only [Act.put, List.setIfInBounds_toArray, List.set_cons_zero, List.set_cons_succ]
    clear hsl3 hb3
    have HEV3 := Lib.hid (HEVs.out w3 A3 c3 H3.out.2.2 H3.out.1 hc3 hcm3)
    cases hev : evF x s with
    | none =>
      have HSN : Hid (safeT x (s + 1 - 1) = none) := by
        show _ = _
        have h := safeT_none (k := s - 1) HN.out (by rw [show s - 1 + 1 = s by omega]; exact setS_none hev)
        rw [show s - 1 + 1 = s by omega] at h
        exact h
      rw [hev] at HEV3
      clear hev hT2 eT
      refine wpAnyH_ready (rs := [3]) (by kernel_rfl) (by simp) ?_
      refine AllReadyH.cons rfl (fun K hK => ?_) AllReadyH.nil
      go_simp
      go_at_call 25
      (with_reducible refine (HEV3.out).mono ?_)
      rintro e w4 ⟨hb4, rfl⟩
      have H4 : Hid (Bx w4 w.heap.size (.int .i64 (n : Int)) (.slice B n d) ∧ Below w.heap.size w w4) := ⟨H3.out.2.1.below hb4, H3.out.2.2.trans (hb4.mono H3.out.2.2.size)⟩
      try (go_wp2_with fail)
      refine hK.out _ _ ⟨H4.out.1.1, H4.out.1.2.1⟩ (fun hHeld => ?_)
      clear hK K
      try simp only [Act.put, List.setIfInBounds_toArray, List.set_cons_zero, List.set_cons_succ]
      clear hb4
      refine wpAnyH_take (i := 4) (v := ?v4) (by simp only [List.getElem?_toArray, List.getElem?_cons_succ, List.getElem?_cons_zero]; exact rfl) (by kernel_rfl) (by kernel_rfl) (by kernel_rfl) (fun _ _ _ h => h) (Or.inl ⟨by kernel_rfl, ?hy4⟩) (by assumption) ?_
      case hy4 => (intro w hSw; (try dsimp only at hSw); go_simp <;> (try with_reducible rfl))
      try simp only [Act.put, List.setIfInBounds_toArray, List.set_cons_zero, List.set_cons_succ]
      refine wpAnyH_done (by kernel_rfl) ?_ _
      refine NoPanic.normal ?_
      go_wp2
      go_roundw
      case rel => exact ⟨s + 1, by omega, by omega, by go_num, H4.out, HSN.out⟩
      case measure => simp [intOf]; omega
    | some q =>
      have HEVq := Lib.hid hev
      have hql := HQL.out s q hlt hev
      rw [hev] at HEV3
      clear hev hT2 eT
      refine wpAnyH_ready (rs := [3]) (by kernel_rfl) (by simp) ?_
      refine AllReadyH.cons rfl (fun K hK => ?_) AllReadyH.nil
      go_simp
      go_at_call 25
      (with_reducible refine (HEV3.out).mono ?_)
      rintro e w4 ⟨hb4, v4, rfl, hf4⟩
      have H4 : Hid (Bx w4 w.heap.size (.int .i64 (n : Int)) (.slice B n d) ∧ Below w.heap.size w w4 ∧ Fr w4 w3.heap.size w4.heap.size v4 q) := ⟨H3.out.2.1.below hb4, H3.out.2.2.trans (hb4.mono H3.out.2.2.size), hf4⟩
      try (go_wp2_with fail)
      refine hK.out _ _ ⟨H4.out.1.1, H4.out.1.2.1⟩ (fun hHeld => ?_)
      clear hK K
      try simp only [Act.put, List.setIfInBounds_toArray, List.set_cons_zero, List.set_cons_succ]
      clear hb4 hf4
      obtain ⟨A4, c4, rfl, -, -⟩ := H4.out.2.2.form
      rw [hql] at H4 ⊢
      obtain ⟨g4, -, rfl, -⟩ := H4.out.2.2.at_ (k := 0) (by omega)
      refine wpAnyH_take (i := 4) (v := .slice (some ⟨g4, 0, none⟩) n c4) (by simp only [List.getElem?_toArray, List.getElem?_cons_succ, List.getElem?_cons_zero]; exact rfl) (by kernel_rfl) (by kernel_rfl) (by kernel_rfl) (fun _ _ _ h => h) (Or.inl ⟨by kernel_rfl, ?hy4⟩) (by assumption) ?_
      case hy4 => (intro w hSw; (try dsimp only at hSw); go_simp)
      try simp only [Act.put, List.setIfInBounds_toArray, List.set_cons_zero, List.set_cons_succ]
      refine wpAnyH_done (by kernel_rfl) ?_ _
      refine NoPanic.normal ?_
      obtain ⟨r0, r1, -⟩ := id H4.out.1
      have HSQ := Lib.hid (HIS.out w4 s (some ⟨g4, 0, none⟩) c4 q H4.out.2.1 hlt HEVq.out H4.out.2.2.sl)
      have HSE := Lib.hid (setS_ev HEVq.out)
      cases hsb : safeB x q
      · have HSN : Hid (safeT x (s + 1 - 1) = none) := by
          show _ = _
          have h := safeT_none (k := s - 1) HN.out (by rw [show s - 1 + 1 = s by omega, HSE.out, hsb]; rfl)
          rw [show s - 1 + 1 = s by omega] at h
          exact h
        rw [hsb] at HSQ
        clear hsb hql
        go_wp2_with fail
        refine HSQ.out.mono ?_
        rintro e w5 ⟨rfl, hb5⟩
        have H5 : Hid (Bx w5 w.heap.size (.int .i64 (n : Int)) (.slice B n d) ∧ Below w.heap.size w w5) := ⟨H4.out.1.below hb5, H4.out.2.1.trans (hb5.mono H4.out.2.1.size)⟩
        clear hb5
        go_wp2
        go_roundw
        case rel => exact ⟨s + 1, by omega, by omega, by go_num, H5.out, HSN.out⟩
        case measure => simp [intOf]; omega
      · have HSS : Hid (safeF x = some q) := by
          show _ = _
          rw [HSF.out]
          exact safeT_hit (k := s - 1) HN.out (by rw [show s - 1 + 1 = s by omega, HSE.out, hsb]; rfl) _ (by omega)
        rw [hsb] at HSQ
        clear hsb hql
        go_wp2_with fail
        refine HSQ.out.mono ?_
        rintro e w5 ⟨rfl, hb5⟩
        have H5 : Hid (Below w.heap.size w w5 ∧ Fr w5 w.heap.size w5.heap.size (.slice (some ⟨g4, 0, none⟩) n c4) q) := ⟨H4.out.2.1.trans (hb5.mono H4.out.2.1.size), (H4.out.2.2.grow hb5).wide (Nat.le_trans H3.out.2.2.size (Nat.le_refl _)) hb5.size (Nat.le_refl _)⟩
        clear hb5
        go_wp2
        go_ret2
        rw [HSS.out]
        exact ⟨H5.out.1, _, rfl, H5.out.2⟩

theorem specSafe_no (v : Value) (x : TourV) (w : World) (hs : InT w v x) (h : ¬ (tourB x = true ∧ x.wins.length ≤ 7)) :
    Calls Tryd.prog 10 #[v] w fun e w' => KerR w e w' none := by
  have HIT := Lib.hid hs
  obtain ⟨u, rfl, B, d, rfl, hd, hm, hts⟩ := hs
  have HTO : Hid (∀ W, Below w.heap.size w W → Calls Tryd.prog 16 #[.agg #[.int .i64 x.size, .slice B x.wins.length d]] W fun e w' => e = .returned (.bool (tourB x)) ∧ Below W.heap.size W w') := fun W hW => specTourOk_any _ x W (HIT.out.below hW)
  have H0 : Hid (Bx (w.alloc (.cells #[.int .i64 x.size, .slice B x.wins.length d] 27)) w.heap.size (.int .i64 x.size) (.slice B x.wins.length d) ∧ Below w.heap.size w (w.alloc (.cells #[.int .i64 x.size, .slice B x.wins.length d] 27))) := ⟨⟨by simp, by simp, by simp⟩, (Below.refl _ w).alloc (Nat.le_refl _) _⟩
  cases ht : tourB x
  · rw [ht] at HTO
    clear h ht hts
    go_enter Tryd.func10, Tryd.ntmps10
    go_wp2_with fail
    refine (HTO.out _ H0.out.2).mono ?_
    rintro e w1 ⟨rfl, hb1⟩
    have H1 : Hid (Below w.heap.size w w1) := H0.out.2.trans (hb1.mono H0.out.2.size)
    clear hb1
    go_wp2
    go_ret2
    exact ⟨H1.out, rfl⟩
  · obtain ⟨t1, t2, t3, t4, _⟩ := tourB_t ht
    have hsz : x.size = 8 := by
      have : ¬ x.wins.length ≤ 7 := fun h7 => h ⟨ht, h7⟩
      omega
    rw [ht] at HTO
    rw [hsz] at HTO H0 ⊢
    clear h ht hts t1 t2 t3 t4 hsz
    go_enter Tryd.func10, Tryd.ntmps10
    go_wp2_with fail
    refine (HTO.out _ H0.out.2).mono ?_
    rintro e w1 ⟨rfl, hb1⟩
    have H1 : Hid (Bx w1 w.heap.size (.int .i64 8) (.slice B x.wins.length d) ∧ Below w.heap.size w w1) := ⟨H0.out.1.below hb1, H0.out.2.trans (hb1.mono H0.out.2.size)⟩
    obtain ⟨q0, q1, -⟩ := id H1.out.1
    clear hb1
    go_wp2
    go_ret2
    exact ⟨H1.out.2, rfl⟩
theorem l10Ker_set (v : Value) (x : TourV) (A : Option Addr) (c s : Nat) (w : World) (hok : tourB x = true) (hs : InT w v x) (hss : s < 2 ^ x.wins.length) (hp : cntL s % 2 = 1) (hsl : SlI w A (memL s)) (hc : cntL s ≤ c) (hcm : c ≤ maxLen) :
    Calls Tryd.prog 20 #[v, .slice A (cntL s) c] w fun e w' => KerR w e w' (kerS x s) := by
  have h8 := cntL_le s
  have hl : (memN s).length = 2 * (cntL s / 2) + 1 := by rw [memN_len]; omega
  exact l10Kernel_any v x A c (memN s) (cntL s / 2) w hok hs hsl hl (by omega) (memN_lt hss) (memN_nd s) hc hcm
set_option maxHeartbeats 4000000 in
set_option maxRecDepth 100000 in
theorem specSafe_any (v : Value) (x : TourV) (w : World) (hs : InT w v x) :
    Calls Tryd.prog 10 #[v] w fun e w' => KerR w e w' (safeF x) := by
  by_cases hc : tourB x = true ∧ x.wins.length ≤ 7
  case neg =>
    rw [show safeF x = none by unfold safeF; rw [if_neg hc]]
    exact specSafe_no v x w hs hc
  obtain ⟨hok, h7⟩ := hc
  have HSF : Hid (safeF x = safeT x (2 ^ x.wins.length - 1)) := by show _ = _; unfold safeF; rw [if_pos ⟨hok, h7⟩]
  have HIT := Lib.hid hs
  have HOK := Lib.hid hok
  obtain ⟨u, rfl, B, d, rfl, hd, hm, hts⟩ := hs
  obtain ⟨t1, t2, t3, t4, _⟩ := tourB_t hok
  have HTO : Hid (∀ W, Below w.heap.size w W → Calls Tryd.prog 16 #[.agg #[.int .i64 x.size, .slice B x.wins.length d]] W fun e w' => e = .returned (.bool true) ∧ Below W.heap.size W w') := fun W hW => by
    have h := specTourOk_any _ x W (HIT.out.below hW)
    rwa [HOK.out] at h
  have HAL : Hid (∀ W, Below w.heap.size w W → Calls Tryd.prog 17 #[.agg #[.int .i64 x.size, .slice B x.wins.length d]] W fun e w' => e = .returned (.int .i64 ((2 ^ x.wins.length - 1 : Nat) : Int)) ∧ Below W.heap.size W w') := fun W hW => l02All_any _ x W (HIT.out.below hW) HOK.out
  have HKE : Hid (∀ W (s : Nat) A c, Below w.heap.size w W → s < 2 ^ x.wins.length → cntL s % 2 = 1 → SlI W A (memL s) → cntL s ≤ c → c ≤ maxLen → Calls Tryd.prog 20 #[.agg #[.int .i64 x.size, .slice B x.wins.length d], .slice A (cntL s) c] W fun e w' => KerR W e w' (kerS x s)) := fun W s A c hW h1 h2 h3 h4 h5 => l10Ker_set _ x A c s W HOK.out (HIT.out.below hW) h1 h2 h3 h4 h5
  have HIS : Hid (∀ W (s : Nat) A c q, Below w.heap.size w W → s < 2 ^ x.wins.length → evF x s = some q → SlI W A q → Calls Tryd.prog 21 #[.agg #[.int .i64 x.size, .slice B x.wins.length d], .slice A x.wins.length c] W fun e w' => e = .returned (.bool (safeB x q)) ∧ Below W.heap.size W w') := fun W s A c q hW h1 h2 h3 => by
    obtain ⟨f1, f2, f3, f4⟩ := evF_facts h1 h2
    exact l10Safe_any _ x A c _ q W HOK.out (HIT.out.below hW) h3 f1 rfl f2
  have HKQ : Hid (∀ s q, s < 2 ^ x.wins.length → cntL s % 2 = 1 → kerS x s = some q → q.length = cntL s ∧ evF x s = some (sprL x.wins.length (memN s) q)) := fun s q h1 h2 h3 => by
    have h8 := cntL_le s
    have hl : (memN s).length = 2 * (cntL s / 2) + 1 := by rw [memN_len]; omega
    exact ⟨(ker_15 hl (by omega) h3).1, by unfold evF; rw [if_pos h2, h3]; rfl⟩
  have HEN : Hid (∀ s, cntL s % 2 = 0 ∨ kerS x s = none → setS x s = none) := fun s h => by
    rcases h with h | h
    · exact setS_even h
    · exact setS_no h
  have HMM : Hid (∀ s, s < 2 ^ x.wins.length → ∀ i, i < cntL s → (memN s).getD i 0 < x.wins.length) := fun s hs i hi => memN_lt hs _ (by rw [List.getD_eq_getElem?_getD, List.getElem?_eq_getElem (show i < (memN s).length by rw [memN_len]; exact hi)]; exact List.getElem_mem _)
  have h256 : (2 : Nat) ^ x.wins.length ≤ 128 := Nat.pow_le_pow_right (by omega) h7
  have hpos : 1 ≤ (2 : Nat) ^ x.wins.length := Nat.one_le_two_pow
  have hn1 : 1 ≤ x.wins.length := by omega
  generalize x.size = sz at *
  subst t3
  have H0 : Hid (Bx (w.alloc (.cells #[.int .i64 (x.wins.length : Int), .slice B x.wins.length d] 27)) w.heap.size (.int .i64 (x.wins.length : Int)) (.slice B x.wins.length d) ∧ Below w.heap.size w (w.alloc (.cells #[.int .i64 (x.wins.length : Int), .slice B x.wins.length d] 27))) := ⟨⟨by simp, by simp, by simp⟩, (Below.refl _ w).alloc (Nat.le_refl _) _⟩
  obtain ⟨n, hn⟩ : ∃ n, x.wins.length = n := ⟨_, rfl⟩
  simp only [hn] at *
  obtain ⟨T, HT⟩ : ∃ T : Nat, Hid (2 ^ n = T) := ⟨_, rfl⟩
  rw [HT.out] at h256 hpos HSF HKE HIS HKQ HAL HMM
  obtain ⟨T1, hT1⟩ : ∃ T1, T = T1 + 1 := ⟨T - 1, by omega⟩
  subst hT1
  simp only [Nat.add_sub_cancel] at HSF HAL
  clear t1 t2 t4 hok hts hn
  go_enter Tryd.func10, Tryd.ntmps10
  go_wp2_with fail
  refine (HTO.out _ H0.out.2).mono ?_
  rintro e w1 ⟨rfl, hb1⟩
  have H1 : Hid (Bx w1 w.heap.size (.int .i64 (n : Int)) (.slice B n d) ∧ Below w.heap.size w w1) := ⟨H0.out.1.below hb1, H0.out.2.trans (hb1.mono H0.out.2.size)⟩
  obtain ⟨q0, q1, -⟩ := id H1.out.1
  have h7i : ¬ (n : Int) > 7 := by omega
  clear hb1 H0
  go_wp2
  clear q0 q1
  go_loopw [4] (fun i wr => ∃ s : Nat, 1 ≤ s ∧ s ≤ T1 + 1 ∧ i = .int .i64 (s : Int) ∧ Hid (Bx wr w.heap.size (.int .i64 (n : Int)) (.slice B n d) ∧ Below w.heap.size w wr) ∧ Hid (safeT x (s - 1) = none)) (fun i _ => T1 + 1 - (intOf i).toNat)
  case atStart => exact ⟨1, Nat.le_refl _, by omega, rfl, H1.out, rfl⟩
  case round =>
    obtain ⟨s, hs1, hs2, rfl, HR, HN⟩ := hrel
    clear H1
    obtain ⟨wz, rfl⟩ : ∃ W, W = wr := ⟨wr, rfl⟩
    obtain ⟨q0, q1, -⟩ := id HR.out.1
    go_wp2_with fail
    refine (HAL.out _ HR.out.2).mono ?_
    rintro e w2 ⟨rfl, hb2⟩
    have H2 : Hid (Bx w2 w.heap.size (.int .i64 (n : Int)) (.slice B n d) ∧ Below w.heap.size w w2) := ⟨HR.out.1.below hb2, HR.out.2.trans (hb2.mono HR.out.2.size)⟩
    clear hb2 q0 q1
    by_cases hlt : s ≤ T1
    case neg =>
      obtain rfl : s = T1 + 1 := by omega
      have HF : Hid (safeF x = none) := by show _ = _; rw [HSF.out]; exact HN.out
      have hgt : ¬ ((T1 : Int) + 1 ≤ (T1 : Int)) := by omega
      go_wp2
      go_ret2
      rw [HF.out]
      exact ⟨H2.out.2, rfl⟩
    have hlti : (s : Int) ≤ (T1 : Int) := by omega
    have hs256 : s < 256 := by omega
    have h8 := cntL_le s
    have HNX : Hid (setS x s = none → safeT x (s + 1 - 1) = none) := fun h => by
      have h := safeT_none (k := s - 1) HN.out (by rw [show s - 1 + 1 = s by omega]; exact h)
      rw [show s - 1 + 1 = s by omega] at h
      exact h
    go_wp2_with fail
    refine (l02Bits_any s _ hs256).mono ?_
    rintro e w2' ⟨rfl, rfl⟩
    by_cases hpar : cntL s % 2 = 1
    case neg =>
      have e1 : ((cntL s : Int) % 2 == 0) = true := by simp; omega
      have HSN := Lib.hid (HNX.out (HEN.out s (.inl (by omega))))
      go_wp2
      go_roundw
      case rel => exact ⟨s + 1, by omega, by omega, by go_num, H2.out, HSN.out⟩
      case measure => simp [intOf]; omega
    have e1 : ((cntL s : Int) % 2 == 0) = false := by simp; omega
    go_wp2_with fail
    refine (l02List_any s _ hs256).mono ?_
    rintro e w3 ⟨v3, rfl, hf3, hb3⟩
    obtain ⟨A3, c3, rfl, hc3, hcm3⟩ := hf3.form
    rw [memL_len] at hc3 hf3 ⊢
    have H3 : Hid (SlI w3 A3 (memL s) ∧ Bx w3 w.heap.size (.int .i64 (n : Int)) (.slice B n d) ∧ Below w.heap.size w w3) := ⟨hf3.sl, H2.out.1.below hb3, H2.out.2.trans (hb3.mono H2.out.2.size)⟩
    have HK3 := Lib.hid (HKE.out w3 s A3 c3 H3.out.2.2 (by omega) hpar H3.out.1 hc3 hcm3)
    obtain ⟨q0, q1, -⟩ := id H3.out.2.1
    clear hf3 hb3
    cases hks : kerS x s with
    | none =>
      have HSN := Lib.hid (HNX.out (HEN.out s (.inr hks)))
      rw [hks] at HK3
      clear hks
      go_wp2_with fail
      refine HK3.out.mono ?_
      rintro e w4 ⟨hb4, rfl⟩
      have H4 : Hid (Bx w4 w.heap.size (.int .i64 (n : Int)) (.slice B n d) ∧ Below w.heap.size w w4) := ⟨H3.out.2.1.below hb4, H3.out.2.2.trans (hb4.mono H3.out.2.2.size)⟩
      clear hb4 q0 q1
      go_wp2
      go_roundw
      case rel => exact ⟨s + 1, by omega, by omega, by go_num, H4.out, HSN.out⟩
      case measure => simp [intOf]; omega
    | some q =>
      obtain ⟨hql, hev⟩ := HKQ.out s q (by omega) hpar hks
      rw [hks] at HK3
      have HEVq := Lib.hid hev
      have HSE := Lib.hid (setS_ev hev)
      have HMMs := Lib.hid (HMM.out s (by omega))
      clear hks hev
      have hcn : cntL s ≤ c3 := hc3
      have HMS : Hid (memL s = nI (memN s)) := memN_nI s
      have HML : Hid ((memN s).length = cntL s) := memN_len s
      generalize cntL s = L at *
      generalize memN s = l at *
      go_wp2_with fail
      refine HK3.out.mono ?_
      rintro e w4 ⟨hb4, v4, rfl, hf4⟩
      obtain ⟨A4, c4, rfl, hc4, hcm4⟩ := hf4.form
      rw [hql] at hc4 hf4 ⊢
      have H4 : Hid (SlI w4 A3 (memL s) ∧ SlI w4 A4 q ∧ Bx w4 w.heap.size (.int .i64 (n : Int)) (.slice B n d) ∧ Below w.heap.size w w4) := ⟨H3.out.1.below hb4, hf4.sl, H3.out.2.1.below hb4, H3.out.2.2.trans (hb4.mono H3.out.2.2.size)⟩
      obtain ⟨r0, r1, -⟩ := id H4.out.2.2.1
      have HQL := Lib.hid hql
      clear hb4 hf4 q0 q1 hql e1
      go_wp2_with (at_make; refine makeI rfl _ _ rfl w4 n rfl rfl (by omega) ?_; intro w5 hf5 hb5 hsz5; have H5 : Hid (Fr w5 w4.heap.size w5.heap.size (.slice (some ⟨w4.heap.size, 0, none⟩) n n) (sprI n l q 0) ∧ Below w4.heap.size w4 w5) := ⟨hf5, hb5⟩; clear hf5 hb5 hsz5)
      rename_i hK1
      have HK1 := Lib.hid hK1
      clear hK1 r0 r1
      go_loopw [44] (fun i wr => ∃ j : Nat, j ≤ L ∧ i = .int .i64 (j : Int) ∧ Hid (Fr wr w4.heap.size wr.heap.size (.slice (some ⟨w4.heap.size, 0, none⟩) n n) (sprI n l q j) ∧ Below w4.heap.size w4 wr)) (fun i _ => L - (intOf i).toNat)
      case atStart => exact ⟨0, Nat.zero_le _, rfl, H5.out⟩
      case round =>
        obtain ⟨j, hj, rfl, HI⟩ := hrel
        clear H5
        obtain ⟨wy, rfl⟩ : ∃ W, W = wr := ⟨wr, rfl⟩
        have HBy : Hid (Below w.heap.size w wy) := H4.out.2.2.2.trans (HI.out.2.mono H4.out.2.2.2.size)
        by_cases hjl : j < L
        case neg =>
          obtain rfl : L = j := by omega
          have HSPR : Hid (sprI n l q L = sprL n l q) := by show _ = _; unfold sprL; rw [HML.out]
          rw [HSPR.out] at HI
          have HSQ := Lib.hid (HIS.out wy s (some ⟨w4.heap.size, 0, none⟩) n _ HBy.out (by omega) HEVq.out HI.out.1.sl)
          obtain ⟨r0, r1, -⟩ := H4.out.2.2.1.below HI.out.2
          have HBX6 : Hid (∀ W, Below wy.heap.size wy W → Bx W w.heap.size (.int .i64 (n : Int)) (.slice B n d)) := fun W hW => (H4.out.2.2.1.below HI.out.2).below hW
          generalize sprL n l q = qq at *
          cases hsb : safeB x qq
          · have HSN := Lib.hid (HNX.out (by rw [HSE.out, hsb]; rfl))
            rw [hsb] at HSQ
            clear hsb
            go_wp2
            refine HK1.out _ _ ?_
            go_wp2_with fail
            refine HSQ.out.mono ?_
            rintro e w7 ⟨rfl, hb7⟩
            have H7 : Hid (Bx w7 w.heap.size (.int .i64 (n : Int)) (.slice B n d) ∧ Below w.heap.size w w7) := ⟨HBX6.out _ hb7, HBy.out.trans (hb7.mono HBy.out.size)⟩
            clear hb7
            go_wp2
            go_roundw
            case rel => exact ⟨s + 1, by omega, by omega, by go_num, H7.out, HSN.out⟩
            case measure => simp [intOf]; omega
          · have HSS : Hid (safeF x = some qq) := by
              show _ = _
              rw [HSF.out]
              exact safeT_hit (k := s - 1) HN.out (by rw [show s - 1 + 1 = s by omega, HSE.out, hsb]; rfl) _ (by omega)
            rw [hsb] at HSQ
            clear hsb
            go_wp2
            refine HK1.out _ _ ?_
            go_wp2_with fail
            refine HSQ.out.mono ?_
            rintro e w7 ⟨rfl, hb7⟩
            have H7 : Hid (Below w.heap.size w w7 ∧ Fr w7 w.heap.size w7.heap.size (.slice (some ⟨w4.heap.size, 0, none⟩) n n) qq) := ⟨HBy.out.trans (hb7.mono HBy.out.size), (HI.out.1.grow hb7).wide H4.out.2.2.2.size hb7.size (Nat.le_refl _)⟩
            clear hb7
            go_wp2
            go_ret2
            rw [HSS.out]
            exact ⟨H7.out.1, _, rfl, H7.out.2⟩
        have hsl := H4.out.1.below HI.out.2
        rw [HMS.out] at hsl
        obtain ⟨b3, o3, y, rfl, hy, cl, -⟩ := hsl.at_ (k := j) (by rw [nI_length, HML.out]; exact hjl)
        rw [nI_at (by rw [HML.out]; exact hjl)] at hy
        injection hy with hy
        subst hy
        obtain ⟨b4, o4, z, rfl, hz, cz, -⟩ := (H4.out.2.1.below HI.out.2).at_ (k := j) (by rw [HQL.out]; exact hjl)
        have hpa := HMMs.out j hjl
        have HSTEP : Hid ((sprI n l q j).set (l.getD j 0) z = sprI n l q (j + 1)) := spr_step rfl (by unfold fn; rw [List.getD_eq_getElem?_getD, hz]; rfl)
        generalize l.getD j 0 = pa at *
        obtain ⟨g', z0, e, -, -, -, cO, fO, hset⟩ := HI.out.1.at_ (k := pa) (by rw [sprI_length]; exact hpa)
        injection e with e; injection e with e; subst e
        have hst := hset z
        rw [HSTEP.out] at hst
        have H6 : Hid (Fr (wy.setCell ⟨w4.heap.size, pa, none⟩ (.int .i64 z)) w4.heap.size (wy.setCell ⟨w4.heap.size, pa, none⟩ (.int .i64 z)).heap.size (.slice (some ⟨w4.heap.size, 0, none⟩) n n) (sprI n l q (j + 1)) ∧ Below w4.heap.size w4 (wy.setCell ⟨w4.heap.size, pa, none⟩ (.int .i64 z))) := ⟨hst.1.wide (Nat.le_refl _) hst.2.size (Nat.le_refl _), HI.out.2.trans (hst.2.below (Nat.le_refl _) HI.out.2.size)⟩
        clear hset hst hz hsl
        go_wp2
        go_roundw
        case rel => exact ⟨j + 1, by omega, by go_num, H6.out⟩
        case measure => simp [intOf]; omega

def safeText (x : TourV) : List UInt8 := match safeF x with
  | some q => fmtF q
  | none => [110, 111, 110, 101]
theorem safeT_src {x : TourV} : ∀ {k : Nat} {q : List Int}, safeT x k = some q → ∃ s, s ≤ k ∧ evF x s = some q
  | 0, q, h => by cases h
  | k + 1, q, h => by
    rw [safeT] at h
    cases h1 : safeT x k with
    | some q' =>
      rw [h1] at h
      injection h with h
      subst h
      obtain ⟨s, h2, h3⟩ := safeT_src h1
      exact ⟨s, by omega, h3⟩
    | none =>
      rw [h1] at h
      cases h2 : evF x (k + 1) with
      | none => rw [show setS x (k + 1) = none from setS_none h2] at h; cases h
      | some q2 =>
        have h3 := setS_ev h2
        rw [show setS x (k + 1) = some q from h] at h3
        split at h3
        · injection h3 with h3
          subst h3
          exact ⟨k + 1, Nat.le_refl _, h2⟩
        · cases h3
theorem safeF_facts {x : TourV} {q : List Int} (h : safeF x = some q) : q.length ≤ 8 ∧ ∀ y ∈ q, 0 ≤ y ∧ y ≤ 100000 := by
  unfold safeF at h
  split at h
  · rename_i hc
    obtain ⟨s, h1, h2⟩ := safeT_src h
    have hp : 1 ≤ (2 : Nat) ^ x.wins.length := Nat.one_le_two_pow
    obtain ⟨f1, f2, _⟩ := evF_facts (show s < 2 ^ x.wins.length by omega) h2
    exact ⟨by omega, f2⟩
  · cases h

set_option maxRecDepth 100000 in
theorem implSafeLine_any (v : Value) (x : TourV) (w : World) (hs : InT w v x) (ht : tabP w) :
    Calls Tryd.prog 7 #[v] w fun e w' => e = .returned (.string ⟨(safeText x).toArray⟩) ∧ Below w.heap.size w w' := by
  have HIT := Lib.hid hs
  have HT := Lib.hid ht
  have HSS := Lib.hid (fun V (hV : Below w.heap.size w V) => implSafe_any v x V (hs.below hV))
  obtain ⟨u, rfl, B, d, rfl, hd, hm, hts⟩ := hs
  have H0 : Hid (Bx (w.alloc (.cells #[.int .i64 x.size, .slice B x.wins.length d] 27)) w.heap.size (.int .i64 x.size) (.slice B x.wins.length d) ∧ Below w.heap.size w (w.alloc (.cells #[.int .i64 x.size, .slice B x.wins.length d] 27))) := ⟨⟨by simp, by simp, by simp⟩, (Below.refl _ w).alloc (Nat.le_refl _) _⟩
  clear hts ht
  cases hq : safeF x with
  | none =>
    have HX : Hid (safeText x = [110, 111, 110, 101]) := by show _ = _; unfold safeText; rw [hq]
    rw [hq] at HSS
    clear hq
    go_enter Tryd.func7, Tryd.ntmps7
    go_wp2_with fail
    refine (HSS.out _ H0.out.2).mono ?_
    rintro e w1 ⟨hb1, rfl⟩
    have H1 : Hid (Below w.heap.size w w1) := H0.out.2.trans (hb1.mono H0.out.2.size)
    clear hb1
    go_wp2
    go_ret
    exact ⟨by rw [HX.out]; rfl, H1.out⟩
  | some q =>
    have HX : Hid (safeText x = fmtF q) := by show _ = _; unfold safeText; rw [hq]
    obtain ⟨f1, f2⟩ := safeF_facts hq
    rw [hq] at HSS
    have HF2 := Lib.hid f2
    clear hq f2
    go_enter Tryd.func7, Tryd.ntmps7
    go_wp2_with fail
    refine (HSS.out _ H0.out.2).mono ?_
    rintro e w1 ⟨hb1, v1, rfl, hf1⟩
    have H1 : Hid (Below w.heap.size w w1 ∧ InI w1 v1 q) := ⟨H0.out.2.trans (hb1.mono H0.out.2.size), hf1.in_⟩
    clear hb1 hf1
    go_wp2_with fail
    refine (implFormatNumbers_any v1 q w1 H1.out.2 (by omega) (wf_15 HF2.out) (HT.out.below H1.out.1 (Nat.le_refl _))).mono ?_
    rintro e w2 ⟨rfl, hb2⟩
    have H2 : Hid (Below w.heap.size w w2) := H1.out.1.trans (hb2.mono H1.out.1.size)
    clear hb2
    go_wp2
    go_ret
    exact ⟨by rw [HX.out]; rfl, H2.out⟩

set_option maxRecDepth 100000 in
theorem specSafeLine_any (v : Value) (x : TourV) (w : World) (hs : InT w v x) :
    Calls Tryd.prog 5 #[v] w fun e w' => e = .returned (.string ⟨(safeText x).toArray⟩) ∧ Below w.heap.size w w' := by
  have HIT := Lib.hid hs
  have HSS := Lib.hid (fun V (hV : Below w.heap.size w V) => specSafe_any v x V (hs.below hV))
  obtain ⟨u, rfl, B, d, rfl, hd, hm, hts⟩ := hs
  have H0 : Hid (Bx (w.alloc (.cells #[.int .i64 x.size, .slice B x.wins.length d] 27)) w.heap.size (.int .i64 x.size) (.slice B x.wins.length d) ∧ Below w.heap.size w (w.alloc (.cells #[.int .i64 x.size, .slice B x.wins.length d] 27))) := ⟨⟨by simp, by simp, by simp⟩, (Below.refl _ w).alloc (Nat.le_refl _) _⟩
  clear hts
  cases hq : safeF x with
  | none =>
    have HX : Hid (safeText x = [110, 111, 110, 101]) := by show _ = _; unfold safeText; rw [hq]
    rw [hq] at HSS
    clear hq
    go_enter Tryd.func5, Tryd.ntmps5
    go_wp2_with fail
    refine (HSS.out _ H0.out.2).mono ?_
    rintro e w1 ⟨hb1, rfl⟩
    have H1 : Hid (Below w.heap.size w w1) := H0.out.2.trans (hb1.mono H0.out.2.size)
    clear hb1
    go_wp2
    go_ret
    exact ⟨by rw [HX.out]; rfl, H1.out⟩
  | some q =>
    have HX : Hid (safeText x = fmtF q) := by show _ = _; unfold safeText; rw [hq]
    obtain ⟨f1, f2⟩ := safeF_facts hq
    rw [hq] at HSS
    have HF2 := Lib.hid f2
    clear hq f2
    go_enter Tryd.func5, Tryd.ntmps5
    go_wp2_with fail
    refine (HSS.out _ H0.out.2).mono ?_
    rintro e w1 ⟨hb1, v1, rfl, hf1⟩
    have H1 : Hid (Below w.heap.size w w1 ∧ InI w1 v1 q) := ⟨H0.out.2.trans (hb1.mono H0.out.2.size), hf1.in_⟩
    clear hb1 hf1
    go_wp2_with fail
    refine (specFormatNumbers_any v1 q w1 H1.out.2 (by omega) (wf_15 HF2.out)).mono ?_
    rintro e w2 ⟨rfl, hb2⟩
    have H2 : Hid (Below w.heap.size w w2) := H1.out.1.trans (hb2.mono H1.out.1.size)
    clear hb2
    go_wp2
    go_ret
    exact ⟨by rw [HX.out]; rfl, H2.out⟩

theorem implSafeLine_std (v : Value) (x : TourV) (w : World) (hs : InT w v x) (_hn : x.wins.length ≤ 1048576) (ht : tabP w) :
    Calls Tryd.prog 7 #[v] w fun e w' => e = .returned (.string ⟨(safeText x).toArray⟩) ∧ Below w.heap.size w w' := implSafeLine_any v x w hs ht
theorem specSafeLine_std (v : Value) (x : TourV) (w : World) (hs : InT w v x) (_hn : x.wins.length ≤ 1048576) :
    Calls Tryd.prog 5 #[v] w fun e w' => e = .returned (.string ⟨(safeText x).toArray⟩) ∧ Below w.heap.size w w' := specSafeLine_any v x w hs
end Go.Proofs.YtklhplifceedeaaDoor
