/- Races: the sets that prove a club out: both packages' contracts. -/
import Derived.Test.YtofpaekokmkhgaaGreatDoorRlf
import Derived.Test.YtofpaekokmkhgaaGreatDoorMai
import Derived.Deep.RegionHeld3
namespace Go.Proofs.YtofpaekokmkhgaaGreatDoor
open Go.ChangeShapes Go.WideShapes Go.ChangeAt Go.RowKit

/-- The wins of the clubs of the set s below k. -/
def wT (ws : List Int) (s : Nat) : Nat → Int
  | 0 => 0
  | k + 1 => wT ws s k + (if s.testBit k then ws.getD k 0 else 0)
def gameIn (s : Nat) (g : List Int) : Nat := match g with
  | [a, b, k] => if s.testBit a.toNat ∧ s.testBit b.toNat then k.toNat else 0
  | _ => 0
def gT (gs : List (List Int)) (s : Nat) : Nat := (gs.map (gameIn s)).sum
/-- Whether the set s proves the club c out. -/
def provesB (ws : List Int) (gs : List (List Int)) (c : Nat) (most : Int) (s : Nat) : Bool := decide (0 < s) && (!s.testBit c && decide ((cntL s : Int) * most < wT ws s ws.length + gT gs s))
def proofF (ws : List Int) (gs : List (List Int)) (c : Nat) (most : Int) : Nat := match (List.range (2 ^ ws.length)).find? (provesB ws gs c most) with
  | some s => s
  | none => 0
theorem proofF_hit {ws : List Int} {gs : List (List Int)} {c : Nat} {most : Int} {s : Nat} (hs : s < 2 ^ ws.length) (h : ∀ t, t < s → provesB ws gs c most t = false) (hp : provesB ws gs c most s = true) : proofF ws gs c most = s := by
  have e : (List.range (2 ^ ws.length)).find? (provesB ws gs c most) = some s := by
    rw [List.find?_range_eq_some]
    exact ⟨hp, by simpa using hs, fun j hj => by simp [h j hj]⟩
  rw [proofF, e]
theorem proofF_none {ws : List Int} {gs : List (List Int)} {c : Nat} {most : Int} (h : ∀ t, t < 2 ^ ws.length → provesB ws gs c most t = false) : proofF ws gs c most = 0 := by
  have e : (List.range (2 ^ ws.length)).find? (provesB ws gs c most) = none := by
    rw [List.find?_eq_none]
    intro x hx
    simp [h x (List.mem_range.1 hx)]
  rw [proofF, e]
theorem proves_zero {ws : List Int} {gs : List (List Int)} {c : Nat} {most : Int} : ∀ t, t < 1 → provesB ws gs c most t = false := by
  intro t ht
  obtain rfl : t = 0 := by omega
  simp [provesB]
theorem proves_in {ws : List Int} {gs : List (List Int)} {c s : Nat} {most : Int} (h : s.testBit c = true) : provesB ws gs c most s = false := by simp [provesB, h]
theorem proves_not {ws : List Int} {gs : List (List Int)} {c s : Nat} {most : Int} (h : ¬ (cntL s : Int) * most < wT ws s ws.length + gT gs s) : provesB ws gs c most s = false := by
  rw [provesB, decide_eq_false h]; simp
theorem proves_yes {ws : List Int} {gs : List (List Int)} {c s : Nat} {most : Int} (h0 : 0 < s) (hc : s.testBit c = false) (h : (cntL s : Int) * most < wT ws s ws.length + gT gs s) : provesB ws gs c most s = true := by
  simp [provesB, h0, hc, h]
theorem proves_next {ws : List Int} {gs : List (List Int)} {c s : Nat} {most : Int} (h : ∀ t, t < s → provesB ws gs c most t = false) (hs : provesB ws gs c most s = false) : ∀ t, t < s + 1 → provesB ws gs c most t = false := by
  intro t ht
  rcases Nat.eq_or_lt_of_le (Nat.le_of_lt_succ ht) with rfl | ht
  · exact hs
  · exact h t ht
theorem bit_ge {s n a : Nat} (hs : s < 2 ^ n) (ha : n ≤ a) : s.testBit a = false := Nat.testBit_lt_two_pow (Nat.lt_of_lt_of_le hs (Nat.pow_le_pow_right (by omega) ha))
theorem wT_stop {ws : List Int} {s n : Nat} (hs : s < 2 ^ n) : ∀ m, wT ws s (n + m) = wT ws s n := by
  intro m
  induction m with
  | zero => rfl
  | succ m ih => rw [← Nat.add_assoc, wT, bit_ge hs (by omega), ih]; simp
theorem wT_mem (ws : List Int) (s : Nat) : ∀ k, ((memT s k).map (fun x => ws.getD x.toNat 0)).sum = wT ws s k := by
  intro k
  induction k with
  | zero => rfl
  | succ k ih =>
    cases h : s.testBit k
    · rw [memT_out h, ih, wT, h]; simp
    · rw [memT_in h, List.map_append, List.sum_append, ih, wT, h]; simp
theorem wT_all {ws : List Int} {s : Nat} (hn : ws.length ≤ 8) (hs : s < 2 ^ ws.length) : ((memL s).map (fun x => ws.getD x.toNat 0)).sum = wT ws s ws.length := by
  rw [memL, wT_mem]
  have := wT_stop (ws := ws) hs (8 - ws.length)
  rwa [show ws.length + (8 - ws.length) = 8 by omega] at this
theorem wT_bd {ws : List Int} {gs : List (List Int)} (h : Race ws gs) (s : Nat) : ∀ k, k ≤ ws.length → 0 ≤ wT ws s k ∧ wT ws s k ≤ 200 * (k : Int) := by
  intro k
  induction k with
  | zero => intro _; simp [wT]
  | succ k ih =>
    intro hk
    have ih := ih (by omega)
    obtain ⟨x1, x2, x3⟩ := wins_at h (List.getElem?_eq_getElem (show k < ws.length by omega))
    rw [wT, x3]
    split <;> omega
theorem gT_snoc {gs : List (List Int)} {m : Nat} {g : List Int} (s : Nat) (h : gs[m]? = some g) : gT (gs.take (m + 1)) s = gT (gs.take m) s + gameIn s g := by
  rw [take_snoc h]; simp [gT]
theorem gT_le {ws : List Int} {gs : List (List Int)} (h : Race ws gs) (s : Nat) : ∀ m, m ≤ gs.length → gT (gs.take m) s ≤ 20 * m := by
  intro m
  induction m with
  | zero => intro _; simp [gT]
  | succ m ih =>
    intro hm
    have hg : gs[m]? = some gs[m] := List.getElem?_eq_getElem (by omega)
    rw [gT_snoc s hg]
    have := ih (by omega)
    obtain ⟨a, b, k, e, _, _, _, hk⟩ := h.games gs[m] (List.getElem_mem _)
    rw [e]
    unfold gameIn
    dsimp only
    split <;> omega
/-- Sums of wins at the elements of a list. -/
theorem wsum_bd {ws : List Int} {gs : List (List Int)} (h : Race ws gs) (l : List Int) : (∀ x ∈ l, ∃ a : Nat, x = (a : Int) ∧ a < ws.length) → 0 ≤ (l.map (fun x => ws.getD x.toNat 0)).sum ∧ (l.map (fun x => ws.getD x.toNat 0)).sum ≤ 200 * (l.length : Int) := by
  induction l with
  | nil => intro _; simp
  | cons x l ih =>
    intro hx
    have ih := ih (fun y hy => hx y (List.mem_cons_of_mem _ hy))
    obtain ⟨a, rfl, ha⟩ := hx x (List.mem_cons_self ..)
    obtain ⟨x1, x2, x3⟩ := wins_at h (List.getElem?_eq_getElem ha)
    simp only [List.map_cons, List.sum_cons, List.length_cons, Int.toNat_natCast, x3]
    omega
theorem pow_bd {n : Nat} (h : n ≤ 6) : (2 : Nat) ^ n ≤ 64 := Nat.pow_le_pow_right (by omega) h

set_option maxHeartbeats 4000000 in
set_option maxRecDepth 100000 in
theorem proofOut_any (v u : Value) (ws : List Int) (gs : List (List Int)) (c : Nat) (most : Int) (w : World) (hv : InI w v ws) (hu : InS w u gs) (hr : Race ws gs) (hc : c < ws.length) (m0 : 0 ≤ most) (m1 : most ≤ 500) :
    Calls Tryz.prog 78 #[v, u, .int .i64 (c : Int), .int .i64 most] w fun e w' => e = .returned (.int .i64 (proofF ws gs c most : Nat)) ∧ Below w.heap.size w w' := by
  have HR := Lib.hid hr
  have HV := Lib.hid hv
  have HU := Lib.hid hu
  have hn := hr.n6
  have hm15 := hr.m15
  have hpb := pow_bd hn
  obtain ⟨A, d, rfl, _, _, _⟩ := hv
  obtain ⟨B, f, us, rfl, -⟩ := hu
  obtain ⟨T, HT⟩ : ∃ T : Nat, Hid (2 ^ ws.length = T) := ⟨_, rfl⟩
  rw [HT.out] at hpb
  have hT2 : (2 : Int) ^ ws.length = (T : Int) := by rw [← HT.out, Int.natCast_pow]; rfl
  have e1 : IntKind.i64.wrap ((2 : Int) ^ ws.length) = (T : Int) := by rw [hT2, IntKind.wrap_i64]; omega
  have e2 : wrap64 ((2 : Int) ^ ws.length) = (T : Int) := by rw [hT2]; unfold wrap64; omega
  have hpos : 1 ≤ T := by rw [← HT.out]; exact Nat.one_le_two_pow
  have HE := Lib.hid (And.intro e1 e2)
  clear hr hT2 e1 e2
  go_enter Tryz.func78, Tryz.ntmps78
  go_wp2
  go_loopw [9] (fun i wr => ∃ s : Nat, 1 ≤ s ∧ s ≤ T ∧ i = .int .i64 s ∧ Hid (∀ t, t < s → provesB ws gs c most t = false) ∧ Hid (Below w.heap.size w wr)) (fun i _ => T - (intOf i).toNat)
  case atStart => exact ⟨1, Nat.le_refl _, hpos, rfl, proves_zero, Below.refl _ _⟩
  case round =>
    obtain ⟨s, hs1, hsT, rfl, HP, HW⟩ := hrel
    obtain ⟨wo, hwo⟩ : ∃ W, W = wr := ⟨wr, rfl⟩
    have e1 := HE.out.1
    have e2 := HE.out.2
    by_cases hlt : s < T
    case neg =>
      obtain rfl : s = T := by omega
      have HZ : Hid (proofF ws gs c most = 0) := proofF_none (by rw [HT.out]; exact HP.out)
      go_wp2
      go_ret
      exact ⟨by rw [HZ.out]; rfl, HW.out⟩
    have hs256 : s < 256 := by omega
    have hb := bits_low (k := c) hs256
    cases htc : s.testBit c
    case true =>
      rw [htc] at hb
      simp only [if_true] at hb
      have HN := Lib.hid (proves_next HP.out (proves_in htc))
      clear htc
      go_wp2
      go_roundw
      case rel => exact ⟨s + 1, by omega, by omega, by go_num, HN, HW.out⟩
      case measure => simp [intOf]; omega
    rw [htc] at hb
    simp only [Bool.false_eq_true, if_false] at hb
    have HTC := Lib.hid htc
    have hsp : s < 2 ^ ws.length := by rw [HT.out]; exact hlt
    have HWA := Lib.hid (wT_all (by omega) hsp)
    have hml := memL_len s
    have hcl := cntL_le s
    have hmem : ∀ x ∈ memL s, ∃ a : Nat, x = (a : Int) ∧ a < ws.length := by
      intro x hx
      obtain ⟨a, rfl, _, hb⟩ := memT_mem.1 hx
      refine ⟨a, rfl, ?_⟩
      rcases Nat.lt_or_ge a ws.length with h | h
      · exact h
      · rw [bit_ge hsp h] at hb; cases hb
    have HM := Lib.hid hmem
    obtain ⟨L, HL⟩ : ∃ L, Hid (memL s = L) := ⟨_, rfl⟩
    rw [HL.out] at hml HM HWA
    obtain ⟨C, HC⟩ : ∃ C : Nat, Hid (cntL s = C) := ⟨_, rfl⟩
    rw [HC.out] at hml hcl
    have HML := Lib.hid hml
    clear htc hsp hmem hml
    go_wp2_with (go_at_call 37; refine (membersOf_any s _ hs256).mono ?_; rintro e w2 ⟨v2, rfl, hf2, hb2⟩; rw [HL.out] at hf2; obtain ⟨A2, c2, rfl, -, -⟩ := hf2.form; have H2 : Hid (SlI w2 A2 L ∧ Below w.heap.size w w2) := ⟨hf2.sl, HW.out.trans (hb2.mono HW.out.size)⟩; rw [HML.out]; clear hf2 hb2)
    go_loop [10, 32] (fun x i => ∃ (j : Nat) (y : Int), j ≤ C ∧ i = .int .i64 j ∧ x = .int .i64 y ∧ Hid (y = ((L.take j).map (fun x => ws.getD x.toNat 0)).sum)) (fun _ i => C - (intOf i).toNat)
    case atStart => exact ⟨0, 0, Nat.zero_le _, rfl, rfl, by show _ = _; simp⟩
    case round =>
      obtain ⟨j, y, hj, rfl, rfl, HY⟩ := hrel
      have hyb := wsum_bd HR.out (L.take j) (fun x hx => HM.out x (List.mem_of_mem_take hx))
      rw [← HY.out, List.length_take] at hyb
      have hyb' : 0 ≤ y ∧ y ≤ 1600 := by omega
      clear hyb
      by_cases hlt2 : j < C
      case pos =>
        obtain ⟨b1, o1, x, rfl, ex, qx, _⟩ := H2.out.1.at_ (k := j) (by rw [HML.out]; exact hlt2)
        obtain ⟨a, rfl, ha⟩ := HM.out x (List.mem_of_getElem? ex)
        obtain ⟨A', d', e3, _, _, hs⟩ := HV.out.below H2.out.2
        injection e3 with e3 _ e5; subst e3; subst e5
        obtain ⟨b4, o4, z, rfl, ez, qz, _⟩ := hs.at_ (k := a) ha
        obtain ⟨z1, z2, z3⟩ := wins_at HR.out ez
        have HX : Hid (((L.take (j + 1)).map (fun x => ws.getD x.toNat 0)).sum = y + z) := by show _ = _; rw [take_snoc ex, List.map_append, List.sum_append, ← HY.out]; simp only [List.map_cons, List.map_nil, List.sum_cons, List.sum_nil, Int.toNat_natCast, z3]; omega
        have haw : (a : Int) < ws.length := by omega
        clear ex ez hs z3
        go_wp2
        go_round
        case rel => exact ⟨j + 1, y + z, by omega, by go_num, by go_num, by rw [HX.out]; exact rfl⟩
        case measure => simp [intOf]; omega
      obtain rfl : j = C := by omega
      have HY2 : Hid (y = wT ws s ws.length) := by
        have h := HY.out
        rw [List.take_of_length_le (by rw [HML.out]; exact Nat.le_refl _)] at h
        exact h.trans HWA.out
      clear HY
      go_wp2
      go_loop [10, 45] (fun x i => ∃ (q : Nat) (z : Nat), q ≤ gs.length ∧ i = .int .i64 q ∧ x = .int .i64 (y + (z : Int)) ∧ Hid (z = gT (gs.take q) s)) (fun _ i => gs.length - (intOf i).toNat)
      case atStart => exact ⟨0, 0, Nat.zero_le _, rfl, by simp, by show _ = _; simp [gT]⟩
      case round =>
        obtain ⟨q, z, hq, rfl, rfl, HZ⟩ := hrel
        have hzb : z ≤ 300 := by rw [HZ.out]; have := gT_le HR.out s q hq; omega
        by_cases hlt3 : q < gs.length
        case pos =>
          obtain ⟨b2, o2, ug, g, rfl, hg1, hg2, hg3, _⟩ := (HU.out.below H2.out.2).at_ (k := q) hlt3
          have HS := Lib.hid (gT_snoc s hg1)
          obtain ⟨a, b, k, rfl, hab, hbn, _, hk⟩ := HR.out.games g (List.mem_of_getElem? hg1)
          obtain ⟨b1, o1, c1, rfl, q0, q1, q2⟩ := hg3.game
          have hba := bits_low (k := a) hs256
          have hbb := bits_low (k := b) hs256
          clear hg1 hg3
          cases ta : s.testBit a
          · have HN : Hid (gT (gs.take (q + 1)) s = z) := by show _ = _; rw [HS.out, ← HZ.out]; simp [gameIn, ta]
            rw [ta] at hba
            simp only [Bool.false_eq_true, if_false] at hba
            clear ta hbb
            go_wp2
            go_round
            case rel => exact ⟨q + 1, z, by omega, by go_num, rfl, by rw [HN.out]; exact rfl⟩
            case measure => simp [intOf]; omega
          · rw [ta] at hba
            simp only [if_true] at hba
            cases tb : s.testBit b
            · have HN : Hid (gT (gs.take (q + 1)) s = z) := by show _ = _; rw [HS.out, ← HZ.out]; simp [gameIn, tb]
              rw [tb] at hbb
              simp only [Bool.false_eq_true, if_false] at hbb
              clear ta tb
              go_wp2
              go_round
              case rel => exact ⟨q + 1, z, by omega, by go_num, rfl, by rw [HN.out]; exact rfl⟩
              case measure => simp [intOf]; omega
            · have HN : Hid (gT (gs.take (q + 1)) s = z + k) := by show _ = _; rw [HS.out, ← HZ.out]; simp [gameIn, ta, tb]
              rw [tb] at hbb
              simp only [if_true] at hbb
              clear ta tb
              go_wp2
              go_round
              case rel => exact ⟨q + 1, z + k, by omega, by go_num, by go_num, by rw [HN.out]; exact rfl⟩
              case measure => simp [intOf]; omega
        obtain rfl : q = gs.length := by omega
        have HZ2 : Hid (z = gT gs s) := by have h := HZ.out; rwa [List.take_length] at h
        have hm1 : (j : Int) * most ≤ 8 * 500 := Int.mul_le_mul (by omega) m1 m0 (by omega)
        have hm0 : 0 ≤ (j : Int) * most := Int.mul_nonneg (by omega) m0
        obtain ⟨Z, hZ⟩ : ∃ Z, (j : Int) * most = Z := ⟨_, rfl⟩
        rw [hZ] at hm0 hm1
        have f1 : wrap64 ((j : Int) * most) = Z := by rw [hZ]; unfold wrap64; omega
        have f2 : IntKind.i64.wrap ((j : Int) * most) = Z := by rw [hZ, IntKind.wrap_i64]; omega
        have HZZ : Hid ((cntL s : Int) * most = Z) := by show _ = _; rw [HC.out, hZ]
        clear hZ
        by_cases hyes : Z < y + (z : Int)
        · have HN : Hid (proofF ws gs c most = s) := proofF_hit (by rw [HT.out]; exact hlt) HP.out (proves_yes (by omega) HTC.out (by rw [HZZ.out, ← HY2.out, ← HZ2.out]; exact hyes))
          go_wp2
          go_ret
          exact ⟨by rw [HN.out]; rfl, H2.out.2⟩
        · have HN := Lib.hid (proves_next (c := c) HP.out (proves_not (by rw [HZZ.out, ← HY2.out, ← HZ2.out]; exact hyes)))
          go_wp2
          go_roundw
          case rel => exact ⟨s + 1, by omega, by omega, by go_num, HN, H2.out.2⟩
          case measure => simp [intOf]; omega

def mostF (ws : List Int) (gs : List (List Int)) (c : Nat) : Int := ws.getD c 0 + leftN gs c
theorem mostF_bd {ws : List Int} {gs : List (List Int)} (h : Race ws gs) {c : Nat} (hc : c < ws.length) : 0 ≤ mostF ws gs c ∧ mostF ws gs c ≤ 500 := by
  obtain ⟨x1, x2, x3⟩ := wins_at h (List.getElem?_eq_getElem hc)
  have := leftN_all h (c : Int)
  rw [mostF, x3]; omega
set_option maxHeartbeats 2000000 in
theorem ProofOut_any (v u : Value) (ws : List Int) (gs : List (List Int)) (c : Nat) (w : World) (hv : InI w v ws) (hu : InS w u gs) (hr : raceB ws gs = true) (hc : c < ws.length) :
    Calls Tryz.prog 59 #[v, u, .int .i64 (c : Int)] w fun e w' => e = .returned (.int .i64 (proofF ws gs c (mostF ws gs c) : Nat)) ∧ Below w.heap.size w w' := by
  have hR := raceB_t hr
  have HR := Lib.hid hR
  have HV := Lib.hid hv
  have HU := Lib.hid hu
  have HO := Lib.hid (isRacer_any v u ws gs c w hv hu hr hc)
  have hmb := mostF_bd hR hc
  obtain ⟨A, d, rfl, _, _, hs⟩ := hv
  obtain ⟨B, f, us, rfl, -⟩ := hu
  obtain ⟨b4, o4, z, rfl, ez, qz, hz4⟩ := hs.at_ (k := c) hc
  obtain ⟨z1, z2, z3⟩ := wins_at hR ez
  have hlb := leftN_all hR (c : Int)
  have hmo : mostF ws gs c = z + leftN gs (c : Int) := by rw [mostF, z3]
  obtain ⟨LL, HLL⟩ : ∃ LL : Nat, Hid (leftN gs (c : Int) = LL) := ⟨_, rfl⟩
  rw [HLL.out] at hmo hlb
  obtain ⟨most, HMO⟩ : ∃ most, Hid (mostF ws gs c = most) := ⟨_, rfl⟩
  rw [HMO.out] at hmo hmb ⊢
  obtain ⟨m0, m1⟩ := hmb
  have ew : IntKind.i64.wrap (z + (LL : Int)) = most := by rw [IntKind.wrap_i64]; omega
  have hcw : (c : Int) < ws.length := by omega
  have HQ : Hid (w.cell? ⟨b4, o4 + c, none⟩ = some (.int .i64 z) ∧ b4 < w.heap.size) := ⟨qz, hz4⟩
  clear hr hR hs ez z3 hmo qz hz4
  go_enter Tryz.func59, Tryz.ntmps59
  go_wp2_with (go_at_call 28; refine HO.out.mono ?_; rintro e w1 ⟨rfl, hb⟩; have HB := Lib.hid hb; clear hb)
  have qz : w1.cell? ⟨b4, o4 + c, none⟩ = some (.int .i64 z) := (HB.out.cell (p := ⟨b4, o4 + c, none⟩) HQ.out.2).trans HQ.out.1
  have HLF : Hid (∀ W, Below w.heap.size w W → Calls Tryz.prog 29 #[.slice B gs.length f, .int .i64 (c : Int)] W fun e w' => e = .returned (.int .i64 (LL : Int)) ∧ W = w') := fun W hW => by
    have h := gamesLeft_any _ ws gs (c : Int) W (HU.out.below hW) HR.out
    rwa [HLL.out] at h
  go_region_held3 (fun W => W.cell? ⟨b4, o4 + c, none⟩ = some (.int .i64 z)) (first | go_keep | exact qz) (first
    | (go_at_call 29; refine (HLF.out _ (by first | exact HB.out | exact below_drewL HB.out | exact below_drewN HB.out _)).mono ?_; rintro e w' ⟨rfl, rfl⟩)
    | (go_at_call 78; refine (proofOut_any _ _ ws gs c most _ (HV.out.below (by first | exact HB.out | exact below_drewL HB.out | exact below_drewN HB.out _)) (HU.out.below (by first | exact HB.out | exact below_drewL HB.out | exact below_drewN HB.out _)) HR.out hc m0 m1).mono ?_; rintro e w3 ⟨rfl, hb3⟩; have HB3 : Hid (Below w.heap.size w w3) := (below_drewL HB.out).trans (hb3.mono HB.out.size); have qz : w3.cell? ⟨b4, o4 + c, none⟩ = some (.int .i64 z) := (HB3.out.cell (p := ⟨b4, o4 + c, none⟩) HQ.out.2).trans HQ.out.1; clear hb3))
  go_wp2
  go_ret
  exact ⟨rfl, HB3.out⟩
end Go.Proofs.YtofpaekokmkhgaaGreatDoor
