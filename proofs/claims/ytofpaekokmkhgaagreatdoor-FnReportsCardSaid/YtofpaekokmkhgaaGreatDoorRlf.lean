/- Races: games left, magic numbers: both packages' contracts (print/race.py). -/
import Derived.Test.YtofpaekokmkhgaaGreatDoorMbh
namespace Go.Proofs.YtofpaekokmkhgaaGreatDoor
open Go.ChangeShapes Go.WideShapes Go.ChangeAt Go.RowKit

def gameK (c : Int) (g : List Int) : Nat := match g with
  | [a, b, k] => if a = c ∨ b = c then k.toNat else 0
  | _ => 0
/-- How many games a club has left. -/
def leftN (gs : List (List Int)) (c : Int) : Nat := (gs.map (gameK c)).sum
theorem leftN_snoc {gs : List (List Int)} {m : Nat} {g : List Int} (c : Int) (h : gs[m]? = some g) : leftN (gs.take (m + 1)) c = leftN (gs.take m) c + gameK c g := by
  rw [take_snoc h]; simp [leftN]
theorem gameK_le {n : Nat} {g : List Int} (c : Int) (h : ∃ a b k : Nat, g = [(a : Int), (b : Int), (k : Int)] ∧ a < b ∧ b < n ∧ 1 ≤ k ∧ k ≤ 20) : gameK c g ≤ 20 := by
  obtain ⟨a, b, k, rfl, _, _, _, h⟩ := h
  unfold gameK
  dsimp only
  split <;> omega
theorem leftN_le {ws : List Int} {gs : List (List Int)} (h : Race ws gs) (c : Int) : ∀ m, m ≤ gs.length → leftN (gs.take m) c ≤ 20 * m := by
  intro m
  induction m with
  | zero => intro _; simp [leftN]
  | succ m ih =>
    intro hm
    have hg : gs[m]? = some gs[m] := List.getElem?_eq_getElem (by omega)
    rw [leftN_snoc c hg]
    have := gameK_le c (h.games gs[m] (List.getElem_mem _))
    have := ih (by omega)
    omega
theorem leftN_all {ws : List Int} {gs : List (List Int)} (h : Race ws gs) (c : Int) : leftN gs c ≤ 300 := by
  have := leftN_le h c gs.length (Nat.le_refl _)
  rw [List.take_length] at this
  have := h.m15
  omega
/-- The row of a game: where its cells lie. -/
theorem InI.game {w : World} {v : Value} {a b k : Int} (h : InI w v [a, b, k]) : ∃ bl o c, v = .slice (some ⟨bl, o, none⟩) 3 c ∧ w.cell? ⟨bl, o, none⟩ = some (.int .i64 a) ∧ w.cell? ⟨bl, o + 1, none⟩ = some (.int .i64 b) ∧ w.cell? ⟨bl, o + 2, none⟩ = some (.int .i64 k) := by
  obtain ⟨A, c, rfl, _, _, hs⟩ := h
  obtain ⟨b1, o1, x0, rfl, e0, q0, _⟩ := hs.at_ (k := 0) (by simp)
  obtain ⟨b1', o1', x1, ea, e1, q1, _⟩ := hs.at_ (k := 1) (by simp)
  injection ea with ea; injection ea with ea1 ea2 _; subst ea1; subst ea2
  obtain ⟨b1', o1', x2, ea, e2, q2, _⟩ := hs.at_ (k := 2) (by simp)
  injection ea with ea; injection ea with ea1 ea2 _; subst ea1; subst ea2
  simp only [List.getElem?_cons_zero, List.getElem?_cons_succ, Option.some.injEq] at e0 e1 e2
  subst e0; subst e1; subst e2
  exact ⟨_, _, c, rfl, q0, q1, q2⟩

set_option maxHeartbeats 1000000 in
theorem gamesLeft_any (v : Value) (ws : List Int) (gs : List (List Int)) (c : Int) (w : World) (hv : InS w v gs) (hr : Race ws gs) :
    Calls Tryz.prog 29 #[v, .int .i64 c] w fun e w' => e = .returned (.int .i64 (leftN gs c : Nat)) ∧ w = w' := by
  have HR := Lib.hid hr
  have HV := Lib.hid hv
  have hm15 := hr.m15
  clear hr
  obtain ⟨B, d, us, rfl, -⟩ := hv
  go_enter Tryz.func29, Tryz.ntmps29
  go_wp2
  go_loop [5, 10] (fun s i => ∃ (j y : Nat), j ≤ gs.length ∧ i = .int .i64 j ∧ s = .int .i64 (y : Int) ∧ Hid (y = leftN (gs.take j) c)) (fun _ i => gs.length - (intOf i).toNat)
  case atStart => exact ⟨0, 0, Nat.zero_le _, rfl, rfl, rfl⟩
  case round =>
    obtain ⟨j, y, hj, rfl, rfl, HY⟩ := hrel
    have hy : y ≤ 300 := by rw [HY.out]; have := leftN_le HR.out c j hj; omega
    by_cases hlt : j < gs.length
    case neg =>
      obtain rfl : j = gs.length := by omega
      have HE : Hid (y = leftN gs c) := by have h := HY.out; rwa [List.take_length] at h
      go_wp2
      go_ret
      exact ⟨by rw [← HE.out]; rfl, rfl⟩
    obtain ⟨b2, o2, u, g, rfl, hg1, hg2, hg3, _⟩ := HV.out.at_ (k := j) hlt
    have HS := Lib.hid (leftN_snoc c hg1)
    obtain ⟨a, b, k, rfl, _, _, _, hk⟩ := HR.out.games g (List.mem_of_getElem? hg1)
    obtain ⟨b1, o1, c1, rfl, q0, q1, q2⟩ := hg3.game
    clear hg1 hg3 HV
    by_cases h1 : (a : Int) = c
    · have t1 : ((a : Int) == c) = true := by simp [h1]
      have HN : Hid (leftN (gs.take (j + 1)) c = y + k) := by show _ = _; rw [HS.out, ← HY.out]; simp [gameK, h1]
      clear h1
      go_wp2
      go_round
      case rel => exact ⟨j + 1, y + k, by omega, by go_num, by go_num, by rw [HN.out]; exact rfl⟩
      case measure => simp [intOf]; omega
    · have t1 : ((a : Int) == c) = false := by simp [h1]
      by_cases h2 : (b : Int) = c
      · have t2 : ((b : Int) == c) = true := by simp [h2]
        have HN : Hid (leftN (gs.take (j + 1)) c = y + k) := by show _ = _; rw [HS.out, ← HY.out]; simp [gameK, h2]
        clear h1 h2
        go_wp2
        go_round
        case rel => exact ⟨j + 1, y + k, by omega, by go_num, by go_num, by rw [HN.out]; exact rfl⟩
        case measure => simp [intOf]; omega
      · have t2 : ((b : Int) == c) = false := by simp [h2]
        have HN : Hid (leftN (gs.take (j + 1)) c = y) := by show _ = _; rw [HS.out, ← HY.out]; simp [gameK, h1, h2]
        clear h1 h2
        go_wp2
        go_round
        case rel => exact ⟨j + 1, y, by omega, by go_num, rfl, by rw [HN.out]; exact rfl⟩
        case measure => simp [intOf]; omega

set_option maxHeartbeats 1000000 in
theorem isRacer_any (v u : Value) (ws : List Int) (gs : List (List Int)) (c : Nat) (w : World) (hv : InI w v ws) (hu : InS w u gs) (hr : raceB ws gs = true) (hc : c < ws.length) :
    Calls Tryz.prog 28 #[v, u, .int .i64 (c : Int)] w fun e w' => e = .returned (.bool true) ∧ Below w.heap.size w w' := by
  have hR := raceB_t hr
  have hn := hR.n6
  have hg := hR.m15
  have HO := Lib.hid (implRaceOk_any v u ws gs w hv hu (by omega) (by omega))
  obtain ⟨A, d, rfl, _, _, _⟩ := hv
  have HI : Hid (∀ W, Calls Tryz.prog 55 #[.int .i64 (c : Int), .int .i64 0, .int .i64 ((ws.length : Int) - 1)] W fun e w' => e = .returned (.bool true) ∧ W = w') := fun W => by
    have h := within_any (c : Int) 0 ((ws.length : Int) - 1) W
    rwa [inB_mk (by omega) (by omega)] at h
  go_enter Tryz.func28, Tryz.ntmps28
  go_wp2_with (first
    | (go_at_call 26; refine HO.out.mono ?_; rintro e w1 ⟨rfl, hb⟩; rw [hr]; have HB := Lib.hid hb; clear hb)
    | (go_at_call 55; refine (HI.out _).mono ?_; rintro e w' ⟨rfl, rfl⟩))
  go_ret
  exact ⟨rfl, HB.out⟩

/-- The magic number: the others' greatest reach beyond a club's wins. -/
def magS (ws : List Int) (gs : List (List Int)) (c : Nat) (acc : Int) (k : Nat) : Int := if k = c then acc else max acc (ws.getD k 0 + leftN gs k - ws.getD c 0)
def magT (ws : List Int) (gs : List (List Int)) (c : Nat) (m : Nat) : Int := (List.range m).foldl (magS ws gs c) 0
def magF (ws : List Int) (gs : List (List Int)) (c : Nat) : Int := magT ws gs c ws.length
theorem magT_succ (ws : List Int) (gs : List (List Int)) (c m : Nat) : magT ws gs c (m + 1) = magS ws gs c (magT ws gs c m) m := by
  rw [magT, List.range_succ, List.foldl_append]; rfl
theorem wins_at {ws : List Int} {gs : List (List Int)} (h : Race ws gs) {k : Nat} {x : Int} (hx : ws[k]? = some x) : 0 ≤ x ∧ x ≤ 200 ∧ ws.getD k 0 = x :=
  ⟨(h.wins x (List.mem_of_getElem? hx)).1, (h.wins x (List.mem_of_getElem? hx)).2, by rw [List.getD_eq_getElem?_getD, hx]; rfl⟩
theorem magT_bd {ws : List Int} {gs : List (List Int)} (h : Race ws gs) (c : Nat) (hc : c < ws.length) : ∀ m, m ≤ ws.length → 0 ≤ magT ws gs c m ∧ magT ws gs c m ≤ 500 := by
  intro m
  induction m with
  | zero => intro _; simp [magT]
  | succ m ih =>
    intro hm
    have ih := ih (by omega)
    obtain ⟨x1, x2, x3⟩ := wins_at h (List.getElem?_eq_getElem (show m < ws.length by omega))
    obtain ⟨y1, y2, y3⟩ := wins_at h (List.getElem?_eq_getElem hc)
    have := leftN_all h (m : Int)
    rw [magT_succ, magS, x3, y3]
    split
    · exact ih
    · omega

set_option maxHeartbeats 2000000 in
theorem implMagic_any (v u : Value) (ws : List Int) (gs : List (List Int)) (c : Nat) (w : World) (hv : InI w v ws) (hu : InS w u gs) (hr : raceB ws gs = true) (hc : c < ws.length) :
    Calls Tryz.prog 8 #[v, u, .int .i64 (c : Int)] w fun e w' => e = .returned (.int .i64 (magF ws gs c)) ∧ Below w.heap.size w w' := by
  have hR := raceB_t hr
  have hn := hR.n6
  have HR := Lib.hid hR
  have HV := Lib.hid hv
  have HU := Lib.hid hu
  have HO := Lib.hid (isRacer_any v u ws gs c w hv hu hr hc)
  obtain ⟨A, d, rfl, _, _, _⟩ := hv
  obtain ⟨B, f, us, rfl, -⟩ := hu
  clear hr hR
  go_enter Tryz.func8, Tryz.ntmps8
  go_wp2_with (go_at_call 28; refine HO.out.mono ?_; rintro e w1 ⟨rfl, hb⟩; have HB := Lib.hid hb; clear hb)
  go_loopw [7, 16] (fun s i wr => ∃ (j : Nat) (y : Int), j ≤ ws.length ∧ i = .int .i64 j ∧ s = .int .i64 y ∧ Hid (y = magT ws gs c j) ∧ Hid (Below w.heap.size w wr)) (fun _ i _ => ws.length - (intOf i).toNat)
  case atStart => exact ⟨0, 0, Nat.zero_le _, rfl, rfl, rfl, HB.out⟩
  case round =>
    obtain ⟨j, y, hj, rfl, rfl, HY, HW⟩ := hrel
    clear HB
    have hyb := magT_bd HR.out c hc j hj
    rw [← HY.out] at hyb
    by_cases hlt : j < ws.length
    case neg =>
      obtain rfl : j = ws.length := by omega
      have HE : Hid (y = magF ws gs c) := HY.out
      go_wp2
      go_ret
      exact ⟨by rw [HE.out]; rfl, HW.out⟩
    obtain ⟨A', d', e3, _, _, hs⟩ := HV.out.below HW.out
    injection e3 with e3 _ e5; subst e3; subst e5
    obtain ⟨b1, o1, x, rfl, ex, qx, _⟩ := hs.at_ (k := j) hlt
    obtain ⟨b1', o1', z, ea, ez, qz, _⟩ := hs.at_ (k := c) hc
    injection ea with ea; injection ea with ea1 ea2 _; subst ea1; subst ea2
    obtain ⟨x1, x2, x3⟩ := wins_at HR.out ex
    obtain ⟨z1, z2, z3⟩ := wins_at HR.out ez
    have hlb := leftN_all HR.out (j : Int)
    have HS := Lib.hid (magT_succ ws gs c j)
    obtain ⟨L, HL⟩ : ∃ L : Nat, Hid (leftN gs (j : Int) = L) := ⟨_, rfl⟩
    rw [HL.out] at hlb
    have hmx : magS ws gs c y j = if j = c then y else max y (x + L - z) := by rw [magS, x3, z3, HL.out]
    have HLF : Hid (∀ q, Calls Tryz.prog 29 #[.slice B gs.length f, .int .i64 (j : Int)] (wr.drewN q) fun e w' => e = .returned (.int .i64 (L : Int)) ∧ wr.drewN q = w') := fun q => by
      have h := gamesLeft_any _ ws gs (j : Int) (wr.drewN q) ((HU.out.below HW.out).drewN q) HR.out
      rwa [HL.out] at h
    have hcj : (c : Int) < ws.length := by omega
    clear hs ex ez x3 z3
    by_cases hjc : j = c
    · have HX : Hid (magT ws gs c (j + 1) = y) := by show _ = _; rw [HS.out, ← HY.out, hmx, if_pos hjc]
      have t1 : ((j : Int) != (c : Int)) = false := by simp [hjc]
      clear hmx hjc
      go_wp2
      go_roundw
      case rel => exact ⟨j + 1, y, by omega, by go_num, rfl, by rw [HX.out]; exact rfl, HW.out⟩
      case measure => simp [intOf]; omega
    · have t1 : ((j : Int) != (c : Int)) = true := by simp; omega
      have e1 : IntKind.i64.wrap (x + (L : Int)) = x + L := by rw [IntKind.wrap_i64]; omega
      have e2 : IntKind.i64.wrap (x + (L : Int) - z) = x + L - z := by rw [IntKind.wrap_i64]; omega
      obtain ⟨M, hM⟩ : ∃ M, max y (x + L - z) = M := ⟨_, rfl⟩
      have hM2 : (if y < x + L - z then x + L - z else y) = M := by rw [← hM]; split <;> omega
      have HX : Hid (magT ws gs c (j + 1) = M) := by show _ = _; rw [HS.out, ← HY.out, hmx, if_neg hjc, hM]
      clear hmx hjc
      go_wp2_with fail
      go_quiet (first | (go_at_call 29; with_reducible exact quiet_left (HLF.out _)))
      go_wp2
      go_roundw
      case rel => exact ⟨j + 1, M, by omega, by go_num, by first | rfl | (rw [← hM]; rfl) | (rw [← hM2]; rfl), by rw [HX.out]; exact rfl, below_drewN HW.out _⟩
      case measure => simp [intOf]; omega
end Go.Proofs.YtofpaekokmkhgaaGreatDoor
