/- Tours: the laws' helpers for them; the tour of a new console. -/
import Derived.Test.YtlonfaclncnhdaaStd
import Derived.Test.YtlonfaclncnhdaaNum
import Derived.Deep.QuietTactic
import Derived.BigQuiet
namespace Go.Proofs.Ytlonfaclncnhdaa
open Go.ChangeShapes Go.WideShapes Go.ChangeAt Go.RowKit

structure TourV where
  size : Int
  wins : List Int
/-- The value v reads as the tour x. -/
def InT (w : World) (v : Value) (x : TourV) : Prop := ∃ u, v = .agg #[.int .i64 x.size, u] ∧ InI w u x.wins
theorem InT.below {w w' : World} {v : Value} {x : TourV} (h : InT w v x) (hb : Below w.heap.size w w') : InT w' v x := by
  obtain ⟨u, rfl, h⟩ := h; exact ⟨u, rfl, h.below hb⟩
def OwT (w : World) (lo hi : Nat) (v : Value) (x : TourV) : Prop := ∃ u, v = .agg #[.int .i64 x.size, u] ∧ Fr w lo hi u x.wins
theorem OwT.in_ {w : World} {lo hi : Nat} {v : Value} {x : TourV} (h : OwT w lo hi v x) : InT w v x := by
  obtain ⟨u, rfl, h⟩ := h; exact ⟨u, rfl, h.in_⟩
theorem OwT.keep {w w' : World} {lo hi l2 h2 : Nat} {v : Value} {x : TourV} (h : OwT w lo hi v x) (hk : Keep l2 h2 w w') (hd : hi ≤ l2 ∨ h2 ≤ lo) : OwT w' lo hi v x := by
  obtain ⟨u, rfl, h⟩ := h; exact ⟨u, rfl, h.keep hk hd⟩
theorem OwT.grow {w w' : World} {lo hi : Nat} {v : Value} {x : TourV} (h : OwT w lo hi v x) (hb : Below w.heap.size w w') : OwT w' lo hi v x := by
  obtain ⟨u, rfl, h⟩ := h; exact ⟨u, rfl, h.grow hb⟩
theorem OwT.form {w : World} {lo hi : Nat} {v : Value} {x : TourV} (h : OwT w lo hi v x) : ∃ A c, v = .agg #[.int .i64 x.size, .slice A x.wins.length c] := by
  obtain ⟨u, rfl, h⟩ := h
  obtain ⟨A, c, rfl, _⟩ := h.form
  exact ⟨A, c, rfl⟩
def markedT (k : Int) (x : TourV) : TourV := ⟨x.size, seqI k x.wins.length⟩
theorem Keep.cell {lo hi : Nat} {w w' : World} (h : Keep lo hi w w') {p : Addr} (hp : p.block < w.heap.size) (hd : p.block < lo ∨ hi ≤ p.block) : w'.cell? p = w.cell? p := by
  unfold World.cell?
  rw [h.block p.block hp hd]

theorem Keep.frozen {lo hi : Nat} {w w' : World} (h : Keep lo hi w w') {p : Addr} (hp : p.block < w.heap.size) (hd : p.block < lo ∨ hi ≤ p.block) : w'.frozen? p = w.frozen? p := by
  unfold World.frozen?
  rw [h.block p.block hp hd]

set_option maxRecDepth 100000 in
theorem eqTour_std (v u : Value) (x : TourV) (w : World) (hv : InT w v x) (hu : InT w u x) (hn : x.wins.length ≤ 1048576) :
    Calls Try.prog 38 #[v, u] w fun e w' => e = .returned (.bool true) ∧ Below w.heap.size w w' := by
  obtain ⟨v1, rfl, A, c, rfl, _, _, hs⟩ := hv
  obtain ⟨u1, rfl, B, d, rfl, _, _, hs2⟩ := hu
  have HS := Lib.hid (And.intro hs hs2)
  clear hs hs2
  go_enter Try.func38, Try.ntmps38
  go_wp2_with (go_at_call 19; refine (eqIntS_same A B x.wins.length x.wins.length c d x.wins _ rfl rfl ((HS.out.1.alloc _).alloc _) ((HS.out.2.alloc _).alloc _) hn).mono ?_; rintro e w1 ⟨rfl, hb⟩; have HB : Hid (Below w.heap.size w w1) := (((Below.refl _ w).alloc (Nat.le_refl _) _).alloc (by simp) _).trans (hb.mono (by simp; omega)); clear hb)
  go_ret
  exact ⟨rfl, HB.out⟩

set_option maxRecDepth 100000 in
theorem markTour_std (v : Value) (lo hi : Nat) (x : TourV) (k : Int) (w : World) (hs : OwT w lo hi v x) (h1 : x.wins.length ≤ 1048576) (h2 : 0 ≤ k) (h3 : k ≤ 1099511627776) :
    Calls Try.prog 39 #[v, .int .i64 k] w fun e w' => e = .returned (.int .i64 (k + x.wins.length)) ∧ OwT w' lo hi v (markedT k x) ∧ Keep lo hi w w' := by
  obtain ⟨u, rfl, hf⟩ := hs
  obtain ⟨A, c, rfl, _⟩ := hf.form
  have HF := Lib.hid hf
  clear hf
  go_enter Try.func39, Try.ntmps39
  go_wp2_with (go_at_call 20; refine (markIntS_any A c lo hi x.wins.length x.wins k _ rfl (HF.out.grow ((Below.refl _ w).alloc (Nat.le_refl _) _)) h1 h2 h3).mono ?_; rintro e w1 ⟨rfl, hf2, hk2⟩; have H2 : Hid (Fr w1 lo hi (.slice A x.wins.length c) (seqI k x.wins.length) ∧ Keep lo hi w w1) := ⟨hf2, ((Keep.refl lo hi w).alloc _).trans hk2⟩; clear hf2 hk2)
  go_ret
  exact ⟨rfl, ⟨_, rfl, H2.out.1⟩, H2.out.2⟩

set_option maxRecDepth 100000 in
theorem heldTour_std (v : Value) (x : TourV) (k : Int) (w : World) (hs : InT w v (markedT k x)) (h1 : x.wins.length ≤ 1048576) (h2 : 0 ≤ k) (h3 : k ≤ 1099511627776) :
    Calls Try.prog 40 #[v, .int .i64 k] w fun e w' => e = .returned (.int .i64 (k + x.wins.length)) ∧ Below w.heap.size w w' := by
  obtain ⟨u, rfl, A, c, rfl, _, _, hs⟩ := hs
  have hl : (markedT k x).wins.length = x.wins.length := seqI_length _ _
  have HS : Hid (SlI w A (seqI k x.wins.length)) := hs
  clear hs
  rw [hl]
  show Calls Try.prog 40 #[.agg #[.int .i64 x.size, .slice A x.wins.length c], .int .i64 k] w _
  go_enter Try.func40, Try.ntmps40
  go_wp2_with (go_at_call 21; refine (heldIntS_any A c x.wins.length k _ (HS.out.alloc _) h1 h2 h3).mono ?_; rintro e w1 ⟨rfl, hb⟩; have HB : Hid (Below w.heap.size w w1) := ((Below.refl _ w).alloc (Nat.le_refl _) _).trans (hb.mono (by simp)); clear hb)
  go_ret
  exact ⟨rfl, HB.out⟩

def console4 : TourV := ⟨4, [6, 12, 8, 1]⟩
set_option maxRecDepth 100000 in
theorem specNewConsole_any (w : World) :
    Calls Try.prog 36 #[] w fun e w' => ∃ v', e = .returned v' ∧ OwT w' w.heap.size w'.heap.size v' console4 ∧ Below w.heap.size w w' := by
  go_enter Try.func36, Try.ntmps36
  go_wp2
  have h := World.ownsRow_lit (base := w.heap.size) (e := 3) (size := 1) (w.alloc (.cells #[.int .i64 4, .slice (some ⟨w.heap.size + 1, 0, none⟩) 4 4] 36)) #[.int .i64 6, .int .i64 12, .int .i64 8, .int .i64 1] 4 (by simp) (by unfold maxLen; omega) rfl
  rw [World.size_alloc] at h
  exact bodyPost_ret (v := .agg #[.int .i64 4, .slice (some ⟨w.heap.size + 1, 0, none⟩) 4 4]) (by simp [results, Try.results36, go_sem]) rfl ⟨_, rfl, ⟨_, rfl, Fr.of_own h⟩, ((Below.refl _ w).alloc (Nat.le_refl _) _).alloc (by simp) _⟩

def ncB (a b : Nat) : Bool := (a == 3 && b == 0) || (decide (a < b) && !(a == 0 && b == 3))
set_option maxHeartbeats 2000000 in
theorem nc1_any (a b : Nat) (ha : a < 4) (hb : b < 4) (w : World) :
    Calls Try.prog 66 #[.int .i64 a, .int .i64 b] w fun e w' => e = .returned (.bool (ncB a b)) ∧ w = w' := by
  have ha' : a = 0 ∨ a = 1 ∨ a = 2 ∨ a = 3 := by omega
  have hb' : b = 0 ∨ b = 1 ∨ b = 2 ∨ b = 3 := by omega
  rcases ha' with rfl | rfl | rfl | rfl <;> rcases hb' with rfl | rfl | rfl | rfl
  all_goals
    go_enter Try.func66, Try.ntmps66
    go_wp2
    go_ret
    exact ⟨rfl, rfl⟩

def bitsTo (p : Nat) : Nat → Int
  | 0 => 0
  | b + 1 => if p ≠ b ∧ ncB p b = true then bitsTo p b + 2 ^ b else bitsTo p b
def ncT (a b : Nat) : List Int := (List.range 4).map fun p => if p < a then bitsTo p 4 else if p = a then bitsTo p b else 0
theorem ncT_roll : ∀ a, a < 4 → ncT a 4 = ncT (a + 1) 0 := by decide
theorem ncT_zero : ncT 0 0 = List.replicate 4 0 := by decide
theorem ncT_all : ncT 4 0 = [6, 12, 8, 1] := by decide
theorem ncT_skip : ∀ a, a < 4 → ∀ b, b < 4 → ¬ (a ≠ b ∧ ncB a b = true) → ncT a (b + 1) = ncT a b := by decide
theorem ncT_get : ∀ a, a < 4 → ∀ b, b < 4 → (ncT a b)[a]? = some (bitsTo a b) := by decide
theorem ncT_set : ∀ a, a < 4 → ∀ b, b < 4 → (a ≠ b ∧ ncB a b = true) → (ncT a b).set a (bitsTo a b + 2 ^ b) = ncT a (b + 1) := by decide
theorem ncT_six (a : Nat) (ha : a < 4) (b : Nat) (hb : b < 4) (h : a ≠ b ∧ ncB a b = true) : (a = 0 ∧ b = 1) ∨ (a = 0 ∧ b = 2) ∨ (a = 1 ∧ b = 2) ∨ (a = 1 ∧ b = 3) ∨ (a = 2 ∧ b = 3) ∨ (a = 3 ∧ b = 0) := by
  have ha' : a = 0 ∨ a = 1 ∨ a = 2 ∨ a = 3 := by omega
  have hb' : b = 0 ∨ b = 1 ∨ b = 2 ∨ b = 3 := by omega
  rcases ha' with rfl | rfl | rfl | rfl <;> rcases hb' with rfl | rfl | rfl | rfl <;> first | (exfalso; revert h; decide) | simp
set_option maxHeartbeats 8000000 in
set_option maxRecDepth 100000 in
theorem tourOf_console (w : World) :
    Calls Try.prog 65 #[.int .i64 4, .func (.func 66) #[] #[]] w fun e w' => ∃ v', e = .returned v' ∧ OwT w' w.heap.size w'.heap.size v' console4 ∧ Below w.heap.size w w' := by
  go_enter Try.func65, Try.ntmps65
  go_wp2_with (at_make; refine makeI rfl _ _ rfl _ 4 rfl rfl (by omega) ?_; intro w1 hfr hb hsz; simp only [World.size_alloc] at hfr hb hsz; have r0 : w1.cell? ⟨w.heap.size, 0, none⟩ = some (.int .i64 0) := (by rw [hb.cell (by simp)]; simp); have r1 : w1.cell? ⟨w.heap.size, 1, none⟩ = some (.slice none 0 0) := (by rw [hb.cell (by simp)]; simp); have r2 : w1.frozen? ⟨w.heap.size, 0, none⟩ = false := (by rw [hb.frozen (by simp)]; simp); have r3 : w1.frozen? ⟨w.heap.size, 1, none⟩ = false := (by rw [hb.frozen (by simp)]; simp); have HF := Lib.hid hfr; have HB := Lib.hid hb; clear hfr hb)
  have W2 : Hid ((Fr (w1.alloc (.cells #[.int .i64 4, .slice (some ⟨w.heap.size + 1, 0, none⟩) 4 4] 36)) (w.heap.size + 1) (w.heap.size + 2) (.slice (some ⟨w.heap.size + 1, 0, none⟩) 4 4) (ncT 0 0)) ∧ Below w.heap.size w (w1.alloc (.cells #[.int .i64 4, .slice (some ⟨w.heap.size + 1, 0, none⟩) 4 4] 36)) ∧ (w1.alloc (.cells #[.int .i64 4, .slice (some ⟨w.heap.size + 1, 0, none⟩) 4 4] 36)).heap.size = w.heap.size + 3) := by
    refine ⟨?_, (((Below.refl _ w).alloc (Nat.le_refl _) _).trans (HB.out.mono (by omega))).alloc (by omega) _, by simp [hsz]⟩
    rw [ncT_zero]
    have h := HF.out
    rw [hsz] at h
    exact h.keep ((Keep.refl (w.heap.size + 2) (w.heap.size + 2) w1).alloc _) (.inl (Nat.le_refl _))
  have C2 : Hid ((w1.alloc (.cells #[.int .i64 4, .slice (some ⟨w.heap.size + 1, 0, none⟩) 4 4] 36)).cell? ⟨w.heap.size, 0, none⟩ = some (.int .i64 0) ∧ (w1.alloc (.cells #[.int .i64 4, .slice (some ⟨w.heap.size + 1, 0, none⟩) 4 4] 36)).cell? ⟨w.heap.size, 1, none⟩ = some (.slice none 0 0) ∧
      (w1.alloc (.cells #[.int .i64 4, .slice (some ⟨w.heap.size + 1, 0, none⟩) 4 4] 36)).frozen? ⟨w.heap.size, 0, none⟩ = false ∧ (w1.alloc (.cells #[.int .i64 4, .slice (some ⟨w.heap.size + 1, 0, none⟩) 4 4] 36)).frozen? ⟨w.heap.size, 1, none⟩ = false ∧
      (w1.alloc (.cells #[.int .i64 4, .slice (some ⟨w.heap.size + 1, 0, none⟩) 4 4] 36)).cell? ⟨w1.heap.size, 0, none⟩ = some (.int .i64 4) ∧ (w1.alloc (.cells #[.int .i64 4, .slice (some ⟨w.heap.size + 1, 0, none⟩) 4 4] 36)).cell? ⟨w1.heap.size, 1, none⟩ = some (.slice (some ⟨w.heap.size + 1, 0, none⟩) 4 4)) := by
    refine ⟨?_, ?_, ?_, ?_, ?_, ?_⟩
    · rw [World.cell?_alloc_lt _ _ _ (by show w.heap.size < _; omega)]; exact r0
    · rw [World.cell?_alloc_lt _ _ _ (by show w.heap.size < _; omega)]; exact r1
    · rw [(((Below.refl w1.heap.size w1).alloc (Nat.le_refl _) _)).frozen (by show w.heap.size < _; omega)]; exact r2
    · rw [(((Below.refl w1.heap.size w1).alloc (Nat.le_refl _) _)).frozen (by show w.heap.size < _; omega)]; exact r3
    · simp
    · simp
  rw [hsz] at C2
  clear r0 r1 r2 r3 HF HB
  generalize w1.alloc (.cells #[.int .i64 4, .slice (some ⟨w.heap.size + 1, 0, none⟩) 4 4] 36) = w2 at *
  clear hsz
  go_loopw [13] (fun i wr => ∃ a : Nat, a ≤ 4 ∧ i = .int .i64 a ∧ Hid (Fr wr (w.heap.size + 1) (w.heap.size + 2) (.slice (some ⟨w.heap.size + 1, 0, none⟩) 4 4) (ncT a 0) ∧ Keep (w.heap.size + 1) (w.heap.size + 2) w2 wr)) (fun i _ => 4 - (intOf i).toNat)
  case atStart => exact ⟨0, by omega, rfl, W2.out.1, Keep.refl _ _ _⟩
  case round =>
    obtain ⟨a, ha, rfl, HR⟩ := hrel
    have hsz2 := HR.out.2.size
    have hw2 := W2.out.2.2
    have k0 : wr.cell? ⟨w.heap.size, 0, none⟩ = some (.int .i64 0) := (HR.out.2.cell (by show w.heap.size < _; omega) (.inl (by show w.heap.size < _; omega))).trans C2.out.1
    have k1 : wr.cell? ⟨w.heap.size, 1, none⟩ = some (.slice none 0 0) := (HR.out.2.cell (by show w.heap.size < _; omega) (.inl (by show w.heap.size < _; omega))).trans C2.out.2.1
    have k2 : wr.frozen? ⟨w.heap.size, 0, none⟩ = false := (HR.out.2.frozen (by show w.heap.size < _; omega) (.inl (by show w.heap.size < _; omega))).trans C2.out.2.2.1
    have k3 : wr.frozen? ⟨w.heap.size, 1, none⟩ = false := (HR.out.2.frozen (by show w.heap.size < _; omega) (.inl (by show w.heap.size < _; omega))).trans C2.out.2.2.2.1
    have k4 : wr.cell? ⟨w.heap.size + 1 + 1, 0, none⟩ = some (.int .i64 4) := (HR.out.2.cell (by show w.heap.size + 1 + 1 < _; omega) (.inr (by show _ ≤ w.heap.size + 1 + 1; omega))).trans C2.out.2.2.2.2.1
    have k5 : wr.cell? ⟨w.heap.size + 1 + 1, 1, none⟩ = some (.slice (some ⟨w.heap.size + 1, 0, none⟩) 4 4) := (HR.out.2.cell (by show w.heap.size + 1 + 1 < _; omega) (.inr (by show _ ≤ w.heap.size + 1 + 1; omega))).trans C2.out.2.2.2.2.2
    by_cases hlt : a < 4
    case neg =>
      obtain rfl : a = 4 := by omega
      have hT := HR.out.1
      rw [ncT_all] at hT
      have HT := Lib.hid hT
      clear hT
      go_wp2
      have KP : Hid (Keep w.heap.size (w.heap.size + 1) wr ((wr.setCell ⟨w.heap.size, 0, none⟩ (.int .i64 4)).setCell ⟨w.heap.size, 1, none⟩ (.slice (some ⟨w.heap.size + 1, 0, none⟩) 4 4))) :=
        ((Keep.refl _ _ _).setCell (p := ⟨w.heap.size, 0, none⟩) (Nat.le_refl _) (Nat.lt_succ_self _) _).setCell (p := ⟨w.heap.size, 1, none⟩) (Nat.le_refl _) (Nat.lt_succ_self _) _
      have B1 := W2.out.2.1.trans (HR.out.2.below (B := w.heap.size) (by omega) (by omega))
      refine bodyPost_ret (v := .agg #[.int .i64 4, .slice (some ⟨w.heap.size + 1, 0, none⟩) 4 4]) (by simp [results, Try.results65, go_sem, k0, k1]) rfl ⟨_, rfl, ⟨_, rfl, (HT.out.keep KP.out (.inr (Nat.le_refl _))).wide (by omega) (by have := KP.out.size; omega) (Nat.le_refl _)⟩, B1.trans (KP.out.below (Nat.le_refl _) B1.size)⟩
    clear k0 k1 k2 k3 k4 k5 hsz2
    obtain ⟨wo, rfl⟩ : ∃ W, W = wr := ⟨wr, rfl⟩
    have da : decide ((a : Int) < 4) = true := by simp; omega
    go_wp2
    go_loopw [17] (fun i wx => ∃ b : Nat, b ≤ 4 ∧ i = .int .i64 b ∧ Hid (Fr wx (w.heap.size + 1) (w.heap.size + 2) (.slice (some ⟨w.heap.size + 1, 0, none⟩) 4 4) (ncT a b) ∧ Keep (w.heap.size + 1) (w.heap.size + 2) w2 wx)) (fun i _ => 4 - (intOf i).toNat)
    case atStart => exact ⟨0, by omega, rfl, HR.out⟩
    case round =>
      obtain ⟨b, hb, rfl, HX⟩ := hrel
      clear HR
      by_cases hbt : b < 4
      case neg =>
        obtain rfl : b = 4 := by omega
        have hX := HX.out
        rw [ncT_roll a hlt] at hX
        have HN := Lib.hid hX
        clear hX
        go_wp2
        go_roundw
        all_goals first | exact ⟨a + 1, by omega, by go_num, HN.out⟩ | (simp [intOf]; try omega)
      have db : decide ((b : Int) < 4) = true := by simp; omega
      by_cases hs : a ≠ b ∧ ncB a b = true
      case neg =>
        have HN : Hid (Fr wr (w.heap.size + 1) (w.heap.size + 2) (.slice (some ⟨w.heap.size + 1, 0, none⟩) 4 4) (ncT a (b + 1)) ∧ Keep (w.heap.size + 1) (w.heap.size + 2) w2 wr) := by
          rw [ncT_skip a hlt b hbt hs]; exact HX.out
        by_cases hab : a = b
        · have dab : ((a : Int) != (b : Int)) = false := by simp [hab]
          clear hab hs
          go_wp2
          go_roundw
          all_goals first | exact ⟨b + 1, by omega, by go_num, HN.out⟩ | (simp [intOf]; try omega)
        · have dab : ((a : Int) != (b : Int)) = true := by simp; omega
          have hn : ncB a b = false := by
            cases h : ncB a b
            · rfl
            · exact absurd ⟨hab, h⟩ hs
          clear hab hs
          go_wp2_with (go_at_call 66; refine (nc1_any a b hlt hbt _).mono ?_; rintro e w' ⟨rfl, rfl⟩)
          go_roundw
          all_goals first | exact ⟨b + 1, by omega, by go_num, HN.out⟩ | (simp [intOf]; try omega)
      have hsz3 := HX.out.2.size
      have k4 : wr.cell? ⟨w.heap.size + 1 + 1, 0, none⟩ = some (.int .i64 4) := (HX.out.2.cell (by show w.heap.size + 1 + 1 < _; omega) (.inr (by show _ ≤ w.heap.size + 1 + 1; omega))).trans C2.out.2.2.2.2.1
      have k5 : wr.cell? ⟨w.heap.size + 1 + 1, 1, none⟩ = some (.slice (some ⟨w.heap.size + 1, 0, none⟩) 4 4) := (HX.out.2.cell (by show w.heap.size + 1 + 1 < _; omega) (.inr (by show _ ≤ w.heap.size + 1 + 1; omega))).trans C2.out.2.2.2.2.2
      obtain ⟨g, s0, hg, -, -, hs0, hc0, hf0, hst⟩ := HX.out.1.at_ (k := a) (by rw [show (ncT a b).length = 4 from rfl]; exact hlt)
      obtain rfl : w.heap.size + 1 = g := congrArg Addr.block (Option.some.inj hg)
      rw [ncT_get a hlt b hbt] at hs0
      injection hs0 with hs0
      have hst2 := hst (bitsTo a b + 2 ^ b)
      rw [ncT_set a hlt b hbt hs] at hst2
      have HST := Lib.hid (And.intro hst2.1 (HX.out.2.trans hst2.2))
      rw [← hs0] at hc0
      have hab := ncT_six a hlt b hbt hs
      clear hst hst2 hg hs0 HX hs
      rcases hab with ⟨rfl, rfl⟩ | ⟨rfl, rfl⟩ | ⟨rfl, rfl⟩ | ⟨rfl, rfl⟩ | ⟨rfl, rfl⟩ | ⟨rfl, rfl⟩
      · rw [show bitsTo 0 1 = 0 from by decide] at hc0 HST
        rw [show (0 : Int) + 2 ^ 1 = bits BinOp.or IntKind.i64 0 2 from by decide] at HST
        go_wp2_with (go_at_call 66; refine (nc1_any 0 1 (by omega) (by omega) _).mono ?_; rintro e w' ⟨rfl, rfl⟩; rw [show ncB 0 1 = true from rfl])
        go_region
        all_goals go_wp2
        all_goals go_roundw
        all_goals first | exact ⟨2, by omega, by go_num, HST.out.1, HST.out.2.drewN 1⟩ | ((repeat (apply Exists.intro)); refine ⟨?_, rfl⟩; exact ⟨2, by omega, rfl, HST.out.1, HST.out.2.drewN 1⟩) | (simp [intOf]; try omega)
      · rw [show bitsTo 0 2 = 2 from by decide] at hc0 HST
        rw [show (2 : Int) + 2 ^ 2 = bits BinOp.or IntKind.i64 2 4 from by decide] at HST
        go_wp2_with (go_at_call 66; refine (nc1_any 0 2 (by omega) (by omega) _).mono ?_; rintro e w' ⟨rfl, rfl⟩; rw [show ncB 0 2 = true from rfl])
        go_region
        all_goals go_wp2
        all_goals go_roundw
        all_goals first | exact ⟨3, by omega, by go_num, HST.out.1, HST.out.2.drewN 1⟩ | ((repeat (apply Exists.intro)); refine ⟨?_, rfl⟩; exact ⟨3, by omega, rfl, HST.out.1, HST.out.2.drewN 1⟩) | (simp [intOf]; try omega)
      · rw [show bitsTo 1 2 = 0 from by decide] at hc0 HST
        rw [show (0 : Int) + 2 ^ 2 = bits BinOp.or IntKind.i64 0 4 from by decide] at HST
        go_wp2_with (go_at_call 66; refine (nc1_any 1 2 (by omega) (by omega) _).mono ?_; rintro e w' ⟨rfl, rfl⟩; rw [show ncB 1 2 = true from rfl])
        go_region
        all_goals go_wp2
        all_goals go_roundw
        all_goals first | exact ⟨3, by omega, by go_num, HST.out.1, HST.out.2.drewN 1⟩ | ((repeat (apply Exists.intro)); refine ⟨?_, rfl⟩; exact ⟨3, by omega, rfl, HST.out.1, HST.out.2.drewN 1⟩) | (simp [intOf]; try omega)
      · rw [show bitsTo 1 3 = 4 from by decide] at hc0 HST
        rw [show (4 : Int) + 2 ^ 3 = bits BinOp.or IntKind.i64 4 8 from by decide] at HST
        go_wp2_with (go_at_call 66; refine (nc1_any 1 3 (by omega) (by omega) _).mono ?_; rintro e w' ⟨rfl, rfl⟩; rw [show ncB 1 3 = true from rfl])
        go_region
        all_goals go_wp2
        all_goals go_roundw
        all_goals first | exact ⟨4, by omega, by go_num, HST.out.1, HST.out.2.drewN 1⟩ | ((repeat (apply Exists.intro)); refine ⟨?_, rfl⟩; exact ⟨4, by omega, rfl, HST.out.1, HST.out.2.drewN 1⟩) | (simp [intOf]; try omega)
      · rw [show bitsTo 2 3 = 0 from by decide] at hc0 HST
        rw [show (0 : Int) + 2 ^ 3 = bits BinOp.or IntKind.i64 0 8 from by decide] at HST
        go_wp2_with (go_at_call 66; refine (nc1_any 2 3 (by omega) (by omega) _).mono ?_; rintro e w' ⟨rfl, rfl⟩; rw [show ncB 2 3 = true from rfl])
        go_region
        all_goals go_wp2
        all_goals go_roundw
        all_goals first | exact ⟨4, by omega, by go_num, HST.out.1, HST.out.2.drewN 1⟩ | ((repeat (apply Exists.intro)); refine ⟨?_, rfl⟩; exact ⟨4, by omega, rfl, HST.out.1, HST.out.2.drewN 1⟩) | (simp [intOf]; try omega)
      · rw [show bitsTo 3 0 = 0 from by decide] at hc0 HST
        rw [show (0 : Int) + 2 ^ 0 = bits BinOp.or IntKind.i64 0 1 from by decide] at HST
        go_wp2_with (go_at_call 66; refine (nc1_any 3 0 (by omega) (by omega) _).mono ?_; rintro e w' ⟨rfl, rfl⟩; rw [show ncB 3 0 = true from rfl])
        go_region
        all_goals go_wp2
        all_goals go_roundw
        all_goals first | exact ⟨1, by omega, by go_num, HST.out.1, HST.out.2.drewN 1⟩ | ((repeat (apply Exists.intro)); refine ⟨?_, rfl⟩; exact ⟨1, by omega, rfl, HST.out.1, HST.out.2.drewN 1⟩) | (simp [intOf]; try omega)

set_option maxRecDepth 100000 in
theorem implNewConsole_any (w : World) :
    Calls Try.prog 37 #[] w fun e w' => ∃ v', e = .returned v' ∧ OwT w' w.heap.size w'.heap.size v' console4 ∧ Below w.heap.size w w' := by
  go_enter Try.func37, Try.ntmps37
  go_wp2_with (go_at_call 65; refine (tourOf_console _).mono ?_; rintro e w1 ⟨v1, rfl, ho, hb⟩; simp only [World.size_alloc] at ho hb; obtain ⟨A1, c1, rfl⟩ := ho.form; have r0 : w1.cell? ⟨w.heap.size, 0, none⟩ = some (.int .i64 0) := (by rw [hb.cell (by simp)]; simp); have r1 : w1.cell? ⟨w.heap.size, 1, none⟩ = some (.slice none 0 0) := (by rw [hb.cell (by simp)]; simp); have r2 : w1.frozen? ⟨w.heap.size, 0, none⟩ = false := (by rw [hb.frozen (by simp)]; simp); have r3 : w1.frozen? ⟨w.heap.size, 1, none⟩ = false := (by rw [hb.frozen (by simp)]; simp); have HO := Lib.hid (And.intro ho hb); clear ho hb)
  have KP : Hid (Keep w.heap.size (w.heap.size + 1) w1 ((w1.setCell ⟨w.heap.size, 0, none⟩ (.int .i64 console4.size)).setCell ⟨w.heap.size, 1, none⟩ (.slice A1 console4.wins.length c1))) :=
    ((Keep.refl _ _ _).setCell (p := ⟨w.heap.size, 0, none⟩) (Nat.le_refl _) (Nat.lt_succ_self _) _).setCell (p := ⟨w.heap.size, 1, none⟩) (Nat.le_refl _) (Nat.lt_succ_self _) _
  have B1 : Below w.heap.size w w1 := ((Below.refl _ w).alloc (Nat.le_refl _) _).trans (HO.out.2.mono (by omega))
  refine bodyPost_ret (v := .agg #[.int .i64 console4.size, .slice A1 console4.wins.length c1]) (by simp [results, Try.results37, go_sem, r0, r1]) rfl ⟨_, rfl, ?_, B1.trans (KP.out.below (Nat.le_refl _) B1.size)⟩
  obtain ⟨u, he, hf⟩ := HO.out.1.keep KP.out (.inr (Nat.le_refl _))
  exact ⟨u, he, hf.wide (by omega) KP.out.size (Nat.le_refl _)⟩
end Go.Proofs.Ytlonfaclncnhdaa
