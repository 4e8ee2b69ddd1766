/- Whom a player reaches: both packages' contracts. -/
import Derived.Test.YtoppjohbmalhnaaDoorRcp
import Derived.Test.YtoppjohbmalhnaaDoorMo
namespace Go.Proofs.YtoppjohbmalhnaaDoor
open Go.ChangeShapes Go.WideShapes Go.ChangeAt Go.RowKit

theorem or_small {a b : Nat} (ha : a < 256) (hb : b < 256) : bits BinOp.or IntKind.i64 (a : Int) (b : Int) = ((a ||| b : Nat) : Int) := (bits_nat .i64 8 (by decide) i64_small a b ha hb).2
/-- The wins of a valid tour, cell by cell. -/
theorem win_cells {w : World} {A : Option Addr} {x : TourV} (hok : tourB x = true) (hs : SlI w A x.wins) : ∃ bk off, A = some ⟨bk, off, none⟩ ∧ bk < w.heap.size ∧ ∀ b, b < x.wins.length → w.cell? ⟨bk, off + b, none⟩ = some (.int .i64 (winN x b : Nat)) := by
  obtain ⟨t1, t2, t3, _, _⟩ := tourB_t hok
  obtain ⟨bk, off, rfl, _, hlt, _, _⟩ := win_at hok hs (show 0 < x.wins.length by omega)
  refine ⟨bk, off, rfl, hlt, fun b hb => ?_⟩
  obtain ⟨b', o', e, c1, _⟩ := win_at hok hs hb
  injection e with e
  injection e with e1 e2
  subst e1; subst e2
  exact c1
theorem Bx.under {w w' : World} {b B : Nat} {x y : Value} (h : Bx w b x y) (hb : Below B w w') (hB : b < B) : Bx w' b x y :=
  ⟨(hb.cell (p := ⟨b, 0, none⟩) hB).trans h.1, (hb.cell (p := ⟨b, 1, none⟩) hB).trans h.2.1, Nat.lt_of_lt_of_le h.2.2 hb.size⟩
theorem pow_wrap8 : ∀ k : Fin 8, wrap64 ((2 : Int) ^ k.val) = ((2 ^ k.val : Nat) : Int) := by decide +kernel
theorem pow_lt8 {a : Nat} (h : a < 8) : wrap64 ((2 : Int) ^ a) = ((2 ^ a : Nat) : Int) := pow_wrap8 ⟨a, h⟩

def orM (x : TourV) (s : Nat) (l : List Int) : Nat := l.foldl (fun (acc : Nat) (b : Int) => acc ||| winN x b.toNat) s
theorem orM_lt {x : TourV} {n : Nat} (hw : ∀ b, winN x b < 2 ^ n) : ∀ (l : List Int) (s : Nat), s < 2 ^ n → orM x s l < 2 ^ n := by
  intro l
  induction l with
  | nil => intro s h; exact h
  | cons y l ih => intro s h; exact ih _ (Nat.or_lt_two_pow h (hw _))
theorem orM_snoc {x : TourV} {s j : Nat} {l : List Int} {y : Int} (h : l[j]? = some y) : orM x s (l.take (j + 1)) = orM x s (l.take j) ||| winN x y.toNat := by
  rw [take_snoc h, orM, List.foldl_append]; rfl

set_option maxHeartbeats 4000000 in
set_option maxRecDepth 100000 in
theorem implReach_any (v : Value) (x : TourV) (a : Nat) (w : World) (hs : InT w v x) (hok : tourB x = true) (ha : a < x.wins.length) :
    Calls Tryd.prog 55 #[v, .int .i64 (a : Int)] w fun e w' => e = .returned (.int .i64 (reachF x a : Nat)) ∧ Below w.heap.size w w' := by
  have HOK := Lib.hid hok
  obtain ⟨u, rfl, A, c, rfl, hc, hm, hsl⟩ := hs
  obtain ⟨t1, t2, t3, _, _⟩ := tourB_t hok
  have hn8 : x.wins.length ≤ 8 := by omega
  obtain ⟨bk, off, rfl, hlt, hcell⟩ := win_cells hok hsl
  have HC := Lib.hid (And.intro hlt hcell)
  have hwn := win_all hok
  have h256 : (2 : Nat) ^ x.wins.length ≤ 256 := Nat.pow_le_pow_right (by omega) hn8
  have HW : Hid (∀ b, winN x b < 2 ^ x.wins.length) := hwn
  have HN : Hid ((2 : Nat) ^ x.wins.length ≤ 256) := h256
  have HP : Hid (2 ^ a < 2 ^ x.wins.length) := Nat.pow_lt_pow_right (by omega) ha
  have hsh := pow_lt8 (a := a) (by omega)
  have ha64 : (a : Int) < 64 := by omega
  obtain ⟨Q, HQ⟩ : ∃ Q : Nat, Hid (2 ^ a = Q) := ⟨_, rfl⟩
  rw [HQ.out] at hsh
  have HR0 : Hid (Q < 2 ^ x.wins.length ∧ 256 ≤ Q + 256 ∧ reachT x 256 Q = reachF x a) := ⟨by rw [← HQ.out]; exact HP.out, Nat.le_add_left _ _, by rw [← HQ.out]; rfl⟩
  have HBX : Hid (Bx (w.alloc (.cells #[.int .i64 x.size, .slice (some ⟨bk, off, none⟩) x.wins.length c] 27)) w.heap.size (.int .i64 x.size) (.slice (some ⟨bk, off, none⟩) x.wins.length c) ∧ Below w.heap.size w (w.alloc (.cells #[.int .i64 x.size, .slice (some ⟨bk, off, none⟩) x.wins.length c] 27))) := ⟨⟨by simp, by simp, by simp⟩, (Below.refl _ w).alloc (Nat.le_refl _) _⟩
  clear hsl hok hcell hwn h256 t1 t2 t3 hm hlt
  go_enter Tryd.func55, Tryd.ntmps55
  go_wp2
  go_loopw [5] (fun v wr => ∃ (s f : Nat), v = .int .i64 (s : Int) ∧ Hid (s < 2 ^ x.wins.length ∧ 256 ≤ s + f ∧ reachT x f s = reachF x a) ∧ Hid (Bx wr w.heap.size (.int .i64 x.size) (.slice (some ⟨bk, off, none⟩) x.wins.length c) ∧ Below w.heap.size w wr)) (fun v _ => 256 - (intOf v).toNat)
  case atStart => exact ⟨Q, 256, by rw [hsh], HR0.out, HBX.out⟩
  case round =>
    obtain ⟨s, f, rfl, HR, HB⟩ := hrel
    obtain ⟨wo, rfl⟩ : ∃ W, W = wr := ⟨wr, rfl⟩
    clear HR0 hsh HBX
    have hs256 : s < 256 := Nat.lt_of_lt_of_le HR.out.1 HN.out
    go_wp2_with (go_at_call 19; refine (membersOf_any s _ hs256).mono ?_; rintro e w3 ⟨v3, rfl, hf, hb⟩; have H3 : Hid (Bx w3 w.heap.size (.int .i64 x.size) (.slice (some ⟨bk, off, none⟩) x.wins.length c) ∧ Below w.heap.size w w3 ∧ InI w3 v3 (memL s)) := ⟨HB.out.1.below hb, HB.out.2.trans (hb.mono HB.out.2.size), hf.in_⟩; obtain ⟨A3, c3, rfl, -⟩ := hf.in_; clear hb hf HB)
    go_loop [6, 15] (fun g i => ∃ (j : Nat), j ≤ (memL s).length ∧ i = .int .i64 j ∧ g = .int .i64 (orM x s ((memL s).take j) : Nat)) (fun _ i => (memL s).length - (intOf i).toNat)
    case atStart => exact ⟨0, Nat.zero_le _, rfl, rfl⟩
    case round =>
      obtain ⟨j, hj, rfl, rfl⟩ := hrel
      have HO : Hid (orM x s ((memL s).take j) < 2 ^ x.wins.length) := orM_lt HW.out _ _ HR.out.1
      have ho256 : orM x s ((memL s).take j) < 256 := Nat.lt_of_lt_of_le HO.out HN.out
      have hjm : (memL s).length ≤ 8 := by rw [memL_len]; exact cntL_le _
      by_cases hlt2 : j < (memL s).length
      case pos =>
        obtain ⟨A4, c4, e4, _, _, hsl4⟩ := H3.out.2.2
        injection e4 with e4 _ e5; subst e4; subst e5
        obtain ⟨b3, o3, y, rfl, ey, qy, _⟩ := hsl4.at_ (k := j) hlt2
        obtain ⟨b, rfl, hb8, hbit⟩ := memT_mem.1 (List.mem_of_getElem? ey)
        have hbn : b < x.wins.length := bit_in HR.out.1 hbit
        have HX := Lib.hid (orM_snoc (x := x) (s := s) ey)
        rw [Int.toNat_natCast] at HX
        have hbl : (b : Int) < x.wins.length := by omega
        have q : w3.cell? ⟨bk, off + b, none⟩ = some (.int .i64 (winN x b : Nat)) := (H3.out.2.1.cell (p := ⟨bk, off + b, none⟩) HC.out.1).trans (HC.out.2 b hbn)
        have hw256 : winN x b < 256 := Nat.lt_of_lt_of_le (HW.out b) HN.out
        have hor := or_small ho256 hw256
        obtain ⟨q0, q1, -⟩ := id H3.out.1
        clear hsl4 ey hbit
        generalize orM x s ((memL s).take j) = G at *
        generalize winN x b = WB at *
        go_wp2
        exact ⟨⟨j + 1, by omega, by go_num, by rw [HX.out]⟩, by simp [intOf]; omega⟩
      case neg =>
        obtain rfl : j = (memL s).length := by omega
        have HS : Hid (orM x s ((memL s).take (memL s).length) = stepR x s) := by show _ = _; rw [List.take_length]; exact orT_mem x s 8
        rw [HS.out] at ho256 HO ⊢
        obtain ⟨S, HSe⟩ : ∃ S, Hid (stepR x s = S) := ⟨_, rfl⟩
        rw [HSe.out] at ho256 HO ⊢
        by_cases he : S = s
        · have HE : Hid (s = reachF x a) := by
            show _ = _
            rw [← HR.out.2.2, reach_fix]
            rw [HSe.out, he]
          subst he
          go_wp2
          go_ret
          exact ⟨by rw [← HE.out]; rfl, H3.out.2.1⟩
        · have hgr : s < S := by
            have := step_grow (x := x) (s := s) (by rw [HSe.out]; exact he)
            rwa [HSe.out] at this
          have hsf := HR.out.2.1
          obtain ⟨f', rfl⟩ : ∃ f', f = f' + 1 := ⟨f - 1, by omega⟩
          have HN2 : Hid (S < 2 ^ x.wins.length ∧ 256 ≤ S + f' ∧ reachT x f' S = reachF x a) := ⟨HO.out, by omega, by rw [← HR.out.2.2, reachT, HSe.out]⟩
          go_wp2
          go_roundw
          case rel => exact ⟨S, f', rfl, HN2.out, H3.out.1, H3.out.2.1⟩
          case measure => simp [intOf]; omega
end Go.Proofs.YtoppjohbmalhnaaDoor
