/- Orders with few reversals: the spec's table. -/
import Derived.Test.YtkcaemdgabjggaaDoorOlt
import Derived.Test.YtkcaemdgabjggaaDoorApa
namespace Go.Proofs.YtkcaemdgabjggaaDoor
open Go.ChangeShapes Go.WideShapes Go.ChangeAt Go.RowKit

def fsts (x : TourV) (s : Nat) : List Int := (tabF x s).map (·.1)
def snds (x : TourV) (s : Nat) : List Int := (tabF x s).map (·.2)
theorem fsts_len (x : TourV) (s : Nat) : (fsts x s).length = s := by rw [fsts, List.length_map, tabF_len]
theorem snds_len (x : TourV) (s : Nat) : (snds x s).length = s := by rw [snds, List.length_map, tabF_len]
theorem fsts_succ (x : TourV) (s : Nat) : fsts x (s + 1) = fsts x s ++ [(entF x (tabF x s) s).1] := by simp [fsts, tabF]
theorem snds_succ (x : TourV) (s : Nat) : snds x (s + 1) = snds x s ++ [(entF x (tabF x s) s).2] := by simp [snds, tabF]
theorem fsts_at {x : TourV} {t s : Nat} (h : t < s) : (fsts x s)[t]? = some ((tabF x s).getD t (0, 0)).1 := by
  rw [fsts, List.getElem?_map, List.getD_eq_getElem?_getD, tabF_at x h]; rfl
theorem snds_at {x : TourV} {t s : Nat} (h : t < s) : (snds x s)[t]? = some ((tabF x s).getD t (0, 0)).2 := by
  rw [snds, List.getElem?_map, List.getD_eq_getElem?_getD, tabF_at x h]; rfl
theorem tab_one (x : TourV) : fsts x 1 = [0] ∧ snds x 1 = [1] := ⟨rfl, rfl⟩
theorem bit_ge' {s n a : Nat} (hs : s < 2 ^ n) (ha : n ≤ a) : s.testBit a = false := Nat.testBit_lt_two_pow (Nat.lt_of_lt_of_le hs (Nat.pow_le_pow_right (by omega) ha))

/-- The loop over the sets. -/
structure TbAt (w wr : World) (x : TourV) (A : Option Addr) (c s : Nat) (vb vw : Value) : Prop where
  two : Two wr (w.heap.size + 1) vb vw (fsts x s) (snds x s)
  bx : Bx wr w.heap.size (.int .i64 x.size) (.slice A x.wins.length c)
  be : Below w.heap.size w wr
  sz : w.heap.size + 1 ≤ wr.heap.size
theorem TbAt.below {w wr w2 : World} {x : TourV} {A : Option Addr} {c s : Nat} {vb vw : Value} (h : TbAt w wr x A c s vb vw) (hb : Below wr.heap.size wr w2) : TbAt w w2 x A c s vb vw :=
  ⟨h.two.below hb, h.bx.below hb, h.be.trans (hb.mono h.be.size), Nat.le_trans h.sz hb.size⟩
theorem tbStart {w : World} {x : TourV} {A : Option Addr} {c : Nat} : TbAt w (((w.alloc (.cells #[.int .i64 x.size, .slice A x.wins.length c] 27)).alloc (.cells #[.int .i64 0] 3)).alloc (.cells #[.int .i64 1] 3)) x A c 1 (.slice (some ⟨w.heap.size + 1, 0, none⟩) 1 1) (.slice (some ⟨w.heap.size + 1 + 1, 0, none⟩) 1 1) := by
  obtain ⟨W1, h1⟩ : ∃ W, W = w.alloc (.cells #[.int .i64 x.size, .slice A x.wins.length c] 27) := ⟨_, rfl⟩
  have z1 : W1.heap.size = w.heap.size + 1 := by rw [h1]; exact World.size_alloc _ _
  have b1 : Below w.heap.size w W1 := by rw [h1]; exact (Below.refl _ w).alloc (Nat.le_refl _) _
  have x1 : Bx W1 w.heap.size (.int .i64 x.size) (.slice A x.wins.length c) := by rw [h1]; exact ⟨by simp, by simp, by simp⟩
  rw [← h1]
  clear h1
  obtain ⟨W2, h2⟩ : ∃ W, W = W1.alloc (.cells #[.int .i64 0] 3) := ⟨_, rfl⟩
  have z2 : W2.heap.size = w.heap.size + 1 + 1 := by rw [h2, World.size_alloc, z1]
  have b2 : Below W1.heap.size W1 W2 := by rw [h2]; exact (Below.refl _ W1).alloc (Nat.le_refl _) _
  have f2 : W2.ownsRow (w.heap.size + 1) 3 1 (.slice (some ⟨w.heap.size + 1, 0, none⟩) 1 1) 1 (ints [0]) := by
    have h := World.ownsRow_lit (base := w.heap.size + 1) (e := 3) (size := 1) W1 #[.int .i64 0] 1 (by omega) (by unfold maxLen; omega) rfl
    rw [← h2, z1] at h; exact h
  rw [← h2]
  clear h2
  obtain ⟨W3, h3⟩ : ∃ W, W = W2.alloc (.cells #[.int .i64 1] 3) := ⟨_, rfl⟩
  have z3 : W3.heap.size = w.heap.size + 1 + 1 + 1 := by rw [h3, World.size_alloc, z2]
  have b3 : Below W2.heap.size W2 W3 := by rw [h3]; exact (Below.refl _ W2).alloc (Nat.le_refl _) _
  have f3 : W3.ownsRow (w.heap.size + 1) 3 1 (.slice (some ⟨w.heap.size + 1 + 1, 0, none⟩) 1 1) 1 (ints [1]) := by
    have h := World.ownsRow_lit (base := w.heap.size + 1) (e := 3) (size := 1) W2 #[.int .i64 1] 1 (by omega) (by unfold maxLen; omega) rfl
    rw [← h3, z2] at h; exact h
  rw [← h3]
  clear h3
  refine ⟨⟨?_, ?_, ?_⟩, (x1.below b2).below b3, b1.trans ((b2.trans (b3.mono b2.size)).mono b1.size), by omega⟩
  · exact ((Fr.of_own (xs := [0]) f2).grow b3).wide (Nat.le_refl _) b3.size (Nat.le_refl _)
  · exact Fr.of_own (xs := [1]) f3
  · intro g hg hw
    simp only [Value.ownBlock, Option.some.injEq] at hg hw
    omega
/-- What one player of a set brings to its entry. -/
structure InF (x : TourV) (s j : Nat) (p : Int × Int) (a Q L M C : Nat) (K z z' : Int) : Prop where
  a8 : a < 8
  an : a < x.wins.length
  ls : L < s
  hL : Hid (s - 2 ^ a = L)
  hQ : Hid ((2 : Int) ^ a = (Q : Int))
  e1 : Hid (wrap64 ((2 : Int) ^ a) = (Q : Int))
  Q8 : Q ≤ 256
  eL : (s : Int) - (Q : Int) = (L : Int)
  w8 : winN x a < 256
  hM : Hid (bits BinOp.andNot IntKind.i64 (L : Int) (winN x a : Int) = (M : Int))
  M8 : M < 256
  hC : Hid (cntL M = C)
  hN : Hid (costN x a s = C)
  ez : (fsts x s)[L]? = some z
  ez' : (snds x s)[L]? = some z'
  z0 : 0 ≤ z
  z1 : z ≤ 64
  z2 : 0 ≤ z'
  z3 : z' ≤ 16777216
  hK : Hid (IntKind.i64.wrap (z + (C : Int)) = K)
  hK' : Hid (IntKind.i64.wrap ((C : Int) + z) = K)
  K0 : 0 ≤ K
  K1 : K ≤ 72
  C8 : C ≤ 8
  fo : Hid (((memL s).take (j + 1)).foldl (stepM x (tabF x s) s) (-1, 0) = stepC p K z')
  hp : (p.1 = -1 ∧ p.2 = 0) ∨ (0 ≤ p.1 ∧ p.1 ≤ 72 ∧ 0 ≤ p.2 ∧ p.2 ≤ (j : Int) * 16777216)
theorem inFacts {x : TourV} {s j : Nat} {p : Int × Int} {y : Int} (hok : tourB x = true) (hs256 : s < 256) (hsp : s < 2 ^ x.wins.length) (hj : j < (memL s).length)
    (ey : (memL s)[j]? = some y) (HP : p = ((memL s).take j).foldl (stepM x (tabF x s) s) (-1, 0)) {w : World} {A : Option Addr} (hsl : SlI w A x.wins) :
    ∃ (a Q L M C : Nat) (K z z' : Int), y = (a : Int) ∧ InF x s j p a Q L M C K z z' := by
  have hj8 : (memL s).length ≤ 8 := by rw [memL_len]; exact cntL_le _
  obtain ⟨a, rfl, ha8, hba⟩ := memT_mem.1 (List.mem_of_getElem? ey)
  have hfb := fold_bd (x := x) hs256 j (by omega)
  rw [← HP] at hfb
  have HSN := fold_snoc (x := x) (l := tabF x s) (s := s) ey
  have han : a < x.wins.length := by
    rcases Nat.lt_or_ge a x.wins.length with h | h
    · exact h
    · rw [bit_ge' hsp h] at hba; cases hba
  have hle : 2 ^ a ≤ s := (sub_all ⟨s, hs256⟩ ⟨a, ha8⟩ hba).1
  have hq0 : 0 < 2 ^ a := Nat.pow_pos (by omega)
  obtain ⟨b5, o5, rfl, qw0, hlw, hW2, hWb⟩ := win_at hok hsl han
  have hlt4 : s - 2 ^ a < s := by omega
  have ez := fsts_at (x := x) hlt4
  have ez' := snds_at (x := x) hlt4
  have hCE := cost_eq hok han hsp hba hW2 hWb
  have hn8 : x.wins.length ≤ 8 := by obtain ⟨t1, t2, t3, _, _⟩ := tourB_t hok; omega
  have hW256 : winN x a < 256 := Nat.lt_of_lt_of_le hW2 (Nat.pow_le_pow_right (by omega) hn8)
  have hent := entF_ok x (s - 2 ^ a) (by omega)
  have hgd : (tabF x s).getD (s - 2 ^ a) (0, 0) = entF x (tabF x (s - 2 ^ a)) (s - 2 ^ a) := by rw [List.getD_eq_getElem?_getD, tabF_at x hlt4]; rfl
  have hstep : stepM x (tabF x s) s p (a : Int) = stepC p ((costN x a s : Int) + ((tabF x s).getD (s - 2 ^ a) (0, 0)).1) ((tabF x s).getD (s - 2 ^ a) (0, 0)).2 := by rw [stepM, Int.toNat_natCast]
  have hz0 := hent.lo
  have hz1 := hent.hi
  have hz2 := hent.w0
  have hz3 : (entF x (tabF x (s - 2 ^ a)) (s - 2 ^ a)).2 ≤ 16777216 := by
    have h1 : ∀ c : Fin 9, (8 : Int) ^ c.val ≤ 16777216 := by decide
    exact Int.le_trans hent.w1 (h1 ⟨cntL (s - 2 ^ a), Nat.lt_succ_of_le (cntL_le _)⟩)
  have hcl := cntL_le (s - 2 ^ a)
  have hcn := costN_le x a s
  rw [← hgd] at hz0 hz1 hz2 hz3
  rw [← HP, hstep] at HSN
  have hM256 : (s - 2 ^ a) &&& (255 ^^^ winN x a) < 256 := Nat.lt_of_le_of_lt Nat.and_le_left (by omega)
  have hM := andNot_small (s := s - 2 ^ a) (w := winN x a) (by omega) hW256
  have hQ2 : (2 : Int) ^ a = ((2 ^ a : Nat) : Int) := by rw [Int.natCast_pow]; rfl
  generalize ((tabF x s).getD (s - 2 ^ a) (0, 0)).1 = z at *
  generalize ((tabF x s).getD (s - 2 ^ a) (0, 0)).2 = z' at *
  generalize (s - 2 ^ a) &&& (255 ^^^ winN x a) = M at *
  obtain ⟨C, hCo⟩ : ∃ C, costN x a s = C := ⟨_, rfl⟩
  rw [hCo] at hCE hcn HSN
  have hzz : z ≤ 64 := by omega
  have hC8 : C ≤ 8 := hcn
  clear hent hgd hstep hcl hz1 qw0 hsl hWb hW2
  have hE1 : wrap64 ((2 : Int) ^ a) = ((2 ^ a : Nat) : Int) := by
    rw [hQ2]
    clear hM hQ2
    generalize 2 ^ a = Q at *
    unfold wrap64; omega
  have hK : IntKind.i64.wrap (z + (C : Int)) = z + C := by clear hM hE1 hQ2; rw [IntKind.wrap_i64]; omega
  have HM := Lib.hid hM
  have HQ2 := Lib.hid hQ2
  have HE1 := Lib.hid hE1
  have HK := Lib.hid hK
  clear hM hQ2 hE1 hK
  have hQ8 : 2 ^ a ≤ 256 := by omega
  have heL : (s : Int) - ((2 ^ a : Nat) : Int) = ((s - 2 ^ a : Nat) : Int) := by clear hfb hcn; omega
  have hK0 : 0 ≤ z + (C : Int) := by omega
  have hK1 : z + (C : Int) ≤ 72 := by omega
  refine ⟨a, 2 ^ a, s - 2 ^ a, M, C, z + C, z, z', rfl, ha8, han, hlt4, Lib.hid rfl, HQ2, HE1, hQ8, heL, hW256, HM, hM256, Lib.hid hCE, Lib.hid hCo, ez, ez', hz0, hzz, hz2, hz3, HK, ?_, hK0, hK1, hC8, ?_, ?_⟩
  · show Hid _
    rw [Int.add_comm]; exact HK
  · show Hid _
    rw [Int.add_comm]; exact Lib.hid HSN
  · rcases hfb with h | h
    · rw [h]; exact .inl ⟨rfl, rfl⟩
    · exact .inr h
/-- The tables with the row of the fewest ahead by one set. -/
structure TbMid (w wr : World) (x : TourV) (A : Option Addr) (c s : Nat) (vb vw : Value) : Prop where
  two : Two wr (w.heap.size + 1) vb vw (fsts x (s + 1)) (snds x s)
  bx : Bx wr w.heap.size (.int .i64 x.size) (.slice A x.wins.length c)
  be : Below w.heap.size w wr
  sz : w.heap.size + 1 ≤ wr.heap.size
theorem tbLeft {w wr w2 : World} {x : TourV} {A : Option Addr} {c s : Nat} {vb vb' vw : Value} {p1 : Int} (h : TbAt w wr x A c s vb vw) (e : fsts x (s + 1) = fsts x s ++ [p1])
    (hown : w2.ownsRow (w.heap.size + 1) 3 1 vb' (s + 1) (ints (fsts x s ++ [p1]))) (hb : ∀ B, B ≤ w.heap.size + 1 → B ≤ wr.heap.size → Below B wr w2)
    (hg : wr.grownBy w2 vb.ownBlock) (hat : vb'.ownBlock = vb.ownBlock ∨ vb'.ownBlock = some (wr.heap.size + 1)) : TbMid w w2 x A c s vb' vw := by
  have hB := hb _ (Nat.le_refl _) h.sz
  refine ⟨by rw [e]; exact h.two.left (by rw [fsts_len]; exact hown) hg hat, ?_, h.be.trans (hB.mono (Nat.le_succ _)), Nat.le_trans h.sz hB.size⟩
  exact ⟨(hB.cell (p := ⟨w.heap.size, 0, none⟩) (Nat.lt_succ_self _)).trans h.bx.1, (hB.cell (p := ⟨w.heap.size, 1, none⟩) (Nat.lt_succ_self _)).trans h.bx.2.1, Nat.lt_of_lt_of_le h.bx.2.2 hB.size⟩
theorem tbRight {w wr w2 : World} {x : TourV} {A : Option Addr} {c s : Nat} {vb vw vw' : Value} {p2 : Int} (h : TbMid w wr x A c s vb vw) (e : snds x (s + 1) = snds x s ++ [p2])
    (hown : w2.ownsRow (w.heap.size + 1) 3 1 vw' (s + 1) (ints (snds x s ++ [p2]))) (hb : ∀ B, B ≤ w.heap.size + 1 → B ≤ wr.heap.size → Below B wr w2)
    (hg : wr.grownBy w2 vw.ownBlock) (hat : vw'.ownBlock = vw.ownBlock ∨ vw'.ownBlock = some (wr.heap.size + 1)) : TbAt w w2 x A c (s + 1) vb vw' := by
  have hB := hb _ (Nat.le_refl _) h.sz
  refine ⟨by rw [e]; exact h.two.right (by rw [snds_len]; exact hown) hg hat, ?_, h.be.trans (hB.mono (Nat.le_succ _)), Nat.le_trans h.sz hB.size⟩
  exact ⟨(hB.cell (p := ⟨w.heap.size, 0, none⟩) (Nat.lt_succ_self _)).trans h.bx.1, (hB.cell (p := ⟨w.heap.size, 1, none⟩) (Nat.lt_succ_self _)).trans h.bx.2.1, Nat.lt_of_lt_of_le h.bx.2.2 hB.size⟩
set_option maxHeartbeats 4000000 in
set_option maxRecDepth 100000 in
theorem l08Table_any (v : Value) (x : TourV) (w : World) (hs : InT w v x) (hok : tourB x = true) :
    Calls Tryd.prog 24 #[v] w fun e w' => ∃ vb vw, e = .returned (.tuple #[vb, vw]) ∧ InI w' vb (fsts x (2 ^ x.wins.length)) ∧ Below w.heap.size w w' := by
  have HIT := Lib.hid hs
  have HOK := Lib.hid hok
  obtain ⟨u, rfl, A, c, rfl, hc, hm, hsl⟩ := hs
  obtain ⟨t1, t2, t3, _, _⟩ := tourB_t hok
  have hn8 : x.wins.length ≤ 8 := by omega
  have h256 : (2 : Nat) ^ x.wins.length ≤ 256 := Nat.pow_le_pow_right (by omega) hn8
  have hpos : 1 ≤ (2 : Nat) ^ x.wins.length := Nat.one_le_two_pow
  have HALL : Hid (∀ W, Below w.heap.size w W → Calls Tryd.prog 25 #[.agg #[.int .i64 x.size, .slice A x.wins.length c]] W fun e w' => e = .returned (.int .i64 ((2 ^ x.wins.length - 1 : Nat) : Int)) ∧ Below W.heap.size W w') := fun W hW => l02All_any _ x W (HIT.out.below hW) HOK.out
  obtain ⟨T, HT⟩ : ∃ T : Nat, Hid (2 ^ x.wins.length = T) := ⟨_, rfl⟩
  rw [HT.out] at h256 hpos HALL ⊢
  have HSL := Lib.hid hsl
  clear hsl hok
  have H0 := Lib.hid (tbStart (w := w) (x := x) (A := A) (c := c))
  go_enter Tryd.func24, Tryd.ntmps24
  go_wp2_with fail
  go_loopw [4, 5, 6] (fun b d i wr => ∃ (s : Nat) (vb vw : Value), 1 ≤ s ∧ s ≤ T ∧ i = .int .i64 s ∧ vb = b ∧ vw = d ∧ Hid (TbAt w wr x A c s vb vw)) (fun _ _ i _ => T - (intOf i).toNat)
  case atStart => exact ⟨1, _, _, Nat.le_refl _, hpos, rfl, rfl, rfl, H0.out⟩
  case round =>
    obtain ⟨s, vb, vw, hs1, hsT, rfl, rfl, rfl, HR⟩ := hrel
    clear H0
    obtain ⟨wo, rfl⟩ : ∃ W, W = wr := ⟨wr, rfl⟩
    obtain ⟨Ab, cb, rfl⟩ : ∃ Ab cb, vb = .slice Ab s cb := by obtain ⟨Ab, cb, h, _⟩ := HR.out.two.fb.form; exact ⟨Ab, cb, by rw [fsts_len] at h; exact h⟩
    obtain ⟨Aw, cw, rfl⟩ : ∃ Aw cw, vw = .slice Aw s cw := by obtain ⟨Ab, cb, h, _⟩ := HR.out.two.fw.form; exact ⟨Ab, cb, by rw [snds_len] at h; exact h⟩
    by_cases hlt : s < T
    case neg =>
      obtain rfl : s = T := by omega
      obtain ⟨q0, q1, q2⟩ := id HR.out.bx
      have hT1 : ¬ ((s : Int) ≤ ((s - 1 : Nat) : Int)) := by omega
      go_wp2_with (go_at_call 25; refine (HALL.out _ HR.out.be).mono ?_; rintro e w2 ⟨rfl, hb⟩; have H2 := Lib.hid (HR.out.below hb); clear hb)
      go_ret2
      exact ⟨_, _, rfl, H2.out.two.fb.in_, H2.out.be⟩
    obtain ⟨q0, q1, q2⟩ := id HR.out.bx
    have hT1 : (s : Int) ≤ ((T - 1 : Nat) : Int) := by omega
    have hs256 : s < 256 := by omega
    go_wp2_with (first
      | (go_at_call 25; refine (HALL.out _ HR.out.be).mono ?_; rintro e w2 ⟨rfl, hb⟩; have H2 := Lib.hid (HR.out.below hb); clear hb q0 q1 q2)
      | (go_at_call 26; refine (l02List_any s _ hs256).mono ?_; rintro e w3 ⟨v3, rfl, hf, hb⟩; have H3 : Hid (TbAt w w3 x A c s (.slice Ab s cb) (.slice Aw s cw) ∧ InI w3 v3 (memL s)) := ⟨H2.out.below hb, hf.in_⟩; obtain ⟨A3, c3, rfl, -⟩ := hf.in_; clear hb hf H2))
    go_loopw [7, 8, 24] (fun l n i wr => ∃ (j : Nat) (p : Int × Int), j ≤ (memL s).length ∧ i = .int .i64 j ∧ l = .int .i64 p.1 ∧ n = .int .i64 p.2 ∧ Hid (p = ((memL s).take j).foldl (stepM x (tabF x s) s) (-1, 0)) ∧ Hid (TbAt w wr x A c s (.slice Ab s cb) (.slice Aw s cw) ∧ InI wr (.slice A3 (memL s).length c3) (memL s))) (fun _ _ i _ => (memL s).length - (intOf i).toNat)
    case atStart => exact ⟨0, (-1, 0), Nat.zero_le _, rfl, rfl, rfl, rfl, H3.out⟩
    case round =>
      obtain ⟨j, p, hj, rfl, rfl, rfl, HP, HW⟩ := hrel
      clear H3 HR
      by_cases hlt2 : j < (memL s).length
      case pos =>
        obtain ⟨A4, c4, e4, _, _, hsl4⟩ := HW.out.2
        injection e4 with e4 _ e5; subst e4; subst e5
        obtain ⟨b3, o3, y, rfl, ey, qy, _⟩ := hsl4.at_ (k := j) hlt2
        obtain ⟨a, Q, L, M, C, K, z, z', rfl, HF⟩ := inFacts HOK.out hs256 (by rw [HT.out]; exact hlt) hlt2 ey HP.out HSL.out
        have HF := Lib.hid HF
        obtain ⟨b5, o5, rfl, qw0, hlw, -, -⟩ := win_at HOK.out HSL.out HF.out.an
        have qw := (HW.out.1.be.cell (p := ⟨b5, o5 + a, none⟩) hlw).trans qw0
        obtain ⟨b6, o6, z6, rfl, ez, qz, _⟩ := (HW.out.1.two.fb.sl).at_ (k := L) (by rw [fsts_len]; exact HF.out.ls)
        obtain rfl : z = z6 := by rw [HF.out.ez] at ez; exact Option.some.inj ez
        obtain ⟨b7, o7, z7, rfl, ez', qz', _⟩ := (HW.out.1.two.fw.sl).at_ (k := L) (by rw [snds_len]; exact HF.out.ls)
        obtain rfl : z' = z7 := by rw [HF.out.ez'] at ez'; exact Option.some.inj ez'
        clear ez ez' ey hsl4 qw0 hlw
        have HBI : Hid (∀ W, Calls Tryd.prog 27 #[.int .i64 (M : Int)] W fun e w' => e = .returned (.int .i64 (C : Int)) ∧ W = w') := fun W => by
          have h := l02Bits_any M W HF.out.M8
          rwa [HF.out.hC.out] at h
        obtain ⟨q0, q1, q2⟩ := id HW.out.1.bx
        have ha64 : (a : Int) < 64 := by have := HF.out.a8; omega
        have hal : (a : Int) < x.wins.length := by have := HF.out.an; omega
        have hls : (L : Int) < s := by have := HF.out.ls; omega
        have hz := HF.out.z0
        have hz1 := HF.out.z1
        have hz' := HF.out.z2
        have hz1' := HF.out.z3
        have hK0 := HF.out.K0
        have hK1 := HF.out.K1
        have hp := HF.out.hp
        obtain ⟨p1, p2⟩ := p
        simp only at hp
        have hjm : (memL s).length ≤ 8 := by rw [memL_len]; exact cntL_le _
        have hp1 : -1 ≤ p1 ∧ p1 ≤ 72 ∧ 0 ≤ p2 ∧ p2 ≤ 134217728 := by omega
        clear hp
        have e1 := HF.out.e1.out
        have eK := HF.out.hK.out
        have eL := HF.out.eL
        have eM := HF.out.hM.out
        by_cases hA : p1 < 0
        · have HR2 : Hid (stepC (p1, p2) K z' = (K, z')) := by show _ = _; rw [stepC, if_pos (.inl hA)]
          go_wp2_with fail
          go_quiet (first | (go_at_call 27; with_reducible exact quiet_left (HBI.out _)))
          go_wp2
          exact ⟨⟨j + 1, (K, z'), by omega, by go_num, rfl, by first | rfl | go_num, by rw [HF.out.fo.out, HR2.out]; exact rfl, HW.out.1.below (below_of_drewN _ _ _), HW.out.2.drewN _⟩, by simp [intOf]; omega⟩
        · by_cases hB : K < p1
          · have HR2 : Hid (stepC (p1, p2) K z' = (K, z')) := by show _ = _; rw [stepC, if_pos (.inr hB)]
            go_wp2_with fail
            go_quiet (first | (go_at_call 27; with_reducible exact quiet_left (HBI.out _)))
            go_wp2
            exact ⟨⟨j + 1, (K, z'), by omega, by go_num, rfl, by first | rfl | go_num, by rw [HF.out.fo.out, HR2.out]; exact rfl, HW.out.1.below (below_of_drewN _ _ _), HW.out.2.drewN _⟩, by simp [intOf]; omega⟩
          · by_cases hE : K = p1
            · have HR2 : Hid (stepC (p1, p2) K z' = (p1, p2 + z')) := by show _ = _; rw [stepC, if_neg (by simp only; omega), if_pos hE]
              subst hE
              go_wp2_with fail
              go_quiet (first | (go_at_call 27; with_reducible exact quiet_left (HBI.out _)))
              go_wp2
              exact ⟨⟨j + 1, (K, p2 + z'), by omega, by go_num, rfl, by first | rfl | go_num, by rw [HF.out.fo.out, HR2.out]; exact rfl, HW.out.1.below (below_of_drewN _ _ _), HW.out.2.drewN _⟩, by simp [intOf]; omega⟩
            · have HR2 : Hid (stepC (p1, p2) K z' = (p1, p2)) := by show _ = _; rw [stepC, if_neg (by simp only; omega), if_neg hE]
              go_wp2_with fail
              go_quiet (first | (go_at_call 27; with_reducible exact quiet_left (HBI.out _)))
              go_wp2
              exact ⟨⟨j + 1, (p1, p2), by omega, by go_num, rfl, by first | rfl | go_num, by rw [HF.out.fo.out, HR2.out]; exact rfl, HW.out.1.below (below_of_drewN _ _ _), HW.out.2.drewN _⟩, by simp [intOf]; omega⟩
      case neg =>
        obtain rfl : j = (memL s).length := by omega
        have hs0 : s ≠ 0 := by omega
        have HE : Hid (p = entF x (tabF x s) s) := by
          show p = _
          rw [← entF_mem hs0, HP.out, List.take_length]
        obtain ⟨p1, p2⟩ := p
        have HFS : Hid (fsts x (s + 1) = fsts x s ++ [p1]) := by show _ = _; rw [fsts_succ, ← HE.out]
        have HSS : Hid (snds x (s + 1) = snds x s ++ [p2]) := by show _ = _; rw [snds_succ, ← HE.out]
        have HW1 := Lib.hid HW.out.1
        have hs1m : s ≤ 1048576 := by omega
        clear HP HW HE
        go_wp2_with (first
          | (have h_ := H5.out; clear h_; at_builtin; refine app1At rfl _ _ rfl w4 (w.heap.size + 1) (.slice Aw s cw) s (snds x s) rfl (by have h := H5.out.two.fw.own; rwa [snds_len] at h) p2 rfl hs1m H5.out.sz ?_; intro v5 w5 hown5 hb5 hl5 hg5 ho5; have H6 := Lib.hid (tbRight H5.out HSS.out hown5 hb5 hg5 ho5); clear hown5 hb5 hl5 hg5 ho5)
          | (at_builtin; refine app1At rfl _ _ rfl wr (w.heap.size + 1) (.slice Ab s cb) s (fsts x s) rfl (by have h := HW1.out.two.fb.own; rwa [fsts_len] at h) p1 rfl hs1m HW1.out.sz ?_; intro v4 w4 hown4 hb4 hl4 hg4 ho4; have H5 := Lib.hid (tbLeft HW1.out HFS.out hown4 hb4 hg4 ho4); clear hown4 hb4 hl4 hg4 ho4 HFS HW1))
        go_roundw
        case rel => exact ⟨s + 1, _, _, by omega, by omega, by go_num, rfl, rfl, H6.out⟩
        case measure => simp [intOf]; omega
end Go.Proofs.YtkcaemdgabjggaaDoor
