/- An append that tells where the grown row lies; two rows that grow beside each other. -/
import Derived.Test.YtofpaekokmkhgaaGreatDoorStd
import Derived.Test.YtofpaekokmkhgaaGreatDoorMaf
import Derived.Maps.AppendAt
import Derived.Test.YtofpaekokmkhgaaGreatDoorMav
namespace Go.Proofs.YtofpaekokmkhgaaGreatDoor
open Go.ChangeShapes Go.WideShapes Go.ChangeAt Go.RowKit

set_option maxRecDepth 100000 in
/-- 'out = append(out, x)' at a row of the call's own. -/
theorem app1At {ops : Array Oper} {rest : List Oper} {o : Oper} {a : Act} {Q : Exit → Act → World → Prop} (hgd : o.guard = none) (s y : Operand)
    (ho : o.op = .call { callee := .builtin .append, args := #[s, y], argTypes := #[23, 23] })
    (w : World) (base : Nat) (v : Value) (n : Nat) (xs : List Int) (hs : a.eval s = v) (hown : w.ownsRow base 3 1 v n (ints xs)) (x : Int)
    (hx : a.eval y = .slice (some ⟨w.heap.size, 0, none⟩) 1 1) (hl : n ≤ 1048576) (hbase : base ≤ w.heap.size)
    (h : ∀ v' w', w'.ownsRow base 3 1 v' (n + 1) (ints (xs ++ [x])) → (∀ B, B ≤ base → B ≤ w.heap.size → Below B w w') → w.heap.size < w'.heap.size → w.grownBy w' v.ownBlock → (v'.ownBlock = v.ownBlock ∨ v'.ownBlock = some (w.heap.size + 1)) → wpList Tryz.prog ops Q rest (a.put o.dst v') w') :
    wpList Tryz.prog ops Q (o :: rest) a (w.alloc (.cells #[.int .i64 x] 3)) := by
  obtain ⟨i0, hi, hz0, hz1, hz2⟩ := info_parts infoInt
  refine wpList_append_own_at _ hgd s y _ ho base 3 i0 (.int .i64 0) 1 8 Tryz.underlying23 hi hz0 hz1 hz2 rfl (by decide) v n (ints xs) hs (hown.alloc _) ⟨w.heap.size, 0, none⟩ 1 1 [.int .i64 x] hx rfl ?_ ?_ (by unfold maxLen; omega) (by omega) (by simp; omega) ?_
  · intro j u hj
    match j, hj with
    | 0, hj => simp at hj; subst hj; simp [Addr.add]
  · intro u hu; simp at hu; subst hu; rfl
  · intro v' w' h2 h3 _ h6
    rw [World.size_alloc] at h6
    have hsz := h3.size
    simp only [World.size_alloc] at hsz
    refine h v' w' (by rw [ints_append]; exact h2) (fun B h4 h5 => ?_) (by omega) ?_ h6
    · refine ((Below.refl B w).alloc h5 _).grown h3 (by simp; omega) (fun k hk => ?_)
      have := (hown.lt k hk).1; omega
    · exact ⟨h3.os, h3.tape, h3.output, by omega, fun k hk hne => by rw [h3.block k (by simp; omega) hne]; exact Below.heap_alloc _ _ _ hk⟩

/-- Two rows of the call's own, beside each other. -/
structure Two (wr : World) (lo : Nat) (vb vw : Value) (bs ws : List Int) : Prop where
  fb : Fr wr lo wr.heap.size vb bs
  fw : Fr wr lo wr.heap.size vw ws
  ne : ∀ g, vb.ownBlock = some g → vw.ownBlock ≠ some g
theorem Two.below {wr w2 : World} {lo : Nat} {vb vw : Value} {bs ws : List Int} (h : Two wr lo vb vw bs ws) (hb : Below wr.heap.size wr w2) : Two w2 lo vb vw bs ws :=
  ⟨(h.fb.grow hb).wide (Nat.le_refl _) hb.size (Nat.le_refl _), (h.fw.grow hb).wide (Nat.le_refl _) hb.size (Nat.le_refl _), h.ne⟩
theorem Two.left {wr w2 : World} {lo : Nat} {vb vb' vw : Value} {bs ws : List Int} {x : Int} (h : Two wr lo vb vw bs ws) (hown : w2.ownsRow lo 3 1 vb' (bs.length + 1) (ints (bs ++ [x])))
    (hg : wr.grownBy w2 vb.ownBlock) (hat : vb'.ownBlock = vb.ownBlock ∨ vb'.ownBlock = some (wr.heap.size + 1)) : Two w2 lo vb' vw (bs ++ [x]) ws := by
  refine ⟨Fr.of_own (by rw [List.length_append]; exact hown), (h.fw.grownBy hg fun g hw hb => h.ne g hb hw).wide (Nat.le_refl _) hg.size (Nat.le_refl _), ?_⟩
  intro g hb hw
  rcases hat with e | e
  · exact h.ne g (e ▸ hb) hw
  · rw [e] at hb
    injection hb with hb
    have := h.fw.2.1 g hw
    omega
theorem Two.right {wr w2 : World} {lo : Nat} {vb vw vw' : Value} {bs ws : List Int} {x : Int} (h : Two wr lo vb vw bs ws) (hown : w2.ownsRow lo 3 1 vw' (ws.length + 1) (ints (ws ++ [x])))
    (hg : wr.grownBy w2 vw.ownBlock) (hat : vw'.ownBlock = vw.ownBlock ∨ vw'.ownBlock = some (wr.heap.size + 1)) : Two w2 lo vb vw' bs (ws ++ [x]) := by
  refine ⟨(h.fb.grownBy hg fun g hb hw => h.ne g hb hw).wide (Nat.le_refl _) hg.size (Nat.le_refl _), Fr.of_own (by rw [List.length_append]; exact hown), ?_⟩
  intro g hb hw
  rcases hat with e | e
  · exact h.ne g hb (e ▸ hw)
  · rw [e] at hw
    injection hw with hw
    have := h.fb.2.1 g hb
    omega
end Go.Proofs.YtofpaekokmkhgaaGreatDoor
namespace Go.Proofs.YtofpaekokmkhgaaGreatDoor
open Go.ChangeShapes Go.WideShapes Go.ChangeAt Go.RowKit

def fsts (x : TourV) (s : Nat) : List Int := (tabF x s).map (·.1)
def snds (x : TourV) (s : Nat) : List Int := (tabF x s).map (·.2)
theorem fsts_len (x : TourV) (s : Nat) : (fsts x s).length = s := by rw [fsts, List.length_map, tabF_len]
theorem snds_len (x : TourV) (s : Nat) : (snds x s).length = s := by rw [snds, List.length_map, tabF_len]
theorem fsts_succ (x : TourV) (s : Nat) : fsts x (s + 1) = fsts x s ++ [(entF x (tabF x s) s).1] := by simp [fsts, tabF]
theorem snds_succ (x : TourV) (s : Nat) : snds x (s + 1) = snds x s ++ [(entF x (tabF x s) s).2] := by simp [snds, tabF]
theorem fsts_at {x : TourV} {t s : Nat} (h : t < s) : (fsts x s)[t]? = some ((tabF x s).getD t (0, 0)).1 := by
  rw [fsts, List.getElem?_map, List.getD_eq_getElem?_getD, tabF_at x h]; rfl
theorem snds_at {x : TourV} {t s : Nat} (h : t < s) : (snds x s)[t]? = some ((tabF x s).getD t (0, 0)).2 := by
  rw [snds, List.getElem?_map, List.getD_eq_getElem?_getD, tabF_at x h]; rfl
theorem tab_one (x : TourV) : fsts x 1 = [0] ∧ snds x 1 = [1] := ⟨rfl, rfl⟩
theorem bit_ge' {s n a : Nat} (hs : s < 2 ^ n) (ha : n ≤ a) : s.testBit a = false := Nat.testBit_lt_two_pow (Nat.lt_of_lt_of_le hs (Nat.pow_le_pow_right (by omega) ha))

/-- The loop over the sets. -/
structure TbAt (w wr : World) (x : TourV) (A : Option Addr) (c s : Nat) (vb vw : Value) : Prop where
  two : Two wr (w.heap.size + 1) vb vw (fsts x s) (snds x s)
  bx : Bx wr w.heap.size (.int .i64 x.size) (.slice A x.wins.length c)
  be : Below w.heap.size w wr
  sz : w.heap.size + 1 ≤ wr.heap.size
theorem TbAt.below {w wr w2 : World} {x : TourV} {A : Option Addr} {c s : Nat} {vb vw : Value} (h : TbAt w wr x A c s vb vw) (hb : Below wr.heap.size wr w2) : TbAt w w2 x A c s vb vw :=
  ⟨h.two.below hb, h.bx.below hb, h.be.trans (hb.mono h.be.size), Nat.le_trans h.sz hb.size⟩
theorem tbStart {w : World} {x : TourV} {A : Option Addr} {c : Nat} : TbAt w (((w.alloc (.cells #[.int .i64 x.size, .slice A x.wins.length c] 25)).alloc (.cells #[.int .i64 0] 3)).alloc (.cells #[.int .i64 1] 3)) x A c 1 (.slice (some ⟨w.heap.size + 1, 0, none⟩) 1 1) (.slice (some ⟨w.heap.size + 1 + 1, 0, none⟩) 1 1) := by
  obtain ⟨W1, h1⟩ : ∃ W, W = w.alloc (.cells #[.int .i64 x.size, .slice A x.wins.length c] 25) := ⟨_, rfl⟩
  have z1 : W1.heap.size = w.heap.size + 1 := by rw [h1]; exact World.size_alloc _ _
  have b1 : Below w.heap.size w W1 := by rw [h1]; exact (Below.refl _ w).alloc (Nat.le_refl _) _
  have x1 : Bx W1 w.heap.size (.int .i64 x.size) (.slice A x.wins.length c) := by rw [h1]; exact ⟨by simp, by simp, by simp⟩
  rw [← h1]
  clear h1
  obtain ⟨W2, h2⟩ : ∃ W, W = W1.alloc (.cells #[.int .i64 0] 3) := ⟨_, rfl⟩
  have z2 : W2.heap.size = w.heap.size + 1 + 1 := by rw [h2, World.size_alloc, z1]
  have b2 : Below W1.heap.size W1 W2 := by rw [h2]; exact (Below.refl _ W1).alloc (Nat.le_refl _) _
  have f2 : W2.ownsRow (w.heap.size + 1) 3 1 (.slice (some ⟨w.heap.size + 1, 0, none⟩) 1 1) 1 (ints [0]) := by
    have h := World.ownsRow_lit (base := w.heap.size + 1) (e := 3) (size := 1) W1 #[.int .i64 0] 1 (by omega) (by unfold maxLen; omega) rfl
    rw [← h2, z1] at h; exact h
  rw [← h2]
  clear h2
  obtain ⟨W3, h3⟩ : ∃ W, W = W2.alloc (.cells #[.int .i64 1] 3) := ⟨_, rfl⟩
  have z3 : W3.heap.size = w.heap.size + 1 + 1 + 1 := by rw [h3, World.size_alloc, z2]
  have b3 : Below W2.heap.size W2 W3 := by rw [h3]; exact (Below.refl _ W2).alloc (Nat.le_refl _) _
  have f3 : W3.ownsRow (w.heap.size + 1) 3 1 (.slice (some ⟨w.heap.size + 1 + 1, 0, none⟩) 1 1) 1 (ints [1]) := by
    have h := World.ownsRow_lit (base := w.heap.size + 1) (e := 3) (size := 1) W2 #[.int .i64 1] 1 (by omega) (by unfold maxLen; omega) rfl
    rw [← h3, z2] at h; exact h
  rw [← h3]
  clear h3
  refine ⟨⟨?_, ?_, ?_⟩, (x1.below b2).below b3, b1.trans ((b2.trans (b3.mono b2.size)).mono b1.size), by omega⟩
  · exact ((Fr.of_own (xs := [0]) f2).grow b3).wide (Nat.le_refl _) b3.size (Nat.le_refl _)
  · exact Fr.of_own (xs := [1]) f3
  · intro g hg hw
    simp only [Value.ownBlock, Option.some.injEq] at hg hw
    omega
/-- What one player of a set brings to its entry. -/
structure InF (x : TourV) (s j : Nat) (p : Int × Int) (a Q L M C : Nat) (K z z' : Int) : Prop where
  a8 : a < 8
  an : a < x.wins.length
  ls : L < s
  hL : Hid (s - 2 ^ a = L)
  hQ : Hid ((2 : Int) ^ a = (Q : Int))
  e1 : Hid (wrap64 ((2 : Int) ^ a) = (Q : Int))
  Q8 : Q ≤ 256
  eL : (s : Int) - (Q : Int) = (L : Int)
  w8 : winN x a < 256
  hM : Hid (bits BinOp.andNot IntKind.i64 (L : Int) (winN x a : Int) = (M : Int))
  M8 : M < 256
  hC : Hid (cntL M = C)
  hN : Hid (costN x a s = C)
  ez : (fsts x s)[L]? = some z
  ez' : (snds x s)[L]? = some z'
  z0 : 0 ≤ z
  z1 : z ≤ 64
  z2 : 0 ≤ z'
  z3 : z' ≤ 16777216
  hK : Hid (IntKind.i64.wrap (z + (C : Int)) = K)
  hK' : Hid (IntKind.i64.wrap ((C : Int) + z) = K)
  K0 : 0 ≤ K
  K1 : K ≤ 72
  C8 : C ≤ 8
  fo : Hid (((memL s).take (j + 1)).foldl (stepM x (tabF x s) s) (-1, 0) = stepC p K z')
  hp : (p.1 = -1 ∧ p.2 = 0) ∨ (0 ≤ p.1 ∧ p.1 ≤ 72 ∧ 0 ≤ p.2 ∧ p.2 ≤ (j : Int) * 16777216)
theorem inFacts {x : TourV} {s j : Nat} {p : Int × Int} {y : Int} (hok : tourB x = true) (hs256 : s < 256) (hsp : s < 2 ^ x.wins.length) (hj : j < (memL s).length)
    (ey : (memL s)[j]? = some y) (HP : p = ((memL s).take j).foldl (stepM x (tabF x s) s) (-1, 0)) {w : World} {A : Option Addr} (hsl : SlI w A x.wins) :
    ∃ (a Q L M C : Nat) (K z z' : Int), y = (a : Int) ∧ InF x s j p a Q L M C K z z' := by
  have hj8 : (memL s).length ≤ 8 := by rw [memL_len]; exact cntL_le _
  obtain ⟨a, rfl, ha8, hba⟩ := memT_mem.1 (List.mem_of_getElem? ey)
  have hfb := fold_bd (x := x) hs256 j (by omega)
  rw [← HP] at hfb
  have HSN := fold_snoc (x := x) (l := tabF x s) (s := s) ey
  have han : a < x.wins.length := by
    rcases Nat.lt_or_ge a x.wins.length with h | h
    · exact h
    · rw [bit_ge' hsp h] at hba; cases hba
  have hle : 2 ^ a ≤ s := (sub_all ⟨s, hs256⟩ ⟨a, ha8⟩ hba).1
  have hq0 : 0 < 2 ^ a := Nat.pow_pos (by omega)
  obtain ⟨b5, o5, rfl, qw0, hlw, hW2, hWb⟩ := win_at hok hsl han
  have hlt4 : s - 2 ^ a < s := by omega
  have ez := fsts_at (x := x) hlt4
  have ez' := snds_at (x := x) hlt4
  have hCE := cost_eq hok han hsp hba hW2 hWb
  have hn8 : x.wins.length ≤ 8 := by obtain ⟨t1, t2, t3, _, _⟩ := tourB_t hok; omega
  have hW256 : winN x a < 256 := Nat.lt_of_lt_of_le hW2 (Nat.pow_le_pow_right (by omega) hn8)
  have hent := entF_ok x (s - 2 ^ a) (by omega)
  have hgd : (tabF x s).getD (s - 2 ^ a) (0, 0) = entF x (tabF x (s - 2 ^ a)) (s - 2 ^ a) := by rw [List.getD_eq_getElem?_getD, tabF_at x hlt4]; rfl
  have hstep : stepM x (tabF x s) s p (a : Int) = stepC p ((costN x a s : Int) + ((tabF x s).getD (s - 2 ^ a) (0, 0)).1) ((tabF x s).getD (s - 2 ^ a) (0, 0)).2 := by rw [stepM, Int.toNat_natCast]
  have hz0 := hent.lo
  have hz1 := hent.hi
  have hz2 := hent.w0
  have hz3 : (entF x (tabF x (s - 2 ^ a)) (s - 2 ^ a)).2 ≤ 16777216 := by
    have h1 : ∀ c : Fin 9, (8 : Int) ^ c.val ≤ 16777216 := by decide
    exact Int.le_trans hent.w1 (h1 ⟨cntL (s - 2 ^ a), Nat.lt_succ_of_le (cntL_le _)⟩)
  have hcl := cntL_le (s - 2 ^ a)
  have hcn := costN_le x a s
  rw [← hgd] at hz0 hz1 hz2 hz3
  rw [← HP, hstep] at HSN
  have hM256 : (s - 2 ^ a) &&& (255 ^^^ winN x a) < 256 := Nat.lt_of_le_of_lt Nat.and_le_left (by omega)
  have hM := andNot_small (s := s - 2 ^ a) (w := winN x a) (by omega) hW256
  have hQ2 : (2 : Int) ^ a = ((2 ^ a : Nat) : Int) := by rw [Int.natCast_pow]; rfl
  generalize ((tabF x s).getD (s - 2 ^ a) (0, 0)).1 = z at *
  generalize ((tabF x s).getD (s - 2 ^ a) (0, 0)).2 = z' at *
  generalize (s - 2 ^ a) &&& (255 ^^^ winN x a) = M at *
  obtain ⟨C, hCo⟩ : ∃ C, costN x a s = C := ⟨_, rfl⟩
  rw [hCo] at hCE hcn HSN
  have hzz : z ≤ 64 := by omega
  have hC8 : C ≤ 8 := hcn
  clear hent hgd hstep hcl hz1 qw0 hsl hWb hW2
  have hE1 : wrap64 ((2 : Int) ^ a) = ((2 ^ a : Nat) : Int) := by
    rw [hQ2]
    clear hM hQ2
    generalize 2 ^ a = Q at *
    unfold wrap64; omega
  have hK : IntKind.i64.wrap (z + (C : Int)) = z + C := by clear hM hE1 hQ2; rw [IntKind.wrap_i64]; omega
  have HM := Lib.hid hM
  have HQ2 := Lib.hid hQ2
  have HE1 := Lib.hid hE1
  have HK := Lib.hid hK
  clear hM hQ2 hE1 hK
  have hQ8 : 2 ^ a ≤ 256 := by omega
  have heL : (s : Int) - ((2 ^ a : Nat) : Int) = ((s - 2 ^ a : Nat) : Int) := by clear hfb hcn; omega
  have hK0 : 0 ≤ z + (C : Int) := by omega
  have hK1 : z + (C : Int) ≤ 72 := by omega
  refine ⟨a, 2 ^ a, s - 2 ^ a, M, C, z + C, z, z', rfl, ha8, han, hlt4, Lib.hid rfl, HQ2, HE1, hQ8, heL, hW256, HM, hM256, Lib.hid hCE, Lib.hid hCo, ez, ez', hz0, hzz, hz2, hz3, HK, ?_, hK0, hK1, hC8, ?_, ?_⟩
  · show Hid _
    rw [Int.add_comm]; exact HK
  · show Hid _
    rw [Int.add_comm]; exact Lib.hid HSN
  · rcases hfb with h | h
    · rw [h]; exact .inl ⟨rfl, rfl⟩
    · exact .inr h
/-- The tables with the row of the fewest ahead by one set. -/
structure TbMid (w wr : World) (x : TourV) (A : Option Addr) (c s : Nat) (vb vw : Value) : Prop where
  two : Two wr (w.heap.size + 1) vb vw (fsts x (s + 1)) (snds x s)
  bx : Bx wr w.heap.size (.int .i64 x.size) (.slice A x.wins.length c)
  be : Below w.heap.size w wr
  sz : w.heap.size + 1 ≤ wr.heap.size
theorem tbLeft {w wr w2 : World} {x : TourV} {A : Option Addr} {c s : Nat} {vb vb' vw : Value} {p1 : Int} (h : TbAt w wr x A c s vb vw) (e : fsts x (s + 1) = fsts x s ++ [p1])
    (hown : w2.ownsRow (w.heap.size + 1) 3 1 vb' (s + 1) (ints (fsts x s ++ [p1]))) (hb : ∀ B, B ≤ w.heap.size + 1 → B ≤ wr.heap.size → Below B wr w2)
    (hg : wr.grownBy w2 vb.ownBlock) (hat : vb'.ownBlock = vb.ownBlock ∨ vb'.ownBlock = some (wr.heap.size + 1)) : TbMid w w2 x A c s vb' vw := by
  have hB := hb _ (Nat.le_refl _) h.sz
  refine ⟨by rw [e]; exact h.two.left (by rw [fsts_len]; exact hown) hg hat, ?_, h.be.trans (hB.mono (Nat.le_succ _)), Nat.le_trans h.sz hB.size⟩
  exact ⟨(hB.cell (p := ⟨w.heap.size, 0, none⟩) (Nat.lt_succ_self _)).trans h.bx.1, (hB.cell (p := ⟨w.heap.size, 1, none⟩) (Nat.lt_succ_self _)).trans h.bx.2.1, Nat.lt_of_lt_of_le h.bx.2.2 hB.size⟩
theorem tbRight {w wr w2 : World} {x : TourV} {A : Option Addr} {c s : Nat} {vb vw vw' : Value} {p2 : Int} (h : TbMid w wr x A c s vb vw) (e : snds x (s + 1) = snds x s ++ [p2])
    (hown : w2.ownsRow (w.heap.size + 1) 3 1 vw' (s + 1) (ints (snds x s ++ [p2]))) (hb : ∀ B, B ≤ w.heap.size + 1 → B ≤ wr.heap.size → Below B wr w2)
    (hg : wr.grownBy w2 vw.ownBlock) (hat : vw'.ownBlock = vw.ownBlock ∨ vw'.ownBlock = some (wr.heap.size + 1)) : TbAt w w2 x A c (s + 1) vb vw' := by
  have hB := hb _ (Nat.le_refl _) h.sz
  refine ⟨by rw [e]; exact h.two.right (by rw [snds_len]; exact hown) hg hat, ?_, h.be.trans (hB.mono (Nat.le_succ _)), Nat.le_trans h.sz hB.size⟩
  exact ⟨(hB.cell (p := ⟨w.heap.size, 0, none⟩) (Nat.lt_succ_self _)).trans h.bx.1, (hB.cell (p := ⟨w.heap.size, 1, none⟩) (Nat.lt_succ_self _)).trans h.bx.2.1, Nat.lt_of_lt_of_le h.bx.2.2 hB.size⟩
end Go.Proofs.YtofpaekokmkhgaaGreatDoor
