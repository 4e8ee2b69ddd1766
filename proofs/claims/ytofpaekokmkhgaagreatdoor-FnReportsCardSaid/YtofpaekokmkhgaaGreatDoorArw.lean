/- Orders with few reversals: the program's table. -/
import Derived.Test.YtofpaekokmkhgaaGreatDoorMba
import Derived.Test.YtofpaekokmkhgaaGreatDoorMak
import Derived.Deep.RegionHeld3
namespace Go.Proofs.YtofpaekokmkhgaaGreatDoor
open Go.ChangeShapes Go.WideShapes Go.ChangeAt Go.RowKit

def mkO (n : Nat) : Obj := .cells (madeCells (Value.int .i64 0).cells (n * 1)) 3
theorem run_mkI {n : Nat} (hn : n ≤ 1048576) (W : World) : (Instr.makeSlice 23 (.int .i64 (n : Int)) (.int .i64 (n : Int))).run Tryz.prog W = .ok (.slice (some ⟨W.heap.size, 0, none⟩) n n) (W.alloc (mkO n)) := by
  obtain ⟨i0, hi, hz0, hz1, hz2⟩ := info_parts infoInt
  have hr := run_make (P := Tryz.prog) W 23 3 i0 (.int .i64 0) Tryz.underlying23 hi hz0 .i64 .i64 n n (by omega) (Int.le_refl _) (by rw [hz2]; omega) (by omega)
  simp only [Int.toNat_natCast, hz1] at hr
  exact hr
theorem fr_mkO {n : Nat} (hn : n ≤ 1048576) (W : World) : Fr (W.alloc (mkO n)) W.heap.size (W.alloc (mkO n)).heap.size (.slice (some ⟨W.heap.size, 0, none⟩) n n) (List.replicate n 0) := by
  have h1 := World.ownsRow_lit (base := W.heap.size) (e := 3) (size := 1) W (madeCells (Value.int .i64 0).cells (n * 1)) n (Nat.le_refl _) (by unfold maxLen; omega) (size_madeCells _ _)
  rw [ints_replicate] at h1
  exact Fr.of_own (by rw [List.length_replicate]; exact h1)

theorem cell_mkO {W : World} {b n : Nat} {v : Value} (h : W.cell? ⟨b, 0, none⟩ = some v) (hb : b < W.heap.size) : (W.alloc (mkO n)).drew.cell? ⟨b, 0, none⟩ = some v := (((Below.refl _ W).alloc (Nat.le_refl _) _).cell (p := ⟨b, 0, none⟩) hb).trans h

/-- A row that is filled: what stands, the entry at work, and noughts behind. -/
def rowF (l : List Int) (v : Int) (r : Nat) : List Int := l ++ v :: List.replicate r 0
theorem rowF_len {l : List Int} {v : Int} {r s T : Nat} (hl : l.length = s) (ht : T = s + 1 + r) : (rowF l v r).length = T := by simp [rowF, hl]; omega
theorem rowF_lt {l : List Int} {v : Int} {r k : Nat} (h : k < l.length) : (rowF l v r)[k]? = l[k]? := List.getElem?_append_left h
theorem rowF_mid {l : List Int} {v : Int} {r s : Nat} (hl : l.length = s) : (rowF l v r)[s]? = some v := by rw [rowF, List.getElem?_append_right (by omega), hl, Nat.sub_self]; rfl
theorem rowF_set {l : List Int} {v y : Int} {r s : Nat} (hl : l.length = s) : (rowF l v r).set s y = rowF l y r := by rw [rowF, List.set_append_right _ _ (by omega), hl, Nat.sub_self]; rfl
theorem rowF_next {l : List Int} {v : Int} {r : Nat} : rowF l v r = (l ++ [v]) ++ List.replicate r 0 := by simp [rowF]
theorem rowF_here {l : List Int} {r : Nat} : l ++ List.replicate (r + 1) 0 = rowF l 0 r := by rw [rowF, List.replicate_succ]
/-- The two rows of the tables: blocks of their own. -/
structure Arr (w wr : World) (x : TourV) (A : Option Addr) (c T gf gm : Nat) (fs ms : List Int) : Prop where
  ff : Fr wr (w.heap.size + 1) wr.heap.size (.slice (some ⟨gf, 0, none⟩) T T) fs
  fm : Fr wr (w.heap.size + 1) wr.heap.size (.slice (some ⟨gm, 0, none⟩) T T) ms
  ne : gf ≠ gm
  bx : Bx wr w.heap.size (.int .i64 (x.wins.length : Int)) (.slice A x.wins.length c)
  be : Below w.heap.size w wr
theorem Arr.below {w wr w2 : World} {x : TourV} {A : Option Addr} {c T gf gm : Nat} {fs ms : List Int} (h : Arr w wr x A c T gf gm fs ms) (hb : Below wr.heap.size wr w2) : Arr w w2 x A c T gf gm fs ms :=
  ⟨(h.ff.grow hb).wide (Nat.le_refl _) hb.size (Nat.le_refl _), (h.fm.grow hb).wide (Nat.le_refl _) hb.size (Nat.le_refl _), h.ne, h.bx.below hb, h.be.trans (hb.mono h.be.size)⟩
theorem Arr.atF {w wr : World} {x : TourV} {A : Option Addr} {c T gf gm : Nat} {fs ms : List Int} (h : Arr w wr x A c T gf gm fs ms) {k : Nat} {z : Int} (hz : fs[k]? = some z) :
    k < T ∧ wr.cell? ⟨gf, k, none⟩ = some (.int .i64 z) ∧ wr.frozen? ⟨gf, k, none⟩ = false ∧ ∀ y, Arr w (wr.setCell ⟨gf, k, none⟩ (.int .i64 y)) x A c T gf gm (fs.set k y) ms := by
  have hk := (List.getElem?_eq_some_iff.1 hz).1
  obtain ⟨g, z', e, hg1, hg2, hz', c1, f1, s1⟩ := h.ff.at_ hk
  injection e with e
  injection e with e
  subst e
  obtain rfl : z = z' := by rw [hz] at hz'; exact Option.some.inj hz'
  refine ⟨by rw [h.ff.len]; exact hk, c1, f1, fun y => ?_⟩
  obtain ⟨s2, s3⟩ := s1 y
  have hk1 : Keep gf (gf + 1) wr (wr.setCell ⟨gf, k, none⟩ (.int .i64 y)) := Keep.setCell (p := ⟨gf, k, none⟩) (Keep.refl gf (gf + 1) wr) (Nat.le_refl _) (Nat.lt_succ_self _) _
  have hm := h.fm.apart hk1 (fun g hg => by
    simp only [Value.ownBlock, Option.some.injEq] at hg
    have := h.ne; omega)
  have hsz := s2.2.2
  have hlt := hg2
  refine ⟨s2.wide (Nat.le_refl _) s3.size (Nat.le_refl _), hm.wide (Nat.le_refl _) s3.size (Nat.le_refl _), h.ne, h.bx.keep s3 (.inl (Nat.lt_succ_self _)), h.be.setCell (by show w.heap.size ≤ gf; omega) _⟩
theorem Arr.swap {w wr : World} {x : TourV} {A : Option Addr} {c T gf gm : Nat} {fs ms : List Int} (h : Arr w wr x A c T gf gm fs ms) : Arr w wr x A c T gm gf ms fs := ⟨h.fm, h.ff, h.ne.symm, h.bx, h.be⟩
theorem Arr.atM {w wr : World} {x : TourV} {A : Option Addr} {c T gf gm : Nat} {fs ms : List Int} (h : Arr w wr x A c T gf gm fs ms) {k : Nat} {z : Int} (hz : ms[k]? = some z) :
    k < T ∧ wr.cell? ⟨gm, k, none⟩ = some (.int .i64 z) ∧ wr.frozen? ⟨gm, k, none⟩ = false ∧ ∀ y, Arr w (wr.setCell ⟨gm, k, none⟩ (.int .i64 y)) x A c T gf gm fs (ms.set k y) := by
  obtain ⟨h1, h2, h3, h4⟩ := h.swap.atF hz
  exact ⟨h1, h2, h3, fun y => (h4 y).swap⟩
theorem Arr.drew {w wr : World} {x : TourV} {A : Option Addr} {c T gf gm : Nat} {fs ms : List Int} (h : Arr w wr x A c T gf gm fs ms) : Arr w wr.drew x A c T gf gm fs ms := ⟨h.ff, h.fm, h.ne, h.bx, below_drewL h.be⟩
theorem Arr.drewN {w wr : World} {x : TourV} {A : Option Addr} {c T gf gm : Nat} {fs ms : List Int} (h : Arr w wr x A c T gf gm fs ms) (q : Nat) : Arr w (wr.drewN q) x A c T gf gm fs ms := h.below (below_drewN (Below.refl _ _) _)
theorem arrMk {w W : World} {x : TourV} {A : Option Addr} {c T : Nat} (hT : T ≤ 1048576) (h : Bx W w.heap.size (.int .i64 (x.wins.length : Int)) (.slice A x.wins.length c) ∧ Below w.heap.size w W ∧ W.heap.size = w.heap.size + 1) :
    Arr w ((W.alloc (mkO T)).alloc (mkO T)).drew x A c T (w.heap.size + 1) (w.heap.size + 1 + 1) (List.replicate T 0) (List.replicate T 0) := by
  obtain ⟨h1, h2, h3⟩ := h
  have f1 := fr_mkO hT W
  have b1 : Below W.heap.size W (W.alloc (mkO T)) := (Below.refl _ W).alloc (Nat.le_refl _) _
  have z1 : (W.alloc (mkO T)).heap.size = W.heap.size + 1 := World.size_alloc _ _
  have f2 := fr_mkO hT (W.alloc (mkO T))
  have b2 : Below (W.alloc (mkO T)).heap.size (W.alloc (mkO T)) ((W.alloc (mkO T)).alloc (mkO T)) := (Below.refl _ _).alloc (Nat.le_refl _) _
  refine Arr.drew ⟨?_, ?_, by omega, (h1.below b1).below b2, h2.trans ((b1.trans (b2.mono b1.size)).mono h2.size)⟩
  · have h := (f1.grow b2).wide (lo' := w.heap.size + 1) (by omega) b2.size (Nat.le_refl _)
    rwa [h3] at h
  · have h := f2.wide (lo' := w.heap.size + 1) (by omega) (Nat.le_refl _) (Nat.le_refl _)
    rwa [z1, h3] at h
theorem Fr.cell1 {w : World} {lo g k : Nat} {v u : Value} {xs : List Int} (h : Fr w lo w.heap.size v xs) (hg : g < lo) : Fr (w.setCell ⟨g, k, none⟩ u) lo (w.setCell ⟨g, k, none⟩ u).heap.size v xs := by
  have hk : Keep g (g + 1) w (w.setCell ⟨g, k, none⟩ u) := Keep.setCell (p := ⟨g, k, none⟩) (Keep.refl g (g + 1) w) (Nat.le_refl _) (Nat.lt_succ_self _) _
  exact (h.keep hk (.inr hg)).wide (Nat.le_refl _) hk.size (Nat.le_refl _)
theorem andNot_bit : ∀ s : Fin 256, ∀ a : Fin 8, s.val.testBit a.val = true → s.val &&& (255 ^^^ 2 ^ a.val) = s.val - 2 ^ a.val := by decide +kernel
theorem andNot_one {s a Q L : Nat} (hs : s < 256) (ha : a < 8) (hb : s.testBit a = true) (hQ : (2 : Int) ^ a = (Q : Int)) (hL : s - 2 ^ a = L) : bits BinOp.andNot IntKind.i64 (s : Int) (Q : Int) = (L : Int) := by
  have e : 2 ^ a = Q := by
    have : ((2 ^ a : Nat) : Int) = (Q : Int) := by rw [Int.natCast_pow]; exact hQ
    exact Int.ofNat.inj this
  have hQ256 : Q < 256 := by
    rw [← e]
    have h : ∀ a : Fin 8, 2 ^ a.val < 256 := by decide
    exact h ⟨a, ha⟩
  rw [andNot_small hs hQ256, ← hL, ← e]
  exact congrArg _ (andNot_bit ⟨s, hs⟩ ⟨a, ha⟩ hb)
set_option maxHeartbeats 4000000 in
set_option maxRecDepth 100000 in
theorem arranged_any (v : Value) (x : TourV) (w : World) (hs : InT w v x) (hok : tourB x = true) :
    Calls Tryz.prog 36 #[v] w fun e w' => ∃ vb vw, e = .returned (.tuple #[vb, vw]) ∧ InI w' vb (fsts x (2 ^ x.wins.length)) ∧ Below w.heap.size w w' := by
  have HIT := Lib.hid hs
  have HOK := Lib.hid hok
  obtain ⟨u, rfl, A, c, rfl, hc, hm, hsl⟩ := hs
  obtain ⟨t1, t2, t3, _, _⟩ := tourB_t hok
  have hn8 : x.wins.length ≤ 8 := by omega
  have h256 : (2 : Nat) ^ x.wins.length ≤ 256 := Nat.pow_le_pow_right (by omega) hn8
  have hpos : 2 ≤ (2 : Nat) ^ x.wins.length := by
    have h : (2 : Nat) ^ 1 ≤ 2 ^ x.wins.length := Nat.pow_le_pow_right (by omega) (by omega)
    exact h
  have hT2 : (2 : Int) ^ x.wins.length = ((2 ^ x.wins.length : Nat) : Int) := by rw [Int.natCast_pow]; rfl
  obtain ⟨T, HT⟩ : ∃ T : Nat, Hid (2 ^ x.wins.length = T) := ⟨_, rfl⟩
  rw [HT.out] at h256 hpos hT2 ⊢
  have HSZ : Hid (x.size = (x.wins.length : Int)) := t3.symm
  have HSL := Lib.hid hsl
  have e1 : IntKind.i64.wrap (T : Int) = T := by rw [IntKind.wrap_i64]; omega
  have HBX : Hid (Bx (w.alloc (.cells #[.int .i64 x.size, .slice A x.wins.length c] 25)) w.heap.size (.int .i64 x.size) (.slice A x.wins.length c) ∧ Below w.heap.size w (w.alloc (.cells #[.int .i64 x.size, .slice A x.wins.length c] 25)) ∧ (w.alloc (.cells #[.int .i64 x.size, .slice A x.wins.length c] 25)).heap.size = w.heap.size + 1) := ⟨⟨by simp, by simp, by simp⟩, (Below.refl _ w).alloc (Nat.le_refl _) _, World.size_alloc _ _⟩
  rw [HSZ.out] at HBX
  rw [HSZ.out]
  clear hsl hok t1 t2 t3
  go_enter Tryz.func36, Tryz.ntmps36
  go_wp2_with fail
  go_cut [4, 5] from 11 to 18 (fun s4 s5 wx => ∃ gf gm, s4 = .slice (some ⟨gf, 0, none⟩) T T ∧ s5 = .slice (some ⟨gm, 0, none⟩) T T ∧ Hid (Arr w wx x A c T gf gm (List.replicate T 0) (List.replicate T 0)))
  case first =>
    have hs0 : (w.alloc (.cells #[.int .i64 (x.wins.length : Int), .slice A x.wins.length c] 25)).cell? ⟨w.heap.size, 0, none⟩ = some (.int .i64 (x.wins.length : Int)) := HBX.out.1.1
    have hs1 := cell_mkO (n := T) hs0 (by simp)
    have hs2 := cell_mkO (n := T) hs1 (by simp; omega)
    have hmk := run_mkI (n := T) (by omega)
    go_region_held3 (fun W => W.cell? ⟨w.heap.size, 0, none⟩ = some (.int .i64 (x.wins.length : Int))) (first | exact hs0 | exact hs1 | exact hs2) (fail)
    all_goals (go_wp2_with fail; go_meet)
    · exact ⟨_, _, rfl, rfl, arrMk (by omega) HBX.out⟩
    · exact ⟨_, _, rfl, rfl, (arrMk (by omega) HBX.out).swap⟩
  case rest =>
    obtain ⟨gf, gm, rfl, rfl, HA⟩ := hcut
    have hr0 : (List.replicate T (0 : Int))[0]? = some 0 := by rw [List.getElem?_replicate, if_pos (by omega)]
    obtain ⟨k0, p0, p1, p2⟩ := HA.out.atM hr0
    have HS0 : Hid (Arr w (wc.setCell ⟨gm, 0, none⟩ (.int .i64 1)) x A c T gf gm (fsts x 1 ++ List.replicate (T - 1) 0) (snds x 1 ++ List.replicate (T - 1) 0)) := by
      have h := p2 1
      obtain ⟨T', rfl⟩ : ∃ T', T = T' + 1 := ⟨T - 1, by omega⟩
      exact h
    clear p2 hr0
    go_wp2
    go_loopw [6] (fun i wr => ∃ s : Nat, 1 ≤ s ∧ s ≤ T ∧ i = .int .i64 s ∧ Hid (Arr w wr x A c T gf gm (fsts x s ++ List.replicate (T - s) 0) (snds x s ++ List.replicate (T - s) 0))) (fun i _ => T - (intOf i).toNat)
    case atStart => exact ⟨1, Nat.le_refl _, by omega, rfl, HS0.out⟩
    case round =>
      obtain ⟨s, hs1, hsT, rfl, HR⟩ := hrel
      obtain ⟨wo, rfl⟩ : ∃ W, W = wr := ⟨wr, rfl⟩
      clear HS0 HA k0 p0 p1
      by_cases hlt : s < T
      case neg =>
        obtain rfl : s = T := by omega
        go_wp2
        go_ret2
        exact ⟨_, _, rfl, by have h := HR.out.ff.in_; rwa [Nat.sub_self, List.replicate_zero, List.append_nil] at h, HR.out.be⟩
      have hs256 : s < 256 := by omega
      obtain ⟨r, HRT⟩ : ∃ r, Hid (T = s + 1 + r) := ⟨T - s - 1, by show _ = _; omega⟩
      have HR1 : Hid (Arr w wo x A c T gf gm (rowF (fsts x s) 0 r) (rowF (snds x s) 0 r)) := by
        have h := HR.out
        rw [show T - s = r + 1 by have := HRT.out; omega, rowF_here, rowF_here] at h
        exact h
      clear HR
      obtain ⟨k0, p0, p1, p2⟩ := HR1.out.atF (rowF_mid (fsts_len x s))
      have HR2 : Hid (Arr w (wo.setCell ⟨gf, s, none⟩ (.int .i64 (-1))) x A c T gf gm (rowF (fsts x s) (-1) r) (rowF (snds x s) 0 r)) := by
        have h := p2 (-1)
        rwa [rowF_set (fsts_len x s)] at h
      have HG : Hid (gf < wo.heap.size ∧ gm < wo.heap.size) := ⟨HR1.out.ff.2.1 gf rfl, HR1.out.fm.2.1 gm rfl⟩
      clear p2
      have hk0 : (s : Int) < T := by omega
      go_wp2_with (go_at_call 37; refine (membersOf_any s _ hs256).mono ?_; rintro e w3 ⟨v3, rfl, hf, hb⟩; have H3 : Hid (Arr w w3 x A c T gf gm (rowF (fsts x s) (-1) r) (rowF (snds x s) 0 r) ∧ Fr w3 wo.heap.size w3.heap.size v3 (memL s)) := ⟨HR2.out.below hb, hf.wide (Nat.le_of_eq (by simp [World.setCell])) (Nat.le_refl _) (Nat.le_refl _)⟩; obtain ⟨A3, c3, rfl, -⟩ := hf.in_; clear hb hf HR2)
      clear p0 p1 HR1
      go_loopw [33] (fun i wr => ∃ (j : Nat) (p : Int × Int), j ≤ (memL s).length ∧ i = .int .i64 j ∧ Hid (p = ((memL s).take j).foldl (stepM x (tabF x s) s) (-1, 0)) ∧ Hid (Arr w wr x A c T gf gm (rowF (fsts x s) p.1 r) (rowF (snds x s) p.2 r) ∧ Fr wr wo.heap.size wr.heap.size (.slice A3 (memL s).length c3) (memL s))) (fun i _ => (memL s).length - (intOf i).toNat)
      case atStart => exact ⟨0, (-1, 0), Nat.zero_le _, rfl, rfl, H3.out⟩
      case round =>
        obtain ⟨j, p, hj, rfl, HP, HW⟩ := hrel
        clear H3
        by_cases hlt2 : j < (memL s).length
        case neg =>
          obtain rfl : j = (memL s).length := by omega
          have HE : Hid (p = entF x (tabF x s) s) := by
            show p = _
            rw [← entF_mem (by omega), HP.out, List.take_length]
          have HN : Hid (Arr w wr x A c T gf gm (fsts x (s + 1) ++ List.replicate (T - (s + 1)) 0) (snds x (s + 1) ++ List.replicate (T - (s + 1)) 0)) := by
            have h := HW.out.1
            rw [rowF_next, rowF_next, HE.out, ← fsts_succ, ← snds_succ, show r = T - (s + 1) by have := HRT.out; omega] at h
            exact h
          clear HW HP HE
          go_wp2
          go_roundw
          case rel => exact ⟨s + 1, by omega, by omega, by go_num, HN.out⟩
          case measure => simp [intOf]; omega
        case pos =>
          obtain ⟨A4, c4, e4, _, _, hsl4⟩ := HW.out.2.in_
          injection e4 with e4 _ e5; subst e4; subst e5
          obtain ⟨b3, o3, y, rfl, ey, qy, _⟩ := hsl4.at_ (k := j) hlt2
          have hbit : s.testBit y.toNat = true := by obtain ⟨a, rfl, _, h⟩ := memT_mem.1 (List.mem_of_getElem? ey); exact h
          obtain ⟨a, Q, L, M, C, K, z, z', rfl, HF⟩ := inFacts HOK.out hs256 (by rw [HT.out]; exact hlt) hlt2 ey HP.out HSL.out
          have HF := Lib.hid HF
          rw [Int.toNat_natCast] at hbit
          have HAN : Hid (bits BinOp.andNot IntKind.i64 (s : Int) (Q : Int) = (L : Int)) := andNot_one hs256 HF.out.a8 hbit HF.out.hQ.out HF.out.hL.out
          have HFC : Hid (∀ W, Below w.heap.size w W → Calls Tryz.prog 38 #[.agg #[.int .i64 (x.wins.length : Int), .slice A x.wins.length c], .int .i64 (a : Int), .int .i64 (s : Int)] W fun e w' => e = .returned (.int .i64 (C : Int)) ∧ Below W.heap.size W w') := fun W hW => by
            have h := firstCost_any _ x a s W (HIT.out.below hW) HOK.out HF.out.an hs256
            rw [HF.out.hN.out, HSZ.out] at h
            exact h
          have hzr : (rowF (fsts x s) p.1 r)[L]? = some z := by rw [rowF_lt (by rw [fsts_len]; exact HF.out.ls)]; exact HF.out.ez
          have hzr' : (rowF (snds x s) p.2 r)[L]? = some z' := by rw [rowF_lt (by rw [snds_len]; exact HF.out.ls)]; exact HF.out.ez'
          have HZR := Lib.hid (And.intro hzr hzr')
          obtain ⟨-, qz, -, -⟩ := HW.out.1.atF hzr
          clear hzr hzr' ey hsl4 hbit
          have ha64 : (a : Int) < 64 := by have := HF.out.a8; omega
          have hls : (L : Int) < T := by have := HF.out.ls; omega
          have hz := HF.out.z0
          have hz1 := HF.out.z1
          have hz' := HF.out.z2
          have hz1' := HF.out.z3
          have hK0 := HF.out.K0
          have hK1 := HF.out.K1
          have hp := HF.out.hp
          obtain ⟨p1, p2⟩ := p
          simp only at hp
          have hjm : (memL s).length ≤ 8 := by rw [memL_len]; exact cntL_le _
          have hp1 : -1 ≤ p1 ∧ p1 ≤ 72 ∧ 0 ≤ p2 ∧ p2 ≤ 134217728 := by omega
          clear hp
          have e1 := HF.out.e1.out
          have eAN := HAN.out
          have eK := HF.out.hK'.out
          go_wp2_with fail
          have qb0 : wr.cell? ⟨w.heap.size, 0, none⟩ = some (.int .i64 (x.wins.length : Int)) := HW.out.1.bx.1
          have qb1 : wr.cell? ⟨w.heap.size, 1, none⟩ = some (.slice A x.wins.length c) := HW.out.1.bx.2.1
          have HBE : Hid (Below w.heap.size w wr.drew) := below_drewL HW.out.1.be
          go_region_held3 (fun W => W.cell? ⟨w.heap.size, 0, none⟩ = some (.int .i64 (x.wins.length : Int)) ∧ W.cell? ⟨w.heap.size, 1, none⟩ = some (.slice A x.wins.length c) ∧ W.cell? ⟨gf, L, none⟩ = some (.int .i64 z)) (first | exact ⟨qb0, qb1, qz⟩ | exact ⟨H4.out.1.bx.1, H4.out.1.bx.2.1, (H4.out.1.atF HZR.out.1).2.1⟩) (first | (go_at_call 38; refine (HFC.out _ HBE.out).mono ?_; rintro e w4 ⟨rfl, hb⟩; have H4 : Hid (Arr w w4 x A c T gf gm (rowF (fsts x s) p1 r) (rowF (snds x s) p2 r) ∧ Fr w4 wo.heap.size w4.heap.size (.slice (some ⟨b3, o3, none⟩) (memL s).length c3) (memL s)) := ⟨HW.out.1.drew.below hb, ((HW.out.2.drewN 1).grow hb).wide (Nat.le_refl _) hb.size (Nat.le_refl _)⟩; clear hb))
          clear qb0 qb1 qz qy HW HBE HFC
          obtain ⟨-, cs, fs_, stf⟩ := H4.out.1.atF (rowF_mid (fsts_len x s))
          obtain ⟨-, cms, fms, stm⟩ := H4.out.1.atM (rowF_mid (snds_len x s))
          obtain ⟨-, cL, -, -⟩ := H4.out.1.atF HZR.out.1
          obtain ⟨-, cmL, -, -⟩ := H4.out.1.atM HZR.out.2
          by_cases hA : p1 < 0
          · have HR2 : Hid (stepC (p1, p2) K z' = (K, z')) := by show _ = _; rw [stepC, if_pos (.inl hA)]
            have HS1 : Hid (Arr w (w4.setCell ⟨gf, s, none⟩ (.int .i64 K)) x A c T gf gm (rowF (fsts x s) K r) (rowF (snds x s) p2 r)) := by
              have h := stf K
              rwa [rowF_set (fsts_len x s)] at h
            obtain ⟨-, cms2, fms2, stm2⟩ := HS1.out.atM (rowF_mid (snds_len x s))
            have HS2 : Hid (Arr w ((w4.setCell ⟨gf, s, none⟩ (.int .i64 K)).setCell ⟨gm, s, none⟩ (.int .i64 z')) x A c T gf gm (rowF (fsts x s) K r) (rowF (snds x s) z' r) ∧ Fr ((w4.setCell ⟨gf, s, none⟩ (.int .i64 K)).setCell ⟨gm, s, none⟩ (.int .i64 z')) wo.heap.size ((w4.setCell ⟨gf, s, none⟩ (.int .i64 K)).setCell ⟨gm, s, none⟩ (.int .i64 z')).heap.size (.slice (some ⟨b3, o3, none⟩) (memL s).length c3) (memL s)) := by
              have h := stm2 z'
              rw [rowF_set (snds_len x s)] at h
              exact ⟨h, (H4.out.2.cell1 HG.out.1).cell1 HG.out.2⟩
            clear stf stm stm2 HS1
            go_wp2
            exact ⟨⟨j + 1, (K, z'), by omega, by go_num, by rw [HF.out.fo.out, HR2.out]; exact rfl, HS2.out⟩, by simp [intOf]; omega⟩
          · by_cases hB : K < p1
            · have HR2 : Hid (stepC (p1, p2) K z' = (K, z')) := by show _ = _; rw [stepC, if_pos (.inr hB)]
              have HS1 : Hid (Arr w (w4.setCell ⟨gf, s, none⟩ (.int .i64 K)) x A c T gf gm (rowF (fsts x s) K r) (rowF (snds x s) p2 r)) := by
                have h := stf K
                rwa [rowF_set (fsts_len x s)] at h
              obtain ⟨-, cms2, fms2, stm2⟩ := HS1.out.atM (rowF_mid (snds_len x s))
              have HS2 : Hid (Arr w ((w4.setCell ⟨gf, s, none⟩ (.int .i64 K)).setCell ⟨gm, s, none⟩ (.int .i64 z')) x A c T gf gm (rowF (fsts x s) K r) (rowF (snds x s) z' r) ∧ Fr ((w4.setCell ⟨gf, s, none⟩ (.int .i64 K)).setCell ⟨gm, s, none⟩ (.int .i64 z')) wo.heap.size ((w4.setCell ⟨gf, s, none⟩ (.int .i64 K)).setCell ⟨gm, s, none⟩ (.int .i64 z')).heap.size (.slice (some ⟨b3, o3, none⟩) (memL s).length c3) (memL s)) := by
                have h := stm2 z'
                rw [rowF_set (snds_len x s)] at h
                exact ⟨h, (H4.out.2.cell1 HG.out.1).cell1 HG.out.2⟩
              clear stf stm stm2 HS1
              go_wp2
              exact ⟨⟨j + 1, (K, z'), by omega, by go_num, by rw [HF.out.fo.out, HR2.out]; exact rfl, HS2.out⟩, by simp [intOf]; omega⟩
            · by_cases hE : K = p1
              · have HR2 : Hid (stepC (p1, p2) K z' = (p1, p2 + z')) := by show _ = _; rw [stepC, if_neg (by simp only; omega), if_pos hE]
                have HS2 : Hid (Arr w (w4.setCell ⟨gm, s, none⟩ (.int .i64 (p2 + z'))) x A c T gf gm (rowF (fsts x s) p1 r) (rowF (snds x s) (p2 + z') r) ∧ Fr (w4.setCell ⟨gm, s, none⟩ (.int .i64 (p2 + z'))) wo.heap.size (w4.setCell ⟨gm, s, none⟩ (.int .i64 (p2 + z'))).heap.size (.slice (some ⟨b3, o3, none⟩) (memL s).length c3) (memL s)) := by
                  have h := stm (p2 + z')
                  rw [rowF_set (snds_len x s)] at h
                  exact ⟨h, H4.out.2.cell1 HG.out.2⟩
                clear stf stm
                subst hE
                have eP : IntKind.i64.wrap (p2 + z') = p2 + z' := by rw [IntKind.wrap_i64]; omega
                go_wp2
                go_region
                all_goals go_wp2
                exact ⟨⟨j + 1, (K, p2 + z'), by omega, by go_num, by rw [HF.out.fo.out, HR2.out]; exact rfl, HS2.out.1.drew, HS2.out.2⟩, by simp [intOf]; omega⟩
              · have HR2 : Hid (stepC (p1, p2) K z' = (p1, p2)) := by show _ = _; rw [stepC, if_neg (by simp only; omega), if_neg hE]
                clear stf stm
                go_wp2
                exact ⟨⟨j + 1, (p1, p2), by omega, by go_num, by rw [HF.out.fo.out, HR2.out]; exact rfl, H4.out⟩, by simp [intOf]; omega⟩
end Go.Proofs.YtofpaekokmkhgaaGreatDoor
