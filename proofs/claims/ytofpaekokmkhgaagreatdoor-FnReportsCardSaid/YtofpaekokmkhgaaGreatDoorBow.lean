/- Orders with few reversals: the spec's first best order. -/
import Derived.Test.YtofpaekokmkhgaaGreatDoorMba
import Derived.Test.YtofpaekokmkhgaaGreatDoorMbl
import Derived.Test.YtofpaekokmkhgaaGreatDoorMak
import Derived.Test.YtofpaekokmkhgaaGreatDoorArw
import Derived.Test.YtofpaekokmkhgaaGreatDoorMaj
namespace Go.Proofs.YtofpaekokmkhgaaGreatDoor
open Go.ChangeShapes Go.WideShapes Go.ChangeAt Go.RowKit

/-- What one player of a set brings: the numbers of the test. -/
structure PkF (x : TourV) (s : Nat) (a Q L M C : Nat) (K z : Int) : Prop where
  a8 : a < 8
  an : a < x.wins.length
  ls : L < s
  hb : s.testBit a = true
  hL : Hid (s - 2 ^ a = L)
  hQ : Hid ((2 : Int) ^ a = (Q : Int))
  e1 : Hid (wrap64 ((2 : Int) ^ a) = (Q : Int))
  Q8 : Q ≤ 256
  eL : (s : Int) - (Q : Int) = (L : Int)
  hM : Hid (bits BinOp.andNot IntKind.i64 (L : Int) (winN x a : Int) = (M : Int))
  M8 : M < 256
  hC : Hid (cntL M = C)
  hN : Hid (costN x a s = C)
  hz : fe x L = z
  z0 : 0 ≤ z
  z1 : z ≤ 64
  hK : Hid (IntKind.i64.wrap (z + (C : Int)) = K)
  hK' : Hid (IntKind.i64.wrap ((C : Int) + z) = K)
  ok : okF x s (a : Int) = decide (K = fe x s)
theorem pkFacts {x : TourV} {s j : Nat} {y : Int} (hok : tourB x = true) (hs256 : s < 256) (hsp : s < 2 ^ x.wins.length) (hj : j < (memL s).length)
    (ey : (memL s)[j]? = some y) {w : World} {A : Option Addr} (hsl : SlI w A x.wins) :
    ∃ (a Q L M C : Nat) (K z : Int), y = (a : Int) ∧ PkF x s a Q L M C K z := by
  obtain ⟨a, Q, L, M, C, K, z, z', rfl, h⟩ := inFacts hok hs256 hsp hj ey rfl hsl
  have hb : s.testBit a = true := by
    obtain ⟨b, e, _, h⟩ := memT_mem.1 (List.mem_of_getElem? ey)
    obtain rfl : a = b := Int.ofNat.inj e
    exact h
  have hz : fe x L = z := by have h1 := fsts_fe (x := x) h.ls; rw [h.ez] at h1; exact (Option.some.inj h1).symm
  have hKe : z + (C : Int) = K := by
    have h1 := h.hK.out
    have h2 := h.z0
    have h3 := h.z1
    have h4 := h.C8
    rw [IntKind.wrap_i64] at h1; omega
  refine ⟨a, Q, L, M, C, K, z, rfl, ⟨h.a8, h.an, h.ls, hb, h.hL, h.hQ, h.e1, h.Q8, h.eL, h.hM, h.M8, h.hC, h.hN, hz, h.z0, h.z1, h.hK, h.hK', ?_⟩⟩
  rw [okF, Int.toNat_natCast, h.hN.out, h.hL.out, hz, show (C : Int) + z = K by omega]
/-- The loop over the sets: what is left, and the order so far. -/
structure BsAt (W0 wr : World) (x : TourV) (T k s : Nat) (vv : Value) (L : List Int) : Prop where
  fr : Fr wr W0.heap.size wr.heap.size vv L
  be : Below W0.heap.size W0 wr
  lt : s < T
  ck : cntL s ≤ k
  eq : L ++ bestL x k s = bestL x 8 (T - 1)
  len : L.length ≤ 8
theorem BsAt.below {W0 wr w2 : World} {x : TourV} {T k s : Nat} {vv : Value} {L : List Int} (h : BsAt W0 wr x T k s vv L) (hb : Below wr.heap.size wr w2) : BsAt W0 w2 x T k s vv L :=
  ⟨(h.fr.grow hb).wide (Nat.le_refl _) hb.size (Nat.le_refl _), h.be.trans (hb.mono h.be.size), h.lt, h.ck, h.eq, h.len⟩
theorem BsAt.next {W0 wr w2 : World} {x : TourV} {T k s a L0 : Nat} {vv v2 : Value} {L : List Int} (h : BsAt W0 wr x T k s vv L) (hs256 : s < 256) (ha : a < 8) (hb : s.testBit a = true) (hL : s - 2 ^ a = L0) (hp : pickF x s = some (a : Int))
    (hown : w2.ownsRow W0.heap.size 3 1 v2 (L.length + 1) (ints (L ++ [(a : Int)]))) (hb2 : ∀ B, B ≤ W0.heap.size → B ≤ wr.heap.size → Below B wr w2) : ∃ k', BsAt W0 w2 x T k' L0 v2 (L ++ [(a : Int)]) := by
  have hc := cnt_sub hs256 ha hb
  have hck := h.ck
  obtain ⟨k', rfl⟩ : ∃ k', k = k' + 1 := ⟨k - 1, by omega⟩
  have heq : (L ++ [(a : Int)]) ++ bestL x k' L0 = bestL x 8 (T - 1) := by
    have := h.eq
    rw [bestL_step hp, hL] at this
    rw [List.append_assoc]; exact this
  have hlt := h.lt
  refine ⟨k', Fr.of_own (by simpa using hown), h.be.trans (hb2 _ (Nat.le_refl _) h.be.size), ?_, by rw [← hL]; omega, heq, ?_⟩
  · rw [← hL]; exact Nat.lt_of_le_of_lt (Nat.sub_le _ _) hlt
  · have h2 := congrArg List.length heq
    have h3 := bestL_len (x := x) 8 (T - 1)
    rw [List.length_append] at h2
    omega
theorem bsStart {w1 w2 : World} {x : TourV} {T : Nat} (hpos : 1 ≤ T) (hb : Below (w1.alloc (.cells #[] 3)).heap.size (w1.alloc (.cells #[] 3)) w2) : BsAt w1 w2 x T 8 (T - 1) (.slice (some ⟨w1.heap.size, 0, none⟩) 0 0) [] := by
  have h1 : Below w1.heap.size w1 (w1.alloc (.cells #[] 3)) := (Below.refl _ w1).alloc (Nat.le_refl _) _
  have f1 : Fr (w1.alloc (.cells #[] 3)) w1.heap.size (w1.alloc (.cells #[] 3)).heap.size (.slice (some ⟨w1.heap.size, 0, none⟩) 0 0) [] := Fr.of_own (xs := []) (World.ownsRow_lit (base := w1.heap.size) (e := 3) (size := 1) w1 #[] 0 (Nat.le_refl _) (by unfold maxLen; omega) rfl)
  exact ⟨(f1.grow hb).wide (Nat.le_refl _) hb.size (Nat.le_refl _), h1.trans (hb.mono h1.size), by omega, cntL_le _, rfl, by simp⟩
theorem InI.cells {w : World} {v : Value} {xs : List Int} (h : InI w v xs) (h0 : 0 < xs.length) : ∃ b o c, v = .slice (some ⟨b, o, none⟩) xs.length c ∧ b < w.heap.size ∧ ∀ k z, xs[k]? = some z → w.cell? ⟨b, o + k, none⟩ = some (.int .i64 z) := by
  obtain ⟨A, c, rfl, _, _, hs⟩ := h
  obtain ⟨b, o, y, rfl, hy, c1, hlt⟩ := hs.at_ h0
  refine ⟨b, o, c, rfl, hlt, fun k z hz => ?_⟩
  obtain ⟨b', o', y', e, hy', c1', _⟩ := hs.at_ (List.getElem?_eq_some_iff.1 hz).1
  injection e with e
  injection e with e1 e2
  subst e1; subst e2
  rw [hz] at hy'
  rw [c1', Option.some.inj hy']
theorem bsStart0 {w1 : World} {x : TourV} {T : Nat} (hpos : 1 ≤ T) : BsAt w1 w1 x T 8 (T - 1) (.slice none 0 0) [] :=
  ⟨Fr.nil _ (Nat.le_refl _), Below.refl _ _, by omega, cntL_le _, rfl, by simp⟩
set_option maxHeartbeats 4000000 in
set_option maxRecDepth 100000 in
theorem implBestOrder_any (v : Value) (x : TourV) (w : World) (hs : InT w v x) (hok : tourB x = true) :
    Calls Tryz.prog 16 #[v] w fun e w' => ∃ v', e = .returned v' ∧ Fr w' w.heap.size w'.heap.size v' (bestL x 8 (2 ^ x.wins.length - 1)) ∧ Below w.heap.size w w' := by
  have HIT := Lib.hid hs
  have HOK := Lib.hid hok
  obtain ⟨u, rfl, A, c, rfl, hc, hm, hsl⟩ := hs
  obtain ⟨t1, t2, t3, _, _⟩ := tourB_t hok
  have hn8 : x.wins.length ≤ 8 := by omega
  have hT2 : (2 : Int) ^ x.wins.length = ((2 ^ x.wins.length : Nat) : Int) := by rw [Int.natCast_pow]; rfl
  have h256 : (2 : Nat) ^ x.wins.length ≤ 256 := Nat.pow_le_pow_right (by omega) hn8
  have hpos : 1 ≤ (2 : Nat) ^ x.wins.length := Nat.one_le_two_pow
  have HTO : Hid (∀ W, Below w.heap.size w W → Calls Tryz.prog 30 #[.agg #[.int .i64 x.size, .slice A x.wins.length c]] W fun e w' => e = .returned (.bool true) ∧ Below W.heap.size W w') := fun W hW => by
    have h := implTourOk_any _ x W (HIT.out.below hW)
    rwa [HOK.out] at h
  have HTAB : Hid (∀ W, Below w.heap.size w W → Calls Tryz.prog 36 #[.agg #[.int .i64 x.size, .slice A x.wins.length c]] W fun e w' => ∃ vb vw, e = .returned (.tuple #[vb, vw]) ∧ InI w' vb (fsts x (2 ^ x.wins.length)) ∧ Below W.heap.size W w') := fun W hW => arranged_any _ x W (HIT.out.below hW) HOK.out
  obtain ⟨T, HT⟩ : ∃ T : Nat, Hid (2 ^ x.wins.length = T) := ⟨_, rfl⟩
  rw [HT.out] at h256 hpos HTAB hT2 ⊢
  have HSZ : Hid (x.size = (x.wins.length : Int)) := t3.symm
  have HSL := Lib.hid hsl
  have HBX : Hid (Bx (w.alloc (.cells #[.int .i64 x.size, .slice A x.wins.length c] 25)) w.heap.size (.int .i64 x.size) (.slice A x.wins.length c) ∧ Below w.heap.size w (w.alloc (.cells #[.int .i64 x.size, .slice A x.wins.length c] 25)) ∧ w.heap.size < (w.alloc (.cells #[.int .i64 x.size, .slice A x.wins.length c] 25)).heap.size) := ⟨⟨by simp, by simp, by simp⟩, (Below.refl _ w).alloc (Nat.le_refl _) _, by simp⟩
  have HFC0 : Hid (∀ W (a s : Nat), Below w.heap.size w W → a < x.wins.length → s < 256 → Calls Tryz.prog 38 #[.agg #[.int .i64 x.size, .slice A x.wins.length c], .int .i64 (a : Int), .int .i64 (s : Int)] W fun e w' => e = .returned (.int .i64 (costN x a s : Nat)) ∧ Below W.heap.size W w') := fun W a s hW ha hs => firstCost_any _ x a s W (HIT.out.below hW) HOK.out ha hs
  rw [HSZ.out] at HBX HTO HTAB HFC0
  rw [HSZ.out]
  have eT : wrap64 (T : Int) = T := by unfold wrap64; omega
  have eT1 : wrap64 ((T : Int) - 1) = T - 1 := by unfold wrap64; omega
  clear hsl hok t1 t2 t3
  go_enter Tryz.func16, Tryz.ntmps16
  go_wp2_with (first
    | (go_at_call 30; refine (HTO.out _ HBX.out.2.1).mono ?_; rintro e w0 ⟨rfl, hb⟩; have H0 : Hid (Bx w0 w.heap.size (.int .i64 (x.wins.length : Int)) (.slice A x.wins.length c) ∧ Below w.heap.size w w0 ∧ w.heap.size < w0.heap.size) := (show _ ∧ _ from ⟨HBX.out.1.below hb, HBX.out.2.1.trans (hb.mono (Nat.le_of_lt HBX.out.2.2)), Nat.lt_of_lt_of_le HBX.out.2.2 hb.size⟩); clear hb HBX; obtain ⟨q0, q1, q2⟩ := id H0.out.1)
    | (go_at_call 36; refine (HTAB.out _ H0.out.2.1).mono ?_; rintro e w1 ⟨vb, vw, rfl, hin, hb⟩; obtain ⟨bf, of, cf, rfl, hbf, hcell⟩ := hin.cells (by rw [fsts_len]; omega); rw [fsts_len]; have H1 : Hid (Bx w1 w.heap.size (.int .i64 (x.wins.length : Int)) (.slice A x.wins.length c) ∧ Below w.heap.size w w1 ∧ w.heap.size < w1.heap.size ∧ bf < w1.heap.size ∧ ∀ k z, (fsts x T)[k]? = some z → w1.cell? ⟨bf, of + k, none⟩ = some (.int .i64 z)) := (show _ ∧ _ from ⟨H0.out.1.below hb, H0.out.2.1.trans (hb.mono (Nat.le_of_lt H0.out.2.2)), Nat.lt_of_lt_of_le H0.out.2.2 hb.size, hbf, hcell⟩); clear hin hb hcell hbf q0 q1 q2 H0; obtain ⟨q0, q1, q2⟩ := id H1.out.1))
  have H2 : Hid (BsAt w1 w1 x T 8 (T - 1) (.slice none 0 0) []) := bsStart0 hpos
  have HT1 : Hid ((T : Int) - 1 = ((T - 1 : Nat) : Int)) := by show _ = _; omega
  clear q0 q1 q2 eT eT1 hT2
  go_loopw [5, 6] (fun v i wr => ∃ (k s : Nat) (vv : Value) (L : List Int), i = .int .i64 s ∧ vv = v ∧ Hid (BsAt w1 wr x T k s vv L)) (fun _ i _ => (intOf i).toNat)
  case atStart => exact ⟨8, T - 1, _, [], by rw [HT1.out], rfl, H2.out⟩
  case round =>
    obtain ⟨k, s, vv, L, rfl, rfl, HR⟩ := hrel
    obtain ⟨wo, rfl⟩ : ∃ W, W = wr := ⟨wr, rfl⟩
    clear H2
    by_cases h0 : s = 0
    · subst h0
      have HE : Hid (L = bestL x 8 (T - 1)) := by
        have h := HR.out.eq
        rw [bestL_end, List.append_nil] at h
        exact h
      go_wp2
      go_ret
      have h3 := H1.out.2.2.1
      exact ⟨_, rfl, by rw [← HE.out]; exact HR.out.fr.wide (by omega) (Nat.le_refl _) (Nat.le_refl _), H1.out.2.1.trans (HR.out.be.mono (by omega))⟩
    have hs1 : (0 : Int) < (s : Int) := by omega
    have hsT := HR.out.lt
    have hs256 : s < 256 := by omega
    have HTK : Hid (Below w1.heap.size w1 wo) := HR.out.be
    go_wp2_with (go_at_call 37; refine (membersOf_any s _ hs256).mono ?_; rintro e w3 ⟨v3, rfl, hf, hb⟩; have H3 : Hid (BsAt w1 w3 x T k s vv L ∧ InI w3 v3 (memL s)) := ⟨HR.out.below hb, hf.in_⟩; obtain ⟨A3, c3, rfl, -⟩ := hf.in_; clear hb hf HR)
    go_loopw [5, 6, 26] (fun v g i wr => ∃ (j : Nat), j ≤ (memL s).length ∧ i = .int .i64 j ∧ vv = v ∧ g = .int .i64 s ∧ Hid (∀ u ∈ (memL s).take j, okF x s u = false) ∧ Hid (BsAt w1 wr x T k s vv L ∧ InI wr (.slice A3 (memL s).length c3) (memL s))) (fun _ _ i _ => (memL s).length - (intOf i).toNat)
    case atStart => exact ⟨0, Nat.zero_le _, rfl, rfl, rfl, fun u hu => by simp at hu, H3.out⟩
    case round =>
      obtain ⟨j, hj, rfl, rfl, rfl, HP, HW⟩ := hrel
      clear H3
      by_cases hlt2 : j < (memL s).length
      case neg =>
        exfalso
        refine pick_end (x := x) h0 hs256 (fun y hy => HP.out y ?_)
        rw [List.take_of_length_le (by omega)]; exact hy
      case pos =>
        obtain ⟨A4, c4, e4, _, _, hsl4⟩ := HW.out.2
        injection e4 with e4 _ e5; subst e4; subst e5
        obtain ⟨b3, o3, y, rfl, ey, qy, _⟩ := hsl4.at_ (k := j) hlt2
        have HEY := Lib.hid ey
        obtain ⟨a, Q, L0, M, C, K, z, rfl, HF⟩ := pkFacts HOK.out hs256 (by rw [HT.out]; exact hsT) hlt2 ey HSL.out
        have HF := Lib.hid HF
        obtain ⟨b5, o5, rfl, qw0, hlw, -, -⟩ := win_at HOK.out HSL.out HF.out.an
        have hw1 := H1.out.2.2.1
        have hbf := H1.out.2.2.2.1
        have hL0 := HF.out.ls
        have HBW : Hid (Below w1.heap.size w1 wr) := HW.out.1.be
        have qw := ((HBW.out.cell (p := ⟨b5, o5 + a, none⟩) (Nat.lt_trans hlw hw1)).trans (H1.out.2.1.cell (p := ⟨b5, o5 + a, none⟩) hlw)).trans qw0
        obtain ⟨q0, q1, q2⟩ := H1.out.1.below HBW.out
        have qL := (HBW.out.cell (p := ⟨bf, of + L0, none⟩) hbf).trans (H1.out.2.2.2.2 L0 z (by rw [fsts_fe (by omega), HF.out.hz]))
        have qs := (HBW.out.cell (p := ⟨bf, of + s, none⟩) hbf).trans (H1.out.2.2.2.2 s (fe x s) (fsts_fe hsT))
        have HOKF : Hid (okF x s (a : Int) = decide (K = fe x s)) := HF.out.ok
        obtain ⟨F, HFE⟩ : ∃ F, Hid (fe x s = F) := ⟨_, rfl⟩
        rw [HFE.out] at qs HOKF
        have HAN : Hid (bits BinOp.andNot IntKind.i64 (s : Int) (Q : Int) = (L0 : Int)) := andNot_one hs256 HF.out.a8 HF.out.hb HF.out.hQ.out HF.out.hL.out
        have HFC : Hid (∀ W, Below w.heap.size w W → Calls Tryz.prog 38 #[.agg #[.int .i64 (x.wins.length : Int), .slice (some ⟨b5, o5, none⟩) x.wins.length c], .int .i64 (a : Int), .int .i64 (s : Int)] W fun e w' => e = .returned (.int .i64 (C : Int)) ∧ Below W.heap.size W w') := fun W hW => by
          have h := HFC0.out W a s hW HF.out.an hs256
          rwa [HF.out.hN.out] at h
        have HE1 : Hid (IntKind.i64.wrap ((2 : Int) ^ a) = (Q : Int)) := by
          have h8 := HF.out.Q8
          show _ = _
          rw [HF.out.hQ.out, IntKind.wrap_i64]
          omega
        clear qw0 hlw ey hsl4 hbf qw
        have hjm : (memL s).length ≤ 8 := by rw [memL_len]; exact cntL_le _
        have ha64 : (a : Int) < 64 := by have := HF.out.a8; omega
        have hls : (L0 : Int) < T := by omega
        have hsTi : (s : Int) < T := by omega
        have HBE : Hid (Below w.heap.size w wr.drew) := below_drewL (H1.out.2.1.trans (HBW.out.mono (Nat.le_of_lt hw1)))
        have e1 := HF.out.e1.out
        have e1' := HE1.out
        have eK := HF.out.hK'.out
        have eAN := HAN.out
        have HCL : Hid (∀ W, Below wr.heap.size wr W → W.cell? ⟨w.heap.size, 0, none⟩ = some (.int .i64 (x.wins.length : Int)) ∧ W.cell? ⟨w.heap.size, 1, none⟩ = some (.slice (some ⟨b5, o5, none⟩) x.wins.length c) ∧ W.cell? ⟨bf, of + L0, none⟩ = some (.int .i64 z) ∧ W.cell? ⟨bf, of + s, none⟩ = some (.int .i64 F)) := by
          intro W hW
          have hW2 : Below w1.heap.size w1 W := HBW.out.trans (hW.mono HBW.out.size)
          obtain ⟨r0, r1, _⟩ := H1.out.1.below hW2
          exact ⟨r0, r1, (hW2.cell (p := ⟨bf, of + L0, none⟩) H1.out.2.2.2.1).trans (H1.out.2.2.2.2 L0 z (by rw [fsts_fe (by omega), HF.out.hz])), (hW2.cell (p := ⟨bf, of + s, none⟩) H1.out.2.2.2.1).trans (H1.out.2.2.2.2 s F (by rw [fsts_fe hsT, HFE.out]))⟩
        have HDR : Hid (Below wr.heap.size wr wr.drew) := below_drewL (Below.refl _ _)
        clear q0 q1 q2 qL qs
        obtain ⟨q0, q1, qL, qs⟩ := HCL.out wr (Below.refl _ _)
        go_wp2_with fail
        go_region_held3 (fun W => W.cell? ⟨w.heap.size, 0, none⟩ = some (.int .i64 (x.wins.length : Int)) ∧ W.cell? ⟨w.heap.size, 1, none⟩ = some (.slice (some ⟨b5, o5, none⟩) x.wins.length c) ∧ W.cell? ⟨bf, of + L0, none⟩ = some (.int .i64 z) ∧ W.cell? ⟨bf, of + s, none⟩ = some (.int .i64 F)) (first | exact ⟨q0, q1, qL, qs⟩ | exact HCL.out _ H4.out) (first | (go_at_call 38; refine (HFC.out _ HBE.out).mono ?_; rintro e w4 ⟨rfl, hb⟩; have H4 : Hid (Below wr.heap.size wr w4) := HDR.out.trans (hb.mono HDR.out.size); clear hb))
        clear q0 q1 qL qs qy HCL HBE
        have HW4 : Hid (BsAt w1 w4 x T k s vv L ∧ InI w4 (.slice (some ⟨b3, o3, none⟩) (memL s).length c3) (memL s)) := ⟨HW.out.1.below H4.out, HW.out.2.below H4.out⟩
        by_cases hKF : K = F
        · have HPK : Hid (pickF x s = some (a : Int)) := pick_at HEY.out HP.out (by rw [HOKF.out]; exact decide_eq_true hKF)
          subst hKF
          have HLL : Hid (L.length ≤ 1048576) := by have := HW4.out.1.len; show _ ≤ _; omega
          clear HW HP HBW
          go_wp2_with (at_builtin; refine app1 rfl _ _ rfl w4 w1.heap.size vv L.length L rfl HW4.out.1.fr.own (a : Int) rfl HLL.out HW4.out.1.be.size ?_; intro v2 w2 hown hb2 _ _; obtain ⟨k', H6⟩ := HW4.out.1.next hs256 HF.out.a8 HF.out.hb HF.out.hL.out HPK.out hown hb2; have H6 := Lib.hid H6; clear hown hb2)
          go_roundw
          case rel => exact ⟨k', L0, _, _, rfl, rfl, H6.out⟩
          case measure => simp [intOf]; omega
        · have HN : Hid (∀ u ∈ (memL s).take (j + 1), okF x s u = false) := by
            intro u hu
            rw [take_snoc HEY.out] at hu
            rcases List.mem_append.1 hu with hu | hu
            · exact HP.out u hu
            · rw [List.mem_singleton.1 hu, HOKF.out]; exact decide_eq_false hKF
          clear HW HP HBW
          go_wp2
          exact ⟨⟨j + 1, by omega, by go_num, rfl, rfl, HN.out, HW4.out⟩, by simp [intOf]; omega⟩
end Go.Proofs.YtofpaekokmkhgaaGreatDoor
