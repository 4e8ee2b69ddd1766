/- Tours that are drawn from a code: other names. -/
import Derived.Test.YtofpaekokmkhgaaGreatDoorDtf
import Derived.Test.YtofpaekokmkhgaaGreatDoorArw
namespace Go.Proofs.YtofpaekokmkhgaaGreatDoor
open Go.ChangeShapes Go.WideShapes Go.ChangeAt Go.RowKit

theorem inI_cells {w : World} {v : Value} {xs : List Int} (h : InI w v xs) (h0 : 0 < xs.length) : ∃ b o c, v = .slice (some ⟨b, o, none⟩) xs.length c ∧ b < w.heap.size ∧ ∀ k z, xs[k]? = some z → w.cell? ⟨b, o + k, none⟩ = some (.int .i64 z) := by
  obtain ⟨A, c, rfl, _, _, hs⟩ := h
  obtain ⟨b, o, x0, rfl, _, _, hb⟩ := hs.at_ (k := 0) h0
  refine ⟨b, o, c, rfl, hb, fun k z hz => ?_⟩
  obtain ⟨b', o', x, e, hx, hc, _⟩ := hs.at_ (List.getElem?_eq_some_iff.1 hz).1
  injection e with e
  injection e with e1 e2 _
  subst e1; subst e2
  rw [hz] at hx
  rw [hc, Option.some.inj hx]
theorem flAt0 (w : World) (cl : Int) (ad : Addr) (n c : Nat) : FlAt w ((w.alloc (.cells #[.int .i64 cl, .slice (some ad) n c] 25)).alloc (.cells #[.int .i64 0, .slice none 0 0] 25)) cl ad n c :=
  ⟨by simp [go_sem], by simp [go_sem], by simp [go_sem], by simp [go_sem], by simp [go_sem], by simp [go_sem], by simp <;> omega, (((Below.refl _ w).alloc (Nat.le_refl _) _).alloc (by simp <;> omega) _)⟩
theorem flR1 (w : World) (ad : Addr) (n c : Nat) (hn : n ≤ 1048576) : FlMid w ((((w.alloc (.cells #[.int .i64 (n : Int), .slice (some ad) n c] 25)).alloc (.cells #[.int .i64 0, .slice none 0 0] 25)).alloc (mkO n)).alloc (.cells #[.int .i64 (n : Int), .slice (some ⟨w.heap.size + 1 + 1, 0, none⟩) n n] 25)).drew (n : Int) ad n c (w.heap.size + 1 + 1 + 1) (w.heap.size + 1 + 1) n (List.replicate n 0) := by
  have h0 := flAt0 w (n : Int) ad n c
  have z0 : ((w.alloc (.cells #[.int .i64 (n : Int), .slice (some ad) n c] 25)).alloc (.cells #[.int .i64 0, .slice none 0 0] 25)).heap.size = w.heap.size + 1 + 1 := by simp
  generalize (w.alloc (.cells #[.int .i64 (n : Int), .slice (some ad) n c] 25)).alloc (.cells #[.int .i64 0, .slice none 0 0] 25) = W0 at *
  have h1 := fr_mkO hn W0
  rw [z0] at h1
  have h4 := h0.below ((Below.refl (w.heap.size + 2) W0).alloc (by omega) (mkO n))
  have z1 : (W0.alloc (mkO n)).heap.size = w.heap.size + 1 + 1 + 1 := by rw [World.size_alloc, z0]
  have h5 := flMid_new h1 h4
  rw [z1] at h5
  exact h5.drew
theorem flR2 (w : World) (ad : Addr) (n c : Nat) (hn : n ≤ 1048576) : FlMid w ((((w.alloc (.cells #[.int .i64 (n : Int), .slice (some ad) n c] 25)).alloc (.cells #[.int .i64 0, .slice none 0 0] 25)).alloc (.cells #[.int .i64 (n : Int), .slice (some ⟨w.heap.size + 1 + 1 + 1, 0, none⟩) n n] 25)).alloc (mkO n)).drew (n : Int) ad n c (w.heap.size + 1 + 1) (w.heap.size + 1 + 1 + 1) n (List.replicate n 0) := by
  have h0 := flAt0 w (n : Int) ad n c
  have z0 : ((w.alloc (.cells #[.int .i64 (n : Int), .slice (some ad) n c] 25)).alloc (.cells #[.int .i64 0, .slice none 0 0] 25)).heap.size = w.heap.size + 1 + 1 := by simp
  generalize (w.alloc (.cells #[.int .i64 (n : Int), .slice (some ad) n c] 25)).alloc (.cells #[.int .i64 0, .slice none 0 0] 25) = W0 at *
  have c0 : (W0.alloc (.cells #[.int .i64 (n : Int), .slice (some ⟨w.heap.size + 1 + 1 + 1, 0, none⟩) n n] 25)).cell? ⟨W0.heap.size, 0, none⟩ = some (.int .i64 (n : Int)) := by simp
  have c1 : (W0.alloc (.cells #[.int .i64 (n : Int), .slice (some ⟨w.heap.size + 1 + 1 + 1, 0, none⟩) n n] 25)).cell? ⟨W0.heap.size, 1, none⟩ = some (.slice (some ⟨w.heap.size + 1 + 1 + 1, 0, none⟩) n n) := by simp
  have h1 := h0.below ((Below.refl (w.heap.size + 2) W0).alloc (by omega) (.cells #[.int .i64 (n : Int), .slice (some ⟨w.heap.size + 1 + 1 + 1, 0, none⟩) n n] 25))
  have z1 : (W0.alloc (.cells #[.int .i64 (n : Int), .slice (some ⟨w.heap.size + 1 + 1 + 1, 0, none⟩) n n] 25)).heap.size = w.heap.size + 1 + 1 + 1 := by rw [World.size_alloc, z0]
  rw [z0] at c0 c1
  generalize W0.alloc (.cells #[.int .i64 (n : Int), .slice (some ⟨w.heap.size + 1 + 1 + 1, 0, none⟩) n n] 25) = W1 at *
  have hb : Below W1.heap.size W1 (W1.alloc (mkO n)) := (Below.refl _ W1).alloc (Nat.le_refl _) _
  have h2 := fr_mkO hn W1
  rw [z1] at h2
  have z2 : (W1.alloc (mkO n)).heap.size = w.heap.size + 1 + 1 + 1 + 1 := by rw [World.size_alloc, z1]
  refine FlMid.drew ⟨h2.wide (by omega) (Nat.le_refl _) (Nat.le_refl _), (hb.cell (p := ⟨w.heap.size + 1 + 1, 0, none⟩) (by show w.heap.size + 1 + 1 < _; omega)).trans c0, (hb.cell (p := ⟨w.heap.size + 1 + 1, 1, none⟩) (by show w.heap.size + 1 + 1 < _; omega)).trans c1, h1.below (hb.mono (by omega)), by omega, by omega, by omega⟩
theorem FlMid.grow {w wx W : World} {cl : Int} {ad : Addr} {n c p g c2 : Nat} {xs : List Int} (h : FlMid w wx cl ad n c p g c2 xs) (hb : Below wx.heap.size wx W) : FlMid w W cl ad n c p g c2 xs :=
  ⟨(h.fr.grow hb).wide (Nat.le_refl _) hb.size (Nat.le_refl _), (hb.cell (p := ⟨p, 0, none⟩) h.p2).trans h.q0, (hb.cell (p := ⟨p, 1, none⟩) h.p2).trans h.q1, h.at_.below (hb.mono h.at_.sz), h.p1, Nat.lt_of_lt_of_le h.p2 hb.size, h.pg⟩
set_option maxHeartbeats 4000000 in
set_option maxRecDepth 100000 in
theorem l02Rename_any (v u : Value) (x : TourV) (ns : List Int) (w : World) (hs : InT w v x) (hok : tourB x = true) (hu : InI w u ns) (hm : Nm ns x.wins.length) :
    Calls Tryz.prog 44 #[v, u] w fun e w' => ∃ A c xs, e = .returned (.agg #[.int .i64 x.size, .slice A x.wins.length c]) ∧ Fr w' w.heap.size w'.heap.size (.slice A x.wins.length c) xs ∧ tourB ⟨x.size, xs⟩ = true ∧ xs.length = x.wins.length ∧ Below w.heap.size w w' := by
  obtain ⟨u1, rfl, hsl⟩ := hs
  obtain ⟨t1, t2, t3, t4, _⟩ := tourB_t hok
  have hn8 : x.wins.length ≤ 8 := by omega
  obtain ⟨b0, o0, c, rfl, hb0, hcell0⟩ := inI_cells hsl (by omega)
  obtain ⟨b1, o1, d, rfl, hb1, hcell1⟩ := inI_cells hu (by rw [hm.len]; omega)
  have hnl := hm.len
  have HC0 : Hid (b0 < w.heap.size ∧ ∀ k z, x.wins[k]? = some z → w.cell? ⟨b0, o0 + k, none⟩ = some (.int .i64 z)) := ⟨hb0, hcell0⟩
  have HC1 : Hid (b1 < w.heap.size ∧ ∀ k z, ns[k]? = some z → w.cell? ⟨b1, o1 + k, none⟩ = some (.int .i64 z)) := ⟨hb1, hcell1⟩
  have HOK := Lib.hid hok
  have HM := Lib.hid hm
  have HSZ : Hid (x.size = (x.wins.length : Int)) := t3.symm
  clear hsl hu hok t4 hm hb0 hcell0 hb1 hcell1
  rw [HSZ.out]
  obtain ⟨n, hn⟩ : ∃ n, x.wins.length = n := ⟨_, rfl⟩
  have HN := Lib.hid hn
  rw [hn] at hn8 hnl ⊢
  rw [hnl]
  have hn1 : 1 ≤ n := by omega
  have HNL := Lib.hid hnl
  clear hnl hn t3
  have hmk := run_mkI (n := n) (by omega)
  have HFA := Lib.hid (flAt0 w (n : Int) ⟨b0, o0, none⟩ n c)
  go_enter Tryz.func44, Tryz.ntmps44
  go_upto_region 1 with fail
  obtain ⟨y0, y1⟩ := And.intro HFA.out.y0 HFA.out.y1
  go_cut [5] from 9 to 14 (fun s7 wx => ∃ p g, s7 = .pointer (some ⟨p, 0, none⟩) ∧ Hid (FlMid w wx (n : Int) ⟨b0, o0, none⟩ n c p g n (List.replicate n 0)))
  case first =>
    go_region_held3 (fun W => W.cell? ⟨w.heap.size, 0, none⟩ = some (.int .i64 n) ∧ W.cell? ⟨w.heap.size, 1, none⟩ = some (.slice (some ⟨b0, o0, none⟩) n c)) (first | go_keep | exact ⟨y0, y1⟩) (fail)
    all_goals (go_wp2_with fail; go_meet)
    · exact ⟨_, _, rfl, flR1 w ⟨b0, o0, none⟩ n c (by omega)⟩
    · exact ⟨_, _, rfl, flR2 w ⟨b0, o0, none⟩ n c (by omega)⟩
  case rest =>
    obtain ⟨p, g, rfl, HF⟩ := hcut
    clear hmk y0 y1 HFA
    have y1 := HF.out.at_.y1
    go_wp2
    clear y1
    go_loopw [18] (fun i wr => ∃ (a : Nat) (out : List Int), a ≤ n ∧ i = .int .i64 a ∧ Hid (FlMid w wr (n : Int) ⟨b0, o0, none⟩ n c p g n out ∧ RnT x ns out n a 0)) (fun i _ => n - (intOf i).toNat)
    case atStart => exact ⟨0, _, Nat.zero_le _, rfl, HF.out, RnT.start n⟩
    case round =>
      obtain ⟨a, out, ha, rfl, HR⟩ := hrel
      clear HF
      obtain ⟨wo, rfl⟩ : ∃ W, W = wr := ⟨wr, rfl⟩
      by_cases hlt : a < n
      case neg =>
        obtain rfl : a = n := by omega
        obtain ⟨r0, r1, r2, r3⟩ := And.intro HR.out.1.at_.r0 (And.intro HR.out.1.at_.r1 (And.intro HR.out.1.at_.f0 HR.out.1.at_.f1))
        have q0 := HR.out.1.q0
        have q1 := HR.out.1.q1
        have HT : Hid (tourB ⟨(a : Int), out⟩ = true ∧ out.length = a) := by
          have h := HR.out.2.ok HOK.out HN.out (HN.out ▸ HM.out)
          rw [HSZ.out, HN.out] at h
          exact ⟨h, HR.out.2.len⟩
        go_wp2
        have KP : Keep (w.heap.size + 1) (w.heap.size + 2) wo ((wo.setCell ⟨w.heap.size + 1, 0, none⟩ (.int .i64 (a : Int))).setCell ⟨w.heap.size + 1, 1, none⟩ (.slice (some ⟨g, 0, none⟩) a a)) :=
          ((Keep.refl _ _ _).setCell (p := ⟨w.heap.size + 1, 0, none⟩) (Nat.le_refl _) (Nat.lt_succ_self _) _).setCell (p := ⟨w.heap.size + 1, 1, none⟩) (Nat.le_refl _) (Nat.lt_succ_self _) _
        refine bodyPost_ret (v := .agg #[.int .i64 (a : Int), .slice (some ⟨g, 0, none⟩) a a]) (by simp [results, Tryz.results44, go_sem, r0, r1]) rfl ⟨_, _, out, rfl, (HR.out.1.fr.keep KP (.inr (Nat.le_refl _))).wide (by omega) (Nat.le_trans HR.out.1.fr.2.2 KP.size) (Nat.le_refl _), HT.out.1, HT.out.2, HR.out.1.at_.be.trans (KP.below (Nat.le_succ _) HR.out.1.at_.be.size)⟩
      obtain ⟨y, hy⟩ : ∃ y, x.wins[a]? = some y := ⟨_, List.getElem?_eq_getElem (by rw [HN.out]; exact hlt)⟩
      obtain ⟨yl, yh⟩ := win_rng HOK.out hy
      obtain ⟨Y, rfl⟩ := Int.eq_ofNat_of_zero_le yl
      have qy : wo.cell? ⟨b0, o0 + a, none⟩ = some (.int .i64 (Y : Int)) := (HR.out.1.at_.be.cell (p := ⟨b0, o0 + a, none⟩) HC0.out.1).trans (HC0.out.2 a _ hy)
      have y1 := HR.out.1.at_.y1
      have HY : Hid (x.wins[a]? = some (Y : Int) ∧ Y < 256) := ⟨hy, by omega⟩
      clear hy yl yh
      go_wp2
      clear y1 qy
      go_loopw [26] (fun i wr => ∃ (b : Nat) (out : List Int), b ≤ n ∧ i = .int .i64 b ∧ Hid (FlMid w wr (n : Int) ⟨b0, o0, none⟩ n c p g n out ∧ RnT x ns out n a b)) (fun i _ => n - (intOf i).toNat)
      case atStart => exact ⟨0, out, Nat.zero_le _, rfl, HR.out⟩
      case round =>
        obtain ⟨b, out2, hb, rfl, HI⟩ := hrel
        clear HR
        by_cases hlt2 : b < n
        case neg =>
          obtain rfl : b = n := by omega
          go_wp2
          go_roundw
          case rel => exact ⟨a + 1, out2, by omega, by go_num, HI.out.1, HI.out.2.next⟩
          case measure => simp [intOf]; omega
        have hlb := bits_low (k := b) HY.out.2
        have hb64 : (b : Int) < 64 := by omega
        have hbt : bt x.wins a b = Y.testBit b := by rw [bt, List.getD_eq_getElem?_getD, HY.out.1]; rfl
        cases hbb : Y.testBit b
        · rw [hbb] at hlb hbt
          have HN2 := Lib.hid (HI.out.2.no hbt)
          clear hbt
          simp only [Bool.false_eq_true, if_false] at hlb
          go_wp2
          go_roundw
          case rel => exact ⟨b + 1, out2, by omega, by go_num, HI.out.1, HN2.out⟩
          case measure => simp [intOf]; omega
        · rw [hbb] at hlb hbt
          simp only [if_true] at hlb
          have HMn : Hid (Nm ns n) := HN.out ▸ HM.out
          obtain ⟨qa, ga⟩ := HMn.out.lt hlt
          obtain ⟨qb, gb⟩ := HMn.out.lt hlt2
          obtain ⟨z, hz⟩ : ∃ z, out2[nmA ns a]? = some z := ⟨_, List.getElem?_eq_getElem (by rw [HI.out.2.len]; exact ga)⟩
          obtain ⟨z0, z1, hyes⟩ := HI.out.2.yes hn8 HMn.out hlt hlt2 hbt hz
          obtain ⟨-, d1, d2, s1⟩ := HI.out.1.set hz
          have k1 := (HI.out.1.at_.be.cell (p := ⟨b1, o1 + a, none⟩) HC1.out.1).trans (HC1.out.2 a _ qa)
          have k2 := (HI.out.1.at_.be.cell (p := ⟨b1, o1 + b, none⟩) HC1.out.1).trans (HC1.out.2 b _ qb)
          have hPw : ∀ k : Fin 8, (2 : Nat) ^ k.val ≤ 128 ∧ IntKind.i64.wrap ((2 : Int) ^ k.val) = ((2 ^ k.val : Nat) : Int) := by decide +kernel
          obtain ⟨hq1, hq2⟩ := hPw ⟨nmA ns b, by omega⟩
          simp only at hq1 hq2
          have HS := Lib.hid (And.intro (And.intro z0 (And.intro z1 hyes)) (s1 (z + ((2 ^ nmA ns b : Nat) : Int))))
          have q1 := HI.out.1.q1
          have hpg : ¬ g = p := fun e => HI.out.1.pg e.symm
          obtain ⟨Q, hQ⟩ : ∃ Q : Nat, 2 ^ nmA ns b = Q := ⟨_, rfl⟩
          rw [hQ] at hq1 hq2 HS
          clear hQ hyes s1 hPw hbt hz qa qb
          generalize nmA ns a = A0 at *
          generalize nmA ns b = B0 at *
          have hA0 : (A0 : Int) < n := by clear hq2 hlb; omega
          have hB0 : (B0 : Int) < 64 := by clear hq2 hlb; omega
          have hai : (a : Int) < n := by clear hq2 hlb; omega
          have hbi : (b : Int) < n := by clear hq2 hlb; omega
          have hzw : IntKind.i64.wrap (z + (Q : Int)) = z + Q := by clear hq2 hlb; rw [IntKind.wrap_i64]; omega
          go_wp2
          clear hlb
          go_region
          all_goals go_wp2
          all_goals clear hq2
          all_goals exact ⟨⟨b + 1, _, by omega, by go_num, HS.out.2.drew, HS.out.1.2.2⟩, by simp [intOf]; omega⟩
end Go.Proofs.YtofpaekokmkhgaaGreatDoor
