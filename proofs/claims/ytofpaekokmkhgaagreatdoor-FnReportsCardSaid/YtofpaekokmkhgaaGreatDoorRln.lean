/- Races: who is still in, the line of a race: both packages' contracts. -/
import Derived.Test.YtofpaekokmkhgaaGreatDoorRpf
import Derived.Test.YtofpaekokmkhgaaGreatDoorMbg
namespace Go.Proofs.YtofpaekokmkhgaaGreatDoor
open Go.ChangeShapes Go.WideShapes Go.ChangeAt Go.RowKit

def stT (ws : List Int) (gs : List (List Int)) : Nat → Nat
  | 0 => 0
  | c + 1 => stT ws gs c + (if proofF ws gs c (mostF ws gs c) = 0 then 2 ^ c else 0)
/-- The set of the clubs that are still in. -/
def stillF (ws : List Int) (gs : List (List Int)) : Nat := stT ws gs ws.length
theorem stT_lt (ws : List Int) (gs : List (List Int)) : ∀ c, stT ws gs c < 2 ^ c := by
  intro c
  induction c with
  | zero => simp [stT]
  | succ c ih =>
    rw [stT, Nat.pow_succ]
    split <;> omega
theorem or_add : ∀ c : Fin 6, ∀ s : Fin 64, s.val < 2 ^ c.val → bits BinOp.or IntKind.i64 (s.val : Int) ((2 ^ c.val : Nat) : Int) = ((s.val + 2 ^ c.val : Nat) : Int) := by decide +kernel
theorem or_bit {c s : Nat} (hc : c ≤ 5) (hs : s < 2 ^ c) : bits BinOp.or IntKind.i64 (s : Int) ((2 ^ c : Nat) : Int) = ((s + 2 ^ c : Nat) : Int) := by
  have h1 : (2 : Nat) ^ c ≤ 32 := Nat.pow_le_pow_right (by omega) hc
  exact or_add ⟨c, by omega⟩ ⟨s, by omega⟩ hs
theorem shl_bit {c : Nat} (hc : c ≤ 5) : IntKind.i64.wrap ((2 : Int) ^ c) = ((2 ^ c : Nat) : Int) ∧ wrap64 ((2 : Int) ^ c) = ((2 ^ c : Nat) : Int) := by
  have h1 : (2 : Nat) ^ c ≤ 32 := Nat.pow_le_pow_right (by omega) hc
  have h2 : (2 : Int) ^ c = ((2 ^ c : Nat) : Int) := by rw [Int.natCast_pow]; rfl
  rw [h2]
  generalize 2 ^ c = q at *
  exact ⟨by rw [IntKind.wrap_i64]; omega, by unfold wrap64; omega⟩

set_option maxHeartbeats 2000000 in
theorem IsOut_any (v u : Value) (ws : List Int) (gs : List (List Int)) (c : Nat) (w : World) (hv : InI w v ws) (hu : InS w u gs) (hr : raceB ws gs = true) (hc : c < ws.length) :
    Calls Tryz.prog 27 #[v, u, .int .i64 (c : Int)] w fun e w' => e = .returned (.bool (decide (0 < proofF ws gs c (mostF ws gs c)))) ∧ Below w.heap.size w w' := by
  have HP := Lib.hid (ProofOut_any v u ws gs c w hv hu hr hc)
  obtain ⟨P, HPe⟩ : ∃ P : Nat, Hid (proofF ws gs c (mostF ws gs c) = P) := ⟨_, rfl⟩
  rw [HPe.out] at HP ⊢
  clear hv hu hr
  go_enter Tryz.func27, Tryz.ntmps27
  go_wp2_with (go_at_call 59; refine HP.out.mono ?_; rintro e w1 ⟨rfl, hb⟩; have HB := Lib.hid hb; clear hb)
  go_ret
  exact ⟨ret_bool (by by_cases h : 0 < P <;> simp [h] <;> omega), HB.out⟩
set_option maxHeartbeats 2000000 in
set_option maxRecDepth 100000 in
theorem implStillIn_any (v u : Value) (ws : List Int) (gs : List (List Int)) (w : World) (hv : InI w v ws) (hu : InS w u gs) (hr : raceB ws gs = true) :
    Calls Tryz.prog 7 #[v, u] w fun e w' => e = .returned (.int .i64 (stillF ws gs : Nat)) ∧ Below w.heap.size w w' := by
  have hR := raceB_t hr
  have hn := hR.n6
  have HV := Lib.hid hv
  have HU := Lib.hid hu
  have HR := Lib.hid hr
  have HO := Lib.hid (implRaceOk_any v u ws gs w hv hu (by omega) (by have := hR.m15; omega))
  obtain ⟨A, d, rfl, _, _, _⟩ := hv
  clear hR
  go_enter Tryz.func7, Tryz.ntmps7
  go_wp2_with (go_at_call 26; refine HO.out.mono ?_; rintro e w1 ⟨rfl, hb⟩; rw [HR.out]; have HB := Lib.hid hb; clear hb)
  go_loopw [5, 13] (fun s i wr => ∃ (j S : Nat), j ≤ ws.length ∧ i = .int .i64 j ∧ s = .int .i64 (S : Int) ∧ Hid (S = stT ws gs j) ∧ Hid (Below w.heap.size w wr)) (fun _ i _ => ws.length - (intOf i).toNat)
  case atStart => exact ⟨0, 0, Nat.zero_le _, rfl, rfl, rfl, HB.out⟩
  case round =>
    obtain ⟨j, S, hj, rfl, rfl, HS, HW⟩ := hrel
    clear HB
    by_cases hlt : j < ws.length
    case neg =>
      obtain rfl : j = ws.length := by omega
      have HE : Hid (S = stillF ws gs) := HS.out
      go_wp2
      go_ret
      exact ⟨by rw [← HE.out]; rfl, HW.out⟩
    have hSl : S < 2 ^ j := by rw [HS.out]; exact stT_lt ws gs j
    have hor := or_bit (show j ≤ 5 by omega) hSl
    obtain ⟨h1, h2⟩ := shl_bit (show j ≤ 5 by omega)
    have HX : Hid (stT ws gs (j + 1) = S + (if proofF ws gs j (mostF ws gs j) = 0 then 2 ^ j else 0)) := by show _ = _; rw [stT, ← HS.out]
    have HI := Lib.hid (IsOut_any _ _ ws gs j _ (HV.out.below HW.out) (HU.out.below HW.out) HR.out hlt)
    obtain ⟨Q, hQ⟩ : ∃ Q : Nat, 2 ^ j = Q := ⟨_, rfl⟩
    rw [hQ] at HX hor h1 h2
    clear hSl hQ
    by_cases hz : proofF ws gs j (mostF ws gs j) = 0
    · have HX2 : Hid (stT ws gs (j + 1) = S + Q) := by show _ = _; rw [HX.out, if_pos hz]
      have HI2 := HI.out
      rw [show decide (0 < proofF ws gs j (mostF ws gs j)) = false by simp [hz]] at HI2
      have HI3 := Lib.hid HI2
      clear HI2 hz
      have HG := Lib.hid (And.intro hor (And.intro h1 h2))
      clear hor h1 h2
      go_wp2_with (go_at_call 27; refine HI3.out.mono ?_; rintro e w2 ⟨rfl, hb⟩; have H2 : Hid (Below w.heap.size w w2) := HW.out.trans (hb.mono HW.out.size); clear hb; have hor := HG.out.1; have h1 := HG.out.2.1; have h2 := HG.out.2.2)
      clear hor h1 h2
      go_roundw
      case rel => exact ⟨j + 1, S + Q, by omega, by go_num, by go_num, by rw [HX2.out]; exact rfl, H2.out⟩
      case measure => simp [intOf]; omega
    · have HX2 : Hid (stT ws gs (j + 1) = S) := by show _ = _; rw [HX.out, if_neg hz]; rfl
      have HI2 := HI.out
      rw [show decide (0 < proofF ws gs j (mostF ws gs j)) = true by simp; omega] at HI2
      have HI3 := Lib.hid HI2
      clear HI2 hz hor h1 h2
      go_wp2_with (go_at_call 27; refine HI3.out.mono ?_; rintro e w2 ⟨rfl, hb⟩; have H2 : Hid (Below w.heap.size w w2) := HW.out.trans (hb.mono HW.out.size); clear hb)
      go_roundw
      case rel => exact ⟨j + 1, S, by omega, by go_num, rfl, by rw [HX2.out]; exact rfl, H2.out⟩
      case measure => simp [intOf]; omega

def inW : List UInt8 := [105, 110]
def magicW : List UInt8 := [109, 97, 103, 105, 99]
def magsF (ws : List Int) (gs : List (List Int)) : List Int := (List.range ws.length).map (magF ws gs)
def raceText (ws : List Int) (gs : List (List Int)) : List UInt8 :=
  if raceB ws gs then Lib.join [inW, fmtF (memL (stillF ws gs)), magicW, fmtF (magsF ws gs)] [32] else [110, 111, 110, 101]
theorem raceText_t {ws : List Int} {gs : List (List Int)} (h : raceB ws gs = true) : raceText ws gs = Lib.join [inW, fmtF (memL (stillF ws gs)), magicW, fmtF (magsF ws gs)] [32] := by rw [raceText, if_pos h]
theorem raceText_f {ws : List Int} {gs : List (List Int)} (h : raceB ws gs = false) : raceText ws gs = [110, 111, 110, 101] := by rw [raceText, h]; rfl
theorem join4 (a b c d : List UInt8) : Lib.join [a, b, c, d] [32] = a ++ [32] ++ b ++ [32] ++ c ++ [32] ++ d := by
  simp [Lib.join_cons, Lib.joinTail, List.append_assoc]
theorem raceCat (a b : List UInt8) : ((((⟨#[105, 110, 32]⟩ : ByteArray) ++ ⟨a.toArray⟩) ++ ⟨#[32, 109, 97, 103, 105, 99, 32]⟩) ++ ⟨b.toArray⟩) = ⟨(Lib.join [inW, a, magicW, b] [32]).toArray⟩ := by
  rw [show (⟨#[105, 110, 32]⟩ : ByteArray) = ⟨([105, 110, 32] : List UInt8).toArray⟩ from rfl, show (⟨#[32, 109, 97, 103, 105, 99, 32]⟩ : ByteArray) = ⟨([32, 109, 97, 103, 105, 99, 32] : List UInt8).toArray⟩ from rfl, bcat, bcat, bcat, join4]
  simp [inW, magicW]
theorem magsF_len (ws : List Int) (gs : List (List Int)) : (magsF ws gs).length = ws.length := by simp [magsF]
theorem magsF_take {ws : List Int} {gs : List (List Int)} {j : Nat} (h : j < ws.length) : (magsF ws gs).take (j + 1) = (magsF ws gs).take j ++ [magF ws gs j] := take_snoc (by simp [magsF, h])
theorem magsF_all (ws : List Int) (gs : List (List Int)) : (magsF ws gs).take ws.length = magsF ws gs := List.take_of_length_le (by rw [magsF_len]; exact Nat.le_refl _)
theorem magsF_wf {ws : List Int} {gs : List (List Int)} (h : Race ws gs) : wfI (magsF ws gs) := by
  intro x hx
  simp only [magsF, List.mem_map, List.mem_range] at hx
  obtain ⟨c, hc, rfl⟩ := hx
  have := magT_bd h c hc ws.length (Nat.le_refl _)
  rw [magF]; omega
theorem memL_wf (s : Nat) : wfI (memL s) := by
  intro x hx
  obtain ⟨a, rfl, h, _⟩ := memT_mem.1 hx
  omega
theorem fmt_len8 {xs : List Int} (h : wfI xs) (hl : xs.length ≤ 8) : (fmtF xs).length ≤ 200 := by
  unfold fmtF
  split
  · simp
  · have := fmt_bound h; omega
theorem stillF_lt {ws : List Int} {gs : List (List Int)} (h : Race ws gs) : stillF ws gs < 256 := by
  have h1 := stT_lt ws gs ws.length
  have h2 : (2 : Nat) ^ ws.length ≤ 64 := pow_bd h.n6
  exact Nat.lt_of_lt_of_le h1 (by omega)

theorem join4_any (w : World) (T1 T2 : List UInt8) (h1 : T1.length ≤ 200) (h2 : T2.length ≤ 200) :
    Calls Tryz.prog 31 #[.slice (some ⟨w.heap.size, 0, none⟩) 4 4, .string ⟨#[32]⟩] (w.alloc (.cells #[.string ⟨#[105, 110]⟩, .string ⟨T1.toArray⟩, .string ⟨#[109, 97, 103, 105, 99]⟩, .string ⟨T2.toArray⟩] 9)) fun e w' => e = .returned (.string ⟨(Lib.join [inW, T1, magicW, T2] [32]).toArray⟩) ∧ Below w.heap.size w w' := by
  have ho := World.ownsRow_lit (base := w.heap.size) (e := 9) (size := 1) w #[.string ⟨inW.toArray⟩, .string ⟨T1.toArray⟩, .string ⟨magicW.toArray⟩, .string ⟨T2.toArray⟩] 4 (Nat.le_refl _) (by unfold maxLen; omega) rfl
  have h := implJoin_any _ w.heap.size 4 [inW, T1, magicW, T2] [32] _ ho (by omega) (by omega) (by rw [join4]; simp [inW, magicW]; omega)
  exact h.mono fun e w' ⟨he, hb⟩ => ⟨he, ((Below.refl _ w).alloc (Nat.le_refl _) _).trans (hb.mono (by simp))⟩
set_option maxHeartbeats 4000000 in
set_option maxRecDepth 100000 in
theorem implRaceLine_any (v u : Value) (ws : List Int) (gs : List (List Int)) (w : World) (hv : InI w v ws) (hu : InS w u gs) (hw : ws.length ≤ 1048576) (hg : gs.length ≤ 1048576) (ht : tabP w) :
    Calls Tryz.prog 21 #[v, u] w fun e w' => e = .returned (.string ⟨(raceText ws gs).toArray⟩) ∧ Below w.heap.size w w' := by
  have HV := Lib.hid hv
  have HU := Lib.hid hu
  have HT := Lib.hid ht
  have HO := Lib.hid (implRaceOk_any v u ws gs w hv hu hw hg)
  obtain ⟨A, d, rfl, _, _, _⟩ := hv
  cases h1 : raceB ws gs
  case false =>
    have HX : Hid (raceText ws gs = [110, 111, 110, 101]) := raceText_f h1
    go_enter Tryz.func21, Tryz.ntmps21
    go_wp2_with (go_at_call 26; refine HO.out.mono ?_; rintro e w1 ⟨rfl, hb⟩; rw [h1]; have HB := Lib.hid hb; clear hb)
    go_ret
    exact ⟨by rw [HX.out]; rfl, HB.out⟩
  have HX : Hid (raceText ws gs = Lib.join [inW, fmtF (memL (stillF ws gs)), magicW, fmtF (magsF ws gs)] [32]) := raceText_t h1
  have HR := Lib.hid h1
  have hR := raceB_t h1
  have hn := hR.n6
  have HRR := Lib.hid hR
  have HML := Lib.hid (magsF_len ws gs)
  clear h1 hR ht
  go_enter Tryz.func21, Tryz.ntmps21
  go_wp2_with (go_at_call 26; refine HO.out.mono ?_; rintro e w1 ⟨rfl, hb⟩; rw [HR.out]; have HB := Lib.hid hb; clear hb)
  have H0 : Hid (Fr w1 w.heap.size w1.heap.size (.slice none 0 0) ((magsF ws gs).take 0) ∧ Below w.heap.size w w1) := ⟨by simpa using Fr.nil w1 (lo := w.heap.size) (Nat.le_refl _), HB.out⟩
  clear HB
  go_loopw [5, 13] (fun s i wr => ∃ (j : Nat) (vv : Value), j ≤ ws.length ∧ i = .int .i64 j ∧ vv = s ∧ Hid (Fr wr w.heap.size wr.heap.size vv ((magsF ws gs).take j) ∧ Below w.heap.size w wr)) (fun _ i _ => ws.length - (intOf i).toNat)
  case atStart => exact ⟨0, _, Nat.zero_le _, rfl, rfl, H0.out⟩
  case round =>
    obtain ⟨j, vv, hj, rfl, rfl, HW⟩ := hrel
    clear H0
    by_cases hlt : j < ws.length
    case pos =>
      have HL : Hid (((magsF ws gs).take j).length = j) := by show _ = _; rw [List.length_take, HML.out]; omega
      have HTK := Lib.hid (magsF_take (gs := gs) hlt)
      have HMG := Lib.hid (implMagic_any _ _ ws gs j _ (HV.out.below HW.out.2) (HU.out.below HW.out.2) HR.out hlt)
      obtain ⟨M, HM⟩ : ∃ M, Hid (magF ws gs j = M) := ⟨_, rfl⟩
      rw [HM.out] at HMG HTK
      go_wp2_with (first
        | (go_at_call 8; refine HMG.out.mono ?_; rintro e w2 ⟨rfl, hb⟩; have H2 : Hid (Fr w2 w.heap.size w2.heap.size vv ((magsF ws gs).take j) ∧ Below w.heap.size w w2) := ⟨(HW.out.1.grow hb).wide (Nat.le_refl _) hb.size (Nat.le_refl _), HW.out.2.trans (hb.mono HW.out.2.size)⟩; clear hb)
        | (at_builtin; refine app1 rfl _ _ rfl w2 w.heap.size vv j ((magsF ws gs).take j) rfl (by have h := H2.out.1.1; rw [HL.out] at h; exact h) M rfl (by omega) H2.out.2.size ?_; intro v3 w3 hown hb3 _ _; have H3 : Hid (Fr w3 w.heap.size w3.heap.size v3 ((magsF ws gs).take (j + 1)) ∧ Below w.heap.size w w3) := ⟨by rw [HTK.out]; exact Fr.of_own (by rw [List.length_append, HL.out]; exact hown), H2.out.2.trans (hb3 _ (Nat.le_refl _) H2.out.2.size)⟩; clear hown hb3))
      go_roundw
      case rel => exact ⟨j + 1, _, by omega, by go_num, rfl, H3.out⟩
      case measure => simp [intOf]; omega
    obtain rfl : j = ws.length := by omega
    rw [magsF_all] at HW
    have HSI := Lib.hid (implStillIn_any _ _ ws gs _ (HV.out.below HW.out.2) (HU.out.below HW.out.2) HR.out)
    have hs256 := stillF_lt HRR.out
    have g1 := fmt_len8 (memL_wf (stillF ws gs)) (by rw [memL_len]; exact cntL_le _)
    have g2 := fmt_len8 (magsF_wf HRR.out) (by rw [HML.out]; omega)
    obtain ⟨SF, HSF⟩ : ∃ SF : Nat, Hid (stillF ws gs = SF) := ⟨_, rfl⟩
    obtain ⟨T1, HT1⟩ : ∃ T1, Hid (fmtF (memL SF) = T1) := ⟨_, rfl⟩
    obtain ⟨T2, HT2⟩ : ∃ T2, Hid (fmtF (magsF ws gs) = T2) := ⟨_, rfl⟩
    rw [HSF.out] at HSI hs256 g1 HX
    rw [HT1.out] at g1 HX
    rw [HT2.out] at g2 HX
    have HGG := Lib.hid (And.intro g1 g2)
    have hmm := memL_len SF
    have hcc := cntL_le SF
    clear g1 g2
    go_wp2_with (first
      | (go_at_call 7; refine HSI.out.mono ?_; rintro e w2 ⟨rfl, hb⟩; have H2 : Hid (InI w2 vv (magsF ws gs) ∧ Below w.heap.size w w2) := ⟨HW.out.1.in_.below hb, HW.out.2.trans (hb.mono HW.out.2.size)⟩; clear hb)
      | (go_at_call 37; refine (membersOf_any SF _ hs256).mono ?_; rintro e w3 ⟨v3, rfl, hf, hb⟩; have H3 : Hid (InI w3 v3 (memL SF) ∧ InI w3 vv (magsF ws gs) ∧ Below w.heap.size w w3) := ⟨hf.in_, H2.out.1.below hb, H2.out.2.trans (hb.mono H2.out.2.size)⟩; clear hb hf H2)
      | (go_at_call 10; refine (implFormatNumbers_any v3 (memL SF) _ H3.out.1 (by omega) (memL_wf SF) (HT.out.below H3.out.2.2 (Nat.le_refl _))).mono ?_; rintro e w4 ⟨rfl, hb⟩; rw [HT1.out]; have H4 : Hid (InI w4 vv (magsF ws gs) ∧ Below w.heap.size w w4) := ⟨H3.out.2.1.below hb, H3.out.2.2.trans (hb.mono H3.out.2.2.size)⟩; clear hb H3)
      | (go_at_call 10; have h_ := H4.out; clear h_; refine (implFormatNumbers_any vv (magsF ws gs) _ H4.out.1 (by rw [HML.out]; omega) (magsF_wf HRR.out) (HT.out.below H4.out.2 (Nat.le_refl _))).mono ?_; rintro e w5 ⟨rfl, hb⟩; rw [HT2.out]; have H5 : Hid (Below w.heap.size w w5) := H4.out.2.trans (hb.mono H4.out.2.size); clear hb H4; have HJ : Hid (Calls Tryz.prog 31 #[.slice (some ⟨w5.heap.size, 0, none⟩) 4 4, .string ⟨#[32]⟩] (w5.alloc (.cells #[.string ⟨#[105, 110]⟩, .string ⟨T1.toArray⟩, .string ⟨#[109, 97, 103, 105, 99]⟩, .string ⟨T2.toArray⟩] 9)) fun e w' => e = .returned (.string ⟨(Lib.join [inW, T1, magicW, T2] [32]).toArray⟩) ∧ Below w5.heap.size w5 w') := join4_any w5 T1 T2 HGG.out.1 HGG.out.2)
      | (go_at_call 31; refine HJ.out.mono ?_; rintro e w6 ⟨rfl, hb⟩; have H6 : Hid (Below w.heap.size w w6) := H5.out.trans (hb.mono H5.out.size); clear hb))
    go_ret
    exact ⟨by rw [HX.out]; rfl, H6.out⟩
end Go.Proofs.YtofpaekokmkhgaaGreatDoor
