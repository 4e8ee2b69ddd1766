/- Integers as texts: the reference's contract. -/
import Derived.Test.YtklhplifceedeaaDoorSl
import Derived.Lib.ItoaNum
import Derived.Lib.ItoaLen
import Derived.Lib.ItoaMem
import Derived.Below
import Derived.Laws.IdiomStrings
import Derived.Laws.Concat
import Derived.Deep.RegionHeld3
import Derived.Deep.RegionWith
import Derived.Deep.Cut
import Derived.Deep.CutRange
import Derived.Lib.Hide
namespace Go.Proofs.YtklhplifceedeaaDoor
open Go.ChangeShapes Go.WideShapes Go.ChangeAt Go.RowKit

theorem decDigits_big {u : Nat} (h : ¬ u < 10) : Lib.decDigits u = Lib.decDigits (u / 10) ++ [UInt8.ofNat (48 + u % 10)] := by rw [Lib.decDigits, dif_neg h]
theorem dec_len {n : Nat} (h : n ≤ 9223372036854775807) : (Lib.decDigits n).length ≤ 21 := by
  have := Lib.itoa_length_le (n : Int) (by omega) (by omega)
  rwa [Lib.itoa_nonneg] at this
theorem bcat (a b : List UInt8) : (⟨a.toArray⟩ : ByteArray) ++ ⟨b.toArray⟩ = ⟨(a ++ b).toArray⟩ := by
  apply ByteArray.ext; simp
theorem bcat1 (x : UInt8) (b : List UInt8) : (⟨#[x]⟩ : ByteArray) ++ ⟨b.toArray⟩ = ⟨(x :: b).toArray⟩ := bcat [x] b
theorem drew_lt (w : World) (o : Obj) : w.heap.size < ((w.alloc o).drew).heap.size := by show w.heap.size < (w.alloc o).heap.size; simp
set_option maxRecDepth 100000 in
theorem byteAt (W : World) (g : Nat) (x : Int) (h0 : 0 ≤ x) (h1 : x < 256) (hg : W.cell? ⟨g, 0, none⟩ = some (.int .u8 x)) :
    (convert 53 9 (.slice (some ⟨g, 0, none⟩) 1 1)).run Tryd.prog W = .ok (.string ⟨#[UInt8.ofNat x.toNat]⟩) W :=
  run_convert_bytes_back (P := Tryd.prog) W 53 9 5 ⟨g, 0, none⟩ 1 [UInt8.ofNat x.toNat] Tryd.underlying53 Tryd.underlying5 Tryd.underlying9 (fun j hj => by
    have hj0 : j = 0 := by simpa using hj
    subst hj0
    have e : ((UInt8.ofNat x.toNat).toNat : Int) = x := by
      rw [UInt8.toNat_ofNat']; omega
    simp only [Addr.add, Nat.add_zero, List.getElem_cons_zero]
    rw [e]; exact hg)
set_option maxRecDepth 100000 in
/-- 'string([]byte{b})'. -/
theorem byteStr (W : World) (x : Int) (h0 : 0 ≤ x) (h1 : x < 256) :
    (convert 53 9 (.slice (some ⟨W.heap.size, 0, none⟩) 1 1)).run Tryd.prog (W.alloc (.cells #[.int .u8 x] 5)) = .ok (.string ⟨#[UInt8.ofNat x.toNat]⟩) (W.alloc (.cells #[.int .u8 x] 5)) := by
  have h := run_convert_bytes_back (P := Tryd.prog) (W.alloc (.cells #[.int .u8 x] 5)) 53 9 5 ⟨W.heap.size, 0, none⟩ 1 [UInt8.ofNat x.toNat] Tryd.underlying53 Tryd.underlying5 Tryd.underlying9 (fun j hj => by
    have hj0 : j = 0 := by simpa using hj
    subst hj0
    have e : ((UInt8.ofNat x.toNat).toNat : Int) = x := by
      rw [UInt8.toNat_ofNat']; omega
    simp [Addr.add, go_sem]
    omega)
  exact h
set_option maxHeartbeats 1000000 in
set_option maxRecDepth 100000 in
theorem specFormatInt_pos (n : Nat) (w : World) (hn : n ≤ 9223372036854775807) :
    Calls Tryd.prog 22 #[.int .i64 n] w fun e w' => e = .returned (.string ⟨(Lib.itoa n).toArray⟩) ∧ Below w.heap.size w w' := by
  go_enter Tryd.func22, Tryd.ntmps22
  go_wp2_with fail
  go_loopw [0, 3] (fun nv sv wr => ∃ (m : Nat) (l : List UInt8), m ≤ n ∧ nv = .int .i64 m ∧ sv = .string ⟨l.toArray⟩ ∧ l.length ≤ 21 ∧ Hid (Lib.decDigits n = Lib.decDigits m ++ l) ∧ Hid (Below w.heap.size w wr)) (fun nv _ _ => (intOf nv).toNat)
  case atStart => exact ⟨n, [], Nat.le_refl _, rfl, rfl, by simp, by show _ = _; simp, Below.refl _ _⟩
  case round =>
    obtain ⟨m, l, hm, rfl, rfl, hl, HD, HB⟩ := hrel
    by_cases h9 : 9 < m
    · have kc := byteStr wr (48 + (m : Int) % 10) (by omega) (by omega)
      have HN : Hid (Lib.decDigits n = Lib.decDigits (m / 10) ++ (UInt8.ofNat (48 + m % 10) :: l)) := by
        show _ = _
        rw [HD.out, decDigits_big (by omega)]; simp
      go_wp2
      refine ⟨⟨m / 10, UInt8.ofNat (48 + m % 10) :: l, by omega, by go_num, ?_, ?_, HN, HB.out.alloc HB.out.size _⟩, by simp [intOf]; omega⟩
      · rw [bcat1]; simp [UInt8.ofNat_add]
      · have h1 := dec_len hn
        have h2 := HN.out
        rw [h2] at h1
        rw [List.length_append] at h1; omega
    · have kc := byteStr wr (48 + (m : Int)) (by omega) (by omega)
      go_wp2
      go_ret
      refine ⟨?_, HB.out.alloc HB.out.size _⟩
      show Ending.returned (Value.string ((⟨#[48 + UInt8.ofNat m]⟩ : ByteArray) ++ ⟨l.toArray⟩)) = _
      have h1 := HD.out
      rw [Lib.decDigits_one (i := m) (by omega)] at h1
      rw [Lib.itoa_nonneg, h1, bcat1]; simp [UInt8.ofNat_add]
/-- One digit more behind a negative number's text. -/
theorem td10 (u : Nat) : (-(u : Int)).tdiv 10 = -((u / 10 : Nat) : Int) := by
  rw [Int.neg_tdiv, Int.tdiv_eq_ediv_of_nonneg (by omega)]; rfl
theorem tm10 (u : Nat) : (-(u : Int)).tmod 10 = -((u % 10 : Nat) : Int) := by
  rw [Int.neg_tmod, Int.tmod_eq_emod_of_nonneg (by omega)]; rfl
theorem itoa_more {u : Nat} (h : 10 ≤ u) : Lib.itoa (-(u : Int)) = Lib.itoa (-((u / 10 : Nat) : Int)) ++ [UInt8.ofNat (48 + u % 10)] := by
  rw [Lib.itoa_neg u (by omega), Lib.itoa_neg (u / 10) (by omega), decDigits_big (u := u) (by omega)]
  simp
theorem itoa_one {u : Nat} (h : 1 ≤ u) (h2 : u < 10) : Lib.itoa (-(u : Int)) = [45, UInt8.ofNat (48 + u)] := by
  rw [Lib.itoa_neg u (by omega), Lib.decDigits_one (by omega)]
set_option maxHeartbeats 1000000 in
set_option maxRecDepth 100000 in
theorem specFormatInt_neg (k : Nat) : ∀ (u : Nat) (w : World), 1 ≤ u → u ≤ 9223372036854775808 → u ≤ k →
    Calls Tryd.prog 22 #[.int .i64 (-(u : Int))] w fun e w' => e = .returned (.string ⟨(Lib.itoa (-(u : Int))).toArray⟩) ∧ Below w.heap.size w w' := by
  induction k with
  | zero => intro u w h1 _ h3; omega
  | succ k ih =>
    intro u w h1 h2 h3
    have j0 := td10 u
    have j1 := tm10 u
    by_cases h10 : u < 10
    · have kc := byteStr w (48 + (u : Int)) (by omega) (by omega)
      have j2 : u / 10 = 0 := by omega
      rw [j2] at j0
      go_enter Tryd.func22, Tryd.ntmps22
      go_wp2
      go_ret
      refine ⟨?_, (Below.refl _ w).alloc (Nat.le_refl _) _⟩
      show Ending.returned (Value.string ((⟨#[45]⟩ : ByteArray) ++ ⟨#[48 + UInt8.ofNat u]⟩)) = _
      rw [itoa_one h1 h10, bcat1 45 [48 + UInt8.ofNat u]]; simp [UInt8.ofNat_add]
    · have e1 : ((-((u / 10 : Nat) : Int)) == 0) = false := by
        have : ¬ (-((u / 10 : Nat) : Int)) = 0 := by omega
        simpa using this
      have IH := Lib.hid ih
      have HM := Lib.hid (itoa_more (u := u) (by omega))
      have hd : ((48 : Int) - (-((u % 10 : Nat) : Int))) = 48 + ((u % 10 : Nat) : Int) := by omega
      have J : Hid (IntKind.i64.wrap (-((u : Int) / 10)) = -((u / 10 : Nat) : Int)) := by show _ = _; rw [IntKind.wrap_i64]; omega
      have m1 : IntKind.i64.wrap (48 + (u : Int) % 10) = 48 + (u : Int) % 10 := by rw [IntKind.wrap_i64]; omega
      have m2 : IntKind.u8.wrap (48 + (u : Int) % 10) = 48 + (u : Int) % 10 := by unfold IntKind.wrap; simp [IntKind.bits, IntKind.signed]; omega
      have kc : ∀ (W : World) (g : Nat), W.cell? ⟨g, 0, none⟩ = some (.int .u8 (48 + (u : Int) % 10)) → (convert 53 9 (.slice (some ⟨g, 0, none⟩) 1 1)).run Tryd.prog W = .ok (.string ⟨#[UInt8.ofNat (48 + u % 10)]⟩) W := by
        intro W g hg
        have h := byteAt W g (48 + (u : Int) % 10) (by omega) (by omega) hg
        rw [show (48 + (u : Int) % 10).toNat = 48 + u % 10 from by omega] at h
        exact h
      have hsz : (Lib.itoa (-((u : Int) / 10))).length ≤ 21 := Lib.itoa_length_le _ (by omega) (by omega)
      clear ih hd
      go_enter Tryd.func22, Tryd.ntmps22
      go_upto_region 4 with (fail)
      go_region_with (go_at_call 22; rw [J.out]; refine (IH.out (u / 10) _ (by omega) (by omega) (by omega)).mono ?_; rintro e w2 ⟨rfl, hb2⟩; first | (have q := (hb2.cell (p := ⟨w.heap.size, 0, none⟩) (drew_lt w _)).trans (show _ = some (Value.int .u8 (48 + (u : Int) % 10)) from by simp [go_sem]); have B2 : Hid (Below w.heap.size w w2) := (((Below.refl w.heap.size w).alloc (Nat.le_refl _) _).trans ((below_undraw (q := 1) hb2).mono (Nat.le_of_lt (drew_lt w _)))); clear hb2) | (have B2 : Hid (Below w.heap.size w w2) := below_undraw (q := 1) hb2; clear hb2))
      all_goals
        go_wp2
        go_ret
        refine ⟨?_, by first | exact B2.out | exact B2.out.alloc B2.out.size _⟩
        show Ending.returned (Value.string ((⟨(Lib.itoa (-((u : Int) / 10))).toArray⟩ : ByteArray) ++ ⟨#[48 + UInt8.ofNat (u % 10)]⟩)) = _
        rw [bcat _ [48 + UInt8.ofNat (u % 10)], HM.out, Int.natCast_ediv]; simp [UInt8.ofNat_add]
set_option maxRecDepth 100000 in
/-- Every integer's text. -/
theorem specFormatInt_any (n : Int) (w : World) (h0 : -9223372036854775808 ≤ n) (h1 : n ≤ 9223372036854775807) :
    Calls Tryd.prog 22 #[.int .i64 n] w fun e w' => e = .returned (.string ⟨(Lib.itoa n).toArray⟩) ∧ Below w.heap.size w w' := by
  by_cases hn : 0 ≤ n
  · obtain ⟨m, rfl⟩ := Int.eq_ofNat_of_zero_le hn
    exact specFormatInt_pos m w (by omega)
  · obtain ⟨u, rfl⟩ : ∃ u : Nat, n = -(u : Int) := ⟨n.natAbs, by omega⟩
    exact specFormatInt_neg u u w (by omega) (by omega) (Nat.le_refl _)
end Go.Proofs.YtklhplifceedeaaDoor
