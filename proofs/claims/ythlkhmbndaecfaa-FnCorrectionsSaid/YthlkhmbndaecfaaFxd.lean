/- Corrected leagues: the five corrections that the law FnCorrections makes, as contracts. -/
import Derived.Test.YthlkhmbndaecfaaFxc
namespace Go.Proofs.Ythlkhmbndaecfaa
open Go.ChangeShapes Go.WideShapes Go.ChangeAt Go.RowKit

/-- Result i (r) of the league rs; with it corrected to 4:1 (rsY), forfeited (rsF), removed (rsV). -/
structure Fx6 (n m i : Nat) (r : Res) (rs rsY rsF rsV : List Res) : Prop where
  lx : Lx ⟨(n : Int), rs⟩ n m
  ly : Lx ⟨(n : Int), rsY⟩ n m
  lf : Lx ⟨(n : Int), rsF⟩ n m
  lv : Lx ⟨(n : Int), rsV⟩ n (m - 1)
  hi : i < m
  hr : rs[i]? = some r
  hf : rsF[i]? = some ⟨r.h, r.a, 3, 0⟩
  y : replOk ⟨(n : Int), rs⟩ (i : Int) 4 1 = true ∧ replF ⟨(n : Int), rs⟩ (i : Int) 4 1 = ⟨(n : Int), rsY⟩
  z : replOk ⟨(n : Int), rsY⟩ (i : Int) r.g r.t = true ∧ replF ⟨(n : Int), rsY⟩ (i : Int) r.g r.t = ⟨(n : Int), rs⟩
  w : corrOk ⟨(n : Int), rs⟩ [[(i : Int), 0, 0], [(i : Int), 4, 1]] = true ∧ corrF ⟨(n : Int), rs⟩ [[(i : Int), 0, 0], [(i : Int), 4, 1]] = ⟨(n : Int), rsY⟩
  f : forfOk ⟨(n : Int), rs⟩ (i : Int) r.a = true ∧ forfF ⟨(n : Int), rs⟩ (i : Int) r.a = ⟨(n : Int), rsF⟩
  v : hasR ⟨(n : Int), rs⟩ (i : Int) = true ∧ removeF ⟨(n : Int), rs⟩ (i : Int) = ⟨(n : Int), rsV⟩
  pts : ∃ (h a : Nat) (ph pa : Int), r.h = (h : Int) ∧ r.a = (a : Int) ∧ h < n ∧ a < n ∧ 0 ≤ ph ∧ ph ≤ 1000 ∧ (ptsF n rsV)[h]? = some ph ∧ (ptsF n rsY)[h]? = some (ph + 3) ∧ (ptsF n rsV)[a]? = some pa ∧ (ptsF n rsY)[a]? = some pa ∧ (ptsF n rsF)[h]? = some (ph + 3)
  rb : 0 ≤ r.g ∧ r.g ≤ 99 ∧ 0 ≤ r.t ∧ r.t ≤ 99
theorem fx6_of {n m i : Nat} {rs : List Res} (h : Lx ⟨(n : Int), rs⟩ n m) (hi : i < m) : ∃ r rsY rsF rsV, Fx6 n m i r rs rsY rsF rsV := by
  have hl : rs.length = m := h.len
  have hr : rs[i]? = some (rs[i]'(by omega)) := List.getElem?_eq_getElem (by omega)
  generalize rs[i]'(by omega) = r at hr
  have H := fc5_of h hr
  obtain ⟨b0, b1, b2, b3, b4, b5, b6, b7⟩ := H.rb
  refine ⟨r, rs.set i ⟨r.h, r.a, 4, 1⟩, rs.set i ⟨r.h, r.a, 3, 0⟩, rs.eraseIdx i, h, H.yok, H.fok, H.vok, hi, hr, by rw [List.getElem?_set_self (by omega)], H.y, H.z, H.w, H.f, H.v, ?_, b4, b5, b6, b7⟩
  obtain ⟨hh, eh⟩ := Int.eq_ofNat_of_zero_le b0
  obtain ⟨aa, ea⟩ := Int.eq_ofNat_of_zero_le b2
  obtain ⟨ph, p1, p2, p3, p4⟩ := ptsF_get (c := n) (rs := rs.eraseIdx i) (k := hh) (by omega)
  obtain ⟨pa, r1, r2, r3, r4⟩ := ptsF_get (c := n) (rs := rs.eraseIdx i) (k := aa) (by omega)
  obtain ⟨qh, s1, s2, s3, s4⟩ := ptsF_get (c := n) (rs := rs.set i ⟨r.h, r.a, 4, 1⟩) (k := hh) (by omega)
  obtain ⟨qa, t1, t2, t3, t4⟩ := ptsF_get (c := n) (rs := rs.set i ⟨r.h, r.a, 4, 1⟩) (k := aa) (by omega)
  obtain ⟨fh, u1, u2, u3, u4⟩ := ptsF_get (c := n) (rs := rs.set i ⟨r.h, r.a, 3, 0⟩) (k := hh) (by omega)
  have q1 := H.q1
  have q2 := H.q2
  have q3 := H.s1
  rw [eh, Int.toNat_natCast] at q1 q3
  rw [ea, Int.toNat_natCast] at q2
  have e1 : qh = ph + 3 := by rw [← s2, ← p2]; exact q1
  have e2 : qa = pa := by rw [← t2, ← r2]; exact q2
  have e3 : fh = ph + 3 := by rw [← u2, ← p2]; exact q3
  have hm : m ≤ 60 := h.bd.2.2
  have hle : (rs.eraseIdx i).length ≤ 60 := by rw [List.length_eraseIdx_of_lt (by omega)]; omega
  exact ⟨hh, aa, ph, pa, eh, ea, by omega, by omega, p3, by omega, p1, by rw [← e1]; exact s1, r1, by rw [← e2]; exact t1, by rw [← e3]; exact u1⟩
theorem fx_done {w W w' : World} {n m : Nat} {v' : Value} {rs : List Res} (hb0 : Below w.heap.size w W) (ho : OwL w' W.heap.size w'.heap.size v' ⟨(n : Int), rs⟩) (hl : rs.length = m) (hb : Below W.heap.size W w') :
    ∃ A c, v' = .agg #[.int .i64 (n : Int), .slice A m c] ∧ (m ≤ c ∧ c ≤ 2 ^ 63 - 1) ∧ XS w (w'.alloc (.cells #[.int .i64 (n : Int), .slice A m c] 25)) w'.heap.size n A m c rs ∧ Below W.heap.size W (w'.alloc (.cells #[.int .i64 (n : Int), .slice A m c] 25)) := by
  obtain ⟨A, c, e, h1, h2⟩ := xs_ow ho hl (hb0.trans (hb.mono hb0.size))
  exact ⟨A, c, e, h1, h2, hb.alloc hb.size _⟩
theorem wf_small {k : Int} (h0 : 0 ≤ k) (h : k ≤ 1048576) : (Lit.int .i64 k).wf = true := by
  obtain ⟨a, rfl⟩ := Int.eq_ofNat_of_zero_le h0
  exact wf_nat (by omega)
theorem Fx6.cY {n m i : Nat} {r : Res} {rs rsY rsF rsV : List Res} (H : Fx6 n m i r rs rsY rsF rsV) {w W : World} {va : Value} (hx : InL W va ⟨(n : Int), rs⟩) (hb0 : Below w.heap.size w W) :
    Calls Try.prog 16 #[va, .int .i64 (i : Int), .int .i64 4, .int .i64 1] W fun e w' => ∃ A c, e = .returned (.tuple #[.agg #[.int .i64 (n : Int), .slice A m c], .bool true]) ∧ (m ≤ c ∧ c ≤ 2 ^ 63 - 1) ∧ XS w (w'.alloc (.cells #[.int .i64 (n : Int), .slice A m c] 25)) w'.heap.size n A m c rsY ∧ Below W.heap.size W (w'.alloc (.cells #[.int .i64 (n : Int), .slice A m c] 25)) := by
  have h60 := H.lx.bd
  have hi := H.hi
  have hl : rs.length = m := H.lx.len
  refine (implReplaceResult_std va ⟨(n : Int), rs⟩ (i : Int) 4 1 W hx (by show rs.length ≤ _; omega) (wf_nat (by omega)) (wf_nat (k := 4) (by omega)) (wf_nat (k := 1) (by omega))).mono ?_
  rintro e w' ⟨v', rfl, ho, hb⟩
  rw [H.y.2] at ho
  rw [H.y.1]
  obtain ⟨A, c, rfl, h⟩ := fx_done hb0 ho H.ly.len hb
  exact ⟨A, c, rfl, h⟩
theorem Fx6.cZ {n m i : Nat} {r : Res} {rs rsY rsF rsV : List Res} (H : Fx6 n m i r rs rsY rsF rsV) {w W : World} {va : Value} (hx : InL W va ⟨(n : Int), rsY⟩) (hb0 : Below w.heap.size w W) :
    Calls Try.prog 16 #[va, .int .i64 (i : Int), .int .i64 r.g, .int .i64 r.t] W fun e w' => ∃ A c, e = .returned (.tuple #[.agg #[.int .i64 (n : Int), .slice A m c], .bool true]) ∧ (m ≤ c ∧ c ≤ 2 ^ 63 - 1) ∧ XS w (w'.alloc (.cells #[.int .i64 (n : Int), .slice A m c] 25)) w'.heap.size n A m c rs ∧ Below W.heap.size W (w'.alloc (.cells #[.int .i64 (n : Int), .slice A m c] 25)) := by
  have h60 := H.lx.bd
  have hi := H.hi
  have hl : rsY.length = m := H.ly.len
  obtain ⟨g0, g1, t0, t1⟩ := H.rb
  refine (implReplaceResult_std va ⟨(n : Int), rsY⟩ (i : Int) r.g r.t W hx (by show rsY.length ≤ _; omega) (wf_nat (by omega)) (wf_small g0 (by omega)) (wf_small t0 (by omega))).mono ?_
  rintro e w' ⟨v', rfl, ho, hb⟩
  rw [H.z.2] at ho
  rw [H.z.1]
  obtain ⟨A, c, rfl, h⟩ := fx_done hb0 ho H.lx.len hb
  exact ⟨A, c, rfl, h⟩
theorem Fx6.cW {n m i : Nat} {r : Res} {rs rsY rsF rsV : List Res} (H : Fx6 n m i r rs rsY rsF rsV) {w W : World} {va v2 : Value} (hx : InL W va ⟨(n : Int), rs⟩) (h2 : InS W v2 [[(i : Int), 0, 0], [(i : Int), 4, 1]]) (hb0 : Below w.heap.size w W) :
    Calls Try.prog 17 #[va, v2] W fun e w' => ∃ A c, e = .returned (.tuple #[.agg #[.int .i64 (n : Int), .slice A m c], .bool true]) ∧ (m ≤ c ∧ c ≤ 2 ^ 63 - 1) ∧ XS w (w'.alloc (.cells #[.int .i64 (n : Int), .slice A m c] 25)) w'.heap.size n A m c rsY ∧ Below W.heap.size W (w'.alloc (.cells #[.int .i64 (n : Int), .slice A m c] 25)) := by
  have h60 := H.lx.bd
  have hi := H.hi
  have hl : rs.length = m := H.lx.len
  refine (implCorrectAll_std va ⟨(n : Int), rs⟩ v2 _ W hx (by show rs.length ≤ _; omega) h2 (by simp [bulk])).mono ?_
  rintro e w' ⟨v', rfl, ho, hb⟩
  rw [H.w.2] at ho
  rw [H.w.1]
  obtain ⟨A, c, rfl, h⟩ := fx_done hb0 ho H.ly.len hb
  exact ⟨A, c, rfl, h⟩
theorem Fx6.cF {n m i : Nat} {r : Res} {rs rsY rsF rsV : List Res} (H : Fx6 n m i r rs rsY rsF rsV) {w W : World} {va : Value} (hx : InL W va ⟨(n : Int), rs⟩) (hb0 : Below w.heap.size w W) :
    Calls Try.prog 18 #[va, .int .i64 (i : Int), .int .i64 r.a] W fun e w' => ∃ A c, e = .returned (.tuple #[.agg #[.int .i64 (n : Int), .slice A m c], .bool true]) ∧ (m ≤ c ∧ c ≤ 2 ^ 63 - 1) ∧ XS w (w'.alloc (.cells #[.int .i64 (n : Int), .slice A m c] 25)) w'.heap.size n A m c rsF ∧ Below W.heap.size W (w'.alloc (.cells #[.int .i64 (n : Int), .slice A m c] 25)) := by
  have h60 := H.lx.bd
  have hi := H.hi
  have hl : rs.length = m := H.lx.len
  have ha : 0 ≤ r.a ∧ r.a ≤ 1048576 := by obtain ⟨h, a, ph, pa, e1, e2, h1, h2, -⟩ := H.pts; omega
  refine (implForfeitResult_std va ⟨(n : Int), rs⟩ (i : Int) r.a W hx (by show rs.length ≤ _; omega) (wf_nat (by omega)) (wf_small ha.1 ha.2)).mono ?_
  rintro e w' ⟨v', rfl, ho, hb⟩
  rw [H.f.2] at ho
  rw [H.f.1]
  obtain ⟨A, c, rfl, h⟩ := fx_done hb0 ho H.lf.len hb
  exact ⟨A, c, rfl, h⟩
theorem Fx6.cV {n m i : Nat} {r : Res} {rs rsY rsF rsV : List Res} (H : Fx6 n m i r rs rsY rsF rsV) {w W : World} {va : Value} (hx : InL W va ⟨(n : Int), rs⟩) (hb0 : Below w.heap.size w W) :
    Calls Try.prog 13 #[va, .int .i64 (i : Int)] W fun e w' => ∃ A c, e = .returned (.tuple #[.agg #[.int .i64 (n : Int), .slice A (m - 1) c], .bool true]) ∧ (m - 1 ≤ c ∧ c ≤ 2 ^ 63 - 1) ∧ XS w (w'.alloc (.cells #[.int .i64 (n : Int), .slice A (m - 1) c] 25)) w'.heap.size n A (m - 1) c rsV ∧ Below W.heap.size W (w'.alloc (.cells #[.int .i64 (n : Int), .slice A (m - 1) c] 25)) := by
  have h60 := H.lx.bd
  have hi := H.hi
  have hl : rs.length = m := H.lx.len
  refine (implRemoveResult_std va ⟨(n : Int), rs⟩ (i : Int) W hx (by show rs.length ≤ _; omega) (wf_nat (by omega))).mono ?_
  rintro e w' ⟨v', rfl, ho, hb⟩
  rw [H.v.2] at ho
  rw [H.v.1]
  obtain ⟨A, c, rfl, h⟩ := fx_done hb0 ho H.lv.len hb
  exact ⟨A, c, rfl, h⟩
/-- The cells of a league's box, in every later world. -/
theorem XS.later {w W : World} {b n m c : Nat} {A : Option Addr} {rs : List Res} (h : XS w W b n A m c rs) : ∀ W', Below W.heap.size W W' → W'.cell? ⟨b, 0, none⟩ = some (.int .i64 (n : Int)) ∧ W'.cell? ⟨b, 1, none⟩ = some (.slice A m c) := fun W' hW => by
  have hb := (hW.block _ (Array.getElem?_eq_some_iff.1 h.hb).1).trans h.hb
  exact ⟨by rw [cell_blk hb]; rfl, by rw [cell_blk hb]; rfl⟩
theorem RB.later {W : World} {b : Nat} {r : Res} (h : RB W b r) : ∀ W', Below W.heap.size W W' → W'.cell? ⟨b, 0, none⟩ = some (.int .i64 r.h) ∧ W'.cell? ⟨b, 1, none⟩ = some (.int .i64 r.a) ∧ W'.cell? ⟨b, 2, none⟩ = some (.int .i64 r.g) ∧ W'.cell? ⟨b, 3, none⟩ = some (.int .i64 r.t) := fun _ hW => (h.grow hW).cells
end Go.Proofs.Ythlkhmbndaecfaa
