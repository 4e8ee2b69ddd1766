/- Leaders and places after each result: contracts (print/lead.py). -/
import Derived.Test.YthlkhmbndaecfaaTb2
import Derived.Test.YthlkhmbndaecfaaOrd
namespace Go.Proofs.Ythlkhmbndaecfaa
open Go.ChangeShapes Go.WideShapes Go.ChangeAt Go.RowKit

def leadAt (x : LeagueV) (k : Nat) : Int := (tableL ⟨x.clubs, x.results.take k⟩).getD 0 0
def leadF (x : LeagueV) : List Int := (List.range (x.results.length + 1)).map (leadAt x)
def leadersF (x : LeagueV) : List Int := if leagueB x then leadF x else []
theorem leadF_length (x : LeagueV) : (leadF x).length = x.results.length + 1 := by simp [leadF]
theorem leadF_take {x : LeagueV} {j : Nat} (h : j < x.results.length + 1) : (leadF x).take (j + 1) = (leadF x).take j ++ [leadAt x j] := take_snoc (by simp [leadF, h])
theorem leadF_all (x : LeagueV) : (leadF x).take (x.results.length + 1) = leadF x := List.take_of_length_le (by rw [leadF_length]; exact Nat.le_refl _)
theorem leadersF_len {x : LeagueV} : (leadersF x).length ≤ 1048576 := by
  unfold leadersF
  split
  · next hl => rw [leadF_length]; have := leagueB_t hl; omega
  · simp
theorem tableL_ok {cl : Int} {rs : List Res} (h : leagueB ⟨cl, rs⟩ = true) (k : Nat) : (tableL ⟨cl, rs.take k⟩).length = cl.toNat := by rw [tableL, leagueB_take h, if_pos rfl, tableF_length]
theorem afterT_at {x : LeagueV} {k : Nat} (h : leagueB x = true) (hk : k ≤ x.results.length) : afterT x k = tableL ⟨x.clubs, x.results.take k⟩ := by
  have h2 : inB (k : Int) 0 (x.results.length : Int) = true := inB_mk (by omega) (by omega)
  rw [afterT, h, h2]; rfl
def placeAt (x : LeagueV) (a : Int) (k : Nat) : Int := plc (tableL ⟨x.clubs, x.results.take k⟩) a + 1
def placeF (x : LeagueV) (a : Int) : List Int := (List.range (x.results.length + 1)).map (placeAt x a)
def placesF (x : LeagueV) (a : Int) : List Int := if leagueB x && inB a 0 (x.clubs - 1) then placeF x a else []
theorem placeF_length (x : LeagueV) (a : Int) : (placeF x a).length = x.results.length + 1 := by simp [placeF]
theorem placeF_take {x : LeagueV} {a : Int} {j : Nat} (h : j < x.results.length + 1) : (placeF x a).take (j + 1) = (placeF x a).take j ++ [placeAt x a j] := take_snoc (by simp [placeF, h])
theorem placeF_all (x : LeagueV) (a : Int) : (placeF x a).take (x.results.length + 1) = placeF x a := List.take_of_length_le (by rw [placeF_length]; exact Nat.le_refl _)
theorem placesF_len {x : LeagueV} {a : Int} : (placesF x a).length ≤ 1048576 := by
  unfold placesF
  split
  · next hl => rw [placeF_length]; rw [Bool.and_eq_true] at hl; have := leagueB_t hl.1; omega
  · simp
theorem plc_range {xs : List Int} {a : Int} : -1 ≤ plc xs a ∧ plc xs a < xs.length := by
  unfold plc idxF
  split
  · next k h =>
    obtain ⟨h1, _⟩ := List.findIdx?_eq_some_iff_getElem.1 h
    omega
  · omega
/-- The loop: the row vv that is built, the box of the league. -/
structure LdAt (w : World) (lo : Nat) (W : World) (cl : Int) (A : Option Addr) (len c : Nat) (vv : Value) (KS : List Int) : Prop where
  fr : Fr W lo W.heap.size vv KS
  be : Below w.heap.size w W
  q0 : W.cell? ⟨w.heap.size, 0, none⟩ = some (.int .i64 cl)
  q1 : W.cell? ⟨w.heap.size, 1, none⟩ = some (.slice A len c)
  lo1 : w.heap.size < lo
  lo2 : lo ≤ W.heap.size
theorem LdAt.below {w W W' : World} {lo : Nat} {cl : Int} {A : Option Addr} {len c : Nat} {vv : Value} {KS : List Int} (h : LdAt w lo W cl A len c vv KS) (hb : Below W.heap.size W W') : LdAt w lo W' cl A len c vv KS := by
  have h1 := h.lo1
  have h2 := h.lo2
  exact ⟨(h.fr.grow hb).wide (Nat.le_refl _) hb.size (Nat.le_refl _), h.be.trans (hb.mono h.be.size), (hb.cell (p := ⟨w.heap.size, 0, none⟩) (by show w.heap.size < _; omega)).trans h.q0, (hb.cell (p := ⟨w.heap.size, 1, none⟩) (by show w.heap.size < _; omega)).trans h.q1, h1, Nat.le_trans h2 hb.size⟩
theorem LdAt.own {w W : World} {lo : Nat} {cl : Int} {A : Option Addr} {len c : Nat} {vv : Value} {KS : List Int} (h : LdAt w lo W cl A len c vv KS) {j : Nat} (hl : KS.length = j) : W.ownsRow lo 3 1 vv j (ints KS) := by
  have h1 := h.fr.1
  rw [hl] at h1
  exact h1
theorem LdAt.next {w W W' : World} {lo : Nat} {cl : Int} {A : Option Addr} {len c j : Nat} {vv v' : Value} {KS : List Int} {K : Int} (h : LdAt w lo W cl A len c vv KS) (hl : KS.length = j) (hown : W'.ownsRow lo 3 1 v' (j + 1) (ints (KS ++ [K]))) (hb : ∀ B, B ≤ lo → B ≤ W.heap.size → Below B W W') : LdAt w lo W' cl A len c v' (KS ++ [K]) := by
  have h1 := h.lo1
  have h2 := h.lo2
  have B := hb lo (Nat.le_refl _) h2
  exact ⟨Fr.of_own (by rw [List.length_append, hl]; exact hown), h.be.trans (B.mono (by omega)), (B.cell (p := ⟨w.heap.size, 0, none⟩) (by show w.heap.size < _; omega)).trans h.q0, (B.cell (p := ⟨w.heap.size, 1, none⟩) (by show w.heap.size < _; omega)).trans h.q1, h1, Nat.le_trans h2 B.size⟩

set_option maxHeartbeats 400000 in
set_option maxRecDepth 100000 in
theorem slicesIndex_any (A : Option Addr) (c : Nat) (xs : List Int) (x : Int) (w : World) (hs : SlI w A xs) (hn : xs.length ≤ 1048576) :
    Calls Try.prog 32 #[.slice A xs.length c, .int .i64 x] w fun e w' => e = .returned (.int .i64 (plc xs x)) ∧ w = w' := by
  generalize hl : xs.length = n at *
  have HL := Lib.hid hl
  clear hl
  have HS := Lib.hid hs
  clear hs
  go_enter Try.func32, Try.ntmps32
  go_wp2
  go_loop [8] (fun i => ∃ j : Nat, j ≤ n ∧ i = .int .i64 j ∧ Hid ((xs.take j).all (fun y => !(x == y)) = true)) (fun i => n - (intOf i).toNat)
  case atStart => exact ⟨0, Nat.zero_le _, rfl, rfl⟩
  case round =>
    obtain ⟨j, hj, rfl, HT⟩ := hrel
    by_cases hlt : j < n
    · obtain ⟨b, off, y, rfl, hy, hc, _⟩ := HS.out.at_ (k := j) (by rw [HL.out]; exact hlt)
      have HY := Lib.hid hy
      clear hy
      by_cases hxy : x = y
      · have HE : Hid (plc xs x = j) := idxF_hit HT.out HY.out (by simp [hxy])
        have t1 : (x == y) = true := beq_iff_eq.2 hxy
        clear hxy
        go_wp2
        go_ret
        exact ⟨ret_int HE.out.symm, rfl⟩
      · have HT2 : Hid ((xs.take (j + 1)).all (fun y => !(x == y)) = true) := all_take_snoc HT.out HY.out (by simp [hxy])
        have t1 : (x == y) = false := beq_eq_false_iff_ne.2 hxy
        clear hxy
        go_wp2
        go_round
        all_goals first | exact ⟨j + 1, by omega, by go_num, HT2.out⟩ | (simp [intOf]; try omega)
    · obtain rfl : j = n := by omega
      have HE : Hid (plc xs x = -1) := by
        have h := HT.out
        rw [List.take_of_length_le (by rw [HL.out]; exact Nat.le_refl _)] at h
        exact idxF_none h
      go_wp2
      go_ret
      exact ⟨ret_int HE.out.symm, rfl⟩

set_option maxHeartbeats 8000000 in
set_option maxRecDepth 100000 in
theorem implLeadersOf_std (v : Value) (x : LeagueV) (w : World) (hs : InL w v x) (hn : x.results.length ≤ 1048576) :
    Calls Try.prog 5 #[v] w fun e w' => ∃ v', e = .returned v' ∧ Fr w' w.heap.size w'.heap.size v' (leadersF x) ∧ Below w.heap.size w w' := by
  have hs0 := hs
  obtain ⟨A, c, rfl, hc, hm, hsl, hw⟩ := hs
  obtain ⟨cl, rs⟩ := x
  simp only at *
  have HS := Lib.hid hs0
  clear hs0 hsl
  have W1 : Hid (Below w.heap.size w (w.alloc (.cells #[.int .i64 cl, .slice A rs.length c] 25))) := (Below.refl _ w).alloc (Nat.le_refl _) _
  cases h1 : leagueB ⟨cl, rs⟩
  case false =>
    have HE : Hid (leadersF ⟨cl, rs⟩ = []) := by show _ = _; simp [leadersF, h1]
    go_enter Try.func5, Try.ntmps5
    go_wp2_with fail
    refine (implLeagueOk_any _ _ _ (HS.out.below W1.out)).mono ?_
    rintro e w1 ⟨rfl, hb⟩
    rw [h1]
    have HB : Hid (Below w.heap.size w w1) := W1.out.trans (hb.mono (by simp))
    clear hb
    go_wp2
    go_ret
    exact ⟨_, rfl, by rw [HE.out]; exact Fr.nil _ (Nat.le_refl _), HB.out⟩
  obtain ⟨k1, k2, l3, _⟩ := leagueB_t h1
  simp only at k1 k2 l3
  have HE : Hid (leadersF ⟨cl, rs⟩ = leadF ⟨cl, rs⟩) := by show _ = _; simp [leadersF, h1]
  have hcl : 0 < cl.toNat ∧ cl.toNat ≤ 8 := by omega
  have H1 := Lib.hid (And.intro h1 hcl)
  have HN := Lib.hid hn
  clear hcl
  go_enter Try.func5, Try.ntmps5
  go_wp2_with fail
  refine (implLeagueOk_any _ _ _ (HS.out.below W1.out)).mono ?_
  rintro e w1 ⟨rfl, hb⟩
  rw [h1]
  have q0 : w1.cell? ⟨w.heap.size, 0, none⟩ = some (.int .i64 cl) := by rw [hb.cell (p := ⟨w.heap.size, 0, none⟩) (by simp)]; simp
  have q1 : w1.cell? ⟨w.heap.size, 1, none⟩ = some (.slice A rs.length c) := by rw [hb.cell (p := ⟨w.heap.size, 1, none⟩) (by simp)]; simp
  have hlt1 : w.heap.size < w1.heap.size := by have := hb.size; simp at this; omega
  have HB : Hid (Below w.heap.size w w1) := W1.out.trans (hb.mono (by simp))
  clear hb
  have HX : Hid (LdAt w w1.heap.size w1 cl A rs.length c (.slice none 0 0) []) := ⟨Fr.nil _ (Nat.le_refl _), HB.out, q0, q1, hlt1, Nat.le_refl _⟩
  go_wp2_with fail
  go_loopw [3, 12] (fun v i wr => ∃ (j : Nat) (vv : Value), j ≤ rs.length + 1 ∧ i = .int .i64 j ∧ vv = v ∧ Hid (LdAt w w1.heap.size wr cl A rs.length c vv ((leadF ⟨cl, rs⟩).take j))) (fun _ i _ => rs.length + 1 - (intOf i).toNat)
  case atStart => exact ⟨0, _, Nat.zero_le _, rfl, rfl, HX.out⟩
  case round =>
    obtain ⟨j, vv, hj, rfl, rfl, HR⟩ := hrel
    clear HX HB q0 q1
    by_cases hlt : j < rs.length + 1
    case neg =>
      obtain rfl : j = rs.length + 1 := by omega
      have hF := HR.out.fr
      rw [show (leadF ⟨cl, rs⟩).take (rs.length + 1) = leadF ⟨cl, rs⟩ from leadF_all ⟨cl, rs⟩] at hF
      have HF := Lib.hid hF
      have q1 := HR.out.q1
      clear hF
      go_wp2
      go_ret
      exact ⟨_, rfl, by rw [HE.out]; exact HF.out.wide (Nat.le_of_lt HR.out.lo1) (Nat.le_refl _) (Nat.le_refl _), HR.out.be⟩
    have q0 := HR.out.q0
    have q1 := HR.out.q1
    have hjl : j ≤ rs.length := by omega
    have HJ : Hid (((leadF ⟨cl, rs⟩).take j).length = j ∧ (leadF ⟨cl, rs⟩).take (j + 1) = (leadF ⟨cl, rs⟩).take j ++ [leadAt ⟨cl, rs⟩ j] ∧ j ≤ 1048576) := ⟨by rw [List.length_take, show (leadF ⟨cl, rs⟩).length = rs.length + 1 from leadF_length ⟨cl, rs⟩]; omega, leadF_take (x := ⟨cl, rs⟩) hlt, by omega⟩
    have hjw : (Lit.int .i64 (j : Int)).wf = true := by
      have e1 : IntKind.i64.min = -9223372036854775808 := by decide
      have e2 : IntKind.i64.max = 9223372036854775807 := by decide
      simp [Lit.wf, e1, e2]; omega
    go_wp2_with fail
    refine (implTableAfter_std _ ⟨cl, rs⟩ j _ (HS.out.below HR.out.be) HN.out hjw).mono ?_
    rintro e w4 ⟨v4, rfl, hf, hb⟩
    rw [afterT_at (x := ⟨cl, rs⟩) H1.out.1 hjl] at hf
    have hTL := tableL_ok H1.out.1 j
    obtain ⟨g4, c4, rfl, -, -⟩ := hf.someA (by rw [hTL]; exact H1.out.2.1)
    obtain ⟨g5, y, e5, -, -, ey, cy, -, -⟩ := hf.at_ (k := 0) (by rw [hTL]; exact H1.out.2.1)
    obtain rfl : g4 = g5 := congrArg Addr.block (Option.some.inj e5)
    have HY : Hid (y = leadAt ⟨cl, rs⟩ j) := by show _ = _; rw [leadAt, List.getD_eq_getElem?_getD, ey]; rfl
    (try simp only at hTL)
    rw [hTL]
    clear e5 ey
    have H4 : Hid (LdAt w w1.heap.size w4 cl A rs.length c vv ((leadF ⟨cl, rs⟩).take j)) := HR.out.below hb
    have hcl8 : (0 : Int) < (cl.toNat : Int) := by have := H1.out.2.1; omega
    clear hf hb q0 q1
    go_wp2_with (at_builtin; refine app1 rfl _ _ rfl w4 w1.heap.size vv j ((leadF ⟨cl, rs⟩).take j) rfl (H4.out.own HJ.out.1) _ rfl HJ.out.2.2 H4.out.lo2 ?_; intro v5 w5 hown hb5 _ _; rw [HY.out] at hown; have H5 := Lib.hid (H4.out.next HJ.out.1 hown hb5); clear hown hb5)
    all_goals exact ⟨⟨j + 1, v5, by omega, by go_num, rfl, by rw [HJ.out.2.1]; exact H5.out⟩, by simp [intOf]; try omega⟩

set_option maxHeartbeats 8000000 in
set_option maxRecDepth 100000 in
theorem implPlacesIn_std (v : Value) (x : LeagueV) (a : Int) (w : World) (hs : InL w v x) (hn : x.results.length ≤ 1048576) (_ha : (Lit.int .i64 a).wf = true) :
    Calls Try.prog 11 #[v, .int .i64 a] w fun e w' => ∃ v', e = .returned v' ∧ Fr w' w.heap.size w'.heap.size v' (placesF x a) ∧ Below w.heap.size w w' := by
  have hs0 := hs
  obtain ⟨A, c, rfl, hc, hm, hsl, hw⟩ := hs
  obtain ⟨cl, rs⟩ := x
  simp only at *
  have HS := Lib.hid hs0
  clear hs0 hsl
  have W1 : Hid (Below w.heap.size w (w.alloc (.cells #[.int .i64 cl, .slice A rs.length c] 25))) := (Below.refl _ w).alloc (Nat.le_refl _) _
  cases h1 : leagueB ⟨cl, rs⟩
  case false =>
    have HE : Hid (placesF ⟨cl, rs⟩ a = []) := by show _ = _; simp [placesF, h1]
    go_enter Try.func11, Try.ntmps11
    go_wp2_with fail
    refine (implLeagueOk_any _ _ _ (HS.out.below W1.out)).mono ?_
    rintro e w1 ⟨rfl, hb⟩
    rw [h1]
    have HB : Hid (Below w.heap.size w w1) := W1.out.trans (hb.mono (by simp))
    clear hb
    go_wp2
    go_ret
    exact ⟨_, rfl, by rw [HE.out]; exact Fr.nil _ (Nat.le_refl _), HB.out⟩
  obtain ⟨l1, l2, -, -⟩ := leagueB_t h1
  simp only at l1 l2
  cases h2 : inB a 0 (cl - 1)
  case false =>
    have HE : Hid (placesF ⟨cl, rs⟩ a = []) := by show _ = _; simp [placesF, h2]
    go_enter Try.func11, Try.ntmps11
    go_wp2_with fail
    refine (implLeagueOk_any _ _ _ (HS.out.below W1.out)).mono ?_
    rintro e w1 ⟨rfl, hb⟩
    rw [h1]
    have q0 : w1.cell? ⟨w.heap.size, 0, none⟩ = some (.int .i64 cl) := by rw [hb.cell (p := ⟨w.heap.size, 0, none⟩) (by simp)]; simp
    have q1 : w1.cell? ⟨w.heap.size, 1, none⟩ = some (.slice A rs.length c) := by rw [hb.cell (p := ⟨w.heap.size, 1, none⟩) (by simp)]; simp
    have hlt1 : w.heap.size < w1.heap.size := by have := hb.size; simp at this; omega
    have HB : Hid (Below w.heap.size w w1) := W1.out.trans (hb.mono (by simp))
    clear hb
    go_wp2_with fail
    refine (has_any _ _ _ _ l1 l2).mono ?_
    rintro e w2 ⟨rfl, hb⟩
    rw [h2]
    replace HB : Hid (Below w.heap.size w w2) := HB.out.trans (hb.mono HB.out.size)
    clear hb
    go_wp2
    go_ret
    exact ⟨_, rfl, by rw [HE.out]; exact Fr.nil _ (Nat.le_refl _), HB.out⟩
  obtain ⟨k1, k2, l3, _⟩ := leagueB_t h1
  simp only at k1 k2 l3
  have HE : Hid (placesF ⟨cl, rs⟩ a = placeF ⟨cl, rs⟩ a) := by show _ = _; simp [placesF, h1, h2]
  have hcl : 0 < cl.toNat ∧ cl.toNat ≤ 8 := by omega
  have H1 := Lib.hid (And.intro h1 hcl)
  have HN := Lib.hid hn
  clear hcl
  go_enter Try.func11, Try.ntmps11
  go_wp2_with fail
  refine (implLeagueOk_any _ _ _ (HS.out.below W1.out)).mono ?_
  rintro e w1 ⟨rfl, hb⟩
  rw [h1]
  have q0 : w1.cell? ⟨w.heap.size, 0, none⟩ = some (.int .i64 cl) := by rw [hb.cell (p := ⟨w.heap.size, 0, none⟩) (by simp)]; simp
  have q1 : w1.cell? ⟨w.heap.size, 1, none⟩ = some (.slice A rs.length c) := by rw [hb.cell (p := ⟨w.heap.size, 1, none⟩) (by simp)]; simp
  have hlt1 : w.heap.size < w1.heap.size := by have := hb.size; simp at this; omega
  have HB : Hid (Below w.heap.size w w1) := W1.out.trans (hb.mono (by simp))
  clear hb
  go_wp2_with fail
  refine (has_any _ _ _ _ l1 l2).mono ?_
  rintro e w2 ⟨rfl, hb⟩
  rw [h2]
  replace q0 := (hb.cell (p := ⟨w.heap.size, 0, none⟩) hlt1).trans q0
  replace q1 := (hb.cell (p := ⟨w.heap.size, 1, none⟩) hlt1).trans q1
  replace HB : Hid (Below w.heap.size w w2) := HB.out.trans (hb.mono HB.out.size)
  replace hlt1 : w.heap.size < w2.heap.size := Nat.lt_of_lt_of_le hlt1 hb.size
  clear hb
  have HX : Hid (LdAt w w2.heap.size w2 cl A rs.length c (.slice none 0 0) []) := ⟨Fr.nil _ (Nat.le_refl _), HB.out, q0, q1, hlt1, Nat.le_refl _⟩
  go_wp2_with fail
  go_loopw [5, 20] (fun v i wr => ∃ (j : Nat) (vv : Value), j ≤ rs.length + 1 ∧ i = .int .i64 j ∧ vv = v ∧ Hid (LdAt w w2.heap.size wr cl A rs.length c vv ((placeF ⟨cl, rs⟩ a).take j))) (fun _ i _ => rs.length + 1 - (intOf i).toNat)
  case atStart => exact ⟨0, _, Nat.zero_le _, rfl, rfl, HX.out⟩
  case round =>
    obtain ⟨j, vv, hj, rfl, rfl, HR⟩ := hrel
    clear HX HB q0 q1
    by_cases hlt : j < rs.length + 1
    case neg =>
      obtain rfl : j = rs.length + 1 := by omega
      have hF := HR.out.fr
      rw [show (placeF ⟨cl, rs⟩ a).take (rs.length + 1) = placeF ⟨cl, rs⟩ a from placeF_all ⟨cl, rs⟩ a] at hF
      have HF := Lib.hid hF
      have q1 := HR.out.q1
      clear hF
      go_wp2
      go_ret
      exact ⟨_, rfl, by rw [HE.out]; exact HF.out.wide (Nat.le_of_lt HR.out.lo1) (Nat.le_refl _) (Nat.le_refl _), HR.out.be⟩
    have q0 := HR.out.q0
    have q1 := HR.out.q1
    have hjl : j ≤ rs.length := by omega
    have HJ : Hid (((placeF ⟨cl, rs⟩ a).take j).length = j ∧ (placeF ⟨cl, rs⟩ a).take (j + 1) = (placeF ⟨cl, rs⟩ a).take j ++ [placeAt ⟨cl, rs⟩ a j] ∧ j ≤ 1048576) := ⟨by rw [List.length_take, show (placeF ⟨cl, rs⟩ a).length = rs.length + 1 from placeF_length ⟨cl, rs⟩ a]; omega, placeF_take (x := ⟨cl, rs⟩) hlt, by omega⟩
    have hjw : (Lit.int .i64 (j : Int)).wf = true := by
      have e1 : IntKind.i64.min = -9223372036854775808 := by decide
      have e2 : IntKind.i64.max = 9223372036854775807 := by decide
      simp [Lit.wf, e1, e2]; omega
    go_wp2_with fail
    refine (implTableAfter_std _ ⟨cl, rs⟩ j _ (HS.out.below HR.out.be) HN.out hjw).mono ?_
    rintro e w4 ⟨v4, rfl, hf, hb⟩
    rw [afterT_at (x := ⟨cl, rs⟩) H1.out.1 hjl] at hf
    have hTL := tableL_ok H1.out.1 j
    obtain ⟨g4, c4, rfl, -, -⟩ := hf.someA (by rw [hTL]; exact H1.out.2.1)
    (try simp only at hTL)
    have hpr := plc_range (xs := tableL ⟨cl, rs.take j⟩) (a := a)
    have HY : Hid (plc (tableL ⟨cl, rs.take j⟩) a + 1 = placeAt ⟨cl, rs⟩ a j) := rfl
    have HSL := Lib.hid hf.sl
    have H4 : Hid (LdAt w w2.heap.size w4 cl A rs.length c vv ((placeF ⟨cl, rs⟩ a).take j)) := HR.out.below hb
    have hcl8 : (0 : Int) < (cl.toNat : Int) := by have := H1.out.2.1; omega
    clear hf hb q0 q1
    have hp3 : -1 ≤ plc (tableL ⟨cl, rs.take j⟩) a ∧ plc (tableL ⟨cl, rs.take j⟩) a ≤ 8 := by have := H1.out.2.2; rw [hTL] at hpr; omega
    have hTL8 : (tableL ⟨cl, rs.take j⟩).length ≤ 1048576 := by have := H1.out.2.2; omega
    clear hpr hTL
    go_wp2_with fail
    refine (slicesIndex_any _ _ _ _ _ HSL.out hTL8).mono ?_
    rintro e w' ⟨rfl, rfl⟩
    clear HSL
    obtain ⟨hp1, hp2⟩ := hp3
    generalize plc (tableL ⟨cl, rs.take j⟩) a = py at *
    go_wp2_with (at_builtin; refine app1 rfl _ _ rfl w4 w2.heap.size vv j ((placeF ⟨cl, rs⟩ a).take j) rfl (H4.out.own HJ.out.1) _ rfl HJ.out.2.2 H4.out.lo2 ?_; intro v5 w5 hown hb5 _ _; rw [HY.out] at hown; have H5 := Lib.hid (H4.out.next HJ.out.1 hown hb5); clear hown hb5)
    all_goals exact ⟨⟨j + 1, v5, by omega, by go_num, rfl, by rw [HJ.out.2.1]; exact H5.out⟩, by simp [intOf]; try omega⟩
end Go.Proofs.Ythlkhmbndaecfaa
