/- The reference's table. -/
import Derived.Test.YtpjbgcflepebgaaDoorTk
import Derived.Maps.AppendAt
namespace Go.Proofs.YtpjbgcflepebgaaDoor
open Go.ChangeShapes Go.WideShapes Go.ChangeAt Go.RowKit

set_option maxRecDepth 100000 in
/-- 'out = append(out, x)' at a row of the call's own. -/
theorem app1At {ops : Array Oper} {rest : List Oper} {o : Oper} {a : Act} {Q : Exit → Act → World → Prop} (hgd : o.guard = none) (s y : Operand)
    (ho : o.op = .call { callee := .builtin .append, args := #[s, y], argTypes := #[39, 39] })
    (w : World) (base : Nat) (v : Value) (n : Nat) (xs : List Int) (hs : a.eval s = v) (hown : w.ownsRow base 3 1 v n (ints xs)) (x : Int)
    (hx : a.eval y = .slice (some ⟨w.heap.size, 0, none⟩) 1 1) (hl : n ≤ 1048576) (hbase : base ≤ w.heap.size)
    (h : ∀ v' w', w'.ownsRow base 3 1 v' (n + 1) (ints (xs ++ [x])) → (∀ B, B ≤ base → B ≤ w.heap.size → Below B w w') → w.heap.size < w'.heap.size → w.grownBy w' v.ownBlock → (v'.ownBlock = v.ownBlock ∨ v'.ownBlock = some (w.heap.size + 1)) → wpList Tryd.prog ops Q rest (a.put o.dst v') w') :
    wpList Tryd.prog ops Q (o :: rest) a (w.alloc (.cells #[.int .i64 x] 3)) := by
  obtain ⟨i0, hi, hz0, hz1, hz2⟩ := info_parts infoInt
  refine wpList_append_own_at _ hgd s y _ ho base 3 i0 (.int .i64 0) 1 8 Tryd.underlying39 hi hz0 hz1 hz2 rfl (by decide) v n (ints xs) hs (hown.alloc _) ⟨w.heap.size, 0, none⟩ 1 1 [.int .i64 x] hx rfl ?_ ?_ (by unfold maxLen; omega) (by omega) (by simp; omega) ?_
  · intro j u hj
    match j, hj with
    | 0, hj => simp at hj; subst hj; simp [Addr.add]
  · intro u hu; simp at hu; subst hu; rfl
  · intro v' w' h2 h3 _ h6
    rw [World.size_alloc] at h6
    have hsz := h3.size
    simp only [World.size_alloc] at hsz
    refine h v' w' (by rw [ints_append]; exact h2) (fun B h4 h5 => ?_) (by omega) ?_ h6
    · refine ((Below.refl B w).alloc h5 _).grown h3 (by simp; omega) (fun k hk => ?_)
      have := (hown.lt k hk).1; omega
    · exact ⟨h3.os, h3.tape, h3.output, by omega, fun k hk hne => by rw [h3.block k (by simp; omega) hne]; exact Below.heap_alloc _ _ _ hk⟩


/-- The loop of keys: the row of keys v, the row of points at gp, the box of the argument. -/
structure TabAt (w : World) (s1 s2 s3 : Nat) (W : World) (A : Option Addr) (gp n len c : Nat) (P : List Int) (v : Value) (KS : List Int) : Prop where
  fr : Fr W s1 W.heap.size v KS
  be : Below w.heap.size w W
  sl : SlI W (some ⟨gp, 0, none⟩) P
  q0 : W.cell? ⟨w.heap.size, 0, none⟩ = some (.int .i64 (n : Int))
  q1 : W.cell? ⟨w.heap.size, 1, none⟩ = some (.slice A len c)
  sz : s3 ≤ W.heap.size
  og : ∀ k, v.ownBlock = some k → k < s2 ∨ s3 ≤ k
theorem TabAt.below {w W W' : World} {s1 s2 s3 gp n len c : Nat} {A : Option Addr} {P KS : List Int} {v : Value} (h : TabAt w s1 s2 s3 W A gp n len c P v KS) (hb : Below W.heap.size W W') (hs : w.heap.size < s3) : TabAt w s1 s2 s3 W' A gp n len c P v KS := by
  have := h.sz
  exact ⟨(h.fr.grow hb).wide (Nat.le_refl _) hb.size (Nat.le_refl _), h.be.trans (hb.mono h.be.size), SlI.below h.sl hb, (hb.cell (p := ⟨w.heap.size, 0, none⟩) (by show w.heap.size < _; omega)).trans h.q0, (hb.cell (p := ⟨w.heap.size, 1, none⟩) (by show w.heap.size < _; omega)).trans h.q1, Nat.le_trans h.sz hb.size, h.og⟩
theorem TabAt.next {w W W' : World} {s1 s2 s3 gp n len c j : Nat} {A : Option Addr} {P KS : List Int} {v v' : Value} {K : Int} (h : TabAt w s1 s2 s3 W A gp n len c P v KS) (h0 : w.heap.size < s1) (h1 : s1 < s2) (h2 : s2 ≤ gp) (h3 : gp < s3) (hl : (KS ++ [K]).length = j + 1)
    (hown : W'.ownsRow s1 3 1 v' (j + 1) (ints (KS ++ [K]))) (hb : ∀ B, B ≤ s1 → B ≤ W.heap.size → Below B W W') (hg : W.grownBy W' v.ownBlock) (ho : v'.ownBlock = v.ownBlock ∨ v'.ownBlock = some (W.heap.size + 1)) : TabAt w s1 s2 s3 W' A gp n len c P v' (KS ++ [K]) := by
  have hsz := h.sz
  have B := hb s1 (Nat.le_refl _) (by omega)
  refine ⟨Fr.of_own (by rw [hl]; exact hown), h.be.trans (B.mono (by omega)), ?_, (B.cell (p := ⟨w.heap.size, 0, none⟩) (by show w.heap.size < _; omega)).trans h.q0, (B.cell (p := ⟨w.heap.size, 1, none⟩) (by show w.heap.size < _; omega)).trans h.q1, Nat.le_trans h.sz B.size, fun k hk => ?_⟩
  · rcases h.sl with e | ⟨b, off, he, hc⟩
    · exact .inl e
    · injection he with he
      injection he with e1 e2 _
      subst e1; subst e2
      refine .inr ⟨gp, 0, rfl, fun k x hx => hg.cell (hc k x hx) (fun e => ?_)⟩
      have := h.og gp e.symm
      omega
  · rcases ho with ho | ho
    · exact h.og k (by rw [← ho]; exact hk)
    · rw [ho] at hk; injection hk with hk; omega

theorem tabOwn {w W : World} {s1 s2 s3 gp n len c j c0 g0 : Nat} {A : Option Addr} {P KS : List Int} (h : TabAt w s1 s2 s3 W A gp n len c P (.slice (some ⟨g0, 0, none⟩) j c0) KS) (hl : KS.length = j) : W.ownsRow s1 3 1 (.slice (some ⟨g0, 0, none⟩) j c0) j (ints KS) := by
  have h1 := h.fr.1
  rw [hl] at h1
  exact h1
theorem tabLe {w W : World} {s1 s2 s3 gp n len c : Nat} {A : Option Addr} {P KS : List Int} {v : Value} (h : TabAt w s1 s2 s3 W A gp n len c P v KS) (h1 : s1 < s2) (h2 : s2 ≤ s3) : s1 ≤ W.heap.size := by
  have := h.sz; omega

def keysF (c : Nat) (rs : List Res) : List Int := (idxs c).map (keyT (ptsF c rs) rs)
theorem keysF_length (c : Nat) (rs : List Res) : (keysF c rs).length = c := by simp [keysF, idxs_length]
theorem keysF_at {c : Nat} {rs : List Res} {k : Nat} (h : k < c) : (keysF c rs)[k]? = some (keyT (ptsF c rs) rs k) := by simp [keysF, idxs_get h]
theorem keysF_take {c : Nat} {rs : List Res} {k : Nat} (h : k < c) : (keysF c rs).take (k + 1) = (keysF c rs).take k ++ [keyT (ptsF c rs) rs k] := take_snoc (keysF_at h)
theorem keysF_order (c : Nat) (rs : List Res) : insF (keyOf (keysF c rs)) (idxs c) = tableF c rs := by
  have e : ∀ x ∈ idxs c, keyOf (keysF c rs) x = keyT (ptsF c rs) rs x := fun x hx => by
    obtain ⟨h1, h2⟩ := idxs_mem.1 hx
    obtain ⟨k, rfl⟩ := Int.eq_ofNat_of_zero_le h1
    exact keyOf_at (keysF_at (by omega))
  exact insF_cong (fun x hx y hy => by rw [e x hx, e y hy])
set_option maxHeartbeats 4000000 in
set_option maxRecDepth 100000 in
theorem specTableOf_any (v : Value) (x : LeagueV) (w : World) (hs : InL w v x) :
    Calls Tryd.prog 16 #[v] w fun e w' => ∃ v', e = .returned v' ∧ Fr w' w.heap.size w'.heap.size v' (tableL x) ∧ Below w.heap.size w w' := by
  have hs0 := hs
  obtain ⟨A, c, rfl, hc, hm, hsl, hw⟩ := hs
  have HS := Lib.hid (And.intro hs0 hsl)
  clear hs0 hsl
  cases h1 : leagueB x
  · have HE : Hid (tableL x = []) := by show _ = _; rw [tableL, h1]; rfl
    go_enter Tryd.func16, Tryd.ntmps16
    go_wp2_with fail
    refine (specLeagueOk_any _ x _ (HS.out.1.below ((Below.refl _ w).alloc (Nat.le_refl _) _))).mono ?_
    rintro e w1 ⟨rfl, hb⟩
    rw [h1]
    have HB : Hid (Below w.heap.size w w1) := ((Below.refl _ w).alloc (Nat.le_refl _) _).trans (hb.mono (by simp))
    clear hb
    go_wp2
    go_ret
    exact ⟨_, rfl, by rw [HE.out]; exact Fr.nil _ (Nat.le_refl _), HB.out⟩
  · obtain ⟨l1, l2, l3, l4⟩ := leagueB_t h1
    obtain ⟨n, hcl⟩ := Int.eq_ofNat_of_zero_le (show 0 ≤ x.clubs by omega)
    have HE : Hid (tableL x = insF (keyOf (keysF n x.results)) (idxs n)) := by show _ = _; rw [keysF_order, tableL, h1, if_pos rfl, hcl, Int.toNat_natCast]
    have hP := ptsF_length n x.results
    have H1 := Lib.hid (And.intro h1 (And.intro hcl (And.intro hP l4)))
    rw [hcl] at l1 l2 HS
    rw [hcl]
    clear h1 hcl hP l4
    go_enter Tryd.func16, Tryd.ntmps16
    go_wp2_with fail
    refine (specLeagueOk_any _ x _ (HS.out.1.below ((Below.refl _ w).alloc (Nat.le_refl _) _))).mono ?_
    rintro e w1 ⟨rfl, hb⟩
    rw [H1.out.1]
    have q0 : w1.cell? ⟨w.heap.size, 0, none⟩ = some (.int .i64 (n : Int)) := by rw [hb.cell (p := ⟨w.heap.size, 0, none⟩) (by simp)]; simp
    have q1 : w1.cell? ⟨w.heap.size, 1, none⟩ = some (.slice A x.results.length c) := by rw [hb.cell (p := ⟨w.heap.size, 1, none⟩) (by simp)]; simp
    have HB : Hid (Below w.heap.size w w1) := ((Below.refl _ w).alloc (Nat.le_refl _) _).trans (hb.mono (by simp))
    have hlt1 : w.heap.size < w1.heap.size := by have := hb.size; simp at this; omega
    have HQ : Hid (w1.cell? ⟨w.heap.size, 0, none⟩ = some (.int .i64 (n : Int)) ∧ w1.cell? ⟨w.heap.size, 1, none⟩ = some (.slice A x.results.length c)) := ⟨q0, q1⟩
    have hne : ¬ w.heap.size = w1.heap.size := by omega
    have HW : Hid (Below w.heap.size w (w1.alloc (.cells #[] 3)) ∧ Below w1.heap.size w1 (w1.alloc (.cells #[] 3)) ∧ w1.heap.size < (w1.alloc (.cells #[] 3)).heap.size ∧ Fr (w1.alloc (.cells #[] 3)) w1.heap.size (w1.alloc (.cells #[] 3)).heap.size (.slice (some ⟨w1.heap.size, 0, none⟩) 0 0) []) :=
      ⟨HB.out.alloc HB.out.size _, (Below.refl _ w1).alloc (Nat.le_refl _) _, by simp, Fr.of_own (xs := []) (World.ownsRow_made w1 #[] 0 (Nat.le_refl _) (by unfold maxLen; omega) rfl)⟩
    clear hb
    go_wp2_with fail
    generalize w1.alloc (.cells #[] 3) = w2 at *
    refine (l12All_any _ x w2 (HS.out.1.below HW.out.1) H1.out.1).mono ?_
    rintro e w3 ⟨v3, rfl, hf, hb⟩
    rw [H1.out.2.1, Int.toNat_natCast] at hf
    obtain ⟨gp, cp, rfl, hg1, hg2⟩ := hf.someA (by rw [H1.out.2.2.1]; omega)
    rw [H1.out.2.2.1] at hf
    rw [H1.out.2.2.1]
    have hlt2 := HW.out.2.2.1
    have H3 : Hid (Below w.heap.size w w3 ∧ SlI w3 (some ⟨gp, 0, none⟩) (ptsF n x.results) ∧ w3.cell? ⟨w.heap.size, 0, none⟩ = some (.int .i64 (n : Int)) ∧ w3.cell? ⟨w.heap.size, 1, none⟩ = some (.slice A x.results.length c) ∧ Fr w3 w1.heap.size w2.heap.size (.slice (some ⟨w1.heap.size, 0, none⟩) 0 0) []) :=
      ⟨HW.out.1.trans (hb.mono HW.out.1.size), hf.sl, (((HW.out.2.1.trans (hb.mono (Nat.le_of_lt hlt2))).cell (p := ⟨w.heap.size, 0, none⟩) hlt1)).trans HQ.out.1, (((HW.out.2.1.trans (hb.mono (Nat.le_of_lt hlt2))).cell (p := ⟨w.heap.size, 1, none⟩) hlt1)).trans HQ.out.2, HW.out.2.2.2.grow hb⟩
    have hsz3 := hb.size
    clear hb hf q0 q1 hne
    go_wp2
    go_loopw [3, 15] (fun v i wr => ∃ (j g0 c0 : Nat), j ≤ n ∧ i = .int .i64 j ∧ v = .slice (some ⟨g0, 0, none⟩) j c0 ∧ Hid (TabAt w w1.heap.size w2.heap.size w3.heap.size wr A gp n x.results.length c (ptsF n x.results) (.slice (some ⟨g0, 0, none⟩) j c0) ((keysF n x.results).take j))) (fun _ i _ => n - (intOf i).toNat)
    case atStart => exact ⟨0, _, _, Nat.zero_le _, rfl, rfl, ⟨H3.out.2.2.2.2.wide (Nat.le_refl _) hsz3 (Nat.le_refl _), H3.out.1, H3.out.2.1, H3.out.2.2.1, H3.out.2.2.2.1, Nat.le_refl _, fun k hk => by simp [Value.ownBlock] at hk; omega⟩⟩
    case round =>
      obtain ⟨j, g0, c0, hj, rfl, rfl, HR⟩ := hrel
      clear H3 HW HQ
      by_cases hlt : j < n
      case neg =>
        obtain rfl : j = n := by omega
        have hF := HR.out.fr
        rw [List.take_of_length_le (by rw [keysF_length]; exact Nat.le_refl _)] at hF
        have HO := l09Order_any (some ⟨g0, 0, none⟩) c0 (keysF j x.results) wr hF.sl (by rw [keysF_length]; omega)
        rw [keysF_length] at HO
        have HOH := Lib.hid HO
        clear HO hF
        go_wp2_with fail
        refine HOH.out.mono ?_
        rintro e w4 ⟨v4, rfl, hf4, hb4⟩
        have H4 : Hid (Fr w4 wr.heap.size w4.heap.size v4 (tableL x) ∧ Below w.heap.size w w4) := ⟨by rw [HE.out]; exact hf4, HR.out.be.trans (hb4.mono HR.out.be.size)⟩
        clear hf4 hb4
        go_wp2
        go_ret
        exact ⟨_, rfl, H4.out.1.wide HR.out.be.size (Nat.le_refl _) (Nat.le_refl _), H4.out.2⟩
      have dj : decide ((j : Int) < (n : Int)) = true := decide_eq_true (by omega)
      have hL4 := H1.out.2.2.2
      rw [H1.out.2.1] at hL4
      obtain ⟨pa, ea, ea2, pa1, pa2⟩ := ptsF_get (rs := x.results) hlt
      have ma := made_cap (c := (j : Int)) hL4
      have la := lost_cap (c := (j : Int)) hL4
      have m1 : 0 ≤ madeF j x.results ∧ madeF j x.results ≤ 5940 := by omega
      have m2 : 0 ≤ lostF j x.results ∧ lostF j x.results ≤ 5940 := by omega
      obtain ⟨b1, o1, x1, e1, y1, ca, hgp⟩ := HR.out.sl.at_ (k := j) (by rw [ptsF_length]; exact hlt)
      injection e1 with e1; injection e1 with r1 r2; subst r1; subst r2
      rw [ea] at y1; injection y1 with y1; subst y1
      rw [Nat.zero_add] at ca
      have q0 := HR.out.q0
      have q1 := HR.out.q1
      have HKY : Hid ((pa * 20000 + madeF j x.results - lostF j x.results + 10000) * 10000 + madeF j x.results = keyT (ptsF n x.results) x.results j) := by
        show _ = _
        rw [keyT, Int.toNat_natCast, ea2]
      have HTK := Lib.hid (keysF_take (rs := x.results) hlt)
      have HG := Lib.hid (fun W hi => l12Goals_any (.agg #[.int .i64 (n : Int), .slice A x.results.length c]) x j W hi H1.out.1)
      have hPl : ((keysF n x.results).take j).length = j := by rw [List.length_take, keysF_length]; omega
      have HPL := Lib.hid hPl
      have HLN : Hid (((keysF n x.results).take j ++ [keyT (ptsF n x.results) x.results j]).length = j + 1) := by show _ = _; rw [List.length_append, hPl]; rfl
      have hj2 : Hid (j ≤ 1048576) := by show _ ≤ _; omega
      clear ea ea2 ma la hL4 hPl
      generalize keyT (ptsF n x.results) x.results j = KY at *
      generalize madeF j x.results = MA at *
      generalize lostF j x.results = LA at *
      generalize (keysF n x.results).take j = KS at *
      obtain ⟨m11, m12⟩ := m1
      obtain ⟨m21, m22⟩ := m2
      have pa3 : pa ≤ 360 := by omega
      clear pa2
      have hS3 : w.heap.size < w3.heap.size := by omega
      go_wp2_with (first
        | (go_at_call 18; refine (HG.out _ (HS.out.1.below HR.out.be)).mono ?_; rintro e w4 ⟨rfl, hb4⟩; have T4 := HR.out.below hb4 hS3; have H4 : Hid (TabAt w w1.heap.size w2.heap.size w3.heap.size w4 A gp n x.results.length c (ptsF n x.results) (.slice (some ⟨g0, 0, none⟩) j c0) KS ∧ w4.ownsRow w1.heap.size 3 1 (.slice (some ⟨g0, 0, none⟩) j c0) j (ints KS) ∧ w1.heap.size ≤ w4.heap.size) := ⟨T4, tabOwn T4 HPL.out, tabLe T4 hlt2 hsz3⟩; clear hb4 T4)
        | (at_builtin; refine app1At rfl _ _ rfl w4 w1.heap.size (.slice (some ⟨g0, 0, none⟩) j c0) j KS rfl H4.out.2.1 _ rfl hj2.out H4.out.2.2 ?_; intro v5 w5 hown5 hb5 hl5 hg5 ho5; rw [HKY.out] at hown5; have H5 := Lib.hid (H4.out.1.next hlt1 hlt2 hg1 hg2 HLN.out hown5 hb5 hg5 ho5); clear hown5 hb5 hl5 hg5 ho5; obtain ⟨g1, c1, hv5⟩ := l09Form H5.out.fr HLN.out; subst hv5))
      all_goals exact ⟨⟨j + 1, g1, c1, by omega, by go_num, rfl, by rw [HTK.out]; exact H5.out⟩, by simp [intOf]; try omega⟩
end Go.Proofs.YtpjbgcflepebgaaDoor
