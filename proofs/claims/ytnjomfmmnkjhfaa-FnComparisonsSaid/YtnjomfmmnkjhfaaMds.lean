/- The middle order: the contracts that the law calls. -/
import Derived.Test.YtnjomfmmnkjhfaaMdo
import Derived.Deep.LoopGhost
namespace Go.Proofs.Ytnjomfmmnkjhfaa
open Go.ChangeShapes Go.WideShapes Go.ChangeAt Go.RowKit
attribute [local go_sem] Oper.semAt_some

theorem l28Sum_any (X A B D : Option Addr) (cx ca cb cd : Nat) (x a b c : List Int) (w : World) (hx : SlI w X x) (hcx : x.length ≤ cx) (hcm : cx ≤ maxLen) (ha : SlI w A a) (hb : SlI w B b) (hc : SlI w D c) (ta : twoB x a = true) (tb : twoB x b = true) (tc : twoB x c = true) :
    Calls Try.prog 27 #[.slice X x.length cx, .slice A a.length ca, .slice B b.length cb, .slice D c.length cd] w fun e w' => e = .returned (.int .i64 (sum3 a b c x)) ∧ Below w.heap.size w w' := by
  have HX := Lib.hid (And.intro hx (And.intro ha (And.intro hb hc)))
  have HT := Lib.hid (And.intro ta (And.intro tb tc))
  have HC := Lib.hid (And.intro hcx hcm)
  have hl8 := (ladB_t (twoB_t ta).1).1.2
  have p1 := dist_cap (a := x) (b := a) hl8
  have p2 := dist_cap (a := x) (b := b) hl8
  have p3 := dist_cap (a := x) (b := c) hl8
  have LA : Hid (∀ W, Below w.heap.size w W → Calls Try.prog 43 #[.slice X x.length cx, .slice A a.length ca] W fun e w' => e = .returned (.int .i64 (dist x a : Nat)) ∧ Below W.heap.size W w') := fun W hW => specLadderDistance_any X A cx ca x a W (HX.out.1.below hW) hcx hcm (HX.out.2.1.below hW) ta
  have LB : Hid (∀ W, Below w.heap.size w W → Calls Try.prog 43 #[.slice X x.length cx, .slice B b.length cb] W fun e w' => e = .returned (.int .i64 (dist x b : Nat)) ∧ Below W.heap.size W w') := fun W hW => specLadderDistance_any X B cx cb x b W (HX.out.1.below hW) hcx hcm (HX.out.2.2.1.below hW) tb
  have LC : Hid (∀ W, Below w.heap.size w W → Calls Try.prog 43 #[.slice X x.length cx, .slice D c.length cd] W fun e w' => e = .returned (.int .i64 (dist x c : Nat)) ∧ Below W.heap.size W w') := fun W hW => specLadderDistance_any X D cx cd x c W (HX.out.1.below hW) hcx hcm (HX.out.2.2.2.below hW) tc
  have HSM : Hid (sum3 a b c x = ((dist x a : Nat) : Int) + ((dist x b : Nat) : Int) + ((dist x c : Nat) : Int)) := rfl
  clear hx ha hb hc ta tb tc hcx hcm
  generalize dist x a = p at *
  generalize dist x b = q at *
  generalize dist x c = r at *
  generalize x.length = xl at *
  generalize a.length = al at *
  generalize b.length = bl at *
  generalize c.length = cl at *
  have e1 : IntKind.i64.wrap ((p : Int) + (q : Int)) = (p : Int) + q := by rw [IntKind.wrap_i64]; omega
  have e2 : IntKind.i64.wrap ((p : Int) + (q : Int) + (r : Int)) = (p : Int) + q + r := by rw [IntKind.wrap_i64]; omega
  go_enter Try.func27, Try.ntmps27
  go_wp2_with fail
  refine (LA.out w (Below.refl _ _)).mono ?_
  rintro e w1 ⟨rfl, b1⟩
  have B1 := Lib.hid b1
  clear b1
  go_wp2_with fail
  refine (LB.out w1 B1.out).mono ?_
  rintro e w2 ⟨rfl, b2⟩
  have B2 : Hid (Below w.heap.size w w2) := B1.out.trans (b2.mono B1.out.size)
  clear b2
  go_wp2_with fail
  refine (LC.out w2 B2.out).mono ?_
  rintro e w3 ⟨rfl, b3⟩
  have B3 : Hid (Below w.heap.size w w3) := B2.out.trans (b3.mono B2.out.size)
  clear b3
  go_wp2
  go_ret
  exact ⟨by rw [HSM.out]; rfl, B3.out⟩

theorem implMiddle_std (va : Value) (a : List Int) (vb : Value) (b : List Int) (vc : Value) (c : List Int) (w : World) (ha : InI w va a) (na : a.length ≤ 1048576) (hb : InI w vb b) (nb : b.length ≤ 1048576) (hc : InI w vc c) (nc : c.length ≤ 1048576) :
    Calls Try.prog 7 #[va, vb, vc] w fun e w' => ∃ v', e = .returned v' ∧ Fr w' w.heap.size w'.heap.size v' (midF a b c) ∧ Below w.heap.size w w' := by
  obtain ⟨A, ca, rfl, ha1, ha2, has⟩ := ha
  obtain ⟨B, cb, rfl, hb1, hb2, hbs⟩ := hb
  obtain ⟨D, cd, rfl, hc1, hc2, hcs⟩ := hc
  by_cases hv : (twoB a b && (twoB b c && decide (a.length ≤ 5))) = true
  case pos =>
    have hv' := hv
    simp only [Bool.and_eq_true, decide_eq_true_eq] at hv'
    obtain ⟨t1, t2, h5⟩ := hv'
    have e1 := (twoB_t t1).2.2
    have e2 := (twoB_t t2).2.2
    have h1 := (ladB_t (twoB_t t1).1).1.1
    have h := implMiddle_go A B D ca cb cd a.length a b c w has hbs hcs ⟨ha1, ha2⟩ ⟨by omega, hb2⟩ ⟨by omega, hc2⟩ rfl e1.symm (by omega) t1 t2 h1 h5
    have hm : midF a b c = midL a b c (allO a.length) := by unfold midF; rw [if_pos hv]
    rw [hm, ← e2, ← e1]
    exact h
  case neg =>
    have hm : Hid (midF a b c = []) := by show _ = _; unfold midF; rw [if_neg hv]
    have LA : Hid (∀ W, Below w.heap.size w W → Calls Try.prog 29 #[.slice A a.length ca, .slice B b.length cb] W fun e w' => e = .returned (.bool (twoB a b)) ∧ W = w') := fun W hW => areOrders_any A B ca cb a b W (has.below hW) na ha1 (hbs.below hW) nb hb1
    have LB : Hid (∀ W, Below w.heap.size w W → Calls Try.prog 29 #[.slice B b.length cb, .slice D c.length cd] W fun e w' => e = .returned (.bool (twoB b c)) ∧ W = w') := fun W hW => areOrders_any B D cb cd b c W (hbs.below hW) nb hb1 (hcs.below hW) nc hc1
    have BX : Hid (Below w.heap.size w (((w.alloc (.cells #[.slice A a.length ca] 22)).alloc (.cells #[.slice B b.length cb] 22)).alloc (.cells #[.slice D c.length cd] 22))) := (((Below.refl _ w).alloc (Nat.le_refl _) _).alloc (by simp) _).alloc (by simp; omega) _
    clear has hbs hcs
    cases t1 : twoB a b
    · clear hv
      rw [t1] at LA
      go_enter Try.func7, Try.ntmps7
      go_wp2_with fail
      refine (LA.out _ BX.out).mono ?_
      rintro e w1 ⟨rfl, rfl⟩
      go_wp2
      go_ret
      exact ⟨_, rfl, by rw [hm.out]; exact Fr.nil _ (Nat.le_refl _), BX.out⟩
    · rw [t1] at LA hv
      cases t2 : twoB b c
      · clear hv
        rw [t2] at LB
        go_enter Try.func7, Try.ntmps7
        go_wp2_with fail
        refine (LA.out _ BX.out).mono ?_
        rintro e w1 ⟨rfl, rfl⟩
        go_wp2_with fail
        refine (LB.out _ BX.out).mono ?_
        rintro e w1 ⟨rfl, rfl⟩
        go_wp2
        go_ret
        exact ⟨_, rfl, by rw [hm.out]; exact Fr.nil _ (Nat.le_refl _), BX.out⟩
      · rw [t2] at LB hv
        have h5 : 5 < (a.length : Int) := by simp at hv; omega
        clear hv
        go_enter Try.func7, Try.ntmps7
        go_wp2_with fail
        refine (LA.out _ BX.out).mono ?_
        rintro e w1 ⟨rfl, rfl⟩
        go_wp2_with fail
        refine (LB.out _ BX.out).mono ?_
        rintro e w1 ⟨rfl, rfl⟩
        go_wp2
        go_ret
        exact ⟨_, rfl, by rw [hm.out]; exact Fr.nil _ (Nat.le_refl _), BX.out⟩

theorem midL_take {a b c xo yo : List Int} {L : List (List Int)} {k : Nat} (h : L[k]? = some xo) (h2 : L[k + 1]? = some yo) :
    midL a b c (L.take (k + 1 + 1)) = midS a b c (midL a b c (L.take (k + 1))) yo := by
  rw [take_snoc h2, midL_snoc (by
    have := (List.getElem?_eq_some_iff.1 h).1
    intro e
    rcases List.take_eq_nil_iff.1 e with e | e
    · omega
    · rw [e] at this; simp at this)]
theorem specMiddle_bad (A B D : Option Addr) (ca cb cd : Nat) (a b c : List Int) (w : World) (na : a.length ≤ 1048576) (nb : b.length ≤ 1048576) (nc : c.length ≤ 1048576) (has : SlI w A a) (hbs : SlI w B b) (hcs : SlI w D c)
    (hv : ¬ (twoB a b && (twoB b c && decide (a.length ≤ 5))) = true) :
    Calls Try.prog 5 #[.slice A a.length ca, .slice B b.length cb, .slice D c.length cd] w fun e w' => ∃ v', e = .returned v' ∧ Fr w' w.heap.size w'.heap.size v' (midF a b c) ∧ Below w.heap.size w w' := by
  have hm : Hid (midF a b c = []) := by show _ = _; unfold midF; rw [if_neg hv]
  have LA : Hid (∀ W, Below w.heap.size w W → Calls Try.prog 26 #[.slice A a.length ca, .slice B b.length cb] W fun e w' => e = .returned (.bool (twoB a b)) ∧ Below W.heap.size W w') := fun W hW => l28Two_any A B ca cb a b W (has.below hW) na (hbs.below hW) nb
  have LB : Hid (∀ W, Below w.heap.size w W → Calls Try.prog 26 #[.slice B b.length cb, .slice D c.length cd] W fun e w' => e = .returned (.bool (twoB b c)) ∧ Below W.heap.size W w') := fun W hW => l28Two_any B D cb cd b c W (hbs.below hW) nb (hcs.below hW) nc
  clear has hbs hcs
  cases t1 : twoB a b
  · clear hv
    rw [t1] at LA
    go_enter Try.func5, Try.ntmps5
    go_wp2_with fail
    refine (LA.out w (Below.refl _ _)).mono ?_
    rintro e w1 ⟨rfl, b1⟩
    have B1 := Lib.hid b1
    clear b1
    go_wp2
    go_ret
    exact ⟨_, rfl, by rw [hm.out]; exact Fr.nil _ (Nat.le_refl _), B1.out⟩
  · rw [t1] at LA hv
    cases t2 : twoB b c
    · clear hv
      rw [t2] at LB
      go_enter Try.func5, Try.ntmps5
      go_wp2_with fail
      refine (LA.out w (Below.refl _ _)).mono ?_
      rintro e w1 ⟨rfl, b1⟩
      have B1 := Lib.hid b1
      clear b1
      go_wp2_with fail
      refine (LB.out w1 B1.out).mono ?_
      rintro e w2 ⟨rfl, b2⟩
      have B2 : Hid (Below w.heap.size w w2) := B1.out.trans (b2.mono B1.out.size)
      clear b2
      go_wp2
      go_ret
      exact ⟨_, rfl, by rw [hm.out]; exact Fr.nil _ (Nat.le_refl _), B2.out⟩
    · rw [t2] at LB hv
      have h5 : 5 < (a.length : Int) := by simp at hv; omega
      clear hv
      go_enter Try.func5, Try.ntmps5
      go_wp2_with fail
      refine (LA.out w (Below.refl _ _)).mono ?_
      rintro e w1 ⟨rfl, b1⟩
      have B1 := Lib.hid b1
      clear b1
      go_wp2_with fail
      refine (LB.out w1 B1.out).mono ?_
      rintro e w2 ⟨rfl, b2⟩
      have B2 : Hid (Below w.heap.size w w2) := B1.out.trans (b2.mono B1.out.size)
      clear b2
      go_wp2
      go_ret
      exact ⟨_, rfl, by rw [hm.out]; exact Fr.nil _ (Nat.le_refl _), B2.out⟩

structure MsR (w wr : World) (n cx : Nat) (X : Option Addr) (vv : Value) (a b c xo bo : List Int) (k : Nat) : Prop where
  at_ : (allO n)[k]? = some xo
  cx1 : n ≤ cx
  cx2 : cx ≤ maxLen
  fx : Fr wr w.heap.size wr.heap.size (.slice X n cx) xo
  fb : Fr wr w.heap.size wr.heap.size vv bo
  eb : bo = midL a b c ((allO n).take (k + 1))
  be : Below w.heap.size w wr
theorem MsR.grow {w wr w2 : World} {n cx : Nat} {X : Option Addr} {vv : Value} {a b c xo bo : List Int} {k : Nat} (h : MsR w wr n cx X vv a b c xo bo k) (hb : Below wr.heap.size wr w2) : MsR w w2 n cx X vv a b c xo bo k :=
  ⟨h.at_, h.cx1, h.cx2, (h.fx.grow hb).wide (Nat.le_refl _) hb.size (Nat.le_refl _), (h.fb.grow hb).wide (Nat.le_refl _) hb.size (Nat.le_refl _), h.eb, h.be.trans (hb.mono h.be.size)⟩
set_option maxHeartbeats 2000000 in
theorem specMiddle_good (A B D : Option Addr) (ca cb cd n : Nat) (a b c : List Int) (w : World) (has : SlI w A a) (hbs : SlI w B b) (hcs : SlI w D c) (hal : a.length = n) (hbl : b.length = n) (hcl : c.length = n)
    (h1 : twoB a b = true) (h2 : twoB b c = true) (hn1 : 1 ≤ n) (hn5 : n ≤ 5) :
    Calls Try.prog 5 #[.slice A n ca, .slice B n cb, .slice D n cd] w fun e w' => ∃ v', e = .returned v' ∧ Fr w' w.heap.size w'.heap.size v' (midL a b c (allO n)) ∧ Below w.heap.size w w' := by
  have LA : Hid (∀ W, Below w.heap.size w W → Calls Try.prog 26 #[.slice A n ca, .slice B n cb] W fun e w' => e = .returned (.bool true) ∧ Below W.heap.size W w') := fun W hW => by
    have h := l28Two_any A B ca cb a b W (has.below hW) (by omega) (hbs.below hW) (by omega)
    rw [hal, hbl, h1] at h; exact h
  have LB : Hid (∀ W, Below w.heap.size w W → Calls Try.prog 26 #[.slice B n cb, .slice D n cd] W fun e w' => e = .returned (.bool true) ∧ Below W.heap.size W w') := fun W hW => by
    have h := l28Two_any B D cb cd b c W (hbs.below hW) (by omega) (hcs.below hW) (by omega)
    rw [hbl, hcl, h2] at h; exact h
  have HS : Hid (∀ W (X : Option Addr) (cx : Nat) (x : List Int), Below w.heap.size w W → SlI W X x → n ≤ cx → cx ≤ maxLen → x ∈ allO n → Calls Try.prog 27 #[.slice X n cx, .slice A n ca, .slice B n cb, .slice D n cd] W fun e w' => e = .returned (.int .i64 (sum3 a b c x)) ∧ Below W.heap.size W w') := fun W X cx x hW hx h5 h6 hm => by
    obtain ⟨l1, l2⟩ := (chain_of hn1 hn5).lad x hm
    have ta : twoB x a = true := twoB_mk l1 (twoB_t h1).1 (by omega)
    have h := l28Sum_any X A B D cx ca cb cd x a b c W hx (by omega) h6 (has.below hW) (hbs.below hW) (hcs.below hW) ta (twoB_trans ta h1) (twoB_trans (twoB_trans ta h1) h2)
    rw [hal, hbl, hcl, l2] at h; exact h
  have hn5i : (n : Int) ≤ 5 := by omega
  have HC := Lib.hid (chain_of hn1 hn5)
  clear has hbs hcs hal hbl hcl h1 h2
  go_enter Try.func5, Try.ntmps5
  go_wp2_with fail
  refine (LA.out w (Below.refl _ _)).mono ?_
  rintro e w1 ⟨rfl, b1⟩
  have B1 := Lib.hid b1
  clear b1
  go_wp2_with fail
  refine (LB.out w1 B1.out).mono ?_
  rintro e w2 ⟨rfl, b2⟩
  have B2 : Hid (Below w.heap.size w w2) := B1.out.trans (b2.mono B1.out.size)
  clear b2 B1
  have H0 : Hid (Fr (w2.alloc (.cells #[] 3)) w.heap.size (w2.alloc (.cells #[] 3)).heap.size (.slice (some ⟨w2.heap.size, 0, none⟩) 0 0) ((idxs n).take 0) ∧ Below w.heap.size w (w2.alloc (.cells #[] 3))) :=
    ⟨Fr.of_own (xs := []) (World.ownsRow_lit (base := w.heap.size) (e := 3) (size := 1) w2 #[] 0 B2.out.size (by unfold maxLen; omega) rfl), B2.out.alloc B2.out.size _⟩
  go_wp2
  go_loopw [7, 31] (fun v i wr => ∃ (j : Nat) (vv : Value), j ≤ n ∧ i = .int .i64 j ∧ vv = v ∧ Hid (Fr wr w.heap.size wr.heap.size vv ((idxs n).take j) ∧ Below w.heap.size w wr)) (fun _ i _ => n - (intOf i).toNat)
  case atStart => exact ⟨0, _, Nat.zero_le _, rfl, rfl, H0.out⟩
  case round =>
    obtain ⟨j, vv, hj, rfl, rfl, HR⟩ := hrel
    clear H0 B2
    by_cases hlt : j < n
    · have HLJ : Hid (((idxs n).take j).length = j) := by show _ = _; simp [idxs_length]; omega
      have HJ : Hid (j ≤ 1048576) := by show _ ≤ _; omega
      go_wp2_with (at_builtin; refine app1 rfl _ _ rfl wr w.heap.size vv j ((idxs n).take j) rfl (by have h := HR.out.1.own; rw [HLJ.out] at h; exact h) (j : Int) rfl HJ.out HR.out.2.size ?_; intro v5 w5 hown5 hb5 hl5 hg5; have H5 : Hid (Fr w5 w.heap.size w5.heap.size v5 ((idxs n).take (j + 1)) ∧ Below w.heap.size w w5) := (by rw [take_snoc (idxs_get hlt)]; exact ⟨Fr.of_own (by rw [List.length_append, HLJ.out]; exact hown5), HR.out.2.trans (hb5 _ (Nat.le_refl _) HR.out.2.size)⟩); clear hown5 hb5 hl5 hg5)
      go_roundw
      case rel => exact ⟨j + 1, _, by omega, by go_num, rfl, H5.out⟩
      case measure => simp [intOf]; omega
    · obtain rfl : j = n := by omega
      have HX : Hid (Fr wr w.heap.size wr.heap.size vv (idxs j) ∧ Below w.heap.size w wr) := by
        have h := HR.out
        rw [List.take_of_length_le (by rw [idxs_length]; omega)] at h; exact h
      clear HR
      obtain ⟨X, cx, hX, hx1, hx2⟩ := HX.out.1.form
      rw [idxs_length] at hX hx1
      subst hX
      have HCX : Hid (j ≤ cx ∧ cx ≤ maxLen) := ⟨hx1, hx2⟩
      clear hx1 hx2
      go_wp2_with fail
      refine (HS.out wr X cx (idxs j) HX.out.2 HX.out.1.sl HCX.out.1 HCX.out.2 (List.mem_of_getElem? HC.out.head)).mono ?_
      rintro e w3 ⟨rfl, b3⟩
      have HR : Hid (MsR w w3 j cx X (.slice X j cx) a b c (idxs j) (idxs j) 0) := by
        have h0 : (allO j).take (0 + 1) = [idxs j] := by
          rw [take_snoc HC.out.head]; rfl
        exact (show MsR w wr j cx X (.slice X j cx) a b c (idxs j) (idxs j) 0 from ⟨HC.out.head, HCX.out.1, HCX.out.2, HX.out.1, HX.out.1, by rw [h0]; rfl, HX.out.2⟩).grow b3
      clear b3 HX
      go_wp2
      go_loopg [7, 9, 10] ((allO j).length) (fun gk vx vb vl wr => ∃ (k : Nat) (xo bo : List Int) (X : Option Addr) (cx : Nat) (vv : Value), gk = (allO j).length - k ∧ vx = .slice X j cx ∧ vv = vb ∧ vl = .int .i64 (sum3 a b c bo) ∧ Hid (MsR w wr j cx X vv a b c xo bo k))
      case atStart => exact ⟨0, idxs j, idxs j, X, cx, _, rfl, rfl, rfl, rfl, HR.out⟩
      case round =>
        clear HR
        obtain ⟨k, xo, bo, X, cx, vv, rfl, rfl, rfl, rfl, HR⟩ := hrel
        obtain ⟨ho1, ho2⟩ := HC.out.lad xo (List.mem_of_getElem? HR.out.at_)
        have HN := Lib.hid (specNextOrder_std (.slice X j cx) xo wr HR.out.fx.in_ (by omega))
        clear ho1 ho2
        by_cases hk : k + 1 < (allO j).length
        · obtain ⟨q1, q2⟩ := HC.out.next k xo HR.out.at_ hk
          rw [q1] at HN
          have HQ := Lib.hid q2
          clear q1 q2
          have HK := Lib.hid hk
          clear hk
          go_wp2_with fail
          refine HN.out.mono ?_
          rintro e w4 ⟨v4, rfl, hf4, hb4⟩
          obtain ⟨X4, c4, hv4, hc4, hm4⟩ := hf4.form
          have hlx := (HC.out.lad _ (List.mem_of_getElem? HQ.out)).2
          rw [hlx] at hv4 hc4
          subst hv4
          have H4 : Hid (Fr w4 w.heap.size w4.heap.size (.slice X4 j c4) (nextF xo) ∧ Below wr.heap.size wr w4 ∧ Below w.heap.size w w4 ∧ j ≤ c4 ∧ c4 ≤ maxLen) := ⟨hf4.wide HR.out.be.size (Nat.le_refl _) (Nat.le_refl _), hb4, HR.out.be.trans (hb4.mono HR.out.be.size), hc4, hm4⟩
          clear hf4 hb4 hc4 hm4 hlx
          go_wp2_with fail
          refine (HS.out w4 X4 c4 (nextF xo) H4.out.2.2.1 H4.out.1.sl H4.out.2.2.2.1 H4.out.2.2.2.2 (List.mem_of_getElem? HQ.out)).mono ?_
          rintro e w5 ⟨rfl, hb5⟩
          have H5 : Hid (MsR w w5 j cx X vv a b c xo bo k ∧ Fr w5 w.heap.size w5.heap.size (.slice X4 j c4) (nextF xo)) := ⟨(HR.out.grow H4.out.2.1).grow hb5, (H4.out.1.grow hb5).wide (Nat.le_refl _) hb5.size (Nat.le_refl _)⟩
          clear hb5
          have HT : Hid (midL a b c ((allO j).take (k + 1 + 1)) = midS a b c bo (nextF xo)) := by
            show _ = _
            rw [midL_take HR.out.at_ HQ.out, ← HR.out.eb]
          by_cases hs : sum3 a b c (nextF xo) < sum3 a b c bo
          · have HE : Hid (nextF xo = midL a b c ((allO j).take (k + 1 + 1))) := by
              show _ = _
              rw [HT.out, midS, if_pos hs]
            clear HT
            go_wp2_with fail
            refine (HS.out w5 X4 c4 (nextF xo) H5.out.1.be H5.out.2.sl H4.out.2.2.2.1 H4.out.2.2.2.2 (List.mem_of_getElem? HQ.out)).mono ?_
            rintro e w6 ⟨rfl, hb6⟩
            have H6 : Hid (MsR w w6 j c4 X4 (.slice X4 j c4) a b c (nextF xo) (nextF xo) (k + 1)) :=
              (show MsR w w5 j c4 X4 (.slice X4 j c4) a b c (nextF xo) (nextF xo) (k + 1) from ⟨HQ.out, H4.out.2.2.2.1, H4.out.2.2.2.2, H5.out.2, H5.out.2, HE.out, H5.out.1.be⟩).grow hb6
            clear hb6
            go_wp2
            go_roundg ((allO j).length - (k + 1))
            case rel => exact ⟨k + 1, _, _, _, _, _, rfl, rfl, rfl, rfl, H6.out⟩
            case measure => have := HK.out; omega
          · have HE : Hid (bo = midL a b c ((allO j).take (k + 1 + 1))) := by
              show _ = _
              rw [HT.out, midS, if_neg hs]
            clear HT
            go_wp2
            go_roundg ((allO j).length - (k + 1))
            case rel => exact ⟨k + 1, nextF xo, bo, X4, c4, vv, rfl, rfl, rfl, rfl, HQ.out, H4.out.2.2.2.1, H4.out.2.2.2.2, H5.out.2, H5.out.1.fb, HE.out, H5.out.1.be⟩
            case measure => have := HK.out; omega
        · have q1 := HC.out.last k xo HR.out.at_ hk
          rw [q1] at HN
          have HE : Hid (bo = midL a b c (allO j)) := by
            have h := HR.out.eb
            rw [List.take_of_length_le (by omega)] at h; exact h
          clear q1 hk
          go_wp2_with fail
          refine HN.out.mono ?_
          rintro e w4 ⟨v4, rfl, -, hb4⟩
          have H4 := Lib.hid (HR.out.grow hb4)
          clear hb4
          go_wp2
          go_ret
          exact ⟨_, rfl, by rw [← HE.out]; exact H4.out.fb, H4.out.be⟩

theorem specMiddle_std (va : Value) (a : List Int) (vb : Value) (b : List Int) (vc : Value) (c : List Int) (w : World) (ha : InI w va a) (na : a.length ≤ 1048576) (hb : InI w vb b) (nb : b.length ≤ 1048576) (hc : InI w vc c) (nc : c.length ≤ 1048576) :
    Calls Try.prog 5 #[va, vb, vc] w fun e w' => ∃ v', e = .returned v' ∧ Fr w' w.heap.size w'.heap.size v' (midF a b c) ∧ Below w.heap.size w w' := by
  obtain ⟨A, ca, rfl, ha1, ha2, has⟩ := ha
  obtain ⟨B, cb, rfl, hb1, hb2, hbs⟩ := hb
  obtain ⟨D, cd, rfl, hc1, hc2, hcs⟩ := hc
  by_cases hv : (twoB a b && (twoB b c && decide (a.length ≤ 5))) = true
  case neg => exact specMiddle_bad A B D ca cb cd a b c w na nb nc has hbs hcs hv
  case pos =>
    have hv' := hv
    simp only [Bool.and_eq_true, decide_eq_true_eq] at hv'
    obtain ⟨t1, t2, h5⟩ := hv'
    have e1 := (twoB_t t1).2.2
    have e2 := (twoB_t t2).2.2
    have h1 := (ladB_t (twoB_t t1).1).1.1
    have h := specMiddle_good A B D ca cb cd a.length a b c w has hbs hcs rfl e1.symm (by omega) t1 t2 h1 h5
    have hm : midF a b c = midL a b c (allO a.length) := by unfold midF; rw [if_pos hv]
    rw [hm, ← e2, ← e1]
    exact h
end Go.Proofs.Ytnjomfmmnkjhfaa
