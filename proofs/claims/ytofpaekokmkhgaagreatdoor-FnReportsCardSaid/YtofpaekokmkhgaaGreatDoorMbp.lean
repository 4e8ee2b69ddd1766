/- A region that draws: quiet operations (reads, calls that only read and draw) come first, a tail in one forced order ends it. -/
import Derived.Test.YtofpaekokmkhgaaGreatDoorBase
import Derived.StillTail
import Derived.Deep.Quiet
import Derived.Deep.QuietTactic
import Derived.BigQuiet
import Derived.Test.YtofpaekokmkhgaaGreatDoorMbo
import Derived.Test.YtofpaekokmkhgaaGreatDoorMaf
namespace Go.Proofs.YtofpaekokmkhgaaGreatDoor
open Go

section
variable {P : Program} {ops : Array Oper} {C : World → Prop}
/-- The first n operations come up in whatever order, each quiet; then L. -/
def anyLQ (P : Program) (ops : Array Oper) (C : World → Prop) (n : Nat) (L : Array Bool → Act → Prop) : Nat → Array Bool → Act → Prop
  | 0, listed, a => L listed a
  | f + 1, listed, a => Region.ready .any ops listed ≠ [] ∧ ∀ i ∈ Region.ready .any ops listed, i < n ∧ qOp P ops C i (anyLQ P ops C n L f (listed.setIfInBounds i true)) a
theorem any_of_headQ {n g : Nat} {L : Array Bool → Act → Prop} {Q' : Exit → Act → World → Prop} (hL : ∀ listed a w, C w → L listed a → wpAny P .any ops Q' g listed a w) :
    ∀ (f : Nat) (listed : Array Bool) (a : Act) (w : World), C w → anyLQ P ops C n L f listed a → wpAny P .any ops Q' (f + g) listed a w
  | 0, listed, a, w, hw, h => by rw [Nat.zero_add]; exact hL _ _ _ hw h
  | f + 1, listed, a, w, hw, h => by
    rw [show f + 1 + g = (f + g) + 1 by omega]
    exact ⟨fun h0 => absurd h0 h.1, fun i hi => wpOp_of_qOp hw (fun a' w' hw' h' => any_of_headQ hL f _ a' w' hw' h') (h.2 i hi).2⟩
theorem anyLQ_first {n i : Nat} {oi : Oper} {v : Value} {L : Array Bool → Act → Prop} (hi : ops[i]? = some oi) (hsel : ∀ (j : Nat) (o : Oper) cs b, ops[j]? = some o → o.op ≠ .select cs b)
    (hwait : ∀ listed, HeadInv .any ops n listed → listed.getD i true = false → ∀ t, n ≤ t → t ∉ Region.ready .any ops listed)
    (hdone : ∀ listed a, L listed a → ∀ j ∈ Region.ready .any ops listed, n ≤ j) :
    ∀ (f : Nat) (listed : Array Bool) (a : Act), HeadInv .any ops n listed →
      (∀ j oj, ops[j]? = some oj → j ≠ i → listed.getD j true = false → (∀ e ∈ oj.after, Region.binds .any e = true → e.on ≠ i) → oi.apart ops oj = true) →
      i ∈ Region.ready .any ops listed → YieldsIn P ops C oi v a →
      anyLQ P ops C n L f (listed.setIfInBounds i true) (a.put oi.dst v) → anyLQ P ops C n L (f + 1) listed a := by
  intro f
  induction f with
  | zero =>
    intro listed a inv _ hr hy H
    have hun := (mem_ready.1 hr).1
    refine ⟨List.ne_nil_of_mem hr, fun j hj => ?_⟩
    have hjn : j < n := Nat.lt_of_not_le fun h => hwait listed inv hun j h hj
    refine ⟨hjn, ?_⟩
    rcases Decidable.em (j = i) with rfl | hji
    · exact hy.qOp hi H
    · have := hdone _ _ H j (ready_mono hj hji)
      omega
  | succ f ih =>
    intro listed a inv hfree hr hy H
    have hun := (mem_ready.1 hr).1
    refine ⟨List.ne_nil_of_mem hr, fun j hj => ?_⟩
    have hjn : j < n := Nat.lt_of_not_le fun h => hwait listed inv hun j h hj
    refine ⟨hjn, ?_⟩
    rcases Decidable.em (j = i) with rfl | hji
    · exact hy.qOp hi H
    · obtain ⟨hjun, oj, hoj, hall⟩ := mem_ready.1 hj
      have hnot : ∀ e ∈ oj.after, Region.binds .any e = true → e.on ≠ i := fun e he hb heq => by
        have h1 := hall e he hb
        rw [heq, getD_both hun] at h1
        cases h1
      have h2 := qOp_put hoj (hfree j oj hoj hji hjun hnot) (fun cs b => hsel i oi cs b hi) (fun cs b => hsel j oj cs b hoj) hy (H.2 j (ready_mono hj hji)).2
      have hfree' : ∀ k ok, ops[k]? = some ok → k ≠ i → (listed.setIfInBounds j true).getD k true = false →
          (∀ e ∈ ok.after, Region.binds .any e = true → e.on ≠ i) → oi.apart ops ok = true := fun k ok hk hki hku hno => by
        refine hfree k ok hk hki ?_ hno
        rcases Decidable.em (j = k) with rfl | hjk
        · exact hjun
        · rwa [getD_set_ne true hjk] at hku
      refine qOp_mono (fun a' h3 => ih (listed.setIfInBounds j true) a' (inv.set hj hjn) hfree' (ready_mono hr (Ne.symm hji)) h3.1 ?_) h2
      rw [Array.setIfInBounds_comm _ _ hji]
      exact h3.2
theorem anyLQ_lex {n g : Nat} {Lq : Act → Prop} (hsel : Region.noSelect ops = true) (hs : Region.sinkB .any ops n = true) (hc : Region.chainB .any ops n = true) (hn : n < ops.size) :
    ∀ (l : List Oper) (k : Nat) (listed : Array Bool) (a : Act), (∀ j, j < l.length → l[j]? = ops[k + j]?) → k + l.length = n → HeadInv .any ops n listed →
    Region.lexHead .any ops g l.length k listed = true → wpQuiet P ops C Lq l a →
    anyLQ P ops C n (fun listed' a' => Region.seqB .any ops g n listed' = true ∧ Lq a') l.length listed a
  | [], k, listed, a, _, hk, _, hB, h => by
    obtain rfl : k = n := by simpa using hk
    exact ⟨by simpa [Region.lexHead] using hB, h⟩
  | o :: l, k, listed, a, hl, hk, inv, hB, h => by
    have h0 : ops[k]? = some o := (hl 0 (by simp)).symm
    simp only [List.length_cons] at hk
    simp only [List.length_cons, Region.lexHead, Bool.and_eq_true] at hB
    obtain ⟨⟨hr, hf⟩, hB'⟩ := hB
    have hkn : k < n := by omega
    have hr' : k ∈ Region.ready .any ops listed := by simpa using hr
    have hst : qOp P ops C k (wpQuiet P ops C Lq l) a := by unfold qOp; simp only [h0]; exact h
    obtain ⟨v, hy, hK⟩ := yieldsIn_of_qOp h0 hst
    refine anyLQ_first h0 (Region.noSelect_spec hsel) (fun listed' inv' hun t ht => tail_waits hs hc hn inv' _ k rfl hkn hun t ht) (fun listed' a' hL => seqB_ready hL.1) l.length listed a inv (Region.free_spec h0 hf) hr' hy
      (anyLQ_lex hsel hs hc hn l (k + 1) _ _ (fun j hj => ?_) (by omega) (inv.set hr' hkn) hB' hK)
    have h1 := hl (j + 1) (by simp; omega)
    rw [List.getElem?_cons_succ] at h1
    rw [h1]; congr 1; omega
/-- The quiet operations ahead are walked in the order of the text; then the tail, in some later world. -/
theorem region_quiet_tail {id : Nat} {Q : Exit → Act → World → Prop} {a : Act} {w : World} {l : List Oper} (n : Nat) (hm : P.follows .mixedOrders = true) (hB : Region.lexTailB .any l.toArray n = true)
    (h : wpQuiet P l.toArray (fun w' => ∃ m, w' = w.drewN m) (fun a' => ∀ w', (∃ m, w' = w.drewN m) → wpList P l.toArray Q (l.drop n) a' w') (l.take n) a) : (Code.region id l.toArray true).wp P Q a w := by
  simp only [Region.lexTailB, Bool.and_eq_true, decide_eq_true_eq] at hB
  obtain ⟨⟨⟨⟨hsel, hn⟩, hs⟩, hc⟩, hlex⟩ := hB
  have hn' : n < l.length := by simpa using hn
  have hlen : (l.take n).length = n := by rw [List.length_take]; omega
  have hdl : (l.drop n).length = l.toArray.size - n := by simp
  have inv : HeadInv .any l.toArray n (Array.replicate l.toArray.size false) :=
    ⟨by simp, fun j oj _ h1 => (by rw [getD_replicate_false] at h1; cases h1), fun t _ h1 => getD_in (by simpa using h1) (getD_replicate_false _ _)⟩
  have H := anyLQ_lex (g := l.toArray.size - n) hsel hs hc hn (l.take n) 0 _ a (fun j hj => by rw [hlen] at hj; simp [hj]) (by omega) inv (by rw [hlen]; exact hlex) h
  refine wp_region_any hm ?_
  have h1 := any_of_headQ (Q' := Q) (g := l.toArray.size - n) (fun listed a' w' hw' hL => by
    have h2 := wpAny_of_seq (md := .any) (Q' := Q) (l.drop n) n listed a' w' (fun j => by simp [List.getElem?_drop]) (by rw [hdl]; exact hL.1) (hL.2 w' hw')
    rwa [hdl] at h2) _ _ _ { w with drawn := w.drawn + 1 } ⟨1, rfl⟩ H
  rw [hlen, show n + (l.toArray.size - n) = l.toArray.size by omega] at h1
  exact h1
end
end Go.Proofs.YtofpaekokmkhgaaGreatDoor
namespace Go.Proofs.YtofpaekokmkhgaaGreatDoor
open Go.ChangeShapes Go.WideShapes Go.ChangeAt Go.RowKit

def zeroM (n : Nat) : List (List Int) := List.replicate n (List.replicate n 0)
theorem zeroM_get {n j : Nat} (h : j < n) : (zeroM n)[j]? = some (List.replicate n 0) := by unfold zeroM; rw [List.getElem?_replicate, if_pos h]
theorem carR_zero (n : Nat) (P : List (List Int)) : carR n P 0 = zeroM n := rfl

theorem planRowAt {w : World} {A : Option Addr} {c n r : Nat} {P : List (List Int)} (hpl : planB n P = true) (hs : InS w (.slice A P.length c) P) (hr : r < P.length) :
    ∃ b off A1 c1 R, A = some ⟨b, off, none⟩ ∧ b < w.heap.size ∧ w.cell? ⟨b, off + r, none⟩ = some (.slice A1 n c1) ∧ n ≤ c1 ∧ SlI w A1 R ∧ R.length = n ∧ ∀ k, k < n → R.getD k 0 = elP P r k := by
  obtain ⟨b, off, u, R, rfl, hu, hcell, hin, hlt⟩ := hs.at_ (k := r) hr
  obtain ⟨A1, c1, rfl, hc1, hm1, hsl⟩ := hin
  have hl : R.length = n := by have := (planB_row hpl hu).2.2.1; omega
  refine ⟨b, off, A1, c1, R, rfl, hlt, by rw [hcell, hl], by omega, hsl, hl, fun k hk => ?_⟩
  unfold elP
  rw [show P.getD r [] = R from by rw [List.getD_eq_getElem?_getD, hu]; rfl]
/-- What a raised cell makes of the table. -/
theorem carNext {n q s k : Nat} {P : List (List Int)} (hpl : planB n P = true) (hq : q < P.length) (hs : s < P.length) (hk : k < n) :
    ∃ xs x, (carK P q s (carR n P q) k)[oppAt P q k]? = some xs ∧ xs.length = n ∧ xs[oppAt P s k]? = some x ∧ 0 ≤ x ∧ x ≤ 370 ∧ carK P q s (carR n P q) (k + 1) = (carK P q s (carR n P q) k).set (oppAt P q k) (xs.set (oppAt P s k) (x + 1)) := by
  have hcap := planB_cap hpl
  have h0 := (sqM_carK hpl hq hs (sqM_carR hpl q (by omega)) k (by omega)).wide (d := 370) (by have := Nat.mul_le_mul hcap.2.1 (show q ≤ 36 by omega); omega)
  have ha := (planB_opp hpl hq hk).1
  have hb := (planB_opp hpl hs hk).1
  obtain ⟨xs, h1, _, h3⟩ := h0.row ha
  obtain ⟨x, h4, _, h6, h7⟩ := h0.cell h1 hb
  exact ⟨xs, x, h1, h3, h4, h6, by omega, bump_eq h1 h4⟩

set_option maxHeartbeats 4000000 in
theorem implCarryTable_any (v : Value) (P : List (List Int)) (n : Nat) (w : World) (hs : InS w v P) (hn : bulk P ≤ 1048576) (hpl : planB n P = true) (hne : 0 < P.length) :
    Calls Tryz.prog 41 #[.int .i64 n, v] w fun e w' => ∃ v', e = .returned v' ∧ OwS w' w.heap.size w'.heap.size v' (carR n P P.length) ∧ Below w.heap.size w w' := by
  have HC := Lib.hid (implPlanOk_any n v P w hs hn)
  have HS := Lib.hid hs
  obtain ⟨A, c, vs, hv, hvl, hc, hm, -, -⟩ := id hs
  subst hv
  have hcap := planB_cap hpl
  have HPL := Lib.hid hpl
  have HROW : Hid (∀ (r : Nat), r < P.length → ∃ b off A1 c1 R, A = some ⟨b, off, none⟩ ∧ b < w.heap.size ∧ w.cell? ⟨b, off + r, none⟩ = some (.slice A1 n c1) ∧ n ≤ c1 ∧ SlI w A1 R ∧ R.length = n ∧ ∀ k, k < n → R.getD k 0 = elP P r k) :=
    fun r h2 => planRowAt hpl hs h2
  have HOP : Hid (∀ (r k : Nat), r < P.length → k < n → oppAt P r k < n ∧ (oppAt P r k : Int) = opp (elP P r k) ∧ -10 ≤ elP P r k ∧ elP P r k ≤ 10 ∧ elP P r k ≠ 0) := fun r k h1 h2 => planB_opp hpl h1 h2
  have HNX : Hid (∀ (q s k : Nat), q < P.length → s < P.length → k < n → ∃ xs x, (carK P q s (carR n P q) k)[oppAt P q k]? = some xs ∧ xs.length = n ∧ xs[oppAt P s k]? = some x ∧ 0 ≤ x ∧ x ≤ 370 ∧ carK P q s (carR n P q) (k + 1) = (carK P q s (carR n P q) k).set (oppAt P q k) (xs.set (oppAt P s k) (x + 1))) := fun q s k h1 h2 h3 => carNext hpl h1 h2 h3
  clear hpl hvl hs
  unfold maxLen at hm
  have e0 : ((P.length : Int) == 0) = false := by have : ¬ (P.length : Int) = 0 := by omega
                                                  simpa using this
  generalize hN : P.length = N at *
  have HN := Lib.hid hN
  clear hN
  go_enter Tryz.func41, Tryz.ntmps41
  go_wp2_with (first | (go_at_call 39; refine HC.out.mono ?_; rintro e w' ⟨rfl, d, rfl⟩; rw [HPL.out]) | (at_make; refine makeS rfl _ _ rfl _ n rfl rfl (by omega) ?_; intro w1 hown hb hsz))
  have B1 : Hid (Below w.heap.size w w1) := (below_of_drewN _ w d).trans hb
  have F1 : Hid (FillS w.heap.size w1 n 0 [] (zeroM n)) := FillS.zero (w := w.drewN d) (by simp [zeroM]) hown hsz
  have HZ1 := Lib.hid hsz
  clear hown hb hsz
  generalize w.drewN d = wd at *
  go_loopw [24] (fun i wr => ∃ (j : Nat) (us : List Value), j ≤ n ∧ i = .int .i64 j ∧ Hid (FillS w.heap.size wr n j us (zeroM n) ∧ Below w.heap.size w wr)) (fun i _ => n - (intOf i).toNat)
  case atStart => exact ⟨0, [], Nat.zero_le _, rfl, F1.out, B1.out⟩
  case round =>
    obtain ⟨j, us, hj, rfl, HR⟩ := hrel
    by_cases hlt : j < n
    case pos =>
      have HRP : Hid (((List.replicate n (0 : Int)).length = n) ∧ (zeroM n)[j]? = some (List.replicate n 0)) := ⟨by simp, zeroM_get hlt⟩
      go_wp2_with (at_make; refine makeI rfl _ _ rfl wr n rfl rfl (by omega) ?_; intro w2 hfr hb hsz2; have H2 := (HR.out.1.next hlt HRP.out.2 (by rw [HRP.out.1]; exact hfr) hb); rw [HRP.out.1] at H2; obtain ⟨⟨x2, hx2⟩, hf2, hF2, hK2⟩ := H2; have HF2 : Hid (FillS w.heap.size (w2.setCell ⟨w.heap.size, j, none⟩ (.slice (some ⟨wr.heap.size, 0, none⟩) n n)) n (j + 1) (us ++ [.slice (some ⟨wr.heap.size, 0, none⟩) n n]) (zeroM n) ∧ Below w.heap.size w (w2.setCell ⟨w.heap.size, j, none⟩ (.slice (some ⟨wr.heap.size, 0, none⟩) n n))) := ⟨hF2, (HR.out.2.trans (hb.mono HR.out.2.size)).trans (hK2.below (Nat.le_refl _) (by have := hb.size; have := HR.out.2.size; omega))⟩; clear hF2 hK2 hfr hb hsz2)
      go_roundw
      case rel => exact ⟨j + 1, _, by omega, by go_num, HF2.out⟩
      case measure => simp [intOf]; omega
    obtain rfl : n = j := by omega
    have HT : Hid (OwS wr w.heap.size wr.heap.size (.slice (some ⟨w.heap.size, 0, none⟩) n n) (carR n P 0) ∧ Below w.heap.size w wr) := ⟨HR.out.1.done, HR.out.2⟩
    clear HR F1 B1 HZ1
    go_wp2
    go_loopw [35] (fun i wt => ∃ (q : Nat), q ≤ N ∧ i = .int .i64 q ∧ Hid (OwS wt w.heap.size wt.heap.size (.slice (some ⟨w.heap.size, 0, none⟩) n n) (carR n P q) ∧ Below w.heap.size w wt)) (fun i _ => N - (intOf i).toNat)
    case atStart => exact ⟨0, Nat.zero_le _, rfl, HT.out⟩
    case round =>
      obtain ⟨q, hq, rfl, HR⟩ := hrel
      clear HT
      by_cases hlt2 : q < N
      case neg =>
        obtain rfl : N = q := by omega
        go_wp2
        go_ret
        exact ⟨_, rfl, HR.out.1, HR.out.2⟩
      obtain ⟨s, hs⟩ : ∃ s, s = (q + 1) % N := ⟨_, rfl⟩
      have hsN : s < N := by rw [hs]; exact Nat.mod_lt _ (by omega)
      have J2 : ((q : Int) + 1) % (N : Int) = (s : Int) := by rw [hs, Int.natCast_emod]; rfl
      have HSQ := Lib.hid hs
      clear hs
      obtain ⟨b, off, A1, c1, R, rfl, hbl, hce1, hc1, hsl1, hl1, hel1⟩ := HROW.out q hlt2
      obtain ⟨b', off', A2, c2, S, e3, hbl2, hce2, hc2, hsl2, hl2, hel2⟩ := HROW.out s hsN
      injection e3 with e3; injection e3 with r1 r2 _; subst r1; subst r2
      have HS1 := Lib.hid (And.intro hsl1 (And.intro hl1 hel1))
      have HS2 := Lib.hid (And.intro hsl2 (And.intro hl2 hel2))
      have hd1 : wr.cell? ⟨b, off + q, none⟩ = some (.slice A1 n c1) := (HR.out.2.cell (p := ⟨b, off + q, none⟩) hbl).trans hce1
      have hd2 : wr.cell? ⟨b, off + s, none⟩ = some (.slice A2 n c2) := (HR.out.2.cell (p := ⟨b, off + s, none⟩) hbl).trans hce2
      clear hsl1 hl1 hel1 hsl2 hl2 hel2 hce1 hce2 hbl2
      go_wp2
      go_loopw [49] (fun i wt => ∃ (k : Nat), k ≤ n ∧ i = .int .i64 k ∧ Hid (OwS wt w.heap.size wt.heap.size (.slice (some ⟨w.heap.size, 0, none⟩) n n) (carK P q s (carR n P q) k) ∧ Below w.heap.size w wt)) (fun i _ => n - (intOf i).toNat)
      case atStart => exact ⟨0, Nat.zero_le _, rfl, HR.out⟩
      case round =>
        obtain ⟨k, hk, rfl, HT⟩ := hrel
        clear HR hd1 hd2
        by_cases hlt3 : k < n
        case neg =>
          obtain rfl : n = k := by omega
          have HN2 : Hid (carK P q s (carR n P q) n = carR n P (q + 1)) := by show _ = _; rw [HSQ.out, ← HN.out]; rfl
          go_wp2
          go_roundw
          case rel => exact ⟨q + 1, by omega, by go_num, by rw [← HN2.out]; exact HT.out⟩
          case measure => simp [intOf]; omega
        obtain ⟨xs, x0, hxa, hxl, hxb, hx0, hx1, hnx⟩ := HNX.out q s k hlt2 hsN hlt3
        have ho1 := HOP.out q k hlt2 hlt3
        have ho2 := HOP.out s k hsN hlt3
        have HX1 : Hid (R.getD k 0 = elP P q k) := HS1.out.2.2 k hlt3
        have HX2 : Hid (S.getD k 0 = elP P s k) := HS2.out.2.2 k hlt3
        generalize oppAt P q k = a at *
        generalize oppAt P s k = d2 at *
        generalize elP P q k = x at *
        generalize elP P s k = y at *
        obtain ⟨hal, hop1, hx2, hx3, _⟩ := ho1
        obtain ⟨hdl, hop2, hy2, hy3, _⟩ := ho2
        have HO1 : Hid (opp x = (a : Int)) := hop1.symm
        have HO2 : Hid (opp y = (d2 : Int)) := hop2.symm
        obtain ⟨g, g1, c3, x9, e3, _, _, hce, hc3, hxb', hcx, hfz, hst⟩ := HT.out.1.cellAt hxa (b := d2) (by rw [hxl]; exact hdl)
        injection e3 with e3; injection e3 with r1 _ _; subst r1
        obtain rfl : x0 = x9 := by rw [hxb] at hxb'; injection hxb'
        rw [hxl] at hce hc3
        have HST := Lib.hid (hst (x0 + 1))
        have HNXT := Lib.hid hnx
        have J3 : IntKind.i64.wrap (x0 + 1) = x0 + 1 := by rw [IntKind.wrap_i64]; omega
        have HSA : Hid (SlI wr A1 R ∧ SlI wr A2 S) := ⟨SlI.below HS1.out.1 HT.out.2, SlI.below HS2.out.1 HT.out.2⟩
        clear hxa hxl hxb hxb' hnx hst hop1 hop2
        have HC1 : Hid (∀ m, Calls Tryz.prog 69 #[.slice A1 n c1, .int .i64 k] (wr.drewN m) fun e w' => e = .returned (.int .i64 a) ∧ ∃ m', w' = (wr.drewN m).drewN m') := fun m => opponent_any A1 c1 n R k x a _ (SlI.drewN HSA.out.1 m) HS1.out.2.1 hlt3 HX1.out HO1.out (by omega) (by omega)
        have HC2 : Hid (∀ m, Calls Tryz.prog 69 #[.slice A2 n c2, .int .i64 k] (wr.drewN m) fun e w' => e = .returned (.int .i64 d2) ∧ ∃ m', w' = (wr.drewN m).drewN m') := fun m => opponent_any A2 c2 n S k y d2 _ (SlI.drewN HSA.out.2 m) HS2.out.2.1 hlt3 HX2.out HO2.out (by omega) (by omega)
        go_wp2
        refine region_quiet_tail 13 (by kernel_rfl) (by kernel_rfl) ?_
        simp only [List.take_succ_cons, List.take_zero, List.drop_succ_cons, List.drop_zero]
        repeat (go_big_quiet_step (first | (go_at_call 69; with_reducible exact Calls.quiet_of (HC1.out _)) | (go_at_call 69; with_reducible exact Calls.quiet_of (HC2.out _))))
        refine wpQuiet_nil ?_
        intro _ hw'
        obtain ⟨nq, hw''⟩ := hw'
        subst hw''
        go_wp2
        go_roundw
        case rel =>
          refine ⟨k + 1, by omega, by go_num, ?_, ?_⟩
          · rw [HNXT.out]; exact (HST.out.1.top HST.out.2.size (Nat.le_refl _)).drewN _
          · exact below_drewN (HT.out.2.trans (HST.out.2.below (Nat.le_refl _) HT.out.2.size)) _
        case measure => simp [intOf]; omega
end Go.Proofs.YtofpaekokmkhgaaGreatDoor
