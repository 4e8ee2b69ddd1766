/- The program's Pfaffian. -/
import Derived.Test.YtklhplifceedeaaDoorSkp
import Derived.Test.YtklhplifceedeaaDoorSkc
import Derived.Test.YtklhplifceedeaaDoorCu
import Derived.Test.YtklhplifceedeaaDoorTok
import Derived.Test.YtklhplifceedeaaDoorBox
namespace Go.Proofs.YtklhplifceedeaaDoor
open Go.ChangeShapes Go.WideShapes Go.ChangeAt Go.RowKit

def nI (l : List Nat) : List Int := l.map fun (a : Nat) => (a : Int)
theorem nI_length (l : List Nat) : (nI l).length = l.length := by simp [nI]
theorem nI_at {l : List Nat} {i : Nat} (h : i < l.length) : (nI l)[i]? = some ((l.getD i 0 : Nat) : Int) := by
  unfold nI
  rw [List.getElem?_map, List.getD_eq_getElem?_getD, List.getElem?_eq_getElem h]; rfl
theorem nI_erase (l : List Nat) (i : Nat) : nI (l.eraseIdx i) = (nI l).take i ++ (nI l).drop (i + 1) := by
  unfold nI
  rw [List.eraseIdx_eq_take_drop_succ, List.map_append, List.map_take, List.map_drop]
theorem altP_abs {f : Nat → List Nat → Int} {l : List Nat} {B : Nat} (h : ∀ i, i < l.length → (f (l.getD i 0) (l.eraseIdx i)).natAbs ≤ B) : ∀ i, i ≤ l.length → (altP f l i).natAbs ≤ i * B
  | 0, _ => by simp [altP, smN]
  | i + 1, hi => by
    have ih := altP_abs h i (by omega)
    have h1 := h i (by omega)
    rw [altP_succ (by omega), Nat.succ_mul]
    have h2 : (sg i * f (l.getD i 0) (l.eraseIdx i)).natAbs ≤ B := by
      rw [Int.natAbs_mul]
      have : (sg i).natAbs = 1 := by unfold sg; split <;> rfl
      rw [this, Nat.one_mul]; exact h1
    omega

set_option maxHeartbeats 4000000 in
set_option maxRecDepth 100000 in
theorem pfaffian_any (x : TourV) (hok : tourB x = true) : ∀ (k : Nat), k ≤ 3 → ∀ (l : List Nat) (A : Option Addr) (c : Nat) (v : Value) (w : World), l.length = 2 * k → (∀ a ∈ l, a < x.wins.length) → l.Nodup → InT w v x → SlI w A (nI l) → l.length ≤ c → c ≤ maxLen →
    Calls Tryd.prog 38 #[v, .slice A l.length c] w fun e w' => e = .returned (.int .i64 (pf (Mb (bt x.wins)) k l)) ∧ Below w.heap.size w w' := by
  intro k
  induction k with
  | zero =>
    intro _ l A c v w hl _ _ hs _ _ _
    obtain rfl := List.eq_nil_of_length_eq_zero hl
    obtain ⟨u, rfl, B, d, rfl, hd, hm, hsl⟩ := hs
    go_enter Tryd.func38, Tryd.ntmps38
    go_wp2
    go_ret
    exact ⟨rfl, (Below.refl _ w).alloc (Nat.le_refl _) _⟩
  | succ k ih =>
    intro hk3 l A c v w hl hmem hnd hs hsl hc hcm
    obtain ⟨a, m, rfl⟩ : ∃ a m, l = a :: m := (by cases l with | nil => simp at hl | cons a m => exact ⟨a, m, rfl⟩)
    have hml : m.length = 2 * k + 1 := by have := hl; rw [List.length_cons] at this; omega
    have HREC := Lib.hid (ih (by omega))
    have HIT := Lib.hid hs
    have HIL := Lib.hid hsl
    obtain ⟨u, rfl, B, d, rfl, hd, hm, hts⟩ := hs
    obtain ⟨t1, t2, t3, t4, _⟩ := tourB_t hok
    have hn8 : x.wins.length ≤ 8 := by omega
    obtain ⟨b, off, y0, rfl, hy0, hc0, hbl⟩ := hsl.at_ (k := 0) (by rw [nI_length]; simp)
    rw [Nat.add_zero] at hc0
    obtain rfl : y0 = (a : Int) := by rw [nI_at (by simp)] at hy0; injection hy0 with hy0; exact hy0.symm
    rw [show (a :: m).length = m.length + 1 from rfl] at hc ⊢
    have HF : Hid (pf (Mb (bt x.wins)) (k + 1) (a :: m) = altP (fun y r => Mb (bt x.wins) a y * pf (Mb (bt x.wins)) k r) m m.length) := by show _ = _; rw [altP_all]; rfl
    obtain ⟨f, Hf⟩ : ∃ f, Hid ((fun y r => Mb (bt x.wins) a y * pf (Mb (bt x.wins)) k r) = f) := ⟨_, rfl⟩
    rw [Hf.out] at HF
    have HSUM : Hid (∀ q, q < m.length → altP f m (q + 1) = altP f m q + sg q * (Mb (bt x.wins) a (m.getD q 0) * pf (Mb (bt x.wins)) k (m.eraseIdx q))) := fun q hq => by rw [altP_succ hq, ← Hf.out]
    have HPA : Hid (∀ q, q < m.length → (pf (Mb (bt x.wins)) k (m.eraseIdx q)).natAbs ≤ 3) := fun q hq => by
      have h1 := pf_abs (Mb_abs (bt x.wins)) k (m.eraseIdx q) (by rw [List.length_eraseIdx_of_lt hq]; omega)
      have h2 : dfact k ≤ 3 := by
        match k, hk3 with
        | 0, _ => decide
        | 1, _ => decide
        | 2, _ => decide
      omega
    have HSB : Hid (∀ q, q ≤ m.length → (altP f m q).natAbs ≤ q * 3) := fun q hq => altP_abs (fun i hi => by
      rw [← Hf.out, Int.natAbs_mul]
      have h1 := HPA.out i hi
      have h2 := Mb_abs (bt x.wins) a (m.getD i 0)
      have h3 := Nat.mul_le_mul h2 h1
      omega) q hq
    have HNE : Hid (∀ q, q < m.length → m.getD q 0 < x.wins.length ∧ bt x.wins a (m.getD q 0) ≠ bt x.wins (m.getD q 0) a) := fun q hq => by
      have h1 : m.getD q 0 ∈ m := by rw [List.getD_eq_getElem?_getD, List.getElem?_eq_getElem hq]; exact List.getElem_mem hq
      have h2 := hmem _ (List.mem_cons_of_mem _ h1)
      refine ⟨h2, tourB_anti hok (hmem a (List.mem_cons_self ..)) h2 ?_⟩
      rintro rfl
      exact (List.nodup_cons.1 hnd).1 h1
    have ha : a < x.wins.length := hmem a (List.mem_cons_self ..)
    have HBT : Hid (∀ V (q : Nat), Below w.heap.size w V → q < m.length → Calls Tryd.prog 37 #[.agg #[.int .i64 x.size, .slice B x.wins.length d], .int .i64 (a : Int), .int .i64 ((m.getD q 0 : Nat) : Int)] V fun e w' => e = .returned (.bool (bt x.wins a (m.getD q 0))) ∧ Below V.heap.size V w') := fun V q hV hq => implBeats_any _ x a _ V (HIT.out.below hV) hn8 t4 ha (by have := (HNE.out q hq).1; omega)
    have HLC : Hid (∀ V, Below w.heap.size w V → V.cell? ⟨b, off, none⟩ = some (.int .i64 (a : Int))) := fun V hV => (hV.cell (block_lt_of_cell hc0)).trans hc0
    have HLQ : Hid (∀ V q, Below w.heap.size w V → q < m.length → V.cell? ⟨b, off + (q + 1), none⟩ = some (.int .i64 ((m.getD q 0 : Nat) : Int))) := fun V q hV hq => by
      obtain ⟨b2, off2, y, e, hy, hcy, hlt⟩ := HIL.out.at_ (k := q + 1) (by rw [nI_length, List.length_cons]; omega)
      injection e with e; injection e with e1 e2; subst e1; subst e2
      rw [nI_at (by rw [List.length_cons]; omega)] at hy
      injection hy with hy
      subst hy
      exact (hV.cell (block_lt_of_cell hcy)).trans hcy
    have HREC2 : Hid (∀ V q A c, Below w.heap.size w V → q < m.length → SlI V A (nI (m.eraseIdx q)) → (nI (m.eraseIdx q)).length ≤ c → c ≤ maxLen → Calls Tryd.prog 38 #[.agg #[.int .i64 x.size, .slice B x.wins.length d], .slice A (nI (m.eraseIdx q)).length c] V fun e w' => e = .returned (.int .i64 (pf (Mb (bt x.wins)) k (m.eraseIdx q))) ∧ Below V.heap.size V w') := fun V q A c hV hq h1 h2 h3 => by
      rw [nI_length] at h2 ⊢
      exact HREC.out (m.eraseIdx q) A c _ V (by rw [List.length_eraseIdx_of_lt hq]; omega) (fun z hz => hmem z (List.mem_cons_of_mem _ (List.mem_of_mem_eraseIdx hz))) ((List.nodup_cons.1 hnd).2.eraseIdx q) (HIT.out.below hV) h1 h2 h3
    have HCAT : Hid (∀ V (q : Nat) (Ad2 : Addr) (c1 c2 n1 n2 : Nat), Below w.heap.size w V → q < m.length → n1 = q → n2 = m.length - (q + 1) → (Ad2 = ⟨b, off + (q + 2), none⟩ ∨ (c = q + 2 ∧ Ad2 = ⟨b, off, none⟩)) →
        Calls Tryd.prog 48 #[.slice (some ⟨V.heap.size, 0, none⟩) 2 2] (V.alloc (.cells #[.slice (some ⟨b, off + 1, none⟩) n1 c1, .slice (some Ad2) n2 c2] 22)).drew fun e w' => ∃ A c, e = .returned (.slice A (nI (m.eraseIdx q)).length c) ∧ Fr w' V.heap.size w'.heap.size (.slice A (nI (m.eraseIdx q)).length c) (nI (m.eraseIdx q)) ∧ Below V.heap.size V w') := fun V q Ad2 c1 c2 n1 n2 hV hq e1 e2 hA => by
      have hnl := nI_length m
      have hs1 : SlI V (some ⟨b, off + 1, none⟩) ((nI m).take q) := ((SlI.below HIL.out hV).drop_ 1).take_ q
      have hs2 : SlI V (some Ad2) ((nI m).drop (q + 1)) := by
        rcases hA with rfl | ⟨h1, rfl⟩
        · have := (SlI.below HIL.out hV).drop_ (q + 2); exact this
        · refine .inl (List.eq_nil_of_length_eq_zero ?_)
          rw [List.length_drop, hnl]; omega
      obtain rfl : ((nI m).take q).length = n1 := by rw [List.length_take, hnl]; omega
      obtain rfl : ((nI m).drop (q + 1)).length = n2 := by rw [List.length_drop, hnl]; omega
      rw [nI_erase]
      refine (concatI_any V.heap.size _ _ c1 c2 _ _ (V.alloc _).drew (by simp) (by simp) (hs1.alloc _).drew (hs2.alloc _).drew (by omega) (by omega)).mono ?_
      rintro e w' ⟨A, c, rfl, hf, hb⟩
      exact ⟨A, c, rfl, hf.wide (by simp) (Nat.le_refl _) (Nat.le_refl _), (((Below.refl _ V).alloc (Nat.le_refl _) _).drew).trans (hb.mono (by simp))⟩
    have H0 : Hid (Bx (w.alloc (.cells #[.int .i64 x.size, .slice B x.wins.length d] 27)) w.heap.size (.int .i64 x.size) (.slice B x.wins.length d) ∧ Below w.heap.size w (w.alloc (.cells #[.int .i64 x.size, .slice B x.wins.length d] 27))) := ⟨⟨by simp, by simp, by simp⟩, (Below.refl _ w).alloc (Nat.le_refl _) _⟩
    clear hsl hy0 hbl hts hl hmem hnd t1 t2 t4 hd hm hok
    have hm5 : m.length ≤ 5 := by omega
    have hnz : ¬ ((m.length : Int) + 1 = 0) := by omega
    have hnzb : (((m.length : Int) + 1) == 0) = false := by simpa using hnz
    clear hml
    go_enter Tryd.func38, Tryd.ntmps38
    go_wp2
    go_loopw [5, 6, 7] (fun s g i wr => ∃ q : Nat, q ≤ m.length ∧ i = .int .i64 ((q : Int) + 1) ∧ g = .int .i64 (sg q) ∧ s = .int .i64 (altP f m q) ∧ Hid (Bx wr w.heap.size (.int .i64 x.size) (.slice B x.wins.length d) ∧ Below w.heap.size w wr)) (fun _ _ i _ => m.length + 1 - (intOf i).toNat)
    case atStart => exact ⟨0, Nat.zero_le _, rfl, rfl, rfl, H0.out⟩
    case round =>
      obtain ⟨q, hq, rfl, rfl, rfl, HR⟩ := hrel
      obtain ⟨wo, rfl⟩ : ∃ W, W = wr := ⟨wr, rfl⟩
      clear H0
      by_cases hlt : q < m.length
      case neg =>
        obtain rfl : q = m.length := by omega
        go_wp2
        go_ret
        exact ⟨by rw [HF.out]; rfl, HR.out.2⟩
      obtain ⟨q0, q1, q2⟩ := id HR.out.1
      have hpa := HPA.out q hlt
      have hsb := HSB.out q hq
      obtain ⟨hb8, hne⟩ := HNE.out q hlt
      have HRC := Lib.hid (fun V A c => HREC2.out V q A c)
      have HNX := HSUM.out q hlt
      generalize pf (Mb (bt x.wins)) k (m.eraseIdx q) = P at *
      have hsg : sg q = 1 ∨ sg q = -1 := by unfold sg; split; exact .inl rfl; exact .inr rfl
      have hsgn := sg_succ q
      obtain ⟨G, hG⟩ : ∃ G, G = sg q := ⟨_, rfl⟩
      rw [← hG] at hsg hsgn HNX ⊢
      have HGP : Hid ((G * P = P ∨ G * P = -P)) := by
        rcases hsg with h | h
        · rw [h]; exact .inl (Int.one_mul _)
        · rw [h]; exact .inr (by omega)
      obtain ⟨Z, hZ⟩ : ∃ Z, G * P = Z := ⟨_, rfl⟩
      clear hG
      have hZw : IntKind.i64.wrap Z = Z := by rw [IntKind.wrap_i64]; have := HGP.out; rw [hZ] at this; omega
      have hZb : -3 ≤ Z ∧ Z ≤ 3 := by
        have := HGP.out
        rw [hZ] at this; omega
      have f1 : (0 : Int) ≤ (q : Int) + 1 := by omega
      have f2 : (1 : Int) ≤ (q : Int) + 1 := by omega
      have f3 : (q : Int) + 1 ≤ (c : Int) := by omega
      have f4 : (0 : Int) ≤ (q : Int) + 2 := by omega
      have f5 : (q : Int) + 2 ≤ (m.length : Int) + 1 := by omega
      have f6 : IntKind.i64.wrap ((q : Int) + 1 + 1) = (q : Int) + 2 := by rw [IntKind.wrap_i64]; omega
      have f7 : ¬ (c = 1) := by omega
      have f8 : ((q : Int) + 2).toNat = q + 2 := by omega
      have f9 : m.length + 1 - (q + 2) = m.length - (q + 1) := by omega
      obtain ⟨Ad2, hif, HAd⟩ : ∃ Ad2 : Addr, (if c = q + 2 then some (⟨b, off, none⟩ : Addr) else some ⟨b, off + (q + 2), none⟩) = some Ad2 ∧ Hid (Ad2 = ⟨b, off + (q + 2), none⟩ ∨ (c = q + 2 ∧ Ad2 = ⟨b, off, none⟩)) := by
        by_cases h : c = q + 2
        · exact ⟨⟨b, off, none⟩, by rw [if_pos h], .inr ⟨h, rfl⟩⟩
        · exact ⟨⟨b, off + (q + 2), none⟩, by rw [if_neg h], .inl rfl⟩
      go_upto_region 7 with (fail)
      refine wp_region_noPanic ?_
      refine wp_region_held_drew (S := fun W => W.cell? ⟨w.heap.size, 0, none⟩ = some (.int .i64 x.size) ∧ W.cell? ⟨w.heap.size, 1, none⟩ = some (.slice B x.wins.length d)) (by kernel_rfl) ⟨q0, q1⟩ (fun hHeld => ?_)
      refine wpAnyH_take (i := 0) (v := ?v0) (by simp only [List.getElem?_toArray, List.getElem?_cons_succ, List.getElem?_cons_zero]; exact rfl) (by kernel_rfl) (by kernel_rfl) (by kernel_rfl) (fun _ _ _ h => h) (Or.inl ⟨by kernel_rfl, ?hy0⟩) (by assumption) ?_
      case hy0 => (intro w hSw; (try dsimp only at hSw); go_simp <;> (try with_reducible rfl))
      try simp only [Act.put, List.setIfInBounds_toArray, List.set_cons_zero, List.set_cons_succ]
      refine wpAnyH_take (i := 1) (v := ?v1) (by simp only [List.getElem?_toArray, List.getElem?_cons_succ, List.getElem?_cons_zero]; exact rfl) (by kernel_rfl) (by kernel_rfl) (by kernel_rfl) (fun _ _ _ h => h) (Or.inl ⟨by kernel_rfl, ?hy1⟩) (by assumption) ?_
      case hy1 => (intro w hSw; (try dsimp only at hSw); go_simp <;> (try with_reducible rfl))
      try simp only [Act.put, List.setIfInBounds_toArray, List.set_cons_zero, List.set_cons_succ]
      refine wpAnyH_take (i := 2) (v := .slice (some ⟨b, off, none⟩) (m.length + 1) c) (by simp only [List.getElem?_toArray, List.getElem?_cons_succ, List.getElem?_cons_zero]; exact rfl) (by kernel_rfl) (by kernel_rfl) (by kernel_rfl) (fun _ _ _ h => h) (Or.inl ⟨by kernel_rfl, ?hy2⟩) (by assumption) ?_
      case hy2 => (intro w hSw; (try dsimp only at hSw); go_simp)
      try simp only [Act.put, List.setIfInBounds_toArray, List.set_cons_zero, List.set_cons_succ]
      refine wpAnyH_take (i := 3) (v := ?v3) (by simp only [List.getElem?_toArray, List.getElem?_cons_succ, List.getElem?_cons_zero]; exact rfl) (by kernel_rfl) (by kernel_rfl) (by kernel_rfl) (fun _ _ _ h => h) (Or.inl ⟨by kernel_rfl, ?hy3⟩) (by assumption) ?_
      case hy3 => (intro w hSw; (try dsimp only at hSw); go_simp <;> (try with_reducible rfl))
      try simp only [Act.put, List.setIfInBounds_toArray, List.set_cons_zero, List.set_cons_succ]
      refine wpAnyH_take (i := 4) (v := .slice (some ⟨b, off + 1, none⟩) q (c - 1)) (by simp only [List.getElem?_toArray, List.getElem?_cons_succ, List.getElem?_cons_zero]; exact rfl) (by kernel_rfl) (by kernel_rfl) (by kernel_rfl) (fun _ _ _ h => h) (Or.inl ⟨by kernel_rfl, ?hy4⟩) (by assumption) ?_
      case hy4 => (intro w hSw; (try dsimp only at hSw); go_simp)
      try simp only [Act.put, List.setIfInBounds_toArray, List.set_cons_zero, List.set_cons_succ]
      refine wpAnyH_take (i := 5) (v := .slice (some ⟨b, off, none⟩) (m.length + 1) c) (by simp only [List.getElem?_toArray, List.getElem?_cons_succ, List.getElem?_cons_zero]; exact rfl) (by kernel_rfl) (by kernel_rfl) (by kernel_rfl) (fun _ _ _ h => h) (Or.inl ⟨by kernel_rfl, ?hy5⟩) (by assumption) ?_
      case hy5 => (intro w hSw; (try dsimp only at hSw); go_simp)
      try simp only [Act.put, List.setIfInBounds_toArray, List.set_cons_zero, List.set_cons_succ]
      refine wpAnyH_take (i := 6) (v := ?v6) (by simp only [List.getElem?_toArray, List.getElem?_cons_succ, List.getElem?_cons_zero]; exact rfl) (by kernel_rfl) (by kernel_rfl) (by kernel_rfl) (fun _ _ _ h => h) (Or.inl ⟨by kernel_rfl, ?hy6⟩) (by assumption) ?_
      case hy6 => (intro w hSw; (try dsimp only at hSw); go_simp <;> (try with_reducible rfl))
      try simp only [Act.put, List.setIfInBounds_toArray, List.set_cons_zero, List.set_cons_succ]
      refine wpAnyH_take (i := 7) (v := ?v7) (by simp only [List.getElem?_toArray, List.getElem?_cons_succ, List.getElem?_cons_zero]; exact rfl) (by kernel_rfl) (by kernel_rfl) (by kernel_rfl) (fun _ _ _ h => h) (Or.inl ⟨by kernel_rfl, ?hy7⟩) (by assumption) ?_
      case hy7 => (intro w hSw; (try dsimp only at hSw); go_simp <;> (try with_reducible rfl))
      try simp only [Act.put, List.setIfInBounds_toArray, List.set_cons_zero, List.set_cons_succ]
      refine wpAnyH_take (i := 8) (v := .slice (some Ad2) (m.length - (q + 1)) (c - (q + 2))) (by simp only [List.getElem?_toArray, List.getElem?_cons_succ, List.getElem?_cons_zero]; exact rfl) (by kernel_rfl) (by kernel_rfl) (by kernel_rfl) (fun _ _ _ h => h) (Or.inl ⟨by kernel_rfl, ?hy8⟩) (by assumption) ?_
      case hy8 => (intro w hSw; (try dsimp only at hSw); go_simp)
      try simp only [Act.put, List.setIfInBounds_toArray, List.set_cons_zero, List.set_cons_succ]
      refine wpAnyH_ready (rs := [9]) (by kernel_rfl) (by simp) ?_
      refine AllReadyH.cons rfl (fun K hK => ?_) AllReadyH.nil
      go_simp
      have q0' := (Below.refl wo.heap.size wo).alloc (Nat.le_refl _) (.cells #[] 3)
      clear q0'
      refine hK.out _ _ ⟨(World.cell?_alloc_lt wo _ ⟨w.heap.size, 0, none⟩ q2).trans q0, (World.cell?_alloc_lt wo _ ⟨w.heap.size, 1, none⟩ q2).trans q1⟩ (fun hHeld => ?_)
      clear hK K
      try simp only [Act.put, List.setIfInBounds_toArray, List.set_cons_zero, List.set_cons_succ]
      refine wpAnyH_ready (rs := [10]) (by kernel_rfl) (by simp) ?_
      refine AllReadyH.cons rfl (fun K hK => ?_) AllReadyH.nil
      go_simp
      go_at_call 48
      (with_reducible refine (HCAT.out wo q _ _ _ _ _ HR.out.2 hlt rfl rfl HAd.out).mono ?_)
      rintro e w3 ⟨A3, c3, rfl, hf3, hb3⟩
      have H3 : Hid (Fr w3 wo.heap.size w3.heap.size (.slice A3 (nI (m.eraseIdx q)).length c3) (nI (m.eraseIdx q)) ∧ Below wo.heap.size wo w3 ∧ (nI (m.eraseIdx q)).length ≤ c3 ∧ c3 ≤ maxLen) := ⟨hf3, hb3, by obtain ⟨A', c', e, h1, h2⟩ := hf3.form; injection e with e1 e2 e3; subst e3; exact ⟨h1, h2⟩⟩
      try (go_wp2_with fail)
      refine hK.out _ _ ⟨(HR.out.1.below H3.out.2.1).1, (HR.out.1.below H3.out.2.1).2.1⟩ (fun hHeld => ?_)
      clear hK K
      try simp only [Act.put, List.setIfInBounds_toArray, List.set_cons_zero, List.set_cons_succ]
      clear hf3 hb3
      refine wpAnyH_ready (rs := [11]) (by kernel_rfl) (by simp) ?_
      refine AllReadyH.cons rfl (fun K hK => ?_) AllReadyH.nil
      go_simp
      go_at_call 38
      (with_reducible refine (HRC.out w3 A3 c3 (HR.out.2.trans (H3.out.2.1.mono HR.out.2.size)) hlt H3.out.1.sl H3.out.2.2.1 H3.out.2.2.2).mono ?_)
      rintro e w4 ⟨rfl, hb4⟩
      have H4 : Hid (Bx w4 w.heap.size (.int .i64 x.size) (.slice B x.wins.length d) ∧ Below w.heap.size w w4) := ⟨(HR.out.1.below H3.out.2.1).below hb4, HR.out.2.trans ((H3.out.2.1.trans (hb4.mono H3.out.2.1.size)).mono HR.out.2.size)⟩
      try (go_wp2_with fail)
      refine hK.out _ _ ⟨H4.out.1.1, H4.out.1.2.1⟩ (fun hHeld => ?_)
      clear hK K
      try simp only [Act.put, List.setIfInBounds_toArray, List.set_cons_zero, List.set_cons_succ]
      clear hb4
      refine wpAnyH_take (i := 12) (v := ?v12) (by simp only [List.getElem?_toArray, List.getElem?_cons_succ, List.getElem?_cons_zero]; exact rfl) (by kernel_rfl) (by kernel_rfl) (by kernel_rfl) (fun _ _ _ h => h) (Or.inl ⟨by kernel_rfl, ?hy12⟩) (by assumption) ?_
      case hy12 => (intro w hSw; (try dsimp only at hSw); go_simp <;> (try with_reducible rfl))
      try simp only [Act.put, List.setIfInBounds_toArray, List.set_cons_zero, List.set_cons_succ]
      refine wpAnyH_take (i := 13) (v := ?v13) (by simp only [List.getElem?_toArray, List.getElem?_cons_succ, List.getElem?_cons_zero]; exact rfl) (by kernel_rfl) (by kernel_rfl) (by kernel_rfl) (fun _ _ _ h => h) (Or.inl ⟨by kernel_rfl, ?hy13⟩) (by assumption) ?_
      case hy13 => (intro w hSw; (try dsimp only at hSw); go_simp <;> (try with_reducible rfl))
      try simp only [Act.put, List.setIfInBounds_toArray, List.set_cons_zero, List.set_cons_succ]
      refine wpAnyH_done (by kernel_rfl) ?_ _
      refine NoPanic.normal ?_
      obtain ⟨r0, r1, r2⟩ := id H4.out.1
      have k0 := HLC.out w4 H4.out.2
      have k1 := HLQ.out w4 q H4.out.2 hlt
      have HKK : Hid (∀ V, Below w.heap.size w V → V.cell? ⟨b, off, none⟩ = some (.int .i64 (a : Int)) ∧ V.cell? ⟨b, off + (q + 1), none⟩ = some (.int .i64 ((m.getD q 0 : Nat) : Int))) := fun V hV => ⟨HLC.out V hV, HLQ.out V q hV hlt⟩
      have HBQ := Lib.hid (fun V hV => HBT.out V q hV hlt)
      have HEQ : Hid (Mb (bt x.wins) a (m.getD q 0) = if bt x.wins a (m.getD q 0) then 1 else -1) := by
        show _ = _
        cases e : bt x.wins a (m.getD q 0)
        · rw [Mb_f e hne]; rfl
        · rw [Mb_t e hne]; rfl
      have f11 : (0 : Int) < (m.length : Int) + 1 := by omega
      have f12 : (q : Int) + 1 < (m.length : Int) + 1 := by omega
      have f13 : ((q : Int) + 1).toNat = q + 1 := by omega
      generalize (m.getD q 0) = p at *
      generalize Mb (bt x.wins) a p = MM at *
      go_upto_region 8 with (fail)
      refine wp_region_noPanic ?_
      refine wp_region_held_drew (S := fun W => W.cell? ⟨w.heap.size, 0, none⟩ = some (.int .i64 x.size) ∧ W.cell? ⟨w.heap.size, 1, none⟩ = some (.slice B x.wins.length d) ∧ W.cell? ⟨b, off, none⟩ = some (.int .i64 (a : Int)) ∧ W.cell? ⟨b, off + (q + 1), none⟩ = some (.int .i64 (p : Int))) (by kernel_rfl) ⟨r0, r1, k0, k1⟩ (fun hHeld => ?_)
      refine wpAnyH_take (i := 0) (v := .agg #[.int .i64 x.size, .slice B x.wins.length d]) (by simp only [List.getElem?_toArray, List.getElem?_cons_succ, List.getElem?_cons_zero]; exact rfl) (by kernel_rfl) (by kernel_rfl) (by kernel_rfl) (fun _ _ _ h => h) (Or.inl ⟨by kernel_rfl, ?hy0⟩) (by assumption) ?_
      case hy0 => (intro w hSw; (try dsimp only at hSw); go_simp)
      try simp only [Act.put, List.setIfInBounds_toArray, List.set_cons_zero, List.set_cons_succ]
      refine wpAnyH_take (i := 1) (v := .slice (some ⟨b, off, none⟩) (m.length + 1) c) (by simp only [List.getElem?_toArray, List.getElem?_cons_succ, List.getElem?_cons_zero]; exact rfl) (by kernel_rfl) (by kernel_rfl) (by kernel_rfl) (fun _ _ _ h => h) (Or.inl ⟨by kernel_rfl, ?hy1⟩) (by assumption) ?_
      case hy1 => (intro w hSw; (try dsimp only at hSw); go_simp)
      try simp only [Act.put, List.setIfInBounds_toArray, List.set_cons_zero, List.set_cons_succ]
      refine wpAnyH_take (i := 2) (v := .pointer (some ⟨b, off, none⟩)) (by simp only [List.getElem?_toArray, List.getElem?_cons_succ, List.getElem?_cons_zero]; exact rfl) (by kernel_rfl) (by kernel_rfl) (by kernel_rfl) (fun _ _ _ h => h) (Or.inl ⟨by kernel_rfl, ?hy2⟩) (by assumption) ?_
      case hy2 => (intro w hSw; (try dsimp only at hSw); go_simp)
      try simp only [Act.put, List.setIfInBounds_toArray, List.set_cons_zero, List.set_cons_succ]
      refine wpAnyH_take (i := 3) (v := .int .i64 (a : Int)) (by simp only [List.getElem?_toArray, List.getElem?_cons_succ, List.getElem?_cons_zero]; exact rfl) (by kernel_rfl) (by kernel_rfl) (by kernel_rfl) (fun _ _ _ h => h) (Or.inl ⟨by kernel_rfl, ?hy3⟩) (by assumption) ?_
      case hy3 => (intro w hSw; (try dsimp only at hSw); go_simp)
      try simp only [Act.put, List.setIfInBounds_toArray, List.set_cons_zero, List.set_cons_succ]
      refine wpAnyH_take (i := 4) (v := .slice (some ⟨b, off, none⟩) (m.length + 1) c) (by simp only [List.getElem?_toArray, List.getElem?_cons_succ, List.getElem?_cons_zero]; exact rfl) (by kernel_rfl) (by kernel_rfl) (by kernel_rfl) (fun _ _ _ h => h) (Or.inl ⟨by kernel_rfl, ?hy4⟩) (by assumption) ?_
      case hy4 => (intro w hSw; (try dsimp only at hSw); go_simp)
      try simp only [Act.put, List.setIfInBounds_toArray, List.set_cons_zero, List.set_cons_succ]
      refine wpAnyH_take (i := 5) (v := .int .i64 ((q : Int) + 1)) (by simp only [List.getElem?_toArray, List.getElem?_cons_succ, List.getElem?_cons_zero]; exact rfl) (by kernel_rfl) (by kernel_rfl) (by kernel_rfl) (fun _ _ _ h => h) (Or.inl ⟨by kernel_rfl, ?hy5⟩) (by assumption) ?_
      case hy5 => (intro w hSw; (try dsimp only at hSw); go_simp)
      try simp only [Act.put, List.setIfInBounds_toArray, List.set_cons_zero, List.set_cons_succ]
      refine wpAnyH_take (i := 6) (v := .pointer (some ⟨b, off + (q + 1), none⟩)) (by simp only [List.getElem?_toArray, List.getElem?_cons_succ, List.getElem?_cons_zero]; exact rfl) (by kernel_rfl) (by kernel_rfl) (by kernel_rfl) (fun _ _ _ h => h) (Or.inl ⟨by kernel_rfl, ?hy6⟩) (by assumption) ?_
      case hy6 => (intro w hSw; (try dsimp only at hSw); go_simp)
      try simp only [Act.put, List.setIfInBounds_toArray, List.set_cons_zero, List.set_cons_succ]
      refine wpAnyH_take (i := 7) (v := .int .i64 (p : Int)) (by simp only [List.getElem?_toArray, List.getElem?_cons_succ, List.getElem?_cons_zero]; exact rfl) (by kernel_rfl) (by kernel_rfl) (by kernel_rfl) (fun _ _ _ h => h) (Or.inl ⟨by kernel_rfl, ?hy7⟩) (by assumption) ?_
      case hy7 => (intro w hSw; (try dsimp only at hSw); go_simp)
      try simp only [Act.put, List.setIfInBounds_toArray, List.set_cons_zero, List.set_cons_succ]
      refine wpAnyH_ready (rs := [8]) (by kernel_rfl) (by simp) ?_
      refine AllReadyH.cons rfl (fun K hK => ?_) AllReadyH.nil
      go_simp
      go_at_call 37
      (with_reducible refine (HBQ.out w4.drew H4.out.2.drew).mono ?_)
      rintro e w5 ⟨rfl, hb5⟩
      have H5 : Hid (Bx w5 w.heap.size (.int .i64 x.size) (.slice B x.wins.length d) ∧ Below w.heap.size w w5) := ⟨(show Bx w4.drew w.heap.size (.int .i64 x.size) (.slice B x.wins.length d) from H4.out.1).below hb5, H4.out.2.drew.trans (hb5.mono H4.out.2.size)⟩
      try (go_wp2_with fail)
      refine hK.out _ _ ⟨H5.out.1.1, H5.out.1.2.1, HKK.out _ H5.out.2⟩ (fun hHeld => ?_)
      clear hK K
      try simp only [Act.put, List.setIfInBounds_toArray, List.set_cons_zero, List.set_cons_succ]
      clear hb5
      refine wpAnyH_done (by kernel_rfl) ?_ _
      refine NoPanic.normal ?_
      have HALT := Lib.hid HNX
      clear HNX k0 k1 r0 r1 r2 q0 q1 q2 hHeld
      cases e : bt x.wins a p
      · have hA : altP f m (q + 1) = altP f m q - Z := by
          have h1 := HEQ.out
          rw [e] at h1
          rw [HALT.out, h1, ← hZ]
          simp [Int.sub_eq_add_neg, Int.mul_neg]
        clear HEQ hZ
        generalize altP f m q = S at *
        have hs1 : -12 ≤ S ∧ S ≤ 12 := by omega
        clear f12 f13
        go_wp2
        go_roundw
        case rel => exact ⟨q + 1, by omega, by go_num, by rw [hsgn], by rw [hA], H5.out⟩
        case measure => simp [intOf]; omega
      · have hA : altP f m (q + 1) = altP f m q + Z := by
          have h1 := HEQ.out
          rw [e] at h1
          rw [HALT.out, h1, ← hZ]
          simp
        clear HEQ hZ
        generalize altP f m q = S at *
        have hs1 : -12 ≤ S ∧ S ≤ 12 := by omega
        clear f12 f13
        go_wp2
        go_roundw
        case rel => exact ⟨q + 1, by omega, by go_num, by rw [hsgn], by rw [hA], H5.out⟩
        case measure => simp [intOf]; omega
end Go.Proofs.YtklhplifceedeaaDoor
