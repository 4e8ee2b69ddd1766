/- The orders of a list, one by one: the program's iterator, walked with the state of the caller's loop. -/
import Derived.Test.YtnjomfmmnkjhfaaRgf
import Derived.Test.YtnjomfmmnkjhfaaMdp
import Derived.Test.YtnjomfmmnkjhfaaApa
import Derived.Maps.OwnIn
import Derived.Laws.EntriesVeiled
namespace Go.Proofs.Ytnjomfmmnkjhfaa
open Go.ChangeShapes Go.WideShapes Go.ChangeAt Go.RowKit
attribute [local go_sem] Oper.semAt_some

set_option maxRecDepth 100000 in
/-- 'out = append(out, x)' at a row of the call's own, in a fence. -/
theorem app1AtIn {F : Fence} {nF : Nat} {ops : Array Oper} {rest : List Oper} {o : Oper} {a : Act} {Q : Exit → Act → World → Prop} (hgd : o.guard = none) (s y : Operand)
    (ho : o.op = .call { callee := .builtin .append, args := #[s, y], argTypes := #[22, 22] })
    (w : World) (base : Nat) (v : Value) (n : Nat) (xs : List Int) (hs : a.eval s = v) (hown : w.ownsRow base 3 1 v n (ints xs)) (x : Int)
    (hx : a.eval y = .slice (some ⟨w.heap.size, 0, none⟩) 1 1) (hl : n ≤ 1048576) (hbase : base ≤ w.heap.size)
    (h : ∀ v' w', w'.ownsRow base 3 1 v' (n + 1) (ints (xs ++ [x])) → (∀ B, B ≤ base → B ≤ w.heap.size → Below B w w') → w.heap.size < w'.heap.size → w.grownBy w' v.ownBlock → (v'.ownBlock = v.ownBlock ∨ v'.ownBlock = some (w.heap.size + 1)) → wpListIn F nF Try.prog ops Q rest (a.put o.dst v') w') :
    wpListIn F nF Try.prog ops Q (o :: rest) a (w.alloc (.cells #[.int .i64 x] 3)) := by
  obtain ⟨i0, hi, hz0, hz1, hz2⟩ := info_parts infoInt
  refine wpListIn_append_own_at _ hgd s y _ ho base 3 i0 (.int .i64 0) 1 8 Try.underlying22 hi hz0 hz1 hz2 rfl (by decide) v n (ints xs) hs (hown.alloc _) ⟨w.heap.size, 0, none⟩ 1 1 [.int .i64 x] hx rfl ?_ ?_ (by unfold maxLen; omega) (by omega) (by simp; omega) ?_
  · intro j u hj
    match j, hj with
    | 0, hj => simp at hj; subst hj; simp [Addr.add]
  · intro u hu; simp at hu; subst hu; rfl
  · intro v' w' h2 h3 _ h6
    rw [World.size_alloc] at h6
    have hsz := h3.size
    simp only [World.size_alloc] at hsz
    refine h v' w' (by rw [ints_append]; exact h2) (fun B h4 h5 => ?_) (by omega) ?_ h6
    · refine ((Below.refl B w).alloc h5 _).grown h3 (by simp; omega) (fun k hk => ?_)
      have := (hown.lt k hk).1; omega
    · exact ⟨h3.os, h3.tape, h3.output, by omega, fun k hk hne => by rw [h3.block k (by simp; omega) hne]; exact Below.heap_alloc _ _ _ hk⟩

theorem cell_heap {W W' : World} {b o : Nat} (h : W'.heap[b]? = W.heap[b]?) : W'.cell? ⟨b, o, none⟩ = W.cell? ⟨b, o, none⟩ := by simp [World.cell?, h]
theorem box_cell {W : World} {b : Nat} {v : Value} {t : TypeId} (h : W.heap[b]? = some (.cells #[v] t (0, 0))) : W.cell? ⟨b, 0, none⟩ = some v ∧ W.frozen? ⟨b, 0, none⟩ = false := by
  constructor <;> simp [World.cell?, World.frozen?, h]
theorem box_set {W : World} {b : Nat} {v u : Value} {t : TypeId} (h : W.heap[b]? = some (.cells #[v] t (0, 0))) : (W.setCell ⟨b, 0, none⟩ u).heap[b]? = some (.cells #[u] t (0, 0)) := by
  have hb := (Array.getElem?_eq_some_iff.1 h).1
  have hb2 := (Array.getElem?_eq_some_iff.1 h).2
  show (W.heap.modify b _)[b]? = _
  rw [Array.getElem?_eq_getElem (by rw [Array.size_modify]; exact hb), Array.getElem_modify_self, hb2]
  rfl
def bestF (a b c : List Int) (pre : List (List Int)) : List Int := midL a b c pre
def lessF (a b c : List Int) (pre : List (List Int)) : Int := if pre = [] then 0 else sum3 a b c (midL a b c pre)
/-- The numbers of the blocks: the order's box, the best one's, the least sum's, the loop's record; the list's box and row, yield's box, the closure's own box. -/
structure MdC (W0 : World) (lo ob bb sb l lb gl yb eb n cl : Nat) : Prop where
  ob1 : ob < lo
  bb1 : bb < lo
  sb1 : sb < lo
  l1 : l < lo
  ne : ob ≠ bb ∧ ob ≠ sb ∧ ob ≠ l ∧ bb ≠ sb ∧ bb ≠ l ∧ sb ≠ l
  lbn : lb < lo ∧ lb ≠ ob ∧ lb ≠ bb ∧ lb ≠ sb ∧ lb ≠ l
  gln : gl < lo ∧ gl ≠ ob ∧ gl ≠ bb ∧ gl ≠ sb ∧ gl ≠ l
  ybn : yb < lo ∧ yb ≠ ob ∧ yb ≠ bb ∧ yb ≠ sb ∧ yb ≠ l
  ebn : eb < lo ∧ eb ≠ ob ∧ eb ≠ bb ∧ eb ≠ sb ∧ eb ≠ l
  clb : W0.cell? ⟨lb, 0, none⟩ = some (.slice (some ⟨gl, 0, none⟩) n cl)
  ncl : n ≤ cl ∧ cl ≤ maxLen
  cgl : ∀ k, k < n → W0.cell? ⟨gl, k, none⟩ = some (.int .i64 (k : Int))
  cyb : W0.cell? ⟨yb, 0, none⟩ = some (.func (.yield l) #[] #[])
  ceb : W0.cell? ⟨eb, 0, none⟩ = some (.func (.func 46) #[] #[.pointer (some ⟨ob, 0, none⟩), .pointer (some ⟨lb, 0, none⟩), .pointer (some ⟨yb, 0, none⟩), .pointer (some ⟨eb, 0, none⟩)])
/-- What holds between two steps: the order so far is cur, the orders pre have come. -/
structure MdS (W0 W : World) (lo ob bb sb l : Nat) (r : Loop) (a b c : List Int) (ov vb : Value) (cur : List Int) (pre : List (List Int)) : Prop where
  fix : ∀ k, k < lo → k ≠ ob → k ≠ bb → k ≠ sb → k ≠ l → W.heap[k]? = W0.heap[k]?
  env : W.os = W0.os ∧ W.tape = W0.tape ∧ W.output = W0.output
  sz : lo ≤ W.heap.size
  hob : W.heap[ob]? = some (.cells #[ov] 22 (0, 0))
  hbb : W.heap[bb]? = some (.cells #[vb] 22 (0, 0))
  hsb : W.heap[sb]? = some (.cells #[.int .i64 (lessF a b c pre)] 3 (0, 0))
  hl : W.heap[l]? = some (.loop r)
  two : Two W lo ov vb cur (bestF a b c pre)
  hnil : pre = [] → vb = .slice none 0 0
  hsome : pre ≠ [] → ∃ g cb, vb = .slice (some ⟨g, 0, none⟩) (bestF a b c pre).length cb
/-- Blocks from lo on alone have turned. -/
theorem MdS.low {W0 W W' : World} {lo ob bb sb l : Nat} {r : Loop} {a b c : List Int} {ov vb : Value} {cur cur' : List Int} {pre : List (List Int)} (h : MdS W0 W lo ob bb sb l r a b c ov vb cur pre) (hob : ob < lo) (hbb : bb < lo) (hsb : sb < lo) (hl : l < lo)
    (hb : Below lo W W') (ht : Two W' lo ov vb cur' (bestF a b c pre)) : MdS W0 W' lo ob bb sb l r a b c ov vb cur' pre :=
  ⟨fun k hk h1 h2 h3 h4 => (hb.block k hk).trans (h.fix k hk h1 h2 h3 h4), ⟨hb.os.trans h.env.1, hb.tape.trans h.env.2.1, hb.output.trans h.env.2.2⟩, Nat.le_trans h.sz hb.size, (hb.block _ hob).trans h.hob, (hb.block _ hbb).trans h.hbb, (hb.block _ hsb).trans h.hsb, (hb.block _ hl).trans h.hl, ht, h.hnil, h.hsome⟩
theorem two_keep {W W' : World} {lo : Nat} {ov vb : Value} {cur best : List Int} {b : Nat} (h : Two W lo ov vb cur best) (hk : Keep b (b + 1) W W') (hb : b < lo) : Two W' lo ov vb cur best :=
  ⟨(h.fb.keep hk (.inr hb)).wide (Nat.le_refl _) hk.size (Nat.le_refl _), (h.fw.keep hk (.inr hb)).wide (Nat.le_refl _) hk.size (Nat.le_refl _), h.ne⟩
theorem keep_set (W : World) (b : Nat) (u : Value) : Keep b (b + 1) W (W.setCell ⟨b, 0, none⟩ u) := (Keep.refl _ _ _).setCell (p := ⟨b, 0, none⟩) (Nat.le_refl _) (Nat.lt_succ_self _) _
/-- The order's box gets another value. -/
theorem MdS.putOrder {W0 W W' : World} {lo ob bb sb l : Nat} {r : Loop} {a b c : List Int} {ov ov' vb : Value} {cur cur' : List Int} {pre : List (List Int)} (h : MdS W0 W lo ob bb sb l r a b c ov vb cur pre) (hob : ob < lo) (hbb : bb < lo) (hsb : sb < lo) (hl : l < lo) (hne : ob ≠ bb ∧ ob ≠ sb ∧ ob ≠ l)
    (hb : Below lo W W') (ht : Two W' lo ov' vb cur' (bestF a b c pre)) : MdS W0 (W'.setCell ⟨ob, 0, none⟩ ov') lo ob bb sb l r a b c ov' vb cur' pre := by
  have KP := keep_set W' ob ov'
  have hz := Nat.le_trans h.sz hb.size
  have blk : ∀ k, k < lo → k ≠ ob → (W'.setCell ⟨ob, 0, none⟩ ov').heap[k]? = W.heap[k]? := fun k hk hne => (KP.block k (by omega) (by omega)).trans (hb.block k hk)
  exact ⟨fun k hk h1 h2 h3 h4 => (blk k hk h1).trans (h.fix k hk h1 h2 h3 h4), ⟨KP.os.trans (hb.os.trans h.env.1), KP.tape.trans (hb.tape.trans h.env.2.1), KP.output.trans (hb.output.trans h.env.2.2)⟩, Nat.le_trans hz KP.size,
    box_set ((hb.block _ hob).trans h.hob), (blk bb hbb (fun e => hne.1 e.symm)).trans h.hbb, (blk sb hsb (fun e => hne.2.1 e.symm)).trans h.hsb, (blk l hl (fun e => hne.2.2 e.symm)).trans h.hl, two_keep ht KP hob, h.hnil, h.hsome⟩
/-- The last number of the order is let go. -/
theorem two_cut {W : World} {lo : Nat} {ov vb : Value} {cur best : List Int} {x : Int} (h : Two W lo ov vb (cur ++ [x]) best) : ∃ g cap, ov = .slice (some ⟨g, 0, none⟩) (cur.length + 1) cap ∧ cur.length + 1 ≤ cap ∧ cap ≤ maxLen ∧ Two W lo (.slice (some ⟨g, 0, none⟩) cur.length cap) vb cur best := by
  obtain ⟨A, cap, rfl, hc, hm⟩ := h.fb.form
  obtain ⟨g, y, rfl, _⟩ := h.fb.at_ (k := 0) (by simp)
  have hl : (cur ++ [x]).length = cur.length + 1 := by simp
  rw [hl] at hc
  obtain ⟨us, hu1, hu2, hu3, hu4⟩ := own_full h.fb.own
  have h5 := own_cut hu4 (k := cur.length) (by omega)
  have e : us.take cur.length = ints cur := by
    have h6 : (us.take (cur ++ [x]).length).take cur.length = (ints (cur ++ [x])).take cur.length := by rw [hu2]
    rw [List.take_take, Nat.min_eq_left (by omega)] at h6
    rw [h6, ints_append, List.take_append_of_le_length (by rw [ints_length]; exact Nat.le_refl _), List.take_of_length_le (by rw [ints_length]; exact Nat.le_refl _)]
  rw [e] at h5
  exact ⟨g, cap, by rw [hl], hc, hm, Fr.of_own h5, h.fw, fun k hk => h.ne k hk⟩

/-- A round at each whole order: the best one is brought up. -/
def RoundsOk (W0 : World) (lo ob bb sb l : Nat) (r : Loop) (a b c : List Int) (n : Nat) : Prop :=
  ∀ (m : Nat) (W : World) (ov vb : Value) (cur : List Int) (pre : List (List Int)), cur.length = n → MdS W0 W lo ob bb sb l r a b c ov vb cur pre →
    YieldAt Fence.wide m Try.prog l #[ov] W (fun e W' => e = .returned (.bool true) ∧ ∃ vb', MdS W0 W' lo ob bb sb l r a b c ov vb' cur (pre ++ [cur]))
/-- The orders from the first j numbers on. -/
def visT (n f : Nat) (cur : List Int) (j : Nat) : List (List Int) := ((idxs n).take j).flatMap fun x => if cur.contains x then [] else visit n f (cur ++ [x])
theorem visT_in {n f : Nat} {cur : List Int} {j : Nat} (hj : j < n) (h : cur.contains (j : Int) = false) : visT n f cur (j + 1) = visT n f cur j ++ visit n f (cur ++ [(j : Int)]) := by
  rw [visT, take_snoc (idxs_get hj), List.flatMap_append]
  simp only [List.flatMap_cons, List.flatMap_nil, List.append_nil, h, Bool.false_eq_true, if_false]
  rfl
theorem visT_out {n f : Nat} {cur : List Int} {j : Nat} (hj : j < n) (h : cur.contains (j : Int) = true) : visT n f cur (j + 1) = visT n f cur j := by
  rw [visT, take_snoc (idxs_get hj), List.flatMap_append]
  simp only [List.flatMap_cons, List.flatMap_nil, List.append_nil, h, if_true]
  rfl
theorem visT_all (n f : Nat) (cur : List Int) : visT n f cur n = visit n (f + 1) cur := by
  rw [visT, List.take_of_length_le (by rw [idxs_length]; exact Nat.le_refl _)]; rfl
set_option maxHeartbeats 4000000 in
set_option maxRecDepth 100000 in
theorem extend_in {W0 : World} {lo ob bb sb l lb gl yb eb n cl : Nat} {r : Loop} {a b c : List Int} (C : MdC W0 lo ob bb sb l lb gl yb eb n cl) (hn : n ≤ 8) (hY : RoundsOk W0 lo ob bb sb l r a b c n) :
    ∀ (f m : Nat) (W : World) (ov vb : Value) (cur : List Int) (pre : List (List Int)), cur.length + f = n → MdS W0 W lo ob bb sb l r a b c ov vb cur pre →
      CallsIn Fence.wide m Try.prog 46 #[.pointer (some ⟨ob, 0, none⟩), .pointer (some ⟨lb, 0, none⟩), .pointer (some ⟨yb, 0, none⟩), .pointer (some ⟨eb, 0, none⟩)] W
        (fun e W' => e = .returned (.bool true) ∧ ∃ ov' vb', MdS W0 W' lo ob bb sb l r a b c ov' vb' cur (pre ++ visit n f cur)) := by
  intro f
  induction f with
  | zero =>
    intro m W ov vb cur pre hcf H
    obtain ⟨fn, tmps, assign, body, hy, hR⟩ := hY (m - 1) W ov vb cur pre (by omega) H
    obtain ⟨co, -⟩ := box_cell H.hob
    have clb := (cell_heap (o := 0) (H.fix lb C.lbn.1 C.lbn.2.1 C.lbn.2.2.1 C.lbn.2.2.2.1 C.lbn.2.2.2.2)).trans C.clb
    have cyb := (cell_heap (o := 0) (H.fix yb C.ybn.1 C.ybn.2.1 C.ybn.2.2.1 C.ybn.2.2.2.1 C.ybn.2.2.2.2)).trans C.cyb
    obtain ⟨Ao, cap, rfl, -, -⟩ := H.two.fb.form
    have hln : cur.length = n := by omega
    subst hln
    refine callsIn_of_wp Try.func46 rfl trivial ?_ rfl
    simp only [Try.ntmps46, List.size_toArray, List.length_cons, List.length_nil, Nat.reduceAdd, Nat.reduceSub, Array.replicate_succ, Array.replicate_zero, List.push_toArray, List.append_toArray, List.nil_append, List.cons_append]
    gi_wp2
    refine ⟨fun h => (by cases h), hR.mono ?_⟩
    rintro e W' ⟨rfl, vb', H'⟩
    gi_wp2
    go_ret
    exact ⟨rfl, _, vb', H'⟩
  | succ f ih =>
    intro m W ov vb cur pre hcf H
    obtain ⟨co, -⟩ := box_cell H.hob
    have clb := (cell_heap (o := 0) (H.fix lb C.lbn.1 C.lbn.2.1 C.lbn.2.2.1 C.lbn.2.2.2.1 C.lbn.2.2.2.2)).trans C.clb
    obtain ⟨Ao, cap, rfl, -, -⟩ := H.two.fb.form
    have hne : ((cur.length : Int) == (n : Int)) = false := by rw [beq_eq_false_iff_ne]; omega
    have HW := Lib.hid H
    have hcl := C.ncl
    unfold maxLen at hcl
    clear H
    refine callsIn_of_wp Try.func46 rfl trivial ?_ rfl
    simp only [Try.ntmps46, List.size_toArray, List.length_cons, List.length_nil, Nat.reduceAdd, Nat.reduceSub, Array.replicate_succ, Array.replicate_zero, List.push_toArray, List.append_toArray, List.nil_append, List.cons_append]
    gi_wp2
    clear hne co clb
    gi_loopw [18] (fun i wr => ∃ (j : Nat) (ov vb : Value), j ≤ n ∧ i = .int .i64 (j : Int) ∧ Hid (MdS W0 wr lo ob bb sb l r a b c ov vb cur (pre ++ visT n f cur j))) (fun i _ => n - (intOf i).toNat)
    case atStart => exact ⟨0, _, _, Nat.zero_le _, rfl, Lib.hid (by have h := HW.out; simpa [visT] using h)⟩
    case round =>
      obtain ⟨j, ov, vb, hj, rfl, HR⟩ := hrel
      clear HW
      by_cases hlt : j < n
      case neg =>
        obtain rfl : j = n := by omega
        gi_wp2
        go_ret
        exact ⟨rfl, ov, vb, by have h := HR.out; rwa [visT_all] at h⟩
      have cgl := (cell_heap (o := j) (HR.out.fix gl C.gln.1 C.gln.2.1 C.gln.2.2.1 C.gln.2.2.2.1 C.gln.2.2.2.2)).trans (C.cgl j hlt)
      obtain ⟨co, fo⟩ := box_cell HR.out.hob
      obtain ⟨Ao, cap, rfl, -, -⟩ := HR.out.two.fb.form
      have hji : (j : Int) < n := by omega
      cases hc : cur.contains (j : Int)
      · have HV := Lib.hid (visT_in (f := f) hlt hc)
        have HCT := Lib.hid (containsI_any Ao cap cur (j : Int) wr HR.out.two.fb.sl (by omega))
        rw [hc] at HCT
        clear hc
        gi_wp2_with (first
          | (refine ⟨trivial, fun h => (by cases h), ?_⟩; gi_at_call 47; refine (callsIn_wide.2 HCT.out).mono ?_; rintro e w2 ⟨rfl, rfl⟩)
          | (gi_at_builtin; refine app1AtIn rfl _ _ rfl wr lo (.slice Ao cur.length cap) cur.length cur rfl HR.out.two.fb.own _ rfl (by omega) HR.out.sz ?_; intro v5 w5 hown5 hb5 hl5 hg5 ho5; have BL := hb5 lo (Nat.le_refl _) HR.out.sz; obtain ⟨A5, c5, hv5, -, -⟩ := (Fr.of_own (xs := cur ++ [(j : Int)]) (by rw [List.length_append]; exact hown5)).form; rw [show (cur ++ [(j : Int)]).length = cur.length + 1 from by simp] at hv5; subst hv5; have H5 := Lib.hid (HR.out.putOrder C.ob1 C.bb1 C.sb1 C.l1 ⟨C.ne.1, C.ne.2.1, C.ne.2.2.1⟩ BL (HR.out.two.left hown5 hg5 ho5)); obtain ⟨co5, fo5⟩ := box_cell ((BL.block _ C.ob1).trans HR.out.hob); have ceb := (cell_heap (o := 0) (H5.out.fix eb C.ebn.1 C.ebn.2.1 C.ebn.2.2.1 C.ebn.2.2.2.1 C.ebn.2.2.2.2)).trans C.ceb; clear hown5 hb5 hl5 hg5 ho5 BL)
          | ((first | refine ⟨trivial, fun h => (by cases h), ?_⟩ | refine ⟨fun h => (by cases h), ?_⟩ | skip); refine (ih _ _ _ _ (cur ++ [(j : Int)]) _ (by rw [List.length_append]; simp; omega) H5.out).mono ?_; clear ih; rintro e w6 ⟨rfl, ov6, vb6, H6⟩; have H6h := Lib.hid H6; obtain ⟨g6, c6, rfl, h61, h62, T6⟩ := two_cut H6.two; unfold maxLen at h62; obtain ⟨co6, fo6⟩ := box_cell H6.hob; have H7 := Lib.hid (H6.putOrder C.ob1 C.bb1 C.sb1 C.l1 ⟨C.ne.1, C.ne.2.1, C.ne.2.2.1⟩ (Below.refl _ _) T6); clear T6 H6)
          )
        go_roundw
        case rel => exact ⟨j + 1, _, vb6, by omega, by go_num, by rw [HV.out, ← List.append_assoc]; exact H7.out⟩
        case measure => simp [intOf]; omega
      · have HV := Lib.hid (visT_out (f := f) hlt hc)
        have HCT := Lib.hid (containsI_any Ao cap cur (j : Int) wr HR.out.two.fb.sl (by omega))
        rw [hc] at HCT
        clear hc
        gi_wp2_with (first
          | (refine ⟨trivial, fun h => (by cases h), ?_⟩; gi_at_call 47; refine (callsIn_wide.2 HCT.out).mono ?_; rintro e w2 ⟨rfl, rfl⟩)
          )
        go_roundw
        case rel => exact ⟨j + 1, _, vb, by omega, by go_num, by rw [HV.out]; exact HR.out⟩
        case measure => simp [intOf]; omega

/-- The blocks that a call of the iterator's closure lays first: yield's box, the order's, the closure's own. -/
def ordStart (W : World) (l lb : Nat) : World :=
  ((W.alloc (.cells #[.func (.yield l) #[] #[]] 37)).alloc (.cells #[.slice none 0 0] 22)).alloc (.cells #[.func (.func 46) #[] #[.pointer (some ⟨W.heap.size + 1, 0, none⟩), .pointer (some ⟨lb, 0, none⟩), .pointer (some ⟨W.heap.size, 0, none⟩), .pointer (some ⟨W.heap.size + 1 + 1, 0, none⟩)]] 49)
theorem ordStart_facts (W : World) (l lb : Nat) : Below W.heap.size W (ordStart W l lb) ∧ (ordStart W l lb).heap.size = W.heap.size + 3 ∧
    (ordStart W l lb).heap[W.heap.size]? = some (.cells #[.func (.yield l) #[] #[]] 37 (0, 0)) ∧ (ordStart W l lb).heap[W.heap.size + 1]? = some (.cells #[.slice none 0 0] 22 (0, 0)) ∧
    (ordStart W l lb).heap[W.heap.size + 1 + 1]? = some (.cells #[.func (.func 46) #[] #[.pointer (some ⟨W.heap.size + 1, 0, none⟩), .pointer (some ⟨lb, 0, none⟩), .pointer (some ⟨W.heap.size, 0, none⟩), .pointer (some ⟨W.heap.size + 1 + 1, 0, none⟩)]] 49 (0, 0)) := by
  unfold ordStart
  obtain ⟨W1, e1⟩ : ∃ W1, W1 = W.alloc (.cells #[.func (.yield l) #[] #[]] 37) := ⟨_, rfl⟩
  have z1 : W1.heap.size = W.heap.size + 1 := by rw [e1]; simp
  have h1 : W1.heap[W.heap.size]? = some (.cells #[.func (.yield l) #[] #[]] 37 (0, 0)) := by rw [e1]; exact World.alloc_heap_new W _
  have b1 : Below W.heap.size W W1 := by rw [e1]; exact (Below.refl _ W).alloc (Nat.le_refl _) _
  rw [← e1]
  obtain ⟨W2, e2⟩ : ∃ W2, W2 = W1.alloc (.cells #[.slice none 0 0] 22) := ⟨_, rfl⟩
  have z2 : W2.heap.size = W.heap.size + 1 + 1 := by rw [e2, World.size_alloc, z1]
  have h2 : W2.heap[W.heap.size + 1]? = some (.cells #[.slice none 0 0] 22 (0, 0)) := by rw [e2, ← z1]; exact World.alloc_heap_new W1 _
  have b2 : Below W1.heap.size W1 W2 := by rw [e2]; exact (Below.refl _ W1).alloc (Nat.le_refl _) _
  rw [← e2]
  have b3 : Below W2.heap.size W2 (W2.alloc (.cells #[.func (.func 46) #[] #[.pointer (some ⟨W.heap.size + 1, 0, none⟩), .pointer (some ⟨lb, 0, none⟩), .pointer (some ⟨W.heap.size, 0, none⟩), .pointer (some ⟨W.heap.size + 1 + 1, 0, none⟩)]] 49)) := (Below.refl _ W2).alloc (Nat.le_refl _) _
  refine ⟨b1.trans ((b2.trans (b3.mono b2.size)).mono b1.size), by rw [World.size_alloc, z2], ?_, ?_, ?_⟩
  · exact (b3.block _ (by omega)).trans ((b2.block _ (by omega)).trans h1)
  · exact (b3.block _ (by omega)).trans h2
  · rw [← z2]; exact World.alloc_heap_new W2 _
theorem mdC_of {W : World} {bb sb l lb gl n cl : Nat} (hbb : bb < W.heap.size) (hsb : sb < W.heap.size) (hl : l < W.heap.size) (hlb : lb < W.heap.size) (hgl : gl < W.heap.size) (hne : bb ≠ sb ∧ bb ≠ l ∧ sb ≠ l) (n1 : lb ≠ bb ∧ lb ≠ sb ∧ lb ≠ l) (n2 : gl ≠ bb ∧ gl ≠ sb ∧ gl ≠ l)
    (clb : W.cell? ⟨lb, 0, none⟩ = some (.slice (some ⟨gl, 0, none⟩) n cl)) (ncl : n ≤ cl ∧ cl ≤ maxLen) (cgl : ∀ k, k < n → W.cell? ⟨gl, k, none⟩ = some (.int .i64 (k : Int))) :
    MdC (ordStart W l lb) (W.heap.size + 3) (W.heap.size + 1) bb sb l lb gl W.heap.size (W.heap.size + 1 + 1) n cl := by
  obtain ⟨b, z, h1, h2, h3⟩ := ordStart_facts W l lb
  exact ⟨by omega, by omega, by omega, by omega, ⟨by omega, by omega, by omega, hne.1, hne.2.1, hne.2.2⟩, ⟨by omega, by omega, n1.1, n1.2.1, n1.2.2⟩, ⟨by omega, by omega, n2.1, n2.2.1, n2.2.2⟩, ⟨by omega, by omega, by omega, by omega, by omega⟩, ⟨by omega, by omega, by omega, by omega, by omega⟩,
    (b.cell (p := ⟨lb, 0, none⟩) hlb).trans clb, ncl, fun k hk => (b.cell (p := ⟨gl, k, none⟩) hgl).trans (cgl k hk), (box_cell h1).1, (box_cell h3).1⟩
theorem mdS_of {W : World} {bb sb l lb : Nat} {r : Loop} {a b c : List Int} (hbb : bb < W.heap.size) (hsb : sb < W.heap.size) (hl : l < W.heap.size) (h1 : W.heap[bb]? = some (.cells #[.slice none 0 0] 22 (0, 0))) (h2 : W.heap[sb]? = some (.cells #[.int .i64 0] 3 (0, 0))) (h3 : W.heap[l]? = some (.loop r)) :
    MdS (ordStart W l lb) (ordStart W l lb) (W.heap.size + 3) (W.heap.size + 1) bb sb l r a b c (.slice none 0 0) (.slice none 0 0) [] [] := by
  obtain ⟨bl, z, k1, k2, k3⟩ := ordStart_facts W l lb
  exact ⟨fun _ _ _ _ _ _ => rfl, ⟨rfl, rfl, rfl⟩, by omega, k2, (bl.block _ hbb).trans h1, (bl.block _ hsb).trans h2, (bl.block _ hl).trans h3, ⟨(Fr.nil _ (by omega)), (Fr.nil _ (by omega)), fun g hg => by simp [Value.ownBlock] at hg⟩, fun _ => rfl, fun h => absurd rfl h⟩
set_option maxHeartbeats 2000000 in
set_option maxRecDepth 100000 in
theorem orders1_in {W : World} {bb sb l lb gl n cl m : Nat} {r : Loop} {a b c : List Int} (C : MdC (ordStart W l lb) (W.heap.size + 3) (W.heap.size + 1) bb sb l lb gl W.heap.size (W.heap.size + 1 + 1) n cl) (hn : n ≤ 8) (H : MdS (ordStart W l lb) (ordStart W l lb) (W.heap.size + 3) (W.heap.size + 1) bb sb l r a b c (.slice none 0 0) (.slice none 0 0) [] [])
    (hY : RoundsOk (ordStart W l lb) (W.heap.size + 3) (W.heap.size + 1) bb sb l r a b c n) :
    CallsIn Fence.wide m Try.prog 45 #[.func (.yield l) #[] #[], .pointer (some ⟨lb, 0, none⟩)] W
      (fun e W' => (∃ v, e = .returned v) ∧ ∃ ov vb, MdS (ordStart W l lb) W' (W.heap.size + 3) (W.heap.size + 1) bb sb l r a b c ov vb [] (allO n)) := by
  have HE := Lib.hid (extend_in C hn hY n (m - 1) _ _ _ [] [] (by simp) H)
  refine callsIn_of_wp Try.func45 rfl trivial ?_ rfl
  simp only [Try.ntmps45, List.size_toArray, List.length_cons, List.length_nil, Nat.reduceAdd, Nat.reduceSub, Array.replicate_succ, Array.replicate_zero, List.push_toArray, List.append_toArray, List.nil_append, List.cons_append]
  gi_wp2_with (refine ⟨trivial, fun h => (by cases h), ?_⟩; refine HE.out.mono ?_; rintro e w6 ⟨rfl, ov6, vb6, H6⟩; have H6h := Lib.hid H6; clear H6)
  go_end0
  exact ⟨⟨_, rfl⟩, ov6, vb6, H6h.out⟩
theorem orders_any (A : Option Addr) (n c : Nat) (w : World) :
    Calls Try.prog 30 #[.slice A n c] w fun e w' => e = .returned (.func (.func 45) #[] #[.pointer (some ⟨w.heap.size, 0, none⟩)]) ∧ w' = w.alloc (.cells #[.slice A n c] 22) := by
  go_enter Try.func30, Try.ntmps30
  go_wp2
  go_ret
  exact ⟨rfl, rfl⟩
end Go.Proofs.Ytnjomfmmnkjhfaa
