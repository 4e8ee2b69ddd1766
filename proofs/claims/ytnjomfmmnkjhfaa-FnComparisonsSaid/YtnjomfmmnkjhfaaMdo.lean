/- The middle order: the program's walk. -/
import Derived.Test.YtnjomfmmnkjhfaaMdw
import Derived.Test.YtnjomfmmnkjhfaaTools
import Derived.Sort.QuietIn
import Derived.Sort.CutIn
namespace Go.Proofs.Ytnjomfmmnkjhfaa
open Go.ChangeShapes Go.WideShapes Go.ChangeAt Go.RowKit
attribute [local go_sem] Oper.semAt_some

theorem lessF_snoc (a b c : List Int) (pre : List (List Int)) (o : List Int) : lessF a b c (pre ++ [o]) = sum3 a b c (bestF a b c (pre ++ [o])) := by
  unfold lessF bestF; rw [if_neg (by simp)]
theorem best_keep {a b c o : List Int} {pre : List (List Int)} (h : pre ≠ []) (hs : ¬ sum3 a b c o < lessF a b c pre) : bestF a b c (pre ++ [o]) = bestF a b c pre ∧ lessF a b c (pre ++ [o]) = lessF a b c pre := by
  have e : bestF a b c (pre ++ [o]) = bestF a b c pre := by
    unfold lessF at hs
    rw [if_neg h] at hs
    unfold bestF
    rw [midL_snoc h, midS, if_neg hs]
  exact ⟨e, by rw [lessF_snoc, e]; unfold lessF bestF; rw [if_neg h]⟩
theorem best_take {a b c o : List Int} {pre : List (List Int)} (h : pre = [] ∨ sum3 a b c o < lessF a b c pre) : bestF a b c (pre ++ [o]) = o ∧ lessF a b c (pre ++ [o]) = sum3 a b c o := by
  have e : bestF a b c (pre ++ [o]) = o := by
    by_cases hp : pre = []
    · subst hp; rfl
    · rcases h with h | h
      · exact absurd h hp
      · unfold lessF at h
        rw [if_neg hp] at h
        unfold bestF
        rw [midL_snoc hp, midS, if_pos h]
  exact ⟨e, by rw [lessF_snoc, e]⟩
/-- The loop's record turns. -/
theorem MdS.putRec {W0 W : World} {lo ob bb sb l : Nat} {r r' : Loop} {a b c : List Int} {ov vb : Value} {cur : List Int} {pre : List (List Int)} (h : MdS W0 W lo ob bb sb l r a b c ov vb cur pre) (hl : l < lo) (hne : ob ≠ l ∧ bb ≠ l ∧ sb ≠ l) :
    MdS W0 (W.putObj l (.loop r')) lo ob bb sb l r' a b c ov vb cur pre := by
  have KP : Keep l (l + 1) W (W.putObj l (.loop r')) := ⟨rfl, rfl, rfl, by simp, fun k _ hk => World.putObj_heap_other (by omega)⟩
  have blk : ∀ k, k ≠ l → (W.putObj l (.loop r')).heap[k]? = W.heap[k]? := fun k hk => World.putObj_heap_other hk
  exact ⟨fun k hk h1 h2 h3 h4 => (blk k h4).trans (h.fix k hk h1 h2 h3 h4), h.env, by rw [World.putObj_size]; exact h.sz, (blk _ hne.1).trans h.hob, (blk _ hne.2.1).trans h.hbb, (blk _ hne.2.2).trans h.hsb, World.putObj_heap_same (Array.getElem?_eq_some_iff.1 h.hl).1, two_keep h.two KP hl, h.hnil, h.hsome⟩
theorem MdS.drewN {W0 W : World} {lo ob bb sb l : Nat} {r : Loop} {a b c : List Int} {ov vb : Value} {cur : List Int} {pre : List (List Int)} (h : MdS W0 W lo ob bb sb l r a b c ov vb cur pre) (q : Nat) : MdS W0 (W.drewN q) lo ob bb sb l r a b c ov vb cur pre :=
  ⟨h.fix, h.env, h.sz, h.hob, h.hbb, h.hsb, h.hl, h.two.below (below_of_drewN _ _ _), h.hnil, h.hsome⟩
/-- The order is no better than the best one so far. -/
theorem MdS.stay {W0 W : World} {lo ob bb sb l : Nat} {r : Loop} {a b c : List Int} {ov vb : Value} {cur : List Int} {pre : List (List Int)} (h : MdS W0 W lo ob bb sb l r a b c ov vb cur pre) (hp : pre ≠ []) (hs : ¬ sum3 a b c cur < lessF a b c pre) :
    MdS W0 W lo ob bb sb l r a b c ov vb cur (pre ++ [cur]) := by
  obtain ⟨e1, e2⟩ := best_keep (a := a) (b := b) (c := c) hp hs
  exact ⟨h.fix, h.env, h.sz, h.hob, h.hbb, by rw [e2]; exact h.hsb, h.hl, by rw [e1]; exact h.two, fun h0 => absurd h0 (by simp), fun _ => by rw [e1]; exact h.hsome hp⟩
/-- The order is the best one so far: a copy of it is laid in the box. -/
theorem MdS.better {W0 W W' : World} {lo ob bb sb l : Nat} {r : Loop} {a b c : List Int} {ov vb : Value} {cur : List Int} {pre : List (List Int)} {g cb : Nat} (h : MdS W0 W lo ob bb sb l r a b c ov vb cur pre) (hbb : bb < lo) (hsb : sb < lo) (hob : ob < lo) (hl : l < lo) (hne : ob ≠ bb ∧ ob ≠ sb ∧ bb ≠ sb ∧ bb ≠ l ∧ sb ≠ l)
    (hb : Below W.heap.size W W') (hf : Fr W' W.heap.size W'.heap.size (.slice (some ⟨g, 0, none⟩) cur.length cb) cur) (hs : pre = [] ∨ sum3 a b c cur < lessF a b c pre) :
    MdS W0 ((W'.setCell ⟨bb, 0, none⟩ (.slice (some ⟨g, 0, none⟩) cur.length cb)).setCell ⟨sb, 0, none⟩ (.int .i64 (sum3 a b c cur))) lo ob bb sb l r a b c ov (.slice (some ⟨g, 0, none⟩) cur.length cb) cur (pre ++ [cur]) := by
  obtain ⟨e1, e2⟩ := best_take (a := a) (b := b) (c := c) hs
  have hz := h.sz
  have B := hb.mono (B' := lo) hz
  have K1 := keep_set W' bb (.slice (some ⟨g, 0, none⟩) cur.length cb)
  have K2 := keep_set (W'.setCell ⟨bb, 0, none⟩ (.slice (some ⟨g, 0, none⟩) cur.length cb)) sb (.int .i64 (sum3 a b c cur))
  have hz' := Nat.le_trans hz hb.size
  have blk : ∀ k, k < lo → k ≠ bb → k ≠ sb → ((W'.setCell ⟨bb, 0, none⟩ (.slice (some ⟨g, 0, none⟩) cur.length cb)).setCell ⟨sb, 0, none⟩ (.int .i64 (sum3 a b c cur))).heap[k]? = W.heap[k]? := fun k hk h1 h2 =>
    (K2.block k (by have := K1.size; omega) (by omega)).trans ((K1.block k (by omega) (by omega)).trans (B.block k hk))
  have ht : Two W' lo ov (.slice (some ⟨g, 0, none⟩) cur.length cb) cur cur := ⟨(h.two.fb.grow hb).wide (Nat.le_refl _) hb.size (Nat.le_refl _), hf.wide hz (Nat.le_refl _) (Nat.le_refl _), fun k hk hk2 => by
    have h1 := h.two.fb.2.1 k hk
    have h2 := (hf.1.lt k hk2).1
    omega⟩
  have hnil : (.slice (some ⟨g, 0, none⟩) cur.length cb : Value) ≠ .slice none 0 0 := by intro e; injection e with e; cases e
  refine ⟨fun k hk h1 h2 h3 h4 => (blk k hk h2 h3).trans (h.fix k hk h1 h2 h3 h4), ⟨K2.os.trans (K1.os.trans (hb.os.trans h.env.1)), K2.tape.trans (K1.tape.trans (hb.tape.trans h.env.2.1)), K2.output.trans (K1.output.trans (hb.output.trans h.env.2.2))⟩, Nat.le_trans hz' (Nat.le_trans K1.size K2.size),
    (blk ob hob hne.1 hne.2.1).trans h.hob, ?_, ?_, (blk l hl (fun e => hne.2.2.2.1 e.symm) (fun e => hne.2.2.2.2 e.symm)).trans h.hl, by rw [e1]; exact two_keep (two_keep ht K1 hbb) K2 hsb, fun h0 => absurd h0 (by simp), fun _ => ⟨g, cb, by rw [e1]⟩⟩
  · exact (K2.block bb (by have := K1.size; omega) (by omega)).trans (box_set ((B.block bb hbb).trans h.hbb))
  · rw [e2]
    exact box_set ((K1.block sb (by omega) (by omega)).trans ((B.block sb hsb).trans h.hsb))

theorem MdS.be {W0 W w : World} {lo ob bb sb l B : Nat} {r : Loop} {a b c : List Int} {ov vb : Value} {cur : List Int} {pre : List (List Int)} (h : MdS W0 W lo ob bb sb l r a b c ov vb cur pre) (hb : Below B w W0) (hlo : B ≤ lo) (ho : B ≤ ob) (hbb : B ≤ bb) (hsb : B ≤ sb) (hl : B ≤ l) (hw : w.heap.size ≤ W.heap.size) : Below B w W :=
  ⟨h.env.1.trans hb.os, h.env.2.1.trans hb.tape, h.env.2.2.trans hb.output, hw, fun k hk => (h.fix k (by omega) (by omega) (by omega) (by omega) (by omega)).trans (hb.block k hk)⟩
/-- What lies ahead of the loop: the three boxes, the best one's, the least sum's, the list's. -/
structure MdQ (w W : World) (A B D : Option Addr) (ca cb cd n lb gl cl : Nat) : Prop where
  h0 : W.heap[w.heap.size]? = some (.cells #[.slice A n ca] 22 (0, 0))
  h1 : W.heap[w.heap.size + 1]? = some (.cells #[.slice B n cb] 22 (0, 0))
  h2 : W.heap[w.heap.size + 2]? = some (.cells #[.slice D n cd] 22 (0, 0))
  h3 : W.heap[w.heap.size + 3]? = some (.cells #[.slice none 0 0] 22 (0, 0))
  h4 : W.heap[w.heap.size + 4]? = some (.cells #[.int .i64 0] 3 (0, 0))
  hl : W.heap[lb]? = some (.cells #[.slice (some ⟨gl, 0, none⟩) n cl] 22 (0, 0))
  lb1 : w.heap.size + 5 ≤ lb ∧ lb < W.heap.size
  gl1 : w.heap.size + 5 ≤ gl ∧ gl < W.heap.size ∧ gl ≠ lb
  row : SlI W (some ⟨gl, 0, none⟩) (idxs n)
  ncl : n ≤ cl ∧ cl ≤ maxLen
  be : Below w.heap.size w W
theorem midQ_of {w w2 : World} {A B D : Option Addr} {ca cb cd n gl cl : Nat}
    (hf : Fr w2 (w.heap.size + 5) w2.heap.size (.slice (some ⟨gl, 0, none⟩) n cl) (idxs n)) (ncl : n ≤ cl ∧ cl ≤ maxLen)
    (hb : Below (w.heap.size + 5) (((((w.alloc (.cells #[.slice A n ca] 22)).alloc (.cells #[.slice B n cb] 22)).alloc (.cells #[.slice D n cd] 22)).alloc (.cells #[.slice none 0 0] 22)).alloc (.cells #[.int .i64 0] 3)) w2) :
    MdQ w (w2.alloc (.cells #[.slice (some ⟨gl, 0, none⟩) n cl] 22)) A B D ca cb cd n w2.heap.size gl cl := by
  have step : ∀ (W : World) (o : Obj) (k : Nat) (x : Obj), W.heap[k]? = some x → (W.alloc o).heap[k]? = some x := fun W o k x h => (Below.heap_alloc W o k (Array.getElem?_eq_some_iff.1 h).1).trans h
  have new : ∀ (W : World) (o : Obj) (k : Nat), W.heap.size = k → (W.alloc o).heap[k]? = some o := fun W o k h => by subst h; exact World.alloc_heap_new W o
  obtain ⟨W1, e1⟩ : ∃ W1, W1 = w.alloc (.cells #[.slice A n ca] 22) := ⟨_, rfl⟩
  have z1 : W1.heap.size = w.heap.size + 1 := by rw [e1]; simp
  have a1 : W1.heap[w.heap.size]? = some (.cells #[.slice A n ca] 22 (0, 0)) := by rw [e1]; exact new w _ _ rfl
  have c1 : Below w.heap.size w W1 := by rw [e1]; exact (Below.refl _ w).alloc (Nat.le_refl _) _
  rw [← e1] at hb
  obtain ⟨W2, e2⟩ : ∃ W2, W2 = W1.alloc (.cells #[.slice B n cb] 22) := ⟨_, rfl⟩
  have z2 : W2.heap.size = w.heap.size + 2 := by rw [e2, World.size_alloc, z1]
  have a2 : W2.heap[w.heap.size]? = some (.cells #[.slice A n ca] 22 (0, 0)) := by rw [e2]; exact step _ _ _ _ a1
  have b2 : W2.heap[w.heap.size + 1]? = some (.cells #[.slice B n cb] 22 (0, 0)) := by rw [e2]; exact new W1 _ _ z1
  have c2 : Below w.heap.size w W2 := by rw [e2]; exact c1.alloc (by omega) _
  rw [← e2] at hb
  obtain ⟨W3, e3⟩ : ∃ W3, W3 = W2.alloc (.cells #[.slice D n cd] 22) := ⟨_, rfl⟩
  have z3 : W3.heap.size = w.heap.size + 3 := by rw [e3, World.size_alloc, z2]
  have a3 : W3.heap[w.heap.size]? = some (.cells #[.slice A n ca] 22 (0, 0)) := by rw [e3]; exact step _ _ _ _ a2
  have b3 : W3.heap[w.heap.size + 1]? = some (.cells #[.slice B n cb] 22 (0, 0)) := by rw [e3]; exact step _ _ _ _ b2
  have d3 : W3.heap[w.heap.size + 2]? = some (.cells #[.slice D n cd] 22 (0, 0)) := by rw [e3]; exact new W2 _ _ z2
  have c3 : Below w.heap.size w W3 := by rw [e3]; exact c2.alloc (by omega) _
  rw [← e3] at hb
  obtain ⟨W4, e4⟩ : ∃ W4, W4 = W3.alloc (.cells #[.slice none 0 0] 22) := ⟨_, rfl⟩
  have z4 : W4.heap.size = w.heap.size + 4 := by rw [e4, World.size_alloc, z3]
  have a4 : W4.heap[w.heap.size]? = some (.cells #[.slice A n ca] 22 (0, 0)) := by rw [e4]; exact step _ _ _ _ a3
  have b4 : W4.heap[w.heap.size + 1]? = some (.cells #[.slice B n cb] 22 (0, 0)) := by rw [e4]; exact step _ _ _ _ b3
  have d4 : W4.heap[w.heap.size + 2]? = some (.cells #[.slice D n cd] 22 (0, 0)) := by rw [e4]; exact step _ _ _ _ d3
  have f4 : W4.heap[w.heap.size + 3]? = some (.cells #[.slice none 0 0] 22 (0, 0)) := by rw [e4]; exact new W3 _ _ z3
  have c4 : Below w.heap.size w W4 := by rw [e4]; exact c3.alloc (by omega) _
  rw [← e4] at hb
  obtain ⟨W5, e5⟩ : ∃ W5, W5 = W4.alloc (.cells #[.int .i64 0] 3) := ⟨_, rfl⟩
  have z5 : W5.heap.size = w.heap.size + 5 := by rw [e5, World.size_alloc, z4]
  have a5 : W5.heap[w.heap.size]? = some (.cells #[.slice A n ca] 22 (0, 0)) := by rw [e5]; exact step _ _ _ _ a4
  have b5 : W5.heap[w.heap.size + 1]? = some (.cells #[.slice B n cb] 22 (0, 0)) := by rw [e5]; exact step _ _ _ _ b4
  have d5 : W5.heap[w.heap.size + 2]? = some (.cells #[.slice D n cd] 22 (0, 0)) := by rw [e5]; exact step _ _ _ _ d4
  have f5 : W5.heap[w.heap.size + 3]? = some (.cells #[.slice none 0 0] 22 (0, 0)) := by rw [e5]; exact step _ _ _ _ f4
  have g5 : W5.heap[w.heap.size + 4]? = some (.cells #[.int .i64 0] 3 (0, 0)) := by rw [e5]; exact new W4 _ _ z4
  have c5 : Below w.heap.size w W5 := by rw [e5]; exact c4.alloc (by omega) _
  rw [← e5] at hb
  have hz := hb.size
  have hgl := hf.2.1 gl rfl
  have hgl2 := (hf.1.lt gl rfl).1
  have hbl : Below w2.heap.size w2 (w2.alloc (.cells #[.slice (some ⟨gl, 0, none⟩) n cl] 22)) := (Below.refl _ w2).alloc (Nat.le_refl _) _
  refine ⟨step _ _ _ _ ((hb.block _ (by omega)).trans a5), step _ _ _ _ ((hb.block _ (by omega)).trans b5), step _ _ _ _ ((hb.block _ (by omega)).trans d5), step _ _ _ _ ((hb.block _ (by omega)).trans f5), step _ _ _ _ ((hb.block _ (by omega)).trans g5), new w2 _ _ rfl, ⟨by omega, by simp⟩, ⟨by omega, by simp; omega, by omega⟩, hf.sl.below hbl, ncl, c5.trans ((hb.mono (by omega)).trans (hbl.mono (by omega)))⟩

set_option maxHeartbeats 8000000 in
set_option maxRecDepth 100000 in
theorem implMiddle_go (A B D : Option Addr) (ca cb cd n : Nat) (a b c : List Int) (w : World) (ha : SlI w A a) (hb : SlI w B b) (hc : SlI w D c) (ka : n ≤ ca ∧ ca ≤ maxLen) (kb : n ≤ cb ∧ cb ≤ maxLen) (kc : n ≤ cd ∧ cd ≤ maxLen) (hal : a.length = n) (hbl : b.length = n) (hcl : c.length = n)
    (h1 : twoB a b = true) (h2 : twoB b c = true) (hn1 : 1 ≤ n) (hn5 : n ≤ 5) :
    Calls Try.prog 7 #[.slice A n ca, .slice B n cb, .slice D n cd] w fun e w' => ∃ v', e = .returned v' ∧ Fr w' w.heap.size w'.heap.size v' (midL a b c (allO n)) ∧ Below w.heap.size w w' := by
  obtain ⟨ka1, ka2⟩ := ka
  obtain ⟨kb1, kb2⟩ := kb
  obtain ⟨kc1, kc2⟩ := kc
  unfold maxLen at ka2 kb2 kc2
  have HABC := Lib.hid (And.intro ha (And.intro hb hc))
  have HLEN := Lib.hid (And.intro hal (And.intro hbl hcl))
  have H12 := Lib.hid (And.intro h1 h2)
  have hn5i : (n : Int) ≤ 5 := by omega
  have HA1 : Hid (∀ W, Below w.heap.size w W → Calls Try.prog 29 #[.slice A n ca, .slice B n cb] W fun e w' => e = .returned (.bool true) ∧ W = w') := fun W hW => by
    have h := areOrders_any A B ca cb a b W (HABC.out.1.below hW) (by omega) (by omega) (HABC.out.2.1.below hW) (by omega) (by omega)
    rw [hal, hbl, h1] at h; exact h
  have HA2 : Hid (∀ W, Below w.heap.size w W → Calls Try.prog 29 #[.slice B n cb, .slice D n cd] W fun e w' => e = .returned (.bool true) ∧ W = w') := fun W hW => by
    have h := areOrders_any B D cb cd b c W (HABC.out.2.1.below hW) (by omega) (by omega) (HABC.out.2.2.below hW) (by omega) (by omega)
    rw [hbl, hcl, h2] at h; exact h
  have BX : Hid (Below w.heap.size w (((w.alloc (.cells #[.slice A n ca] 22)).alloc (.cells #[.slice B n cb] 22)).alloc (.cells #[.slice D n cd] 22))) := (((Below.refl _ w).alloc (Nat.le_refl _) _).alloc (by simp) _).alloc (by simp; omega) _
  clear ha hb hc hal hbl hcl h1 h2
  refine (callsIn_wide (n := 8)).1 ?_
  refine callsIn_of_wp_marks Try.func7 rfl trivial ?_ rfl
  simp only [Try.ntmps7, List.size_toArray, List.length_cons, List.length_nil, Nat.reduceAdd, Nat.reduceSub, Array.replicate_succ, Array.replicate_zero, List.push_toArray, List.append_toArray, List.nil_append, List.cons_append]
  have tok1 : True := trivial
  have HIX : Hid (∀ W, Calls Try.prog 31 #[.int .i64 (n : Int)] W fun e w' => ∃ g c, e = .returned (.slice (some ⟨g, 0, none⟩) n c) ∧ n ≤ c ∧ c ≤ maxLen ∧ Fr w' W.heap.size w'.heap.size (.slice (some ⟨g, 0, none⟩) n c) (idxs n) ∧ Below W.heap.size W w') := fun W => by
    refine (indices_any n W (by omega)).mono fun e w' ⟨v', he, hf, hb⟩ => ?_
    obtain ⟨A', c', rfl, hc1, hc2⟩ := hf.form
    obtain ⟨g, x, rfl, _⟩ := hf.at_ (k := 0) (by rw [idxs_length]; omega)
    rw [idxs_length] at he hf hc1
    exact ⟨g, c', he, hc1, hc2, hf, hb⟩
  gi_wp2_with (first
    | (refine ⟨trivial, ?_⟩; gi_at_call 29; have t1 := tok1; clear t1 tok1; refine (callsIn_wide.2 (HA1.out _ BX.out)).mono ?_; rintro e w1 ⟨rfl, rfl⟩)
    | (refine ⟨trivial, ?_⟩; gi_at_call 29; refine (callsIn_wide.2 (HA2.out _ BX.out)).mono ?_; rintro e w1 ⟨rfl, rfl⟩)
    | (refine ⟨trivial, ?_⟩; gi_at_call 31; refine (callsIn_wide.2 (HIX.out _)).mono ?_; rintro e w2 ⟨gl, cl, rfl, hgl1, hgl2, hfl, hb2⟩; have H2 : Hid (Fr w2 (w.heap.size + 5) w2.heap.size (.slice (some ⟨gl, 0, none⟩) n cl) (idxs n) ∧ Below (w.heap.size + 5) (((((w.alloc (.cells #[.slice A n ca] 22)).alloc (.cells #[.slice B n cb] 22)).alloc (.cells #[.slice D n cd] 22)).alloc (.cells #[.slice none 0 0] 22)).alloc (.cells #[.int .i64 0] 3)) w2 ∧ n ≤ cl ∧ cl ≤ maxLen) := ⟨by simpa using hfl, by simpa using hb2, hgl1, hgl2⟩; clear hgl1 hgl2 hfl hb2)
    | (refine ⟨trivial, ?_⟩; gi_at_call 30; refine (callsIn_wide.2 (orders_any _ _ _ _)).mono ?_; rintro e w3 ⟨rfl, rfl⟩))
  have HQ := Lib.hid (midQ_of (A := A) (B := B) (D := D) (ca := ca) (cb := cb) (cd := cd) H2.out.1 H2.out.2.2 H2.out.2.1)
  obtain ⟨lb, hlb⟩ : ∃ lb, w2.heap.size = lb := ⟨_, rfl⟩
  rw [hlb] at HQ ⊢
  clear H2 HIX HA1 HA2 BX hlb
  generalize w2.alloc (.cells #[.slice (some ⟨gl, 0, none⟩) n cl] 22) = wq at *
  refine range_of (gf := 45) (lb := #[.pointer (some ⟨lb, 0, none⟩)]) rfl (enters_of Try.func45 (by kernel_rfl) rfl)
    (fun W' => ∃ vb, W'.heap[w.heap.size + 1 + 1 + 1]? = some (.cells #[vb] 22 (0, 0)) ∧ Fr W' w.heap.size W'.heap.size vb (midL a b c (allO n)) ∧ Below w.heap.size w W' ∧ ∀ g, vb.ownBlock = some g → wq.heap.size + 1 < g) (fun _ _ => False) ?call ?done ?stop
  case stop => exact fun c W o h => h.elim
  case done =>
    rintro W o ⟨vb, hbb, hfb, hbe, hgb⟩ hD
    have hq := HQ.out.lb1
    have KP : Keep (wq.heap.size + 1) (wq.heap.size + 1 + 1) W (W.putObj (wq.heap.size + 1) o) := ⟨rfl, rfl, rfl, by simp, fun k _ hk => World.putObj_heap_other (by omega)⟩
    have hD2 : (W.putObj (wq.heap.size + 1) o).heap[wq.heap.size]? = some (.deferred (some [])) := (World.putObj_heap_other (by omega)).trans hD
    obtain ⟨cbb, -⟩ := box_cell ((KP.block _ (Array.getElem?_eq_some_iff.1 hbb).1 (by omega)).trans hbb)
    have HF : Hid (Fr (W.putObj (wq.heap.size + 1) o) w.heap.size (W.putObj (wq.heap.size + 1) o).heap.size vb (midL a b c (allO n)) ∧ Below w.heap.size w (W.putObj (wq.heap.size + 1) o) ∧ ∀ g, vb.ownBlock = some g → wq.heap.size < g) :=
      ⟨(hfb.apart KP (fun g hg => by have := hgb g hg; omega)).wide (Nat.le_refl _) KP.size (Nat.le_refl _), hbe.trans (KP.below (by omega) hbe.size), fun g hg => by have := hgb g hg; omega⟩
    have HQ2 : Hid (w.heap.size ≤ wq.heap.size) := HQ.out.be.size
    clear hbb hfb hbe hgb KP hD hq HQ
    generalize W.putObj (wq.heap.size + 1) o = W2 at *
    dsimp only
    gi_wp2
    refine ⟨by simp, .inl ⟨_, _, rfl, run_takeDeferred hD2, ?_⟩⟩
    have KP : Keep wq.heap.size (wq.heap.size + 1) W2 (W2.putObj wq.heap.size (.deferred none)) := ⟨rfl, rfl, rfl, by simp, fun k _ hk => World.putObj_heap_other (by omega)⟩
    refine ⟨_, results_tmp rfl _ _ _, vb, rfl, (HF.out.1.apart KP (fun g hg => by have := HF.out.2.2 g hg; omega)).wide (Nat.le_refl _) KP.size (Nat.le_refl _), HF.out.2.1.trans (KP.below HQ2.out HF.out.2.1.size)⟩
  case call =>
    intro fn
    dsimp only
    generalize hr : recOf fn _ #[30] _ _ wq.heap.size = r
    obtain ⟨q1, q2, q3, q4, q5, q6, ⟨q7, q7'⟩, ⟨q8, q8', q8''⟩, q9, q10, q11⟩ := HQ.out
    have hst : r.state = .ready := by rw [← hr]; rfl
    have hpe : r.pending = none := by rw [← hr]; rfl
    have hpa : r.params.size = 1 := by rw [← hr]; rfl
    have bS := rangeStart_below wq r
    have zS := rangeStart_size wq r
    have recS := rangeStart_rec wq r
    have defS := rangeStart_def wq r
    generalize rangeStart wq r = W1 at *
    have C := mdC_of (W := W1) (bb := w.heap.size + 1 + 1 + 1) (sb := w.heap.size + 1 + 1 + 1 + 1) (l := wq.heap.size + 1) (lb := lb) (gl := gl) (n := n) (cl := cl) (by omega) (by omega) (by omega) (by omega) (by omega) ⟨by omega, by omega, by omega⟩ ⟨by omega, by omega, by omega⟩ ⟨by omega, by omega, by omega⟩
      ((bS.cell (p := ⟨lb, 0, none⟩) q7').trans (box_cell q6).1) q10 (fun k hk => (bS.cell (p := ⟨gl, k, none⟩) q8').trans (by
        rcases q9 with e | ⟨b', o', e, h⟩
        · have := idxs_length n; rw [e] at this; simp at this; omega
        · injection e with e; injection e with e1 e2 _; subst e1; subst e2
          have := h k _ (idxs_get hk)
          rwa [Nat.zero_add] at this))
    have H0 := mdS_of (W := W1) (bb := w.heap.size + 1 + 1 + 1) (sb := w.heap.size + 1 + 1 + 1 + 1) (l := wq.heap.size + 1) (lb := lb) (r := r) (a := a) (b := b) (c := c) (by omega) (by omega) (by omega) ((bS.block _ (by omega)).trans q4) ((bS.block _ (by omega)).trans q5) recS
    obtain ⟨bO, zO, -, -, -⟩ := ordStart_facts W1 (wq.heap.size + 1) lb
    have B0 : Below w.heap.size w (ordStart W1 (wq.heap.size + 1) lb) := q11.trans ((bS.trans (bO.mono (by omega))).mono (by omega))
    have d0 := (bO.block wq.heap.size (by omega)).trans defS
    have k0 := (bO.block w.heap.size (by omega)).trans ((bS.block _ (by omega)).trans q1)
    have k1 := (bO.block (w.heap.size + 1) (by omega)).trans ((bS.block _ (by omega)).trans q2)
    have k2 := (bO.block (w.heap.size + 1 + 1) (by omega)).trans ((bS.block _ (by omega)).trans q3)
    have HO := orders1_in (m := 8 - 1) C (show n ≤ 8 by omega) H0
    generalize ordStart W1 (wq.heap.size + 1) lb = W0 at *
    have hqs := q11.size
    have hY : RoundsOk W0 (W1.heap.size + 3) (W1.heap.size + 1) (w.heap.size + 1 + 1 + 1) (w.heap.size + 1 + 1 + 1 + 1) (wq.heap.size + 1) r a b c n := by
      clear HO H0
      intro m W ov vb cur pre hcl H
      refine YieldAt.mono (yield_of (r := r) (On := fun W' => ∃ vb', MdS W0 W' (W1.heap.size + 3) (W1.heap.size + 1) (w.heap.size + 1 + 1 + 1) (w.heap.size + 1 + 1 + 1 + 1) (wq.heap.size + 1) r a b c ov vb' cur (pre ++ [cur])) (Stop := fun _ _ => False) H.hl hst hpe (by rw [hpa]; rfl) ?_) ?_
      case refine_2 =>
        rintro e W' (⟨he, h⟩ | ⟨_, _, h⟩)
        · exact ⟨he, h⟩
        · exact h.elim
      generalize hrb : ({ r with state := LoopState.busy } : Loop) = rb
      obtain ⟨e1, e2, e3, e4⟩ : r.assign = _ ∧ r.body = _ ∧ r.params = _ ∧ r.tmps = _ := by rw [← hr]; exact ⟨rfl, rfl, rfl, rfl⟩
      rw [e1, e2, e3, e4]
      clear e1 e2 e3 e4 hr hst hpe hpa hrb
      dsimp only [recOf]
      have HCC := Lib.hid C
      have HB0 := Lib.hid (And.intro B0 (And.intro k0 (And.intro k1 k2)))
      have HSZ : Hid (w.heap.size + 5 ≤ wq.heap.size ∧ W1.heap.size = wq.heap.size + 2) := ⟨by omega, zS⟩
      clear q1 q2 q3 q4 q5 q6 q9 q10 q11 q7 q7' q8 q8' q8'' bS recS defS C bO zO B0 d0 k0 k1 k2 hqs HQ
      have HH := Lib.hid H
      clear H
      gi_wp2
      refine ⟨HH.out.hl, ?_⟩
      have hsz := HSZ.out
      have HM := Lib.hid (HH.out.putRec (r' := rb) (by omega) ⟨by omega, by omega, by omega⟩)
      clear HH
      generalize W.putObj (wq.heap.size + 1) (.loop rb) = Wb at *
      have hbe : Below w.heap.size w Wb := HM.out.be HB0.out.1 (by omega) (by omega) (by omega) (by omega) (by omega) (by have := HM.out.sz; omega)
      obtain ⟨c0, -⟩ := box_cell ((HM.out.fix w.heap.size (by omega) (by omega) (by omega) (by omega) (by omega)).trans HB0.out.2.1)
      obtain ⟨c1, -⟩ := box_cell ((HM.out.fix (w.heap.size + 1) (by omega) (by omega) (by omega) (by omega) (by omega)).trans HB0.out.2.2.1)
      obtain ⟨c2, -⟩ := box_cell ((HM.out.fix (w.heap.size + 1 + 1) (by omega) (by omega) (by omega) (by omega) (by omega)).trans HB0.out.2.2.2)
      obtain ⟨Ao, cap, hov, hao, ham⟩ := HM.out.two.fb.form
      rw [hcl] at hov hao
      subst hov
      have HLD : Hid ((Calls Try.prog 32 #[.slice Ao n cap, .slice A n ca] Wb.drew fun e w' => e = .returned (.int .i64 (dist cur a : Nat)) ∧ Wb.drew = w') ∧ (Calls Try.prog 32 #[.slice Ao n cap, .slice B n cb] Wb.drew fun e w' => e = .returned (.int .i64 (dist cur b : Nat)) ∧ Wb.drew = w') ∧ (Calls Try.prog 32 #[.slice Ao n cap, .slice D n cd] Wb.drew fun e w' => e = .returned (.int .i64 (dist cur c : Nat)) ∧ Wb.drew = w')) := by
        obtain ⟨l1, l2, l3⟩ := HLEN.out
        have so := HM.out.two.fb.sl.drew
        have x1 := ladderDistance_any Ao A cap ca cur a Wb.drew so (by omega) (by omega) ham (HABC.out.1.below hbe).drew (by omega)
        have x2 := ladderDistance_any Ao B cap cb cur b Wb.drew so (by omega) (by omega) ham (HABC.out.2.1.below hbe).drew (by omega)
        have x3 := ladderDistance_any Ao D cap cd cur c Wb.drew so (by omega) (by omega) ham (HABC.out.2.2.below hbe).drew (by omega)
        rw [l1, hcl] at x1
        rw [l2, hcl] at x2
        rw [l3, hcl] at x3
        exact ⟨x1, x2, x3⟩
      have p1 := dist_cap (a := cur) (b := a) (by omega)
      have p2 := dist_cap (a := cur) (b := b) (by omega)
      have p3 := dist_cap (a := cur) (b := c) (by omega)
      have HSM : Hid (sum3 a b c cur = ((dist cur a : Nat) : Int) + ((dist cur b : Nat) : Int) + ((dist cur c : Nat) : Int)) := rfl
      generalize dist cur a = x at *
      generalize dist cur b = y at *
      generalize dist cur c = z at *
      have e1 : IntKind.i64.wrap ((x : Int) + (y : Int)) = (x : Int) + y := by rw [IntKind.wrap_i64]; omega
      have e2 : IntKind.i64.wrap ((x : Int) + (y : Int) + (z : Int)) = (x : Int) + y + z := by rw [IntKind.wrap_i64]; omega
      have hmx : Try.prog.follows .mixedOrders = true := by kernel_rfl
      have c0d : Wb.drew.cell? ⟨w.heap.size, 0, none⟩ = some (.slice A n ca) := c0
      have c1d : Wb.drew.cell? ⟨w.heap.size + 1, 0, none⟩ = some (.slice B n cb) := c1
      have c2d : Wb.drew.cell? ⟨w.heap.size + 1 + 1, 0, none⟩ = some (.slice D n cd) := c2
      unfold maxLen at ham
      have HCL := Lib.hid hcl
      clear hbe hsz hcl
      gi_upto_region 7 with fail
      gi_cut [10] from 31 (fun s10 wx => s10 = .int .i64 ((x : Int) + y + z) ∧ wx = Wb.drew)
      case first =>
        -- region 7
        refine region_round (S := fun W => W.cell? ⟨w.heap.size, 0, none⟩ = some (.slice A n ca) ∧ W.cell? ⟨w.heap.size + 1, 0, none⟩ = some (.slice B n cb) ∧ W.cell? ⟨w.heap.size + 1 + 1, 0, none⟩ = some (.slice D n cd)) (by kernel_rfl) (by kernel_rfl) ⟨c0d, c1d, c2d⟩ (fun hHeld => ?_)
        refine wpAnyH_take (i := 0) (v := ?v0) rfl (by kernel_rfl) (by kernel_rfl) (by kernel_rfl) (fun _ _ _ h => h) (Or.inl ⟨by rfl, ?hy0⟩) (by assumption) ?_
        case hy0 => (intro w hSw; (try dsimp only at hSw); go_simp <;> (try with_reducible rfl))
        try simp only [Act.put, List.setIfInBounds_toArray, List.set_cons_zero, List.set_cons_succ]
        refine wpAnyH_take (i := 1) (v := ?v1) rfl (by kernel_rfl) (by kernel_rfl) (by kernel_rfl) (fun _ _ _ h => h) (Or.inl ⟨by rfl, ?hy1⟩) (by assumption) ?_
        case hy1 => (intro w hSw; (try dsimp only at hSw); go_simp <;> (try with_reducible rfl))
        try simp only [Act.put, List.setIfInBounds_toArray, List.set_cons_zero, List.set_cons_succ]
        refine wpAnyH_take (i := 3) (v := ?v3) rfl (by kernel_rfl) (by kernel_rfl) (by kernel_rfl) (fun _ _ _ h => h) (Or.inl ⟨by rfl, ?hy3⟩) (by assumption) ?_
        case hy3 => (intro w hSw; (try dsimp only at hSw); go_simp <;> (try with_reducible rfl))
        try simp only [Act.put, List.setIfInBounds_toArray, List.set_cons_zero, List.set_cons_succ]
        refine wpAnyH_take (i := 4) (v := ?v4) rfl (by kernel_rfl) (by kernel_rfl) (by kernel_rfl) (fun _ _ _ h => h) (Or.inl ⟨by rfl, ?hy4⟩) (by assumption) ?_
        case hy4 => (intro w hSw; (try dsimp only at hSw); go_simp <;> (try with_reducible rfl))
        try simp only [Act.put, List.setIfInBounds_toArray, List.set_cons_zero, List.set_cons_succ]
        refine wpAnyH_take (i := 7) (v := ?v7) rfl (by kernel_rfl) (by kernel_rfl) (by kernel_rfl) (fun _ _ _ h => h) (Or.inl ⟨by rfl, ?hy7⟩) (by assumption) ?_
        case hy7 => (intro w hSw; (try dsimp only at hSw); go_simp <;> (try with_reducible rfl))
        try simp only [Act.put, List.setIfInBounds_toArray, List.set_cons_zero, List.set_cons_succ]
        refine wpAnyH_take (i := 8) (v := ?v8) rfl (by kernel_rfl) (by kernel_rfl) (by kernel_rfl) (fun _ _ _ h => h) (Or.inl ⟨by rfl, ?hy8⟩) (by assumption) ?_
        case hy8 => (intro w hSw; (try dsimp only at hSw); go_simp <;> (try with_reducible rfl))
        try simp only [Act.put, List.setIfInBounds_toArray, List.set_cons_zero, List.set_cons_succ]
        refine wpAnyH_ready (rs := [2]) (by kernel_rfl) (by simp) ?_
        refine AllReadyH.cons rfl (fun K hK => ?_) AllReadyH.nil
        go_simp
        go_at_call 32
        refine (HLD.out.1).mono ?_
        rintro e w' ⟨rfl, rfl⟩
        try (go_wp2_with fail)
        refine hK.out _ _ ⟨c0d, c1d, c2d⟩ (fun hHeld => ?_)
        clear hK K
        try simp only [Act.put, List.setIfInBounds_toArray, List.set_cons_zero, List.set_cons_succ]
        refine wpAnyH_ready (rs := [5]) (by kernel_rfl) (by simp) ?_
        refine AllReadyH.cons rfl (fun K hK => ?_) AllReadyH.nil
        go_simp
        go_at_call 32
        refine (HLD.out.2.1).mono ?_
        rintro e w' ⟨rfl, rfl⟩
        try (go_wp2_with fail)
        refine hK.out _ _ ⟨c0d, c1d, c2d⟩ (fun hHeld => ?_)
        clear hK K
        try simp only [Act.put, List.setIfInBounds_toArray, List.set_cons_zero, List.set_cons_succ]
        refine wpAnyH_take (i := 6) (v := ?v6) rfl (by kernel_rfl) (by kernel_rfl) (by kernel_rfl) (fun _ _ _ h => h) (Or.inl ⟨by rfl, ?hy6⟩) (by assumption) ?_
        case hy6 => (intro w hSw; (try dsimp only at hSw); go_simp <;> (try with_reducible rfl))
        try simp only [Act.put, List.setIfInBounds_toArray, List.set_cons_zero, List.set_cons_succ]
        refine wpAnyH_ready (rs := [9]) (by kernel_rfl) (by simp) ?_
        refine AllReadyH.cons rfl (fun K hK => ?_) AllReadyH.nil
        go_simp
        go_at_call 32
        refine (HLD.out.2.2).mono ?_
        rintro e w' ⟨rfl, rfl⟩
        try (go_wp2_with fail)
        refine hK.out _ _ ⟨c0d, c1d, c2d⟩ (fun hHeld => ?_)
        clear hK K
        try simp only [Act.put, List.setIfInBounds_toArray, List.set_cons_zero, List.set_cons_succ]
        refine wpAnyH_take (i := 10) (v := ?v10) rfl (by kernel_rfl) (by kernel_rfl) (by kernel_rfl) (fun _ _ _ h => h) (Or.inl ⟨by rfl, ?hy10⟩) (by assumption) ?_
        case hy10 => (intro w hSw; (try dsimp only at hSw); go_simp <;> (try with_reducible rfl))
        try simp only [Act.put, List.setIfInBounds_toArray, List.set_cons_zero, List.set_cons_succ]
        refine wpAnyH_ready (rs := [11]) (by kernel_rfl) (by simp) ?_
        refine AllReadyH.cons rfl (fun K hK => ?_) AllReadyH.nil
        go_simp
        refine hK.out _ _ ⟨c0d, c1d, c2d⟩ (fun hHeld => ?_)
        clear hK K
        try simp only [Act.put, List.setIfInBounds_toArray, List.set_cons_zero, List.set_cons_succ]
        refine wpAnyH_done (by kernel_rfl) ?_ _
        refine OnN.intro ?_
        -- end of region 7
        gi_wp2
        gi_meet
        exact ⟨rfl, rfl⟩
      case rest =>
        obtain ⟨rfl, rfl⟩ := hcut
        have qT : ∀ (w : World) (a : Option Addr) (n c n' c' : Nat), (binOp .eql 22 (.slice a n c) (.slice none n' c')).run Try.prog w = .ok (.bool a.isNone) w := fun w a n c n' c' => Lib.run_eql_slice_nil w _ _ a n c n' c' Try.underlying22
        have hsz := HSZ.out
        have HMd : Hid (MdS W0 Wb.drew (W1.heap.size + 3) (W1.heap.size + 1) (w.heap.size + 1 + 1 + 1) (w.heap.size + 1 + 1 + 1 + 1) (wq.heap.size + 1) rb a b c (.slice Ao n cap) vb cur pre) := HM.out.drewN 1
        clear c0 c1 c2 c0d c1d c2d HLD HLEN H12 e1 e2 HM HB0 HCC HABC
        generalize Wb.drew = Wd at *
        obtain ⟨cbb, fbb⟩ := box_cell HMd.out.hbb
        obtain ⟨csb, fsb⟩ := box_cell HMd.out.hsb
        have hms := HMd.out.sz
        have HLO : Hid (W1.heap.size + 1 < W1.heap.size + 3 ∧ w.heap.size + 1 + 1 + 1 < W1.heap.size + 3 ∧ w.heap.size + 1 + 1 + 1 + 1 < W1.heap.size + 3 ∧ wq.heap.size + 1 < W1.heap.size + 3) := ⟨by omega, by omega, by omega, by omega⟩
        have HNE : Hid (W1.heap.size + 1 ≠ w.heap.size + 1 + 1 + 1 ∧ W1.heap.size + 1 ≠ w.heap.size + 1 + 1 + 1 + 1 ∧ w.heap.size + 1 + 1 + 1 ≠ w.heap.size + 1 + 1 + 1 + 1 ∧ w.heap.size + 1 + 1 + 1 ≠ wq.heap.size + 1 ∧ w.heap.size + 1 + 1 + 1 + 1 ≠ wq.heap.size + 1 ∧ W1.heap.size + 1 ≠ wq.heap.size + 1) := ⟨by omega, by omega, by omega, by omega, by omega, by omega⟩
        have HCLN : Hid (Calls Try.prog 33 #[.slice Ao n cap] Wd fun e w' => ∃ g c', e = .returned (.slice (some ⟨g, 0, none⟩) n c') ∧ Fr w' Wd.heap.size w'.heap.size (.slice (some ⟨g, 0, none⟩) n c') cur ∧ Below Wd.heap.size Wd w') := by
          have h := cloneI_any Ao cap cur Wd HMd.out.two.fb.sl (by have := HCL.out; omega)
          rw [HCL.out] at h
          refine h.mono fun e w' ⟨A', c', he, hf, hb⟩ => ?_
          obtain ⟨g, c'', e2⟩ := hf.some_ (by have := HCL.out; omega)
          rw [HCL.out] at e2
          rw [e2] at he hf
          exact ⟨g, c'', he, hf, hb⟩
        have HBET : Hid (∀ (w5 : World) (g c' : Nat), Below Wd.heap.size Wd w5 → Fr w5 Wd.heap.size w5.heap.size (.slice (some ⟨g, 0, none⟩) n c') cur → (pre = [] ∨ (x : Int) + y + z < lessF a b c pre) →
            MdS W0 ((w5.setCell ⟨w.heap.size + 1 + 1 + 1, 0, none⟩ (.slice (some ⟨g, 0, none⟩) n c')).setCell ⟨w.heap.size + 1 + 1 + 1 + 1, 0, none⟩ (.int .i64 ((x : Int) + y + z))) (W1.heap.size + 3) (W1.heap.size + 1) (w.heap.size + 1 + 1 + 1) (w.heap.size + 1 + 1 + 1 + 1) (wq.heap.size + 1) rb a b c (.slice Ao n cap) (.slice (some ⟨g, 0, none⟩) n c') cur (pre ++ [cur])) := fun w5 g c' hb hf hs => by
          have H5 := HMd.out
          rw [← HCL.out] at hf H5 ⊢
          rw [← HSM.out] at hs ⊢
          exact H5.better HLO.out.2.1 HLO.out.2.2.1 HLO.out.1 HLO.out.2.2.2 ⟨HNE.out.1, HNE.out.2.1, HNE.out.2.2.1, HNE.out.2.2.2.1, HNE.out.2.2.2.2.1⟩ hb hf hs
        have HBOX : Hid (∀ w5, Below Wd.heap.size Wd w5 → (w5.cell? ⟨w.heap.size + 1 + 1 + 1, 0, none⟩ = some vb ∧ w5.frozen? ⟨w.heap.size + 1 + 1 + 1, 0, none⟩ = false) ∧ (w5.cell? ⟨w.heap.size + 1 + 1 + 1 + 1, 0, none⟩ = some (.int .i64 (lessF a b c pre)) ∧ w5.frozen? ⟨w.heap.size + 1 + 1 + 1 + 1, 0, none⟩ = false)) := fun w5 hb =>
          ⟨box_cell ((hb.block _ (by omega)).trans HMd.out.hbb), box_cell ((hb.block _ (by omega)).trans HMd.out.hsb)⟩
        have HEND : Hid (∀ (W' : World) (vb' : Value), MdS W0 W' (W1.heap.size + 3) (W1.heap.size + 1) (w.heap.size + 1 + 1 + 1) (w.heap.size + 1 + 1 + 1 + 1) (wq.heap.size + 1) rb a b c (.slice Ao n cap) vb' cur (pre ++ [cur]) → W'.heap[wq.heap.size + 1]? = some (.loop rb) ∧ ∃ vb', MdS W0 (W'.putObj (wq.heap.size + 1) (.loop r)) (W1.heap.size + 3) (W1.heap.size + 1) (w.heap.size + 1 + 1 + 1) (w.heap.size + 1 + 1 + 1 + 1) (wq.heap.size + 1) r a b c (.slice Ao n cap) vb' cur (pre ++ [cur])) := fun W' vb' H =>
          ⟨H.hl, vb', H.putRec (by omega) ⟨HNE.out.2.2.2.2.2, HNE.out.2.2.2.1, HNE.out.2.2.2.2.1⟩⟩
        have HSM2 : sum3 a b c cur = (x : Int) + y + z := HSM.out
        by_cases hp : pre = []
        case pos =>
          obtain rfl := HMd.out.hnil hp
          gi_wp2_with (refine ⟨trivial, fun h => (by cases h), ?_⟩; gi_at_call 33; refine (CallsIn.inRound _ (callsIn_wide.2 HCLN.out)).mono ?_; rintro e w5 ⟨g5, c5, rfl, hf5, hb5⟩; obtain ⟨⟨cb5, fb5⟩, cs5, fs5⟩ := HBOX.out w5 hb5; have HB5 := Lib.hid (HBET.out w5 g5 c5 hb5 hf5 (.inl hp)); clear hb5 hf5)
          have e := HEND.out _ _ HB5.out; rw [zS, hp] at e; exact e
        case neg =>
          obtain ⟨gb, cbv, rfl⟩ := HMd.out.hsome hp
          by_cases hs : (x : Int) + y + z < lessF a b c pre
          case pos =>
            gi_wp2_with (refine ⟨trivial, fun h => (by cases h), ?_⟩; gi_at_call 33; refine (CallsIn.inRound _ (callsIn_wide.2 HCLN.out)).mono ?_; rintro e w5 ⟨g5, c5, rfl, hf5, hb5⟩; obtain ⟨⟨cb5, fb5⟩, cs5, fs5⟩ := HBOX.out w5 hb5; have HB5 := Lib.hid (HBET.out w5 g5 c5 hb5 hf5 (.inr hs)); clear hb5 hf5)
            have e := HEND.out _ _ HB5.out; rw [zS] at e; exact e
          case neg =>
            have HST := Lib.hid (HMd.out.stay hp (by rw [HSM.out]; exact hs))
            gi_wp2
            have e := HEND.out _ _ HST.out; rw [zS] at e; exact e
    refine (HO hY).mono ?_
    rintro e W' ⟨hv, ov, vb, H⟩
    have hz := H.sz
    refine ⟨hv, (H.fix wq.heap.size (by omega) (by omega) (by omega) (by omega) (by omega)).trans d0, .inl ⟨H.hl, vb, H.hbb, H.two.fw.wide (by omega) (Nat.le_refl _) (Nat.le_refl _), H.be B0 (by omega) (by omega) (by omega) (by omega) (by omega) (by omega), fun g hg => by have := (H.two.fw.1.lt g hg).1; omega⟩⟩
end Go.Proofs.Ytnjomfmmnkjhfaa
