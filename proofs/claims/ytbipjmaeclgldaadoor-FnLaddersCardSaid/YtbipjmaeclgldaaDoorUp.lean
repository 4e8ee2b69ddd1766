/- A player who goes up in a ladder: contracts. -/
import Derived.Test.YtbipjmaeclgldaaDoorMai
import Derived.Test.YtbipjmaeclgldaaDoorShelf
import Derived.Lib.OwnBridge
import Derived.Sort.OwnSorted
namespace Go.Proofs.YtbipjmaeclgldaaDoor
open Go.ChangeShapes Go.WideShapes Go.ChangeAt Go.RowKit

theorem own_full {w : World} {lo g n cap : Nat} {e : TypeId} {vs : List Value} (h : w.ownsRow lo e 1 (.slice (some ⟨g, 0, none⟩) n cap) n vs) :
    ∃ us : List Value, us.length = cap ∧ us.take n = vs ∧ n ≤ cap ∧ w.ownsRow lo e 1 (.slice (some ⟨g, 0, none⟩) cap cap) cap us := by
  rcases h.2 with ⟨e0, _⟩ | ⟨g', cap', cur, e0, hb, hg, hn, hm, hs, ht⟩
  · cases e0
  · injection e0 with e1 _ e3
    injection e1 with e1
    injection e1 with e1
    subst e1; subst e3
    refine ⟨cur.toList, by simpa using hs, by simpa using ht, hn, by simpa using hs, .inr ⟨g, cap, cur, rfl, hb, hg, Nat.le_refl _, hm, hs, ?_⟩⟩
    rw [List.take_of_length_le (by simp [hs])]
theorem own_cut {w : World} {lo g cap k : Nat} {e : TypeId} {us : List Value} (h : w.ownsRow lo e 1 (.slice (some ⟨g, 0, none⟩) cap cap) cap us) (hk : k ≤ cap) :
    w.ownsRow lo e 1 (.slice (some ⟨g, 0, none⟩) k cap) k (us.take k) := by
  have hl : us.length = cap := by simpa using h.1
  rcases h.2 with ⟨e0, _⟩ | ⟨g', cap', cur, e0, hb, hg, hn, hm, hs, ht⟩
  · cases e0
  · injection e0 with e1 _ e3
    injection e1 with e1
    injection e1 with e1
    subst e1; subst e3
    refine ⟨by simp; omega, .inr ⟨g, cap, cur, rfl, hb, hg, hk, hm, hs, ?_⟩⟩
    rw [← ht, List.take_take]; congr 1; omega
theorem own_setCells {lo g cap : Nat} {e : TypeId} : ∀ (vs : List Value) (o : Nat) (w : World) (us : List Value), w.ownsRow lo e 1 (.slice (some ⟨g, 0, none⟩) cap cap) cap us → o + vs.length ≤ cap →
    (w.setCells g o vs).ownsRow lo e 1 (.slice (some ⟨g, 0, none⟩) cap cap) cap (us.take o ++ vs ++ us.drop (o + vs.length)) ∧ Keep g (g + 1) w (w.setCells g o vs)
  | [], o, w, us, h, _ => by
    refine ⟨?_, Keep.refl _ _ _⟩
    simp only [List.append_nil, List.length_nil, Nat.add_zero, List.take_append_drop]
    exact h
  | v :: vs, o, w, us, h, hl => by
    have hul : us.length = cap := by simpa using h.1
    rw [List.length_cons] at hl
    obtain ⟨_, _, _, _, h4, h5⟩ := own_get h (k := o) (by omega) v
    obtain ⟨i1, i2⟩ := own_setCells vs (o + 1) _ _ h4 (by omega)
    refine ⟨?_, h5.trans i2⟩
    have e : us.take o ++ (v :: vs) ++ us.drop (o + (v :: vs).length) = (us.set o v).take (o + 1) ++ vs ++ (us.set o v).drop (o + 1 + vs.length) := by
      have e1 : (us.set o v).take (o + 1) = us.take o ++ [v] := by
        rw [take_snoc (x := v) (by rw [List.getElem?_set_self (by omega)])]
        rw [List.take_set_of_le (Nat.le_refl _)]
      have e2 : (us.set o v).drop (o + 1 + vs.length) = us.drop (o + (v :: vs).length) := by
        rw [List.drop_set_of_lt (by omega), List.length_cons]; congr 1; omega
      rw [e1, e2]; simp
    rw [e]; exact i1

theorem keep_putRow {w : World} {g : Nat} {q : Nat} {d : Array Int} {lo hi : Nat} (h1 : lo ≤ g) (h2 : g < hi) : Keep lo hi w (Sort.putRow (Value.int .i64) (Sort.ahead w q) g 0 d) := by
  refine ⟨rfl, rfl, rfl, by simp [Sort.putRow, Sort.mapBlock, Sort.ahead], fun k hk hd => ?_⟩
  simp [Sort.putRow, Sort.mapBlock, Sort.ahead, Array.getElem?_modify, show ¬ g = k from by omega]
theorem deleteI_any (g n c lo hi i : Nat) (xs : List Int) (w : World) (hn : n = xs.length) (hf : Fr w lo hi (.slice (some ⟨g, 0, none⟩) n c) xs) (hi' : i < n) :
    Calls Tryd.prog 48 #[.slice (some ⟨g, 0, none⟩) n c, .int .i64 i, .int .i64 ((i : Int) + 1)] w fun e w' =>
      e = .returned (.slice (some ⟨g, 0, none⟩) ((n - 1 : Nat)) c) ∧ Fr w' lo hi (.slice (some ⟨g, 0, none⟩) (n - 1) c) (xs.take i ++ xs.drop (i + 1)) ∧ Keep lo hi w w' := by
  obtain ⟨A', c', he, hc, hm⟩ := hf.form
  injection he with h1 h2 h3
  subst h1; subst h3; subst hn
  obtain ⟨g', cap, he2, hb, hgl, hc2, hm2, _, hH⟩ := Lib.holds_of_ownsRow hf.1 (by simp)
  injection he2 with h1 _ h3
  injection h1 with h1
  injection h1 with h1
  subst h1; subst h3
  have hgh : g < hi := hf.2.1 g rfl
  have h := Tryd.slices_Delete_int g 0 c i (i + 1) xs w hH hc (by unfold maxLen at hm; omega) (by omega) (by omega)
  rw [show ((i + 1 : Nat) : Int) = (i : Int) + 1 from by push_cast; rfl] at h
  refine h.mono ?_
  rintro e w' ⟨rfl, q, rfl⟩
  have hy : (xs.take i ++ xs.drop (i + 1) ++ List.replicate (i + 1 - i) 0).length = xs.length := by simp; omega
  have ho := Lib.ownsRow_putRow (q := q) (k := xs.length - 1) hf.1 hy (by omega)
  have ht : (xs.take i ++ xs.drop (i + 1) ++ List.replicate (i + 1 - i) 0).take (xs.length - 1) = xs.take i ++ xs.drop (i + 1) := by
    apply List.take_left'; simp; omega
  rw [ht] at ho
  have hk := keep_putRow (w := w) (q := q) (d := (xs.take i ++ xs.drop (i + 1) ++ List.replicate (i + 1 - i) 0).toArray) hb hgh
  refine ⟨by rw [show i + 1 - i = 1 from by omega], ⟨?_, fun g' hg' => ?_, Nat.le_trans hf.2.2 hk.size⟩, hk⟩
  · rw [show (xs.take i ++ xs.drop (i + 1)).length = xs.length - 1 from by simp; omega]
    exact ho
  · simp only [Value.ownBlock, Option.some.injEq] at hg'; omega

theorem insertI_any (g n c lo hi i : Nat) (cs : List Int) (x : Int) (w : World) (hn : n = cs.length) (hf : Fr w lo hi (.slice (some ⟨g, 0, none⟩) n c) cs) (hi' : i < n) (hroom : n + 1 ≤ c) :
    Calls Tryd.prog 49 #[.slice (some ⟨g, 0, none⟩) n c, .int .i64 i, .slice (some ⟨w.heap.size, 0, none⟩) 1 1] (w.alloc (.cells #[.int .i64 x] 3)) fun e w' =>
      e = .returned (.slice (some ⟨g, 0, none⟩) (n + 1) c) ∧ Fr w' lo hi (.slice (some ⟨g, 0, none⟩) (n + 1) c) (cs.take i ++ [x] ++ cs.drop i) ∧ Keep lo hi w w' := by
  obtain ⟨A', c', he, hc, hm⟩ := hf.form
  injection he with h1 h2 h3
  subst h1; subst h3; subst hn
  have hgh : g < hi := hf.2.1 g rfl
  have hgw : g < w.heap.size := Nat.lt_of_lt_of_le hgh hf.2.2
  have hlog : lo ≤ g := (hf.1.lt g rfl).1
  have hf2 : (w.alloc (.cells #[.int .i64 x] 3)).ownsRow lo 3 1 (.slice (some ⟨g, 0, none⟩) cs.length c) cs.length (ints cs) := hf.1.alloc _
  obtain ⟨us, hul, hut, _, hfull⟩ := own_full hf2
  have hblk : ∃ cur : Array Value, (w.alloc (.cells #[.int .i64 x] 3)).heap[g]? = some (.cells cur 3 (0, 0)) ∧ cur.size = c := by
    rcases hfull.2 with ⟨e0, _⟩ | ⟨g', cap', cur, e0, hb, hg, hn, hm, hs, ht⟩
    · cases e0
    · injection e0 with e1 _ e3
      injection e1 with e1
      injection e1 with e1
      subst e1; subst e3
      exact ⟨cur, hg, by simpa using hs⟩
  obtain ⟨cur, hcur, hcs⟩ := hblk
  have hnew : (w.alloc (.cells #[.int .i64 x] 3)).heap[w.heap.size]? = some (.cells #[.int .i64 x] 3 (0, 0)) := by show (w.heap.push _)[w.heap.size]? = _; simp
  have k0 : Keep lo hi w (w.alloc (.cells #[.int .i64 x] 3)).drew := ((Keep.refl lo hi w).alloc _).drewN 1
  generalize w.alloc (.cells #[.int .i64 x] 3) = W at *
  have h := Any2.slices_Insert_int_shift Tryd.laysNm221 g 0 cs.length c i w.heap.size 0 1 1 (ints cs) [.int .i64 x] W
    hi' (by omega) hroom (by unfold maxLen at hm; omega) (by omega) (ints_length cs) rfl ?_ ?_ ?_ ?_ ?_ ?_ 3 3 1 c ?_ ?_ (by omega) ?_ ?_
  · refine h.mono ?_
    rintro e w' ⟨rfl, rfl⟩
    have hz1 := own_setCells ((ints cs).drop i) (0 + (i + 1)) W.drew us hfull (by rw [List.length_drop, ints_length]; omega)
    have hz2 := own_setCells [.int .i64 x] (0 + i) _ _ hz1.1 (by simp; omega)
    have hk : Keep lo hi w ((W.drew.setCells g (0 + (i + 1)) ((ints cs).drop i)).setCells g (0 + i) [.int .i64 x]) := by
      exact k0.trans ((hz1.2.trans hz2.2).wide hlog (by omega))
    refine ⟨rfl, ⟨?_, fun g' hg' => ?_, Nat.le_trans hf.2.2 hk.size⟩, hk⟩
    · have hcut := own_cut hz2.1 (k := cs.length + 1) (by omega)
      have e : ((us.take (0 + (i + 1)) ++ (ints cs).drop i ++ us.drop (0 + (i + 1) + ((ints cs).drop i).length)).take (0 + i) ++ [Value.int .i64 x] ++ (us.take (0 + (i + 1)) ++ (ints cs).drop i ++ us.drop (0 + (i + 1) + ((ints cs).drop i).length)).drop (0 + i + [Value.int .i64 x].length)).take (cs.length + 1) = ints (cs.take i ++ [x] ++ cs.drop i) := by
        have hu1 : (us.take (i + 1)).length = i + 1 := by rw [List.length_take]; omega
        have e1 : (us.take (i + 1) ++ (ints cs).drop i ++ us.drop (i + 1 + ((ints cs).drop i).length)).take i = (ints cs).take i := by
          rw [List.append_assoc, List.take_append_of_le_length (by omega), List.take_take, ← hut, List.take_take]
          congr 1; omega
        have e2 : (us.take (i + 1) ++ (ints cs).drop i ++ us.drop (i + 1 + ((ints cs).drop i).length)).drop (i + 1) = (ints cs).drop i ++ us.drop (i + 1 + ((ints cs).drop i).length) := by
          rw [List.append_assoc, List.drop_left' hu1]
        simp only [Nat.zero_add, List.length_singleton]
        rw [e1, e2, ← List.append_assoc]
        rw [List.take_left' (by simp [ints_length]; omega)]
        simp [ints, List.map_take, List.map_drop]
      rw [e] at hcut
      rw [show (cs.take i ++ [x] ++ cs.drop i).length = cs.length + 1 from by simp; omega]
      exact hcut
    · simp only [Value.ownBlock, Option.some.injEq] at hg'; omega
  · intro j v hv
    rw [Nat.zero_add]
    have := hf2.cellAt j (by rw [← ints_length cs]; simpa using (List.getElem?_eq_some_iff.1 hv).1)
    rw [this]; exact hv
  · intro j hj
    rw [Nat.zero_add, hfull.cellAt j (by omega)]
    rw [List.getElem?_eq_getElem (by omega)]; rfl
  · intro j hj
    rw [Nat.zero_add]; exact hfull.frozenAt j
  · intro j v hv
    match j, hv with
    | 0, hv => simp at hv; subst hv; simp [World.cell?, hnew]
  · intro v hv
    simp only [ints, List.mem_map] at hv
    obtain ⟨y, _, rfl⟩ := hv; rfl
  · intro v hv
    simp at hv; subst hv; rfl
  · simp [World.shape?, hnew]
  · simp [World.shape?, hcur, hcs]
  · simp [World.frozen?, hnew]
  · simp [World.frozen?, hnew]
end Go.Proofs.YtbipjmaeclgldaaDoor
