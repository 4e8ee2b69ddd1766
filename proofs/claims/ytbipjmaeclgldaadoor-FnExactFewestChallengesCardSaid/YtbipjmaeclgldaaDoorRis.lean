/- A player taken up a ladder: plain law; the reference's walk. -/
import Derived.Test.YtbipjmaeclgldaaDoorPerm
import Derived.Test.YtbipjmaeclgldaaDoorTools
namespace Go.Proofs.YtbipjmaeclgldaaDoor
open Go.ChangeShapes Go.WideShapes Go.ChangeAt Go.RowKit

def upS (a b x : Int) : List Int := (if x = b then [a] else []) ++ (if x = a then [] else [x])
def upF (xs : List Int) (a b : Int) : List Int := xs.flatMap (upS a b)
def riseL (xs : List Int) (lo up : Nat) : List Int := (xs.take lo ++ xs.drop (lo + 1)).take up ++ [xs.getD lo 0] ++ (xs.take lo ++ xs.drop (lo + 1)).drop up
theorem upF_id {a b : Int} : ∀ {l : List Int}, a ∉ l → b ∉ l → l.flatMap (upS a b) = l
  | [], _, _ => rfl
  | x :: l, ha, hb => by
    simp only [List.mem_cons, not_or] at ha hb
    rw [List.flatMap_cons, upF_id ha.2 hb.2, upS, if_neg (fun e => hb.1 e.symm), if_neg (fun e => ha.1 e.symm)]; rfl
theorem up_rise' (P Q R : List Int) (a b : Int) (hd : (P ++ b :: (Q ++ a :: R)).Nodup) :
    upF (P ++ b :: (Q ++ a :: R)) a b = riseL (P ++ b :: (Q ++ a :: R)) (P.length + 1 + Q.length) P.length := by
  have hd2 := hd
  rw [List.nodup_append] at hd2
  obtain ⟨_, h2, h3⟩ := hd2
  rw [List.nodup_cons, List.nodup_append] at h2
  obtain ⟨hb, _, h5, h6⟩ := h2
  rw [List.nodup_cons] at h5
  have haP : a ∉ P := fun h => h3 a h a (by simp) rfl
  have hbP : b ∉ P := fun h => h3 b h b (by simp) rfl
  have hab : a ≠ b := by rintro rfl; simp at hb
  have hbQ : b ∉ Q := fun h => hb (by simp [h])
  have hbR : b ∉ R := fun h => hb (by simp [h])
  have haQ : a ∉ Q := fun h => h6 a h a (by simp) rfl
  have e1 : upF (P ++ b :: (Q ++ a :: R)) a b = P ++ a :: b :: (Q ++ R) := by
    unfold upF
    rw [List.flatMap_append, List.flatMap_cons, List.flatMap_append, List.flatMap_cons, upF_id haP hbP, upF_id haQ hbQ, upF_id h5.1 hbR]
    simp [upS, hab, Ne.symm hab]
  have hl : (P ++ b :: Q).length = P.length + 1 + Q.length := by simp; omega
  have e0 : P ++ b :: (Q ++ a :: R) = (P ++ b :: Q) ++ a :: R := by simp
  have e2 : (P ++ b :: (Q ++ a :: R)).take (P.length + 1 + Q.length) = P ++ b :: Q := by rw [e0, List.take_left' hl]
  have e3 : (P ++ b :: (Q ++ a :: R)).drop (P.length + 1 + Q.length + 1) = R := by
    rw [e0, ← List.drop_drop, List.drop_left' hl]; rfl
  have e4 : (P ++ b :: (Q ++ a :: R)).getD (P.length + 1 + Q.length) 0 = a := by
    rw [e0, List.getD_eq_getElem?_getD, List.getElem?_append_right (by rw [hl]; exact Nat.le_refl _), hl, Nat.sub_self]; rfl
  unfold riseL
  rw [e1, e2, e3, e4]
  rw [List.append_assoc P, List.take_left' rfl, List.drop_left' rfl]
  simp
theorem up_rise {xs : List Int} (hd : xs.Nodup) {a b : Int} {lo up : Nat} (h : up < lo) (ha : xs[lo]? = some a) (hb : xs[up]? = some b) : upF xs a b = riseL xs lo up := by
  obtain ⟨hlo, ha'⟩ := List.getElem?_eq_some_iff.1 ha
  obtain ⟨hup, hb'⟩ := List.getElem?_eq_some_iff.1 hb
  have e1 : xs = xs.take up ++ b :: xs.drop (up + 1) := by
    rw [← hb', ← List.drop_eq_getElem_cons hup, List.take_append_drop]
  have hl2 : lo - (up + 1) < (xs.drop (up + 1)).length := by rw [List.length_drop]; omega
  have e2 : xs.drop (up + 1) = (xs.drop (up + 1)).take (lo - (up + 1)) ++ a :: (xs.drop (up + 1)).drop (lo - (up + 1) + 1) := by
    have e : (xs.drop (up + 1))[lo - (up + 1)] = a := by
      rw [List.getElem_drop, ← ha']; congr 1; omega
    rw [← e, ← List.drop_eq_getElem_cons hl2, List.take_append_drop]
  rw [e2] at e1
  have hP : (xs.take up).length = up := by rw [List.length_take]; omega
  have hQ : ((xs.drop (up + 1)).take (lo - (up + 1))).length = lo - (up + 1) := by rw [List.length_take]; omega
  have k := up_rise' (xs.take up) ((xs.drop (up + 1)).take (lo - (up + 1))) ((xs.drop (up + 1)).drop (lo - (up + 1) + 1)) a b (by rw [← e1]; exact hd)
  rw [← e1, hP, hQ, show up + 1 + (lo - (up + 1)) = lo from by omega] at k
  exact k
theorem riseL_length {xs : List Int} {lo up : Nat} (h : lo < xs.length) (h2 : up ≤ lo) : (riseL xs lo up).length = xs.length := by
  simp [riseL]; omega
theorem upF_snoc {xs : List Int} {a b x : Int} {j : Nat} (h : xs[j]? = some x) : upF (xs.take (j + 1)) a b = upF (xs.take j) a b ++ upS a b x := by
  rw [take_snoc h]; simp [upF]
theorem upF_le (a b : Int) : ∀ (xs : List Int), (upF xs a b).length ≤ 2 * xs.length
  | [] => by simp [upF]
  | x :: xs => by
    have h := upF_le a b xs
    unfold upF at h ⊢
    rw [List.flatMap_cons, List.length_append, List.length_cons]
    have : (upS a b x).length ≤ 2 := by unfold upS; split <;> split <;> simp
    omega

set_option maxHeartbeats 1000000 in
theorem l25Up_any (A : Option Addr) (c : Nat) (xs : List Int) (a b : Int) (w : World) (hs : SlI w A xs) (hn : xs.length ≤ 524288) :
    Calls Tryd.prog 25 #[.slice A xs.length c, .int .i64 a, .int .i64 b] w fun e w' => ∃ v', e = .returned v' ∧ Fr w' w.heap.size w'.heap.size v' (upF xs a b) ∧ Below w.heap.size w w' := by
  have HS := Lib.hid hs
  clear hs
  go_enter Tryd.func25, Tryd.ntmps25
  go_wp2
  go_loopw [7, 13] (fun v i wr => ∃ (j : Nat) (fv : Value), j ≤ xs.length ∧ i = .int .i64 j ∧ fv = v ∧ Hid (wr.ownsRow w.heap.size 3 1 fv (upF (xs.take j) a b).length (ints (upF (xs.take j) a b)) ∧ Below w.heap.size w wr)) (fun _ i _ => xs.length - (intOf i).toNat)
  case atStart => exact ⟨0, _, Nat.zero_le _, rfl, rfl, World.ownsRow_made w #[] 0 (Nat.le_refl _) (by unfold maxLen; omega) rfl, (Below.refl _ w).alloc (Nat.le_refl _) _⟩
  case round =>
    obtain ⟨j, fv, hj, rfl, rfl, HR⟩ := hrel
    by_cases hlt : j < xs.length
    · obtain ⟨b1, o1, x, rfl, hx1, hx2, _⟩ := (HS.out.below HR.out.2).at_ (k := j) hlt
      have hul := upF_le a b (xs.take j)
      rw [List.length_take, Nat.min_eq_left hj] at hul
      have HSN := Lib.hid (upF_snoc (a := a) (b := b) hx1)
      clear hx1
      generalize hL : upF (xs.take j) a b = L at *
      clear hL
      by_cases hxb : x = b
      · have d1 : (x == b) = true := by simp [hxb]
        by_cases hxa : x = a
        · have d2 : (x != a) = false := by simp [hxa]
          have HU : Hid (upF (xs.take (j + 1)) a b = L ++ [a]) := by show _ = _; rw [HSN.out, upS, if_pos hxb, if_pos hxa]; rfl
          clear hxa hxb
          go_wp2_with (at_builtin; refine app1 rfl _ _ rfl wr w.heap.size fv L.length L rfl HR.out.1 a rfl (by omega) HR.out.2.size ?_; intro v' w2 hown2 hb2 hsz2 _)
          have HO2 : Hid (w2.ownsRow w.heap.size 3 1 v' (upF (xs.take (j + 1)) a b).length (ints (upF (xs.take (j + 1)) a b)) ∧ Below w.heap.size w w2) := by
            rw [HU.out]; exact ⟨by simpa using hown2, HR.out.2.trans (hb2 w.heap.size (Nat.le_refl _) HR.out.2.size)⟩
          clear hown2 hb2 hsz2
          go_wp2
          go_roundw
          all_goals first | exact ⟨j + 1, v', by omega, by go_num, rfl, HO2.out⟩ | (simp [intOf]; omega)
        · have d2 : (x != a) = true := by simp [hxa]
          have HU : Hid (upF (xs.take (j + 1)) a b = L ++ [a] ++ [x]) := by show _ = _; rw [HSN.out, upS, if_pos hxb, if_neg hxa]; simp
          clear hxa hxb
          go_wp2_with (first | (at_builtin; refine app1 rfl _ _ rfl wr w.heap.size fv L.length L rfl HR.out.1 a rfl (by omega) HR.out.2.size ?_; intro v' w2 hown2 hb2 hsz2 _; have HO2 : Hid (w2.ownsRow w.heap.size 3 1 v' (L.length + 1) (ints (L ++ [a])) ∧ Below w.heap.size w w2) := ⟨hown2, HR.out.2.trans (hb2 w.heap.size (Nat.le_refl _) HR.out.2.size)⟩; clear hown2 hb2 hsz2) | (at_builtin; refine app1 rfl _ _ rfl w2 w.heap.size v' (L.length + 1) (L ++ [a]) rfl HO2.out.1 x rfl (by omega) HO2.out.2.size ?_; intro v3 w3 hown3 hb3 hsz3 _))
          have HO3 : Hid (w3.ownsRow w.heap.size 3 1 v3 (upF (xs.take (j + 1)) a b).length (ints (upF (xs.take (j + 1)) a b)) ∧ Below w.heap.size w w3) := by
            rw [HU.out]; exact ⟨by simpa using hown3, HO2.out.2.trans (hb3 w.heap.size (Nat.le_refl _) HO2.out.2.size)⟩
          clear hown3 hb3 hsz3
          go_wp2
          go_roundw
          all_goals first | exact ⟨j + 1, v3, by omega, by go_num, rfl, HO3.out⟩ | (simp [intOf]; omega)
      · have d1 : (x == b) = false := by simp [hxb]
        by_cases hxa : x = a
        · have d2 : (x != a) = false := by simp [hxa]
          have HU : Hid (upF (xs.take (j + 1)) a b = L) := by show _ = _; rw [HSN.out, upS, if_neg hxb, if_pos hxa]; simp
          clear hxa hxb
          go_wp2
          go_roundw
          all_goals first | exact ⟨j + 1, fv, by omega, by go_num, rfl, by rw [HU.out]; exact HR.out⟩ | (simp [intOf]; omega)
        · have d2 : (x != a) = true := by simp [hxa]
          have HU : Hid (upF (xs.take (j + 1)) a b = L ++ [x]) := by show _ = _; rw [HSN.out, upS, if_neg hxb, if_neg hxa]; rfl
          clear hxa hxb
          go_wp2_with (at_builtin; refine app1 rfl _ _ rfl wr w.heap.size fv L.length L rfl HR.out.1 x rfl (by omega) HR.out.2.size ?_; intro v' w2 hown2 hb2 hsz2 _)
          have HO2 : Hid (w2.ownsRow w.heap.size 3 1 v' (upF (xs.take (j + 1)) a b).length (ints (upF (xs.take (j + 1)) a b)) ∧ Below w.heap.size w w2) := by
            rw [HU.out]; exact ⟨by simpa using hown2, HR.out.2.trans (hb2 w.heap.size (Nat.le_refl _) HR.out.2.size)⟩
          clear hown2 hb2 hsz2
          go_wp2
          go_roundw
          all_goals first | exact ⟨j + 1, v', by omega, by go_num, rfl, HO2.out⟩ | (simp [intOf]; omega)
    · obtain rfl : j = xs.length := by omega
      have hown := HR.out.1
      rw [List.take_of_length_le (Nat.le_refl _)] at hown
      have HF : Hid (Fr wr w.heap.size wr.heap.size fv (upF xs a b)) := Fr.of_own hown
      clear hown
      go_wp2
      go_ret
      exact ⟨_, rfl, HF.out, HR.out.2⟩
end Go.Proofs.YtbipjmaeclgldaaDoor
