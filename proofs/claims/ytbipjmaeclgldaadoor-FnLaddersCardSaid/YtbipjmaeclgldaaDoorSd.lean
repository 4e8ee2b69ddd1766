/- Settling a ladder by a tour: plain words. -/
import Derived.Test.YtbipjmaeclgldaaDoorTok
import Derived.Test.YtbipjmaeclgldaaDoorChal
namespace Go.Proofs.YtbipjmaeclgldaaDoor
open Go.ChangeShapes Go.WideShapes Go.ChangeAt Go.RowKit

/-- Whether the player b beats the player a. -/
def bi (xs : List Int) (b a : Int) : Bool := bt xs b.toNat a.toNat
/-- How many pairs stand against the tour. -/
def rev (xs : List Int) : List Int → Nat
  | [] => 0
  | a :: l => (l.filter fun b => bi xs b a).length + rev xs l
def swapAt (l : List Int) (k : Nat) : List Int := riseL l k (k - 1)
/-- What is left to do, from place k on; f bounds the steps. -/
def settleS (xs : List Int) : Nat → List Int → Nat → List (List Int) → List (List Int)
  | 0, _, _, out => out
  | f + 1, l, k, out =>
    if k < l.length then
      if bi xs (l.getD k 0) (l.getD (k - 1) 0) = true then settleS xs f (swapAt l k) 1 (out ++ [[l.getD k 0, l.getD (k - 1) 0, 1]]) else settleS xs f l (k + 1) out
    else out
def meas (xs : List Int) (l : List Int) (k : Nat) : Nat := rev xs l * 16 + (l.length - k)
theorem settleS_end {xs l : List Int} {k : Nat} {out : List (List Int)} (h : l.length ≤ k) : ∀ f, settleS xs f l k out = out
  | 0 => rfl
  | f + 1 => by rw [settleS, if_neg (by omega)]
theorem settleS_go {xs l : List Int} {k f : Nat} {out : List (List Int)} {b a : Int} (h : k < l.length) (hb : l[k]? = some b) (ha : l[k - 1]? = some a) (hba : bi xs b a = true) :
    settleS xs (f + 1) l k out = settleS xs f (swapAt l k) 1 (out ++ [[b, a, 1]]) := by
  rw [settleS, if_pos h, List.getD_eq_getElem?_getD, List.getD_eq_getElem?_getD, hb, ha]
  simp only [Option.getD_some]
  rw [if_pos hba]
theorem settleS_on {xs l : List Int} {k f : Nat} {out : List (List Int)} {b a : Int} (h : k < l.length) (hb : l[k]? = some b) (ha : l[k - 1]? = some a) (hba : bi xs b a = false) :
    settleS xs (f + 1) l k out = settleS xs f l (k + 1) out := by
  rw [settleS, if_pos h, List.getD_eq_getElem?_getD, List.getD_eq_getElem?_getD, hb, ha]
  simp only [Option.getD_some]
  rw [if_neg (by rw [hba]; decide)]
theorem swap_split {l : List Int} {k : Nat} {b a : Int} (hk : 1 ≤ k) (hb : l[k]? = some b) (ha : l[k - 1]? = some a) :
    ∃ P R, l = P ++ a :: b :: R ∧ P.length = k - 1 ∧ swapAt l k = P ++ b :: a :: R := by
  obtain ⟨h1, e1⟩ := List.getElem?_eq_some_iff.1 hb
  obtain ⟨h2, e2⟩ := List.getElem?_eq_some_iff.1 ha
  have el : l = l.take (k - 1) ++ a :: b :: l.drop (k + 1) := by
    have e3 : l.drop (k - 1) = a :: l.drop k := by
      have h := List.drop_eq_getElem_cons h2
      rw [e2, show k - 1 + 1 = k from by omega] at h; exact h
    have e4 : l.drop k = b :: l.drop (k + 1) := by
      have h := List.drop_eq_getElem_cons h1
      rw [e1] at h; exact h
    rw [← e4, ← e3, List.take_append_drop]
  have hP : (l.take (k - 1)).length = k - 1 := by rw [List.length_take]; omega
  refine ⟨l.take (k - 1), l.drop (k + 1), el, hP, ?_⟩
  generalize l.take (k - 1) = P at *
  generalize l.drop (k + 1) = R at *
  subst el
  unfold swapAt riseL
  have t1 : (P ++ a :: b :: R).take k = P ++ [a] := by
    rw [show P ++ a :: b :: R = (P ++ [a]) ++ b :: R from by simp, List.take_left' (by simp; omega)]
  have t2 : (P ++ a :: b :: R).drop (k + 1) = R := by
    rw [show P ++ a :: b :: R = (P ++ [a, b]) ++ R from by simp, List.drop_left' (by simp; omega)]
  have t3 : (P ++ a :: b :: R).getD k 0 = b := by rw [List.getD_eq_getElem?_getD, hb]; rfl
  have t4 : (P ++ [a] ++ R).take (k - 1) = P := by rw [List.append_assoc, List.take_left' hP]
  have t5 : (P ++ [a] ++ R).drop (k - 1) = [a] ++ R := by rw [List.append_assoc, List.drop_left' hP]
  rw [t1, t2, t3, t4, t5]
  simp
theorem rev_swap (xs : List Int) : ∀ (P R : List Int) (a b : Int), bi xs b a = true → bi xs a b = false → rev xs (P ++ a :: b :: R) = rev xs (P ++ b :: a :: R) + 1
  | [], R, a, b, h1, h2 => by
    simp only [List.nil_append, rev, List.filter_cons, h1, h2, if_true, Bool.false_eq_true, if_false, List.length_cons]
    omega
  | p :: P, R, a, b, h1, h2 => by
    have ih := rev_swap xs P R a b h1 h2
    have hp : ((P ++ a :: b :: R).filter fun c => bi xs c p).length = ((P ++ b :: a :: R).filter fun c => bi xs c p).length := by
      refine List.Perm.length_eq (List.Perm.filter _ ?_)
      exact List.Perm.append_left P (List.Perm.swap b a R)
    simp only [List.cons_append, rev]
    omega
theorem swap_perm {l : List Int} {k : Nat} {b a : Int} (hk : 1 ≤ k) (hb : l[k]? = some b) (ha : l[k - 1]? = some a) : (swapAt l k).Perm l := by
  obtain ⟨P, R, e1, _, e2⟩ := swap_split hk hb ha
  rw [e1, e2] at *
  rw [← e1, e2, e1]
  exact List.Perm.append_left P (List.Perm.swap a b R)
theorem ladB_of_perm {l m : List Int} (h : ladB l = true) (hp : m.Perm l) : ladB m = true := by
  obtain ⟨h1, h2, h3⟩ := ladB_t h
  have hl := hp.length_eq
  exact ladB_mk (by omega) (by omega) (fun x hx => by rw [hl]; exact h2 x (hp.mem_iff.1 hx)) (hp.nodup_iff.2 h3)
theorem rev_le (xs : List Int) : ∀ l : List Int, rev xs l ≤ l.length * l.length
  | [] => by simp [rev]
  | a :: l => by
    have h1 := rev_le xs l
    have h2 := List.length_filter_le (fun b => bi xs b a) l
    simp only [rev, List.length_cons]
    have : (l.length + 1) * (l.length + 1) = l.length * l.length + 2 * l.length + 1 := by rw [Nat.add_mul, Nat.mul_add]; omega
    omega
/-- All that holds between two rounds. -/
structure SetOk (x : TourV) (l0 l : List Int) (k : Nat) (out : List (List Int)) : Prop where
  lad : ladB l = true
  len : l.length = x.wins.length
  k1 : 1 ≤ k
  k2 : k ≤ l.length
  cnt : out.length + rev x.wins l ≤ 64
  rows : ∀ r ∈ out, r.length = 3
theorem setOk_start {x : TourV} {l : List Int} (h : ladB l = true) (hl : l.length = x.wins.length) : SetOk x l l 1 [] := by
  obtain ⟨⟨h1, h2⟩, _⟩ := ladB_t h
  refine ⟨h, hl, Nat.le_refl _, h1, ?_, fun r hr => by cases hr⟩
  have h3 := rev_le x.wins l
  have : l.length * l.length ≤ 8 * 8 := Nat.mul_le_mul h2 h2
  simp only [List.length_nil]; omega
/-- The players at two neighboring places. -/
theorem set_at {x : TourV} {l0 l : List Int} {k : Nat} {out : List (List Int)} (h : SetOk x l0 l k out) (hk : k < l.length) :
    ∃ a b : Nat, l[k]? = some (b : Int) ∧ l[k - 1]? = some (a : Int) ∧ a < x.wins.length ∧ b < x.wins.length ∧ a ≠ b := by
  obtain ⟨_, h2, h3⟩ := ladB_t h.lad
  have hk1 := h.k1
  have e1 : l[k]? = some l[k] := List.getElem?_eq_getElem hk
  have e2 : l[k - 1]? = some l[k - 1] := List.getElem?_eq_getElem (by omega)
  obtain ⟨b0, b1⟩ := h2 l[k] (List.getElem_mem hk)
  obtain ⟨a0, a1⟩ := h2 l[k - 1] (List.getElem_mem (by omega))
  have hne : l[k - 1] ≠ l[k] := fun he => by
    have h4 := (List.nodup_iff_pairwise_ne.1 h3)
    have := List.pairwise_iff_getElem.1 h4 (k - 1) k (by omega) hk (by omega)
    exact this he
  obtain ⟨b, hb⟩ := Int.eq_ofNat_of_zero_le b0
  obtain ⟨a, ha⟩ := Int.eq_ofNat_of_zero_le a0
  refine ⟨a, b, by rw [e1, hb], by rw [e2, ha], ?_, ?_, ?_⟩
  · rw [← h.len]; omega
  · rw [← h.len]; omega
  · intro e; apply hne; rw [ha, hb, e]
theorem set_go {x : TourV} {l0 l : List Int} {k : Nat} {out : List (List Int)} {a b : Nat} (ht : tourB x = true) (h : SetOk x l0 l k out) (hb : l[k]? = some (b : Int)) (ha : l[k - 1]? = some (a : Int))
    (ha2 : a < x.wins.length) (hb2 : b < x.wins.length) (hne : a ≠ b) (hbt : bt x.wins b a = true) :
    SetOk x l0 (swapAt l k) 1 (out ++ [[(b : Int), (a : Int), 1]]) ∧ meas x.wins (swapAt l k) 1 < meas x.wins l k := by
  have hba : bi x.wins (b : Int) (a : Int) = true := by simpa [bi] using hbt
  have hab : bi x.wins (a : Int) (b : Int) = false := by
    have := tourB_anti ht ha2 hb2 hne
    rw [hbt] at this
    simpa [bi] using this
  obtain ⟨P, R, e1, e2, e3⟩ := swap_split h.k1 hb ha
  have hr := rev_swap x.wins P R (a : Int) (b : Int) hba hab
  rw [← e1, ← e3] at hr
  have hp := swap_perm h.k1 hb ha
  have hl := hp.length_eq
  have hlad := ladB_of_perm h.lad hp
  obtain ⟨⟨h1, h8⟩, _⟩ := ladB_t h.lad
  have hc := h.cnt
  have hk1 := h.k1
  refine ⟨⟨hlad, by rw [hl]; exact h.len, Nat.le_refl _, by rw [hl]; exact h1, ?_, ?_⟩, ?_⟩
  · rw [List.length_append, List.length_singleton]; omega
  · intro r hr
    rcases List.mem_append.1 hr with hr | hr
    · exact h.rows r hr
    · simp at hr; rw [hr]; rfl
  · unfold meas; omega
theorem set_on {x : TourV} {l0 l : List Int} {k : Nat} {out : List (List Int)} (h : SetOk x l0 l k out) (hk : k < l.length) : SetOk x l0 l (k + 1) out ∧ meas x.wins l (k + 1) < meas x.wins l k := by
  refine ⟨⟨h.lad, h.len, Nat.le_succ_of_le h.k1, hk, h.cnt, h.rows⟩, ?_⟩
  unfold meas; omega
def settleF (x : TourV) (l : List Int) : List (List Int) := if tourB x = true ∧ ladB l = true ∧ (l.length : Int) = x.size then settleS x.wins (meas x.wins l 1) l 1 [] else []
theorem set_small : ∀ {rows : List (List Int)}, rows.length ≤ 64 → (∀ r ∈ rows, r.length = 3) → bulk rows ≤ 256 := by
  intro rows h1 h2
  have : ∀ rows : List (List Int), (∀ r ∈ rows, r.length = 3) → (rows.map List.length).sum = 3 * rows.length := by
    intro rows
    induction rows with
    | nil => intro _; rfl
    | cons r rows ih =>
      intro h
      rw [List.map_cons, List.sum_cons, ih (fun r hr => h r (List.mem_cons_of_mem _ hr)), h r (List.mem_cons_self ..), List.length_cons]; omega
  have := this rows h2
  unfold bulk; omega
theorem settleS_ok {x : TourV} (ht : tourB x = true) {l0 : List Int} : ∀ (f : Nat) {l : List Int} {k : Nat} {out : List (List Int)}, SetOk x l0 l k out → bulk (settleS x.wins f l k out) ≤ 256
  | 0, l, k, out, h => by
    have := h.cnt
    exact set_small (by simp only [settleS]; omega) h.rows
  | f + 1, l, k, out, h => by
    by_cases hk : k < l.length
    · obtain ⟨a, b, hb, ha, ha2, hb2, hne⟩ := set_at h hk
      cases hbt : bt x.wins b a
      · rw [settleS_on hk hb ha (by simpa [bi] using hbt)]
        exact settleS_ok ht f (set_on h hk).1
      · rw [settleS_go hk hb ha (by simpa [bi] using hbt)]
        exact settleS_ok ht f (set_go ht h hb ha ha2 hb2 hne hbt).1
    · rw [settleS_end (by omega)]
      have := h.cnt
      exact set_small (by omega) h.rows
theorem settleF_len (x : TourV) (l : List Int) : bulk (settleF x l) ≤ 256 := by
  unfold settleF
  split
  · rename_i h
    obtain ⟨h1, h2, h3⟩ := h
    obtain ⟨_, _, h4, _⟩ := tourB_t h1
    exact settleS_ok h1 (l0 := l) _ (setOk_start h2 (by omega))
  · simp [bulk]
end Go.Proofs.YtbipjmaeclgldaaDoor
