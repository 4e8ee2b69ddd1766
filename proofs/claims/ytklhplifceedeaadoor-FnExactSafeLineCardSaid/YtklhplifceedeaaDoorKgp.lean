/- Kings, part tours, transitive sets, Banks' set: plain facts. -/
import Derived.Test.YtklhplifceedeaaDoorPrs
namespace Go.Proofs.YtklhplifceedeaaDoor
open Go.ChangeShapes Go.WideShapes Go.ChangeAt Go.RowKit

/-- Whom a player beats in at most two steps. -/
def nearF (x : TourV) (a : Nat) : Nat := (memL (winN x a)).foldl (fun (acc : Nat) (b : Int) => acc ||| winN x b.toNat) (2 ^ a ||| winN x a)
def kingB (x : TourV) (a : Nat) : Bool := decide (nearF x a = 2 ^ x.wins.length - 1)
def kgT (x : TourV) : Nat → Nat
  | 0 => 0
  | k + 1 => if kingB x k then kgT x k + 2 ^ k else kgT x k
/-- The set of the kings. -/
def kingsF (x : TourV) : Nat := kgT x x.wins.length
theorem kgT_lt (x : TourV) : ∀ k, kgT x k < 2 ^ k := by
  intro k
  induction k with
  | zero => exact Nat.one_pos
  | succ k ih =>
    rw [kgT, Nat.pow_succ]
    split <;> omega

/-- Those of the list l whom the player a beats, by their places. -/
def pwT (x : TourV) (l : List Int) (a : Nat) : Nat → Nat
  | 0 => 0
  | k + 1 => if bt x.wins a (l.getD k 0).toNat then pwT x l a k + 2 ^ k else pwT x l a k
theorem pwT_lt (x : TourV) (l : List Int) (a : Nat) : ∀ k, pwT x l a k < 2 ^ k := by
  intro k
  induction k with
  | zero => exact Nat.one_pos
  | succ k ih =>
    rw [pwT, Nat.pow_succ]
    split <;> omega
theorem pwT_bit (x : TourV) (l : List Int) (a : Nat) : ∀ k, k ≤ 8 → ∀ i, (pwT x l a k).testBit i = (decide (i < k) && bt x.wins a (l.getD i 0).toNat) := by
  intro k
  induction k with
  | zero => intro _ i; simp [pwT]
  | succ k ih =>
    intro hk i
    have h2 := pwT_lt x l a k
    have h256 : (2 : Nat) ^ k ≤ 256 := Nat.pow_le_pow_right (by omega) (show k ≤ 8 by omega)
    rw [pwT]
    split
    · next h =>
      have e := add_or ⟨k, by omega⟩ ⟨pwT x l a k, by omega⟩ h2
      simp only at e
      rw [e, Nat.testBit_or, ih (by omega), Nat.testBit_two_pow]
      rcases Nat.lt_trichotomy i k with h1 | h1 | h1
      · have hne : ¬ k = i := by omega
        simp [h1, hne, Nat.lt_succ_of_lt h1]
      · subst h1
        simp only [Nat.lt_irrefl, decide_false, Bool.false_and, decide_true, Bool.or_true, Nat.lt_succ_self, Bool.true_and, h]
      · have a1 : ¬ i < k := by omega
        have a2 : ¬ k = i := by omega
        have a3 : ¬ i < k + 1 := by omega
        simp [a1, a2, a3]
    · next h =>
      rw [ih (by omega)]
      rcases Nat.lt_trichotomy i k with h1 | h1 | h1
      · simp [h1, Nat.lt_succ_of_lt h1]
      · subst h1
        have h' : bt x.wins a (l.getD i 0).toNat = false := by
          cases h3 : bt x.wins a (l.getD i 0).toNat
          · rfl
          · exact absurd h3 h
        simp only [Nat.lt_irrefl, decide_false, h', Bool.and_false]
      · have a1 : ¬ i < k := by omega
        have a3 : ¬ i < k + 1 := by omega
        simp [a1, a3]
theorem bits_zero : ∀ s : Fin 256, (∀ a : Fin 8, s.val.testBit a.val = false) → s.val = 0 := by decide +kernel
def pwL (x : TourV) (l : List Int) : List Int := l.map (fun a => ((pwT x l a.toNat l.length : Nat) : Int))
/-- The tour of the players of a set. -/
def partV (x : TourV) (s : Nat) : TourV := ⟨((memL s).length : Int), pwL x (memL s)⟩
theorem pwL_len (x : TourV) (l : List Int) : (pwL x l).length = l.length := by simp [pwL]
theorem pwL_at {x : TourV} {l : List Int} {i : Nat} {a : Int} (h : l[i]? = some a) : (pwL x l)[i]? = some ((pwT x l a.toNat l.length : Nat) : Int) := by simp [pwL, h]
theorem pwL_take {x : TourV} {l : List Int} {i : Nat} {a : Int} (h : l[i]? = some a) : (pwL x l).take (i + 1) = (pwL x l).take i ++ [((pwT x l a.toNat l.length : Nat) : Int)] := take_snoc (pwL_at h)
theorem memT_lt {s : Nat} : ∀ (k i j : Nat) (a b : Int), i < j → (memT s k)[i]? = some a → (memT s k)[j]? = some b → a < b := by
  intro k
  induction k with
  | zero => intro i j a b _ h _; simp [memT] at h
  | succ k ih =>
    intro i j a b hij ha hb
    cases hk : s.testBit k
    · rw [memT_out hk] at ha hb
      exact ih i j a b hij ha hb
    · rw [memT_in hk] at ha hb
      rcases Nat.lt_or_ge j (memT s k).length with hj | hj
      · rw [List.getElem?_append_left hj] at hb
        rw [List.getElem?_append_left (by omega)] at ha
        exact ih i j a b hij ha hb
      · have hj2 := (List.getElem?_eq_some_iff.1 hb).1
        rw [List.length_append, List.length_singleton] at hj2
        obtain rfl : j = (memT s k).length := by omega
        rw [List.getElem?_append_right (Nat.le_refl _), Nat.sub_self] at hb
        rw [List.getElem?_append_left hij] at ha
        obtain ⟨c, rfl, hc, _⟩ := memT_mem.1 (List.mem_of_getElem? ha)
        have : (k : Int) = b := by simpa using hb
        omega
theorem part_bt {x : TourV} {s i j : Nat} {a b : Int} (ha : (memL s)[i]? = some a) (hb : (memL s)[j]? = some b) : bt (partV x s).wins i j = bt x.wins a.toNat b.toNat := by
  have hl : (memL s).length ≤ 8 := by rw [memL_len]; exact cntL_le _
  have hj := (List.getElem?_eq_some_iff.1 hb).1
  show ((pwL x (memL s)).getD i 0).toNat.testBit j = _
  rw [List.getD_eq_getElem?_getD, pwL_at ha, Option.getD_some, Int.toNat_natCast, pwT_bit x (memL s) a.toNat _ hl, decide_eq_true hj, Bool.true_and, List.getD_eq_getElem?_getD, hb]; rfl
theorem part_ok {x : TourV} (hok : tourB x = true) {s : Nat} (h0 : s ≠ 0) (hs : s < 2 ^ x.wins.length) : tourB (partV x s) = true := by
  obtain ⟨t1, t2, t3, _, _⟩ := tourB_t hok
  have hn8 : x.wins.length ≤ 8 := by omega
  have h256 : (2 : Nat) ^ x.wins.length ≤ 256 := Nat.pow_le_pow_right (by omega) hn8
  have hl : (memL s).length ≤ 8 := by rw [memL_len]; exact cntL_le _
  have hpos : 0 < (memL s).length := by
    rcases Nat.eq_zero_or_pos (memL s).length with h | h
    · exfalso
      apply h0
      refine bits_zero ⟨s, by omega⟩ (fun a => ?_)
      cases hb : s.testBit a.val
      · rfl
      · have hm : ((a.val : Nat) : Int) ∈ memL s := memT_mem.2 ⟨a.val, rfl, a.isLt, hb⟩
        have := List.length_pos_of_mem hm
        omega
    · exact h
  have hlen : (partV x s).wins.length = (memL s).length := pwL_len _ _
  have hwb : winsB (memL s).length (pwL x (memL s)) = true := by
    unfold winsB
    rw [List.all_eq_true]
    intro y hy
    simp only [pwL, List.mem_map] at hy
    obtain ⟨a, _, rfl⟩ := hy
    have h2 := pwT_lt x (memL s) a.toNat (memL s).length
    have h3 : (2 : Int) ^ (memL s).length = ((2 ^ (memL s).length : Nat) : Int) := by rw [Int.natCast_pow]; rfl
    rw [inB_t, h3]
    omega
  have hsz : inB (partV x s).size 1 8 = true := inB_t.2 ⟨by show (1 : Int) ≤ ((memL s).length : Int); omega, by show ((memL s).length : Int) ≤ 8; omega⟩
  have hle : ((partV x s).wins.length : Int) = (partV x s).size := by rw [hlen]; rfl
  rw [tourB_go hsz hle (by rw [hlen]; exact hwb)]
  refine rows_all (fun i hi => ?_)
  rw [hlen] at hi
  obtain ⟨a, ha⟩ : ∃ a, (memL s)[i]? = some a := ⟨_, List.getElem?_eq_getElem hi⟩
  obtain ⟨a, rfl, ha8, hab⟩ := memT_mem.1 (List.mem_of_getElem? ha)
  have han := bit_in hs hab
  refine rowB_all (fun j hj => ?_) ?_
  · obtain ⟨b, hb⟩ : ∃ b, (memL s)[j]? = some b := ⟨_, List.getElem?_eq_getElem (show j < (memL s).length by omega)⟩
    have hlt := memT_lt 8 j i b (a : Int) hj hb ha
    obtain ⟨b, rfl, hb8, hbb⟩ := memT_mem.1 (List.mem_of_getElem? hb)
    rw [part_bt ha hb, part_bt hb ha, Int.toNat_natCast, Int.toNat_natCast]
    exact tourB_anti hok han (bit_in hs hbb) (by omega)
  · rw [part_bt ha ha, Int.toNat_natCast]
    exact tourB_irr hok han

/-- Three players who beat each other round. -/
def Cyc (x : TourV) : Prop := ∃ a b c, a < x.wins.length ∧ b < x.wins.length ∧ c < x.wins.length ∧ bt x.wins a b = true ∧ bt x.wins b c = true ∧ bt x.wins c a = true
theorem len_sub {α : Type} [BEq α] [LawfulBEq α] : ∀ (l m : List α), l.Nodup → (∀ y ∈ l, y ∈ m) → l.length ≤ m.length := by
  intro l
  induction l with
  | nil => intro m _ _; simp
  | cons y l ih =>
    intro m hn hs
    rw [List.nodup_cons] at hn
    have hy := hs y (by simp)
    have h1 := ih (m.erase y) hn.2 (fun z hz => by
      have hne : z ≠ y := fun e => hn.1 (e ▸ hz)
      exact (List.mem_erase_of_ne hne).2 (hs z (by simp [hz])))
    have h2 := List.length_erase_of_mem hy
    have h3 := List.length_pos_of_mem hy
    rw [List.length_cons]
    omega
def clL (x : TourV) : List Nat := (List.range (2 ^ x.wins.length)).filter (clB x)
theorem clL_len {x : TourV} : (clL x).length = partN x := by
  have h3 : 0 < (2 : Nat) ^ x.wins.length := Nat.pow_pos (by omega)
  unfold clL partN clN
  rw [show 2 ^ x.wins.length - 1 + 1 = 2 ^ x.wins.length by omega]
theorem clL_nodup (x : TourV) : (clL x).Nodup := List.Pairwise.filter _ List.nodup_range
theorem clL_mem {x : TourV} (hok : tourB x = true) {s : Nat} : s ∈ clL x ↔ ∃ a, a < x.wins.length ∧ reachF x a = s := by
  obtain ⟨t1, t2, t3, _, _⟩ := tourB_t hok
  have h256 : (2 : Nat) ^ x.wins.length ≤ 256 := Nat.pow_le_pow_right (by omega) (show x.wins.length ≤ 8 by omega)
  unfold clL
  rw [List.mem_filter, List.mem_range]
  constructor
  · rintro ⟨h1, h2⟩
    obtain ⟨h3, h4⟩ := (clB_t (by omega)).1 h2
    obtain ⟨a, ha, _, h5⟩ := cl_top hok h1 h3 h4
    exact ⟨a, ha, h5⟩
  · rintro ⟨a, ha, rfl⟩
    obtain ⟨r1, r2, r3⟩ := reach_ok hok ha
    refine ⟨r3, (clB_t (by omega)).2 ⟨fun e => ?_, r1⟩⟩
    rw [e, Nat.zero_testBit] at r2; cases r2
theorem reach_same {x : TourV} (hok : tourB x = true) {a b : Nat} (ha : a < x.wins.length) (hb : b < x.wins.length) (hab : bt x.wins a b = true) (h : reachF x a = reachF x b) : Cyc x := by
  refine Classical.byContradiction fun hn => ?_
  obtain ⟨t1, t2, t3, _, _⟩ := tourB_t hok
  have hn8 : x.wins.length ≤ 8 := by omega
  have hlt : 2 ^ b < 2 ^ x.wins.length := Nat.pow_lt_pow_right (by omega) hb
  have hwb : (winN x b).testBit b = false := tourB_irr hok hb
  have hC : Cl x (2 ^ b ||| winN x b) := by
    intro c d hc hd
    rw [Nat.testBit_or, Bool.or_eq_true, Nat.testBit_two_pow] at hc ⊢
    rcases hc with hc | hc
    · simp only [decide_eq_true_eq] at hc
      subst hc
      exact .inr hd
    · have hcl : c < x.wins.length := bit_in (win_all hok b) hc
      have hdl : d < x.wins.length := bit_in (win_all hok c) hd
      by_cases hdb : b = d
      · exact .inl (decide_eq_true hdb)
      · refine .inr ?_
        have hanti := tourB_anti hok hb hdl hdb
        cases h1 : bt x.wins b d
        · rw [h1] at hanti
          cases h2 : bt x.wins d b
          · rw [h2] at hanti; exact absurd rfl hanti
          · exact absurd ⟨b, c, d, hb, hcl, hdl, hc, hd, h2⟩ hn
        · exact h1
  obtain ⟨r1, r2, r3⟩ := reach_ok hok ha
  have h1 := reach_le (a := b) hC (by rw [Nat.testBit_or, Nat.testBit_two_pow_self]; rfl)
  have h2 := h1 a (by rw [← h]; exact r2)
  rw [Nat.testBit_or, Bool.or_eq_true, Nat.testBit_two_pow] at h2
  have hne : a ≠ b := fun e => by subst e; rw [show bt x.wins a a = false from hwb] at hab; cases hab
  rcases h2 with h2 | h2
  · simp only [decide_eq_true_eq] at h2; omega
  · exact tourB_anti hok ha hb hne (by rw [hab]; exact h2.symm)
/-- As many strong parts as players: no three beat each other round. -/
theorem trans_iff {x : TourV} (hok : tourB x = true) : partN x = x.wins.length ↔ ¬ Cyc x := by
  constructor
  · rintro h ⟨a, b, c, ha, hb, hc, hab, hbc, hca⟩
    obtain ⟨ra, ra2, ra3⟩ := reach_ok hok ha
    obtain ⟨rb, rb2, rb3⟩ := reach_ok hok hb
    have e : reachF x a = reachF x b := by
      refine Sub.eq (reach_le rb ?_) (reach_le ra (ra a b ra2 hab))
      exact rb c a (rb b c rb2 hbc) hca
    have hne : a ≠ b := fun e => by subst e; rw [tourB_irr hok ha] at hab; cases hab
    have h1 := len_sub (clL x) (((List.range x.wins.length).erase b).map (reachF x)) (clL_nodup x) (fun s hs => by
      obtain ⟨d, hd, e2⟩ := (clL_mem hok).1 hs
      rw [List.mem_map]
      by_cases hdb : d = b
      · subst hdb
        exact ⟨a, (List.mem_erase_of_ne hne).2 (List.mem_range.2 ha), e.trans e2⟩
      · exact ⟨d, (List.mem_erase_of_ne hdb).2 (List.mem_range.2 hd), e2⟩)
    rw [clL_len, h, List.length_map, List.length_erase_of_mem (List.mem_range.2 hb), List.length_range] at h1
    omega
  · intro hn
    have hinj : ∀ a b, a < x.wins.length → b < x.wins.length → reachF x a = reachF x b → a = b := by
      intro a b ha hb h
      refine Classical.byContradiction fun hne => hn ?_
      have hanti := tourB_anti hok ha hb hne
      cases h1 : bt x.wins a b
      · rw [h1] at hanti
        cases h2 : bt x.wins b a
        · rw [h2] at hanti; exact absurd rfl hanti
        · exact reach_same hok hb ha h2 h.symm
      · exact reach_same hok ha hb h1 h
    have h1 : x.wins.length ≤ (clL x).length := by
      have h2 := len_sub ((List.range x.wins.length).map (reachF x)) (clL x) ?_ (fun s hs => by
        obtain ⟨a, ha, e⟩ := List.mem_map.1 hs
        exact (clL_mem hok).2 ⟨a, List.mem_range.1 ha, e⟩)
      · rwa [List.length_map, List.length_range] at h2
      · rw [List.nodup_iff_pairwise_ne, List.pairwise_map]
        refine List.Pairwise.imp_of_mem ?_ (List.nodup_iff_pairwise_ne.1 List.nodup_range)
        intro a b ha hb hab e
        exact hab (hinj a b (List.mem_range.1 ha) (List.mem_range.1 hb) e)
    have h3 := len_sub (clL x) ((List.range x.wins.length).map (reachF x)) (clL_nodup x) (fun s hs => by
      obtain ⟨d, hd, e2⟩ := (clL_mem hok).1 hs
      exact List.mem_map.2 ⟨d, List.mem_range.2 hd, e2⟩)
    rw [List.length_map, List.length_range] at h3
    rw [← clL_len]
    omega

def cycB (x : TourV) (a b c : Nat) : Bool := decide (a < b) && (decide (a < c) && (decide (c ≠ b) && (bt x.wins a b && (bt x.wins b c && bt x.wins c a))))
def triC (x : TourV) (a b k : Nat) : Bool := (List.range k).any (cycB x a b)
def triR (x : TourV) (a k : Nat) : Bool := (List.range k).any (fun b => triC x a b x.wins.length)
def triA (x : TourV) (k : Nat) : Bool := (List.range k).any (fun a => triR x a x.wins.length)
/-- Whether a valid tour has a triangle. -/
def triB (x : TourV) : Bool := triA x x.wins.length
theorem any_succ (f : Nat → Bool) (k : Nat) : (List.range (k + 1)).any f = ((List.range k).any f || f k) := by simp [List.range_succ]
theorem triC_succ (x : TourV) (a b k : Nat) : triC x a b (k + 1) = (triC x a b k || cycB x a b k) := any_succ _ _
theorem triR_succ (x : TourV) (a k : Nat) : triR x a (k + 1) = (triR x a k || triC x a k x.wins.length) := any_succ _ _
theorem triA_succ (x : TourV) (k : Nat) : triA x (k + 1) = (triA x k || triR x k x.wins.length) := any_succ _ _
theorem any_none {f : Nat → Bool} {k : Nat} (h : ∀ i, i < k → f i = false) : (List.range k).any f = false := by
  rw [List.any_eq_false]; intro i hi; rw [h i (List.mem_range.1 hi)]; decide
theorem triC_start (x : TourV) (a b : Nat) : triC x a b (a + 1) = false := any_none (fun i hi => by
  have : ¬ a < i := by omega
  simp [cycB, this])
theorem triR_start (x : TourV) (a : Nat) : triR x a (a + 1) = false := any_none (fun b hb => any_none (fun c _ => by
  have : ¬ a < b := by omega
  simp [cycB, this]))
theorem triB_iff {x : TourV} (hok : tourB x = true) : triB x = true ↔ Cyc x := by
  have hirr : ∀ a, a < x.wins.length → bt x.wins a a = false := fun a ha => tourB_irr hok ha
  have hk : ∀ a b c, a < x.wins.length → b < x.wins.length → c < x.wins.length → a < b → a < c → bt x.wins a b = true → bt x.wins b c = true → bt x.wins c a = true → triB x = true := by
    intro a b c ha hb hc h1 h2 h3 h4 h5
    have hcb : c ≠ b := fun e => by rw [e, hirr b hb] at h4; cases h4
    refine List.any_eq_true.2 ⟨a, List.mem_range.2 ha, List.any_eq_true.2 ⟨b, List.mem_range.2 hb, List.any_eq_true.2 ⟨c, List.mem_range.2 hc, ?_⟩⟩⟩
    simp [cycB, h1, h2, hcb, h3, h4, h5]
  constructor
  · intro h
    obtain ⟨a, ha, h⟩ := List.any_eq_true.1 h
    obtain ⟨b, hb, h⟩ := List.any_eq_true.1 h
    obtain ⟨c, hc, h⟩ := List.any_eq_true.1 h
    simp only [cycB, Bool.and_eq_true] at h
    exact ⟨a, b, c, List.mem_range.1 ha, List.mem_range.1 hb, List.mem_range.1 hc, h.2.2.2.1, h.2.2.2.2.1, h.2.2.2.2.2⟩
  · rintro ⟨a, b, c, ha, hb, hc, hab, hbc, hca⟩
    have n1 : a ≠ b := fun e => by rw [← e, hirr a ha] at hab; cases hab
    have n2 : b ≠ c := fun e => by rw [← e, hirr b hb] at hbc; cases hbc
    have n3 : c ≠ a := fun e => by rw [e, hirr a ha] at hca; cases hca
    rcases Nat.lt_trichotomy a b with h1 | h1 | h1
    · rcases Nat.lt_trichotomy a c with h2 | h2 | h2
      · exact hk a b c ha hb hc h1 h2 hab hbc hca
      · omega
      · exact hk c a b hc ha hb h2 (by omega) hca hab hbc
    · omega
    · rcases Nat.lt_trichotomy b c with h2 | h2 | h2
      · exact hk b c a hb hc ha h2 h1 hbc hca hab
      · omega
      · exact hk c a b hc ha hb (by omega) h2 hca hab hbc

/-- The players of the set s are ordered: none of them beat each other round. -/
def transN (x : TourV) (s : Nat) : Bool := decide (partN (partV x s) = (memL s).length)
theorem transN_tri {x : TourV} (hok : tourB x = true) {s : Nat} (h0 : s ≠ 0) (hs : s < 2 ^ x.wins.length) : transN x s = !triB (partV x s) := by
  have hp := part_ok hok h0 hs
  have h1 := trans_iff hp
  have h2 := triB_iff hp
  have hlen : (partV x s).wins.length = (memL s).length := pwL_len _ _
  rw [hlen] at h1
  unfold transN
  cases h : triB (partV x s)
  · rw [decide_eq_true (h1.2 (fun hc => by rw [h2.2 hc] at h; cases h))]; rfl
  · rw [decide_eq_false (fun e => h1.1 e (h2.1 h))]; rfl
def outN (x : TourV) (s a : Nat) : Nat := s &&& (255 ^^^ winN x a)
/-- Whether one of the first k players beats the whole set. -/
def covT (x : TourV) (s : Nat) : Nat → Bool
  | 0 => false
  | k + 1 => covT x s k || decide (outN x s k = 0)
/-- The top of the set among the first k players, as a set. -/
def topT (x : TourV) (s : Nat) : Nat → Nat
  | 0 => 0
  | k + 1 => if s.testBit k && decide (outN x s k = 2 ^ k) then 2 ^ k else topT x s k
theorem out_bit {x : TourV} {s a i : Nat} (hi : i < 8) : (outN x s a).testBit i = (s.testBit i && !(winN x a).testBit i) := by
  have h255 : ∀ i : Fin 8, (255 : Nat).testBit i.val = true := by decide
  rw [outN, Nat.testBit_and, Nat.testBit_xor, h255 ⟨i, hi⟩]; simp
theorem out_zero {x : TourV} {s a : Nat} (hs : s < 256) (hw : winN x a < 256) : decide (winN x a &&& s = s) = decide (outN x s a = 0) := by
  apply decide_eq_decide.2
  constructor
  · intro h
    apply Nat.eq_of_testBit_eq
    intro i
    rw [Nat.zero_testBit]
    rcases Nat.lt_or_ge i 8 with hi | hi
    · rw [out_bit hi]
      have h1 := congrArg (fun n => n.testBit i) h
      simp only [Nat.testBit_and] at h1
      cases h2 : s.testBit i
      · rfl
      · rw [h2] at h1
        simp at h1
        simp [h1]
    · rw [outN, Nat.testBit_and, bit_hi hs hi]; rfl
  · intro h
    apply Nat.eq_of_testBit_eq
    intro i
    rw [Nat.testBit_and]
    rcases Nat.lt_or_ge i 8 with hi | hi
    · have h1 := congrArg (fun n => n.testBit i) h
      simp only [out_bit hi, Nat.zero_testBit] at h1
      cases h2 : s.testBit i
      · simp
      · rw [h2] at h1
        simp at h1
        simp [h1]
    · rw [bit_hi hs hi]; simp
theorem topT_or (x : TourV) (s : Nat) : ∀ k, topT x s k = 0 ∨ ∃ a, a < k ∧ s.testBit a = true ∧ outN x s a = 2 ^ a ∧ topT x s k = 2 ^ a := by
  intro k
  induction k with
  | zero => exact .inl rfl
  | succ k ih =>
    rw [topT]
    split
    · next h =>
      rw [Bool.and_eq_true, decide_eq_true_eq] at h
      exact .inr ⟨k, Nat.lt_succ_self _, h.1, h.2, rfl⟩
    · rcases ih with h | ⟨a, h1, h2⟩
      · exact .inl h
      · exact .inr ⟨a, by omega, h2⟩
theorem topT_lt {x : TourV} {s n : Nat} (hs : s < 2 ^ n) (hn : n ≤ 8) (k : Nat) : topT x s k < 2 ^ n := by
  rcases topT_or x s k with h | ⟨a, _, h2, _, h4⟩
  · rw [h]; exact Nat.pow_pos (by omega)
  · rw [h4]
    refine Nat.pow_lt_pow_right (by omega) ?_
    rcases Nat.lt_or_ge a n with h | h
    · exact h
    · rw [Nat.testBit_lt_two_pow (Nat.lt_of_lt_of_le hs (Nat.pow_le_pow_right (by omega) h))] at h2; cases h2
theorem top_one {x : TourV} (hok : tourB x = true) {s a k : Nat} (hs : s < 2 ^ x.wins.length) (ha : s.testBit a = true) (hk : s.testBit k = true) (h1 : outN x s a = 2 ^ a) (h2 : outN x s k = 2 ^ k) : a = k := by
  refine Classical.byContradiction fun hne => ?_
  obtain ⟨t1, t2, t3, _, _⟩ := tourB_t hok
  have hal := bit_in hs ha
  have hkl := bit_in hs hk
  have e1 := congrArg (fun n => n.testBit k) h1
  have e2 := congrArg (fun n => n.testBit a) h2
  simp only [out_bit (show k < 8 by omega), out_bit (show a < 8 by omega), Nat.testBit_two_pow, ha, hk, Bool.true_and] at e1 e2
  have hne2 : ¬ k = a := fun e => hne e.symm
  rw [decide_eq_false hne] at e1
  rw [decide_eq_false hne2] at e2
  have b1 : bt x.wins a k = true := by
    show (winN x a).testBit k = true
    cases h : (winN x a).testBit k
    · rw [h] at e1; cases e1
    · rfl
  have b2 : bt x.wins k a = true := by
    show (winN x k).testBit a = true
    cases h : (winN x k).testBit a
    · rw [h] at e2; cases e2
    · rfl
  exact tourB_anti hok hal hkl hne (b1.trans b2.symm)
def tpM (x : TourV) (s : Nat) (l : List Int) (o : Nat) : Nat := l.foldl (fun (o : Nat) (a : Int) => if outN x s a.toNat = 2 ^ a.toNat then o ||| 2 ^ a.toNat else o) o
theorem tpM_snoc {x : TourV} {s j o : Nat} {l : List Int} {y : Int} (h : l[j]? = some y) : tpM x s (l.take (j + 1)) o = if outN x s y.toNat = 2 ^ y.toNat then tpM x s (l.take j) o ||| 2 ^ y.toNat else tpM x s (l.take j) o := by
  rw [take_snoc h, tpM, List.foldl_append]; rfl
theorem tpM_top {x : TourV} (hok : tourB x = true) {s : Nat} (hs : s < 2 ^ x.wins.length) (o : Nat) : ∀ k, tpM x s (memT s k) o = o ||| topT x s k := by
  intro k
  induction k with
  | zero => simp [memT_zero, tpM, topT]
  | succ k ih =>
    cases hk : s.testBit k
    · rw [memT_out hk, ih, topT, hk]; rfl
    · rw [memT_in hk, tpM, List.foldl_append]
      show (if outN x s (k : Int).toNat = 2 ^ (k : Int).toNat then tpM x s (memT s k) o ||| 2 ^ (k : Int).toNat else tpM x s (memT s k) o) = _
      rw [Int.toNat_natCast, ih, topT, hk]
      by_cases hc : outN x s k = 2 ^ k
      · rw [if_pos hc, decide_eq_true hc]
        rcases topT_or x s k with h | ⟨a, h1, h2, h3, h4⟩
        · rw [h]; simp
        · have := top_one hok hs h2 hk h3 hc
          omega
      · rw [if_neg hc, decide_eq_false hc]; rfl
theorem tpM_lt {x : TourV} {s n : Nat} {l : List Int} (hl : ∀ y ∈ l, y.toNat < n) : ∀ o, o < 2 ^ n → tpM x s l o < 2 ^ n := by
  induction l with
  | nil => intro o h; exact h
  | cons y l ih =>
    intro o h
    have h2 : 2 ^ y.toNat < 2 ^ n := Nat.pow_lt_pow_right (by omega) (hl y (by simp))
    refine ih (fun z hz => hl z (by simp [hz])) _ ?_
    show (if outN x s y.toNat = 2 ^ y.toNat then o ||| 2 ^ y.toNat else o) < 2 ^ n
    split
    · exact Nat.or_lt_two_pow h h2
    · exact h
/-- Banks' set out of the sets below s. -/
def bkT (x : TourV) : Nat → Nat
  | 0 => 0
  | s + 1 => if s ≠ 0 ∧ transN x s = true ∧ covT x s x.wins.length = false then bkT x s ||| topT x s x.wins.length else bkT x s
def banksF (x : TourV) : Nat := bkT x (2 ^ x.wins.length)
theorem bkT_lt {x : TourV} (hn : x.wins.length ≤ 8) : ∀ s, s ≤ 2 ^ x.wins.length → bkT x s < 2 ^ x.wins.length := by
  intro s
  induction s with
  | zero => intro _; exact Nat.pow_pos (by omega)
  | succ s ih =>
    intro hs
    rw [bkT]
    split
    · exact Nat.or_lt_two_pow (ih (by omega)) (topT_lt (by omega) hn _)
    · exact ih (by omega)
theorem any_cov {x : TourV} {s : Nat} (hs : s < 256) (hw : ∀ a, winN x a < 256) (p : Int → Bool) (hp : ∀ a, a < x.wins.length → p (winN x a : Nat) = decide (winN x a &&& s = s)) (h0 : ∀ a, a < x.wins.length → x.wins[a]? = some ((winN x a : Nat) : Int)) :
    ∀ k, k ≤ x.wins.length → (x.wins.take k).any p = covT x s k := by
  intro k
  induction k with
  | zero => intro _; simp [covT]
  | succ k ih =>
    intro hk
    rw [take_snoc (h0 k (by omega)), List.any_append, ih (by omega), covT, ← out_zero hs (hw k)]
    simp [hp k (by omega)]
theorem win_get {x : TourV} (hok : tourB x = true) {a : Nat} (ha : a < x.wins.length) : x.wins[a]? = some ((winN x a : Nat) : Int) := by
  obtain ⟨h1, h2, h3, h4, h5⟩ := tourB_t hok
  have hy : x.wins[a]? = some x.wins[a] := List.getElem?_eq_getElem ha
  have hin := inB_t.1 (List.all_eq_true.1 h4 _ (List.mem_of_getElem? hy))
  rw [hy, winN, List.getD_eq_getElem?_getD, hy, Option.getD_some, Int.toNat_of_nonneg hin.1]
end Go.Proofs.YtklhplifceedeaaDoor
