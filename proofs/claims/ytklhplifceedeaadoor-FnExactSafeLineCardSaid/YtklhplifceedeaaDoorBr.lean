/- Brackets: plain law. -/
import Derived.Test.YtklhplifceedeaaDoorTok
import Derived.Test.YtklhplifceedeaaDoorFz
namespace Go.Proofs.YtklhplifceedeaaDoor
open Go.ChangeShapes Go.WideShapes Go.ChangeAt Go.RowKit

def brSize (n : Nat) : Bool := n == 1 || n == 2 || n == 4 || n == 8
/-- An entry: none, or a player that stands nowhere ahead of it. -/
def entB (sz : Int) (l : List Int) (k : Nat) : Bool := inB (l.getD k 0) (-1) (sz - 1) && !(decide (0 ≤ l.getD k 0) && (l.take k).contains (l.getD k 0))
def entsTo (sz : Int) (l : List Int) (k : Nat) : Bool := (List.range k).all (entB sz l)
def someB (l : List Int) : Bool := l.any fun a => decide (0 ≤ a)
def brB (x : TourV) (l : List Int) : Bool := tourB x && (brSize l.length && (entsTo x.size l l.length && someB l))
theorem entsTo_snoc {sz : Int} {l : List Int} {k : Nat} : entsTo sz l (k + 1) = (entsTo sz l k && entB sz l k) := by
  simp [entsTo, List.range_succ, List.all_append]
theorem entsTo_at {sz : Int} {l : List Int} {k : Nat} (h : entsTo sz l k = true) {j : Nat} (hj : j < k) : entB sz l j = true :=
  List.all_eq_true.1 h j (List.mem_range.2 hj)
theorem entsTo_bad {sz : Int} {l : List Int} {k j : Nat} (hj : j < k) (h : entB sz l j = false) : entsTo sz l k = false := by
  cases e : entsTo sz l k
  · rfl
  · rw [entsTo_at e hj] at h; cases h
theorem brSize_le {n : Nat} (h : brSize n = true) : n = 1 ∨ n = 2 ∨ n = 4 ∨ n = 8 := by
  simp only [brSize, Bool.or_eq_true, beq_iff_eq] at h; omega
theorem brB_tour {x : TourV} {l : List Int} (h : tourB x = false) : brB x l = false := by simp [brB, h]
theorem brB_size {x : TourV} {l : List Int} (h : brSize l.length = false) : brB x l = false := by simp [brB, h]
theorem brB_ents {x : TourV} {l : List Int} (h : entsTo x.size l l.length = false) : brB x l = false := by simp [brB, h]
theorem brB_some {x : TourV} {l : List Int} (h : someB l = false) : brB x l = false := by simp [brB, h]
theorem brB_t {x : TourV} {l : List Int} (h : brB x l = true) : tourB x = true ∧ brSize l.length = true ∧ entsTo x.size l l.length = true ∧ someB l = true := by
  simp only [brB, Bool.and_eq_true] at h; exact ⟨h.1, h.2.1, h.2.2.1, h.2.2.2⟩
theorem brB_mk {x : TourV} {l : List Int} (h1 : tourB x = true) (h2 : brSize l.length = true) (h3 : entsTo x.size l l.length = true) (h4 : someB l = true) : brB x l = true := by simp [brB, h1, h2, h3, h4]
theorem ent_rng {sz : Int} {l : List Int} {k : Nat} (h : entB sz l k = true) : -1 ≤ l.getD k 0 ∧ l.getD k 0 ≤ sz - 1 := by
  simp only [entB, Bool.and_eq_true] at h; exact inB_t.1 h.1
theorem getD_of {l : List Int} {k : Nat} {a : Int} (h : l[k]? = some a) : l.getD k 0 = a := by rw [List.getD_eq_getElem?_getD, h]; rfl

/-- Who goes on. -/
def goesOn (W : List Int) (a b : Int) : Int := if a < 0 ∨ (0 ≤ b ∧ bt W b.toNat a.toNat = true) then b else a
def brNext (W : List Int) : List Int → List Int
  | a :: b :: r => goesOn W a b :: brNext W r
  | _ => []
def brNextTo (W : List Int) (l : List Int) : Nat → List Int
  | 0 => []
  | k + 1 => brNextTo W l k ++ [goesOn W (l.getD (2 * k) 0) (l.getD (2 * k + 1) 0)]
theorem brNextTo_length (W l : List Int) (k : Nat) : (brNextTo W l k).length = k := by
  induction k with
  | zero => rfl
  | succ k ih => simp [brNextTo, ih]
/-- All entries lie in the range of entries. -/
def rngB (n : Nat) (l : List Int) : Prop := ∀ a ∈ l, -1 ≤ a ∧ a < n
theorem rngB_at {n : Nat} {l : List Int} (h : rngB n l) {k : Nat} {a : Int} (hk : l[k]? = some a) : -1 ≤ a ∧ a < n := h a (List.mem_of_getElem? hk)
theorem goesOn_rng {n : Nat} {W : List Int} {a b : Int} (ha : -1 ≤ a ∧ a < n) (hb : -1 ≤ b ∧ b < n) : -1 ≤ goesOn W a b ∧ goesOn W a b < n := by
  unfold goesOn; split <;> assumption
theorem brNextTo_rng {n : Nat} {W l : List Int} (h : rngB n l) : ∀ k, 2 * k ≤ l.length → rngB n (brNextTo W l k) := by
  intro k
  induction k with
  | zero => intro _ a ha; simp [brNextTo] at ha
  | succ k ih =>
    intro hk a ha
    rw [brNextTo, List.mem_append, List.mem_singleton] at ha
    rcases ha with ha | rfl
    · exact ih (by omega) a ha
    · have h1 : l[2 * k]? = some l[2 * k] := List.getElem?_eq_getElem (by omega)
      have h2 : l[2 * k + 1]? = some l[2 * k + 1] := List.getElem?_eq_getElem (by omega)
      rw [getD_of h1, getD_of h2]
      exact goesOn_rng (rngB_at h h1) (rngB_at h h2)
theorem brB_rng {x : TourV} {l : List Int} {n : Nat} (h : brB x l = true) (hn : x.size = n) : rngB n l := by
  obtain ⟨_, _, h3, _⟩ := brB_t h
  intro a ha
  obtain ⟨k, hk, he⟩ := List.getElem_of_mem ha
  have h1 : l[k]? = some a := by rw [List.getElem?_eq_getElem hk, he]
  have h2 := ent_rng (entsTo_at h3 hk)
  rw [getD_of h1, hn] at h2
  omega
/-- The lists of the rounds, so many of them. -/
def roundsF (W : List Int) : Nat → List Int → List (List Int)
  | 0, l => [l]
  | f + 1, l => if l.length ≤ 1 then [l] else l :: roundsF W f (brNextTo W l (l.length / 2))
def pow2 (n : Nat) : Bool := n == 1 || n == 2 || n == 4 || n == 8
def brText (x : TourV) (l : List Int) : List UInt8 :=
  if brB x l then Lib.join ((roundsF x.wins 3 l).map fmtF) [32] else [110, 111, 110, 101]
theorem fmtF_len {xs : List Int} (h : wfI xs) (hl : xs.length ≤ 8) : (fmtF xs).length ≤ 200 := by
  unfold fmtF
  split
  · simp
  · have := fmt_bound h; omega
theorem rng_wf {n : Nat} {l : List Int} (h : rngB n l) (hn : n ≤ 8) : wfI l := fun a ha => by have := h a ha; omega

def seenF (l : List Int) : Nat → Nat
  | 0 => 0
  | k + 1 => if 0 ≤ l.getD k 0 then seenF l k + 2 ^ (l.getD k 0).toNat else seenF l k
theorem bit_add : ∀ s : Fin 256, ∀ a : Fin 8, s.val.testBit a.val = false → s.val + 2 ^ a.val < 256 ∧ ∀ b : Fin 8, (s.val + 2 ^ a.val).testBit b.val = (s.val.testBit b.val || a.val == b.val) := by decide +kernel
theorem seenF_bits {sz : Int} {l : List Int} (hsz : sz ≤ 8) : ∀ k, k ≤ l.length → entsTo sz l k = true → seenF l k < 256 ∧ ∀ b, b < 8 → (seenF l k).testBit b = (l.take k).contains (b : Int) := by
  intro k
  induction k with
  | zero => intro _ _; simp [seenF]
  | succ k ih =>
    intro hk h
    rw [entsTo_snoc, Bool.and_eq_true] at h
    obtain ⟨h1, h2⟩ := ih (by omega) h.1
    have hr := ent_rng h.2
    have hx : l[k]? = some l[k] := List.getElem?_eq_getElem (by omega)
    have hent := h.2
    unfold entB at hent
    rw [getD_of hx] at hr hent
    unfold seenF
    rw [getD_of hx, take_snoc hx]
    by_cases h0 : 0 ≤ l[k]
    · rw [if_pos h0]
      obtain ⟨a, ha⟩ := Int.eq_ofNat_of_zero_le h0
      rw [ha] at hr hent ⊢
      have ha8 : a < 8 := by omega
      have hnc : (l.take k).contains (a : Int) = false := by
        simp only [Bool.and_eq_true, Bool.not_eq_true', Bool.and_eq_false_iff, decide_eq_false_iff_not] at hent
        rcases hent.2 with h | h
        · omega
        · exact h
      have hb := bit_add ⟨seenF l k, h1⟩ ⟨a, ha8⟩ (by rw [h2 a ha8]; exact hnc)
      rw [Int.toNat_natCast]
      refine ⟨hb.1, fun b hb8 => ?_⟩
      have h3 := hb.2 ⟨b, hb8⟩
      rw [h3, h2 b hb8]
      simp only [List.contains_eq_any_beq, List.any_append, List.any_cons, List.any_nil, Bool.or_false]
      have h4 : (a == b) = ((b : Int) == (a : Int)) := by
        rw [Bool.eq_iff_iff, beq_iff_eq, beq_iff_eq]; omega
      rw [h4]
    · rw [if_neg h0]
      refine ⟨h1, fun b hb8 => ?_⟩
      rw [h2 b hb8]
      simp only [List.contains_eq_any_beq, List.any_append, List.any_cons, List.any_nil, Bool.or_false]
      have : ¬ (b : Int) = l[k] := by omega
      simp [this]
theorem seenF_pos {l : List Int} : ∀ k, k ≤ l.length → (0 < seenF l k ↔ ∃ j, j < k ∧ 0 ≤ l.getD j 0) := by
  intro k
  induction k with
  | zero => intro _; simp [seenF]
  | succ k ih =>
    intro hk
    unfold seenF
    by_cases h0 : 0 ≤ l.getD k 0
    · rw [if_pos h0]
      have : 0 < 2 ^ (l.getD k 0).toNat := Nat.two_pow_pos _
      exact ⟨fun _ => ⟨k, by omega, h0⟩, fun _ => by omega⟩
    · rw [if_neg h0, ih (by omega)]
      constructor
      · rintro ⟨j, hj, h⟩; exact ⟨j, by omega, h⟩
      · rintro ⟨j, hj, h⟩
        refine ⟨j, ?_, h⟩
        rcases Nat.eq_or_lt_of_le (Nat.le_of_lt_succ hj) with rfl | h'
        · exact absurd h h0
        · exact h'
theorem someB_seen {l : List Int} : someB l = decide (0 < seenF l l.length) := by
  rw [Bool.eq_iff_iff, decide_eq_true_eq, seenF_pos _ (Nat.le_refl _), someB, List.any_eq_true]
  constructor
  · rintro ⟨a, ha, h⟩
    obtain ⟨j, hj, he⟩ := List.getElem_of_mem ha
    refine ⟨j, hj, ?_⟩
    rw [getD_of (List.getElem?_eq_getElem hj), he]
    simpa using h
  · rintro ⟨j, hj, h⟩
    rw [getD_of (List.getElem?_eq_getElem hj)] at h
    exact ⟨l[j], List.getElem_mem hj, by simpa using h⟩

/-- The greatest of the first k + 1. -/
def maxTo (l : List Int) : Nat → Int
  | 0 => l.getD 0 0
  | k + 1 => if maxTo l k < l.getD (k + 1) 0 then l.getD (k + 1) 0 else maxTo l k
theorem maxTo_some {l : List Int} : ∀ k, (0 ≤ maxTo l k ↔ ∃ j, j ≤ k ∧ 0 ≤ l.getD j 0) := by
  intro k
  induction k with
  | zero =>
    constructor
    · intro h; exact ⟨0, Nat.le_refl _, h⟩
    · rintro ⟨j, hj, h⟩
      obtain rfl : j = 0 := by omega
      exact h
  | succ k ih =>
    unfold maxTo
    split
    · rename_i hlt
      constructor
      · intro h; exact ⟨k + 1, Nat.le_refl _, h⟩
      · rintro ⟨j, hj, h⟩
        rcases Nat.eq_or_lt_of_le hj with rfl | hj
        · exact h
        · have := ih.2 ⟨j, by omega, h⟩; omega
    · rename_i hlt
      constructor
      · intro h
        obtain ⟨j, hj, h⟩ := ih.1 h
        exact ⟨j, by omega, h⟩
      · rintro ⟨j, hj, h⟩
        rcases Nat.eq_or_lt_of_le hj with rfl | hj
        · omega
        · exact ih.2 ⟨j, by omega, h⟩
theorem someB_max {l : List Int} (h : 0 < l.length) : someB l = decide (0 ≤ maxTo l (l.length - 1)) := by
  rw [Bool.eq_iff_iff, decide_eq_true_eq, maxTo_some, someB, List.any_eq_true]
  constructor
  · rintro ⟨a, ha, h⟩
    obtain ⟨j, hj, he⟩ := List.getElem_of_mem ha
    refine ⟨j, by omega, ?_⟩
    rw [getD_of (List.getElem?_eq_getElem hj), he]
    simpa using h
  · rintro ⟨j, hj, h⟩
    have hj' : j < l.length := by omega
    rw [getD_of (List.getElem?_eq_getElem hj')] at h
    exact ⟨l[j], List.getElem_mem hj', by simpa using h⟩
/-- The implementation's order of tests. -/
def dupTo (l : List Int) (k : Nat) : Bool := (List.range k).all fun j => !(decide (0 ≤ l.getD j 0) && (l.take j).contains (l.getD j 0))
theorem dupTo_snoc {l : List Int} {k : Nat} : dupTo l (k + 1) = (dupTo l k && !(decide (0 ≤ l.getD k 0) && (l.take k).contains (l.getD k 0))) := by
  simp [dupTo, List.range_succ, List.all_append]
theorem ents_split {sz : Int} {l : List Int} : entsTo sz l l.length = (l.all (fun a => inB a (-1) (sz - 1)) && dupTo l l.length) := by
  rw [Bool.eq_iff_iff, Bool.and_eq_true]
  constructor
  · intro h
    refine ⟨List.all_eq_true.2 fun a ha => ?_, List.all_eq_true.2 fun j hj => ?_⟩
    · obtain ⟨j, hj, he⟩ := List.getElem_of_mem ha
      have h1 := entsTo_at h hj
      unfold entB at h1
      rw [Bool.and_eq_true, getD_of (List.getElem?_eq_getElem hj), he] at h1
      exact h1.1
    · have h1 := entsTo_at h (List.mem_range.1 hj)
      unfold entB at h1
      rw [Bool.and_eq_true] at h1
      exact h1.2
  · rintro ⟨h1, h2⟩
    refine List.all_eq_true.2 fun j hj => ?_
    have hj' := List.mem_range.1 hj
    unfold entB
    rw [Bool.and_eq_true]
    refine ⟨?_, List.all_eq_true.1 h2 j hj⟩
    rw [getD_of (List.getElem?_eq_getElem hj')]
    exact List.all_eq_true.1 h1 _ (List.getElem_mem hj')
theorem dupTo_bad {l : List Int} {k j : Nat} (hj : j < k) (h0 : 0 ≤ l.getD j 0) (h : (l.take j).contains (l.getD j 0) = true) : dupTo l k = false := by
  cases e : dupTo l k
  · rfl
  · have h1 := List.all_eq_true.1 e j (List.mem_range.2 hj)
    simp only [h, h0, decide_true, Bool.and_self, Bool.not_true] at h1
    cases h1

theorem roundsF_done {W : List Int} {f : Nat} {l : List Int} (h : l.length ≤ 1) : roundsF W f l = [l] := by
  cases f with
  | zero => rfl
  | succ f => rw [roundsF, if_pos h]
theorem roundsF_more {W : List Int} {f : Nat} {l : List Int} (h : 1 < l.length) : roundsF W (f + 1) l = l :: roundsF W f (brNextTo W l (l.length / 2)) := by
  rw [roundsF, if_neg (by omega)]
def lenV : Value → Nat
  | .slice _ n _ => n
  | _ => 0
/-- Where the loop over the rounds stands: the rounds behind it, the list at hand. -/
structure RdAt (W : List Int) (n : Nat) (l0 : List Int) (pre : List (List Int)) (f : Nat) (l : List Int) : Prop where
  eq : roundsF W 3 l0 = pre ++ roundsF W f l
  sz : brSize l.length = true
  le : l.length ≤ 2 ^ f
  ct : pre.length + f ≤ 3
  rg : rngB n l
  wd : ∀ p ∈ pre, (fmtF p).length ≤ 200
theorem RdAt.start {W : List Int} {n : Nat} {l0 : List Int} (h1 : brSize l0.length = true) (h2 : rngB n l0) : RdAt W n l0 [] 3 l0 :=
  ⟨rfl, h1, by have := brSize_le h1; omega, by simp, h2, by simp⟩
theorem RdAt.next {W : List Int} {n : Nat} {l0 l : List Int} {pre : List (List Int)} {f : Nat} (h : RdAt W n l0 pre f l) (hl : 1 < l.length) (hn : n ≤ 8) :
    ∃ g m, f = g + 1 ∧ l.length = 2 * m ∧ m = l.length / 2 ∧ 1 ≤ m ∧ m ≤ 4 ∧ RdAt W n l0 (pre ++ [l]) g (brNextTo W l m) := by
  have hs := brSize_le h.sz
  obtain ⟨g, rfl⟩ : ∃ g, f = g + 1 := ⟨f - 1, by have := h.le; cases f with
                                                    | zero => simp at this; omega
                                                    | succ f => rfl⟩
  have hp : 2 ^ (g + 1) = 2 * 2 ^ g := by rw [Nat.pow_succ]; omega
  have hle := h.le
  have hm : l.length = 2 * (l.length / 2) := by omega
  refine ⟨g, l.length / 2, rfl, hm, rfl, by omega, by omega, ?_⟩
  refine ⟨by rw [h.eq, roundsF_more hl]; simp, ?_, by rw [brNextTo_length]; omega, by have := h.ct; simp; omega, brNextTo_rng h.rg _ (by omega), ?_⟩
  · rw [brNextTo_length]
    rcases hs with h | h | h | h <;> rw [h] <;> first | rfl | omega
  · intro p hp
    rcases List.mem_append.1 hp with hp | hp
    · exact h.wd p hp
    · rw [List.mem_singleton.1 hp]
      exact fmtF_len (rng_wf h.rg hn) (by omega)
theorem RdAt.words {W : List Int} {n : Nat} {l0 l : List Int} {pre : List (List Int)} {f : Nat} (h : RdAt W n l0 pre f l) (hn : n ≤ 8) : ∀ p ∈ (pre ++ [l]).map fmtF, p.length ≤ 200 := by
  have hs := brSize_le h.sz
  intro p hp
  obtain ⟨q, hq, rfl⟩ := List.mem_map.1 hp
  rcases List.mem_append.1 hq with hq | hq
  · exact h.wd q hq
  · rw [List.mem_singleton.1 hq]
    exact fmtF_len (rng_wf h.rg hn) (by omega)
theorem RdAt.join_len {W : List Int} {n : Nat} {l0 l : List Int} {pre : List (List Int)} {f : Nat} (h : RdAt W n l0 pre f l) (hn : n ≤ 8) : (Lib.join ((pre ++ [l]).map fmtF) [32]).length ≤ 1000 := by
  have h1 := join_bound (ls := (pre ++ [l]).map fmtF) (b := 200) 32 (h.words hn)
  have h2 := h.ct
  simp only [List.length_map, List.length_append, List.length_singleton] at h1
  omega
theorem RdAt.fin {W : List Int} {n : Nat} {l0 l : List Int} {pre : List (List Int)} {f : Nat} (h : RdAt W n l0 pre f l) (hl : ¬ 1 < l.length) : (roundsF W 3 l0).map fmtF = (pre ++ [l]).map fmtF := by
  rw [h.eq, roundsF_done (by omega)]
end Go.Proofs.YtklhplifceedeaaDoor
