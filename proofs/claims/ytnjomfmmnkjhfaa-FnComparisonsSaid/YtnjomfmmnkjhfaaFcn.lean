/- Comparing orders: what the law FnComparisons asks. -/
import Derived.Test.YtnjomfmmnkjhfaaFcm
namespace Go.Proofs.Ytnjomfmmnkjhfaa
open Go.ChangeShapes Go.WideShapes Go.ChangeAt Go.RowKit

theorem visit_mem {n : Nat} : ∀ (t cur : List Int), (∀ x ∈ t, 0 ≤ x ∧ x < n) → t.Nodup → (∀ x ∈ t, x ∉ cur) → cur ++ t ∈ visit n t.length cur
  | [], cur, _, _, _ => by simp [visit]
  | x :: t, cur, h, hd, hc => by
    obtain ⟨hx, hd'⟩ := List.nodup_cons.1 hd
    rw [List.length_cons, visit, List.mem_flatMap]
    refine ⟨x, idxs_mem.2 (h x (List.mem_cons_self ..)), ?_⟩
    have hn : cur.contains x = false := by
      have := hc x (List.mem_cons_self ..)
      simpa using this
    rw [hn]
    have ih := visit_mem t (cur ++ [x]) (fun y hy => h y (List.mem_cons_of_mem _ hy)) hd' (fun y hy hm => by
      rcases List.mem_append.1 hm with hm | hm
      · exact hc y (List.mem_cons_of_mem _ hy) hm
      · have := List.mem_singleton.1 hm; subst this; exact hx hy)
    simpa using ih
theorem allO_mem {o : List Int} (h : ladB o = true) : o ∈ allO o.length := by
  obtain ⟨_, h1, h2⟩ := ladB_t h
  have := visit_mem (n := o.length) o [] h1 h2 (fun _ _ h => by simp at h)
  simpa [allO] using this
theorem lad_of_perm {l : List Int} {n : Nat} (h : l.Perm (upto n)) (h1 : 1 ≤ n) (h8 : n ≤ 8) : ladB l = true ∧ l.length = n := by
  have hl : l.length = n := by rw [h.length_eq, upto_length]
  exact ⟨ladB_mk (by omega) (by omega) (fun x hx => by have := mem_upto.1 (h.mem_iff.1 hx); omega) (h.nodup_iff.2 (upto_nodup n)), hl⟩
/-- A valid order of n numbers. -/
structure LadN (n : Nat) (a : List Int) : Prop where
  lad : ladB a = true
  len : a.length = n
theorem LadN.nd {n : Nat} {a : List Int} (h : LadN n a) : a.Nodup := (ladB_t h.lad).2.2
theorem LadN.perm {n : Nat} {a : List Int} (h : LadN n a) : a.Perm (upto n) := h.len ▸ ladB_perm h.lad
theorem LadN.perm2 {n : Nat} {a b : List Int} (h : LadN n a) (h2 : LadN n b) : a.Perm b := h.perm.trans h2.perm.symm
theorem LadN.bd {n : Nat} {a : List Int} (h : LadN n a) : 1 ≤ n ∧ n ≤ 8 := by have := (ladB_t h.lad).1; have := h.len; omega
theorem LadN.two {n : Nat} {a b : List Int} (h : LadN n a) (h2 : LadN n b) : twoB a b = true := twoB_mk h.lad h2.lad (h.len.trans h2.len.symm)
theorem ladN_of {n : Nat} {a : List Int} (h : a.Perm (upto n)) (h1 : 1 ≤ n) (h8 : n ≤ 8) : LadN n a := ⟨(lad_of_perm h h1 h8).1, (lad_of_perm h h1 h8).2⟩
theorem ladN_upto {n : Nat} (h1 : 1 ≤ n) (h8 : n ≤ 8) : LadN n (upto n) := ladN_of (List.Perm.refl _) h1 h8
theorem map_plc {n : Nat} {b : List Int} (hb : LadN n b) : b.map (plc b) = upto n := by
  apply List.ext_getElem?
  intro k
  by_cases hk : k < n
  · have hk' : k < b.length := by rw [hb.len]; exact hk
    rw [upto_get hk, List.getElem?_map, List.getElem?_eq_getElem hk']
    show some _ = _
    rw [plc_at hb.nd (List.getElem?_eq_getElem hk')]
  · rw [List.getElem?_eq_none (by rw [List.length_map, hb.len]; omega), List.getElem?_eq_none (by rw [upto_length]; omega)]
theorem LadN.q {n : Nat} {a b : List Int} (ha : LadN n a) (hb : LadN n b) : LadN n (qL a b) :=
  ladN_of (by rw [← map_plc hb]; exact (ha.perm2 hb).map _) ha.bd.1 ha.bd.2
theorem plc_q {n : Nat} {a b : List Int} (ha : LadN n a) (hb : LadN n b) {x : Int} (hx : x ∈ a) : plc (qL a b) (plc b x) = plc a x := by
  have h := plc_mem hx
  rw [plc_at (ha.q hb).nd (k := (plc a x).toNat) (by rw [qL, List.getElem?_map, h.2.2]; rfl)]
  omega
theorem q_inv {n : Nat} {a b : List Int} (ha : LadN n a) (hb : LadN n b) : qL b a = invL (qL a b) := by
  apply List.ext_getElem?
  intro k
  by_cases hk : k < n
  · have hk' : k < b.length := by rw [hb.len]; exact hk
    have hx := List.getElem?_eq_getElem hk'
    rw [invL_get (by rw [qL_length, ha.len]; exact hk), qL, List.getElem?_map, hx]
    show some _ = some _
    have h1 := plc_q ha hb ((ha.perm2 hb).mem_iff.2 (List.getElem_mem hk'))
    rw [plc_at hb.nd hx] at h1
    rw [h1]
  · rw [List.getElem?_eq_none (by rw [qL_length, hb.len]; omega), List.getElem?_eq_none (by rw [invL_length, qL_length, ha.len]; omega)]
theorem q_upto {n : Nat} {a b : List Int} (ha : LadN n a) (hb : LadN n b) : qL a b = upto n ↔ a = b := by
  constructor
  · intro h
    apply List.ext_getElem?
    intro k
    by_cases hk : k < n
    · have hk' : k < a.length := by rw [ha.len]; exact hk
      have hx := List.getElem?_eq_getElem hk'
      have h1 := congrArg (fun l : List Int => l[k]?) h
      simp only [qL, List.getElem?_map, hx, upto_get hk, Option.map_some] at h1
      injection h1 with h1
      have h2 := (plc_mem ((ha.perm2 hb).mem_iff.1 (List.getElem_mem hk'))).2.2
      rw [h1] at h2
      rw [hx, ← h2]; rfl
    · rw [List.getElem?_eq_none (by rw [ha.len]; omega), List.getElem?_eq_none (by rw [hb.len]; omega)]
  · rintro rfl; exact map_plc ha
theorem sumG_map {g : Int → Int} {f : Int → Int} {l : List Int} : sumG g (l.map f) = sumG (fun x => g (f x)) l := by
  simp [sumG, Function.comp_def]
theorem sumG_congr {g h : Int → Int} {l : List Int} (e : ∀ x ∈ l, g x = h x) : sumG g l = sumG h l := by
  unfold sumG; rw [List.map_congr_left e]
theorem foot_q {n : Nat} {a b : List Int} (ha : LadN n a) (hb : LadN n b) : footF a b = sumG (footG (qL a b) (upto n)) (upto n) := by
  rw [footF_eq (ha.two hb), ← sumG_perm (ha.q hb).perm]
  show _ = sumG _ (a.map (plc b))
  rw [sumG_map]
  refine sumG_congr fun x hx => ?_
  have h := plc_mem ((ha.perm2 hb).mem_iff.1 hx)
  have := hb.len
  unfold footG
  rw [plc_q ha hb hx, plc_upto h.1 (by omega)]
theorem foot_sym {n : Nat} {a b : List Int} (ha : LadN n a) (hb : LadN n b) : footF b a = footF a b := by
  unfold footF
  rw [if_pos (ha.two hb), if_pos (hb.two ha), ha.len, hb.len]
  refine sumG_congr fun x _ => ?_
  unfold footG; omega
theorem mem_of {n : Nat} {a b : List Int} (ha : LadN n a) (hb : LadN n b) : ∀ x ∈ a, x ∈ b := fun _ hx => (ha.perm2 hb).mem_iff.1 hx
theorem common_q {n : Nat} {a b : List Int} (ha : LadN n a) (hb : LadN n b) : commonF a b = mostU (qL a b) (upto n) n := by
  unfold commonF
  rw [if_pos (ha.two hb), ha.len, mostU_q hb.len (mem_of ha hb) n (by rw [ha.len]; exact Nat.le_refl _)]
theorem dist_q {n : Nat} {a b : List Int} (ha : LadN n a) (hb : LadN n b) : dist a b = dist (qL a b) (upto n) := dist_map hb.len (mem_of ha hb)
theorem moves_q {n : Nat} {a b : List Int} (ha : LadN n a) (hb : LadN n b) : movesF a b = (n : Int) - commonF a b := by
  unfold movesF commonF
  rw [if_pos (ha.two hb), if_pos (ha.two hb), ha.len]
structure FcmQ (n : Nat) (q : List Int) : Prop where
  f1 : ((dist q (upto n) : Nat) : Int) ≤ sumG (footG q (upto n)) (upto n)
  f2 : sumG (footG q (upto n)) (upto n) ≤ 2 * ((dist q (upto n) : Nat) : Int)
  l1 : 1 ≤ mostU q (upto n) n
  l2 : (n : Int) - mostU q (upto n) n ≤ ((dist q (upto n) : Nat) : Int)
  l3 : mostU q (upto n) n = (n : Int) ↔ q = upto n
  l4 : mostU (invL q) (upto n) n = mostU q (upto n) n
  d0 : dist q (upto n) = 0 ↔ q = upto n
  i0 : ladB (invL q) = true
  i1 : compL q (invL q) = upto n
  i2 : compL (invL q) q = upto n
  n1 : nextOk q = true → ladB (nextF q) = true ∧ beforeF q (nextF q) = true
  n2 : nextOk q = false → ((dist q (upto n) : Nat) : Int) = (n : Int) * ((n : Int) - 1) / 2
theorem fcmQ_of {n : Nat} {q : List Int} (h : LadN n q) (h6 : n ≤ 6) : FcmQ n q := by
  have hq := h.bd.1
  have hb := fcm_all ⟨n, by omega⟩ hq
  have hm := allO_mem h.lad
  rw [h.len] at hm
  have h1 := List.all_eq_true.1 hb q hm
  simp only [fcmB, Bool.and_eq_true, decide_eq_true_eq, beq_iff_eq] at h1
  obtain ⟨⟨a1, a2, a3, a4⟩, a5, a6, a7, a8, a9, a10, a11⟩ := h1
  refine ⟨a1, a2, a3, a4, ?_, a6, ?_, a8, a9, a10, fun hn => ?_, fun hn => ?_⟩
  · exact ⟨fun h => by rw [decide_eq_true h] at a5; exact beq_iff_eq.1 a5.symm, fun h => by rw [beq_iff_eq.2 h] at a5; exact of_decide_eq_true a5⟩
  · exact ⟨fun h => by rw [decide_eq_true h] at a7; exact beq_iff_eq.1 a7.symm, fun h => by rw [beq_iff_eq.2 h] at a7; exact of_decide_eq_true a7⟩
  · rw [hn, if_pos rfl] at a11; simpa using a11
  · rw [hn] at a11; simpa using a11
structure Fcm1 (n : Nat) (a b c : List Int) : Prop where
  f1 : ((dist a b : Nat) : Int) ≤ footF a b
  f2 : footF a b ≤ 2 * ((dist a b : Nat) : Int)
  f3 : footF b a = footF a b
  l1 : 1 ≤ commonF a b
  l2 : commonF a b + movesF a b = n
  m1 : movesF a b ≤ ((dist a b : Nat) : Int)
  m2 : movesF a b = 0 ↔ a = b
  l3 : commonF b a = commonF a b
  d1 : dist a b ≤ dist a c + dist c b
theorem fcm1_of {n : Nat} {a b c : List Int} (ha : LadN n a) (hb : LadN n b) (hc : LadN n c) (h6 : n ≤ 6) : Fcm1 n a b c := by
  have F := fcmQ_of (ha.q hb) h6
  refine ⟨?_, ?_, foot_sym ha hb, ?_, ?_, ?_, ?_, ?_, dist_tri ha.nd hc.nd (ha.perm2 hc)⟩
  · rw [dist_q ha hb, foot_q ha hb]; exact F.f1
  · rw [dist_q ha hb, foot_q ha hb]; exact F.f2
  · rw [common_q ha hb]; exact F.l1
  · rw [moves_q ha hb]; omega
  · rw [moves_q ha hb, common_q ha hb, dist_q ha hb]; exact F.l2
  · rw [moves_q ha hb, common_q ha hb, ← q_upto ha hb, ← F.l3]; omega
  · rw [common_q ha hb, common_q hb ha, q_inv ha hb]; exact F.l4
theorem dist_self {n : Nat} {a : List Int} (ha : LadN n a) (h6 : n ≤ 6) : dist a a = 0 := by
  rw [dist_q ha ha]; exact (fcmQ_of (ha.q ha) h6).d0.2 ((q_upto ha ha).2 rfl)
theorem dist_zero {n : Nat} {a b : List Int} (ha : LadN n a) (hb : LadN n b) (h6 : n ≤ 6) (h : dist a b = 0) : a = b := by
  rw [dist_q ha hb] at h
  exact (q_upto ha hb).1 ((fcmQ_of (ha.q hb) h6).d0.1 h)
theorem LadN.inv {n : Nat} {a : List Int} (ha : LadN n a) (h6 : n ≤ 6) : LadN n (invL a) := ⟨(fcmQ_of ha h6).i0, by rw [invL_length, ha.len]⟩
theorem inverse_eq {n : Nat} {a : List Int} (ha : LadN n a) : inverseF a = invL a := by unfold inverseF; rw [if_pos ha.lad]
theorem compose_eq {n : Nat} {a b : List Int} (ha : LadN n a) (hb : LadN n b) : composeF a b = compL a b := by unfold composeF; rw [if_pos (ha.two hb)]
theorem compL_upto {n : Nat} {c : List Int} (hc : c.length = n) : compL c (upto n) = c := by
  apply List.ext_getElem?
  intro k
  by_cases hk : k < n
  · rw [compL, List.getElem?_map, upto_get hk]
    simp [List.getD_eq_getElem?_getD, show k < c.length by omega]
  · rw [List.getElem?_eq_none (by rw [compL_length, upto_length]; omega), List.getElem?_eq_none (by omega)]
theorem LadN.comp {n : Nat} {c a : List Int} (hc : LadN n c) (ha : LadN n a) : LadN n (compL c a) := by
  refine ladN_of (List.Perm.trans (?_ : (compL c a).Perm c) hc.perm) hc.bd.1 hc.bd.2
  have h := ha.perm.map fun x => c.getD x.toNat 0
  have e := compL_upto hc.len
  unfold compL at e ⊢
  rw [e] at h; exact h
/-- Renamed alike, two orders keep their places. -/
theorem q_comp {n : Nat} {a b c : List Int} (ha : LadN n a) (hb : LadN n b) (hc : LadN n c) : qL (compL c a) (compL c b) = qL a b := by
  unfold qL
  conv => lhs; arg 2; unfold compL
  rw [List.map_map]
  refine List.map_congr_left fun x hx => ?_
  have hxb := mem_of ha hb x hx
  have h := plc_mem hxb
  show plc (compL c b) (c.getD x.toNat 0) = _
  rw [plc_at (hc.comp hb).nd (k := (plc b x).toNat) (by rw [compL, List.getElem?_map, h.2.2]; rfl)]
  omega
structure Fcm2 (n : Nat) (a b c : List Int) : Prop where
  inv : LadN n (inverseF a)
  x : composeF a (inverseF a) = upto n
  y : composeF (inverseF a) a = upto n
  u : LadN n (composeF c a)
  v : LadN n (composeF c b)
  d : dist (composeF c a) (composeF c b) = dist a b
  l : commonF (composeF c a) (composeF c b) = commonF a b
  bt : betF a c b = decide (((dist a b : Nat) : Int) = ((dist a c : Nat) : Int) + ((dist c b : Nat) : Int))
  b0 : betF a a b = true
theorem fcm2_of {n : Nat} {a b c : List Int} (ha : LadN n a) (hb : LadN n b) (hc : LadN n c) (h6 : n ≤ 6) : Fcm2 n a b c := by
  have F := fcmQ_of ha h6
  have hi := ha.inv h6
  rw [← inverse_eq ha] at hi
  refine ⟨hi, ?_, ?_, ?_, ?_, ?_, ?_, ?_, ?_⟩
  · rw [compose_eq ha hi, inverse_eq ha]; exact F.i1
  · rw [compose_eq hi ha, inverse_eq ha]; exact F.i2
  · rw [compose_eq hc ha]; exact hc.comp ha
  · rw [compose_eq hc hb]; exact hc.comp hb
  · rw [compose_eq hc ha, compose_eq hc hb, dist_q (hc.comp ha) (hc.comp hb), q_comp ha hb hc, ← dist_q ha hb]
  · rw [compose_eq hc ha, compose_eq hc hb, common_q (hc.comp ha) (hc.comp hb), q_comp ha hb hc, ← common_q ha hb]
  · unfold betF
    rw [ha.two hc, hc.two hb, Bool.true_and, Bool.true_and, Bool.beq_eq_decide_eq]
  · unfold betF
    rw [ha.two ha, ha.two hb, dist_self ha h6]; simp
/-- The counts of all distances, up to k. -/
def totF (n : Nat) : Nat → Int
  | 0 => 0
  | k + 1 => totF n k + countF n k
def factF : Nat → Int
  | 0 => 1
  | k + 1 => factF k * ((k + 1 : Nat) : Int)
theorem tot_all : ∀ n : Fin 7, 1 ≤ n.val → totF n.val 29 = factF n.val ∧ (∀ k : Fin 30, 0 ≤ totF n.val k.val ∧ totF n.val k.val ≤ 1000) ∧ ∀ k : Fin 29, 0 ≤ countF n.val k.val ∧ countF n.val k.val ≤ 1000 := by decide +kernel
theorem fact_all : ∀ n : Fin 7, 0 < factF n.val ∧ factF n.val ≤ 720 := by decide +kernel
theorem count61 : countF 6 1 = 5 := by decide +kernel
theorem midL_le {a b c : List Int} : ∀ {L : List (List Int)} {o : List Int}, o ∈ L → sum3 a b c (midL a b c L) ≤ sum3 a b c o := by
  have : ∀ (os : List (List Int)) (s : List Int), sum3 a b c (os.foldl (midS a b c) s) ≤ sum3 a b c s ∧ ∀ o ∈ os, sum3 a b c (os.foldl (midS a b c) s) ≤ sum3 a b c o := by
    intro os
    induction os with
    | nil => intro s; exact ⟨Int.le_refl _, fun o h => by simp at h⟩
    | cons x xs ih =>
      intro s
      rw [List.foldl_cons]
      obtain ⟨h1, h2⟩ := ih (midS a b c s x)
      have h3 : sum3 a b c (midS a b c s x) ≤ sum3 a b c s ∧ sum3 a b c (midS a b c s x) ≤ sum3 a b c x := by
        unfold midS; split <;> omega
      refine ⟨by omega, fun o ho => ?_⟩
      rcases List.mem_cons.1 ho with rfl | ho
      · omega
      · exact h2 o ho
  intro L o h
  cases L with
  | nil => simp at h
  | cons x xs =>
    rcases List.mem_cons.1 h with rfl | h
    · exact (this xs o).1
    · exact (this xs x).2 o h
theorem mid_eq {n : Nat} {a b c : List Int} (ha : LadN n a) (hb : LadN n b) (hc : LadN n c) (h5 : n ≤ 5) : midF a b c = midL a b c (allO n) := by
  unfold midF
  rw [ha.two hb, hb.two hc, ha.len, if_pos (by simp [h5])]
theorem mid_ok {n : Nat} {a b c : List Int} (ha : LadN n a) (hb : LadN n b) (hc : LadN n c) (h5 : n ≤ 5) : LadN n (midF a b c) := by
  rw [mid_eq ha hb hc h5]
  have C := chain_of ha.bd.1 h5
  obtain ⟨h1, h2⟩ := C.lad _ (midL_mem (a := a) (b := b) (c := c) (L := allO n) (by have := C.pos; intro e; rw [e] at this; simp at this))
  exact ⟨h1, h2⟩
theorem mid_le {n : Nat} {a b c o : List Int} (ha : LadN n a) (hb : LadN n b) (hc : LadN n c) (h5 : n ≤ 5) (ho : LadN n o) : sum3 a b c (midF a b c) ≤ sum3 a b c o := by
  rw [mid_eq ha hb hc h5]
  have hm := allO_mem ho.lad
  rw [ho.len] at hm
  exact midL_le hm
structure Fcm4 (n : Nat) (a b c : List Int) : Prop where
  ok : LadN n (midF a b c)
  s1 : sum3 a b c (midF a b c) ≤ ((dist a b : Nat) : Int) + ((dist a c : Nat) : Int)
  s2 : ((dist a b : Nat) : Int) + ((dist a c : Nat) : Int) + ((dist b c : Nat) : Int) ≤ 2 * sum3 a b c (midF a b c)
  aab : midF a a b = a
theorem fcm4_of {n : Nat} {a b c : List Int} (ha : LadN n a) (hb : LadN n b) (hc : LadN n c) (h5 : n ≤ 5) : Fcm4 n a b c := by
  have hm := mid_ok ha hb hc h5
  have h0 := dist_self ha (by omega)
  refine ⟨hm, ?_, ?_, ?_⟩
  · have := mid_le ha hb hc h5 ha
    have e : sum3 a b c a = ((dist a a : Nat) : Int) + ((dist a b : Nat) : Int) + ((dist a c : Nat) : Int) := rfl
    omega
  · generalize midF a b c = h at *
    have e : sum3 a b c h = ((dist h a : Nat) : Int) + ((dist h b : Nat) : Int) + ((dist h c : Nat) : Int) := rfl
    have t1 := dist_tri (b := b) ha.nd hm.nd (ha.perm2 hm)
    have t2 := dist_tri (b := c) ha.nd hm.nd (ha.perm2 hm)
    have t3 := dist_tri (b := c) hb.nd hm.nd (hb.perm2 hm)
    have s1 := dist_symm ha.nd hm.nd (ha.perm2 hm)
    have s2 := dist_symm hb.nd hm.nd (hb.perm2 hm)
    omega
  · have hk := mid_ok ha ha hb h5
    have hl := mid_le ha ha hb h5 ha
    generalize midF a a b = h at *
    have e1 : sum3 a a b h = ((dist h a : Nat) : Int) + ((dist h a : Nat) : Int) + ((dist h b : Nat) : Int) := rfl
    have e2 : sum3 a a b a = ((dist a a : Nat) : Int) + ((dist a a : Nat) : Int) + ((dist a b : Nat) : Int) := rfl
    have t1 := dist_tri (b := b) ha.nd hk.nd (ha.perm2 hk)
    have s1 := dist_symm ha.nd hk.nd (ha.perm2 hk)
    exact dist_zero hk ha (by omega) (by omega)
structure Fcm3 (n : Nat) (a : List Int) : Prop where
  n1 : nextOk a = true → ladB (nextF a) = true ∧ beforeF a (nextF a) = true
  n2 : nextOk a = false → ((dist a (upto n) : Nat) : Int) = (n : Int) * ((n : Int) - 1) / 2
theorem fcm3_of {n : Nat} {a : List Int} (ha : LadN n a) (h6 : n ≤ 6) : Fcm3 n a := ⟨(fcmQ_of ha h6).n1, (fcmQ_of ha h6).n2⟩
end Go.Proofs.Ytnjomfmmnkjhfaa
