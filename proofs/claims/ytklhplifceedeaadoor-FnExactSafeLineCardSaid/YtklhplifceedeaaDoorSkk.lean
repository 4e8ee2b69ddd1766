/- The kernel of an odd tournament by elimination: the reference's (printed by print/skk.py). -/
import Derived.Test.YtklhplifceedeaaDoorSkr
import Derived.Test.YtklhplifceedeaaDoorCy
import Derived.Test.YtklhplifceedeaaDoorApa
import Derived.StillTailTactics
namespace Go.Proofs.YtklhplifceedeaaDoor
open Go.ChangeShapes Go.WideShapes Go.ChangeAt Go.RowKit

def leftRegK : Code → Option Nat
  | .region k _ _ => some k
  | .seq a _ => leftRegK a
  | _ => none
/-- The code that begins with region r. -/
def codeAtK (r : Nat) : Code → List Code
  | .seq a b => if leftRegK a = some r then [.seq a b] else codeAtK r a ++ codeAtK r b
  | .block _ c => codeAtK r c
  | .scope c => codeAtK r c
  | .cond _ a b => codeAtK r a ++ codeAtK r b
  | .loop c => codeAtK r c
  | _ => []

/-- The rows of the elimination, and the columns that have a pivot. -/
structure KerM (lo : Nat) (wr : World) (n g c : Nat) (av : Value) (R : List (List Int)) (ys0 : List Int) : Prop where
  top : ∃ vs : List Value, wr.ownsRow lo 22 1 (.slice (some ⟨g, 0, none⟩) n c) n vs ∧ ∀ (k : Nat) (u : Value) (xs : List Int), vs[k]? = some u → R[k]? = some xs → Fr wr lo wr.heap.size u xs ∧ ∀ b, u.ownBlock = some b → av.ownBlock ≠ some b
  rl : R.length = n
  atr : Fr wr lo wr.heap.size av ys0
theorem KerM.vsl {lo n g c : Nat} {wr : World} {vs : List Value} (h : wr.ownsRow lo 22 1 (.slice (some ⟨g, 0, none⟩) n c) n vs) : vs.length = n := by simpa using h.1
theorem KerM.grow {lo n g c : Nat} {wr W : World} {av : Value} {R : List (List Int)} {ys0 : List Int} (h : KerM lo wr n g c av R ys0) (hb : Below wr.heap.size wr W) : KerM lo W n g c av R ys0 := by
  obtain ⟨⟨vs, h1, h2⟩, h3, h4⟩ := h
  refine ⟨⟨vs, ownsRow_keep h1 (hi := wr.heap.size) (fun g hg => (h1.lt g hg).2) (Nat.le_refl _) (Keep.of_below (lo := wr.heap.size) (hi := wr.heap.size) hb (Nat.le_refl _)) (.inl (Nat.le_refl _)), fun k u xs a b => ?_⟩, h3, (h4.grow hb).wide (Nat.le_refl _) hb.size (Nat.le_refl _)⟩
  obtain ⟨q1, q2⟩ := h2 k u xs a b
  exact ⟨(q1.grow hb).wide (Nat.le_refl _) hb.size (Nat.le_refl _), q2⟩
theorem KerM.cap {lo n g c : Nat} {wr : World} {av : Value} {R : List (List Int)} {ys0 : List Int} (h : KerM lo wr n g c av R ys0) : n ≤ c ∧ c ≤ maxLen ∧ lo ≤ g ∧ g < wr.heap.size := by
  obtain ⟨⟨vs, h1, h2⟩, h3, h4⟩ := h
  have h5 := h1.lt g rfl
  rcases h1.2 with ⟨e, h0⟩ | ⟨g', cap, cur, e, _, hh, hc, hm, _⟩
  · cases e
  · injection e with e1 e2 e3
    subst e3
    exact ⟨hc, hm, h5.1, h5.2⟩
theorem ro_some {R : List (List Int)} {k : Nat} (h : k < R.length) : R[k]? = some (ro R k) := by
  unfold ro; rw [List.getD_eq_getElem?_getD, List.getElem?_eq_getElem h]; rfl
theorem fn_some {l : List Int} {k : Nat} (h : k < l.length) : l[k]? = some (fn l k) := by
  unfold fn; rw [List.getD_eq_getElem?_getD, List.getElem?_eq_getElem h]; rfl
/-- A row: where it lies, and what it holds. -/
theorem KerM.rd {lo n g c : Nat} {wr : World} {av : Value} {R : List (List Int)} {ys0 : List Int} (h : KerM lo wr n g c av R ys0) {k m : Nat} (hk : k < n) (hm : (ro R k).length = m) (hm0 : 0 < m) :
    ∃ b c1, m ≤ c1 ∧ c1 ≤ maxLen ∧ b < wr.heap.size ∧ wr.cell? ⟨g, k, none⟩ = some (.slice (some ⟨b, 0, none⟩) m c1) ∧ (∀ j, j < m → wr.cell? ⟨b, j, none⟩ = some (.int .i64 (fn (ro R k) j))) ∧ SlI wr (some ⟨b, 0, none⟩) (ro R k) := by
  obtain ⟨⟨vs, h1, h2⟩, h3, h4⟩ := h
  have hl := KerM.vsl h1
  have hu : vs[k]? = some vs[k] := List.getElem?_eq_getElem (by omega)
  obtain ⟨q1, _⟩ := h2 k _ _ hu (ro_some (by omega))
  obtain ⟨A, c1, e, hc1, hcm⟩ := q1.form
  rw [e] at q1
  obtain ⟨b, x, rfl, hb1, hb2, _⟩ := q1.at_ (k := 0) (by omega)
  refine ⟨b, c1, by omega, hcm, hb2, ?_, fun j hj => ?_, q1.sl⟩
  · rw [h1.cellAt k (by omega), hu, e, hm]
  · obtain ⟨b', x', e', _, _, hx, hc, _⟩ := q1.at_ (k := j) (by omega)
    injection e' with e'; injection e' with e'; subst e'
    rw [fn_some (by omega)] at hx; injection hx with hx; subst hx
    exact hc
/-- One row for another one: a row of its own made ahead of it. -/
theorem KerM.put {lo n g c c1 t : Nat} {wr W : World} {A1 : Option Addr} {av : Value} {R : List (List Int)} {ys0 xs : List Int} (h : KerM lo wr n g c av R ys0) (hlo : lo ≤ wr.heap.size) (hb : Below wr.heap.size wr W) (ht : t < n) (hf : Fr W wr.heap.size W.heap.size (.slice A1 xs.length c1) xs) :
    (∃ x, W.cell? ⟨g, t, none⟩ = some x) ∧ W.frozen? ⟨g, t, none⟩ = false ∧ KerM lo (W.setCell ⟨g, t, none⟩ (.slice A1 xs.length c1)) n g c av (R.set t xs) ys0 ∧ Keep lo wr.heap.size W (W.setCell ⟨g, t, none⟩ (.slice A1 xs.length c1)) := by
  have hcap := h.cap
  have havlt : ∀ b, av.ownBlock = some b → b < wr.heap.size := h.atr.2.1
  obtain ⟨⟨vs, h1, h2⟩, h3, h4⟩ := h.grow hb
  obtain ⟨hx, hfz, hst, hkp⟩ := own_at h1 ht (.slice A1 xs.length c1)
  have hgW : g < W.heap.size := Nat.lt_of_lt_of_le hcap.2.2.2 hb.size
  have hs := hkp.size
  have apart : ∀ (u : Value) (ys : List Int), Fr W lo W.heap.size u ys → Fr (W.setCell ⟨g, t, none⟩ (.slice A1 xs.length c1)) lo (W.setCell ⟨g, t, none⟩ (.slice A1 xs.length c1)).heap.size u ys := fun u ys hu =>
    (hu.apart hkp (fun k' hk' => by have hne := own_ne hu.1 h1 hk'; simp only [Value.ownBlock, ne_eq, Option.some.injEq] at hne; omega)).wide (Nat.le_refl _) hs (Nat.le_refl _)
  have hvl := KerM.vsl h1
  refine ⟨hx, hfz, ⟨⟨_, hst, fun k u ys a b => ?_⟩, by rw [List.length_set]; exact h3, apart _ _ h4⟩, hkp.wide hcap.2.2.1 hcap.2.2.2⟩
  rw [List.getElem?_set] at a b
  by_cases hk : t = k
  · subst hk
    rw [if_pos rfl, if_pos (by omega)] at a b
    injection a with a; injection b with b
    subst a; subst b
    refine ⟨apart _ _ (hf.wide hlo (Nat.le_refl _) (Nat.le_refl _)), fun b hb' hav => ?_⟩
    have := (hf.1.lt b hb').1
    have := havlt b hav
    omega
  · rw [if_neg hk] at a b
    obtain ⟨q1, q2⟩ := h2 k u ys a b
    exact ⟨apart _ _ q1, q2⟩
/-- Two rows exchanged. -/
theorem KerM.swap {lo n g c s t : Nat} {wr : World} {av : Value} {R : List (List Int)} {ys0 : List Int} {X Y : Value} (h : KerM lo wr n g c av R ys0) (hs : s < n) (ht : t < n) (hX : wr.cell? ⟨g, s, none⟩ = some X) (hY : wr.cell? ⟨g, t, none⟩ = some Y) :
    (∃ x, wr.cell? ⟨g, s, none⟩ = some x) ∧ wr.frozen? ⟨g, s, none⟩ = false ∧ (∃ x, (wr.setCell ⟨g, s, none⟩ Y).cell? ⟨g, t, none⟩ = some x) ∧ (wr.setCell ⟨g, s, none⟩ Y).frozen? ⟨g, t, none⟩ = false ∧
    KerM lo ((wr.setCell ⟨g, s, none⟩ Y).setCell ⟨g, t, none⟩ X) n g c av ((R.set s (ro R t)).set t (ro R s)) ys0 ∧ Keep lo wr.heap.size wr ((wr.setCell ⟨g, s, none⟩ Y).setCell ⟨g, t, none⟩ X) := by
  have hcap := h.cap
  obtain ⟨⟨vs, h1, h2⟩, h3, h4⟩ := h
  have hvl := KerM.vsl h1
  have e1 : vs[s]? = some X := by rw [← hX, h1.cellAt s (by omega)]
  have e2 : vs[t]? = some Y := by rw [← hY, h1.cellAt t (by omega)]
  obtain ⟨x1, f1, st1, k1⟩ := own_at h1 hs Y
  obtain ⟨x2, f2, st2, k2⟩ := own_at st1 ht X
  have KK := k1.trans k2
  have apart : ∀ (u : Value) (ys : List Int), Fr wr lo wr.heap.size u ys → Fr ((wr.setCell ⟨g, s, none⟩ Y).setCell ⟨g, t, none⟩ X) lo ((wr.setCell ⟨g, s, none⟩ Y).setCell ⟨g, t, none⟩ X).heap.size u ys := fun u ys hu =>
    (hu.apart KK (fun k' hk' => by have hne := own_ne hu.1 h1 hk'; simp only [Value.ownBlock, ne_eq, Option.some.injEq] at hne; omega)).wide (Nat.le_refl _) KK.size (Nat.le_refl _)
  refine ⟨x1, f1, x2, f2, ⟨⟨_, st2, fun k u ys a b => ?_⟩, by simp [h3], apart _ _ h4⟩, KK.wide hcap.2.2.1 hcap.2.2.2⟩
  rw [List.getElem?_set] at a b
  by_cases hk : t = k
  · subst hk
    rw [if_pos rfl, if_pos (by simp; omega)] at a b
    injection a with a; injection b with b
    subst a; subst b
    obtain ⟨q1, q2⟩ := h2 s _ _ e1 (ro_some (by omega))
    exact ⟨apart _ _ q1, q2⟩
  · rw [if_neg hk] at a b
    rw [List.getElem?_set] at a b
    by_cases hk2 : s = k
    · subst hk2
      rw [if_pos rfl, if_pos (by omega)] at a b
      injection a with a; injection b with b
      subst a; subst b
      obtain ⟨q1, q2⟩ := h2 t _ _ e2 (ro_some (by omega))
      exact ⟨apart _ _ q1, q2⟩
    · rw [if_neg hk2] at a b
      obtain ⟨q1, q2⟩ := h2 k u ys a b
      exact ⟨apart _ _ q1, q2⟩
/-- One more column. -/
theorem KerM.more {lo n g c : Nat} {wr w2 : World} {av av' : Value} {R : List (List Int)} {ys0 : List Int} {x : Int} (h : KerM lo wr n g c av R ys0) (hown : w2.ownsRow lo 3 1 av' (ys0.length + 1) (ints (ys0 ++ [x])))
    (hg : wr.grownBy w2 av.ownBlock) (hat : av'.ownBlock = av.ownBlock ∨ av'.ownBlock = some (wr.heap.size + 1)) : KerM lo w2 n g c av' R (ys0 ++ [x]) := by
  obtain ⟨⟨vs, h1, h2⟩, h3, h4⟩ := h
  have htop : ∀ b, av.ownBlock = some b → b ≠ g := fun b hb e => by subst e; exact own_ne h4.1 h1 hb rfl
  refine ⟨⟨vs, h1.kept hg (.inr fun e => htop _ e.symm rfl), fun k u xs a b => ?_⟩, h3, Fr.of_own (by rw [List.length_append]; exact hown)⟩
  obtain ⟨q1, q2⟩ := h2 k u xs a b
  refine ⟨(q1.grownBy hg fun g hw hb => q2 g hw hb).wide (Nat.le_refl _) hg.size (Nat.le_refl _), fun g hb hw => ?_⟩
  rcases hat with e | e
  · exact q2 g hb (e ▸ hw)
  · rw [e] at hw
    injection hw with hw
    have := q1.2.1 g hb
    omega

/-- All numbers up to i divided. -/
def dvI (d : Int) (R : List Int) (i : Nat) : List Int := (R.take i).map (fun x => x.tdiv d) ++ R.drop i
theorem dvI_zero (d : Int) (R : List Int) : dvI d R 0 = R := by simp [dvI]
theorem dvI_all (d : Int) (R : List Int) : dvI d R R.length = R.map fun x => x.tdiv d := by simp [dvI]
theorem dvI_length (d : Int) (R : List Int) (i : Nat) : (dvI d R i).length = R.length := by
  unfold dvI; rw [List.length_append, List.length_map, List.length_take, List.length_drop]; omega
theorem dvI_step {d : Int} {R : List Int} {i : Nat} {y : Int} (h : R[i]? = some y) : (dvI d R i)[i]? = some y ∧ dvI d R (i + 1) = (dvI d R i).set i (y.tdiv d) := by
  obtain ⟨hi, rfl⟩ := List.getElem?_eq_some_iff.1 h
  have hl : ((R.take i).map (fun x => x.tdiv d)).length = i := by rw [List.length_map, List.length_take]; omega
  have e1 : dvI d R i = (R.take i).map (fun x => x.tdiv d) ++ R[i] :: R.drop (i + 1) := by unfold dvI; rw [List.drop_eq_getElem_cons hi]
  have e2 : dvI d R (i + 1) = (R.take i).map (fun x => x.tdiv d) ++ R[i].tdiv d :: R.drop (i + 1) := by
    unfold dvI
    rw [take_snoc h, List.map_append, List.append_assoc]; rfl
  rw [e1, e2]
  constructor
  · rw [List.getElem?_append_right (by omega), hl, Nat.sub_self]; rfl
  · rw [List.set_append_right i _ (by omega), hl, Nat.sub_self]; rfl
/-- What is laid ahead of the last division, filled up to r. -/
def outI (n f : Nat) (R : List (List Int)) (s : Int) (r : Nat) : List Int := (List.range n).map fun i => if i < r ∨ i = f then outK n R s i else 0
theorem outI_length (n f : Nat) (R : List (List Int)) (s : Int) (r : Nat) : (outI n f R s r).length = n := by simp [outI]
theorem outI_get {n f : Nat} {R : List (List Int)} {s : Int} {r i : Nat} (h : i < n) : (outI n f R s r)[i]? = some (if i < r ∨ i = f then outK n R s i else 0) := by simp [outI, h]
theorem outI_start {n f : Nat} {R : List (List Int)} {s : Int} (hf : f + 1 = n) : (List.replicate n (0 : Int)).set f s = outI n f R s 0 := by
  apply List.ext_getElem? fun i => ?_
  by_cases hi : i < n
  · rw [outI_get hi, List.getElem?_set]
    by_cases e : f = i
    · subst e
      have : outK n R s f = s := by unfold outK; rw [if_pos (by omega)]
      simp [hi, this]
    · have e' : ¬ i = f := fun h => e h.symm
      simp [e, e', hi]
  · rw [List.getElem?_eq_none (by simp; omega), List.getElem?_eq_none (by rw [outI_length]; omega)]
theorem outI_step {n f : Nat} {R : List (List Int)} {s : Int} {r : Nat} (_hr : r < f) (hf : f + 1 = n) : (outI n f R s r).set r (outK n R s r) = outI n f R s (r + 1) := by
  apply List.ext_getElem? fun i => ?_
  by_cases hi : i < n
  · rw [List.getElem?_set, outI_get hi, outI_get hi]
    by_cases e : r = i
    · subst e
      simp [outI_length, hi]
    · rw [if_neg e]
      have : i < r + 1 ∨ i = f ↔ i < r ∨ i = f := by omega
      simp only [this]
  · rw [List.getElem?_eq_none (by simp [outI_length]; omega), List.getElem?_eq_none (by rw [outI_length]; omega)]
theorem outI_end {n f : Nat} {R : List (List Int)} {s : Int} (hf : f + 1 = n) {j : Nat} (hj : j < n) : fn (outI n f R s f) j = outK n R s j := by
  unfold fn
  rw [List.getD_eq_getElem?_getD, outI_get hj, if_pos (by omega)]; rfl
theorem outStart {W0 w2 : World} {n f : Nat} {R : List (List Int)} {s : Int} (hf : f + 1 = n) (hf2 : Fr w2 W0.heap.size w2.heap.size (.slice (some ⟨W0.heap.size, 0, none⟩) n n) (List.replicate n 0)) (hb2 : Below W0.heap.size W0 w2) :
    ∃ x, w2.cell? ⟨W0.heap.size, f, none⟩ = some (.int .i64 x) ∧ w2.frozen? ⟨W0.heap.size, f, none⟩ = false ∧
      Hid (Fr (w2.setCell ⟨W0.heap.size, f, none⟩ (.int .i64 s)) W0.heap.size (w2.setCell ⟨W0.heap.size, f, none⟩ (.int .i64 s)).heap.size (.slice (some ⟨W0.heap.size, 0, none⟩) n n) (outI n f R s 0) ∧ Below W0.heap.size W0 (w2.setCell ⟨W0.heap.size, f, none⟩ (.int .i64 s))) := by
  obtain ⟨g', x', e, hlo, hhi, hx', cO, fO, hset⟩ := hf2.at_ (k := f) (by simp; omega)
  injection e with e; injection e with e; subst e
  have h0 := hset s
  rw [outI_start hf] at h0
  exact ⟨x', cO, fO, h0.1.wide (Nat.le_refl _) h0.2.size (Nat.le_refl _), hb2.trans (h0.2.below (Nat.le_refl _) hb2.size)⟩
/-- What the reference's function answers. -/
def KerR (w : World) (e : Ending) (w' : World) (o : Option (List Int)) : Prop :=
  Below w.heap.size w w' ∧ match o with
    | none => e = .returned (.tuple #[.slice none 0 0, .bool false])
    | some q => ∃ v', e = .returned (.tuple #[v', .bool true]) ∧ Fr w' w.heap.size w'.heap.size v' q
noncomputable def kerEndC : Code := ((Tryd.f20.body.map (codeAtK 42)).getD []).getD 0 .skip
set_option maxHeartbeats 4000000 in
set_option maxRecDepth 100000 in
theorem kerEnd (w wo : World) (n f g c ca : Nat) (Aat : Option Addr) (E : Nat → Nat → Int) (R : List (List Int)) (ps : List Int) (hf : f + 1 = n) (hn7 : n ≤ 7) (HEL : Hid (ElimOk n E (fn ps) f R)) (HPS : Hid (ps.length = n)) (HODD : Hid (∀ j, j < n → fn ps j % 2 = 1)) (H15 : Hid (∀ j, j < n → (fn ps j).natAbs ≤ 15))
    (HM : Hid (KerM w.heap.size wo n g c (.slice Aat f ca) R (nI (List.range f)))) (HB : Hid (Below w.heap.size w wo)) (l0 l1 l2 l3 l4 l5 l8 l9 l10 l11 l12 l14 l16 l17 l18 l19 l20 l21 l22 l23 l24 l25 l26 l27 l28 l29 l30 l31 l32 l33 l34 l35 l36 l37 l38 l39 l40 l41 l42 l43 l44 l45 l46 l47 l48 l49 l50 l51 l52 l53 l54 l55 l56 l57 l58 l59 l60 l61 l62 l63 l64 l65 l66 l67 l68 l69 l70 l71 l72 l73 l74 l75 l76 l77 l78 l79 l80 l81 l82 l83 l84 l85 l86 l87 l88 l89 l90 l91 l92 l93 l94 l95 l96 l97 l98 l99 l100 l101 l102 l103 l104 l105 l106 l107 l108 l109 l110 l111 l112 l113 l114 l115 l116 l117 l118 l119 l120 l121 l122 l123 l124 l125 l126 l127 l128 l129 l130 l131 l132 l133 l134 l135 l136 l137 l138 l139 l140 l141 l142 l143 l144 l145 l146 l147 l148 l149 l150 l151 l152 l153 l154 l155 l156 l157 l158 l159 l160 l161 l162 l163 l164 l165 l166 l167 l168 l169 l170 l171 l172 l173 l174 l175 l176 l177 l178 l179 l180 l181 l182 l183 l184 l185 l186 l187 l188 l189 l190 l191 l192 l193 l194 l195 l196 l197 l198 l199 l200 l201 l202 l203 l204 l205 l206 l207 l208 l209 l210 l211 l212 l213 l214 l215 l216 l217 l218 l219 l220 l221 l222 l223 l224 l225 l226 l227 l228 l229 l230 l231 l232 l233 l234 l235 l236 l237 l238 l239 l240 l241 l242 l243 l244 l245 l246 l247 l248 : Value) :
    Code.wp Tryd.prog kerEndC (bodyPost Tryd.prog Tryd.f20 fun e w' => KerR w e w' (kerF ps)) ⟨(List.toArray (l0 :: l1 :: l2 :: l3 :: l4 :: l5 :: (.int .i64 (n : Int) : Value) :: (.slice (some ⟨g, 0, none⟩) n c : Value) :: l8 :: l9 :: l10 :: l11 :: l12 :: (.int .i64 (f : Int) : Value) :: l14 :: (.slice Aat f ca : Value) :: l16 :: l17 :: l18 :: l19 :: l20 :: l21 :: l22 :: l23 :: l24 :: l25 :: l26 :: l27 :: l28 :: l29 :: l30 :: l31 :: l32 :: l33 :: l34 :: l35 :: l36 :: l37 :: l38 :: l39 :: l40 :: l41 :: l42 :: l43 :: l44 :: l45 :: l46 :: l47 :: l48 :: l49 :: l50 :: l51 :: l52 :: l53 :: l54 :: l55 :: l56 :: l57 :: l58 :: l59 :: l60 :: l61 :: l62 :: l63 :: l64 :: l65 :: l66 :: l67 :: l68 :: l69 :: l70 :: l71 :: l72 :: l73 :: l74 :: l75 :: l76 :: l77 :: l78 :: l79 :: l80 :: l81 :: l82 :: l83 :: l84 :: l85 :: l86 :: l87 :: l88 :: l89 :: l90 :: l91 :: l92 :: l93 :: l94 :: l95 :: l96 :: l97 :: l98 :: l99 :: l100 :: l101 :: l102 :: l103 :: l104 :: l105 :: l106 :: l107 :: l108 :: l109 :: l110 :: l111 :: l112 :: l113 :: l114 :: l115 :: l116 :: l117 :: l118 :: l119 :: l120 :: l121 :: l122 :: l123 :: l124 :: l125 :: l126 :: l127 :: l128 :: l129 :: l130 :: l131 :: l132 :: l133 :: l134 :: l135 :: l136 :: l137 :: l138 :: l139 :: l140 :: l141 :: l142 :: l143 :: l144 :: l145 :: l146 :: l147 :: l148 :: l149 :: l150 :: l151 :: l152 :: l153 :: l154 :: l155 :: l156 :: l157 :: l158 :: l159 :: l160 :: l161 :: l162 :: l163 :: l164 :: l165 :: l166 :: l167 :: l168 :: l169 :: l170 :: l171 :: l172 :: l173 :: l174 :: l175 :: l176 :: l177 :: l178 :: l179 :: l180 :: l181 :: l182 :: l183 :: l184 :: l185 :: l186 :: l187 :: l188 :: l189 :: l190 :: l191 :: l192 :: l193 :: l194 :: l195 :: l196 :: l197 :: l198 :: l199 :: l200 :: l201 :: l202 :: l203 :: l204 :: l205 :: l206 :: l207 :: l208 :: l209 :: l210 :: l211 :: l212 :: l213 :: l214 :: l215 :: l216 :: l217 :: l218 :: l219 :: l220 :: l221 :: l222 :: l223 :: l224 :: l225 :: l226 :: l227 :: l228 :: l229 :: l230 :: l231 :: l232 :: l233 :: l234 :: l235 :: l236 :: l237 :: l238 :: l239 :: l240 :: l241 :: l242 :: l243 :: l244 :: l245 :: l246 :: l247 :: l248 :: [])), []⟩ wo := by
  conv => arg 2; whnf
  obtain ⟨d, HD⟩ : ∃ d : Nat → Nat, Hid (∀ r, d r = (fn (ro R r) r).natAbs) := ⟨fun r => (fn (ro R r) r).natAbs, fun _ => rfl⟩
  have HER : Hid (∀ r, r < f → fn (ro R r) r ≠ 0 ∧ (fn (ro R r) r).natAbs ≤ 15 ∧ (fn (ro R r) f).natAbs ≤ 15 ∧ (ro R r).length = n ∧ d r ≤ 15 ∧ 0 < d r) := fun r hr => by
    have hel := HEL.out
    rw [show f = n - 1 by omega] at hel
    obtain ⟨h1, h2, h3, _⟩ := end_rows hel HODD.out (r := r) (by omega)
    rw [show n - 1 = f by omega] at h2 h3
    have o1 := HODD.out f (by omega)
    have o2 := HODD.out r (by omega)
    have b1 := Nat.le_trans (Nat.le_of_dvd (by omega) h2) (H15.out f (by omega))
    exact ⟨h1, b1, Nat.le_trans (Nat.le_of_dvd (by omega) h3) (H15.out r (by omega)), HEL.out.rows r (by omega), by rw [HD.out]; exact b1, by rw [HD.out]; omega⟩
  have HSC : Hid (∀ r, r ≤ f → scaN d r ≤ 15 ∧ 0 < scaN d r ∧ ∀ i, i < r → d i ∣ scaN d r) := fun r hr => by
    have o1 := HODD.out f (by omega)
    obtain ⟨h1, h2, h3⟩ := scaN_ok (d := d) (P := (fn ps f).natAbs) (by omega) (r := r) fun i hi => by
      have hel := HEL.out
      rw [show f = n - 1 by omega] at hel
      have := (end_rows hel HODD.out (r := i) (by omega)).2.1
      rw [show n - 1 = f by omega] at this
      rw [HD.out]; exact this
    exact ⟨Nat.le_trans (Nat.le_of_dvd (by omega) h1) (H15.out f (by omega)), h2, h3⟩
  have hf0 : ¬ (f : Int) < 0 := by omega
  have hf1 : (0 : Int) ≤ (f : Int) := by omega
  have hfn : (f : Int) < (n : Int) := by omega
  obtain ⟨hcn, hcm, hgl, hgh⟩ := HM.out.cap
  unfold maxLen at hcm
  have hca : f ≤ ca ∧ ca ≤ 9223372036854775807 := by
    obtain ⟨A', c', e, h1, h2⟩ := HM.out.atr.form
    injection e with e1 e2 e3
    subst e3
    rw [nI_length, List.length_range] at h1
    exact ⟨h1, h2⟩
  go_wp2
  go_loopw [20, 153] (fun s i wr => ∃ r : Nat, r ≤ f ∧ i = .int .i64 (r : Int) ∧ s = .int .i64 (scaN d r : Nat) ∧ Hid (∃ k, wr = wo.drewN k)) (fun _ i _ => f - (intOf i).toNat)
  case atStart => exact ⟨0, Nat.zero_le _, rfl, rfl, 0, rfl⟩
  case round =>
    obtain ⟨r, hr, rfl, rfl, HK⟩ := hrel
    obtain ⟨k0, rfl⟩ := HK
    by_cases hlt : r < f
    case neg =>
      obtain rfl : f = r := by omega
      obtain ⟨hs15, hs0, hsd⟩ := HSC.out f (Nat.le_refl _)
      generalize scaN d f = S at *
      have HELn : ElimOk n E (fn ps) (n - 1) R := by rw [show n - 1 = f by omega]; exact HEL.out
      have HOJ : Hid (∀ j, j < n → outK n R S j * fn ps (n - 1) = S * fn ps j) := fun j hj => outK_ok HELn HODD.out (fun r hr => by have := hsd r (by omega); rw [HD.out] at this; exact this) hj
      have HOA : Hid (∀ j, j < n → (outK n R S j).natAbs ≤ 225) := fun j hj => by
        unfold outK
        split
        · omega
        · have h1 := (HER.out j (by omega)).2.2.1
          rw [show n - 1 = f by omega, Int.natAbs_tdiv, Int.natAbs_mul, Int.natAbs_neg]
          have h2 := Nat.mul_le_mul h1 (show (S : Int).natAbs ≤ 15 by omega)
          exact Nat.le_trans (Nat.div_le_self _ _) h2
      have HM0 : Hid (KerM w.heap.size (wo.drewN k0) n g c (.slice Aat f ca) R (nI (List.range f)) ∧ Below w.heap.size w (wo.drewN k0)) := ⟨HM.out.grow (below_of_drewN _ _ _), HB.out.trans (below_of_drewN _ _ _)⟩
      generalize wo.drewN k0 = W0 at *
      clear hsd HELn HM HB HSC HD hgl hgh
      go_wp2_with (at_make; refine makeI rfl _ _ rfl W0 n rfl rfl (by omega) ?_; intro w2 hf2 hb2 hsz2; obtain ⟨x', cO, fO, HX0⟩ := outStart (R := R) (s := (S : Int)) hf hf2 hb2; clear hf2 hb2 hsz2)
      go_loopw [194] (fun i wr => ∃ r : Nat, r ≤ f ∧ i = .int .i64 (r : Int) ∧ Hid (Fr wr W0.heap.size wr.heap.size (.slice (some ⟨W0.heap.size, 0, none⟩) n n) (outI n f R S r) ∧ Below W0.heap.size W0 wr)) (fun i _ => f - (intOf i).toNat)
      case atStart => exact ⟨0, Nat.zero_le _, rfl, HX0.out⟩
      case round =>
        obtain ⟨r, hr, rfl, HR⟩ := hrel
        by_cases hlt : r < f
        case neg =>
          obtain rfl : f = r := by omega
          have HKER := Lib.hid (ker_spec (ps := ps) (out := outI n f R S f) (s := S) (by omega) HPS.out (outI_length ..) HODD.out hs0 fun j hj => by rw [outI_end hf hj]; exact HOJ.out j hj)
          have HOL : Hid ((outI n f R S f).length = n) := outI_length ..
          have HOB : Hid (∀ x ∈ outI n f R S f, x.natAbs ≤ 225) := fun x hx => by
            obtain ⟨j, hj, rfl⟩ := mem_fn hx
            rw [outI_length] at hj
            rw [outI_end hf hj]
            exact HOA.out j hj
          have HW : Hid (Below w.heap.size w W0) := HM0.out.2
          obtain ⟨B0, HB0⟩ : ∃ B0, Hid (W0.heap.size = B0) := ⟨_, rfl⟩
          rw [HB0.out] at HR ⊢
          have HWR : Hid (Below w.heap.size w wr) := by have h := HR.out.2; rw [← HB0.out] at h; exact HW.out.trans (h.mono HW.out.size)
          have HFR : Hid (Fr wr B0 wr.heap.size (.slice (some ⟨B0, 0, none⟩) n n) (outI n f R S f)) := HR.out.1
          have HBW : Hid (w.heap.size ≤ B0) := by show _ ≤ _; rw [← HB0.out]; exact HW.out.size
          generalize outI n f R S f = O at *
          obtain ⟨wz, rfl⟩ : ∃ W, W = wr := ⟨wr, rfl⟩
          clear HR HOA HOJ HM0 HER HX0 hf0 hf1 hfn cO fO HEL HODD H15 HW HB0
          go_wp2
          go_loopw [26, 223] (fun g i wr => ∃ q : Nat, q ≤ n ∧ i = .int .i64 (q : Int) ∧ g = .int .i64 (gcdI O q : Nat) ∧ wr = wz ∧ Hid (∀ j, j < q → 0 < fn O j)) (fun _ i _ => n - (intOf i).toNat)
          case atStart => exact ⟨0, Nat.zero_le _, rfl, rfl, rfl, fun j hj => by omega⟩
          case round =>
            obtain ⟨q, hq, rfl, rfl, rfl, HP⟩ := hrel
            by_cases hlt2 : q < n
            case neg =>
              obtain rfl : n = q := by omega
              have hga : gcdI O n = gcdL O := by rw [← HOL.out]; exact gcdI_all O
              rw [hga]
              have hgp : 0 < gcdL O := by
                refine Nat.pos_of_ne_zero fun h0 => ?_
                have h1 := gcdL_zero.1 h0 _ (fn_mem (l := O) (j := 0) (by rw [HOL.out]; omega))
                have h2 := HP.out 0 (by omega)
                omega
              have HKS : Hid (kerF ps = some (lowL O)) := by show _ = _; rw [HKER.out, if_pos ((all_fn HOL.out).2 HP.out)]
              have HEND : Hid (dvI (gcdL O : Int) O n = lowL O) := by show _ = _; rw [← HOL.out]; exact dvI_all _ _
              have H00 : Hid (Fr wr B0 wr.heap.size (.slice (some ⟨B0, 0, none⟩) n n) (dvI (gcdL O : Int) O 0) ∧ Below w.heap.size w wr) := ⟨by rw [dvI_zero]; exact HFR.out, HWR.out⟩
              have HOE : Hid (∀ r, r < n → ∃ y, O[r]? = some y ∧ y.natAbs ≤ 225) := fun r hr => ⟨_, List.getElem?_eq_getElem (by rw [HOL.out]; exact hr), HOB.out _ (List.getElem_mem _)⟩
              have HDL : Hid (∀ r, (dvI (gcdL O : Int) O r).length = n) := fun r => (dvI_length _ _ _).trans HOL.out
              have HDS : Hid (∀ r y, O[r]? = some y → (dvI (gcdL O : Int) O r)[r]? = some y ∧ dvI (gcdL O : Int) O (r + 1) = (dvI (gcdL O : Int) O r).set r (y.tdiv (gcdL O : Int))) := fun r y h => dvI_step h
              generalize gcdL O = G at *
              have g2 : ¬ ((G : Int) = 0) := by omega
              have g3 : ((G : Int) == 0) = false := by simpa using g2
              clear hga hlt2 HP HWR HFR
              go_wp2
              go_loopw [29, 235] (fun _ i W => ∃ r : Nat, r ≤ n ∧ i = .int .i64 (r : Int) ∧ Hid (Fr W B0 W.heap.size (.slice (some ⟨B0, 0, none⟩) n n) (dvI (G : Int) O r) ∧ Below w.heap.size w W)) (fun _ i _ => n - (intOf i).toNat)
              case atStart => exact ⟨0, Nat.zero_le _, rfl, H00.out⟩
              case round =>
                obtain ⟨r, hr, rfl, HR⟩ := hrel
                obtain ⟨wo, rfl⟩ : ∃ W, W = wr := ⟨wr, rfl⟩
                by_cases hlt3 : r < n
                case neg =>
                  obtain rfl : n = r := by omega
                  have HF : Hid (Fr wo w.heap.size wo.heap.size (.slice (some ⟨B0, 0, none⟩) n n) (lowL O) ∧ Below w.heap.size w wo) := ⟨by rw [← HEND.out]; exact HR.out.1.wide HBW.out (Nat.le_refl _) (Nat.le_refl _), HR.out.2⟩
                  go_wp2
                  go_ret2
                  rw [HKS.out]
                  exact ⟨HF.out.2, _, rfl, HF.out.1⟩
                obtain ⟨y, hy, hyb⟩ := HOE.out r hlt3
                obtain ⟨e1, e2⟩ := HDS.out r y hy
                obtain ⟨g1, z, e, hlo, hhi, hz, cz, fz, hset⟩ := HR.out.1.at_ (k := r) (by rw [HDL.out]; exact hlt3)
                injection e with e; injection e with e; subst e
                obtain rfl : z = y := by rw [e1] at hz; injection hz with hz; exact hz.symm
                have HST := Lib.hid (hset (z.tdiv (G : Int)))
                have HE2 := Lib.hid e2
                have hzb : (z.tdiv (G : Int)).natAbs ≤ 225 := by rw [Int.natAbs_tdiv]; exact Nat.le_trans (Nat.div_le_self _ _) hyb
                clear hset hz hy e1 e2
                obtain ⟨Z, hZ⟩ : ∃ Z, z.tdiv (G : Int) = Z := ⟨_, rfl⟩
                rw [hZ] at HST HE2 hzb
                have w4 : IntKind.i64.wrap Z = Z := by rw [IntKind.wrap_i64]; omega
                have w5 : wrap64 Z = Z := by unfold wrap64; omega
                have H2 : Hid (Fr (wo.setCell ⟨B0, r, none⟩ (.int .i64 Z)) B0 (wo.setCell ⟨B0, r, none⟩ (.int .i64 Z)).heap.size (.slice (some ⟨B0, 0, none⟩) n n) (dvI (G : Int) O (r + 1)) ∧ Below w.heap.size w (wo.setCell ⟨B0, r, none⟩ (.int .i64 Z))) := by
                  have h1 := HST.out
                  rw [← HE2.out] at h1
                  exact ⟨h1.1.wide (Nat.le_refl _) h1.2.size (Nat.le_refl _), HR.out.2.trans (h1.2.below HBW.out HR.out.2.size)⟩
                go_wp2
                go_roundw
                case rel => exact ⟨r + 1, by omega, by go_num, H2.out⟩
                case measure => simp [intOf]; omega
            obtain ⟨g1, y, e, -, -, hy, cy, -, -⟩ := HFR.out.at_ (k := q) (by rw [HOL.out]; exact hlt2)
            injection e with e; injection e with e; subst e
            have hyf : Hid (fn O q = y) := by show _ = _; unfold fn; rw [List.getD_eq_getElem?_getD, hy]; rfl
            by_cases hy0 : y ≤ 0
            · have HKN : Hid (kerF ps = none) := by
                show _ = _
                rw [HKER.out, if_neg]
                intro h
                rw [all_fn HOL.out] at h
                have := h q hlt2
                rw [hyf.out] at this
                omega
              clear hy
              go_wp2
              go_ret2
              rw [HKN.out]
              exact ⟨HWR.out, rfl⟩
            · obtain ⟨Y, rfl⟩ : ∃ Y : Nat, y = (Y : Int) := ⟨y.toNat, by omega⟩
              have hY : Y ≤ 225 := by have := HOB.out _ (List.mem_of_getElem? hy); omega
              have HGN : Hid (gcdI O (q + 1) = Nat.gcd (gcdI O q) Y) := gcdI_succ hy
              have hg0 := gcdI_bd HOB.out q
              have HP2 : Hid (∀ j, j < q + 1 → 0 < fn O j) := fun j hj => by
                rcases Nat.lt_or_ge j q with h | h
                · exact HP.out j h
                · obtain rfl : j = q := by omega
                  rw [hyf.out]; omega
              have HGC : Hid (∀ V, Calls Tryd.prog 33 #[.int .i64 (gcdI O q : Nat), .int .i64 (Y : Nat)] V fun e w' => e = .returned (.int .i64 (Nat.gcd (gcdI O q) Y : Nat)) ∧ V = w') := fun V => l10Gcd_any _ _ V (by omega) (by omega)
              have hYp : 0 < Y := by omega
              have hYq : ¬ (Y : Int) ≤ 0 := by omega
              clear hy hy0
              go_wp2_with (go_at_call 33; refine (HGC.out _).mono ?_; rintro e w5 ⟨rfl, rfl⟩)
              go_roundw
              case rel => exact ⟨q + 1, by omega, by go_num, by rw [HGN.out], trivial, HP2.out⟩
              case measure => simp [intOf]; omega
        obtain ⟨hne, hx15, hf15, hrl, -, -⟩ := HER.out r hlt
        obtain ⟨b, c1, hc1, hcm1, -, hcr, hcj, -⟩ := (HM0.out.1.grow HR.out.2).rd (k := r) (by omega) hrl (by omega)
        unfold maxLen at hcm1
        have cj := hcj r (by omega)
        have cf := hcj f (by omega)
        obtain ⟨ba, oa, y, rfl, hy, cy, -⟩ := (HM0.out.1.grow HR.out.2).atr.sl.at_ (k := r) (by rw [nI_length, List.length_range]; exact hlt)
        rw [nI_at (by rw [List.length_range]; exact hlt)] at hy
        injection hy with hy
        rw [show (List.range f).getD r 0 = r by simp [hlt]] at hy
        subst hy
        obtain ⟨g', z, e, hlo, hhi, hz, cO, fO, hset⟩ := HR.out.1.at_ (k := r) (by rw [outI_length]; omega)
        injection e with e; injection e with e; subst e
        have HST := Lib.hid (hset (outK n R S r))
        have hON : outK n R S r = (-(fn (ro R r) f) * S).tdiv (fn (ro R r) r) := by unfold outK; rw [if_neg (by omega), show n - 1 = f by omega]
        have HNX := Lib.hid (outI_step (n := n) (f := f) (R := R) (s := (S : Int)) hlt hf)
        rw [HNX.out] at HST
        have hb225 := HOA.out r (by omega)
        clear hset hcj hz HX0
        rw [hON] at HST hb225
        generalize fn (ro R r) f = x at *
        generalize fn (ro R r) r = y at *
        have n1 : IntKind.i64.wrap (-x) = -x := by rw [IntKind.wrap_i64]; omega
        have hVb : (-x * (S : Int)).natAbs ≤ 225 := by
          rw [Int.natAbs_mul, Int.natAbs_neg]
          exact Nat.mul_le_mul hf15 (show (S : Int).natAbs ≤ 15 by omega)
        obtain ⟨V, hV⟩ : ∃ V, -x * (S : Int) = V := ⟨_, rfl⟩
        rw [hV] at HST hb225 hVb
        obtain ⟨T, hT⟩ : ∃ T, V.tdiv y = T := ⟨_, rfl⟩
        rw [hT] at HST hb225
        have n2 : IntKind.i64.wrap V = V := by rw [IntKind.wrap_i64]; omega
        have n3 : IntKind.i64.wrap T = T := by rw [IntKind.wrap_i64]; omega
        have g1 : (y == 0) = false := by simpa using hne
        have r0 : (r : Int) < (n : Int) := by omega
        have r1 : (r : Int) < (f : Int) := by omega
        have H2 : Hid (Fr (wr.drew.setCell ⟨W0.heap.size, r, none⟩ (.int .i64 T)) W0.heap.size (wr.drew.setCell ⟨W0.heap.size, r, none⟩ (.int .i64 T)).heap.size (.slice (some ⟨W0.heap.size, 0, none⟩) n n) (outI n f R S (r + 1)) ∧ Below W0.heap.size W0 (wr.drew.setCell ⟨W0.heap.size, r, none⟩ (.int .i64 T))) := by
          have h := HST.out
          exact ⟨(h.1.wide (Nat.le_refl _) h.2.size (Nat.le_refl _)).drewN 1, below_drewN (HR.out.2.trans (h.2.below (Nat.le_refl _) HR.out.2.size)) 1⟩
        have cO2 : wr.drew.cell? ⟨W0.heap.size, r, none⟩ = some (.int .i64 z) := cO
        have fO2 : wr.drew.frozen? ⟨W0.heap.size, r, none⟩ = false := fO
        clear hb225 hVb hON
        go_wp2
        refine wp_region_still_tail 21 (by kernel_rfl) (by kernel_rfl) ?_
        simp only [List.take_succ_cons, List.take_zero, List.drop_succ_cons, List.drop_zero]
        repeat still_step
        refine wpStill_nil ?_
        change wpList _ _ _ _ _ wr.drew
        clear cj cf cy cO fO hcr HR HST
        generalize wr.drew = w3 at *
        go_wp2
        go_roundw
        case rel => exact ⟨r + 1, by omega, by go_num, H2.out⟩
        case measure => simp [intOf]; omega
    obtain ⟨hne, hx15, -, hrl, hd15, hd0⟩ := HER.out r hlt
    obtain ⟨hs15, hs0, -⟩ := HSC.out r (by omega)
    have HSS : Hid (scaN d (r + 1) = scaN d r / Nat.gcd (scaN d r) (d r) * d r) := rfl
    have hs151 := (HSC.out (r + 1) (by omega)).1
    rw [HSS.out] at hs151
    obtain ⟨b, c1, hc1, hcm1, -, hcr, hcj, -⟩ := HM.out.rd (k := r) (by omega) hrl (by omega)
    unfold maxLen at hcm1
    have cj : (wo.drewN k0).cell? ⟨b, r, none⟩ = some (.int .i64 (fn (ro R r) r)) := hcj r (by omega)
    have cr : (wo.drewN k0).cell? ⟨g, r, none⟩ = some (.slice (some ⟨b, 0, none⟩) n c1) := hcr
    obtain ⟨ba, oa, y, rfl, hy, cy, -⟩ := (HM.out.atr.sl.drewN k0).at_ (k := r) (by rw [nI_length, List.length_range]; exact hlt)
    rw [nI_at (by rw [List.length_range]; exact hlt)] at hy
    injection hy with hy
    rw [show (List.range f).getD r 0 = r by simp [hlt]] at hy
    subst hy
    have hdr := HD.out r
    have HGC : Hid (∀ V, Calls Tryd.prog 33 #[.int .i64 (scaN d r : Nat), .int .i64 (d r : Nat)] V fun e w' => e = .returned (.int .i64 (Nat.gcd (scaN d r) (d r) : Nat)) ∧ V = w') := fun V => l10Gcd_any _ _ V (by omega) (by omega)
    have hgp : 0 < Nat.gcd (scaN d r) (d r) := Nat.gcd_pos_of_pos_left _ hs0
    generalize Nat.gcd (scaN d r) (d r) = G at *
    generalize hS : scaN d r = S at *
    generalize fn (ro R r) r = x at *
    generalize d r = M at *
    clear hcr hcj hgl hgh
    have HWK : Hid (∃ k, wo.drewN k0 = wo.drewN k) := ⟨k0, rfl⟩
    generalize wo.drewN k0 = W0 at *
    have r0 : (r : Int) < (n : Int) := by omega
    have r1 : (r : Int) < (f : Int) := by omega
    have hq1 : S / G ≤ 15 := Nat.le_trans (Nat.div_le_self _ _) hs15
    have g1 : ¬ ((G : Int) = 0) := by omega
    have g2 : ((G : Int) == 0) = false := by simpa using g1
    have f2 : Int.tdiv (S : Int) (G : Int) = ((S / G : Nat) : Int) := rfl
    have n1 : IntKind.i64.wrap (-x) = -x := by rw [IntKind.wrap_i64]; omega
    obtain ⟨Z, hZ⟩ : ∃ Z, S / G = Z := ⟨_, rfl⟩
    obtain ⟨P, hP⟩ : ∃ P : Nat, Z * M = P := ⟨_, rfl⟩
    have hPI : (Z : Int) * (M : Int) = (P : Int) := by rw [← hP, Int.natCast_mul]
    rw [hZ] at HSS hs151 hq1 f2
    rw [hP] at HSS hs151
    have HPI := Lib.hid hPI
    clear hZ hP hPI
    rcases (by omega : (0 < x ∧ x = (M : Int)) ∨ (x < 0 ∧ -x = (M : Int))) with ⟨hx0, hxM⟩ | ⟨hx0, hxM⟩
    · have HXM := Lib.hid hxM
      clear hxM hdr
      have m1 : ¬ x < -x := by omega
      have m2 : ¬ -x > x := by omega
      go_wp2
      go_quiet (fail)
      rw [HXM.out]
      clear m1 m2 n1 cj HXM hx0 hne hx15
      have HWK2 : Hid (∃ k, W0.drewN nq = wo.drewN k) := by obtain ⟨k, e⟩ := HWK.out; exact ⟨_, by rw [e]; exact World.drewN_drewN _ _ _⟩
      generalize W0.drewN nq = W1 at *
      have hPI := HPI.out
      go_wp2_with (go_at_call 33; refine (HGC.out _).mono ?_; rintro e w5 ⟨rfl, rfl⟩)
      go_roundw
      case rel => exact ⟨r + 1, by omega, by go_num, by rw [HSS.out], HWK2.out⟩
      case measure => simp [intOf]; omega
    · have HXM := Lib.hid hxM
      clear hxM hdr
      have m1 : x < -x := by omega
      have m2 : -x > x := by omega
      go_wp2
      go_quiet (fail)
      rw [HXM.out]
      clear m1 m2 n1 cj HXM hx0 hne hx15
      have HWK2 : Hid (∃ k, W0.drewN nq = wo.drewN k) := by obtain ⟨k, e⟩ := HWK.out; exact ⟨_, by rw [e]; exact World.drewN_drewN _ _ _⟩
      generalize W0.drewN nq = W1 at *
      have hPI := HPI.out
      go_wp2_with (go_at_call 33; refine (HGC.out _).mono ?_; rintro e w5 ⟨rfl, rfl⟩)
      go_roundw
      case rel => exact ⟨r + 1, by omega, by go_num, by rw [HSS.out], HWK2.out⟩
      case measure => simp [intOf]; omega

theorem KerM.of_ows {lo n g c : Nat} {wr : World} {R : List (List Int)} (h : OwS wr lo wr.heap.size (.slice (some ⟨g, 0, none⟩) n c) R) (hn : R.length = n) : KerM lo (wr.alloc (.cells #[] 3)) n g c (.slice (some ⟨wr.heap.size, 0, none⟩) 0 0) R (nI (List.range 0)) := by
  obtain ⟨vs, a, b, c1, d, e, f, _⟩ := h
  have hb := (Below.refl wr.heap.size wr).alloc (Nat.le_refl _) (.cells #[] 3)
  refine ⟨⟨vs, ?_, fun k u xs h1 h2 => ?_⟩, hn, ?_⟩
  · rw [hn] at b
    exact ownsRow_keep b (hi := wr.heap.size) (fun g hg => (b.lt g hg).2) (Nat.le_refl _) (Keep.of_below (lo := wr.heap.size) (hi := wr.heap.size) hb (Nat.le_refl _)) (.inl (Nat.le_refl _))
  · have h3 := f k u xs h1 h2
    refine ⟨(h3.grow hb).wide (Nat.le_refl _) hb.size (Nat.le_refl _), fun b h4 h5 => ?_⟩
    have := h3.2.1 b h4
    simp only [Value.ownBlock, Option.some.injEq] at h5
    omega
  · exact Fr.of_own (xs := []) (World.ownsRow_lit (base := lo) (e := 3) (size := 1) wr #[] 0 d (by unfold maxLen; omega) rfl)
theorem nI_range_succ (k : Nat) : nI (List.range (k + 1)) = nI (List.range k) ++ [(k : Int)] := by
  rw [List.range_succ]; simp [nI]
noncomputable def kerElimC : Code := ((Tryd.f20.body.map (codeAtK 18)).getD []).getD 0 .skip
set_option maxHeartbeats 4000000 in
set_option maxRecDepth 100000 in
theorem kerElim (w wo : World) (n f g c : Nat) (E : Nat → Nat → Int) (R0 : List (List Int)) (ps : List Int) (hf : f + 1 = n) (hn7 : n ≤ 7) (HEL : Hid (ElimOk n E (fn ps) 0 R0)) (HE0 : Hid (∀ r, r < n → E r r = 0)) (HE1 : Hid (∀ r c, r < n → c < n → c ≠ r → E r c % 2 = 1)) (HPS : Hid (ps.length = n)) (HODD : Hid (∀ j, j < n → fn ps j % 2 = 1)) (H15 : Hid (∀ j, j < n → (fn ps j).natAbs ≤ 15))
    (HO : Hid (OwS wo w.heap.size wo.heap.size (.slice (some ⟨g, 0, none⟩) n c) R0)) (HB : Hid (Below w.heap.size w wo)) (l0 l1 l2 l3 l4 l5 l8 l9 l10 l11 l12 l13 l14 l15 l16 l17 l18 l19 l20 l21 l22 l23 l24 l25 l26 l27 l28 l29 l30 l31 l32 l33 l34 l35 l36 l37 l38 l39 l40 l41 l42 l43 l44 l45 l46 l47 l48 l49 l50 l51 l52 l53 l54 l55 l56 l57 l58 l59 l60 l61 l62 l63 l64 l65 l66 l67 l68 l69 l70 l71 l72 l73 l74 l75 l76 l77 l78 l79 l80 l81 l82 l83 l84 l85 l86 l87 l88 l89 l90 l91 l92 l93 l94 l95 l96 l97 l98 l99 l100 l101 l102 l103 l104 l105 l106 l107 l108 l109 l110 l111 l112 l113 l114 l115 l116 l117 l118 l119 l120 l121 l122 l123 l124 l125 l126 l127 l128 l129 l130 l131 l132 l133 l134 l135 l136 l137 l138 l139 l140 l141 l142 l143 l144 l145 l146 l147 l148 l149 l150 l151 l152 l153 l154 l155 l156 l157 l158 l159 l160 l161 l162 l163 l164 l165 l166 l167 l168 l169 l170 l171 l172 l173 l174 l175 l176 l177 l178 l179 l180 l181 l182 l183 l184 l185 l186 l187 l188 l189 l190 l191 l192 l193 l194 l195 l196 l197 l198 l199 l200 l201 l202 l203 l204 l205 l206 l207 l208 l209 l210 l211 l212 l213 l214 l215 l216 l217 l218 l219 l220 l221 l222 l223 l224 l225 l226 l227 l228 l229 l230 l231 l232 l233 l234 l235 l236 l237 l238 l239 l240 l241 l242 l243 l244 l245 l246 l247 l248 : Value) :
    Code.wp Tryd.prog kerElimC (bodyPost Tryd.prog Tryd.f20 fun e w' => KerR w e w' (kerF ps)) ⟨(List.toArray (l0 :: l1 :: l2 :: l3 :: l4 :: l5 :: (.int .i64 (n : Int) : Value) :: (.slice (some ⟨g, 0, none⟩) n c : Value) :: l8 :: l9 :: l10 :: l11 :: l12 :: l13 :: l14 :: l15 :: l16 :: l17 :: l18 :: l19 :: l20 :: l21 :: l22 :: l23 :: l24 :: l25 :: l26 :: l27 :: l28 :: l29 :: l30 :: l31 :: l32 :: l33 :: l34 :: l35 :: l36 :: l37 :: l38 :: l39 :: l40 :: l41 :: l42 :: l43 :: l44 :: l45 :: l46 :: l47 :: l48 :: l49 :: l50 :: l51 :: l52 :: l53 :: l54 :: l55 :: l56 :: l57 :: l58 :: l59 :: l60 :: l61 :: l62 :: l63 :: l64 :: l65 :: l66 :: l67 :: l68 :: l69 :: l70 :: l71 :: l72 :: l73 :: l74 :: l75 :: l76 :: l77 :: l78 :: l79 :: l80 :: l81 :: l82 :: l83 :: l84 :: l85 :: l86 :: l87 :: l88 :: l89 :: l90 :: l91 :: l92 :: l93 :: l94 :: l95 :: l96 :: l97 :: l98 :: l99 :: l100 :: l101 :: l102 :: l103 :: l104 :: l105 :: l106 :: l107 :: l108 :: l109 :: l110 :: l111 :: l112 :: l113 :: l114 :: l115 :: l116 :: l117 :: l118 :: l119 :: l120 :: l121 :: l122 :: l123 :: l124 :: l125 :: l126 :: l127 :: l128 :: l129 :: l130 :: l131 :: l132 :: l133 :: l134 :: l135 :: l136 :: l137 :: l138 :: l139 :: l140 :: l141 :: l142 :: l143 :: l144 :: l145 :: l146 :: l147 :: l148 :: l149 :: l150 :: l151 :: l152 :: l153 :: l154 :: l155 :: l156 :: l157 :: l158 :: l159 :: l160 :: l161 :: l162 :: l163 :: l164 :: l165 :: l166 :: l167 :: l168 :: l169 :: l170 :: l171 :: l172 :: l173 :: l174 :: l175 :: l176 :: l177 :: l178 :: l179 :: l180 :: l181 :: l182 :: l183 :: l184 :: l185 :: l186 :: l187 :: l188 :: l189 :: l190 :: l191 :: l192 :: l193 :: l194 :: l195 :: l196 :: l197 :: l198 :: l199 :: l200 :: l201 :: l202 :: l203 :: l204 :: l205 :: l206 :: l207 :: l208 :: l209 :: l210 :: l211 :: l212 :: l213 :: l214 :: l215 :: l216 :: l217 :: l218 :: l219 :: l220 :: l221 :: l222 :: l223 :: l224 :: l225 :: l226 :: l227 :: l228 :: l229 :: l230 :: l231 :: l232 :: l233 :: l234 :: l235 :: l236 :: l237 :: l238 :: l239 :: l240 :: l241 :: l242 :: l243 :: l244 :: l245 :: l246 :: l247 :: l248 :: [])), []⟩ wo := by
  conv => arg 2; whnf
  have HM0 : Hid (KerM w.heap.size (wo.alloc (.cells #[] 3)) n g c (.slice (some ⟨wo.heap.size, 0, none⟩) 0 0) R0 (nI (List.range 0)) ∧ Below w.heap.size w (wo.alloc (.cells #[] 3))) := ⟨KerM.of_ows HO.out HEL.out.len, HB.out.alloc HB.out.size _⟩
  obtain ⟨hcn, hcm, -, -⟩ := HM0.out.1.cap
  unfold maxLen at hcm
  go_wp2
  rename_i hK1
  have HK1 := Lib.hid hK1
  clear hK1
  go_loopw [13, 14, 15, 16] (fun s13 s14 s15 s16 wr => ∃ (cc rk : Nat) (fr : Int) (av : Value) (R : List (List Int)), cc ≤ n ∧ rk ≤ f ∧ s16 = .int .i64 (cc : Int) ∧ s14 = .int .i64 (rk : Int) ∧ s13 = .int .i64 fr ∧ av = s15 ∧ Hid ((cc = rk ∧ fr = -1) ∨ (cc = n ∧ rk = f ∧ fr = (f : Int))) ∧ Hid (ElimOk n E (fn ps) rk R) ∧ Hid (KerM w.heap.size wr n g c av R (nI (List.range rk)) ∧ Below w.heap.size w wr)) (fun _ _ _ i _ => n - (intOf i).toNat)
  case atStart => exact ⟨0, 0, -1, _, R0, Nat.zero_le _, Nat.zero_le _, rfl, rfl, rfl, rfl, .inl ⟨rfl, rfl⟩, HEL.out, HM0.out⟩
  case round =>
    obtain ⟨cc, rk, fr, av, R, hcc, hrk, rfl, rfl, rfl, rfl, HC, HEL, HM⟩ := hrel
    clear HM0 HO HB
    obtain ⟨Aat, ca, rfl, -, -⟩ := HM.out.1.atr.form
    have HLN : Hid ((nI (List.range rk)).length = rk) := by show _ = _; rw [nI_length, List.length_range]
    rw [HLN.out] at HM ⊢
    by_cases hlt : cc < n
    case neg =>
      obtain ⟨rfl, rfl, rfl⟩ : cc = n ∧ rk = f ∧ fr = (f : Int) := by
        rcases HC.out with ⟨h1, h2⟩ | h
        · omega
        · exact h
      go_wp2
      refine HK1.out _ _ ?_
      exact kerEnd w wr cc rk g c ca Aat E R ps hf hn7 HEL HPS HODD H15 (Lib.hid HM.out.1) (Lib.hid HM.out.2) _ _ _ _ _ _ _ _ _ _ _ _ _ _ _ _ _ _ _ _ _ _ _ _ _ _ _ _ _ _ _ _ _ _ _ _ _ _ _ _ _ _ _ _ _ _ _ _ _ _ _ _ _ _ _ _ _ _ _ _ _ _ _ _ _ _ _ _ _ _ _ _ _ _ _ _ _ _ _ _ _ _ _ _ _ _ _ _ _ _ _ _ _ _ _ _ _ _ _ _ _ _ _ _ _ _ _ _ _ _ _ _ _ _ _ _ _ _ _ _ _ _ _ _ _ _ _ _ _ _ _ _ _ _ _ _ _ _ _ _ _ _ _ _ _ _ _ _ _ _ _ _ _ _ _ _ _ _ _ _ _ _ _ _ _ _ _ _ _ _ _ _ _ _ _ _ _ _ _ _ _ _ _ _ _ _ _ _ _ _ _ _ _ _ _ _ _ _ _ _ _ _ _ _ _ _ _ _ _ _ _ _ _ _ _ _ _ _ _ _ _ _ _ _ _ _ _ _ _ _ _ _ _ _ _ _ _ _ _ _ _ _ _ _ _
    obtain ⟨rfl, rfl⟩ : cc = rk ∧ fr = -1 := by
      rcases HC.out with h | ⟨h1, h2⟩
      · exact h
      · omega
    clear HC HLN
    have hca : cc ≤ ca ∧ ca ≤ 9223372036854775807 := by
      obtain ⟨A', c', e, h1, h2⟩ := HM.out.1.atr.form
      injection e with e1 e2 e3
      subst e3
      rw [nI_length, List.length_range] at h1
      exact ⟨h1, h2⟩
    obtain ⟨wz, rfl⟩ : ∃ W, W = wr := ⟨wr, rfl⟩
    have hrl := HEL.out.rows
    have HRL := Lib.hid hrl
    clear hrl
    go_wp2
    rename_i hK2
    have HK2 := Lib.hid hK2
    clear hK2
    go_loopw [17] (fun i W => ∃ p : Nat, cc ≤ p ∧ p ≤ n ∧ i = .int .i64 (p : Int) ∧ W = wz ∧ Hid (∀ j, cc ≤ j → j < p → fn (ro R j) cc = 0)) (fun i _ => n - (intOf i).toNat)
    case atStart => exact ⟨cc, Nat.le_refl _, by omega, rfl, rfl, fun j h1 h2 => by omega⟩
    case round =>
      obtain ⟨p, hp1, hp2, rfl, rfl, HZ⟩ := hrel
      by_cases hpn : p < n
      case neg =>
        obtain rfl : n = p := by omega
        obtain rfl : f = cc := by
          by_cases e : cc + 2 ≤ n
          · obtain ⟨p, h1, h2, h3⟩ := piv_exists HEL.out e HE0.out HE1.out
            exact absurd (HZ.out p h1 h2) h3
          · omega
        have hdp : decide ((n : Int) < (n : Int)) = false := by simp
        have hfn : (f : Int) < (n : Int) := by omega
        have hfi : (f : Int) + 1 = (n : Int) := by omega
        clear hpn
        go_wp2
        refine HK2.out _ _ ?_
        go_wp2
        go_roundw
        case rel => exact ⟨n, f, _, _, R, Nat.le_refl _, Nat.le_refl _, by rw [← hfi], rfl, rfl, rfl, .inr ⟨rfl, rfl, rfl⟩, HEL.out, HM.out⟩
        case measure => simp [intOf]; omega
      obtain ⟨b, c1, hc1, hcm1, -, hcr, hcj, -⟩ := HM.out.1.rd (k := p) hpn (HRL.out p hpn) (by omega)
      unfold maxLen at hcm1
      have cj := hcj cc hlt
      by_cases hz : fn (ro R p) cc = 0
      · have HZ2 : Hid (∀ j, cc ≤ j → j < p + 1 → fn (ro R j) cc = 0) := fun j h1 h2 => by
          rcases Nat.lt_or_ge j p with h | h
          · exact HZ.out j h1 h
          · obtain rfl : j = p := by omega
            exact hz
        rw [hz] at cj
        clear hz hcj
        go_wp2
        go_roundw
        case rel => exact ⟨p + 1, by omega, by omega, by go_num, trivial, HZ2.out⟩
        case measure => simp [intOf]; omega
      · have hcf : cc + 2 ≤ n := by
          by_cases e : cc + 2 ≤ n
          · exact e
          · exfalso
            obtain rfl : p = cc := by omega
            obtain rfl : f = p := by omega
            have hel := HEL.out
            have hl0 := last_zero (n := n) (by rw [show n - 1 = f by omega]; exact hel) (by omega) (HODD.out _ (by omega))
            rw [show n - 1 = f by omega] at hl0
            exact hz hl0
        obtain ⟨b2, c2, hc2, hcm2, -, hcr2, -, -⟩ := HM.out.1.rd (k := cc) (by omega) (HRL.out cc (by omega)) (by omega)
        have HMID := Lib.hid (swap_start HEL.out hcf hp1 hpn hz HODD.out H15.out)
        obtain ⟨⟨x1, cx1⟩, fx1, ⟨x2, cx2⟩, fx2, hsw, hkp⟩ := HM.out.1.swap hpn (show cc < n by omega) hcr hcr2
        have hcellc : ((wr.setCell ⟨g, p, none⟩ (.slice (some ⟨b2, 0, none⟩) n c2)).setCell ⟨g, cc, none⟩ (.slice (some ⟨b, 0, none⟩) n c1)).cell? ⟨g, cc, none⟩ = some (.slice (some ⟨b, 0, none⟩) n c1) := World.cell?_setCell_same _ _ _ cx2
        have HSW : Hid (KerM w.heap.size ((wr.setCell ⟨g, p, none⟩ (.slice (some ⟨b2, 0, none⟩) n c2)).setCell ⟨g, cc, none⟩ (.slice (some ⟨b, 0, none⟩) n c1)) n g c (.slice Aat cc ca) ((R.set p (ro R cc)).set cc (ro R p)) (nI (List.range cc)) ∧ Below w.heap.size w ((wr.setCell ⟨g, p, none⟩ (.slice (some ⟨b2, 0, none⟩) n c2)).setCell ⟨g, cc, none⟩ (.slice (some ⟨b, 0, none⟩) n c1)) ∧ ((wr.setCell ⟨g, p, none⟩ (.slice (some ⟨b2, 0, none⟩) n c2)).setCell ⟨g, cc, none⟩ (.slice (some ⟨b, 0, none⟩) n c1)).cell? ⟨g, cc, none⟩ = some (.slice (some ⟨b, 0, none⟩) n c1)) := ⟨hsw, HM.out.2.trans (hkp.below (Nat.le_refl _) HM.out.2.size), hcellc⟩
        have hfz : fn (ro R p) cc ≠ 0 := hz
        have hpi : (p : Int) < (n : Int) := by omega
        have hci : (cc : Int) < (n : Int) := by omega
        have hpne : ((p : Int) == (n : Int)) = false := by simp; omega
        generalize (R.set p (ro R cc)).set cc (ro R p) = R1 at *
        clear hsw hkp hcellc hcj
        have HCX := Lib.hid (And.intro cx2 fx2)
        generalize fn (ro R p) cc = y at *
        have hyb : (y == 0) = false := by simpa using hfz
        clear cx2 fx2 cx1
        go_wp2
        refine HK2.out _ _ ?_
        have hcx := HCX.out
        go_wp2
        rename_i hK3
        have HK3 := Lib.hid hK3
        clear hK3 hcx HCX fx1 hcr cj hcr2
        go_loopw [116] (fun i W => ∃ (t : Nat) (R' : List (List Int)), t ≤ n ∧ i = .int .i64 (t : Int) ∧ Hid (ElimMid n E (fn ps) cc t R') ∧ Hid (KerM w.heap.size W n g c (.slice Aat cc ca) R' (nI (List.range cc)) ∧ Below w.heap.size w W ∧ W.cell? ⟨g, cc, none⟩ = some (.slice (some ⟨b, 0, none⟩) n c1))) (fun i _ => n - (intOf i).toNat)
        case atStart => exact ⟨0, R1, Nat.zero_le _, rfl, HMID.out, HSW.out⟩
        case round =>
          obtain ⟨t, R', ht, rfl, HMD, HKM⟩ := hrel
          clear HMID HSW
          obtain ⟨wy, rfl⟩ : ∃ W, W = wr := ⟨wr, rfl⟩
          by_cases htn : t < n
          case neg =>
            obtain rfl : n = t := by omega
            have HEN := Lib.hid (mid_end HMD.out)
            have HL := Lib.hid (nI_range_succ cc)
            have HOW : Hid (wy.ownsRow w.heap.size 3 1 (.slice Aat cc ca) cc (ints (nI (List.range cc)))) := by
              have := HKM.out.1.atr.own
              rw [nI_length, List.length_range] at this
              exact this
            go_wp2
            refine HK3.out _ _ ?_
            go_wp2_with (at_builtin; refine app1At rfl _ _ rfl wy w.heap.size (.slice Aat cc ca) cc (nI (List.range cc)) rfl HOW.out (cc : Int) rfl (by omega) HKM.out.2.1.size ?_; intro v5 w5 hown5 hb5 _ hg5 hat5; have H5 : Hid (KerM w.heap.size w5 n g c v5 R' (nI (List.range (cc + 1))) ∧ Below w.heap.size w w5) := ⟨by rw [HL.out]; exact HKM.out.1.more (by rw [nI_length, List.length_range]; exact hown5) hg5 hat5, HKM.out.2.1.trans (hb5 _ (Nat.le_refl _) HKM.out.2.1.size)⟩; clear hown5 hb5 hg5 hat5)
            go_roundw
            case rel => exact ⟨cc + 1, cc + 1, _, _, R', by omega, by omega, by go_num, by go_num, rfl, rfl, .inl ⟨rfl, rfl⟩, HEN.out, H5.out⟩
            case measure => simp [intOf]; omega
          obtain ⟨bt, ct, hct, hctm, -, htr, htj, hts⟩ := HKM.out.1.rd (k := t) htn (HMD.out.rows t htn) (by omega)
          unfold maxLen at hctm
          have cj := htj cc hlt
          have hti : (t : Int) < (n : Int) := by omega
          by_cases htc : t = cc
          · have HM2 : Hid (ElimMid n E (fn ps) cc (t + 1) R') := mid_same HMD.out (.inl htc) htn
            have hne : ((t : Int) != (cc : Int)) = false := by simp; omega
            clear htc htj hts cj htr
            go_wp2
            go_roundw
            case rel => exact ⟨t + 1, R', by omega, by go_num, HM2.out, HKM.out⟩
            case measure => simp [intOf]; omega
          have hne : ((t : Int) != (cc : Int)) = true := by simp; omega
          by_cases hy0 : fn (ro R' t) cc = 0
          · have HM2 : Hid (ElimMid n E (fn ps) cc (t + 1) R') := mid_same HMD.out (.inr hy0) htn
            rw [hy0] at cj
            clear htc htj hts hy0
            go_wp2
            go_roundw
            case rel => exact ⟨t + 1, R', by omega, by go_num, HM2.out, HKM.out⟩
            case measure => simp [intOf]; omega
          have HM2 : Hid (ElimMid n E (fn ps) cc (t + 1) (R'.set t (redL (ro R' t) (ro R' cc) cc))) := mid_red HMD.out htc htn
          obtain ⟨b3, c3, hc3, hcm3, -, hcr3, -, hts3⟩ := HKM.out.1.rd (k := cc) (by omega) (HMD.out.rows cc (by omega)) (by omega)
          obtain ⟨rfl, rfl⟩ : b = b3 ∧ c1 = c3 := by
            have h := HKM.out.2.2
            rw [hcr3] at h
            injection h with h
            injection h with h1 h2 h3
            injection h1 with h1
            injection h1 with h1
            exact ⟨h1.symm, h3.symm⟩
          have HRD : Hid (Calls Tryd.prog 32 #[.slice (some ⟨bt, 0, none⟩) n ct, .slice (some ⟨b, 0, none⟩) n c1, .int .i64 (cc : Int)] wy fun e w' => ∃ v', e = .returned v' ∧ Fr w' wy.heap.size w'.heap.size v' (redL (ro R' t) (ro R' cc) cc) ∧ Below wy.heap.size wy w') :=
            l10Reduce_any _ _ _ _ _ _ n cc wy hts hts3 (HMD.out.rows t htn) (HMD.out.rows cc (by omega)) (by omega) (by omega) (fun i hi => mid_small HMD.out hn7 htn i hi)
          have HRLN : Hid ((redL (ro R' t) (ro R' cc) cc).length = n) := redL_length (HMD.out.rows t htn) (HMD.out.rows cc (by omega))
          have hyn : ((fn (ro R' t) cc : Int) != 0) = true := by simpa using hy0
          generalize redL (ro R' t) (ro R' cc) cc = Z at *
          generalize fn (ro R' t) cc = y2 at *
          clear htj hts hts3 hcr3
          go_wp2_with fail
          refine HRD.out.mono ?_
          rintro e w5 ⟨v5, rfl, hf5, hb5⟩
          obtain ⟨A5, c5, rfl, -, -⟩ := hf5.form
          obtain ⟨⟨x5, cx5⟩, fx5, hput, hkp5⟩ := HKM.out.1.put HKM.out.2.1.size hb5 htn hf5
          rw [HRLN.out] at *
          have hx6 := World.cell?_setCell_other w5 ⟨g, t, none⟩ ⟨g, cc, none⟩ (.slice A5 n c5) (by intro h; simp only [Addr.mk.injEq] at h; omega)
          have H6 : Hid (KerM w.heap.size (w5.setCell ⟨g, t, none⟩ (.slice A5 n c5)) n g c (.slice Aat cc ca) (R'.set t Z) (nI (List.range cc)) ∧ Below w.heap.size w (w5.setCell ⟨g, t, none⟩ (.slice A5 n c5)) ∧ (w5.setCell ⟨g, t, none⟩ (.slice A5 n c5)).cell? ⟨g, cc, none⟩ = some (.slice (some ⟨b, 0, none⟩) n c1)) :=
            ⟨hput, (HKM.out.2.1.trans (hb5.mono HKM.out.2.1.size)).trans (hkp5.below (Nat.le_refl _) (Nat.le_trans HKM.out.2.1.size hb5.size)), hx6.trans ((hb5.cell (p := ⟨g, cc, none⟩) (block_lt_of_cell HKM.out.2.2)).trans HKM.out.2.2)⟩
          clear hput hkp5 hx6 hf5 hb5 htr
          go_wp2
          go_roundw
          case rel => exact ⟨t + 1, _, by omega, by go_num, HM2.out, H6.out⟩
          case measure => simp [intOf]; omega

theorem KerM.rows_ok {M : Nat → Nat → Int} {l : List Nat} {j : Nat} (hj : j < l.length) : (l.map fun b => l.map fun a => M a b).take (j + 1) = (l.map fun b => l.map fun a => M a b).take j ++ [l.map fun a => M a (l.getD j 0)] := by
  refine take_snoc ?_
  rw [List.getElem?_map, List.getD_eq_getElem?_getD, List.getElem?_eq_getElem hj]; rfl
theorem ows_start (w : World) : OwS (w.alloc (.cells #[] 22)) w.heap.size (w.alloc (.cells #[] 22)).heap.size (.slice (some ⟨w.heap.size, 0, none⟩) 0 0) [] :=
  ⟨[], rfl, World.ownsRow_lit (base := w.heap.size) (e := 22) (size := 1) w #[] 0 (Nat.le_refl _) (by unfold maxLen; omega) rfl, fun g hg => by simp only [Value.ownBlock, Option.some.injEq] at hg; subst hg; simp, by simp, Nat.le_refl _, by simp, by simp⟩
theorem ows_wideLo {w : World} {lo lo' hi : Nat} {v : Value} {xss : List (List Int)} (h : OwS w lo hi v xss) (h1 : lo' ≤ lo) : OwS w lo' hi v xss := by
  obtain ⟨vs, a, b, c, d, e, f, g⟩ := h
  refine ⟨vs, a, ⟨b.1, ?_⟩, c, Nat.le_trans h1 d, e, fun k u xs h2 h3 => (f k u xs h2 h3).wide h1 (Nat.le_refl _) e, g⟩
  rcases b.2 with b | ⟨g, cap, cur, rfl, hb, r⟩
  · exact .inl b
  · exact .inr ⟨g, cap, cur, rfl, by omega, r⟩
theorem Bx.far {w w' : World} {b B : Nat} {x y : Value} (h : Bx w b x y) (hb : Below B w w') (hB : b < B) : Bx w' b x y :=
  ⟨(hb.cell (p := ⟨b, 0, none⟩) hB).trans h.1, (hb.cell (p := ⟨b, 1, none⟩) hB).trans h.2.1, Nat.lt_of_lt_of_le h.2.2 hb.size⟩
theorem kerRow_ok {M : Nat → Nat → Int} {l : List Nat} {q b : Nat} (hq : q < l.length) : (l.map fun a => M a b).take (q + 1) = (l.map fun a => M a b).take q ++ [M (l.getD q 0) b] := by
  refine take_snoc ?_
  rw [List.getElem?_map, List.getD_eq_getElem?_getD, List.getElem?_eq_getElem hq]; rfl
set_option maxHeartbeats 4000000 in
set_option maxRecDepth 100000 in
theorem l10Kernel_any (v : Value) (x : TourV) (A : Option Addr) (c0 : Nat) (l : List Nat) (k : Nat) (w : World) (hok : tourB x = true) (hs : InT w v x) (hsl : SlI w A (nI l)) (hl : l.length = 2 * k + 1) (hk : k ≤ 3) (hmem : ∀ a ∈ l, a < x.wins.length) (hnd : l.Nodup) (_hc : l.length ≤ c0) (_hcm : c0 ≤ maxLen) :
    Calls Tryd.prog 20 #[v, .slice A l.length c0] w fun e w' => KerR w e w' (kerF (pfs (Mb (bt x.wins)) k l)) := by
  have HIT := Lib.hid hs
  have HIL := Lib.hid hsl
  obtain ⟨u, rfl, B, d, rfl, hd, hm, hts⟩ := hs
  obtain ⟨t1, t2, t3, t4, _⟩ := tourB_t hok
  have hn8 : x.wins.length ≤ 8 := by omega
  have hne : ∀ a ∈ l, ∀ b ∈ l, a ≠ b → bt x.wins a b ≠ bt x.wins b a := fun a ha b hb h => tourB_anti hok (hmem a ha) (hmem b hb) h
  have HMO : Hid (∀ a ∈ l, ∀ b ∈ l, a ≠ b → Mb (bt x.wins) a b % 2 = 1) := fun a ha b hb h => Mb_odd (hne a ha b hb h)
  have HEL := Lib.hid (elim_start (M := Mb (bt x.wins)) (Mb_anti _) (Mb_abs _) hl HMO.out hnd)
  have hgm : ∀ i, i < l.length → l.getD i 0 ∈ l := fun i hi => by rw [List.getD_eq_getElem?_getD, List.getElem?_eq_getElem hi]; exact List.getElem_mem hi
  have HE0 : Hid (∀ r, r < l.length → (fun r c => Mb (bt x.wins) (l.getD c 0) (l.getD r 0)) r r = 0) := fun r hr => Mb_self _ _
  have HE1 : Hid (∀ r c, r < l.length → c < l.length → c ≠ r → (fun r c => Mb (bt x.wins) (l.getD c 0) (l.getD r 0)) r c % 2 = 1) := fun r c hr hc h => HMO.out _ (hgm c hc) _ (hgm r hr) fun e => by
    rw [List.getD_eq_getElem?_getD, List.getD_eq_getElem?_getD, List.getElem?_eq_getElem hc, List.getElem?_eq_getElem hr] at e
    exact h ((List.getElem_inj hnd).1 e)
  have HPS : Hid ((pfs (Mb (bt x.wins)) k l).length = l.length) := pfs_length
  have HODD : Hid (∀ j, j < l.length → fn (pfs (Mb (bt x.wins)) k l) j % 2 = 1) := fun j hj => pfs_odd hnd hl HMO.out _ (fn_mem (by rw [HPS.out]; exact hj))
  have H15 : Hid (∀ j, j < l.length → (fn (pfs (Mb (bt x.wins)) k l) j).natAbs ≤ 15) := fun j hj => by
    have h1 := pfs_abs (M := Mb (bt x.wins)) (Mb_abs _) hl _ (fn_mem (l := pfs (Mb (bt x.wins)) k l) (j := j) (by rw [HPS.out]; exact hj))
    have h2 : dfact k ≤ 15 := by
      match k, hk with
      | 0, _ => decide
      | 1, _ => decide
      | 2, _ => decide
      | 3, _ => decide
    omega
  have HMEM : Hid (∀ i, i < l.length → l.getD i 0 < x.wins.length) := fun i hi => hmem _ (hgm i hi)
  have HBT : Hid (∀ V (p q : Nat), Below w.heap.size w V → p < x.wins.length → q < x.wins.length → Calls Tryd.prog 31 #[.agg #[.int .i64 x.size, .slice B x.wins.length d], .int .i64 (p : Int), .int .i64 (q : Int)] V fun e w' => e = .returned (.bool (bt x.wins p q)) ∧ Below V.heap.size V w') := fun V p q hV hp hq => specBeats_any _ x p q V (HIT.out.below hV) hn8 t4 hp (by omega)
  have HLQ : Hid (∀ V q, Below w.heap.size w V → q < l.length → ∃ b off, A = some ⟨b, off, none⟩ ∧ V.cell? ⟨b, off + q, none⟩ = some (.int .i64 ((l.getD q 0 : Nat) : Int))) := fun V q hV hq => by
    obtain ⟨b2, off2, y, e, hy, hcy, hlt⟩ := HIL.out.at_ (k := q) (by rw [nI_length]; omega)
    rw [nI_at hq] at hy
    injection hy with hy
    subst hy
    exact ⟨b2, off2, e, (hV.cell (block_lt_of_cell hcy)).trans hcy⟩
  have HSELF : Hid (∀ a b, a ∈ l → b ∈ l → (bt x.wins a b = true → Mb (bt x.wins) a b = 1) ∧ (bt x.wins a b = false → bt x.wins b a = true → Mb (bt x.wins) a b = -1) ∧ (bt x.wins a b = false → bt x.wins b a = false → Mb (bt x.wins) a b = 0)) := fun a b ha hb => by
    refine ⟨fun h => ?_, fun h1 h2 => by unfold Mb; rw [h1, h2]; rfl, fun h1 h2 => by unfold Mb; rw [h1, h2]; rfl⟩
    have : a ≠ b := fun e => by subst e; have := tourB_irr hok (hmem a ha); rw [h] at this; cases this
    exact Mb_t h (hne a ha b hb this)
  have HGM := Lib.hid hgm
  have hln7 : l.length ≤ 7 := by omega
  have hln0 : 0 < l.length := by omega
  have hlf : 2 * k + 1 = l.length := hl.symm
  generalize pfs (Mb (bt x.wins)) k l = ps at *
  generalize Mb (bt x.wins) = M at *
  have HBX : Hid (Bx (w.alloc (.cells #[.int .i64 x.size, .slice B x.wins.length d] 27)) w.heap.size (.int .i64 x.size) (.slice B x.wins.length d) ∧ Below w.heap.size w (w.alloc (.cells #[.int .i64 x.size, .slice B x.wins.length d] 27))) := ⟨⟨by simp, by simp, by simp⟩, (Below.refl _ w).alloc (Nat.le_refl _) _⟩
  clear hsl hts hne hgm hmem hnd hok t1 t2 t3 t4 hd hm hl HMO
  generalize hn : l.length = n at *
  have HN := Lib.hid hn
  clear hn
  go_enter Tryd.func20, Tryd.ntmps20
  go_wp2
  rename_i hK1
  have HK1 := Lib.hid hK1
  clear hK1
  obtain ⟨ρ, hρ⟩ : ∃ ρ : Nat → List Int, ∀ j, ρ j = l.map fun a => M a (l.getD j 0) := ⟨_, fun _ => rfl⟩
  have HRL : Hid (∀ j, (ρ j).length = n) := fun j => by rw [hρ, List.length_map]; exact HN.out
  have HRN : Hid (∀ j q, q < n → (ρ j).take (q + 1) = (ρ j).take q ++ [M (l.getD q 0) (l.getD j 0)]) := fun j q hq => by rw [hρ]; exact kerRow_ok (by rw [HN.out]; exact hq)
  have HRT : Hid (∀ j, j < n → (l.map fun b => l.map fun a => M a b).take (j + 1) = (l.map fun b => l.map fun a => M a b).take j ++ [ρ j]) := fun j hj => by rw [hρ]; exact KerM.rows_ok (by rw [HN.out]; exact hj)
  have HRSL : Hid ((l.map fun b => l.map fun a => M a b).length = n) := by show _ = _; rw [List.length_map]; exact HN.out
  generalize (l.map fun b => l.map fun a => M a b) = RS at *
  clear hρ
  have H00 : Hid (OwS ((w.alloc (.cells #[.int .i64 x.size, .slice B x.wins.length d] 27)).alloc (.cells #[] 22)) (w.heap.size + 1) ((w.alloc (.cells #[.int .i64 x.size, .slice B x.wins.length d] 27)).alloc (.cells #[] 22)).heap.size (.slice (some ⟨w.heap.size + 1, 0, none⟩) 0 0) (RS.take 0) ∧ Bx ((w.alloc (.cells #[.int .i64 x.size, .slice B x.wins.length d] 27)).alloc (.cells #[] 22)) w.heap.size (.int .i64 x.size) (.slice B x.wins.length d) ∧ Below w.heap.size w ((w.alloc (.cells #[.int .i64 x.size, .slice B x.wins.length d] 27)).alloc (.cells #[] 22))) :=
    ⟨by
      have h := ows_start (w.alloc (.cells #[.int .i64 x.size, .slice B x.wins.length d] 27))
      rw [World.size_alloc] at h
      exact h, HBX.out.1.below ((Below.refl _ _).alloc (Nat.le_refl _) _), HBX.out.2.alloc HBX.out.2.size _⟩
  go_loopw [7, 35] (fun v7 i wr => ∃ (j : Nat) (gv : Value), j ≤ n ∧ i = .int .i64 (j : Int) ∧ gv = v7 ∧ Hid (OwS wr (w.heap.size + 1) wr.heap.size gv (RS.take j) ∧ Bx wr w.heap.size (.int .i64 x.size) (.slice B x.wins.length d) ∧ Below w.heap.size w wr)) (fun _ i _ => n - (intOf i).toNat)
  case atStart => exact ⟨0, _, Nat.zero_le _, rfl, rfl, H00.out⟩
  case round =>
    obtain ⟨j, gv, hj, rfl, rfl, HR⟩ := hrel
    clear H00 HBX
    obtain ⟨wz, rfl⟩ : ∃ W, W = wr := ⟨wr, rfl⟩
    by_cases hlt : j < n
    case neg =>
      obtain rfl : n = j := by omega
      have HO : Hid (OwS wz w.heap.size wz.heap.size gv RS) := by
        have h := HR.out.1
        rw [List.take_of_length_le (by rw [HRSL.out]; exact Nat.le_refl _)] at h
        exact ows_wideLo h (by omega)
      obtain ⟨A7, c7, rfl, hc7, -⟩ := HO.out.form
      rw [HRSL.out] at HO hc7 ⊢
      obtain ⟨g7, rfl⟩ : ∃ g7, A7 = some ⟨g7, 0, none⟩ := by
        obtain ⟨g7, _, _, _, _, h, _⟩ := HO.out.rowAt (k := 0) (by rw [HRSL.out]; exact hln0)
        exact ⟨g7, h⟩
      go_wp2
      refine HK1.out _ _ ?_
      exact kerElim w wz n (2 * k) g7 c7 _ RS ps hlf hln7 HEL HE0 HE1 HPS HODD H15 HO (Lib.hid HR.out.2.2) _ _ _ _ _ _ _ _ _ _ _ _ _ _ _ _ _ _ _ _ _ _ _ _ _ _ _ _ _ _ _ _ _ _ _ _ _ _ _ _ _ _ _ _ _ _ _ _ _ _ _ _ _ _ _ _ _ _ _ _ _ _ _ _ _ _ _ _ _ _ _ _ _ _ _ _ _ _ _ _ _ _ _ _ _ _ _ _ _ _ _ _ _ _ _ _ _ _ _ _ _ _ _ _ _ _ _ _ _ _ _ _ _ _ _ _ _ _ _ _ _ _ _ _ _ _ _ _ _ _ _ _ _ _ _ _ _ _ _ _ _ _ _ _ _ _ _ _ _ _ _ _ _ _ _ _ _ _ _ _ _ _ _ _ _ _ _ _ _ _ _ _ _ _ _ _ _ _ _ _ _ _ _ _ _ _ _ _ _ _ _ _ _ _ _ _ _ _ _ _ _ _ _ _ _ _ _ _ _ _ _ _ _ _ _ _ _ _ _ _ _ _ _ _ _ _ _ _ _ _ _ _ _ _ _ _ _ _ _ _ _ _ _ _ _ _ _
    obtain ⟨bl, ol, rfl, cl⟩ := HLQ.out wz j HR.out.2.2 hlt
    obtain ⟨pb, hpb⟩ : ∃ pb, l.getD j 0 = pb := ⟨_, rfl⟩
    have hpbx := HMEM.out j hlt
    have HRNj := Lib.hid (fun q hq => HRN.out j q hq)
    have HGMj := HGM.out j hlt
    rw [hpb] at cl hpbx HRNj HGMj
    have HSLF : Hid (∀ a, a ∈ l → (bt x.wins a pb = true → M a pb = 1) ∧ (bt x.wins a pb = false → bt x.wins pb a = true → M a pb = -1) ∧ (bt x.wins a pb = false → bt x.wins pb a = false → M a pb = 0)) := fun a ha => HSELF.out a pb ha HGMj
    clear hpb HGMj
    have HRLj : Hid ((ρ j).length = n) := HRL.out j
    generalize hρj : ρ j = R at *
    have HRJ : Hid (RS.take (j + 1) = RS.take j ++ [R]) := by show _ = _; rw [← hρj]; exact HRT.out j hlt
    have HRTL : Hid ((RS.take j).length = j) := by show _ = _; rw [List.length_take, HRSL.out]; omega
    clear hρj
    have B1 : Hid (Below wz.heap.size wz (wz.alloc (.cells #[] 3))) := (Below.refl _ wz).alloc (Nat.le_refl _) _
    have HL : Hid (Fr (wz.alloc (.cells #[] 3)) wz.heap.size (wz.alloc (.cells #[] 3)).heap.size (.slice (some ⟨wz.heap.size, 0, none⟩) 0 0) (R.take 0)) :=
      Fr.of_own (xs := []) (World.ownsRow_lit (base := wz.heap.size) (e := 3) (size := 1) wz #[] 0 (Nat.le_refl _) (by unfold maxLen; omega) rfl)
    go_wp2
    rename_i hK2
    have HK2 := Lib.hid hK2
    clear hK2 cl
    go_loopw [10, 42] (fun v10 i wr => ∃ (q : Nat) (lv : Value), q ≤ n ∧ i = .int .i64 (q : Int) ∧ lv = v10 ∧ Hid (Fr wr wz.heap.size wr.heap.size lv (R.take q) ∧ Below wz.heap.size wz wr)) (fun _ i _ => n - (intOf i).toNat)
    case atStart => exact ⟨0, _, Nat.zero_le _, rfl, rfl, HL.out, B1.out⟩
    case round =>
      obtain ⟨q, lv, hq, rfl, rfl, HI⟩ := hrel
      clear HL B1
      obtain ⟨wy, rfl⟩ : ∃ W, W = wr := ⟨wr, rfl⟩
      have HBy : Hid (Below w.heap.size w wy) := HR.out.2.2.trans (HI.out.2.mono HR.out.2.2.size)
      by_cases hltq : q < n
      case neg =>
        obtain rfl : n = q := by omega
        have HI2 : Hid (Fr wy wz.heap.size wy.heap.size lv R ∧ Below wz.heap.size wz wy) := by have h := HI.out; rw [List.take_of_length_le (by rw [HRLj.out]; exact Nat.le_refl _)] at h; exact h
        obtain ⟨AL, cL, rfl, -, -⟩ := HI2.out.1.form
        clear HI
        obtain ⟨vs, hown6, hpush⟩ := HR.out.1.pushed HI2.out.2 HI2.out.1
        have HO := Lib.hid hown6
        have HP := Lib.hid hpush
        clear hown6 hpush
        rw [HRTL.out] at HO HP
        have hlow : w.heap.size + 1 ≤ wz.heap.size := HR.out.2.1.2.2
        have hlow2 : w.heap.size + 1 ≤ wy.heap.size := Nat.le_trans hlow HI2.out.2.size
        go_wp2
        refine HK2.out _ _ ?_
        go_wp2_with (at_builtin; refine appS rfl _ _ rfl wy (w.heap.size + 1) gv j vs rfl HO.out _ _ _ rfl (by omega) hlow2 ?_; intro v7 w7 hown7 hb7 _ hg7)
        have H7 : Hid (OwS w7 (w.heap.size + 1) w7.heap.size v7 (RS.take (j + 1)) ∧ Bx w7 w.heap.size (.int .i64 x.size) (.slice B x.wins.length d) ∧ Below w.heap.size w w7) := ⟨by rw [HRJ.out]; exact HP.out _ _ hown7 hg7, (HR.out.2.1.below HI2.out.2).far (hb7 _ (Nat.le_refl _) hlow2) (by omega), HBy.out.trans (hb7 _ (by omega) HBy.out.size)⟩
        clear hown7 hb7 hg7
        go_roundw
        case rel => exact ⟨j + 1, _, by omega, by go_num, rfl, H7.out⟩
        case measure => simp [intOf]; omega
      obtain ⟨bl2, ol2, e, cq⟩ := HLQ.out wy q HBy.out hltq
      injection e with e; injection e with e1 e2; subst e1; subst e2
      have HRq := HRNj.out q hltq
      have hpq := HMEM.out q hltq
      have HSq := HSLF.out _ (HGM.out q hltq)
      generalize l.getD q 0 = pa at *
      have HRQ := Lib.hid HRq
      have HSQ := Lib.hid HSq
      have HLk : Hid ((R.take q).length = q) := by show _ = _; rw [List.length_take, HRLj.out]; omega
      clear HRq HSq
      have hlow : w.heap.size < wz.heap.size := HR.out.2.1.2.2
      obtain ⟨q0, q1, -⟩ := HR.out.2.1.below HI.out.2
      have HKQ : Hid (∀ W, Below wy.heap.size wy W → W.cell? ⟨w.heap.size, 0, none⟩ = some (.int .i64 x.size) ∧ W.cell? ⟨w.heap.size, 1, none⟩ = some (.slice B x.wins.length d)) := fun W hW => ⟨((HR.out.2.1.below HI.out.2).below hW).1, ((HR.out.2.1.below HI.out.2).below hW).2.1⟩
      cases e1 : bt x.wins pa pb
      case true =>
        have hm := HSQ.out.1 e1
        rw [hm] at HRQ
        have E1 := Lib.hid e1
        clear e1 hm
        go_wp2_with fail
        refine (HBT.out wy pa pb HBy.out hpq hpbx).mono ?_
        rintro e w5 ⟨rfl, hb5⟩
        rw [E1.out]
        have H5 : Hid (Below w.heap.size w w5) := HBy.out.trans (hb5.mono HBy.out.size)
        have I5 : Hid (Fr w5 wz.heap.size w5.heap.size lv (R.take q) ∧ Below wz.heap.size wz w5) := ⟨(HI.out.1.grow hb5).wide (Nat.le_refl _) hb5.size (Nat.le_refl _), HI.out.2.trans (hb5.mono HI.out.2.size)⟩
        clear hb5
        clear q0 q1
        have HOW : Hid (w5.ownsRow wz.heap.size 3 1 lv q (ints (R.take q))) := by have h := I5.out.1.own; rw [HLk.out] at h; exact h
        go_wp2_with (at_builtin; refine app1 rfl _ _ rfl w5 wz.heap.size lv q (R.take q) rfl HOW.out (1) rfl (by omega) I5.out.2.size ?_; intro v8 w8 hown8 hb8 _ _; have H8 : Hid (Fr w8 wz.heap.size w8.heap.size v8 (R.take (q + 1)) ∧ Below wz.heap.size wz w8) := ⟨by rw [HRQ.out]; exact Fr.of_own (by rw [List.length_append, HLk.out]; exact hown8), I5.out.2.trans (hb8 _ (Nat.le_refl _) I5.out.2.size)⟩; clear hown8 hb8)
        go_roundw
        case rel => exact ⟨q + 1, _, by omega, by go_num, rfl, H8.out⟩
        case measure => simp [intOf]; omega
      have E1 := Lib.hid e1
      cases e2 : bt x.wins pb pa
      case true =>
        have hm := HSQ.out.2.1 E1.out e2
        rw [hm] at HRQ
        have E2 := Lib.hid e2
        clear e1 e2 hm
        go_wp2_with fail
        refine (HBT.out wy pa pb HBy.out hpq hpbx).mono ?_
        rintro e w5 ⟨rfl, hb5⟩
        rw [E1.out]
        have H5 : Hid (Below w.heap.size w w5) := HBy.out.trans (hb5.mono HBy.out.size)
        have I5 : Hid (Fr w5 wz.heap.size w5.heap.size lv (R.take q) ∧ Below wz.heap.size wz w5) := ⟨(HI.out.1.grow hb5).wide (Nat.le_refl _) hb5.size (Nat.le_refl _), HI.out.2.trans (hb5.mono HI.out.2.size)⟩
        have hq5 := HKQ.out _ hb5
        clear hb5
        clear q0 q1
        obtain ⟨q0, q1⟩ := hq5
        go_wp2_with fail
        refine (HBT.out w5 pb pa H5.out hpbx hpq).mono ?_
        rintro e w6 ⟨rfl, hb5⟩
        rw [E2.out]
        have H6 : Hid (Below w.heap.size w w6) := H5.out.trans (hb5.mono H5.out.size)
        have I6 : Hid (Fr w6 wz.heap.size w6.heap.size lv (R.take q) ∧ Below wz.heap.size wz w6) := ⟨(I5.out.1.grow hb5).wide (Nat.le_refl _) hb5.size (Nat.le_refl _), I5.out.2.trans (hb5.mono I5.out.2.size)⟩
        clear hb5
        have HOW : Hid (w6.ownsRow wz.heap.size 3 1 lv q (ints (R.take q))) := by have h := I6.out.1.own; rw [HLk.out] at h; exact h
        go_wp2_with (at_builtin; refine app1 rfl _ _ rfl w6 wz.heap.size lv q (R.take q) rfl HOW.out (-1) rfl (by omega) I6.out.2.size ?_; intro v8 w8 hown8 hb8 _ _; have H8 : Hid (Fr w8 wz.heap.size w8.heap.size v8 (R.take (q + 1)) ∧ Below wz.heap.size wz w8) := ⟨by rw [HRQ.out]; exact Fr.of_own (by rw [List.length_append, HLk.out]; exact hown8), I6.out.2.trans (hb8 _ (Nat.le_refl _) I6.out.2.size)⟩; clear hown8 hb8)
        go_roundw
        case rel => exact ⟨q + 1, _, by omega, by go_num, rfl, H8.out⟩
        case measure => simp [intOf]; omega
      case false =>
        have hm := HSQ.out.2.2 E1.out e2
        rw [hm] at HRQ
        have E2 := Lib.hid e2
        clear e1 e2 hm
        go_wp2_with fail
        refine (HBT.out wy pa pb HBy.out hpq hpbx).mono ?_
        rintro e w5 ⟨rfl, hb5⟩
        rw [E1.out]
        have H5 : Hid (Below w.heap.size w w5) := HBy.out.trans (hb5.mono HBy.out.size)
        have I5 : Hid (Fr w5 wz.heap.size w5.heap.size lv (R.take q) ∧ Below wz.heap.size wz w5) := ⟨(HI.out.1.grow hb5).wide (Nat.le_refl _) hb5.size (Nat.le_refl _), HI.out.2.trans (hb5.mono HI.out.2.size)⟩
        have hq5 := HKQ.out _ hb5
        clear hb5
        clear q0 q1
        obtain ⟨q0, q1⟩ := hq5
        go_wp2_with fail
        refine (HBT.out w5 pb pa H5.out hpbx hpq).mono ?_
        rintro e w6 ⟨rfl, hb5⟩
        rw [E2.out]
        have H6 : Hid (Below w.heap.size w w6) := H5.out.trans (hb5.mono H5.out.size)
        have I6 : Hid (Fr w6 wz.heap.size w6.heap.size lv (R.take q) ∧ Below wz.heap.size wz w6) := ⟨(I5.out.1.grow hb5).wide (Nat.le_refl _) hb5.size (Nat.le_refl _), I5.out.2.trans (hb5.mono I5.out.2.size)⟩
        clear hb5
        have HOW : Hid (w6.ownsRow wz.heap.size 3 1 lv q (ints (R.take q))) := by have h := I6.out.1.own; rw [HLk.out] at h; exact h
        go_wp2_with (at_builtin; refine app1 rfl _ _ rfl w6 wz.heap.size lv q (R.take q) rfl HOW.out (0) rfl (by omega) I6.out.2.size ?_; intro v8 w8 hown8 hb8 _ _; have H8 : Hid (Fr w8 wz.heap.size w8.heap.size v8 (R.take (q + 1)) ∧ Below wz.heap.size wz w8) := ⟨by rw [HRQ.out]; exact Fr.of_own (by rw [List.length_append, HLk.out]; exact hown8), I6.out.2.trans (hb8 _ (Nat.le_refl _) I6.out.2.size)⟩; clear hown8 hb8)
        go_roundw
        case rel => exact ⟨q + 1, _, by omega, by go_num, rfl, H8.out⟩
        case measure => simp [intOf]; omega
end Go.Proofs.YtklhplifceedeaaDoor
