/- Tables as lines: plain law, and the walks. -/
import Derived.Test.YtpjbgcflepebgaaDoorRw
import Derived.Test.YtpjbgcflepebgaaDoorZs
import Derived.Test.YtpjbgcflepebgaaDoorTl
import Derived.Test.YtpjbgcflepebgaaDoorTi
import Derived.Deep.RegionHeld3
import Derived.Deep.RegionLaw
namespace Go.Proofs.YtpjbgcflepebgaaDoor
open Go.ChangeShapes Go.WideShapes Go.ChangeAt Go.RowKit

def lineB (c w d l m a p : List UInt8) : List UInt8 := c ++ [32] ++ w ++ [32] ++ d ++ [32] ++ l ++ [32] ++ m ++ [58] ++ a ++ [32] ++ p
theorem lineB_str (c w d l m a p : List UInt8) :
    ((((((((((((⟨c.toArray⟩ : ByteArray) ++ ⟨#[32]⟩) ++ ⟨w.toArray⟩) ++ ⟨#[32]⟩) ++ ⟨d.toArray⟩) ++ ⟨#[32]⟩) ++ ⟨l.toArray⟩) ++ ⟨#[32]⟩) ++ ⟨m.toArray⟩) ++ ⟨#[58]⟩) ++ ⟨a.toArray⟩) ++ ⟨#[32]⟩) ++ ⟨p.toArray⟩ = ⟨(lineB c w d l m a p).toArray⟩ := by
  rw [show (⟨#[32]⟩ : ByteArray) = ⟨[32].toArray⟩ from rfl, show (⟨#[58]⟩ : ByteArray) = ⟨[58].toArray⟩ from rfl]
  simp only [bcat]; rfl
theorem lineB_join (c w d l m a p : List UInt8) : Lib.join [c, w, d, l, m ++ [58] ++ a, p] [32] = lineB c w d l m a p := by
  simp [Lib.join_cons, Lib.joinTail, lineB, List.append_assoc]
theorem goalsB (m a : List UInt8) : ((⟨m.toArray⟩ : ByteArray) ++ ⟨#[58]⟩) ++ ⟨a.toArray⟩ = ⟨(m ++ [58] ++ a).toArray⟩ := by
  rw [show (⟨#[58]⟩ : ByteArray) = ⟨[58].toArray⟩ from rfl, bcat, bcat]
def lineF (x : LeagueV) (c : Int) : List UInt8 :=
  lineB (Lib.itoa c) (Lib.itoa (recN c 2 x.results : Nat)) (Lib.itoa (recN c 1 x.results : Nat)) (Lib.itoa (recN c 0 x.results : Nat)) (Lib.itoa (madeF c x.results)) (Lib.itoa (lostF c x.results)) (Lib.itoa ((ptsF x.clubs.toNat x.results).getD c.toNat 0))
def linesF (x : LeagueV) : List (List UInt8) := (tableL x).map (lineF x)
theorem linesF_take {x : LeagueV} {j : Nat} {c : Int} (h : (tableL x)[j]? = some c) : (linesF x).take (j + 1) = (linesF x).take j ++ [lineF x c] := by
  refine take_snoc ?_
  simp [linesF, h]
theorem linesF_length (x : LeagueV) : (linesF x).length = (tableL x).length := by simp [linesF]
theorem tableL_at {x : LeagueV} {j : Nat} {c : Int} (h : (tableL x)[j]? = some c) : leagueB x = true ∧ 0 ≤ c ∧ c < x.clubs := by
  have hm := List.mem_of_getElem? h
  unfold tableL at hm
  split at hm
  · rename_i hb
    have := leagueB_t hb
    have h2 := tableF_mem.1 hm
    exact ⟨hb, by omega, by omega⟩
  · simp at hm
theorem tableL_len (x : LeagueV) : (tableL x).length ≤ 8 := by
  unfold tableL
  split
  · rename_i hb
    have := leagueB_t hb
    rw [tableF_length]; omega
  · simp

set_option maxRecDepth 100000 in
/-- 'append(out, s)' as a step of a region that draws: what the run gives. -/
theorem stepAppZ {ops : Array Oper} {o : Oper} {a : Act} {w : World} {K : Act → World → Prop} {Q : Exit → Act → World → Prop} {E : Prop} (hgd : o.guard = none) (s y : Operand)
    (ho : o.op = .call { callee := .builtin .append, args := #[s, y], argTypes := #[26, 26] })
    (base : Nat) (v : Value) (n : Nat) (xs : List (List UInt8)) (hs : a.eval s = v) (hown : w.ownsRow base 9 1 v n (strs xs)) (ad : Addr) (x : List UInt8)
    (hx : a.eval y = .slice (some ad) 1 1) (hu : w.cell? ad = some (.string ⟨x.toArray⟩)) (hl : n ≤ 1048576) (hbase : base ≤ w.heap.size)
    (h : ∀ v' w', w'.ownsRow base 9 1 v' (n + 1) (strs (xs ++ [x])) → w.grownBy w' v.ownBlock → K (a.put o.dst v') w') :
    if Region.wanted o (yielded ops a.tmps) = true then Oper.wp Tryd.prog o a w K Q else E := by
  obtain ⟨i0, hi, hz0, hz1, hz2⟩ := info_parts infoStr
  have hw : Region.wanted o (yielded ops a.tmps) = true := by simp [Region.wanted, hgd]
  rw [if_pos hw]
  obtain ⟨v', w', hrun, r1, r2, _⟩ := run_append_own (P := Tryd.prog) w base 26 o.type 9 i0 _ 1 16 Tryd.underlying26 hi hz0 hz1 hz2 rfl (by decide) v n (strs xs) hown ad 1 1 [.string ⟨x.toArray⟩] rfl (by
    intro j u hj
    match j, hj with
    | 0, hj => simp at hj; subst hj; simpa [Addr.add] using hu) (by intro u hu; simp at hu; subst hu; rfl) (by unfold maxLen; omega) (by omega) hbase
  unfold Oper.wp
  simp [execOp, ho, resolve, invoke, builtin, hs, hx, hrun, Result.andThen]
  exact h v' w' (by rw [strs_snoc]; exact r1) r2

theorem own_neZ {w : World} {lo lo2 m n s s2 : Nat} {u v : Value} {xs vs : List Value} (h1 : w.ownsRow lo 3 s u m xs) (h2 : w.ownsRow lo2 9 s2 v n vs) {g : Nat} (hg : u.ownBlock = some g) : v.ownBlock ≠ some g := by
  intro hv
  rcases h1.2 with ⟨rfl, _⟩ | ⟨g1, _, cur1, rfl, _, e1, _⟩
  · cases hg
  · rcases h2.2 with ⟨rfl, _⟩ | ⟨g2, _, cur2, rfl, _, e2, _⟩
    · cases hv
    · simp only [Value.ownBlock, Option.some.injEq] at hg hv
      subst hg; subst hv
      rw [e1] at e2
      injection e2 with e2
      injection e2 with _ e2 _
      exact absurd e2 (by decide)
theorem Fr.grownByZ {w w' : World} {lo hi : Nat} {u : Value} {xs : List Int} {row : Option Nat} (h : Fr w lo hi u xs) (hg : w.grownBy w' row) (hd : ∀ g, u.ownBlock = some g → row ≠ some g) : Fr w' lo hi u xs := by
  refine ⟨h.1.kept hg ?_, h.2.1, Nat.le_trans h.2.2 hg.size⟩
  cases hu : u.ownBlock with
  | none => exact .inl rfl
  | some g => exact .inr fun e => hd g hu e.symm
/-- The loop over the table: the row of lines v, the table's own row u. -/
structure TzAt (w3 W : World) (lo hi : Nat) (u : Value) (T : List Int) (v : Value) (j : Nat) (ls : List (List UInt8)) : Prop where
  own : W.ownsRow w3.heap.size 9 1 v j (strs ls)
  tab : Fr W lo hi u T
  be : Below w3.heap.size w3 W
theorem TzAt.below {w3 W W' : World} {lo hi j : Nat} {u v : Value} {T : List Int} {ls : List (List UInt8)} (h : TzAt w3 W lo hi u T v j ls) (hb : Below W.heap.size W W') : TzAt w3 W' lo hi u T v j ls :=
  ⟨ownZ_below h.own hb, h.tab.below hb h.tab.2.2, h.be.trans (hb.mono h.be.size)⟩
theorem TzAt.next {w3 W W' : World} {lo hi j : Nat} {u v v' : Value} {T : List Int} {ls ls' : List (List UInt8)} (h : TzAt w3 W lo hi u T v j ls) (hown : W'.ownsRow w3.heap.size 9 1 v' (j + 1) (strs ls')) (hg : W.grownBy W' v.ownBlock) : TzAt w3 W' lo hi u T v' (j + 1) ls' :=
  ⟨hown, h.tab.grownByZ hg (fun _ he => own_neZ h.tab.1 h.own he), h.be.grown hg h.be.size (fun k hk => (h.own.lt k hk).1)⟩
theorem FrZ.wideLo {w : World} {lo lo' hi : Nat} {v : Value} {ls : List (List UInt8)} (h : FrZ w lo hi v ls) (h1 : lo' ≤ lo) : FrZ w lo' hi v ls := by
  obtain ⟨h, hg, hs⟩ := h
  refine ⟨⟨h.1, ?_⟩, hg, hs⟩
  rcases h.2 with h | ⟨g, cap, cur, rfl, hb, r⟩
  · exact .inl h
  · exact .inr ⟨g, cap, cur, rfl, by omega, r⟩

set_option maxHeartbeats 1000000 in
set_option maxRecDepth 100000 in
theorem implPointsOf_ok (v : Value) (x : LeagueV) (w : World) (hs : InL w v x) (hok : leagueB x = true) :
    Calls Tryd.prog 26 #[v] w fun e w' => ∃ v', e = .returned v' ∧ Fr w' w.heap.size w'.heap.size v' (ptsF x.clubs.toNat x.results) ∧ Below w.heap.size w w' := by
  have HIL := Lib.hid hs
  have HOK := Lib.hid hok
  have HP := Lib.hid (fun W h => implPoints_any v x W h hok)
  obtain ⟨A, c, rfl, hc, hm, hs, hw⟩ := hs
  clear hs hok hw
  unfold maxLen at hm
  generalize x.results.length = len at *
  have W1 : Hid (InL (w.alloc (.cells #[.int .i64 x.clubs, .slice A len c] 30)) (.agg #[.int .i64 x.clubs, .slice A len c]) x ∧ Below w.heap.size w (w.alloc (.cells #[.int .i64 x.clubs, .slice A len c] 30)) ∧ (w.alloc (.cells #[.int .i64 x.clubs, .slice A len c] 30)).cell? ⟨w.heap.size, 0, none⟩ = some (.int .i64 x.clubs) ∧ (w.alloc (.cells #[.int .i64 x.clubs, .slice A len c] 30)).cell? ⟨w.heap.size, 1, none⟩ = some (.slice A len c) ∧ w.heap.size < (w.alloc (.cells #[.int .i64 x.clubs, .slice A len c] 30)).heap.size) :=
    ⟨HIL.out.below ((Below.refl _ w).alloc (Nat.le_refl _) _), (Below.refl _ w).alloc (Nat.le_refl _) _, by simp, by simp, by simp⟩
  go_enter Tryd.func26, Tryd.ntmps26
  go_wp2_with fail
  generalize w.alloc (.cells #[.int .i64 x.clubs, .slice A len c] 30) = w1 at *
  refine (implLeagueOk_any _ x w1 W1.out.1).mono ?_
  rintro e w2 ⟨rfl, hb⟩
  rw [HOK.out]
  have W2 : Hid (Below w.heap.size w w2 ∧ InL w2 (.agg #[.int .i64 x.clubs, .slice A len c]) x) := ⟨W1.out.2.1.trans (hb.mono W1.out.2.1.size), W1.out.1.below hb⟩
  have q0 : w2.cell? ⟨w.heap.size, 0, none⟩ = some (.int .i64 x.clubs) := (hb.cell (p := ⟨w.heap.size, 0, none⟩) W1.out.2.2.2.2).trans W1.out.2.2.1
  have q1 : w2.cell? ⟨w.heap.size, 1, none⟩ = some (.slice A len c) := (hb.cell (p := ⟨w.heap.size, 1, none⟩) W1.out.2.2.2.2).trans W1.out.2.2.2.1
  clear hb
  go_wp2_with fail
  refine (HP.out w2 W2.out.2).mono ?_
  rintro e w3 ⟨v3, rfl, hf, hb⟩
  have H3 : Hid (Fr w3 w.heap.size w3.heap.size v3 (ptsF x.clubs.toNat x.results) ∧ Below w.heap.size w w3) := ⟨hf.wide W2.out.1.size (Nat.le_refl _) (Nat.le_refl _), W2.out.1.trans (hb.mono W2.out.1.size)⟩
  clear hf hb
  go_wp2
  go_ret
  exact ⟨_, rfl, H3.out.1, H3.out.2⟩

set_option maxHeartbeats 1000000 in
set_option maxRecDepth 100000 in
theorem implGoalsOf_ok (v : Value) (x : LeagueV) (c0 : Int) (w : World) (hs : InL w v x) (hok : leagueB x = true) (hc0 : 0 ≤ c0) (hc1 : c0 < x.clubs) :
    Calls Tryd.prog 23 #[v, .int .i64 c0] w fun e w' => e = .returned (.tuple #[.int .i64 (madeF c0 x.results), .int .i64 (lostF c0 x.results)]) ∧ Below w.heap.size w w' := by
  have HIL := Lib.hid hs
  have HOK := Lib.hid hok
  have HG := Lib.hid (fun W h => implGoals_any v x c0 W h hok)
  obtain ⟨l1, l2, l3, l4⟩ := leagueB_t hok
  obtain ⟨A, c, rfl, hc, hm, hs, hw⟩ := hs
  have hin : inB c0 0 (x.clubs - 1) = true := inB_t.2 (by omega)
  have HIN := Lib.hid hin
  clear hs hok hw l4 hin
  unfold maxLen at hm
  generalize x.results.length = len at *
  have W1 : Hid (InL (w.alloc (.cells #[.int .i64 x.clubs, .slice A len c] 30)) (.agg #[.int .i64 x.clubs, .slice A len c]) x ∧ Below w.heap.size w (w.alloc (.cells #[.int .i64 x.clubs, .slice A len c] 30)) ∧ (w.alloc (.cells #[.int .i64 x.clubs, .slice A len c] 30)).cell? ⟨w.heap.size, 0, none⟩ = some (.int .i64 x.clubs) ∧ (w.alloc (.cells #[.int .i64 x.clubs, .slice A len c] 30)).cell? ⟨w.heap.size, 1, none⟩ = some (.slice A len c) ∧ w.heap.size < (w.alloc (.cells #[.int .i64 x.clubs, .slice A len c] 30)).heap.size) :=
    ⟨HIL.out.below ((Below.refl _ w).alloc (Nat.le_refl _) _), (Below.refl _ w).alloc (Nat.le_refl _) _, by simp, by simp, by simp⟩
  go_enter Tryd.func23, Tryd.ntmps23
  go_wp2_with fail
  generalize w.alloc (.cells #[.int .i64 x.clubs, .slice A len c] 30) = w1 at *
  refine (implLeagueOk_any _ x w1 W1.out.1).mono ?_
  rintro e w2 ⟨rfl, hb⟩
  rw [HOK.out]
  have W2 : Hid (Below w.heap.size w w2 ∧ InL w2 (.agg #[.int .i64 x.clubs, .slice A len c]) x) := ⟨W1.out.2.1.trans (hb.mono W1.out.2.1.size), W1.out.1.below hb⟩
  have q0 : w2.cell? ⟨w.heap.size, 0, none⟩ = some (.int .i64 x.clubs) := (hb.cell (p := ⟨w.heap.size, 0, none⟩) W1.out.2.2.2.2).trans W1.out.2.2.1
  have q1 : w2.cell? ⟨w.heap.size, 1, none⟩ = some (.slice A len c) := (hb.cell (p := ⟨w.heap.size, 1, none⟩) W1.out.2.2.2.2).trans W1.out.2.2.2.1
  have hz : w.heap.size < w2.heap.size := Nat.lt_of_lt_of_le W1.out.2.2.2.2 hb.size
  clear hb
  go_wp2_with fail
  refine (has_any x.clubs (.slice A len c) c0 w2 l1 l2).mono ?_
  rintro e w3 ⟨rfl, hb⟩
  rw [HIN.out]
  have W3 : Hid (Below w.heap.size w w3 ∧ InL w3 (.agg #[.int .i64 x.clubs, .slice A len c]) x) := ⟨W2.out.1.trans (hb.mono W2.out.1.size), W2.out.2.below hb⟩
  have p0 : w3.cell? ⟨w.heap.size, 0, none⟩ = some (.int .i64 x.clubs) := (hb.cell (p := ⟨w.heap.size, 0, none⟩) hz).trans q0
  have p1 : w3.cell? ⟨w.heap.size, 1, none⟩ = some (.slice A len c) := (hb.cell (p := ⟨w.heap.size, 1, none⟩) hz).trans q1
  clear hb q0 q1 hz
  go_wp2_with fail
  refine (HG.out w3 W3.out.2).mono ?_
  rintro e w4 ⟨rfl, hb⟩
  have H4 : Hid (Below w.heap.size w w4) := W3.out.1.trans (hb.mono W3.out.1.size)
  clear hb
  go_wp2
  go_ret2
  exact ⟨rfl, H4.out⟩

set_option maxHeartbeats 8000000 in
set_option maxRecDepth 100000 in
theorem specTableLines_any (v : Value) (x : LeagueV) (w : World) (hs : InL w v x) :
    Calls Tryd.prog 5 #[v] w fun e w' => ∃ v', e = .returned v' ∧ FrZ w' w.heap.size w'.heap.size v' (linesF x) ∧ Below w.heap.size w w' := by
  have HIL := Lib.hid hs
  obtain ⟨A, c, rfl, hc, hm, hs, hw⟩ := hs
  clear hs hw
  unfold maxLen at hm
  have hlen : ∃ len, x.results.length = len := ⟨_, rfl⟩
  obtain ⟨len, hlen⟩ := hlen
  have HLN := Lib.hid hlen
  rw [hlen] at HIL hc ⊢
  clear hlen
  have W1 : Hid (InL (w.alloc (.cells #[.int .i64 x.clubs, .slice A len c] 30)) (.agg #[.int .i64 x.clubs, .slice A len c]) x ∧ Below w.heap.size w (w.alloc (.cells #[.int .i64 x.clubs, .slice A len c] 30)) ∧ Bx (w.alloc (.cells #[.int .i64 x.clubs, .slice A len c] 30)) w.heap.size (.int .i64 x.clubs) (.slice A len c)) :=
    ⟨HIL.out.below ((Below.refl _ w).alloc (Nat.le_refl _) _), (Below.refl _ w).alloc (Nat.le_refl _) _, by simp [Bx]⟩
  cases h1 : leagueB x
  case false =>
    have HE : Hid (linesF x = []) := by show _ = _; simp [linesF, tableL, h1]
    go_enter Tryd.func5, Tryd.ntmps5
    go_wp2_with fail
    generalize w.alloc (.cells #[.int .i64 x.clubs, .slice A len c] 30) = w1 at *
    refine (specLeagueOk_any _ x w1 W1.out.1).mono ?_
    rintro e w2 ⟨rfl, hb⟩
    rw [h1]
    have B2 : Hid (Below w.heap.size w w2) := W1.out.2.1.trans (hb.mono W1.out.2.1.size)
    clear hb
    go_wp2
    go_ret
    exact ⟨_, rfl, by rw [HE.out]; exact FrZ.nil _ (Nat.le_refl _), B2.out⟩
  have HOK := Lib.hid h1
  obtain ⟨l1, l2, l3, l4⟩ := leagueB_t h1
  have HA := Lib.hid l4
  obtain ⟨n, hcl⟩ := Int.eq_ofNat_of_zero_le (show 0 ≤ x.clubs by omega)
  have HCL := Lib.hid hcl
  clear h1 l4 hcl
  go_enter Tryd.func5, Tryd.ntmps5
  go_wp2_with fail
  generalize w.alloc (.cells #[.int .i64 x.clubs, .slice A len c] 30) = w1 at *
  refine (specLeagueOk_any _ x w1 W1.out.1).mono ?_
  rintro e w2 ⟨rfl, hb⟩
  rw [HOK.out]
  have W2 : Hid (InL w2 (.agg #[.int .i64 x.clubs, .slice A len c]) x ∧ Below w.heap.size w w2 ∧ Bx w2 w.heap.size (.int .i64 x.clubs) (.slice A len c)) := ⟨W1.out.1.below hb, W1.out.2.1.trans (hb.mono W1.out.2.1.size), W1.out.2.2.below hb⟩
  clear hb
  obtain ⟨q0, q1, hz⟩ := id W2.out.2.2
  go_wp2_with fail
  refine (l12All_any _ x w2 W2.out.1 HOK.out).mono ?_
  rintro e w3 ⟨v3, rfl, hf3, hb⟩
  rw [HCL.out, Int.toNat_natCast] at hf3
  obtain ⟨gp, cp, rfl, hg1, hg2⟩ := hf3.someA (by rw [ptsF_length]; have := HCL.out; omega)
  rw [ptsF_length] at hf3 ⊢
  have W3 : Hid (InL w3 (.agg #[.int .i64 x.clubs, .slice A len c]) x ∧ Below w.heap.size w w3 ∧ Bx w3 w.heap.size (.int .i64 x.clubs) (.slice A len c) ∧ SlI w3 (some ⟨gp, 0, none⟩) (ptsF n x.results)) := ⟨W2.out.1.below hb, W2.out.2.1.trans (hb.mono W2.out.2.1.size), W2.out.2.2.below hb, hf3.sl⟩
  have hg2' : gp < w3.heap.size := hg2
  clear hb hf3 q0 q1
  obtain ⟨q0, q1, hz3⟩ := id W3.out.2.2.1
  have hne : ¬ w.heap.size = w3.heap.size := by omega
  have W4 : Hid (InL (w3.alloc (.cells #[] 9)) (.agg #[.int .i64 x.clubs, .slice A len c]) x ∧ Below w.heap.size w (w3.alloc (.cells #[] 9)) ∧ Bx (w3.alloc (.cells #[] 9)) w.heap.size (.int .i64 x.clubs) (.slice A len c) ∧ SlI (w3.alloc (.cells #[] 9)) (some ⟨gp, 0, none⟩) (ptsF n x.results) ∧
      (w3.alloc (.cells #[] 9)).ownsRow w3.heap.size 9 1 (.slice (some ⟨w3.heap.size, 0, none⟩) 0 0) 0 (strs []) ∧ Below w3.heap.size w3 (w3.alloc (.cells #[] 9)) ∧ w3.heap.size < (w3.alloc (.cells #[] 9)).heap.size) := by
    have hal : Below w3.heap.size w3 (w3.alloc (.cells #[] 9)) := (Below.refl _ w3).alloc (Nat.le_refl _) _
    exact ⟨W3.out.1.below hal, W3.out.2.1.trans (hal.mono W3.out.2.1.size), W3.out.2.2.1.below hal, SlI.below W3.out.2.2.2 hal, World.ownsRow_lit (base := w3.heap.size) (e := 9) (size := 1) w3 #[] 0 (Nat.le_refl _) (by unfold maxLen; omega) rfl, hal, by simp⟩
  go_wp2_with fail
  generalize w3.alloc (.cells #[] 9) = w4 at *
  refine (specTableOf_any _ x w4 W4.out.1).mono ?_
  rintro e w5 ⟨v5, rfl, hf5, hb⟩
  obtain ⟨At, ct, rfl, hct, _⟩ := hf5.form
  have hm5 := tableL_len x
  have W5 : Hid (TzAt w3 w5 w4.heap.size w5.heap.size (.slice At (tableL x).length ct) (tableL x) (.slice (some ⟨w3.heap.size, 0, none⟩) 0 0) 0 []) :=
    ⟨ownZ_below W4.out.2.2.2.2.1 hb, hf5, W4.out.2.2.2.2.2.1.trans (hb.mono (Nat.le_of_lt W4.out.2.2.2.2.2.2))⟩
  have B3 : Hid (w.heap.size < w3.heap.size ∧ Below w.heap.size w w3) := ⟨hz3, W3.out.2.1⟩
  clear hb hf5 q0 q1 hne
  generalize hm : (tableL x).length = m at *
  have HM := Lib.hid hm
  clear hm
  go_wp2
  go_loopw [4, 21] (fun v i wr => ∃ (j : Nat) (fv : Value), j ≤ m ∧ i = .int .i64 j ∧ fv = v ∧ Hid (TzAt w3 wr w4.heap.size w5.heap.size (.slice At m ct) (tableL x) fv j ((linesF x).take j))) (fun _ i _ => m - (intOf i).toNat)
  case atStart => exact ⟨0, _, Nat.zero_le _, rfl, rfl, W5.out⟩
  case round =>
    obtain ⟨j, fv, hj, rfl, rfl, HR⟩ := hrel
    by_cases hlt : j < m
    case neg =>
      obtain rfl : m = j := by omega
      have HF : Hid (FrZ wr w.heap.size wr.heap.size fv (linesF x) ∧ Below w.heap.size w wr) := by
        have h := HR.out.own
        rw [List.take_of_length_le (by rw [linesF_length, HM.out]; exact Nat.le_refl _)] at h
        have h2 : FrZ wr w3.heap.size wr.heap.size fv (linesF x) := FrZ.of_own (by rw [linesF_length, HM.out]; exact h)
        exact ⟨h2.wideLo (Nat.le_of_lt B3.out.1), B3.out.2.trans (HR.out.be.mono (Nat.le_of_lt B3.out.1))⟩
      go_wp2
      go_ret
      exact ⟨_, rfl, HF.out.1, HF.out.2⟩
    obtain ⟨b, off, y, rfl, hy, hcy, -⟩ := HR.out.tab.sl.at_ (k := j) (by rw [HM.out]; exact hlt)
    obtain ⟨_, hy0, hy1⟩ := tableL_at hy
    have HTK := Lib.hid (linesF_take hy)
    obtain ⟨k, rfl⟩ := Int.eq_ofNat_of_zero_le hy0
    have hkn : k < n := by have := HCL.out; omega
    obtain ⟨pa, hpa, hpa2, hpa3, hpa4⟩ := ptsF_get (rs := x.results) hkn
    have hcell3 := W3.out.2.2.2
    obtain ⟨b9, o9, pa', e9, hp9, hpc, _⟩ := hcell3.at_ (k := k) (by rw [ptsF_length]; exact hkn)
    injection e9 with e9; injection e9 with r1 r2 _; subst r1; subst r2
    rw [Nat.zero_add] at hpc
    obtain rfl : pa = pa' := by rw [hpa] at hp9; injection hp9
    have hma := made_cap (c := (k : Int)) HA.out
    have hlo := lost_cap (c := (k : Int)) HA.out
    have hr2 := recN_le (k : Int) 2 x.results
    have hr1 := recN_le (k : Int) 1 x.results
    have hr0 := recN_le (k : Int) 0 x.results
    have hl60 : x.results.length ≤ 60 := l3
    obtain ⟨MA, hMA⟩ : ∃ MA, madeF (k : Int) x.results = MA := ⟨_, rfl⟩
    obtain ⟨LA, hLA⟩ : ∃ LA, lostF (k : Int) x.results = LA := ⟨_, rfl⟩
    obtain ⟨R2, hR2⟩ : ∃ R : Nat, recN (k : Int) 2 x.results = R := ⟨_, rfl⟩
    obtain ⟨R1, hR1⟩ : ∃ R : Nat, recN (k : Int) 1 x.results = R := ⟨_, rfl⟩
    obtain ⟨R0, hR0⟩ : ∃ R : Nat, recN (k : Int) 0 x.results = R := ⟨_, rfl⟩
    have HREC : Hid (∀ W, InL W (.agg #[.int .i64 x.clubs, .slice A len c]) x → Calls Tryd.prog 17 #[.agg #[.int .i64 x.clubs, .slice A len c], .int .i64 (k : Int)] W fun e w' => e = .returned (.tuple #[.int .i64 R2, .int .i64 R1, .int .i64 R0]) ∧ Below W.heap.size W w') := fun W h => by
      have h2 := specRecordOf_any _ x (k : Int) W h HOK.out hy0 hy1
      rw [hR2, hR1, hR0] at h2; exact h2
    have HGO : Hid (∀ W, InL W (.agg #[.int .i64 x.clubs, .slice A len c]) x → Calls Tryd.prog 18 #[.agg #[.int .i64 x.clubs, .slice A len c], .int .i64 (k : Int)] W fun e w' => e = .returned (.tuple #[.int .i64 MA, .int .i64 LA]) ∧ Below W.heap.size W w') := fun W h => by
      have h2 := l12Goals_any _ x (k : Int) W h HOK.out
      rw [hMA, hLA] at h2; exact h2
    have HLF : Hid (lineF x (k : Int) = lineB (Lib.itoa (k : Int)) (Lib.itoa (R2 : Nat)) (Lib.itoa (R1 : Nat)) (Lib.itoa (R0 : Nat)) (Lib.itoa MA) (Lib.itoa LA) (Lib.itoa pa)) := by
      show _ = _
      unfold lineF
      rw [hR2, hR1, hR0, hMA, hLA, HCL.out, Int.toNat_natCast, Int.toNat_natCast, hpa2]
    rw [hMA] at hma
    rw [hLA] at hlo
    rw [hR2] at hr2
    rw [hR1] at hr1
    rw [hR0] at hr0
    have hM1 : 0 ≤ MA ∧ MA ≤ 5940 := by omega
    have hL1 : 0 ≤ LA ∧ LA ≤ 5940 := by omega
    have hP1 : 0 ≤ pa ∧ pa ≤ 360 := by omega
    have hR2b : R2 ≤ 60 := by omega
    have hR1b : R1 ≤ 60 := by omega
    have hR0b : R0 ≤ 60 := by omega
    have hkb : k ≤ 8 := by have := HCL.out; omega
    have HGP : Hid (gp < w3.heap.size ∧ w3.cell? ⟨gp, k, none⟩ = some (.int .i64 pa)) := ⟨hg2', hpc⟩
    have KQ : Hid (∀ W, Below w3.heap.size w3 W → W.cell? ⟨w.heap.size, 0, none⟩ = some (.int .i64 x.clubs) ∧ W.cell? ⟨w.heap.size, 1, none⟩ = some (.slice A len c) ∧ W.cell? ⟨gp, k, none⟩ = some (.int .i64 pa) ∧ InL W (.agg #[.int .i64 x.clubs, .slice A len c]) x) := fun W h =>
      ⟨(h.cell (p := ⟨w.heap.size, 0, none⟩) B3.out.1).trans W3.out.2.2.1.1, (h.cell (p := ⟨w.heap.size, 1, none⟩) B3.out.1).trans W3.out.2.2.1.2.1, (h.cell (p := ⟨gp, k, none⟩) HGP.out.1).trans HGP.out.2, W3.out.1.below h⟩
    clear hy hy0 hy1 hpa hpa2 hpa3 hpa4 hcell3 hp9 hpc hma hlo hr2 hr1 hr0 hMA hLA hR2 hR1 hR0
    obtain ⟨hM11, hM12⟩ := hM1
    obtain ⟨hL11, hL12⟩ := hL1
    obtain ⟨hP11, hP12⟩ := hP1
    have HF1 : Hid (∃ s1 : List UInt8, Lib.itoa (k : Int) = s1 ∧ s1.length ≤ 21) := ⟨_, rfl, Lib.itoa_length_le _ (by omega) (by omega)⟩
    have HF2 : Hid (∃ s1 : List UInt8, Lib.itoa (R2 : Int) = s1 ∧ s1.length ≤ 21) := ⟨_, rfl, Lib.itoa_length_le _ (by omega) (by omega)⟩
    have HF3 : Hid (∃ s1 : List UInt8, Lib.itoa (R1 : Int) = s1 ∧ s1.length ≤ 21) := ⟨_, rfl, Lib.itoa_length_le _ (by omega) (by omega)⟩
    have HF4 : Hid (∃ s1 : List UInt8, Lib.itoa (R0 : Int) = s1 ∧ s1.length ≤ 21) := ⟨_, rfl, Lib.itoa_length_le _ (by omega) (by omega)⟩
    have HF5 : Hid (∃ s1 : List UInt8, Lib.itoa MA = s1 ∧ s1.length ≤ 21) := ⟨_, rfl, Lib.itoa_length_le _ (by omega) (by omega)⟩
    have HF6 : Hid (∃ s1 : List UInt8, Lib.itoa LA = s1 ∧ s1.length ≤ 21) := ⟨_, rfl, Lib.itoa_length_le _ (by omega) (by omega)⟩
    have HF7 : Hid (∃ s1 : List UInt8, Lib.itoa pa = s1 ∧ s1.length ≤ 21) := ⟨_, rfl, Lib.itoa_length_le _ (by omega) (by omega)⟩
    obtain ⟨s1, g1, y1⟩ := HF1.out
    obtain ⟨s2, g2, y2⟩ := HF2.out
    obtain ⟨s3, g3, y3⟩ := HF3.out
    obtain ⟨s4, g4, y4⟩ := HF4.out
    obtain ⟨s5, g5, y5⟩ := HF5.out
    obtain ⟨s6, g6, y6⟩ := HF6.out
    obtain ⟨s7, g7, y7⟩ := HF7.out
    have C1 : Hid (∀ W, Calls Tryd.prog 19 #[.int .i64 (k : Int)] W fun e w' => e = .returned (.string ⟨s1.toArray⟩) ∧ Below W.heap.size W w') := fun W => by have h := specFormatInt_any (k : Int) W (by omega) (by omega); rw [g1] at h; exact h
    have C2 : Hid (∀ W, Calls Tryd.prog 19 #[.int .i64 (R2 : Int)] W fun e w' => e = .returned (.string ⟨s2.toArray⟩) ∧ Below W.heap.size W w') := fun W => by have h := specFormatInt_any (R2 : Int) W (by omega) (by omega); rw [g2] at h; exact h
    have C3 : Hid (∀ W, Calls Tryd.prog 19 #[.int .i64 (R1 : Int)] W fun e w' => e = .returned (.string ⟨s3.toArray⟩) ∧ Below W.heap.size W w') := fun W => by have h := specFormatInt_any (R1 : Int) W (by omega) (by omega); rw [g3] at h; exact h
    have C4 : Hid (∀ W, Calls Tryd.prog 19 #[.int .i64 (R0 : Int)] W fun e w' => e = .returned (.string ⟨s4.toArray⟩) ∧ Below W.heap.size W w') := fun W => by have h := specFormatInt_any (R0 : Int) W (by omega) (by omega); rw [g4] at h; exact h
    have C5 : Hid (∀ W, Calls Tryd.prog 19 #[.int .i64 MA] W fun e w' => e = .returned (.string ⟨s5.toArray⟩) ∧ Below W.heap.size W w') := fun W => by have h := specFormatInt_any MA W (by omega) (by omega); rw [g5] at h; exact h
    have C6 : Hid (∀ W, Calls Tryd.prog 19 #[.int .i64 LA] W fun e w' => e = .returned (.string ⟨s6.toArray⟩) ∧ Below W.heap.size W w') := fun W => by have h := specFormatInt_any LA W (by omega) (by omega); rw [g6] at h; exact h
    have C7 : Hid (∀ W, Calls Tryd.prog 19 #[.int .i64 pa] W fun e w' => e = .returned (.string ⟨s7.toArray⟩) ∧ Below W.heap.size W w') := fun W => by have h := specFormatInt_any pa W (by omega) (by omega); rw [g7] at h; exact h
    rw [g1, g2, g3, g4, g5, g6, g7] at HLF
    have HLB : Hid (_ = (⟨(lineF x (k : Int)).toArray⟩ : ByteArray)) := (lineB_str s1 s2 s3 s4 s5 s6 s7).trans (by rw [HLF.out])
    clear g1 g2 g3 g4 g5 g6 g7 HF1 HF2 HF3 HF4 HF5 HF6 HF7 HLF
    obtain ⟨q0, q1, _, _⟩ := KQ.out wr HR.out.be
    have dk : (k : Int) < (n : Int) := by omega
    have hwz : w.heap.size < w3.heap.size := B3.out.1
    go_wp2_with fail
    refine (HREC.out wr (KQ.out wr HR.out.be).2.2.2).mono ?_
    rintro e w6 ⟨rfl, hb⟩
    have T6 : Hid (TzAt w3 w6 w4.heap.size w5.heap.size (.slice (some ⟨b, off, none⟩) m ct) (tableL x) fv j ((linesF x).take j)) := HR.out.below hb
    clear hb q0 q1 hcy
    obtain ⟨q0, q1, _, _⟩ := KQ.out w6 T6.out.be
    go_wp2_with fail
    refine (HGO.out w6 (KQ.out w6 T6.out.be).2.2.2).mono ?_
    rintro e w7 ⟨rfl, hb⟩
    have T7 : Hid (TzAt w3 w7 w4.heap.size w5.heap.size (.slice (some ⟨b, off, none⟩) m ct) (tableL x) fv j ((linesF x).take j)) := T6.out.below hb
    clear hb q0 q1
    obtain ⟨_, _, qp, _⟩ := KQ.out w7 T7.out.be
    have HB : Hid (Below w7.heap.size w7 w7.drew) := (Below.refl _ _).drew
    go_wp2
    have n1 : ¬ 9223372036854775807 < s1.length + 1 := by omega
    have n2 : ¬ 9223372036854775807 < s1.length + 1 + s2.length := by omega
    have n3 : ¬ 9223372036854775807 < s1.length + 1 + s2.length + 1 := by omega
    have n4 : ¬ 9223372036854775807 < s1.length + 1 + s2.length + 1 + s3.length := by omega
    have n5 : ¬ 9223372036854775807 < s1.length + 1 + s2.length + 1 + s3.length + 1 := by omega
    have n6 : ¬ 9223372036854775807 < s1.length + 1 + s2.length + 1 + s3.length + 1 + s4.length := by omega
    have n7 : ¬ 9223372036854775807 < s1.length + 1 + s2.length + 1 + s3.length + 1 + s4.length + 1 := by omega
    have n8 : ¬ 9223372036854775807 < s1.length + 1 + s2.length + 1 + s3.length + 1 + s4.length + 1 + s5.length := by omega
    have n9 : ¬ 9223372036854775807 < s1.length + 1 + s2.length + 1 + s3.length + 1 + s4.length + 1 + s5.length + 1 := by omega
    have n10 : ¬ 9223372036854775807 < s1.length + 1 + s2.length + 1 + s3.length + 1 + s4.length + 1 + s5.length + 1 + s6.length := by omega
    have n11 : ¬ 9223372036854775807 < s1.length + 1 + s2.length + 1 + s3.length + 1 + s4.length + 1 + s5.length + 1 + s6.length + 1 := by omega
    have n12 : ¬ 9223372036854775807 < s1.length + 1 + s2.length + 1 + s3.length + 1 + s4.length + 1 + s5.length + 1 + s6.length + 1 + s7.length := by omega
    go_region_held3 (fun W => W.cell? ⟨gp, k, none⟩ = some (.int .i64 pa)) (first | exact qp | exact (KQ.out _ (T7.out.below HB.out).be).2.2.1 | exact (KQ.out _ ((T7.out.below HB.out).below ((Below.refl _ _).alloc (Nat.le_refl _) _)).be).2.2.1 | exact (KQ.out _ H9.out.be).2.2.1 | go_keep) (first
      | (go_at_call 19; (with_reducible refine (C1.out _).mono ?_); rintro e w8 ⟨rfl, hb⟩; replace HB : Hid (Below w7.heap.size w7 w8) := HB.out.trans (hb.mono HB.out.size); clear hb)
      | (go_at_call 19; (with_reducible refine (C2.out _).mono ?_); rintro e w8 ⟨rfl, hb⟩; replace HB : Hid (Below w7.heap.size w7 w8) := HB.out.trans (hb.mono HB.out.size); clear hb)
      | (go_at_call 19; (with_reducible refine (C3.out _).mono ?_); rintro e w8 ⟨rfl, hb⟩; replace HB : Hid (Below w7.heap.size w7 w8) := HB.out.trans (hb.mono HB.out.size); clear hb)
      | (go_at_call 19; (with_reducible refine (C4.out _).mono ?_); rintro e w8 ⟨rfl, hb⟩; replace HB : Hid (Below w7.heap.size w7 w8) := HB.out.trans (hb.mono HB.out.size); clear hb)
      | (go_at_call 19; (with_reducible refine (C5.out _).mono ?_); rintro e w8 ⟨rfl, hb⟩; replace HB : Hid (Below w7.heap.size w7 w8) := HB.out.trans (hb.mono HB.out.size); clear hb)
      | (go_at_call 19; (with_reducible refine (C6.out _).mono ?_); rintro e w8 ⟨rfl, hb⟩; replace HB : Hid (Below w7.heap.size w7 w8) := HB.out.trans (hb.mono HB.out.size); clear hb)
      | (go_at_call 19; (with_reducible refine (C7.out _).mono ?_); rintro e w8 ⟨rfl, hb⟩; replace HB : Hid (Below w7.heap.size w7 w8) := HB.out.trans (hb.mono HB.out.size); clear hb)
      | (rw [HLB.out]; refine stepAppZ rfl (.tmp 38) (.tmp 68) rfl w3.heap.size fv j ((linesF x).take j) rfl ((T7.out.below HB.out).own.alloc _) ⟨w8.heap.size, 0, none⟩ (lineF x (k : Int)) rfl (by simp) (by omega) (by have h1 := (T7.out.below HB.out).be.size; simp; omega) ?_; intro v9 w9 hown9 hg9; have H9 : Hid (TzAt w3 w9 w4.heap.size w5.heap.size (.slice (some ⟨b, off, none⟩) m ct) (tableL x) v9 (j + 1) ((linesF x).take (j + 1))) := by (rw [HTK.out]; exact ((T7.out.below HB.out).below ((Below.refl _ _).alloc (Nat.le_refl _) _)).next hown9 hg9)
         clear hown9 hg9))
    all_goals go_wp2
    all_goals go_roundw
    case rel => exact ⟨j + 1, _, by omega, by go_num, rfl, H9.out⟩
    case measure => simp [intOf]; omega

set_option maxHeartbeats 16000000 in
set_option maxRecDepth 100000 in
theorem implTableLines_any (v : Value) (x : LeagueV) (w : World) (hs : InL w v x) (ht : tabP w) :
    Calls Tryd.prog 7 #[v] w fun e w' => ∃ v', e = .returned v' ∧ FrZ w' w.heap.size w'.heap.size v' (linesF x) ∧ Below w.heap.size w w' := by
  have HIL := Lib.hid hs
  have HTT := Lib.hid ht
  obtain ⟨A, c, rfl, hc, hm, hs, hw⟩ := hs
  clear hs hw ht
  unfold maxLen at hm
  obtain ⟨len, hlen⟩ : ∃ len, x.results.length = len := ⟨_, rfl⟩
  have HLN := Lib.hid hlen
  rw [hlen] at HIL hc ⊢
  clear hlen
  have W1 : Hid (InL (w.alloc (.cells #[.int .i64 x.clubs, .slice A len c] 30)) (.agg #[.int .i64 x.clubs, .slice A len c]) x ∧ Below w.heap.size w (w.alloc (.cells #[.int .i64 x.clubs, .slice A len c] 30)) ∧ Bx (w.alloc (.cells #[.int .i64 x.clubs, .slice A len c] 30)) w.heap.size (.int .i64 x.clubs) (.slice A len c)) :=
    ⟨HIL.out.below ((Below.refl _ w).alloc (Nat.le_refl _) _), (Below.refl _ w).alloc (Nat.le_refl _) _, by simp [Bx]⟩
  go_enter Tryd.func7, Tryd.ntmps7
  go_wp2_with fail
  generalize w.alloc (.cells #[.int .i64 x.clubs, .slice A len c] 30) = w1 at *
  refine (implTableOf_any _ x w1 W1.out.1).mono ?_
  rintro e w5 ⟨v5, rfl, hf5, hb⟩
  obtain ⟨At, ct, rfl, hct, _⟩ := hf5.form
  have hm5 := tableL_len x
  have W5 : Hid (TzAt w1 w5 w1.heap.size w5.heap.size (.slice At (tableL x).length ct) (tableL x) (.slice none 0 0) 0 []) :=
    ⟨World.ownsRow_nil _ _ _ _, hf5, hb⟩
  have B3 : Hid (w.heap.size < w1.heap.size ∧ Below w.heap.size w w1) := ⟨W1.out.2.2.2.2, W1.out.2.1⟩
  clear hb hf5
  generalize hm : (tableL x).length = m at *
  have HM := Lib.hid hm
  clear hm
  go_wp2
  go_loopw [3, 14] (fun v i wr => ∃ (j : Nat) (fv : Value), j ≤ m ∧ i = .int .i64 j ∧ fv = v ∧ Hid (TzAt w1 wr w1.heap.size w5.heap.size (.slice At m ct) (tableL x) fv j ((linesF x).take j))) (fun _ i _ => m - (intOf i).toNat)
  case atStart => exact ⟨0, _, Nat.zero_le _, rfl, rfl, W5.out⟩
  case round =>
    obtain ⟨j, fv, hj, rfl, rfl, HR⟩ := hrel
    by_cases hlt : j < m
    case neg =>
      obtain rfl : m = j := by omega
      have HF : Hid (FrZ wr w.heap.size wr.heap.size fv (linesF x) ∧ Below w.heap.size w wr) := by
        have h := HR.out.own
        rw [List.take_of_length_le (by rw [linesF_length, HM.out]; exact Nat.le_refl _)] at h
        have h2 : FrZ wr w1.heap.size wr.heap.size fv (linesF x) := FrZ.of_own (by rw [linesF_length, HM.out]; exact h)
        exact ⟨h2.wideLo (Nat.le_of_lt B3.out.1), B3.out.2.trans (HR.out.be.mono (Nat.le_of_lt B3.out.1))⟩
      go_wp2
      go_ret
      exact ⟨_, rfl, HF.out.1, HF.out.2⟩
    obtain ⟨b, off, y, rfl, hy, hcy, -⟩ := HR.out.tab.sl.at_ (k := j) (by rw [HM.out]; exact hlt)
    obtain ⟨hok, hy0, hy1⟩ := tableL_at hy
    have HOK := Lib.hid hok
    obtain ⟨l1, l2, l3, l4⟩ := leagueB_t hok
    have HA := Lib.hid l4
    obtain ⟨n, hcl⟩ := Int.eq_ofNat_of_zero_le (show 0 ≤ x.clubs by omega)
    have HCL := Lib.hid hcl
    have HTK := Lib.hid (linesF_take hy)
    obtain ⟨k, rfl⟩ := Int.eq_ofNat_of_zero_le hy0
    have hkn : k < n := by omega
    have hkb : k ≤ 8 := by omega
    clear hok l4 hcl
    obtain ⟨pa, hpa, hpa2, hpa3, hpa4⟩ := ptsF_get (rs := x.results) hkn
    have hma := made_cap (c := (k : Int)) HA.out
    have hlo := lost_cap (c := (k : Int)) HA.out
    have hr2 := recN_le (k : Int) 2 x.results
    have hr1 := recN_le (k : Int) 1 x.results
    have hr0 := recN_le (k : Int) 0 x.results
    obtain ⟨MA, hMA⟩ : ∃ MA, madeF (k : Int) x.results = MA := ⟨_, rfl⟩
    obtain ⟨LA, hLA⟩ : ∃ LA, lostF (k : Int) x.results = LA := ⟨_, rfl⟩
    obtain ⟨R2, hR2⟩ : ∃ R : Nat, recN (k : Int) 2 x.results = R := ⟨_, rfl⟩
    obtain ⟨R1, hR1⟩ : ∃ R : Nat, recN (k : Int) 1 x.results = R := ⟨_, rfl⟩
    obtain ⟨R0, hR0⟩ : ∃ R : Nat, recN (k : Int) 0 x.results = R := ⟨_, rfl⟩
    have HREC : Hid (∀ W, InL W (.agg #[.int .i64 x.clubs, .slice A len c]) x → Calls Tryd.prog 22 #[.agg #[.int .i64 x.clubs, .slice A len c], .int .i64 (k : Int)] W fun e w' => e = .returned (.tuple #[.int .i64 R2, .int .i64 R1, .int .i64 R0]) ∧ Below W.heap.size W w') := fun W h => by
      have h2 := implRecordOf_any _ x (k : Int) W h HOK.out hy0 hy1
      rw [hR2, hR1, hR0] at h2; exact h2
    have HGO : Hid (∀ W, InL W (.agg #[.int .i64 x.clubs, .slice A len c]) x → Calls Tryd.prog 23 #[.agg #[.int .i64 x.clubs, .slice A len c], .int .i64 (k : Int)] W fun e w' => e = .returned (.tuple #[.int .i64 MA, .int .i64 LA]) ∧ Below W.heap.size W w') := fun W h => by
      have h2 := implGoalsOf_ok _ x (k : Int) W h HOK.out hy0 hy1
      rw [hMA, hLA] at h2; exact h2
    have HPO : Hid (∀ W, InL W (.agg #[.int .i64 x.clubs, .slice A len c]) x → Calls Tryd.prog 26 #[.agg #[.int .i64 x.clubs, .slice A len c]] W fun e w' => ∃ gp cp, e = .returned (.slice (some ⟨gp, 0, none⟩) n cp) ∧ n ≤ cp ∧ w'.cell? ⟨gp, k, none⟩ = some (.int .i64 pa) ∧ Below W.heap.size W w') := fun W h => by
      refine (implPointsOf_ok _ x W h HOK.out).mono ?_
      rintro e w' ⟨v', rfl, hf, hb⟩
      rw [HCL.out, Int.toNat_natCast] at hf
      obtain ⟨gp, cp, rfl, hg1, hg2⟩ := hf.someA (by rw [ptsF_length]; omega)
      rw [ptsF_length] at hf
      obtain ⟨b9, o9, pa', e9, hp9, hpc, _⟩ := hf.sl.at_ (k := k) (by rw [ptsF_length]; exact hkn)
      injection e9 with e9; injection e9 with r1 r2 _; subst r1; subst r2
      rw [Nat.zero_add] at hpc
      obtain rfl : pa = pa' := by rw [hpa] at hp9; injection hp9
      obtain ⟨A7, c7, e7, hc7, _⟩ := hf.form
      injection e7 with _ _ e7
      subst e7
      rw [ptsF_length] at hc7 ⊢
      exact ⟨gp, cp, rfl, hc7, hpc, hb⟩
    have HLF : Hid (lineF x (k : Int) = lineB (Lib.itoa (k : Int)) (Lib.itoa (R2 : Nat)) (Lib.itoa (R1 : Nat)) (Lib.itoa (R0 : Nat)) (Lib.itoa MA) (Lib.itoa LA) (Lib.itoa pa)) := by
      show _ = _
      unfold lineF
      rw [hR2, hR1, hR0, hMA, hLA, HCL.out, Int.toNat_natCast, Int.toNat_natCast, hpa2]
    rw [hMA] at hma
    rw [hLA] at hlo
    rw [hR2] at hr2
    rw [hR1] at hr1
    rw [hR0] at hr0
    have hM1 : 0 ≤ MA ∧ MA ≤ 5940 := by omega
    have hL1 : 0 ≤ LA ∧ LA ≤ 5940 := by omega
    have hP1 : 0 ≤ pa ∧ pa ≤ 360 := by omega
    have hR2b : R2 ≤ 60 := by omega
    have hR1b : R1 ≤ 60 := by omega
    have hR0b : R0 ≤ 60 := by omega
    have KQ : Hid (∀ W, Below w1.heap.size w1 W → W.cell? ⟨w.heap.size, 0, none⟩ = some (.int .i64 x.clubs) ∧ W.cell? ⟨w.heap.size, 1, none⟩ = some (.slice A len c) ∧ InL W (.agg #[.int .i64 x.clubs, .slice A len c]) x ∧ tabP W) := fun W h =>
      ⟨(h.cell (p := ⟨w.heap.size, 0, none⟩) B3.out.1).trans W1.out.2.2.1, (h.cell (p := ⟨w.heap.size, 1, none⟩) B3.out.1).trans W1.out.2.2.2.1, W1.out.1.below h, HTT.out.below (B3.out.2.trans (h.mono (Nat.le_of_lt B3.out.1))) (Nat.le_refl _)⟩
    clear hy hy0 hy1 hpa hpa2 hpa3 hpa4 hma hlo hr2 hr1 hr0 hMA hLA hR2 hR1 hR0
    obtain ⟨hM11, hM12⟩ := hM1
    obtain ⟨hL11, hL12⟩ := hL1
    obtain ⟨hP11, hP12⟩ := hP1
    have HF1 : Hid (∃ s1 : List UInt8, Lib.itoa (k : Int) = s1 ∧ s1.length ≤ 21) := ⟨_, rfl, Lib.itoa_length_le _ (by omega) (by omega)⟩
    have HF2 : Hid (∃ s1 : List UInt8, Lib.itoa (R2 : Int) = s1 ∧ s1.length ≤ 21) := ⟨_, rfl, Lib.itoa_length_le _ (by omega) (by omega)⟩
    have HF3 : Hid (∃ s1 : List UInt8, Lib.itoa (R1 : Int) = s1 ∧ s1.length ≤ 21) := ⟨_, rfl, Lib.itoa_length_le _ (by omega) (by omega)⟩
    have HF4 : Hid (∃ s1 : List UInt8, Lib.itoa (R0 : Int) = s1 ∧ s1.length ≤ 21) := ⟨_, rfl, Lib.itoa_length_le _ (by omega) (by omega)⟩
    have HF5 : Hid (∃ s1 : List UInt8, Lib.itoa MA = s1 ∧ s1.length ≤ 21) := ⟨_, rfl, Lib.itoa_length_le _ (by omega) (by omega)⟩
    have HF6 : Hid (∃ s1 : List UInt8, Lib.itoa LA = s1 ∧ s1.length ≤ 21) := ⟨_, rfl, Lib.itoa_length_le _ (by omega) (by omega)⟩
    have HF7 : Hid (∃ s1 : List UInt8, Lib.itoa pa = s1 ∧ s1.length ≤ 21) := ⟨_, rfl, Lib.itoa_length_le _ (by omega) (by omega)⟩
    obtain ⟨s1, g1, y1⟩ := HF1.out
    obtain ⟨s2, g2, y2⟩ := HF2.out
    obtain ⟨s3, g3, y3⟩ := HF3.out
    obtain ⟨s4, g4, y4⟩ := HF4.out
    obtain ⟨s5, g5, y5⟩ := HF5.out
    obtain ⟨s6, g6, y6⟩ := HF6.out
    obtain ⟨s7, g7, y7⟩ := HF7.out
    have C1 : Hid (∀ W, tabP W → Calls Tryd.prog 25 #[.int .i64 (k : Int)] W fun e w' => e = .returned (.string ⟨s1.toArray⟩) ∧ Below W.heap.size W w') := fun W ht => by have h := implFormatInt_any (k : Int) W (by omega) (by omega) ht; rw [g1] at h; exact h
    have C2 : Hid (∀ W, tabP W → Calls Tryd.prog 25 #[.int .i64 (R2 : Int)] W fun e w' => e = .returned (.string ⟨s2.toArray⟩) ∧ Below W.heap.size W w') := fun W ht => by have h := implFormatInt_any (R2 : Int) W (by omega) (by omega) ht; rw [g2] at h; exact h
    have C3 : Hid (∀ W, tabP W → Calls Tryd.prog 25 #[.int .i64 (R1 : Int)] W fun e w' => e = .returned (.string ⟨s3.toArray⟩) ∧ Below W.heap.size W w') := fun W ht => by have h := implFormatInt_any (R1 : Int) W (by omega) (by omega) ht; rw [g3] at h; exact h
    have C4 : Hid (∀ W, tabP W → Calls Tryd.prog 25 #[.int .i64 (R0 : Int)] W fun e w' => e = .returned (.string ⟨s4.toArray⟩) ∧ Below W.heap.size W w') := fun W ht => by have h := implFormatInt_any (R0 : Int) W (by omega) (by omega) ht; rw [g4] at h; exact h
    have C5 : Hid (∀ W, tabP W → Calls Tryd.prog 25 #[.int .i64 MA] W fun e w' => e = .returned (.string ⟨s5.toArray⟩) ∧ Below W.heap.size W w') := fun W ht => by have h := implFormatInt_any MA W (by omega) (by omega) ht; rw [g5] at h; exact h
    have C6 : Hid (∀ W, tabP W → Calls Tryd.prog 25 #[.int .i64 LA] W fun e w' => e = .returned (.string ⟨s6.toArray⟩) ∧ Below W.heap.size W w') := fun W ht => by have h := implFormatInt_any LA W (by omega) (by omega) ht; rw [g6] at h; exact h
    have C7 : Hid (∀ W, tabP W → Calls Tryd.prog 25 #[.int .i64 pa] W fun e w' => e = .returned (.string ⟨s7.toArray⟩) ∧ Below W.heap.size W w') := fun W ht => by have h := implFormatInt_any pa W (by omega) (by omega) ht; rw [g7] at h; exact h
    rw [g1, g2, g3, g4, g5, g6, g7] at HLF
    have HJ : Hid (∀ W, Calls Tryd.prog 24 #[.slice (some ⟨W.heap.size, 0, none⟩) 6 6, .string ⟨#[32]⟩] (W.alloc (.cells #[.string ⟨s1.toArray⟩, .string ⟨s2.toArray⟩, .string ⟨s3.toArray⟩, .string ⟨s4.toArray⟩, .string (((⟨s5.toArray⟩ : ByteArray) ++ ⟨#[58]⟩) ++ ⟨s6.toArray⟩), .string ⟨s7.toArray⟩] 9)) fun e w' => e = .returned (.string ⟨(lineF x (k : Int)).toArray⟩) ∧ Below W.heap.size W w') := fun W => by
      rw [goalsB]
      have ho := World.ownsRow_lit (base := W.heap.size) (e := 9) (size := 1) W #[.string ⟨s1.toArray⟩, .string ⟨s2.toArray⟩, .string ⟨s3.toArray⟩, .string ⟨s4.toArray⟩, .string ⟨(s5 ++ [58] ++ s6).toArray⟩, .string ⟨s7.toArray⟩] 6 (Nat.le_refl _) (by unfold maxLen; omega) rfl
      have hlen : (lineF x (k : Int)).length ≤ 1099511627776 := by rw [HLF.out]; simp [lineB]; omega
      have h := implJoin_any _ W.heap.size 6 [s1, s2, s3, s4, s5 ++ [58] ++ s6, s7] [32] _ ho (by omega) (by omega) (by rw [lineB_join, ← HLF.out]; exact hlen)
      rw [lineB_join, ← HLF.out] at h
      exact h.mono fun e w' ⟨he, hb⟩ => ⟨he, ((Below.refl _ W).alloc (Nat.le_refl _) _).trans (hb.mono (by simp))⟩
    clear g1 g2 g3 g4 g5 g6 g7 HF1 HF2 HF3 HF4 HF5 HF6 HF7 HLF
    obtain ⟨q0, q1, _, _⟩ := KQ.out wr HR.out.be
    have dk : (k : Int) < (n : Int) := by omega
    have hwz : w.heap.size < w1.heap.size := B3.out.1
    go_wp2_with fail
    refine (HREC.out wr (KQ.out wr HR.out.be).2.2.1).mono ?_
    rintro e w6 ⟨rfl, hb⟩
    have T6 : Hid (TzAt w1 w6 w1.heap.size w5.heap.size (.slice (some ⟨b, off, none⟩) m ct) (tableL x) fv j ((linesF x).take j)) := HR.out.below hb
    clear hb q0 q1 hcy
    obtain ⟨q0, q1, _, _⟩ := KQ.out w6 T6.out.be
    go_wp2_with fail
    refine (HGO.out w6 (KQ.out w6 T6.out.be).2.2.1).mono ?_
    rintro e w7 ⟨rfl, hb⟩
    have T7 : Hid (TzAt w1 w7 w1.heap.size w5.heap.size (.slice (some ⟨b, off, none⟩) m ct) (tableL x) fv j ((linesF x).take j)) := T6.out.below hb
    clear hb q0 q1
    obtain ⟨q0, q1, _, _⟩ := KQ.out w7 T7.out.be
    have KT : Hid (∀ W, Below w7.heap.size w7 W → tabP W ∧ InL W (.agg #[.int .i64 x.clubs, .slice A len c]) x) := fun W h => ⟨(KQ.out W (T7.out.below h).be).2.2.2, (KQ.out W (T7.out.below h).be).2.2.1⟩
    have HB : Hid (Below w7.heap.size w7 w7.drew) := (Below.refl _ _).drew
    go_wp2
    have n1 : ¬ 9223372036854775807 < s5.length + 1 := by omega
    have n2 : ¬ 9223372036854775807 < s5.length + 1 + s6.length := by omega
    -- region 7
    refine wp_region_noPanic ?_
    refine wp_region_held_drew (S := fun W => W.cell? ⟨w.heap.size, 0, none⟩ = some (.int .i64 x.clubs) ∧ W.cell? ⟨w.heap.size, 1, none⟩ = some (.slice A len c)) (by kernel_rfl) ⟨q0, q1⟩ (fun hHeld => ?_)
    refine wpAnyH_take (i := 0) (v := ?v0) rfl (by kernel_rfl) (by kernel_rfl) (by kernel_rfl) (fun _ _ _ h => h) (Or.inl ⟨by rfl, ?hy0⟩) (by assumption) ?_
    case hy0 => (intro w hSw; (try dsimp only at hSw); go_simp <;> (try with_reducible rfl))
    try simp only [Act.put, List.setIfInBounds_toArray, List.set_cons_zero, List.set_cons_succ]
    refine wpAnyH_take (i := 1) (v := ?v1) rfl (by kernel_rfl) (by kernel_rfl) (by kernel_rfl) (fun _ _ _ h => h) (Or.inl ⟨by rfl, ?hy1⟩) (by assumption) ?_
    case hy1 => (intro w hSw; (try dsimp only at hSw); go_simp <;> (try with_reducible rfl))
    try simp only [Act.put, List.setIfInBounds_toArray, List.set_cons_zero, List.set_cons_succ]
    refine wpAnyH_take (i := 3) (v := ?v3) rfl (by kernel_rfl) (by kernel_rfl) (by kernel_rfl) (fun _ _ _ h => h) (Or.inl ⟨by rfl, ?hy3⟩) (by assumption) ?_
    case hy3 => (intro w hSw; (try dsimp only at hSw); go_simp <;> (try with_reducible rfl))
    try simp only [Act.put, List.setIfInBounds_toArray, List.set_cons_zero, List.set_cons_succ]
    refine wpAnyH_take (i := 5) (v := ?v5) rfl (by kernel_rfl) (by kernel_rfl) (by kernel_rfl) (fun _ _ _ h => h) (Or.inl ⟨by rfl, ?hy5⟩) (by assumption) ?_
    case hy5 => (intro w hSw; (try dsimp only at hSw); go_simp <;> (try with_reducible rfl))
    try simp only [Act.put, List.setIfInBounds_toArray, List.set_cons_zero, List.set_cons_succ]
    refine wpAnyH_take (i := 7) (v := ?v7) rfl (by kernel_rfl) (by kernel_rfl) (by kernel_rfl) (fun _ _ _ h => h) (Or.inl ⟨by rfl, ?hy7⟩) (by assumption) ?_
    case hy7 => (intro w hSw; (try dsimp only at hSw); go_simp <;> (try with_reducible rfl))
    try simp only [Act.put, List.setIfInBounds_toArray, List.set_cons_zero, List.set_cons_succ]
    refine wpAnyH_take (i := 9) (v := ?v9) rfl (by kernel_rfl) (by kernel_rfl) (by kernel_rfl) (fun _ _ _ h => h) (Or.inl ⟨by rfl, ?hy9⟩) (by assumption) ?_
    case hy9 => (intro w hSw; (try dsimp only at hSw); go_simp <;> (try with_reducible rfl))
    try simp only [Act.put, List.setIfInBounds_toArray, List.set_cons_zero, List.set_cons_succ]
    refine wpAnyH_take (i := 12) (v := ?v12) rfl (by kernel_rfl) (by kernel_rfl) (by kernel_rfl) (fun _ _ _ h => h) (Or.inl ⟨by rfl, ?hy12⟩) (by assumption) ?_
    case hy12 => (intro w hSw; (try dsimp only at hSw); go_simp <;> (try with_reducible rfl))
    try simp only [Act.put, List.setIfInBounds_toArray, List.set_cons_zero, List.set_cons_succ]
    refine wpAnyH_take (i := 17) (v := ?v17) rfl (by kernel_rfl) (by kernel_rfl) (by kernel_rfl) (fun _ _ _ h => h) (Or.inl ⟨by rfl, ?hy17⟩) (by assumption) ?_
    case hy17 => (intro w hSw; (try dsimp only at hSw); go_simp <;> (try with_reducible rfl))
    try simp only [Act.put, List.setIfInBounds_toArray, List.set_cons_zero, List.set_cons_succ]
    refine wpAnyH_take (i := 15) (v := ?v15) rfl (by kernel_rfl) (by kernel_rfl) (by kernel_rfl) (fun _ _ _ h => h) (Or.inl ⟨by rfl, ?hy15⟩) (by assumption) ?_
    case hy15 => (intro w hSw; (try dsimp only at hSw); go_simp <;> (try with_reducible rfl))
    try simp only [Act.put, List.setIfInBounds_toArray, List.set_cons_zero, List.set_cons_succ]
    refine wpAnyH_ready (rs := [2]) (by kernel_rfl) (by simp) ?_
    refine AllReadyH.cons rfl (fun K hK => ?_) AllReadyH.nil
    go_simp
    go_at_call 25
    (with_reducible refine (C1.out _ (KT.out _ HB.out).1).mono ?_)
    rintro e w8 ⟨rfl, hb⟩
    replace HB : Hid (Below w7.heap.size w7 w8) := HB.out.trans (hb.mono HB.out.size)
    clear hb
    try (go_wp2_with fail)
    refine hK.out _ _ ⟨(KQ.out _ (T7.out.below HB.out).be).1, (KQ.out _ (T7.out.below HB.out).be).2.1⟩ (fun hHeld => ?_)
    clear hK K
    try simp only [Act.put, List.setIfInBounds_toArray, List.set_cons_zero, List.set_cons_succ]
    refine wpAnyH_ready (rs := [4]) (by kernel_rfl) (by simp) ?_
    refine AllReadyH.cons rfl (fun K hK => ?_) AllReadyH.nil
    go_simp
    go_at_call 25
    (with_reducible refine (C2.out _ (KT.out _ HB.out).1).mono ?_)
    rintro e w8 ⟨rfl, hb⟩
    replace HB : Hid (Below w7.heap.size w7 w8) := HB.out.trans (hb.mono HB.out.size)
    clear hb
    try (go_wp2_with fail)
    refine hK.out _ _ ⟨(KQ.out _ (T7.out.below HB.out).be).1, (KQ.out _ (T7.out.below HB.out).be).2.1⟩ (fun hHeld => ?_)
    clear hK K
    try simp only [Act.put, List.setIfInBounds_toArray, List.set_cons_zero, List.set_cons_succ]
    refine wpAnyH_ready (rs := [6]) (by kernel_rfl) (by simp) ?_
    refine AllReadyH.cons rfl (fun K hK => ?_) AllReadyH.nil
    go_simp
    go_at_call 25
    (with_reducible refine (C3.out _ (KT.out _ HB.out).1).mono ?_)
    rintro e w8 ⟨rfl, hb⟩
    replace HB : Hid (Below w7.heap.size w7 w8) := HB.out.trans (hb.mono HB.out.size)
    clear hb
    try (go_wp2_with fail)
    refine hK.out _ _ ⟨(KQ.out _ (T7.out.below HB.out).be).1, (KQ.out _ (T7.out.below HB.out).be).2.1⟩ (fun hHeld => ?_)
    clear hK K
    try simp only [Act.put, List.setIfInBounds_toArray, List.set_cons_zero, List.set_cons_succ]
    refine wpAnyH_ready (rs := [8]) (by kernel_rfl) (by simp) ?_
    refine AllReadyH.cons rfl (fun K hK => ?_) AllReadyH.nil
    go_simp
    go_at_call 25
    (with_reducible refine (C4.out _ (KT.out _ HB.out).1).mono ?_)
    rintro e w8 ⟨rfl, hb⟩
    replace HB : Hid (Below w7.heap.size w7 w8) := HB.out.trans (hb.mono HB.out.size)
    clear hb
    try (go_wp2_with fail)
    refine hK.out _ _ ⟨(KQ.out _ (T7.out.below HB.out).be).1, (KQ.out _ (T7.out.below HB.out).be).2.1⟩ (fun hHeld => ?_)
    clear hK K
    try simp only [Act.put, List.setIfInBounds_toArray, List.set_cons_zero, List.set_cons_succ]
    refine wpAnyH_ready (rs := [10]) (by kernel_rfl) (by simp) ?_
    refine AllReadyH.cons rfl (fun K hK => ?_) AllReadyH.nil
    go_simp
    go_at_call 25
    (with_reducible refine (C5.out _ (KT.out _ HB.out).1).mono ?_)
    rintro e w8 ⟨rfl, hb⟩
    replace HB : Hid (Below w7.heap.size w7 w8) := HB.out.trans (hb.mono HB.out.size)
    clear hb
    try (go_wp2_with fail)
    refine hK.out _ _ ⟨(KQ.out _ (T7.out.below HB.out).be).1, (KQ.out _ (T7.out.below HB.out).be).2.1⟩ (fun hHeld => ?_)
    clear hK K
    try simp only [Act.put, List.setIfInBounds_toArray, List.set_cons_zero, List.set_cons_succ]
    refine wpAnyH_take (i := 11) (v := ?v11) rfl (by kernel_rfl) (by kernel_rfl) (by kernel_rfl) (fun _ _ _ h => h) (Or.inl ⟨by rfl, ?hy11⟩) (by assumption) ?_
    case hy11 => (intro w hSw; (try dsimp only at hSw); go_simp <;> (try with_reducible rfl))
    try simp only [Act.put, List.setIfInBounds_toArray, List.set_cons_zero, List.set_cons_succ]
    refine wpAnyH_ready (rs := [13]) (by kernel_rfl) (by simp) ?_
    refine AllReadyH.cons rfl (fun K hK => ?_) AllReadyH.nil
    go_simp
    go_at_call 25
    (with_reducible refine (C6.out _ (KT.out _ HB.out).1).mono ?_)
    rintro e w8 ⟨rfl, hb⟩
    replace HB : Hid (Below w7.heap.size w7 w8) := HB.out.trans (hb.mono HB.out.size)
    clear hb
    try (go_wp2_with fail)
    refine hK.out _ _ ⟨(KQ.out _ (T7.out.below HB.out).be).1, (KQ.out _ (T7.out.below HB.out).be).2.1⟩ (fun hHeld => ?_)
    clear hK K
    try simp only [Act.put, List.setIfInBounds_toArray, List.set_cons_zero, List.set_cons_succ]
    refine wpAnyH_take (i := 14) (v := ?v14) rfl (by kernel_rfl) (by kernel_rfl) (by kernel_rfl) (fun _ _ _ h => h) (Or.inl ⟨by rfl, ?hy14⟩) (by assumption) ?_
    case hy14 => (intro w hSw; (try dsimp only at hSw); go_simp <;> (try with_reducible rfl))
    try simp only [Act.put, List.setIfInBounds_toArray, List.set_cons_zero, List.set_cons_succ]
    refine wpAnyH_ready (rs := [16]) (by kernel_rfl) (by simp) ?_
    refine AllReadyH.cons rfl (fun K hK => ?_) AllReadyH.nil
    go_simp
    go_at_call 26
    (with_reducible refine (HPO.out _ (KT.out _ HB.out).2).mono ?_)
    rintro e w8 ⟨gp, cp, rfl, hcp, hp9, hb⟩
    replace HB : Hid (Below w7.heap.size w7 w8) := HB.out.trans (hb.mono HB.out.size)
    clear hb
    try (go_wp2_with fail)
    refine hK.out _ _ ⟨(KQ.out _ (T7.out.below HB.out).be).1, (KQ.out _ (T7.out.below HB.out).be).2.1⟩ (fun hHeld => ?_)
    clear hK K
    try simp only [Act.put, List.setIfInBounds_toArray, List.set_cons_zero, List.set_cons_succ]
    refine wpAnyH_take (i := 18) (v := ?v18) rfl (by kernel_rfl) (by kernel_rfl) (by kernel_rfl) (fun _ _ _ h => h) (Or.inl ⟨by rfl, ?hy18⟩) (by assumption) ?_
    case hy18 => (intro w hSw; (try dsimp only at hSw); go_simp <;> (try with_reducible rfl))
    try simp only [Act.put, List.setIfInBounds_toArray, List.set_cons_zero, List.set_cons_succ]
    refine wpAnyH_ready (rs := [19]) (by kernel_rfl) (by simp) ?_
    refine AllReadyH.cons rfl (fun K hK => ?_) AllReadyH.nil
    go_simp
    refine hK.out _ _ ⟨(KQ.out _ (T7.out.below HB.out).be).1, (KQ.out _ (T7.out.below HB.out).be).2.1⟩ (fun hHeld => ?_)
    clear hK K
    try simp only [Act.put, List.setIfInBounds_toArray, List.set_cons_zero, List.set_cons_succ]
    clear hp9
    refine wpAnyH_ready (rs := [20]) (by kernel_rfl) (by simp) ?_
    refine AllReadyH.cons rfl (fun K hK => ?_) AllReadyH.nil
    go_simp
    go_at_call 25
    (with_reducible refine (C7.out _ (KT.out _ HB.out).1).mono ?_)
    rintro e w8 ⟨rfl, hb⟩
    replace HB : Hid (Below w7.heap.size w7 w8) := HB.out.trans (hb.mono HB.out.size)
    clear hb
    try (go_wp2_with fail)
    refine hK.out _ _ ⟨(KQ.out _ (T7.out.below HB.out).be).1, (KQ.out _ (T7.out.below HB.out).be).2.1⟩ (fun hHeld => ?_)
    clear hK K
    try simp only [Act.put, List.setIfInBounds_toArray, List.set_cons_zero, List.set_cons_succ]
    refine wpAnyH_ready (rs := [21]) (by kernel_rfl) (by simp) ?_
    refine AllReadyH.cons rfl (fun K hK => ?_) AllReadyH.nil
    go_simp
    refine hK.out _ _ ⟨(KQ.out _ ((T7.out.below HB.out).below ((Below.refl _ _).alloc (Nat.le_refl _) _)).be).1, (KQ.out _ ((T7.out.below HB.out).below ((Below.refl _ _).alloc (Nat.le_refl _) _)).be).2.1⟩ (fun hHeld => ?_)
    clear hK K
    try simp only [Act.put, List.setIfInBounds_toArray, List.set_cons_zero, List.set_cons_succ]
    refine wpAnyH_ready (rs := [22]) (by kernel_rfl) (by simp) ?_
    refine AllReadyH.cons rfl (fun K hK => ?_) AllReadyH.nil
    go_simp
    go_at_call 24
    (with_reducible refine (HJ.out _).mono ?_)
    rintro e w8 ⟨rfl, hb⟩
    replace HB : Hid (Below w7.heap.size w7 w8) := HB.out.trans (hb.mono HB.out.size)
    clear hb
    try (go_wp2_with fail)
    refine hK.out _ _ ⟨(KQ.out _ (T7.out.below HB.out).be).1, (KQ.out _ (T7.out.below HB.out).be).2.1⟩ (fun hHeld => ?_)
    clear hK K
    try simp only [Act.put, List.setIfInBounds_toArray, List.set_cons_zero, List.set_cons_succ]
    refine wpAnyH_ready (rs := [23]) (by kernel_rfl) (by simp) ?_
    refine AllReadyH.cons rfl (fun K hK => ?_) AllReadyH.nil
    go_simp
    refine hK.out _ _ ⟨(KQ.out _ ((T7.out.below HB.out).below ((Below.refl _ _).alloc (Nat.le_refl _) _)).be).1, (KQ.out _ ((T7.out.below HB.out).below ((Below.refl _ _).alloc (Nat.le_refl _) _)).be).2.1⟩ (fun hHeld => ?_)
    clear hK K
    try simp only [Act.put, List.setIfInBounds_toArray, List.set_cons_zero, List.set_cons_succ]
    refine wpAnyH_ready (rs := [24]) (by kernel_rfl) (by simp) ?_
    refine AllReadyH.cons rfl (fun K hK => ?_) AllReadyH.nil
    refine stepAppZ rfl (.tmp 31) (.tmp 54) rfl w1.heap.size fv j ((linesF x).take j) rfl ((T7.out.below HB.out).own.alloc _) ⟨w8.heap.size, 0, none⟩ (lineF x (k : Int)) rfl (by simp) (by omega) (by have h1 := (T7.out.below HB.out).be.size; simp; omega) ?_
    intro v9 w9 hown9 hg9
    have H9 : Hid (TzAt w1 w9 w1.heap.size w5.heap.size (.slice (some ⟨b, off, none⟩) m ct) (tableL x) v9 (j + 1) ((linesF x).take (j + 1))) := by (rw [HTK.out]; exact ((T7.out.below HB.out).below ((Below.refl _ _).alloc (Nat.le_refl _) _)).next hown9 hg9)
    clear hown9 hg9
    refine hK.out _ _ ⟨(KQ.out _ H9.out.be).1, (KQ.out _ H9.out.be).2.1⟩ (fun hHeld => ?_)
    clear hK K
    try simp only [Act.put, List.setIfInBounds_toArray, List.set_cons_zero, List.set_cons_succ]
    refine wpAnyH_take (i := 25) (v := ?v25) rfl (by kernel_rfl) (by kernel_rfl) (by kernel_rfl) (fun _ _ _ h => h) (Or.inl ⟨by rfl, ?hy25⟩) (by assumption) ?_
    case hy25 => (intro w hSw; (try dsimp only at hSw); go_simp <;> (try with_reducible rfl))
    try simp only [Act.put, List.setIfInBounds_toArray, List.set_cons_zero, List.set_cons_succ]
    refine wpAnyH_done (by kernel_rfl) ?_ _
    refine NoPanic.normal ?_
    -- end of region 7
    all_goals go_wp2
    all_goals go_roundw
    case rel => exact ⟨j + 1, _, by omega, by go_num, rfl, H9.out⟩
    case measure => simp [intOf]; omega
end Go.Proofs.YtpjbgcflepebgaaDoor
