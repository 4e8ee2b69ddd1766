/- Corrections of a league: contracts. -/
import Derived.Test.YthlkhmbndaecfaaLo
import Derived.WalkSpells
namespace Go.Proofs.Ythlkhmbndaecfaa
open Go.ChangeShapes Go.WideShapes Go.ChangeAt Go.RowKit

set_option maxRecDepth 100000 in
/-- 'append(out, src...)' at a row of results of the call's own, the source not nil. -/
theorem appSrcR {ops : Array Oper} {rest : List Oper} {o : Oper} {a : Act} {Q : Exit → Act → World → Prop} (hgd : o.guard = none) (s y : Operand)
    (ho : o.op = .call { callee := .builtin .append, args := #[s, y], argTypes := #[23, 23] })
    (w : World) (base : Nat) (v : Value) (n : Nat) (xs : List Res) (hs : a.eval s = v) (hown : w.ownsRow base 39 4 v n (ints (flat xs))) (ad : Addr) (m c : Nat) (ys : List Res) (hm : ys.length = m)
    (hx : a.eval y = .slice (some ad) m c) (hys : SlR w (some ad) ys) (hl : n + m ≤ 1048576) (hbase : base ≤ w.heap.size)
    (h : ∀ v' w', w'.ownsRow base 39 4 v' (n + m) (ints (flat (xs ++ ys))) → (∀ B, B ≤ base → B ≤ w.heap.size → Below B w w') → w.grownBy w' v.ownBlock → wpList Try.prog ops Q rest (a.put o.dst v') w') :
    wpList Try.prog ops Q (o :: rest) a w := by
  obtain ⟨i0, hi, hz0, hz1, hz2⟩ := info_parts infoR
  refine wpList_append_own _ hgd s y _ ho base 39 i0 _ 4 32 Try.underlying23 hi hz0 hz1 hz2 rfl (by decide) v n (ints (flat xs)) hs hown ad m c (ints (flat ys)) hx (by simp [ints, flat_length, hm]) ?_ ?_ (by unfold maxLen; omega) (by omega) hbase ?_
  · intro j u hj
    rcases hys with hy | ⟨b, off, hA, hc⟩
    · rw [hy] at hj; simp [ints] at hj
    · injection hA with hA
      subst hA
      simp only [ints, List.getElem?_map, Option.map_eq_some_iff] at hj
      obtain ⟨y, hy, rfl⟩ := hj
      rw [Go.WideShapes.add_plain]; exact hc j y hy
  · intro u hu
    simp only [ints, List.mem_map] at hu
    obtain ⟨y, _, rfl⟩ := hu; rfl
  · intro v' w' h2 h3 _
    refine h v' w' (by rw [flat_append, ints_append]; exact h2) (fun B h4 h5 => ?_) h3
    refine (Below.refl B w).grown h3 h5 (fun k hk => ?_)
    have := (hown.lt k hk).1; omega

set_option maxRecDepth 100000 in
theorem cloneR_any (A : Option Addr) (c : Nat) (xs : List Res) (w : World) (hs : SlR w A xs) (hn : xs.length ≤ 1048576) :
    Calls Try.prog 37 #[.slice A xs.length c] w fun e w' => ∃ v', e = .returned v' ∧ FrR w' w.heap.size w'.heap.size v' xs ∧ Below w.heap.size w w' := by
  have qT : ∀ (w : World) (a : Option Addr) (n c n' c' : Nat), (binOp .eql 23 (.slice a n c) (.slice none n' c')).run Try.prog w = .ok (.bool a.isNone) w := fun w a n c n' c' => Lib.run_eql_slice_nil w _ _ a n c n' c' Try.underlying23
  cases A with
  | none =>
    have hl : xs = [] := by
      have h : flat xs = [] := by
        rcases hs with h | ⟨_, _, h, _⟩
        · exact h
        · cases h
      have h2 := flat_length xs
      rw [h] at h2
      exact List.eq_nil_of_length_eq_zero (by simp at h2; omega)
    subst hl
    go_enter Try.func37, Try.ntmps37
    go_wp2
    go_ret
    exact ⟨_, rfl, FrR.nil w (Nat.le_refl _), Below.refl _ _⟩
  | some ad =>
    have HS := Lib.hid hs
    clear hs
    generalize hl : xs.length = n at *
    have HL := Lib.hid hl
    clear hl
    go_enter Try.func37, Try.ntmps37
    go_wp2_with (at_builtin; refine appSrcR rfl _ _ rfl (w.alloc (.cells #[] 39)) w.heap.size _ 0 [] rfl (World.ownsRow_made w #[] 0 (Nat.le_refl _) (by unfold maxLen; omega) rfl) ad n c xs HL.out rfl (SlI.alloc HS.out _) (by omega) (by simp) ?_; intro v' w1 hown hb _)
    have HF : Hid (FrR w1 w.heap.size w1.heap.size v' xs) := FrR.of_own (by rw [HL.out]; simpa using hown)
    have HB : Hid (Below w.heap.size w w1) := (((Below.refl w.heap.size w).alloc (Nat.le_refl _) (.cells #[] 39)).trans (hb w.heap.size (Nat.le_refl _) (by simp)))
    clear hown hb
    go_wp2
    go_ret
    exact ⟨_, rfl, HF.out, HB.out⟩

def hasR (x : LeagueV) (i : Int) : Bool := leagueB x && inB i 0 ((x.results.length : Int) - 1)

set_option maxRecDepth 100000 in
theorem hasResult_any (v : Value) (x : LeagueV) (i : Int) (w : World) (hs : InL w v x) (hn : x.results.length ≤ 1048576) :
    Calls Try.prog 34 #[v, .int .i64 i] w fun e w' => e = .returned (.bool (hasR x i)) ∧ Below w.heap.size w w' := by
  have hs0 := hs
  obtain ⟨A, c, rfl, hc, hm, hsl, hw⟩ := hs
  have HS := Lib.hid hs0
  have H0 : Hid (hasR x i = (leagueB x && inB i 0 ((x.results.length : Int) - 1))) := rfl
  clear hs0 hsl
  cases h1 : leagueB x
  · go_enter Try.func34, Try.ntmps34
    go_wp2_with (go_at_call 14; refine (implLeagueOk_any _ x _ (HS.out.below ((Below.refl _ w).alloc (Nat.le_refl _) _))).mono ?_; rintro e w1 ⟨rfl, hb⟩; rw [h1]; have HB : Hid (Below w.heap.size w w1) := ((Below.refl _ w).alloc (Nat.le_refl _) _).trans (hb.mono (by simp)); clear hb)
    go_ret
    exact ⟨ret_bool (by rw [H0.out, h1]; rfl), HB.out⟩
  · go_enter Try.func34, Try.ntmps34
    go_wp2_with (first | (go_at_call 14; refine (implLeagueOk_any _ x _ (HS.out.below ((Below.refl _ w).alloc (Nat.le_refl _) _))).mono ?_; rintro e w1 ⟨rfl, hb⟩; rw [h1]; have q1 : w1.cell? ⟨w.heap.size, 1, none⟩ = some (.slice A x.results.length c) := (by rw [hb.cell (by simp)]; simp); have HB : Hid (Below w.heap.size w w1) := ((Below.refl _ w).alloc (Nat.le_refl _) _).trans (hb.mono (by simp)); clear hb) | (go_at_call 22; refine (within_any _ _ _ _).mono ?_; rintro e w' ⟨rfl, rfl⟩))
    go_ret
    exact ⟨ret_bool (by rw [H0.out, h1]; rfl), HB.out⟩

def withV (c : Int) (rs : List Res) (u : Value) : Value := if leagueB ⟨c, rs⟩ then .agg #[.int .i64 c, u] else .agg #[.int .i64 0, .slice none 0 0]
def withQ (c : Int) (rs : List Res) : LeagueV := if leagueB ⟨c, rs⟩ then ⟨c, rs⟩ else ⟨0, []⟩
set_option maxHeartbeats 1000000 in
set_option maxRecDepth 100000 in
theorem with_any (A0 A : Option Addr) (n0 c0 c : Nat) (cl : Int) (rs : List Res) (w : World) (hw : (Lit.int .i64 cl).wf = true) (hr : SlR w A rs) (hc : rs.length ≤ c) (hm : c ≤ maxLen) :
    Calls Try.prog 35 #[.agg #[.int .i64 cl, .slice A0 n0 c0], .slice A rs.length c] w fun e w' => e = .returned (.tuple #[withV cl rs (.slice A rs.length c), .bool (leagueB ⟨cl, rs⟩)]) ∧ Below w.heap.size w w' := by
  have HR := Lib.hid hr
  have H0 : Hid (withV cl rs (.slice A rs.length c) = if leagueB ⟨cl, rs⟩ then .agg #[.int .i64 cl, .slice A rs.length c] else .agg #[.int .i64 0, .slice none 0 0]) := rfl
  clear hr
  cases h : leagueB ⟨cl, rs⟩
  all_goals
    go_enter Try.func35, Try.ntmps35
    go_wp2_with fail
    refine (implLeagueOk_any _ ⟨cl, rs⟩ _ ⟨A, c, rfl, hc, hm, SlI.alloc (SlI.alloc (SlI.alloc HR.out _) _) _, hw⟩).mono ?_
    rintro e w1 ⟨rfl, hb⟩
    rw [h]
    (try simp only [World.size_alloc] at hb)
    have r0 : w1.cell? ⟨w.heap.size + 1, 0, none⟩ = some (.int .i64 0) := by rw [hb.cell (p := ⟨w.heap.size + 1, 0, none⟩) (by show w.heap.size + 1 < _; first | omega | (simp; omega) | simp)]; simp [go_sem]
    have r1 : w1.cell? ⟨w.heap.size + 1, 1, none⟩ = some (.slice none 0 0) := by rw [hb.cell (p := ⟨w.heap.size + 1, 1, none⟩) (by show w.heap.size + 1 < _; first | omega | (simp; omega) | simp)]; simp [go_sem]
    have r2 : w1.frozen? ⟨w.heap.size + 1, 0, none⟩ = false := by rw [hb.frozen (p := ⟨w.heap.size + 1, 0, none⟩) (by show w.heap.size + 1 < _; first | omega | (simp; omega) | simp)]; simp [go_sem]
    have r3 : w1.frozen? ⟨w.heap.size + 1, 1, none⟩ = false := by rw [hb.frozen (p := ⟨w.heap.size + 1, 1, none⟩) (by show w.heap.size + 1 < _; first | omega | (simp; omega) | simp)]; simp [go_sem]
    have r4 : w1.cell? ⟨w.heap.size + 1 + 1, 0, none⟩ = some (.int .i64 cl) := by rw [hb.cell (p := ⟨w.heap.size + 1 + 1, 0, none⟩) (by show w.heap.size + 1 + 1 < _; first | omega | (simp; omega) | simp)]; simp [go_sem]
    have r5 : w1.cell? ⟨w.heap.size + 1 + 1, 1, none⟩ = some (.slice A rs.length c) := by rw [hb.cell (p := ⟨w.heap.size + 1 + 1, 1, none⟩) (by show w.heap.size + 1 + 1 < _; first | omega | (simp; omega) | simp)]; simp [go_sem]
    have HB : Hid (Below w.heap.size w w1) := ((((Below.refl _ w).alloc (Nat.le_refl _) _).alloc (by simp) _).alloc (by simp; omega) _).trans (hb.mono (by first | omega | (simp; omega)))
    clear hb
    go_wp2
  · refine bodyPost_ret (v := .tuple #[.agg #[.int .i64 0, .slice none 0 0], .bool false]) (by simp [results, Try.results35, go_sem, r0, r1]) rfl ⟨by rw [H0.out, h]; rfl, (HB.out.setCell (by show _ ≤ w.heap.size + 1; omega) _).setCell (by show _ ≤ w.heap.size + 1; omega) _⟩
  · refine bodyPost_ret (v := .tuple #[.agg #[.int .i64 cl, .slice A rs.length c], .bool true]) (by simp [results, Try.results35, go_sem, r0, r1]) rfl ⟨by rw [H0.out, h]; rfl, (HB.out.setCell (by show _ ≤ w.heap.size + 1; omega) _).setCell (by show _ ≤ w.heap.size + 1; omega) _⟩

theorem flat_set2 : ∀ {rs : List Res} {k : Nat} {r : Res}, rs[k]? = some r → ∀ (z u : Int), ((flat rs).set (k * 4 + 2) z).set (k * 4 + 3) u = flat (rs.set k ⟨r.h, r.a, z, u⟩)
  | r' :: rs, 0, r, h, z, u => by
    simp only [List.getElem?_cons_zero, Option.some.injEq] at h
    subst h; rfl
  | r' :: rs, k + 1, r, h, z, u => by
    rw [List.getElem?_cons_succ] at h
    have ih := flat_set2 h z u
    rw [show (k + 1) * 4 = k * 4 + 4 from by omega]
    show r'.h :: r'.a :: r'.g :: r'.t :: ((flat rs).set (k * 4 + 2) z).set (k * 4 + 3) u = _
    rw [ih]; rfl
/-- Two stores: the goals of a result. -/
theorem FrR.at2 {w : World} {lo hi n c : Nat} {A : Option Addr} {rs : List Res} (h : FrR w lo hi (.slice A n c) rs) {k : Nat} {r : Res} (hk : rs[k]? = some r) :
    ∃ g, A = some ⟨g, 0, none⟩ ∧ lo ≤ g ∧ g < hi ∧ w.cell? ⟨g, k * 4 + 2, none⟩ = some (.int .i64 r.g) ∧ w.cell? ⟨g, k * 4 + 3, none⟩ = some (.int .i64 r.t) ∧ (∀ j, w.frozen? ⟨g, j, none⟩ = false) ∧
      ∀ z u, FrR ((w.setCell ⟨g, k * 4 + 2, none⟩ (.int .i64 z)).setCell ⟨g, k * 4 + 3, none⟩ (.int .i64 u)) lo hi (.slice A n c) (rs.set k ⟨r.h, r.a, z, u⟩) ∧
        Keep lo hi w ((w.setCell ⟨g, k * 4 + 2, none⟩ (.int .i64 z)).setCell ⟨g, k * 4 + 3, none⟩ (.int .i64 u)) := by
  have hlt : k < rs.length := (List.getElem?_eq_some_iff.1 hk).1
  obtain ⟨g, r', rfl, hlo, hhi, hr, ⟨_, _, c3, c4⟩, hfz, _⟩ := h.at_ hlt
  obtain rfl : r = r' := by rw [hk] at hr; injection hr
  refine ⟨g, rfl, hlo, hhi, c3, c4, hfz, fun z u => ⟨⟨?_, fun g' hg' => h.2.1 g' hg', by simpa [World.setCell] using h.2.2⟩, ((Keep.refl _ _ _).setCell (p := ⟨g, k * 4 + 2, none⟩) hlo hhi _).setCell (p := ⟨g, k * 4 + 3, none⟩) hlo hhi _⟩⟩
  obtain ⟨A', c', he, _⟩ := h.form
  injection he with _ hn _
  subst hn
  have s1 := ((h.1.stored (k * 4 + 2) (.int .i64 z)).1.stored (k * 4 + 3) (.int .i64 u)).1
  rw [ints_set, ints_set, flat_set2 hk] at s1
  rw [List.length_set]; exact s1

def replQ (x : LeagueV) (i z u : Int) : LeagueV := ⟨x.clubs, x.results.set i.toNat ⟨(x.results.getD i.toNat default).h, (x.results.getD i.toNat default).a, z, u⟩⟩
def replOk (x : LeagueV) (i z u : Int) : Bool := hasR x i && leagueB (replQ x i z u)
def replF (x : LeagueV) (i z u : Int) : LeagueV := if replOk x i z u then replQ x i z u else ⟨0, []⟩
set_option maxHeartbeats 2000000 in
set_option maxRecDepth 100000 in
theorem implReplaceResult_any (v : Value) (x : LeagueV) (i z u : Int) (w : World) (hs : InL w v x) (hn : x.results.length ≤ 1048576) :
    Calls Try.prog 16 #[v, .int .i64 i, .int .i64 z, .int .i64 u] w fun e w' => ∃ v', e = .returned (.tuple #[v', .bool (replOk x i z u)]) ∧ OwL w' w.heap.size w'.heap.size v' (replF x i z u) ∧ Below w.heap.size w w' := by
  have hs0 := hs
  obtain ⟨A, c, rfl, hc, hm, hsl, hw⟩ := hs
  have HS := Lib.hid (And.intro hs0 hsl)
  clear hs0 hsl
  cases h1 : hasR x i
  · have HO : Hid (replOk x i z u = false ∧ replF x i z u = ⟨0, []⟩) := by constructor <;> simp [replF, replOk, h1]
    go_enter Try.func16, Try.ntmps16
    go_wp2_with fail
    refine (hasResult_any _ x i _ (HS.out.1.below (((Below.refl _ w).alloc (Nat.le_refl _) _).alloc (by simp) _)) hn).mono ?_
    rintro e w1 ⟨rfl, hb⟩
    rw [h1]
    (try simp only [World.size_alloc] at hb)
    have r0 : w1.cell? ⟨w.heap.size + 1, 0, none⟩ = some (.int .i64 0) := by rw [hb.cell (p := ⟨w.heap.size + 1, 0, none⟩) (by show w.heap.size + 1 < _; first | omega | simp)]; simp [go_sem]
    have r1 : w1.cell? ⟨w.heap.size + 1, 1, none⟩ = some (.slice none 0 0) := by rw [hb.cell (p := ⟨w.heap.size + 1, 1, none⟩) (by show w.heap.size + 1 < _; first | omega | simp)]; simp [go_sem]
    have r2 : w1.frozen? ⟨w.heap.size + 1, 0, none⟩ = false := by rw [hb.frozen (p := ⟨w.heap.size + 1, 0, none⟩) (by show w.heap.size + 1 < _; first | omega | simp)]; simp [go_sem]
    have r3 : w1.frozen? ⟨w.heap.size + 1, 1, none⟩ = false := by rw [hb.frozen (p := ⟨w.heap.size + 1, 1, none⟩) (by show w.heap.size + 1 < _; first | omega | simp)]; simp [go_sem]
    have HB : Hid (Below w.heap.size w w1) := (((Below.refl _ w).alloc (Nat.le_refl _) _).alloc (by simp) _).trans (hb.mono (by first | omega | (simp; omega)))
    clear hb
    go_wp2
    have KP : Keep (w.heap.size + 1) (w.heap.size + 2) w1 ((w1.setCell ⟨w.heap.size + 1, 0, none⟩ (.int .i64 0)).setCell ⟨w.heap.size + 1, 1, none⟩ (.slice none 0 0)) :=
      ((Keep.refl _ _ _).setCell (p := ⟨w.heap.size + 1, 0, none⟩) (Nat.le_refl _) (Nat.lt_succ_self _) _).setCell (p := ⟨w.heap.size + 1, 1, none⟩) (Nat.le_refl _) (Nat.lt_succ_self _) _
    refine bodyPost_ret (v := .tuple #[.agg #[.int .i64 0, .slice none 0 0], .bool false]) (by simp [results, Try.results16, go_sem, r0, r1]) rfl ⟨_, by rw [HO.out.1], ?_, HB.out.trans (KP.below (by omega) HB.out.size)⟩
    rw [HO.out.2]
    exact ⟨_, rfl, FrR.nil _ (Nat.le_refl _), by decide⟩
  · have hib : inB i 0 ((x.results.length : Int) - 1) = true := by
      unfold hasR at h1; rw [Bool.and_eq_true] at h1; exact h1.2
    obtain ⟨i1, i2⟩ := inB_t.1 hib
    obtain ⟨k, rfl⟩ := Int.eq_ofNat_of_zero_le i1
    have hk : k < x.results.length := by omega
    have hxk : x.results[k]? = some x.results[k] := List.getElem?_eq_getElem hk
    generalize x.results[k] = r at *
    have HQ : Hid (replQ x k z u = ⟨x.clubs, x.results.set k ⟨r.h, r.a, z, u⟩⟩) := by
      show _ = _
      unfold replQ
      rw [Int.toNat_natCast, List.getD_eq_getElem?_getD, hxk]; rfl
    have HO : Hid (replOk x k z u = leagueB (replQ x k z u)) := by show _ = _; rw [replOk, h1]; rfl
    have HK := Lib.hid hxk
    have H1 := Lib.hid h1
    clear hib hxk h1
    go_enter Try.func16, Try.ntmps16
    go_wp2_with fail
    refine (hasResult_any _ x _ _ (HS.out.1.below (((Below.refl _ w).alloc (Nat.le_refl _) _).alloc (by simp) _)) hn).mono ?_
    rintro e w1 ⟨rfl, hb⟩
    rw [H1.out]
    (try simp only [World.size_alloc] at hb)
    have q0 : w1.cell? ⟨w.heap.size, 0, none⟩ = some (.int .i64 x.clubs) := by rw [hb.cell (p := ⟨w.heap.size, 0, none⟩) (by show w.heap.size < _; first | omega | simp)]; simp [go_sem]
    have q1 : w1.cell? ⟨w.heap.size, 1, none⟩ = some (.slice A x.results.length c) := by rw [hb.cell (p := ⟨w.heap.size, 1, none⟩) (by show w.heap.size < _; first | omega | simp)]; simp [go_sem]
    have r0 : w1.cell? ⟨w.heap.size + 1, 0, none⟩ = some (.int .i64 0) := by rw [hb.cell (p := ⟨w.heap.size + 1, 0, none⟩) (by show w.heap.size + 1 < _; first | omega | simp)]; simp [go_sem]
    have r1 : w1.cell? ⟨w.heap.size + 1, 1, none⟩ = some (.slice none 0 0) := by rw [hb.cell (p := ⟨w.heap.size + 1, 1, none⟩) (by show w.heap.size + 1 < _; first | omega | simp)]; simp [go_sem]
    have r2 : w1.frozen? ⟨w.heap.size + 1, 0, none⟩ = false := by rw [hb.frozen (p := ⟨w.heap.size + 1, 0, none⟩) (by show w.heap.size + 1 < _; first | omega | simp)]; simp [go_sem]
    have r3 : w1.frozen? ⟨w.heap.size + 1, 1, none⟩ = false := by rw [hb.frozen (p := ⟨w.heap.size + 1, 1, none⟩) (by show w.heap.size + 1 < _; first | omega | simp)]; simp [go_sem]
    have hsz : w.heap.size + 2 ≤ w1.heap.size := by have := hb.size; simp at this; omega
    have HB : Hid (Below w.heap.size w w1) := (((Below.refl _ w).alloc (Nat.le_refl _) _).alloc (by simp) _).trans (hb.mono (by first | omega | (simp; omega)))
    have S1 : Hid (SlR w1 A x.results) := SlI.below HS.out.2 HB.out
    have R1 : Hid (w1.cell? ⟨w.heap.size, 0, none⟩ = some (.int .i64 x.clubs) ∧ w1.cell? ⟨w.heap.size, 1, none⟩ = some (.slice A x.results.length c) ∧ w1.cell? ⟨w.heap.size + 1, 0, none⟩ = some (.int .i64 0) ∧ w1.cell? ⟨w.heap.size + 1, 1, none⟩ = some (.slice none 0 0) ∧ w1.frozen? ⟨w.heap.size + 1, 0, none⟩ = false ∧ w1.frozen? ⟨w.heap.size + 1, 1, none⟩ = false) := ⟨q0, q1, r0, r1, r2, r3⟩
    clear hb r0 r1 r2 r3
    go_wp2_with fail
    refine (cloneR_any A c x.results w1 S1.out hn).mono ?_
    rintro e w2 ⟨v2, rfl, hf, hb2⟩
    obtain ⟨A2, c2, rfl, hc2, hm2⟩ := hf.form
    obtain ⟨g, rfl, hg1, hg2, cz, cu, hfz, hst⟩ := hf.at2 HK.out
    have z1 := hfz (k * 4 + 2)
    have z2 := hfz (k * 4 + 3)
    obtain ⟨f3, kp3⟩ := hst z u
    have ne1 : ¬ w.heap.size = g := by omega
    have p0 : w2.cell? ⟨w.heap.size, 0, none⟩ = some (.int .i64 x.clubs) := (hb2.cell (p := ⟨w.heap.size, 0, none⟩) (by show w.heap.size < _; omega)).trans R1.out.1
    have p1 : w2.cell? ⟨w.heap.size, 1, none⟩ = some (.slice A x.results.length c) := (hb2.cell (p := ⟨w.heap.size, 1, none⟩) (by show w.heap.size < _; omega)).trans R1.out.2.1
    have hs2 := hb2.size
    have B3 : Hid (Below w.heap.size w ((w2.setCell ⟨g, k * 4 + 2, none⟩ (.int .i64 z)).setCell ⟨g, k * 4 + 3, none⟩ (.int .i64 u))) := HB.out.trans ((hb2.trans (kp3.below (Nat.le_refl _) hs2)).mono HB.out.size)
    have R3 : Hid (((w2.setCell ⟨g, k * 4 + 2, none⟩ (.int .i64 z)).setCell ⟨g, k * 4 + 3, none⟩ (.int .i64 u)).cell? ⟨w.heap.size + 1, 0, none⟩ = some (.int .i64 0) ∧ ((w2.setCell ⟨g, k * 4 + 2, none⟩ (.int .i64 z)).setCell ⟨g, k * 4 + 3, none⟩ (.int .i64 u)).cell? ⟨w.heap.size + 1, 1, none⟩ = some (.slice none 0 0) ∧ ((w2.setCell ⟨g, k * 4 + 2, none⟩ (.int .i64 z)).setCell ⟨g, k * 4 + 3, none⟩ (.int .i64 u)).frozen? ⟨w.heap.size + 1, 0, none⟩ = false ∧ ((w2.setCell ⟨g, k * 4 + 2, none⟩ (.int .i64 z)).setCell ⟨g, k * 4 + 3, none⟩ (.int .i64 u)).frozen? ⟨w.heap.size + 1, 1, none⟩ = false) := by
      have hb3 : Below w1.heap.size w1 ((w2.setCell ⟨g, k * 4 + 2, none⟩ (.int .i64 z)).setCell ⟨g, k * 4 + 3, none⟩ (.int .i64 u)) := hb2.trans (kp3.below (Nat.le_refl _) hs2)
      exact ⟨(hb3.cell (p := ⟨w.heap.size + 1, 0, none⟩) (by show w.heap.size + 1 < _; omega)).trans R1.out.2.2.1, (hb3.cell (p := ⟨w.heap.size + 1, 1, none⟩) (by show w.heap.size + 1 < _; omega)).trans R1.out.2.2.2.1, (hb3.frozen (p := ⟨w.heap.size + 1, 0, none⟩) (by show w.heap.size + 1 < _; omega)).trans R1.out.2.2.2.2.1, (hb3.frozen (p := ⟨w.heap.size + 1, 1, none⟩) (by show w.heap.size + 1 < _; omega)).trans R1.out.2.2.2.2.2⟩
    have F3 := Lib.hid f3
    have S3 : Hid (w.heap.size + 2 ≤ ((w2.setCell ⟨g, k * 4 + 2, none⟩ (.int .i64 z)).setCell ⟨g, k * 4 + 3, none⟩ (.int .i64 u)).heap.size) := by have := kp3.size; show _ ≤ _; omega
    have HW := with_any A (some ⟨g, 0, none⟩) x.results.length c c2 x.clubs (x.results.set k ⟨r.h, r.a, z, u⟩) ((w2.setCell ⟨g, k * 4 + 2, none⟩ (.int .i64 z)).setCell ⟨g, k * 4 + 3, none⟩ (.int .i64 u)) hw f3.sl (by rw [List.length_set]; exact hc2) hm2
    rw [List.length_set] at HW
    have HWH := Lib.hid HW
    clear HW hst f3 kp3 hf hb2 q0 q1 hfz
    go_wp2_with fail
    generalize ((w2.setCell ⟨g, k * 4 + 2, none⟩ (.int .i64 z)).setCell ⟨g, k * 4 + 3, none⟩ (.int .i64 u)) = w3 at *
    refine HWH.out.mono ?_
    rintro e w4 ⟨rfl, hb4⟩
    have r0 : w4.cell? ⟨w.heap.size + 1, 0, none⟩ = some (.int .i64 0) := (hb4.cell (p := ⟨w.heap.size + 1, 0, none⟩) (by have := S3.out; show w.heap.size + 1 < _; omega)).trans R3.out.1
    have r1 : w4.cell? ⟨w.heap.size + 1, 1, none⟩ = some (.slice none 0 0) := (hb4.cell (p := ⟨w.heap.size + 1, 1, none⟩) (by have := S3.out; show w.heap.size + 1 < _; omega)).trans R3.out.2.1
    have r2 : w4.frozen? ⟨w.heap.size + 1, 0, none⟩ = false := (hb4.frozen (p := ⟨w.heap.size + 1, 0, none⟩) (by have := S3.out; show w.heap.size + 1 < _; omega)).trans R3.out.2.2.1
    have r3 : w4.frozen? ⟨w.heap.size + 1, 1, none⟩ = false := (hb4.frozen (p := ⟨w.heap.size + 1, 1, none⟩) (by have := S3.out; show w.heap.size + 1 < _; omega)).trans R3.out.2.2.2
    have F4 : Hid (FrR w4 w1.heap.size w2.heap.size (.slice (some ⟨g, 0, none⟩) x.results.length c2) (x.results.set k ⟨r.h, r.a, z, u⟩) ∧ Below w.heap.size w w4) := ⟨F3.out.grow hb4, B3.out.trans (hb4.mono B3.out.size)⟩
    clear hb4 p0 p1 cz cu z1 z2
    cases hq : leagueB ⟨x.clubs, x.results.set k ⟨r.h, r.a, z, u⟩⟩
    · have HV : Hid (withV x.clubs (x.results.set k ⟨r.h, r.a, z, u⟩) (.slice (some ⟨g, 0, none⟩) x.results.length c2) = .agg #[.int .i64 0, .slice none 0 0]) := by show _ = _; rw [withV, hq]; rfl
      have HO2 : Hid (replOk x k z u = false ∧ replF x k z u = ⟨0, []⟩) := by
        have h : replOk x k z u = false := by rw [HO.out, HQ.out, hq]
        exact ⟨h, by rw [replF, h]; rfl⟩
      rw [HV.out]
      go_wp2
      have KP : Keep (w.heap.size + 1) (w.heap.size + 2) w4 ((w4.setCell ⟨w.heap.size + 1, 0, none⟩ (.int .i64 0)).setCell ⟨w.heap.size + 1, 1, none⟩ (.slice none 0 0)) :=
        ((Keep.refl _ _ _).setCell (p := ⟨w.heap.size + 1, 0, none⟩) (Nat.le_refl _) (Nat.lt_succ_self _) _).setCell (p := ⟨w.heap.size + 1, 1, none⟩) (Nat.le_refl _) (Nat.lt_succ_self _) _
      refine bodyPost_ret (v := .tuple #[.agg #[.int .i64 0, .slice none 0 0], .bool false]) (by simp [results, Try.results16, go_sem, r0, r1]) rfl ⟨_, by rw [HO2.out.1], ?_, F4.out.2.trans (KP.below (by omega) F4.out.2.size)⟩
      rw [HO2.out.2]
      exact ⟨_, rfl, FrR.nil _ (Nat.le_refl _), by decide⟩
    · have HV : Hid (withV x.clubs (x.results.set k ⟨r.h, r.a, z, u⟩) (.slice (some ⟨g, 0, none⟩) x.results.length c2) = .agg #[.int .i64 x.clubs, .slice (some ⟨g, 0, none⟩) x.results.length c2]) := by show _ = _; rw [withV, hq]; rfl
      have HO2 : Hid (replOk x k z u = true ∧ replF x k z u = ⟨x.clubs, x.results.set k ⟨r.h, r.a, z, u⟩⟩) := by
        have h : replOk x k z u = true := by rw [HO.out, HQ.out, hq]
        exact ⟨h, by rw [replF, h]; exact HQ.out⟩
      rw [HV.out]
      go_wp2
      have KP : Keep (w.heap.size + 1) (w.heap.size + 2) w4 ((w4.setCell ⟨w.heap.size + 1, 0, none⟩ (.int .i64 x.clubs)).setCell ⟨w.heap.size + 1, 1, none⟩ (.slice (some ⟨g, 0, none⟩) x.results.length c2)) :=
        ((Keep.refl _ _ _).setCell (p := ⟨w.heap.size + 1, 0, none⟩) (Nat.le_refl _) (Nat.lt_succ_self _) _).setCell (p := ⟨w.heap.size + 1, 1, none⟩) (Nat.le_refl _) (Nat.lt_succ_self _) _
      refine bodyPost_ret (v := .tuple #[.agg #[.int .i64 x.clubs, .slice (some ⟨g, 0, none⟩) x.results.length c2], .bool true]) (by simp [results, Try.results16, go_sem, r0, r1]) rfl ⟨_, by rw [HO2.out.1], ?_, F4.out.2.trans (KP.below (by omega) F4.out.2.size)⟩
      rw [HO2.out.2]
      exact ⟨_, rfl, (F4.out.1.keep KP (.inr hsz)).wide (by omega) (by have := F4.out.1.2.2; have := KP.size; omega) (Nat.le_refl _), hw⟩
theorem implReplaceResult_std (v : Value) (x : LeagueV) (i z u : Int) (w : World) (hs : InL w v x) (hn : x.results.length ≤ 1048576) (_hi : (Lit.int .i64 i).wf = true) (_hz : (Lit.int .i64 z).wf = true) (_hu : (Lit.int .i64 u).wf = true) :
    Calls Try.prog 16 #[v, .int .i64 i, .int .i64 z, .int .i64 u] w fun e w' => ∃ v', e = .returned (.tuple #[v', .bool (replOk x i z u)]) ∧ OwL w' w.heap.size w'.heap.size v' (replF x i z u) ∧ Below w.heap.size w w' := implReplaceResult_any v x i z u w hs hn
end Go.Proofs.Ythlkhmbndaecfaa
