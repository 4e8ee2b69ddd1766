/- Corrections of a league: contracts. -/
import Derived.Test.YtpjbgcflepebgaaDoorLo
import Derived.WalkSpells
namespace Go.Proofs.YtpjbgcflepebgaaDoor
open Go.ChangeShapes Go.WideShapes Go.ChangeAt Go.RowKit

set_option maxRecDepth 100000 in
/-- 'append(out, src...)' at a row of results of the call's own, the source not nil. -/
theorem appSrcR {ops : Array Oper} {rest : List Oper} {o : Oper} {a : Act} {Q : Exit → Act → World → Prop} (hgd : o.guard = none) (s y : Operand)
    (ho : o.op = .call { callee := .builtin .append, args := #[s, y], argTypes := #[28, 28] })
    (w : World) (base : Nat) (v : Value) (n : Nat) (xs : List Res) (hs : a.eval s = v) (hown : w.ownsRow base 52 4 v n (ints (flat xs))) (ad : Addr) (m c : Nat) (ys : List Res) (hm : ys.length = m)
    (hx : a.eval y = .slice (some ad) m c) (hys : SlR w (some ad) ys) (hl : n + m ≤ 1048576) (hbase : base ≤ w.heap.size)
    (h : ∀ v' w', w'.ownsRow base 52 4 v' (n + m) (ints (flat (xs ++ ys))) → (∀ B, B ≤ base → B ≤ w.heap.size → Below B w w') → w.grownBy w' v.ownBlock → wpList Tryd.prog ops Q rest (a.put o.dst v') w') :
    wpList Tryd.prog ops Q (o :: rest) a w := by
  obtain ⟨i0, hi, hz0, hz1, hz2⟩ := info_parts infoR
  refine wpList_append_own _ hgd s y _ ho base 52 i0 _ 4 32 Tryd.underlying28 hi hz0 hz1 hz2 rfl (by decide) v n (ints (flat xs)) hs hown ad m c (ints (flat ys)) hx (by simp [ints, flat_length, hm]) ?_ ?_ (by unfold maxLen; omega) (by omega) hbase ?_
  · intro j u hj
    rcases hys with hy | ⟨b, off, hA, hc⟩
    · rw [hy] at hj; simp [ints] at hj
    · injection hA with hA
      subst hA
      simp only [ints, List.getElem?_map, Option.map_eq_some_iff] at hj
      obtain ⟨y, hy, rfl⟩ := hj
      rw [Go.WideShapes.add_plain]; exact hc j y hy
  · intro u hu
    simp only [ints, List.mem_map] at hu
    obtain ⟨y, _, rfl⟩ := hu; rfl
  · intro v' w' h2 h3 _
    refine h v' w' (by rw [flat_append, ints_append]; exact h2) (fun B h4 h5 => ?_) h3
    refine (Below.refl B w).grown h3 h5 (fun k hk => ?_)
    have := (hown.lt k hk).1; omega

def hasR (x : LeagueV) (i : Int) : Bool := leagueB x && inB i 0 ((x.results.length : Int) - 1)

theorem flat_set2 : ∀ {rs : List Res} {k : Nat} {r : Res}, rs[k]? = some r → ∀ (z u : Int), ((flat rs).set (k * 4 + 2) z).set (k * 4 + 3) u = flat (rs.set k ⟨r.h, r.a, z, u⟩)
  | r' :: rs, 0, r, h, z, u => by
    simp only [List.getElem?_cons_zero, Option.some.injEq] at h
    subst h; rfl
  | r' :: rs, k + 1, r, h, z, u => by
    rw [List.getElem?_cons_succ] at h
    have ih := flat_set2 h z u
    rw [show (k + 1) * 4 = k * 4 + 4 from by omega]
    show r'.h :: r'.a :: r'.g :: r'.t :: ((flat rs).set (k * 4 + 2) z).set (k * 4 + 3) u = _
    rw [ih]; rfl
/-- Two stores: the goals of a result. -/
theorem FrR.at2 {w : World} {lo hi n c : Nat} {A : Option Addr} {rs : List Res} (h : FrR w lo hi (.slice A n c) rs) {k : Nat} {r : Res} (hk : rs[k]? = some r) :
    ∃ g, A = some ⟨g, 0, none⟩ ∧ lo ≤ g ∧ g < hi ∧ w.cell? ⟨g, k * 4 + 2, none⟩ = some (.int .i64 r.g) ∧ w.cell? ⟨g, k * 4 + 3, none⟩ = some (.int .i64 r.t) ∧ (∀ j, w.frozen? ⟨g, j, none⟩ = false) ∧
      ∀ z u, FrR ((w.setCell ⟨g, k * 4 + 2, none⟩ (.int .i64 z)).setCell ⟨g, k * 4 + 3, none⟩ (.int .i64 u)) lo hi (.slice A n c) (rs.set k ⟨r.h, r.a, z, u⟩) ∧
        Keep lo hi w ((w.setCell ⟨g, k * 4 + 2, none⟩ (.int .i64 z)).setCell ⟨g, k * 4 + 3, none⟩ (.int .i64 u)) := by
  have hlt : k < rs.length := (List.getElem?_eq_some_iff.1 hk).1
  obtain ⟨g, r', rfl, hlo, hhi, hr, ⟨_, _, c3, c4⟩, hfz, _⟩ := h.at_ hlt
  obtain rfl : r = r' := by rw [hk] at hr; injection hr
  refine ⟨g, rfl, hlo, hhi, c3, c4, hfz, fun z u => ⟨⟨?_, fun g' hg' => h.2.1 g' hg', by simpa [World.setCell] using h.2.2⟩, ((Keep.refl _ _ _).setCell (p := ⟨g, k * 4 + 2, none⟩) hlo hhi _).setCell (p := ⟨g, k * 4 + 3, none⟩) hlo hhi _⟩⟩
  obtain ⟨A', c', he, _⟩ := h.form
  injection he with _ hn _
  subst hn
  have s1 := ((h.1.stored (k * 4 + 2) (.int .i64 z)).1.stored (k * 4 + 3) (.int .i64 u)).1
  rw [ints_set, ints_set, flat_set2 hk] at s1
  rw [List.length_set]; exact s1
end Go.Proofs.YtpjbgcflepebgaaDoor
