/- Points off: plain law; the program's closure. -/
import Derived.Test.YthlkhmbndaecfaaTi
import Derived.Test.YthlkhmbndaecfaaTl
import Derived.Test.YthlkhmbndaecfaaTa
import Derived.Deep.RegionLaw
namespace Go.Proofs.Ythlkhmbndaecfaa
open Go.ChangeShapes Go.WideShapes Go.ChangeAt Go.RowKit

def keyOff (P off : List Int) (c : Int) : Int := P.getD c.toNat 0 - off.getD c.toNat 0
def offF (x : LeagueV) (off : List Int) : List Int :=
  if leagueB x && (decide ((off.length : Int) = x.clubs) && off.all (fun v => inB v 0 100)) then insF (keyOff (ptsF x.clubs.toNat x.results) off) (tableF x.clubs.toNat x.results) else []
theorem offF_len {x : LeagueV} {off : List Int} : (offF x off).length ≤ 1048576 := by
  unfold offF
  split
  · next h =>
    rw [insF_length, tableF_length]
    rw [Bool.and_eq_true] at h
    have := leagueB_t h.1
    omega
  · simp
theorem getD_map_idx {T : List Int} {n : Nat} (hT : T.length = n) : (idxs n).map (fun i => T.getD i.toNat 0) = T := by
  refine List.ext_getElem? fun k => ?_
  rw [List.getElem?_map]
  by_cases hk : k < n
  · rw [idxs_get hk, List.getElem?_eq_getElem (by omega)]
    simp [List.getElem?_eq_getElem (show k < T.length by omega)]
  · rw [List.getElem?_eq_none (by rw [idxs_length]; omega), List.getElem?_eq_none (by omega)]; rfl
/-- Sorting the table by its keys' order is sorting its places. -/
theorem off_order {T KS : List Int} {n : Nat} {key : Int → Int} (hT : T.length = n) (hK : KS = T.map key) : (insF (keyOf KS) (idxs n)).map (fun i => T.getD i.toNat 0) = insF key T := by
  subst hK
  have h := insF_map (key := keyOf (T.map key)) (key2 := key) (f := fun i => T.getD i.toNat 0) (xs := idxs n) (fun y hy => by
    obtain ⟨h1, h2⟩ := idxs_mem.1 hy
    obtain ⟨k, rfl⟩ := Int.eq_ofNat_of_zero_le h1
    have hk : k < T.length := by omega
    have e1 : T[k]? = some T[k] := List.getElem?_eq_getElem hk
    have e2 : (T.map key)[k]? = some (key T[k]) := by rw [List.getElem?_map, e1]; rfl
    rw [keyOf_at e2, Int.toNat_natCast, List.getD_eq_getElem?_getD, e1]; rfl)
  rw [getD_map_idx hT] at h
  exact h.symm

set_option maxHeartbeats 4000000 in
set_option maxRecDepth 100000 in
theorem offLess_any (n : Nat) (P off : List Int) (hP : P.length = n) (hO : off.length = n) (B : Option Addr) (d bp bo gp cp a b : Nat) (W : World) (ha : a < n) (hb : b < n)
    (hPb : ∀ y ∈ P, 0 ≤ y ∧ y ≤ 360) (hOb : ∀ y ∈ off, 0 ≤ y ∧ y ≤ 100)
    (p0 : W.cell? ⟨bp, 0, none⟩ = some (.slice (some ⟨gp, 0, none⟩) n cp)) (o0 : W.cell? ⟨bo, 0, none⟩ = some (.slice B n d)) (hp : SlI W (some ⟨gp, 0, none⟩) P) (ho : SlI W B off) :
    Calls Try.prog 26 #[.int .i64 (a : Int), .int .i64 (b : Int), .pointer (some ⟨bp, 0, none⟩), .pointer (some ⟨bo, 0, none⟩)] W fun e W' => ∃ c : Int, e = .returned (.int .i64 c) ∧ (c < 0 ↔ keyOff P off b < keyOff P off a) ∧ Below W.heap.size W W' := by
  obtain ⟨g1, o1, pa, e1, y1, ca, _⟩ := hp.at_ (k := a) (by omega)
  obtain ⟨g2, o2, pb, e2, y2, cb, _⟩ := hp.at_ (k := b) (by omega)
  injection e1 with e1; injection e1 with r1 r2; subst r1; subst r2
  injection e2 with e2; injection e2 with r1 r2; subst r1; subst r2
  obtain ⟨b1, o3, qa, rfl, y3, da, _⟩ := ho.at_ (k := a) (by omega)
  obtain ⟨b2, o4, qb, e4, y4, db, _⟩ := ho.at_ (k := b) (by omega)
  injection e4 with e4; injection e4 with r1 r2; subst r1; subst r2
  rw [Nat.zero_add] at ca cb
  have k1 := hPb pa (List.mem_of_getElem? y1)
  have k2 := hPb pb (List.mem_of_getElem? y2)
  have k3 := hOb qa (List.mem_of_getElem? y3)
  have k4 := hOb qb (List.mem_of_getElem? y4)
  have HK : Hid (pb - qb - (pa - qa) < 0 ↔ keyOff P off b < keyOff P off a) := by
    show _ ↔ _
    rw [keyOff, keyOff, Int.toNat_natCast, Int.toNat_natCast, List.getD_eq_getElem?_getD, List.getD_eq_getElem?_getD, List.getD_eq_getElem?_getD, List.getD_eq_getElem?_getD, y1, y2, y3, y4]
    simp only [Option.getD_some]
    omega
  have WE : Hid (wrap64 (pb - qb) = pb - qb ∧ wrap64 (pa - qa) = pa - qa ∧ wrap64 (pb - qb - (pa - qa)) = pb - qb - (pa - qa)) := by
    refine ⟨?_, ?_, ?_⟩ <;> (unfold wrap64; omega)
  have a1 : (a : Int) < (n : Int) := by omega
  have a2 : (b : Int) < (n : Int) := by omega
  clear y1 y2 y3 y4 hp ho hPb hOb k1 k2 k3 k4 hP hO
  go_enter Try.func26, Try.ntmps26
  go_wp2_with fail
  go_quiet (fail)
  rename_i nq
  have HB : Hid (Below W.heap.size W (W.drewN nq)) := below_of_drewN _ _ _
  generalize W.drewN nq = w1 at *
  go_wp2
  go_ret
  exact ⟨_, rfl, by first | exact HK.out | (rw [WE.out.1, WE.out.2.1]; first | exact HK.out | (rw [WE.out.2.2]; exact HK.out)), HB.out⟩

set_option maxRecDepth 100000 in
/-- 'append(out, x)' at a row of integers of the call's own, as a step of a region that draws. -/
theorem stepApp1 {ops : Array Oper} {o : Oper} {a : Act} {w : World} {K : Act → World → Prop} {Q : Exit → Act → World → Prop} {E : Prop} (hgd : o.guard = none) (s y : Operand)
    (ho : o.op = .call { callee := .builtin .append, args := #[s, y], argTypes := #[27, 27] })
    (base : Nat) (v : Value) (n : Nat) (xs : List Int) (hs : a.eval s = v) (hown : w.ownsRow base 3 1 v n (ints xs)) (ad : Addr) (x : Int)
    (hx : a.eval y = .slice (some ad) 1 1) (hys : w.cell? ad = some (.int .i64 x)) (hl : n ≤ 1048576) (hbase : base ≤ w.heap.size)
    (h : ∀ v' w', w'.ownsRow base 3 1 v' (n + 1) (ints (xs ++ [x])) → (∀ B, B ≤ base → B ≤ w.heap.size → Below B w w') → w.grownBy w' v.ownBlock → K (a.put o.dst v') w') :
    if Region.wanted o (yielded ops a.tmps) = true then Oper.wp Try.prog o a w K Q else E := by
  obtain ⟨i0, hi, hz0, hz1, hz2⟩ := info_parts infoInt
  have hw : Region.wanted o (yielded ops a.tmps) = true := by simp [Region.wanted, hgd]
  rw [if_pos hw]
  obtain ⟨v', w', hrun, r1, r2, _⟩ := run_append_own (P := Try.prog) w base 27 o.type 3 i0 (.int .i64 0) 1 8 Try.underlying27 hi hz0 hz1 hz2 rfl (by decide) v n (ints xs) hown ad 1 1 [.int .i64 x] rfl (by
    intro j u hj
    match j, hj with
    | 0, hj => simp at hj; subst hj; simpa [Addr.add] using hys) (by intro u hu; simp at hu; subst hu; rfl) (by unfold maxLen; omega) (by omega) hbase
  unfold Oper.wp
  simp [execOp, ho, resolve, invoke, builtin, hs, hx, hrun, Result.andThen]
  refine h v' w' (by rw [ints_append]; exact r1) (fun B h4 h5 => ?_) r2
  refine (Below.refl B w).grown r2 h5 (fun k hk => ?_)
  have := (hown.lt k hk).1; omega
end Go.Proofs.Ythlkhmbndaecfaa
