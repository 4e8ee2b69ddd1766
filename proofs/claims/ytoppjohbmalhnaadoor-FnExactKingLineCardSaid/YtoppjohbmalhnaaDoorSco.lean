/- Scores, triangles: both packages' contracts. -/
import Derived.Test.YtoppjohbmalhnaaDoorRcw
import Derived.Test.YtoppjohbmalhnaaDoorPop
import Derived.Test.YtoppjohbmalhnaaDoorTq
import Derived.Test.YtoppjohbmalhnaaDoorTs
namespace Go.Proofs.YtoppjohbmalhnaaDoor
open Go.ChangeShapes Go.WideShapes Go.ChangeAt Go.RowKit

def scN (x : TourV) (a : Nat) : Nat := cntL (winN x a)
def scoresL (x : TourV) : List Int := (List.range x.wins.length).map (fun a => ((scN x a : Nat) : Int))
theorem scoresL_len (x : TourV) : (scoresL x).length = x.wins.length := by simp [scoresL]
theorem scoresL_at {x : TourV} {a : Nat} (h : a < x.wins.length) : (scoresL x)[a]? = some ((scN x a : Nat) : Int) := by simp [scoresL, h]
theorem scN_le (x : TourV) (a : Nat) : scN x a ≤ 8 := cntL_le _
theorem scoresL_take {x : TourV} {a : Nat} (h : a < x.wins.length) : (scoresL x).take (a + 1) = (scoresL x).take a ++ [((scN x a : Nat) : Int)] := take_snoc (scoresL_at h)
theorem scoresL_all (x : TourV) : (scoresL x).take x.wins.length = scoresL x := List.take_of_length_le (by rw [scoresL_len]; exact Nat.le_refl _)
theorem scoresL_bd {x : TourV} : ∀ y ∈ scoresL x, 0 ≤ y ∧ y ≤ 8 := by
  intro y hy
  simp only [scoresL, List.mem_map, List.mem_range] at hy
  obtain ⟨a, _, rfl⟩ := hy
  have := scN_le x a
  omega

set_option maxHeartbeats 2000000 in
set_option maxRecDepth 100000 in
theorem implScore_any (v : Value) (x : TourV) (a : Nat) (w : World) (hs : InT w v x) (hok : tourB x = true) (ha : a < x.wins.length) :
    Calls Tryd.prog 63 #[v, .int .i64 (a : Int)] w fun e w' => e = .returned (.int .i64 (scN x a : Nat)) ∧ Below w.heap.size w w' := by
  obtain ⟨u, rfl, A, c, rfl, hc, hm, hsl⟩ := hs
  obtain ⟨t1, t2, t3, _, _⟩ := tourB_t hok
  have hn8 : x.wins.length ≤ 8 := by omega
  obtain ⟨b, off, rfl, qc, hlt, hw2, hwb⟩ := win_at hok hsl ha
  have hw256 : winN x a < 256 := Nat.lt_of_lt_of_le hw2 (Nat.pow_le_pow_right (by omega) hn8)
  have HCO := Lib.hid (fun W => onesCount_any _ W hw256)
  have HE : Hid (scN x a = cntL (winN x a)) := rfl
  have hal : (a : Int) < x.wins.length := by omega
  have hne : ¬ b = w.heap.size := by omega
  generalize winN x a = W at *
  obtain ⟨C, hC⟩ : ∃ C, cntL W = C := ⟨_, rfl⟩
  rw [hC] at HCO HE
  clear hC hsl hok hwb hw2
  go_enter Tryd.func63, Tryd.ntmps63
  go_wp2_with (go_at_call 69; refine (HCO.out _).mono ?_; rintro e w' ⟨rfl, rfl⟩)
  go_ret
  exact ⟨by rw [HE.out]; rfl, (Below.refl _ w).alloc (Nat.le_refl _) _⟩
end Go.Proofs.YtoppjohbmalhnaaDoor
