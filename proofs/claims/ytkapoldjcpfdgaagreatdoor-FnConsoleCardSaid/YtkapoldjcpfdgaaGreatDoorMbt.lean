/- The console's closures that show a circle's round or plan: the program's. -/
import Derived.Test.YtkapoldjcpfdgaaGreatDoorMbs
set_option maxHeartbeats 4000000
set_option maxRecDepth 100000
namespace Go.Proofs.YtkapoldjcpfdgaaGreatDoor
open Go.ChangeShapes Go.WideShapes Go.ChangeAt Go.RowKit
def planA (x:TourV) (ok:Bool) (n:Int):Option (List UInt8 × TourV):=outA x ok (if clubsB n then planText n (circF n) else [110,111,110,101])
theorem circle_co (w0 W:World) (b:Nat) (x:TourV) (ws:List (List UInt8)) (h:CoW w0 W b x ws false) (hc:ComP w0) (hl:∀l∈ws,l.length≤1048576) (hm:ws.length=2):
  Calls Tryz.prog 104 #[.pointer (some ⟨b,0,none⟩)] W fun e w'=>CoR w0 W b ws (outA x (numB (wd ws 0) && numB (wd ws 1)) (roundText (numV (wd ws 0)) (circF (numV (wd ws 0))) (numV (wd ws 1)))) e w':=by
 obtain ⟨A,c,B,d,lo,hi,hA⟩:=h.names
 have HN0:Hid (∀V bad,CoA w0 V b x ws bad A c B d lo hi→Calls Tryz.prog 68 #[.pointer (some ⟨b,0,none⟩),.int .i64 0] V fun e w'=>e=.returned (.int .i64 (numV (wd ws 0)))∧CoA w0 w' b x ws (bad || !numB (wd ws 0)) A c B d lo hi∧Keep b (b+1) V w'):=fun V bad hV=>number_co w0 V b 0 x ws bad A B c d lo hi hV hc hl (by omega)
 have HN1:Hid (∀V bad,CoA w0 V b x ws bad A c B d lo hi→Calls Tryz.prog 68 #[.pointer (some ⟨b,0,none⟩),.int .i64 1] V fun e w'=>e=.returned (.int .i64 (numV (wd ws 1)))∧CoA w0 w' b x ws (bad || !numB (wd ws 1)) A c B d lo hi∧Keep b (b+1) V w'):=fun V bad hV=>number_co w0 V b 1 x ws bad A B c d lo hi hV hc hl (by omega)
 have HP:Hid (∀V bad,CoA w0 V b x ws bad A c B d lo hi→Calls Tryz.prog 186 #[.int .i64 (numV (wd ws 0))] V fun e w'=>∃v',e=.returned (.tuple #[v',.bool (clubsB (numV (wd ws 0)))])∧OwS w' V.heap.size w'.heap.size v' (circF (numV (wd ws 0)))∧b<V.heap.size∧Below V.heap.size V w'):=fun V bad hV=>(implCirclePlan_any _ V).mono fun e w' ⟨v',h1,h2,h3⟩=>⟨v',h1,h2,(Array.getElem?_eq_some_iff.1 hV.cl).1,h3⟩
 have HR:Hid (∀V v bad,CoA w0 V b x ws bad A c B d lo hi→InS V v (circF (numV (wd ws 0)))→Calls Tryz.prog 187 #[.int .i64 (numV (wd ws 0)),v,.int .i64 (numV (wd ws 1))] V fun e w'=>e=.returned (.string ⟨(roundText (numV (wd ws 0)) (circF (numV (wd ws 0))) (numV (wd ws 1))).toArray⟩)∧Below V.heap.size V w'):=fun V v bad hV hi2=>implRoundLine_any _ v _ _ V hi2 (circF_bulk _) (hV.com hc).1
 have A0:=Lib.hid hA
 clear hA h hc hl
 have t0:Hid True:=trivial
 go_enter Tryz.func104,Tryz.ntmps104
 go_wp2_with (first
  | (go_at_call 68;have h_:=t0.out;clear h_ t0;refine (HN0.out _ _ A0.out).mono ?_;rintro e w1 ⟨rfl,hA1,hK1⟩;have A1:=Lib.hid hA1;have K1:=Lib.hid hK1;have t1:Hid True:=trivial;clear hA1 hK1)
  | (go_at_call 186;refine (HP.out _ _ A1.out).mono ?_;rintro e w2 ⟨v2,rfl,ho,hlt,hb⟩;have A2:=Lib.hid (A1.out.grow hb);have K2:Hid (Keep b (b+1) W w2):=K1.out.trans (Keep.ofBe hb);have O2:=Lib.hid (And.intro ho hlt);clear hb ho hlt)
  | (go_at_call 68;have h_:=t1.out;clear h_ t1;refine (HN1.out _ _ A2.out).mono ?_;rintro e w3 ⟨rfl,hA1,hK1⟩;have A3:=Lib.hid hA1;have K3:Hid (Keep b (b+1) W w3):=K2.out.trans hK1;have I3:=Lib.hid (O2.out.1.keep hK1 (.inr O2.out.2)).in_;clear hA1 hK1)
  | (go_at_call 187;refine (HR.out _ _ _ A3.out I3.out).mono ?_;rintro e w4 ⟨rfl,hb⟩;have A4:=Lib.hid (A3.out.grow hb);have K4:Hid (Keep b (b+1) W w4):=K3.out.trans (Keep.ofBe hb);clear hb))
 go_ret
 exact CoR.text (by simp) K4.out A4.out
theorem plan_co (w0 W:World) (b:Nat) (x:TourV) (ws:List (List UInt8)) (h:CoW w0 W b x ws false) (hc:ComP w0) (hl:∀l∈ws,l.length≤1048576) (hm:ws.length=1):
  Calls Tryz.prog 105 #[.pointer (some ⟨b,0,none⟩)] W fun e w'=>CoR w0 W b ws (planA x (numB (wd ws 0)) (numV (wd ws 0))) e w':=by
 obtain ⟨A,c,B,d,lo,hi,hA⟩:=h.names
 have HN0:Hid (∀V bad,CoA w0 V b x ws bad A c B d lo hi→Calls Tryz.prog 68 #[.pointer (some ⟨b,0,none⟩),.int .i64 0] V fun e w'=>e=.returned (.int .i64 (numV (wd ws 0)))∧CoA w0 w' b x ws (bad || !numB (wd ws 0)) A c B d lo hi∧Keep b (b+1) V w'):=fun V bad hV=>number_co w0 V b 0 x ws bad A B c d lo hi hV hc hl (by omega)
 have HP:Hid (∀V bad,CoA w0 V b x ws bad A c B d lo hi→Calls Tryz.prog 186 #[.int .i64 (numV (wd ws 0))] V fun e w'=>∃v',e=.returned (.tuple #[v',.bool (clubsB (numV (wd ws 0)))])∧InS w' v' (circF (numV (wd ws 0)))∧Below V.heap.size V w'):=fun V bad hV=>(implCirclePlan_any _ V).mono fun e w' ⟨v',h1,h2,h3⟩=>⟨v',h1,h2.in_,h3⟩
 have HR:Hid (∀V v bad,CoA w0 V b x ws bad A c B d lo hi→InS V v (circF (numV (wd ws 0)))→Calls Tryz.prog 188 #[.int .i64 (numV (wd ws 0)),v] V fun e w'=>e=.returned (.string ⟨(planText (numV (wd ws 0)) (circF (numV (wd ws 0)))).toArray⟩)∧Below V.heap.size V w'):=fun V v bad hV hi2=>implPlanLine_any _ v _ V hi2 (circF_bulk _) (hV.com hc).1
 have A0:=Lib.hid hA
 have HE:Hid (planA x (numB (wd ws 0)) (numV (wd ws 0))=outA x (numB (wd ws 0)) (if clubsB (numV (wd ws 0)) then planText (numV (wd ws 0)) (circF (numV (wd ws 0))) else [110,111,110,101])):=rfl
 clear hA h hc hl
 cases hcl:clubsB (numV (wd ws 0))
 all_goals
  rw [hcl] at HP HE
  clear hcl
  go_enter Tryz.func105,Tryz.ntmps105
  go_wp2_with (first
   | (go_at_call 68;refine (HN0.out _ _ A0.out).mono ?_;rintro e w1 ⟨rfl,hA1,hK1⟩;have A1:=Lib.hid hA1;have K1:=Lib.hid hK1;clear hA1 hK1)
   | (go_at_call 186;refine (HP.out _ _ A1.out).mono ?_;rintro e w2 ⟨v2,rfl,ho,hb⟩;have A2:=Lib.hid (A1.out.grow hb);have K2:Hid (Keep b (b+1) W w2):=K1.out.trans (Keep.ofBe hb);have O2:=Lib.hid ho;clear hb ho)
   | (go_at_call 188;refine (HR.out _ _ _ A2.out O2.out).mono ?_;rintro e w4 ⟨rfl,hb⟩;have A4:=Lib.hid (A2.out.grow hb);have K4:Hid (Keep b (b+1) W w4):=K2.out.trans (Keep.ofBe hb);clear hb))
  go_ret
  rw [HE.out]
  first
   | exact CoR.text (by simp) K4.out A4.out
   | exact CoR.text (by simp) K2.out A2.out
end Go.Proofs.YtkapoldjcpfdgaaGreatDoor
