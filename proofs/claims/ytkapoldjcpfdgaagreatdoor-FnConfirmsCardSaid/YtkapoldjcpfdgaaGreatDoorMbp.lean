/- The console's closures that read words, or take a new tour: the program's (printed by print/con2.py). -/
import Derived.Test.YtkapoldjcpfdgaaGreatDoorMbo
set_option maxHeartbeats 4000000
set_option maxRecDepth 100000
namespace Go.Proofs.YtkapoldjcpfdgaaGreatDoor
open Go.ChangeShapes Go.WideShapes Go.ChangeAt Go.RowKit
def CoR (w0 W:World) (b:Nat) (ws:List (List UInt8)) (o:Option (List UInt8 × TourV)) (e:Ending) (w':World):Prop:=
 ∃out y bad,CoP w0 W b out y ws bad e w'∧o=if bad then none else some (out,y)
def setA (x:TourV) (ok:Bool) (o:Option TourV):Option (List UInt8 × TourV):=if ok then some (outT o,o.getD x) else none
def outA (x:TourV) (ok:Bool) (t:List UInt8):Option (List UInt8 × TourV):=if ok then some (t,x) else none
theorem CoR.set {w0 W w':World}{b:Nat}{x:TourV}{ws:List (List UInt8)}{bad ok:Bool}{o:Option TourV} (hb:bad = !ok) (K:Keep b (b+1) W w') (h:CoW w0 w' b (o.getD x) ws bad):
  CoR w0 W b ws (setA x ok o) (.returned (.string ⟨(outT o).toArray⟩)) w':=by
 refine ⟨outT o,o.getD x,bad,⟨rfl,K,h⟩,?_⟩
 subst hb
 cases ok<;>rfl
theorem CoR.text {w0 W w':World}{b:Nat}{x:TourV}{ws:List (List UInt8)}{bad ok:Bool}{t:List UInt8}{A B:Option Addr}{c d lo hi:Nat} (hb:bad = !ok) (K:Keep b (b+1) W w') (h:CoA w0 w' b x ws bad A c B d lo hi):
  CoR w0 W b ws (outA x ok t) (.returned (.string ⟨t.toArray⟩)) w':=by
 refine ⟨t,x,bad,⟨rfl,K,h.co⟩,?_⟩
 subst hb
 cases ok<;>rfl
theorem q_keep {V V':World}{b bq:Nat}{z:Value} (K:Keep b (b+1) V V') (h:bq≠b) (hq:V.cell? ⟨bq,0,none⟩=some z):V'.cell? ⟨bq,0,none⟩=some z:=
 (K.cell (p:=⟨bq,0,none⟩) (block_lt_of_cell (a:=⟨bq,0,none⟩) hq) (by show bq<b∨b+1≤bq;omega)).trans hq
theorem TR.form {W w1:World}{e:Ending}{o:Option TourV} (h:TR W e w1 o):∃v ok,e=.returned (.tuple #[v,.bool ok])∧TR W e w1 o:=by
 obtain ⟨hb,hm⟩:=id h
 cases o with
 | none=>exact ⟨_,_,hm,h⟩
 | some y=>obtain ⟨v',hv,_⟩:=hm;exact ⟨_,_,hv,h⟩
theorem run3_co (w0 W:World) (b bq:Nat) (x:TourV) (ws:List (List UInt8)) (h:CoW w0 W b x ws false) (hc:ComP w0) (hl:∀l∈ws,l.length≤1048576) (hm:ws.length=2) (hq:W.cell? ⟨bq,0,none⟩=some (.pointer (some ⟨b,0,none⟩))) (hbq:bq≠b):
  Calls Tryz.prog 66 #[.pointer (some ⟨bq,0,none⟩)] W fun e w'=>CoR w0 W b ws (setA x (numB (wd ws 0) && numB (wd ws 1)) (flipF x (numV (wd ws 0)) (numV (wd ws 1)))) e w':=by
 obtain ⟨A,c,B,d,lo,hi,hA⟩:=h.names
 have HN0:Hid (∀V bad,CoA w0 V b x ws bad A c B d lo hi→Calls Tryz.prog 68 #[.pointer (some ⟨b,0,none⟩),.int .i64 0] V fun e w'=>e=.returned (.int .i64 (numV (wd ws 0)))∧CoA w0 w' b x ws (bad || !numB (wd ws 0)) A c B d lo hi∧Keep b (b+1) V w'):=fun V bad hV=>number_co w0 V b 0 x ws bad A B c d lo hi hV hc hl (by omega)
 have HN1:Hid (∀V bad,CoA w0 V b x ws bad A c B d lo hi→Calls Tryz.prog 68 #[.pointer (some ⟨b,0,none⟩),.int .i64 1] V fun e w'=>e=.returned (.int .i64 (numV (wd ws 1)))∧CoA w0 w' b x ws (bad || !numB (wd ws 1)) A c B d lo hi∧Keep b (b+1) V w'):=fun V bad hV=>number_co w0 V b 1 x ws bad A B c d lo hi hV hc hl (by omega)
 have HB:Hid (∀V V1 bad e v ok,CoA w0 V b x ws bad A c B d lo hi→e=.returned (.tuple #[v,.bool ok])→TR V e V1 (flipF x (numV (wd ws 0)) (numV (wd ws 1)))→Calls Tryz.prog 62 #[.pointer (some ⟨b,0,none⟩),v,.bool ok] V1 fun e w'=>CoP w0 V1 b (outT (flipF x (numV (wd ws 0)) (numV (wd ws 1)))) ((flipF x (numV (wd ws 0)) (numV (wd ws 1))).getD x) ws bad e w'):=fun V V1 bad e v ok hV he hr=>becomeCo hV.co hc.1 he hr
 have HF:Hid (∀V bad ,CoA w0 V b x ws bad A c B d lo hi→Calls Tryz.prog 67 #[.agg #[.int .i64 x.size,.slice A x.wins.length c],.int .i64 (numV (wd ws 0)),.int .i64 (numV (wd ws 1))] V fun e w'=>∃v ok,e=.returned (.tuple #[v,.bool ok])∧TR V e w' (flipF x (numV (wd ws 0)) (numV (wd ws 1)))):=fun V bad hV=>(implFlipGame_any _ x _ _ V hV.in_).mono fun e w' h=>h.form
 have A0:=Lib.hid hA.drew
 have K0:Hid (Keep b (b+1) W W.drew):=Keep.ofBe (below_of_drewN _ W 1)
 have Q0:Hid (W.drew.cell? ⟨bq,0,none⟩=some (.pointer (some ⟨b,0,none⟩))):=hq
 clear hA h hc hl
 go_enter Tryz.func66,Tryz.ntmps66
 go_wp2_with fail
 refine wp_region_noPanic ?_
 refine wp_region_held_drew (S:=fun W=>W.cell? ⟨bq,0,none⟩=some (.pointer (some ⟨b,0,none⟩))) (by kernel_rfl) Q0.out (fun hHeld=>?_)
 refine wT 0 (.pointer (some ⟨b,0,none⟩)) ?_
 try simp only [pu]
 refine wT 1 (.pointer (some ⟨b,0,none⟩)) ?_
 try simp only [pu]
 refine wT 2 (.pointer (some ⟨b,0,none⟩)) ?_
 try simp only [pu]
 refine wT 3 (.pointer (some ⟨b,0,none⟩)) ?_
 try simp only [pu]
 refine wT 5 (.pointer (some ⟨b,0,none⟩)) ?_
 try simp only [pu]
 refine wT 7 (.pointer (some ⟨b,0,none⟩)) ?_
 try simp only [pu]
 refine wpAnyH_ready (rs:=[4,6]) (by kernel_rfl) (by simp) ?_
 refine AllReadyH.cons rfl (fun K hK=>?_) (AllReadyH.cons rfl (fun K hK=>?_) (AllReadyH.nil))
 ·
  obtain ⟨e0,e1⟩:=A0.out.cells
  go_simp
  refine hK.out _ _ Q0.out (fun hHeld=>?_)
  clear hK K
  try simp only [pu]
  clear e0 e1
  refine wR 6 (fun K hK=>?_)
  go_simp
  go_at_call 68
  (with_reducible refine (HN0.out _ _ A0.out).mono ?_)
  rintro e w1 ⟨rfl,hA,hK2⟩
  have A1:=Lib.hid hA;have Q1:Hid (w1.cell? ⟨bq,0,none⟩=some (.pointer (some ⟨b,0,none⟩))):=q_keep (hK2) hbq Q0.out;have K1:Hid (Keep b (b+1) W w1):=K0.out.trans (hK2);clear hA hK2
  try (go_wp2_with fail)
  refine hK.out _ _ Q1.out (fun hHeld=>?_)
  clear hK K
  try simp only [pu]
  refine wR 8 (fun K hK=>?_)
  go_simp
  go_at_call 68
  (with_reducible refine (HN1.out _ _ A1.out).mono ?_)
  rintro e w2 ⟨rfl,hA,hK2⟩
  have A2:=Lib.hid hA;have Q2:Hid (w2.cell? ⟨bq,0,none⟩=some (.pointer (some ⟨b,0,none⟩))):=q_keep (hK2) hbq Q1.out;have K2:Hid (Keep b (b+1) W w2):=K1.out.trans (hK2);clear hA hK2
  try (go_wp2_with fail)
  refine hK.out _ _ Q2.out (fun hHeld=>?_)
  clear hK K
  try simp only [pu]
  refine wR 9 (fun K hK=>?_)
  go_simp
  go_at_call 67
  (with_reducible refine (HF.out _ _ A2.out).mono ?_)
  rintro e w7 ⟨v1,ok1,rfl,hr⟩
  have R7:=Lib.hid hr;have Q7:Hid (w7.cell? ⟨bq,0,none⟩=some (.pointer (some ⟨b,0,none⟩))):=q_keep (Keep.ofBe hr.1) hbq Q2.out;have K7:Hid (Keep b (b+1) W w7):=K2.out.trans (Keep.ofBe hr.1);clear hr
  try (go_wp2_with fail)
  refine hK.out _ _ Q7.out (fun hHeld=>?_)
  clear hK K
  try simp only [pu]
  refine wT 10 (v1) ?_
  try simp only [pu]
  refine wT 11 (.bool ok1) ?_
  try simp only [pu]
  refine wR 12 (fun K hK=>?_)
  go_simp
  go_at_call 62
  (with_reducible refine (HB.out _ _ _ _ _ _ A2.out rfl R7.out).mono ?_)
  rintro e w8 ⟨rfl,hK2,hC⟩
  have P8:=Lib.hid hC;have Q8:Hid (w8.cell? ⟨bq,0,none⟩=some (.pointer (some ⟨b,0,none⟩))):=q_keep (hK2) hbq Q7.out;have K8:Hid (Keep b (b+1) W w8):=K7.out.trans (hK2);clear hK2 hC
  try (go_wp2_with fail)
  refine hK.out _ _ Q8.out (fun hHeld=>?_)
  clear hK K
  try simp only [pu]
  refine wR 13 (fun K hK=>?_)
  go_simp
  refine hK.out _ _ Q8.out (fun hHeld=>?_)
  clear hK K
  try simp only [pu]
  refine wpAnyH_done (by kernel_rfl) ?_ _
  refine NoPanic.normal ?_
  go_wp2
  go_ret
  exact CoR.set (by simp) K8.out P8.out
 ·
  go_simp
  go_at_call 68
  (with_reducible refine (HN0.out _ _ A0.out).mono ?_)
  rintro e w1 ⟨rfl,hA,hK2⟩
  have A1:=Lib.hid hA;have Q1:Hid (w1.cell? ⟨bq,0,none⟩=some (.pointer (some ⟨b,0,none⟩))):=q_keep (hK2) hbq Q0.out;have K1:Hid (Keep b (b+1) W w1):=K0.out.trans (hK2);clear hA hK2
  try (go_wp2_with fail)
  refine hK.out _ _ Q1.out (fun hHeld=>?_)
  clear hK K
  try simp only [pu]
  refine wpAnyH_ready (rs:=[4,8]) (by kernel_rfl) (by simp) ?_
  refine AllReadyH.cons rfl (fun K hK=>?_) (AllReadyH.cons rfl (fun K hK=>?_) (AllReadyH.nil))
  ·
   obtain ⟨e0,e1⟩:=A1.out.cells
   go_simp
   refine hK.out _ _ Q1.out (fun hHeld=>?_)
   clear hK K
   try simp only [pu]
   clear e0 e1
   refine wR 8 (fun K hK=>?_)
   go_simp
   go_at_call 68
   (with_reducible refine (HN1.out _ _ A1.out).mono ?_)
   rintro e w2 ⟨rfl,hA,hK2⟩
   have A2:=Lib.hid hA;have Q2:Hid (w2.cell? ⟨bq,0,none⟩=some (.pointer (some ⟨b,0,none⟩))):=q_keep (hK2) hbq Q1.out;have K2:Hid (Keep b (b+1) W w2):=K1.out.trans (hK2);clear hA hK2
   try (go_wp2_with fail)
   refine hK.out _ _ Q2.out (fun hHeld=>?_)
   clear hK K
   try simp only [pu]
   refine wR 9 (fun K hK=>?_)
   go_simp
   go_at_call 67
   (with_reducible refine (HF.out _ _ A2.out).mono ?_)
   rintro e w7 ⟨v1,ok1,rfl,hr⟩
   have R7:=Lib.hid hr;have Q7:Hid (w7.cell? ⟨bq,0,none⟩=some (.pointer (some ⟨b,0,none⟩))):=q_keep (Keep.ofBe hr.1) hbq Q2.out;have K7:Hid (Keep b (b+1) W w7):=K2.out.trans (Keep.ofBe hr.1);clear hr
   try (go_wp2_with fail)
   refine hK.out _ _ Q7.out (fun hHeld=>?_)
   clear hK K
   try simp only [pu]
   refine wT 10 (v1) ?_
   try simp only [pu]
   refine wT 11 (.bool ok1) ?_
   try simp only [pu]
   refine wR 12 (fun K hK=>?_)
   go_simp
   go_at_call 62
   (with_reducible refine (HB.out _ _ _ _ _ _ A2.out rfl R7.out).mono ?_)
   rintro e w8 ⟨rfl,hK2,hC⟩
   have P8:=Lib.hid hC;have Q8:Hid (w8.cell? ⟨bq,0,none⟩=some (.pointer (some ⟨b,0,none⟩))):=q_keep (hK2) hbq Q7.out;have K8:Hid (Keep b (b+1) W w8):=K7.out.trans (hK2);clear hK2 hC
   try (go_wp2_with fail)
   refine hK.out _ _ Q8.out (fun hHeld=>?_)
   clear hK K
   try simp only [pu]
   refine wR 13 (fun K hK=>?_)
   go_simp
   refine hK.out _ _ Q8.out (fun hHeld=>?_)
   clear hK K
   try simp only [pu]
   refine wpAnyH_done (by kernel_rfl) ?_ _
   refine NoPanic.normal ?_
   go_wp2
   go_ret
   exact CoR.set (by simp) K8.out P8.out
  ·
   go_simp
   go_at_call 68
   (with_reducible refine (HN1.out _ _ A1.out).mono ?_)
   rintro e w2 ⟨rfl,hA,hK2⟩
   have A2:=Lib.hid hA;have Q2:Hid (w2.cell? ⟨bq,0,none⟩=some (.pointer (some ⟨b,0,none⟩))):=q_keep (hK2) hbq Q1.out;have K2:Hid (Keep b (b+1) W w2):=K1.out.trans (hK2);clear hA hK2
   try (go_wp2_with fail)
   refine hK.out _ _ Q2.out (fun hHeld=>?_)
   clear hK K
   try simp only [pu]
   obtain ⟨e0,e1⟩:=A2.out.cells
   refine wR 4 (fun K hK=>?_)
   go_simp
   refine hK.out _ _ Q2.out (fun hHeld=>?_)
   clear hK K
   try simp only [pu]
   clear e0 e1
   refine wR 9 (fun K hK=>?_)
   go_simp
   go_at_call 67
   (with_reducible refine (HF.out _ _ A2.out).mono ?_)
   rintro e w7 ⟨v1,ok1,rfl,hr⟩
   have R7:=Lib.hid hr;have Q7:Hid (w7.cell? ⟨bq,0,none⟩=some (.pointer (some ⟨b,0,none⟩))):=q_keep (Keep.ofBe hr.1) hbq Q2.out;have K7:Hid (Keep b (b+1) W w7):=K2.out.trans (Keep.ofBe hr.1);clear hr
   try (go_wp2_with fail)
   refine hK.out _ _ Q7.out (fun hHeld=>?_)
   clear hK K
   try simp only [pu]
   refine wT 10 (v1) ?_
   try simp only [pu]
   refine wT 11 (.bool ok1) ?_
   try simp only [pu]
   refine wR 12 (fun K hK=>?_)
   go_simp
   go_at_call 62
   (with_reducible refine (HB.out _ _ _ _ _ _ A2.out rfl R7.out).mono ?_)
   rintro e w8 ⟨rfl,hK2,hC⟩
   have P8:=Lib.hid hC;have Q8:Hid (w8.cell? ⟨bq,0,none⟩=some (.pointer (some ⟨b,0,none⟩))):=q_keep (hK2) hbq Q7.out;have K8:Hid (Keep b (b+1) W w8):=K7.out.trans (hK2);clear hK2 hC
   try (go_wp2_with fail)
   refine hK.out _ _ Q8.out (fun hHeld=>?_)
   clear hK K
   try simp only [pu]
   refine wR 13 (fun K hK=>?_)
   go_simp
   refine hK.out _ _ Q8.out (fun hHeld=>?_)
   clear hK K
   try simp only [pu]
   refine wpAnyH_done (by kernel_rfl) ?_ _
   refine NoPanic.normal ?_
   go_wp2
   go_ret
   exact CoR.set (by simp) K8.out P8.out
theorem run4_co (w0 W:World) (b bq:Nat) (x:TourV) (ws:List (List UInt8)) (h:CoW w0 W b x ws false) (hc:ComP w0) (hl:∀l∈ws,l.length≤1048576) (hm:ws.length=1) (hq:W.cell? ⟨bq,0,none⟩=some (.pointer (some ⟨b,0,none⟩))) (hbq:bq≠b):
  Calls Tryz.prog 69 #[.pointer (some ⟨bq,0,none⟩)] W fun e w'=>CoR w0 W b ws (setA x (numB (wd ws 0)) (partF x (numV (wd ws 0)))) e w':=by
 obtain ⟨A,c,B,d,lo,hi,hA⟩:=h.names
 have HN0:Hid (∀V bad,CoA w0 V b x ws bad A c B d lo hi→Calls Tryz.prog 68 #[.pointer (some ⟨b,0,none⟩),.int .i64 0] V fun e w'=>e=.returned (.int .i64 (numV (wd ws 0)))∧CoA w0 w' b x ws (bad || !numB (wd ws 0)) A c B d lo hi∧Keep b (b+1) V w'):=fun V bad hV=>number_co w0 V b 0 x ws bad A B c d lo hi hV hc hl (by omega)
 have HB:Hid (∀V V1 bad e v ok,CoA w0 V b x ws bad A c B d lo hi→e=.returned (.tuple #[v,.bool ok])→TR V e V1 (partF x (numV (wd ws 0)))→Calls Tryz.prog 62 #[.pointer (some ⟨b,0,none⟩),v,.bool ok] V1 fun e w'=>CoP w0 V1 b (outT (partF x (numV (wd ws 0)))) ((partF x (numV (wd ws 0))).getD x) ws bad e w'):=fun V V1 bad e v ok hV he hr=>becomeCo hV.co hc.1 he hr
 have HF:Hid (∀V bad ,CoA w0 V b x ws bad A c B d lo hi→Calls Tryz.prog 70 #[.agg #[.int .i64 x.size,.slice A x.wins.length c],.int .i64 (numV (wd ws 0))] V fun e w'=>∃v ok,e=.returned (.tuple #[v,.bool ok])∧TR V e w' (partF x (numV (wd ws 0)))):=fun V bad hV=>(implPart_any _ x _ V hV.in_).mono fun e w' h=>h.form
 have A0:=Lib.hid hA.drew
 have K0:Hid (Keep b (b+1) W W.drew):=Keep.ofBe (below_of_drewN _ W 1)
 have Q0:Hid (W.drew.cell? ⟨bq,0,none⟩=some (.pointer (some ⟨b,0,none⟩))):=hq
 clear hA h hc hl
 go_enter Tryz.func69,Tryz.ntmps69
 go_wp2_with fail
 refine wp_region_noPanic ?_
 refine wp_region_held_drew (S:=fun W=>W.cell? ⟨bq,0,none⟩=some (.pointer (some ⟨b,0,none⟩))) (by kernel_rfl) Q0.out (fun hHeld=>?_)
 refine wT 0 (.pointer (some ⟨b,0,none⟩)) ?_
 try simp only [pu]
 refine wT 1 (.pointer (some ⟨b,0,none⟩)) ?_
 try simp only [pu]
 refine wT 2 (.pointer (some ⟨b,0,none⟩)) ?_
 try simp only [pu]
 refine wT 3 (.pointer (some ⟨b,0,none⟩)) ?_
 try simp only [pu]
 refine wT 5 (.pointer (some ⟨b,0,none⟩)) ?_
 try simp only [pu]
 refine wpAnyH_ready (rs:=[4,6]) (by kernel_rfl) (by simp) ?_
 refine AllReadyH.cons rfl (fun K hK=>?_) (AllReadyH.cons rfl (fun K hK=>?_) (AllReadyH.nil))
 ·
  obtain ⟨e0,e1⟩:=A0.out.cells
  go_simp
  refine hK.out _ _ Q0.out (fun hHeld=>?_)
  clear hK K
  try simp only [pu]
  clear e0 e1
  refine wR 6 (fun K hK=>?_)
  go_simp
  go_at_call 68
  (with_reducible refine (HN0.out _ _ A0.out).mono ?_)
  rintro e w1 ⟨rfl,hA,hK2⟩
  have A1:=Lib.hid hA;have Q1:Hid (w1.cell? ⟨bq,0,none⟩=some (.pointer (some ⟨b,0,none⟩))):=q_keep (hK2) hbq Q0.out;have K1:Hid (Keep b (b+1) W w1):=K0.out.trans (hK2);clear hA hK2
  try (go_wp2_with fail)
  refine hK.out _ _ Q1.out (fun hHeld=>?_)
  clear hK K
  try simp only [pu]
  refine wR 7 (fun K hK=>?_)
  go_simp
  go_at_call 70
  (with_reducible refine (HF.out _ _ A1.out).mono ?_)
  rintro e w7 ⟨v1,ok1,rfl,hr⟩
  have R7:=Lib.hid hr;have Q7:Hid (w7.cell? ⟨bq,0,none⟩=some (.pointer (some ⟨b,0,none⟩))):=q_keep (Keep.ofBe hr.1) hbq Q1.out;have K7:Hid (Keep b (b+1) W w7):=K1.out.trans (Keep.ofBe hr.1);clear hr
  try (go_wp2_with fail)
  refine hK.out _ _ Q7.out (fun hHeld=>?_)
  clear hK K
  try simp only [pu]
  refine wT 8 (v1) ?_
  try simp only [pu]
  refine wT 9 (.bool ok1) ?_
  try simp only [pu]
  refine wR 10 (fun K hK=>?_)
  go_simp
  go_at_call 62
  (with_reducible refine (HB.out _ _ _ _ _ _ A1.out rfl R7.out).mono ?_)
  rintro e w8 ⟨rfl,hK2,hC⟩
  have P8:=Lib.hid hC;have Q8:Hid (w8.cell? ⟨bq,0,none⟩=some (.pointer (some ⟨b,0,none⟩))):=q_keep (hK2) hbq Q7.out;have K8:Hid (Keep b (b+1) W w8):=K7.out.trans (hK2);clear hK2 hC
  try (go_wp2_with fail)
  refine hK.out _ _ Q8.out (fun hHeld=>?_)
  clear hK K
  try simp only [pu]
  refine wR 11 (fun K hK=>?_)
  go_simp
  refine hK.out _ _ Q8.out (fun hHeld=>?_)
  clear hK K
  try simp only [pu]
  refine wpAnyH_done (by kernel_rfl) ?_ _
  refine NoPanic.normal ?_
  go_wp2
  go_ret
  exact CoR.set (by simp) K8.out P8.out
 ·
  go_simp
  go_at_call 68
  (with_reducible refine (HN0.out _ _ A0.out).mono ?_)
  rintro e w1 ⟨rfl,hA,hK2⟩
  have A1:=Lib.hid hA;have Q1:Hid (w1.cell? ⟨bq,0,none⟩=some (.pointer (some ⟨b,0,none⟩))):=q_keep (hK2) hbq Q0.out;have K1:Hid (Keep b (b+1) W w1):=K0.out.trans (hK2);clear hA hK2
  try (go_wp2_with fail)
  refine hK.out _ _ Q1.out (fun hHeld=>?_)
  clear hK K
  try simp only [pu]
  obtain ⟨e0,e1⟩:=A1.out.cells
  refine wR 4 (fun K hK=>?_)
  go_simp
  refine hK.out _ _ Q1.out (fun hHeld=>?_)
  clear hK K
  try simp only [pu]
  clear e0 e1
  refine wR 7 (fun K hK=>?_)
  go_simp
  go_at_call 70
  (with_reducible refine (HF.out _ _ A1.out).mono ?_)
  rintro e w7 ⟨v1,ok1,rfl,hr⟩
  have R7:=Lib.hid hr;have Q7:Hid (w7.cell? ⟨bq,0,none⟩=some (.pointer (some ⟨b,0,none⟩))):=q_keep (Keep.ofBe hr.1) hbq Q1.out;have K7:Hid (Keep b (b+1) W w7):=K1.out.trans (Keep.ofBe hr.1);clear hr
  try (go_wp2_with fail)
  refine hK.out _ _ Q7.out (fun hHeld=>?_)
  clear hK K
  try simp only [pu]
  refine wT 8 (v1) ?_
  try simp only [pu]
  refine wT 9 (.bool ok1) ?_
  try simp only [pu]
  refine wR 10 (fun K hK=>?_)
  go_simp
  go_at_call 62
  (with_reducible refine (HB.out _ _ _ _ _ _ A1.out rfl R7.out).mono ?_)
  rintro e w8 ⟨rfl,hK2,hC⟩
  have P8:=Lib.hid hC;have Q8:Hid (w8.cell? ⟨bq,0,none⟩=some (.pointer (some ⟨b,0,none⟩))):=q_keep (hK2) hbq Q7.out;have K8:Hid (Keep b (b+1) W w8):=K7.out.trans (hK2);clear hK2 hC
  try (go_wp2_with fail)
  refine hK.out _ _ Q8.out (fun hHeld=>?_)
  clear hK K
  try simp only [pu]
  refine wR 11 (fun K hK=>?_)
  go_simp
  refine hK.out _ _ Q8.out (fun hHeld=>?_)
  clear hK K
  try simp only [pu]
  refine wpAnyH_done (by kernel_rfl) ?_ _
  refine NoPanic.normal ?_
  go_wp2
  go_ret
  exact CoR.set (by simp) K8.out P8.out
theorem run5_co (w0 W:World) (b bq:Nat) (x:TourV) (ws:List (List UInt8)) (h:CoW w0 W b x ws false) (hc:ComP w0) (hl:∀l∈ws,l.length≤1048576) (hm:ws.length=1) (hq:W.cell? ⟨bq,0,none⟩=some (.pointer (some ⟨b,0,none⟩))) (hbq:bq≠b):
  Calls Tryz.prog 71 #[.pointer (some ⟨bq,0,none⟩)] W fun e w'=>CoR w0 W b ws (setA x (pnB (wd ws 0)) (rzF (pnF (wd ws 0)))) e w':=by
 obtain ⟨A,c,B,d,lo,hi,hA⟩:=h.names
 have HNS:Hid (∀V bad,CoA w0 V b x ws bad A c B d lo hi→Calls Tryz.prog 73 #[.pointer (some ⟨b,0,none⟩),.int .i64 0] V fun e w'=>∃A2 c2,e=.returned (.slice A2 (pnF (wd ws 0)).length c2)∧InI w' (.slice A2 (pnF (wd ws 0)).length c2) (pnF (wd ws 0))∧CoA w0 w' b x ws (bad || !pnB (wd ws 0)) A c B d lo hi∧Keep b (b+1) V w'):=fun V bad hV=>(numbers_co w0 V b 0 x ws bad A B c d lo hi hV hc hl (by omega)).mono fun e w' ⟨v',he,hi2,h1,h2⟩=>by
  obtain ⟨A2,c2,rfl,h3,h4,h5⟩:=hi2
  exact ⟨A2,c2,he,⟨A2,c2,rfl,h3,h4,h5⟩,h1,h2⟩
 have HB:Hid (∀V V1 bad e v ok,CoA w0 V b x ws bad A c B d lo hi→e=.returned (.tuple #[v,.bool ok])→TR V e V1 (rzF (pnF (wd ws 0)))→Calls Tryz.prog 62 #[.pointer (some ⟨b,0,none⟩),v,.bool ok] V1 fun e w'=>CoP w0 V1 b (outT (rzF (pnF (wd ws 0)))) ((rzF (pnF (wd ws 0))).getD x) ws bad e w'):=fun V V1 bad e v ok hV he hr=>becomeCo hV.co hc.1 he hr
 have HF:Hid (∀V bad A2 c2,CoA w0 V b x ws bad A c B d lo hi→InI V (.slice A2 (pnF (wd ws 0)).length c2) (pnF (wd ws 0))→Calls Tryz.prog 72 #[.slice A2 (pnF (wd ws 0)).length c2] V fun e w'=>∃v ok,e=.returned (.tuple #[v,.bool ok])∧TR V e w' (rzF (pnF (wd ws 0)))):=fun V bad A2 c2 hV hi2=>(implRealize_any A2 c2 _ V (by obtain ⟨A3,c3,he,_,_,h5⟩:=hi2;injection he with e1 _ _;subst e1;exact h5) (pnF_len _)).mono fun e w' h=>h.form
 have A0:=Lib.hid hA.drew
 have K0:Hid (Keep b (b+1) W W.drew):=Keep.ofBe (below_of_drewN _ W 1)
 have Q0:Hid (W.drew.cell? ⟨bq,0,none⟩=some (.pointer (some ⟨b,0,none⟩))):=hq
 clear hA h hc hl
 go_enter Tryz.func71,Tryz.ntmps71
 go_wp2_with fail
 refine wp_region_noPanic ?_
 refine wp_region_held_drew (S:=fun W=>W.cell? ⟨bq,0,none⟩=some (.pointer (some ⟨b,0,none⟩))) (by kernel_rfl) Q0.out (fun hHeld=>?_)
 refine wT 0 (.pointer (some ⟨b,0,none⟩)) ?_
 try simp only [pu]
 refine wT 1 (.pointer (some ⟨b,0,none⟩)) ?_
 try simp only [pu]
 refine wR 2 (fun K hK=>?_)
 go_simp
 go_at_call 73
 (with_reducible refine (HNS.out _ _ A0.out).mono ?_)
 rintro e w1 ⟨A2,c2,rfl,hI,hA,hK2⟩
 have A1:=Lib.hid hA;have I2:=Lib.hid hI;have Q1:Hid (w1.cell? ⟨bq,0,none⟩=some (.pointer (some ⟨b,0,none⟩))):=q_keep (hK2) hbq Q0.out;have K1:Hid (Keep b (b+1) W w1):=K0.out.trans (hK2);clear hA hK2 hI
 try (go_wp2_with fail)
 refine hK.out _ _ Q1.out (fun hHeld=>?_)
 clear hK K
 try simp only [pu]
 refine wR 3 (fun K hK=>?_)
 go_simp
 go_at_call 72
 (with_reducible refine (HF.out _ _ _ _ A1.out I2.out).mono ?_)
 rintro e w7 ⟨v1,ok1,rfl,hr⟩
 have R7:=Lib.hid hr;have Q7:Hid (w7.cell? ⟨bq,0,none⟩=some (.pointer (some ⟨b,0,none⟩))):=q_keep (Keep.ofBe hr.1) hbq Q1.out;have K7:Hid (Keep b (b+1) W w7):=K1.out.trans (Keep.ofBe hr.1);clear hr
 try (go_wp2_with fail)
 refine hK.out _ _ Q7.out (fun hHeld=>?_)
 clear hK K
 try simp only [pu]
 refine wT 4 (v1) ?_
 try simp only [pu]
 refine wT 5 (.bool ok1) ?_
 try simp only [pu]
 refine wR 6 (fun K hK=>?_)
 go_simp
 go_at_call 62
 (with_reducible refine (HB.out _ _ _ _ _ _ A1.out rfl R7.out).mono ?_)
 rintro e w8 ⟨rfl,hK2,hC⟩
 have P8:=Lib.hid hC;have Q8:Hid (w8.cell? ⟨bq,0,none⟩=some (.pointer (some ⟨b,0,none⟩))):=q_keep (hK2) hbq Q7.out;have K8:Hid (Keep b (b+1) W w8):=K7.out.trans (hK2);clear hK2 hC
 try (go_wp2_with fail)
 refine hK.out _ _ Q8.out (fun hHeld=>?_)
 clear hK K
 try simp only [pu]
 refine wR 7 (fun K hK=>?_)
 go_simp
 refine hK.out _ _ Q8.out (fun hHeld=>?_)
 clear hK K
 try simp only [pu]
 refine wpAnyH_done (by kernel_rfl) ?_ _
 refine NoPanic.normal ?_
 go_wp2
 go_ret
 exact CoR.set (by simp) K8.out P8.out
theorem run6_co (w0 W:World) (b bq:Nat) (x:TourV) (ws:List (List UInt8)) (h:CoW w0 W b x ws false) (hc:ComP w0) (_hl:∀l∈ws,l.length≤1048576) (_hm:ws.length=0) (hq:W.cell? ⟨bq,0,none⟩=some (.pointer (some ⟨b,0,none⟩))) (hbq:bq≠b):
  Calls Tryz.prog 74 #[.pointer (some ⟨bq,0,none⟩)] W fun e w'=>CoR w0 W b ws (setA x true (strF x (bstF x))) e w':=by
 obtain ⟨A,c,B,d,lo,hi,hA⟩:=h.names
 have HB:Hid (∀V V1 bad e v ok,CoA w0 V b x ws bad A c B d lo hi→e=.returned (.tuple #[v,.bool ok])→TR V e V1 (strF x (bstF x))→Calls Tryz.prog 62 #[.pointer (some ⟨b,0,none⟩),v,.bool ok] V1 fun e w'=>CoP w0 V1 b (outT (strF x (bstF x))) ((strF x (bstF x)).getD x) ws bad e w'):=fun V V1 bad e v ok hV he hr=>becomeCo hV.co hc.1 he hr
 have HO:Hid (∀V bad,CoA w0 V b x ws bad A c B d lo hi→Calls Tryz.prog 76 #[.agg #[.int .i64 x.size,.slice A x.wins.length c]] V fun e w'=>∃A2 c2,e=.returned (.slice A2 (bstF x).length c2)∧InI w' (.slice A2 (bstF x).length c2) (bstF x)∧Below V.heap.size V w'):=fun V bad hV=>implBestAll_any _ x V hV.in_
 have HF:Hid (∀V bad A2 c2,CoA w0 V b x ws bad A c B d lo hi→InI V (.slice A2 (bstF x).length c2) (bstF x)→Calls Tryz.prog 75 #[.agg #[.int .i64 x.size,.slice A x.wins.length c],.slice A2 (bstF x).length c2] V fun e w'=>∃v ok,e=.returned (.tuple #[v,.bool ok])∧TR V e w' (strF x (bstF x))):=fun V bad A2 c2 hV hi2=>(implStraighten_any _ x A2 c2 _ V hV.in_ hi2 (bstF_len x)).mono fun e w' h=>h.form
 have A0:=Lib.hid hA.drew
 have K0:Hid (Keep b (b+1) W W.drew):=Keep.ofBe (below_of_drewN _ W 1)
 have Q0:Hid (W.drew.cell? ⟨bq,0,none⟩=some (.pointer (some ⟨b,0,none⟩))):=hq
 clear hA h hc _hl
 go_enter Tryz.func74,Tryz.ntmps74
 go_wp2_with fail
 refine wp_region_noPanic ?_
 refine wp_region_held_drew (S:=fun W=>W.cell? ⟨bq,0,none⟩=some (.pointer (some ⟨b,0,none⟩))) (by kernel_rfl) Q0.out (fun hHeld=>?_)
 refine wT 0 (.pointer (some ⟨b,0,none⟩)) ?_
 try simp only [pu]
 refine wT 1 (.pointer (some ⟨b,0,none⟩)) ?_
 try simp only [pu]
 refine wT 2 (.pointer (some ⟨b,0,none⟩)) ?_
 try simp only [pu]
 refine wT 3 (.pointer (some ⟨b,0,none⟩)) ?_
 try simp only [pu]
 refine wT 5 (.pointer (some ⟨b,0,none⟩)) ?_
 try simp only [pu]
 refine wT 6 (.pointer (some ⟨b,0,none⟩)) ?_
 try simp only [pu]
 refine wT 7 (.pointer (some ⟨b,0,none⟩)) ?_
 try simp only [pu]
 refine wpAnyH_ready (rs:=[4,8]) (by kernel_rfl) (by simp) ?_
 refine AllReadyH.cons rfl (fun K hK=>?_) (AllReadyH.cons rfl (fun K hK=>?_) (AllReadyH.nil))
 ·
  obtain ⟨e0,e1⟩:=A0.out.cells
  go_simp
  refine hK.out _ _ Q0.out (fun hHeld=>?_)
  clear hK K
  try simp only [pu]
  clear e0 e1
  obtain ⟨e0,e1⟩:=A0.out.cells
  refine wR 8 (fun K hK=>?_)
  go_simp
  refine hK.out _ _ Q0.out (fun hHeld=>?_)
  clear hK K
  try simp only [pu]
  clear e0 e1
  refine wR 9 (fun K hK=>?_)
  go_simp
  go_at_call 76
  (with_reducible refine (HO.out _ _ A0.out).mono ?_)
  rintro e w1 ⟨A2,c2,rfl,hI,hb⟩
  have A1:=Lib.hid (A0.out.grow hb);have I2:=Lib.hid hI;have Q1:Hid (w1.cell? ⟨bq,0,none⟩=some (.pointer (some ⟨b,0,none⟩))):=q_keep (Keep.ofBe hb) hbq Q0.out;have K1:Hid (Keep b (b+1) W w1):=K0.out.trans (Keep.ofBe hb);clear hb hI
  try (go_wp2_with fail)
  refine hK.out _ _ Q1.out (fun hHeld=>?_)
  clear hK K
  try simp only [pu]
  refine wR 10 (fun K hK=>?_)
  go_simp
  go_at_call 75
  (with_reducible refine (HF.out _ _ _ _ A1.out I2.out).mono ?_)
  rintro e w7 ⟨v1,ok1,rfl,hr⟩
  have R7:=Lib.hid hr;have Q7:Hid (w7.cell? ⟨bq,0,none⟩=some (.pointer (some ⟨b,0,none⟩))):=q_keep (Keep.ofBe hr.1) hbq Q1.out;have K7:Hid (Keep b (b+1) W w7):=K1.out.trans (Keep.ofBe hr.1);clear hr
  try (go_wp2_with fail)
  refine hK.out _ _ Q7.out (fun hHeld=>?_)
  clear hK K
  try simp only [pu]
  refine wT 11 (v1) ?_
  try simp only [pu]
  refine wT 12 (.bool ok1) ?_
  try simp only [pu]
  refine wR 13 (fun K hK=>?_)
  go_simp
  go_at_call 62
  (with_reducible refine (HB.out _ _ _ _ _ _ A1.out rfl R7.out).mono ?_)
  rintro e w8 ⟨rfl,hK2,hC⟩
  have P8:=Lib.hid hC;have Q8:Hid (w8.cell? ⟨bq,0,none⟩=some (.pointer (some ⟨b,0,none⟩))):=q_keep (hK2) hbq Q7.out;have K8:Hid (Keep b (b+1) W w8):=K7.out.trans (hK2);clear hK2 hC
  try (go_wp2_with fail)
  refine hK.out _ _ Q8.out (fun hHeld=>?_)
  clear hK K
  try simp only [pu]
  refine wR 14 (fun K hK=>?_)
  go_simp
  refine hK.out _ _ Q8.out (fun hHeld=>?_)
  clear hK K
  try simp only [pu]
  refine wpAnyH_done (by kernel_rfl) ?_ _
  refine NoPanic.normal ?_
  go_wp2
  go_ret
  exact CoR.set (by simp) K8.out P8.out
 ·
  obtain ⟨e0,e1⟩:=A0.out.cells
  go_simp
  refine hK.out _ _ Q0.out (fun hHeld=>?_)
  clear hK K
  try simp only [pu]
  clear e0 e1
  refine wpAnyH_ready (rs:=[4,9]) (by kernel_rfl) (by simp) ?_
  refine AllReadyH.cons rfl (fun K hK=>?_) (AllReadyH.cons rfl (fun K hK=>?_) (AllReadyH.nil))
  ·
   obtain ⟨e0,e1⟩:=A0.out.cells
   go_simp
   refine hK.out _ _ Q0.out (fun hHeld=>?_)
   clear hK K
   try simp only [pu]
   clear e0 e1
   refine wR 9 (fun K hK=>?_)
   go_simp
   go_at_call 76
   (with_reducible refine (HO.out _ _ A0.out).mono ?_)
   rintro e w1 ⟨A2,c2,rfl,hI,hb⟩
   have A1:=Lib.hid (A0.out.grow hb);have I2:=Lib.hid hI;have Q1:Hid (w1.cell? ⟨bq,0,none⟩=some (.pointer (some ⟨b,0,none⟩))):=q_keep (Keep.ofBe hb) hbq Q0.out;have K1:Hid (Keep b (b+1) W w1):=K0.out.trans (Keep.ofBe hb);clear hb hI
   try (go_wp2_with fail)
   refine hK.out _ _ Q1.out (fun hHeld=>?_)
   clear hK K
   try simp only [pu]
   refine wR 10 (fun K hK=>?_)
   go_simp
   go_at_call 75
   (with_reducible refine (HF.out _ _ _ _ A1.out I2.out).mono ?_)
   rintro e w7 ⟨v1,ok1,rfl,hr⟩
   have R7:=Lib.hid hr;have Q7:Hid (w7.cell? ⟨bq,0,none⟩=some (.pointer (some ⟨b,0,none⟩))):=q_keep (Keep.ofBe hr.1) hbq Q1.out;have K7:Hid (Keep b (b+1) W w7):=K1.out.trans (Keep.ofBe hr.1);clear hr
   try (go_wp2_with fail)
   refine hK.out _ _ Q7.out (fun hHeld=>?_)
   clear hK K
   try simp only [pu]
   refine wT 11 (v1) ?_
   try simp only [pu]
   refine wT 12 (.bool ok1) ?_
   try simp only [pu]
   refine wR 13 (fun K hK=>?_)
   go_simp
   go_at_call 62
   (with_reducible refine (HB.out _ _ _ _ _ _ A1.out rfl R7.out).mono ?_)
   rintro e w8 ⟨rfl,hK2,hC⟩
   have P8:=Lib.hid hC;have Q8:Hid (w8.cell? ⟨bq,0,none⟩=some (.pointer (some ⟨b,0,none⟩))):=q_keep (hK2) hbq Q7.out;have K8:Hid (Keep b (b+1) W w8):=K7.out.trans (hK2);clear hK2 hC
   try (go_wp2_with fail)
   refine hK.out _ _ Q8.out (fun hHeld=>?_)
   clear hK K
   try simp only [pu]
   refine wR 14 (fun K hK=>?_)
   go_simp
   refine hK.out _ _ Q8.out (fun hHeld=>?_)
   clear hK K
   try simp only [pu]
   refine wpAnyH_done (by kernel_rfl) ?_ _
   refine NoPanic.normal ?_
   go_wp2
   go_ret
   exact CoR.set (by simp) K8.out P8.out
  ·
   go_simp
   go_at_call 76
   (with_reducible refine (HO.out _ _ A0.out).mono ?_)
   rintro e w1 ⟨A2,c2,rfl,hI,hb⟩
   have A1:=Lib.hid (A0.out.grow hb);have I2:=Lib.hid hI;have Q1:Hid (w1.cell? ⟨bq,0,none⟩=some (.pointer (some ⟨b,0,none⟩))):=q_keep (Keep.ofBe hb) hbq Q0.out;have K1:Hid (Keep b (b+1) W w1):=K0.out.trans (Keep.ofBe hb);clear hb hI
   try (go_wp2_with fail)
   refine hK.out _ _ Q1.out (fun hHeld=>?_)
   clear hK K
   try simp only [pu]
   obtain ⟨e0,e1⟩:=A1.out.cells
   refine wR 4 (fun K hK=>?_)
   go_simp
   refine hK.out _ _ Q1.out (fun hHeld=>?_)
   clear hK K
   try simp only [pu]
   clear e0 e1
   refine wR 10 (fun K hK=>?_)
   go_simp
   go_at_call 75
   (with_reducible refine (HF.out _ _ _ _ A1.out I2.out).mono ?_)
   rintro e w7 ⟨v1,ok1,rfl,hr⟩
   have R7:=Lib.hid hr;have Q7:Hid (w7.cell? ⟨bq,0,none⟩=some (.pointer (some ⟨b,0,none⟩))):=q_keep (Keep.ofBe hr.1) hbq Q1.out;have K7:Hid (Keep b (b+1) W w7):=K1.out.trans (Keep.ofBe hr.1);clear hr
   try (go_wp2_with fail)
   refine hK.out _ _ Q7.out (fun hHeld=>?_)
   clear hK K
   try simp only [pu]
   refine wT 11 (v1) ?_
   try simp only [pu]
   refine wT 12 (.bool ok1) ?_
   try simp only [pu]
   refine wR 13 (fun K hK=>?_)
   go_simp
   go_at_call 62
   (with_reducible refine (HB.out _ _ _ _ _ _ A1.out rfl R7.out).mono ?_)
   rintro e w8 ⟨rfl,hK2,hC⟩
   have P8:=Lib.hid hC;have Q8:Hid (w8.cell? ⟨bq,0,none⟩=some (.pointer (some ⟨b,0,none⟩))):=q_keep (hK2) hbq Q7.out;have K8:Hid (Keep b (b+1) W w8):=K7.out.trans (hK2);clear hK2 hC
   try (go_wp2_with fail)
   refine hK.out _ _ Q8.out (fun hHeld=>?_)
   clear hK K
   try simp only [pu]
   refine wR 14 (fun K hK=>?_)
   go_simp
   refine hK.out _ _ Q8.out (fun hHeld=>?_)
   clear hK K
   try simp only [pu]
   refine wpAnyH_done (by kernel_rfl) ?_ _
   refine NoPanic.normal ?_
   go_wp2
   go_ret
   exact CoR.set (by simp) K8.out P8.out
theorem run7_co (w0 W:World) (b bq:Nat) (x:TourV) (ws:List (List UInt8)) (h:CoW w0 W b x ws false) (hc:ComP w0) (hl:∀l∈ws,l.length≤1048576) (hm:ws.length=1) (hq:W.cell? ⟨bq,0,none⟩=some (.pointer (some ⟨b,0,none⟩))) (hbq:bq≠b):
  Calls Tryz.prog 77 #[.pointer (some ⟨bq,0,none⟩)] W fun e w'=>CoR w0 W b ws (setA x (numB (wd ws 0)) (squareF (numV (wd ws 0)))) e w':=by
 obtain ⟨A,c,B,d,lo,hi,hA⟩:=h.names
 have HN0:Hid (∀V bad,CoA w0 V b x ws bad A c B d lo hi→Calls Tryz.prog 68 #[.pointer (some ⟨b,0,none⟩),.int .i64 0] V fun e w'=>e=.returned (.int .i64 (numV (wd ws 0)))∧CoA w0 w' b x ws (bad || !numB (wd ws 0)) A c B d lo hi∧Keep b (b+1) V w'):=fun V bad hV=>number_co w0 V b 0 x ws bad A B c d lo hi hV hc hl (by omega)
 have HB:Hid (∀V V1 bad e v ok,CoA w0 V b x ws bad A c B d lo hi→e=.returned (.tuple #[v,.bool ok])→TR V e V1 (squareF (numV (wd ws 0)))→Calls Tryz.prog 62 #[.pointer (some ⟨b,0,none⟩),v,.bool ok] V1 fun e w'=>CoP w0 V1 b (outT (squareF (numV (wd ws 0)))) ((squareF (numV (wd ws 0))).getD x) ws bad e w'):=fun V V1 bad e v ok hV he hr=>becomeCo hV.co hc.1 he hr
 have HF:Hid (∀V bad ,CoA w0 V b x ws bad A c B d lo hi→Calls Tryz.prog 78 #[.int .i64 (numV (wd ws 0))] V fun e w'=>∃v ok,e=.returned (.tuple #[v,.bool ok])∧TR V e w' (squareF (numV (wd ws 0)))):=fun V bad hV=>(implSquare_any _ V).mono fun e w' h=>h.form
 have A0:=Lib.hid hA.drew
 have K0:Hid (Keep b (b+1) W W.drew):=Keep.ofBe (below_of_drewN _ W 1)
 have Q0:Hid (W.drew.cell? ⟨bq,0,none⟩=some (.pointer (some ⟨b,0,none⟩))):=hq
 clear hA h hc hl
 go_enter Tryz.func77,Tryz.ntmps77
 go_wp2_with fail
 refine wp_region_noPanic ?_
 refine wp_region_held_drew (S:=fun W=>W.cell? ⟨bq,0,none⟩=some (.pointer (some ⟨b,0,none⟩))) (by kernel_rfl) Q0.out (fun hHeld=>?_)
 refine wT 0 (.pointer (some ⟨b,0,none⟩)) ?_
 try simp only [pu]
 refine wT 1 (.pointer (some ⟨b,0,none⟩)) ?_
 try simp only [pu]
 refine wR 2 (fun K hK=>?_)
 go_simp
 go_at_call 68
 (with_reducible refine (HN0.out _ _ A0.out).mono ?_)
 rintro e w1 ⟨rfl,hA,hK2⟩
 have A1:=Lib.hid hA;have Q1:Hid (w1.cell? ⟨bq,0,none⟩=some (.pointer (some ⟨b,0,none⟩))):=q_keep (hK2) hbq Q0.out;have K1:Hid (Keep b (b+1) W w1):=K0.out.trans (hK2);clear hA hK2
 try (go_wp2_with fail)
 refine hK.out _ _ Q1.out (fun hHeld=>?_)
 clear hK K
 try simp only [pu]
 refine wR 3 (fun K hK=>?_)
 go_simp
 go_at_call 78
 (with_reducible refine (HF.out _ _ A1.out).mono ?_)
 rintro e w7 ⟨v1,ok1,rfl,hr⟩
 have R7:=Lib.hid hr;have Q7:Hid (w7.cell? ⟨bq,0,none⟩=some (.pointer (some ⟨b,0,none⟩))):=q_keep (Keep.ofBe hr.1) hbq Q1.out;have K7:Hid (Keep b (b+1) W w7):=K1.out.trans (Keep.ofBe hr.1);clear hr
 try (go_wp2_with fail)
 refine hK.out _ _ Q7.out (fun hHeld=>?_)
 clear hK K
 try simp only [pu]
 refine wT 4 (v1) ?_
 try simp only [pu]
 refine wT 5 (.bool ok1) ?_
 try simp only [pu]
 refine wR 6 (fun K hK=>?_)
 go_simp
 go_at_call 62
 (with_reducible refine (HB.out _ _ _ _ _ _ A1.out rfl R7.out).mono ?_)
 rintro e w8 ⟨rfl,hK2,hC⟩
 have P8:=Lib.hid hC;have Q8:Hid (w8.cell? ⟨bq,0,none⟩=some (.pointer (some ⟨b,0,none⟩))):=q_keep (hK2) hbq Q7.out;have K8:Hid (Keep b (b+1) W w8):=K7.out.trans (hK2);clear hK2 hC
 try (go_wp2_with fail)
 refine hK.out _ _ Q8.out (fun hHeld=>?_)
 clear hK K
 try simp only [pu]
 refine wR 7 (fun K hK=>?_)
 go_simp
 refine hK.out _ _ Q8.out (fun hHeld=>?_)
 clear hK K
 try simp only [pu]
 refine wpAnyH_done (by kernel_rfl) ?_ _
 refine NoPanic.normal ?_
 go_wp2
 go_ret
 exact CoR.set (by simp) K8.out P8.out
theorem run8_co (w0 W:World) (b bq:Nat) (x:TourV) (ws:List (List UInt8)) (h:CoW w0 W b x ws false) (hc:ComP w0) (hl:∀l∈ws,l.length≤1048576) (hm:ws.length=1) (hq:W.cell? ⟨bq,0,none⟩=some (.pointer (some ⟨b,0,none⟩))) (hbq:bq≠b):
  Calls Tryz.prog 79 #[.pointer (some ⟨bq,0,none⟩)] W fun e w'=>CoR w0 W b ws (setA x (pnB (wd ws 0)) (rnmF x (pnF (wd ws 0)))) e w':=by
 obtain ⟨A,c,B,d,lo,hi,hA⟩:=h.names
 have HNS:Hid (∀V bad,CoA w0 V b x ws bad A c B d lo hi→Calls Tryz.prog 73 #[.pointer (some ⟨b,0,none⟩),.int .i64 0] V fun e w'=>∃A2 c2,e=.returned (.slice A2 (pnF (wd ws 0)).length c2)∧InI w' (.slice A2 (pnF (wd ws 0)).length c2) (pnF (wd ws 0))∧CoA w0 w' b x ws (bad || !pnB (wd ws 0)) A c B d lo hi∧Keep b (b+1) V w'):=fun V bad hV=>(numbers_co w0 V b 0 x ws bad A B c d lo hi hV hc hl (by omega)).mono fun e w' ⟨v',he,hi2,h1,h2⟩=>by
  obtain ⟨A2,c2,rfl,h3,h4,h5⟩:=hi2
  exact ⟨A2,c2,he,⟨A2,c2,rfl,h3,h4,h5⟩,h1,h2⟩
 have HB:Hid (∀V V1 bad e v ok,CoA w0 V b x ws bad A c B d lo hi→e=.returned (.tuple #[v,.bool ok])→TR V e V1 (rnmF x (pnF (wd ws 0)))→Calls Tryz.prog 62 #[.pointer (some ⟨b,0,none⟩),v,.bool ok] V1 fun e w'=>CoP w0 V1 b (outT (rnmF x (pnF (wd ws 0)))) ((rnmF x (pnF (wd ws 0))).getD x) ws bad e w'):=fun V V1 bad e v ok hV he hr=>becomeCo hV.co hc.1 he hr
 have HF:Hid (∀V bad A2 c2,CoA w0 V b x ws bad A c B d lo hi→InI V (.slice A2 (pnF (wd ws 0)).length c2) (pnF (wd ws 0))→Calls Tryz.prog 80 #[.agg #[.int .i64 x.size,.slice A x.wins.length c],.slice A2 (pnF (wd ws 0)).length c2] V fun e w'=>∃v ok,e=.returned (.tuple #[v,.bool ok])∧TR V e w' (rnmF x (pnF (wd ws 0)))):=fun V bad A2 c2 hV hi2=>(implRenameTour_any _ x A2 c2 _ V hV.in_ hi2).mono fun e w' h=>h.form
 have A0:=Lib.hid hA.drew
 have K0:Hid (Keep b (b+1) W W.drew):=Keep.ofBe (below_of_drewN _ W 1)
 have Q0:Hid (W.drew.cell? ⟨bq,0,none⟩=some (.pointer (some ⟨b,0,none⟩))):=hq
 clear hA h hc hl
 go_enter Tryz.func79,Tryz.ntmps79
 go_wp2_with fail
 refine wp_region_noPanic ?_
 refine wp_region_held_drew (S:=fun W=>W.cell? ⟨bq,0,none⟩=some (.pointer (some ⟨b,0,none⟩))) (by kernel_rfl) Q0.out (fun hHeld=>?_)
 refine wT 0 (.pointer (some ⟨b,0,none⟩)) ?_
 try simp only [pu]
 refine wT 1 (.pointer (some ⟨b,0,none⟩)) ?_
 try simp only [pu]
 refine wT 2 (.pointer (some ⟨b,0,none⟩)) ?_
 try simp only [pu]
 refine wT 3 (.pointer (some ⟨b,0,none⟩)) ?_
 try simp only [pu]
 refine wT 5 (.pointer (some ⟨b,0,none⟩)) ?_
 try simp only [pu]
 refine wpAnyH_ready (rs:=[4,6]) (by kernel_rfl) (by simp) ?_
 refine AllReadyH.cons rfl (fun K hK=>?_) (AllReadyH.cons rfl (fun K hK=>?_) (AllReadyH.nil))
 ·
  obtain ⟨e0,e1⟩:=A0.out.cells
  go_simp
  refine hK.out _ _ Q0.out (fun hHeld=>?_)
  clear hK K
  try simp only [pu]
  clear e0 e1
  refine wR 6 (fun K hK=>?_)
  go_simp
  go_at_call 73
  (with_reducible refine (HNS.out _ _ A0.out).mono ?_)
  rintro e w1 ⟨A2,c2,rfl,hI,hA,hK2⟩
  have A1:=Lib.hid hA;have I2:=Lib.hid hI;have Q1:Hid (w1.cell? ⟨bq,0,none⟩=some (.pointer (some ⟨b,0,none⟩))):=q_keep (hK2) hbq Q0.out;have K1:Hid (Keep b (b+1) W w1):=K0.out.trans (hK2);clear hA hK2 hI
  try (go_wp2_with fail)
  refine hK.out _ _ Q1.out (fun hHeld=>?_)
  clear hK K
  try simp only [pu]
  refine wR 7 (fun K hK=>?_)
  go_simp
  go_at_call 80
  (with_reducible refine (HF.out _ _ _ _ A1.out I2.out).mono ?_)
  rintro e w7 ⟨v1,ok1,rfl,hr⟩
  have R7:=Lib.hid hr;have Q7:Hid (w7.cell? ⟨bq,0,none⟩=some (.pointer (some ⟨b,0,none⟩))):=q_keep (Keep.ofBe hr.1) hbq Q1.out;have K7:Hid (Keep b (b+1) W w7):=K1.out.trans (Keep.ofBe hr.1);clear hr
  try (go_wp2_with fail)
  refine hK.out _ _ Q7.out (fun hHeld=>?_)
  clear hK K
  try simp only [pu]
  refine wT 8 (v1) ?_
  try simp only [pu]
  refine wT 9 (.bool ok1) ?_
  try simp only [pu]
  refine wR 10 (fun K hK=>?_)
  go_simp
  go_at_call 62
  (with_reducible refine (HB.out _ _ _ _ _ _ A1.out rfl R7.out).mono ?_)
  rintro e w8 ⟨rfl,hK2,hC⟩
  have P8:=Lib.hid hC;have Q8:Hid (w8.cell? ⟨bq,0,none⟩=some (.pointer (some ⟨b,0,none⟩))):=q_keep (hK2) hbq Q7.out;have K8:Hid (Keep b (b+1) W w8):=K7.out.trans (hK2);clear hK2 hC
  try (go_wp2_with fail)
  refine hK.out _ _ Q8.out (fun hHeld=>?_)
  clear hK K
  try simp only [pu]
  refine wR 11 (fun K hK=>?_)
  go_simp
  refine hK.out _ _ Q8.out (fun hHeld=>?_)
  clear hK K
  try simp only [pu]
  refine wpAnyH_done (by kernel_rfl) ?_ _
  refine NoPanic.normal ?_
  go_wp2
  go_ret
  exact CoR.set (by simp) K8.out P8.out
 ·
  go_simp
  go_at_call 73
  (with_reducible refine (HNS.out _ _ A0.out).mono ?_)
  rintro e w1 ⟨A2,c2,rfl,hI,hA,hK2⟩
  have A1:=Lib.hid hA;have I2:=Lib.hid hI;have Q1:Hid (w1.cell? ⟨bq,0,none⟩=some (.pointer (some ⟨b,0,none⟩))):=q_keep (hK2) hbq Q0.out;have K1:Hid (Keep b (b+1) W w1):=K0.out.trans (hK2);clear hA hK2 hI
  try (go_wp2_with fail)
  refine hK.out _ _ Q1.out (fun hHeld=>?_)
  clear hK K
  try simp only [pu]
  obtain ⟨e0,e1⟩:=A1.out.cells
  refine wR 4 (fun K hK=>?_)
  go_simp
  refine hK.out _ _ Q1.out (fun hHeld=>?_)
  clear hK K
  try simp only [pu]
  clear e0 e1
  refine wR 7 (fun K hK=>?_)
  go_simp
  go_at_call 80
  (with_reducible refine (HF.out _ _ _ _ A1.out I2.out).mono ?_)
  rintro e w7 ⟨v1,ok1,rfl,hr⟩
  have R7:=Lib.hid hr;have Q7:Hid (w7.cell? ⟨bq,0,none⟩=some (.pointer (some ⟨b,0,none⟩))):=q_keep (Keep.ofBe hr.1) hbq Q1.out;have K7:Hid (Keep b (b+1) W w7):=K1.out.trans (Keep.ofBe hr.1);clear hr
  try (go_wp2_with fail)
  refine hK.out _ _ Q7.out (fun hHeld=>?_)
  clear hK K
  try simp only [pu]
  refine wT 8 (v1) ?_
  try simp only [pu]
  refine wT 9 (.bool ok1) ?_
  try simp only [pu]
  refine wR 10 (fun K hK=>?_)
  go_simp
  go_at_call 62
  (with_reducible refine (HB.out _ _ _ _ _ _ A1.out rfl R7.out).mono ?_)
  rintro e w8 ⟨rfl,hK2,hC⟩
  have P8:=Lib.hid hC;have Q8:Hid (w8.cell? ⟨bq,0,none⟩=some (.pointer (some ⟨b,0,none⟩))):=q_keep (hK2) hbq Q7.out;have K8:Hid (Keep b (b+1) W w8):=K7.out.trans (hK2);clear hK2 hC
  try (go_wp2_with fail)
  refine hK.out _ _ Q8.out (fun hHeld=>?_)
  clear hK K
  try simp only [pu]
  refine wR 11 (fun K hK=>?_)
  go_simp
  refine hK.out _ _ Q8.out (fun hHeld=>?_)
  clear hK K
  try simp only [pu]
  refine wpAnyH_done (by kernel_rfl) ?_ _
  refine NoPanic.normal ?_
  go_wp2
  go_ret
  exact CoR.set (by simp) K8.out P8.out
theorem run17_co (w0 W:World) (b bq:Nat) (x:TourV) (ws:List (List UInt8)) (h:CoW w0 W b x ws false) (hc:ComP w0) (hl:∀l∈ws,l.length≤1048576) (hm:ws.length=1) (hq:W.cell? ⟨bq,0,none⟩=some (.pointer (some ⟨b,0,none⟩))) (hbq:bq≠b):
  Calls Tryz.prog 98 #[.pointer (some ⟨bq,0,none⟩)] W fun e w'=>CoR w0 W b ws (outA x (pnB (wd ws 0)) (brText x (pnF (wd ws 0)))) e w':=by
 obtain ⟨A,c,B,d,lo,hi,hA⟩:=h.names
 have HNS:Hid (∀V bad,CoA w0 V b x ws bad A c B d lo hi→Calls Tryz.prog 73 #[.pointer (some ⟨b,0,none⟩),.int .i64 0] V fun e w'=>∃A2 c2,e=.returned (.slice A2 (pnF (wd ws 0)).length c2)∧InI w' (.slice A2 (pnF (wd ws 0)).length c2) (pnF (wd ws 0))∧CoA w0 w' b x ws (bad || !pnB (wd ws 0)) A c B d lo hi∧Keep b (b+1) V w'):=fun V bad hV=>(numbers_co w0 V b 0 x ws bad A B c d lo hi hV hc hl (by omega)).mono fun e w' ⟨v',he,hi2,h1,h2⟩=>by
  obtain ⟨A2,c2,rfl,h3,h4,h5⟩:=hi2
  exact ⟨A2,c2,he,⟨A2,c2,rfl,h3,h4,h5⟩,h1,h2⟩
 have HF:Hid (∀V bad A2 c2,CoA w0 V b x ws bad A c B d lo hi→InI V (.slice A2 (pnF (wd ws 0)).length c2) (pnF (wd ws 0))→Calls Tryz.prog 99 #[.agg #[.int .i64 x.size,.slice A x.wins.length c],.slice A2 (pnF (wd ws 0)).length c2] V fun e w'=>e=.returned (.string ⟨(brText x (pnF (wd ws 0))).toArray⟩)∧Below V.heap.size V w'):=fun V bad A2 c2 hV hi2=>implBracketLine_any _ x _ _ V hV.in_ hi2 (pnF_len _) (hV.com hc).1
 have A0:=Lib.hid hA.drew
 have K0:Hid (Keep b (b+1) W W.drew):=Keep.ofBe (below_of_drewN _ W 1)
 have Q0:Hid (W.drew.cell? ⟨bq,0,none⟩=some (.pointer (some ⟨b,0,none⟩))):=hq
 clear hA h hc hl
 go_enter Tryz.func98,Tryz.ntmps98
 go_wp2_with fail
 refine wp_region_noPanic ?_
 refine wp_region_held_drew (S:=fun W=>W.cell? ⟨bq,0,none⟩=some (.pointer (some ⟨b,0,none⟩))∧W.cell? ⟨b,0,none⟩=some (.int .i64 x.size)∧W.cell? ⟨b,1,none⟩=some (.slice A x.wins.length c)) (by kernel_rfl) ⟨Q0.out,A0.out.cells⟩ (fun hHeld=>?_)
 refine wT 0 (.pointer (some ⟨b,0,none⟩)) ?_
 try simp only [pu]
 refine wT 1 (.pointer (some ⟨b,0,none⟩)) ?_
 try simp only [pu]
 refine wT 2 (.pointer (some ⟨b,0,none⟩)) ?_
 try simp only [pu]
 refine wT 3 (.agg #[.int .i64 x.size,.slice A x.wins.length c]) ?_
 try simp only [pu]
 refine wT 4 (.pointer (some ⟨b,0,none⟩)) ?_
 try simp only [pu]
 refine wR 5 (fun K hK=>?_)
 go_simp
 go_at_call 73
 (with_reducible refine (HNS.out _ _ A0.out).mono ?_)
 rintro e w1 ⟨A2,c2,rfl,hI,hA,hK2⟩
 have A1:=Lib.hid hA;have I2:=Lib.hid hI;have Q1:Hid (w1.cell? ⟨bq,0,none⟩=some (.pointer (some ⟨b,0,none⟩))):=q_keep (hK2) hbq Q0.out;have K1:Hid (Keep b (b+1) W w1):=K0.out.trans (hK2);clear hA hK2 hI
 try (go_wp2_with fail)
 refine hK.out _ _ ⟨Q1.out,A1.out.cells⟩ (fun hHeld=>?_)
 clear hK K
 try simp only [pu]
 refine wR 6 (fun K hK=>?_)
 go_simp
 go_at_call 99
 (with_reducible refine (HF.out _ _ _ _ A1.out I2.out).mono ?_)
 rintro e w2 ⟨rfl,hb⟩
 have A2:=Lib.hid (A1.out.grow hb);have Q2:Hid (w2.cell? ⟨bq,0,none⟩=some (.pointer (some ⟨b,0,none⟩))):=q_keep (Keep.ofBe hb) hbq Q1.out;have K2:Hid (Keep b (b+1) W w2):=K1.out.trans (Keep.ofBe hb);clear hb
 try (go_wp2_with fail)
 refine hK.out _ _ ⟨Q2.out,A2.out.cells⟩ (fun hHeld=>?_)
 clear hK K
 try simp only [pu]
 refine wR 7 (fun K hK=>?_)
 go_simp
 refine hK.out _ _ ⟨Q2.out,A2.out.cells⟩ (fun hHeld=>?_)
 clear hK K
 try simp only [pu]
 refine wpAnyH_done (by kernel_rfl) ?_ _
 refine NoPanic.normal ?_
 go_wp2
 go_ret
 exact CoR.text (by simp) K2.out A2.out
theorem run18_co (w0 W:World) (b bq:Nat) (x:TourV) (ws:List (List UInt8)) (h:CoW w0 W b x ws false) (hc:ComP w0) (hl:∀l∈ws,l.length≤1048576) (hm:ws.length=1) (hq:W.cell? ⟨bq,0,none⟩=some (.pointer (some ⟨b,0,none⟩))) (hbq:bq≠b):
  Calls Tryz.prog 100 #[.pointer (some ⟨bq,0,none⟩)] W fun e w'=>CoR w0 W b ws (outA x (numB (wd ws 0)) (lstF ((bfF x (numV (wd ws 0))).getD []) (bfF x (numV (wd ws 0))).isSome)) e w':=by
 obtain ⟨A,c,B,d,lo,hi,hA⟩:=h.names
 have HN0:Hid (∀V bad,CoA w0 V b x ws bad A c B d lo hi→Calls Tryz.prog 68 #[.pointer (some ⟨b,0,none⟩),.int .i64 0] V fun e w'=>e=.returned (.int .i64 (numV (wd ws 0)))∧CoA w0 w' b x ws (bad || !numB (wd ws 0)) A c B d lo hi∧Keep b (b+1) V w'):=fun V bad hV=>number_co w0 V b 0 x ws bad A B c d lo hi hV hc hl (by omega)
 have HF:Hid (∀V bad,CoA w0 V b x ws bad A c B d lo hi→Calls Tryz.prog 102 #[.agg #[.int .i64 x.size,.slice A x.wins.length c],.int .i64 (numV (wd ws 0))] V fun e w'=>∃v,e=.returned (.tuple #[v,.bool (bfF x (numV (wd ws 0))).isSome])∧((bfF x (numV (wd ws 0))).isSome=true→InI w' v ((bfF x (numV (wd ws 0))).getD []))∧Below V.heap.size V w'):=fun V bad hV=>(implBracketFor_any _ x _ V hV.in_).mono fun e w' h=>h.listed
 have HG:Hid (∀V bad v,CoA w0 V b x ws bad A c B d lo hi→((bfF x (numV (wd ws 0))).isSome=true→InI V v ((bfF x (numV (wd ws 0))).getD []))→Calls Tryz.prog 101 #[v,.bool (bfF x (numV (wd ws 0))).isSome] V fun e w'=>e=.returned (.string ⟨(lstF ((bfF x (numV (wd ws 0))).getD []) (bfF x (numV (wd ws 0))).isSome).toArray⟩)∧Below V.heap.size V w'):=fun V bad v hV hi2=>listed_any v _ _ V (fun hs=>⟨hi2 hs,bfF_len x _,bfF_wf x _⟩) (hV.com hc).1
 have A0:=Lib.hid hA.drew
 have K0:Hid (Keep b (b+1) W W.drew):=Keep.ofBe (below_of_drewN _ W 1)
 have Q0:Hid (W.drew.cell? ⟨bq,0,none⟩=some (.pointer (some ⟨b,0,none⟩))):=hq
 clear hA h hc hl
 go_enter Tryz.func100,Tryz.ntmps100
 go_wp2_with fail
 refine wp_region_noPanic ?_
 refine wp_region_held_drew (S:=fun W=>W.cell? ⟨bq,0,none⟩=some (.pointer (some ⟨b,0,none⟩))∧W.cell? ⟨b,0,none⟩=some (.int .i64 x.size)∧W.cell? ⟨b,1,none⟩=some (.slice A x.wins.length c)) (by kernel_rfl) ⟨Q0.out,A0.out.cells⟩ (fun hHeld=>?_)
 refine wT 0 (.pointer (some ⟨b,0,none⟩)) ?_
 try simp only [pu]
 refine wT 1 (.pointer (some ⟨b,0,none⟩)) ?_
 try simp only [pu]
 refine wT 2 (.pointer (some ⟨b,0,none⟩)) ?_
 try simp only [pu]
 refine wT 3 (.agg #[.int .i64 x.size,.slice A x.wins.length c]) ?_
 try simp only [pu]
 refine wT 4 (.pointer (some ⟨b,0,none⟩)) ?_
 try simp only [pu]
 refine wR 5 (fun K hK=>?_)
 go_simp
 go_at_call 68
 (with_reducible refine (HN0.out _ _ A0.out).mono ?_)
 rintro e w1 ⟨rfl,hA,hK2⟩
 have A1:=Lib.hid hA;have Q1:Hid (w1.cell? ⟨bq,0,none⟩=some (.pointer (some ⟨b,0,none⟩))):=q_keep (hK2) hbq Q0.out;have K1:Hid (Keep b (b+1) W w1):=K0.out.trans (hK2);clear hA hK2
 try (go_wp2_with fail)
 refine hK.out _ _ ⟨Q1.out,A1.out.cells⟩ (fun hHeld=>?_)
 clear hK K
 try simp only [pu]
 refine wR 6 (fun K hK=>?_)
 go_simp
 go_at_call 102
 (with_reducible refine (HF.out _ _ A1.out).mono ?_)
 rintro e w7 ⟨v1,rfl,hI,hb⟩
 have A7:=Lib.hid (A1.out.grow hb);have I2:=Lib.hid hI;have Q7:Hid (w7.cell? ⟨bq,0,none⟩=some (.pointer (some ⟨b,0,none⟩))):=q_keep (Keep.ofBe hb) hbq Q1.out;have K7:Hid (Keep b (b+1) W w7):=K1.out.trans (Keep.ofBe hb);clear hb hI
 try (go_wp2_with fail)
 refine hK.out _ _ ⟨Q7.out,A7.out.cells⟩ (fun hHeld=>?_)
 clear hK K
 try simp only [pu]
 refine wT 7 (v1) ?_
 try simp only [pu]
 refine wT 8 (.bool (bfF x (numV (wd ws 0))).isSome) ?_
 try simp only [pu]
 refine wR 9 (fun K hK=>?_)
 go_simp
 go_at_call 101
 (with_reducible refine (HG.out _ _ _ A7.out I2.out).mono ?_)
 rintro e w8 ⟨rfl,hb⟩
 have A8:=Lib.hid (A7.out.grow hb);have Q8:Hid (w8.cell? ⟨bq,0,none⟩=some (.pointer (some ⟨b,0,none⟩))):=q_keep (Keep.ofBe hb) hbq Q7.out;have K8:Hid (Keep b (b+1) W w8):=K7.out.trans (Keep.ofBe hb);clear hb
 try (go_wp2_with fail)
 refine hK.out _ _ ⟨Q8.out,A8.out.cells⟩ (fun hHeld=>?_)
 clear hK K
 try simp only [pu]
 refine wR 10 (fun K hK=>?_)
 go_simp
 refine hK.out _ _ ⟨Q8.out,A8.out.cells⟩ (fun hHeld=>?_)
 clear hK K
 try simp only [pu]
 refine wpAnyH_done (by kernel_rfl) ?_ _
 refine NoPanic.normal ?_
 go_wp2
 go_ret
 exact CoR.text (by simp) K8.out A8.out
theorem run19_co (w0 W:World) (b bq:Nat) (x:TourV) (ws:List (List UInt8)) (h:CoW w0 W b x ws false) (hc:ComP w0) (hl:∀l∈ws,l.length≤1048576) (hm:ws.length=2) (hq:W.cell? ⟨bq,0,none⟩=some (.pointer (some ⟨b,0,none⟩))) (hbq:bq≠b):
  Calls Tryz.prog 106 #[.pointer (some ⟨bq,0,none⟩)] W fun e w'=>CoR w0 W b ws (outA x (numB (wd ws 0) && numB (wd ws 1)) (Lib.itoa (waysF (numV (wd ws 0)) (numV (wd ws 1))))) e w':=by
 obtain ⟨A,c,B,d,lo,hi,hA⟩:=h.names
 have HN0:Hid (∀V bad,CoA w0 V b x ws bad A c B d lo hi→Calls Tryz.prog 68 #[.pointer (some ⟨b,0,none⟩),.int .i64 0] V fun e w'=>e=.returned (.int .i64 (numV (wd ws 0)))∧CoA w0 w' b x ws (bad || !numB (wd ws 0)) A c B d lo hi∧Keep b (b+1) V w'):=fun V bad hV=>number_co w0 V b 0 x ws bad A B c d lo hi hV hc hl (by omega)
 have HN1:Hid (∀V bad,CoA w0 V b x ws bad A c B d lo hi→Calls Tryz.prog 68 #[.pointer (some ⟨b,0,none⟩),.int .i64 1] V fun e w'=>e=.returned (.int .i64 (numV (wd ws 1)))∧CoA w0 w' b x ws (bad || !numB (wd ws 1)) A c B d lo hi∧Keep b (b+1) V w'):=fun V bad hV=>number_co w0 V b 1 x ws bad A B c d lo hi hV hc hl (by omega)
 have HF:Hid (∀V,Calls Tryz.prog 107 #[.int .i64 (numV (wd ws 0)),.int .i64 (numV (wd ws 1))] V fun e w'=>e=.returned (.int .i64 (waysF (numV (wd ws 0)) (numV (wd ws 1))))∧V=w'):=fun V=>implWaysFor_any _ _ V
 have HG:Hid (∀V bad ,CoA w0 V b x ws bad A c B d lo hi→Calls Tryz.prog 13 #[.int .i64 (waysF (numV (wd ws 0)) (numV (wd ws 1)))] V fun e w'=>e=.returned (.string ⟨(Lib.itoa (waysF (numV (wd ws 0)) (numV (wd ws 1)))).toArray⟩)∧Below V.heap.size V w'):=fun V bad hV=>implFormatInt_any _ V (waysF_bd _ _).1 (waysF_bd _ _).2 (hV.com hc).1
 have A0:=Lib.hid hA.drew
 have K0:Hid (Keep b (b+1) W W.drew):=Keep.ofBe (below_of_drewN _ W 1)
 have Q0:Hid (W.drew.cell? ⟨bq,0,none⟩=some (.pointer (some ⟨b,0,none⟩))):=hq
 clear hA h hc hl
 go_enter Tryz.func106,Tryz.ntmps106
 go_wp2_with fail
 refine wp_region_noPanic ?_
 refine wp_region_held_drew (S:=fun W=>W.cell? ⟨bq,0,none⟩=some (.pointer (some ⟨b,0,none⟩))) (by kernel_rfl) Q0.out (fun hHeld=>?_)
 refine wT 0 (.pointer (some ⟨b,0,none⟩)) ?_
 try simp only [pu]
 refine wT 2 (.pointer (some ⟨b,0,none⟩)) ?_
 try simp only [pu]
 refine wR 1 (fun K hK=>?_)
 go_simp
 go_at_call 68
 (with_reducible refine (HN0.out _ _ A0.out).mono ?_)
 rintro e w1 ⟨rfl,hA,hK2⟩
 have A1:=Lib.hid hA;have Q1:Hid (w1.cell? ⟨bq,0,none⟩=some (.pointer (some ⟨b,0,none⟩))):=q_keep (hK2) hbq Q0.out;have K1:Hid (Keep b (b+1) W w1):=K0.out.trans (hK2);clear hA hK2
 try (go_wp2_with fail)
 refine hK.out _ _ Q1.out (fun hHeld=>?_)
 clear hK K
 try simp only [pu]
 refine wR 3 (fun K hK=>?_)
 go_simp
 go_at_call 68
 (with_reducible refine (HN1.out _ _ A1.out).mono ?_)
 rintro e w2 ⟨rfl,hA,hK2⟩
 have A2:=Lib.hid hA;have Q2:Hid (w2.cell? ⟨bq,0,none⟩=some (.pointer (some ⟨b,0,none⟩))):=q_keep (hK2) hbq Q1.out;have K2:Hid (Keep b (b+1) W w2):=K1.out.trans (hK2);clear hA hK2
 try (go_wp2_with fail)
 refine hK.out _ _ Q2.out (fun hHeld=>?_)
 clear hK K
 try simp only [pu]
 refine wR 4 (fun K hK=>?_)
 go_simp
 go_at_call 107
 (with_reducible refine (HF.out _).mono ?_)
 rintro e w_ ⟨rfl,rfl⟩
 skip
 try (go_wp2_with fail)
 refine hK.out _ _ Q2.out (fun hHeld=>?_)
 clear hK K
 try simp only [pu]
 refine wR 5 (fun K hK=>?_)
 go_simp
 go_at_call 13
 (with_reducible refine (HG.out _ _ A2.out).mono ?_)
 rintro e w3 ⟨rfl,hb⟩
 have A3:=Lib.hid (A2.out.grow hb);have Q3:Hid (w3.cell? ⟨bq,0,none⟩=some (.pointer (some ⟨b,0,none⟩))):=q_keep (Keep.ofBe hb) hbq Q2.out;have K3:Hid (Keep b (b+1) W w3):=K2.out.trans (Keep.ofBe hb);clear hb
 try (go_wp2_with fail)
 refine hK.out _ _ Q3.out (fun hHeld=>?_)
 clear hK K
 try simp only [pu]
 refine wR 6 (fun K hK=>?_)
 go_simp
 refine hK.out _ _ Q3.out (fun hHeld=>?_)
 clear hK K
 try simp only [pu]
 refine wpAnyH_done (by kernel_rfl) ?_ _
 refine NoPanic.normal ?_
 go_wp2
 go_ret
 exact CoR.text (by simp) K3.out A3.out
end Go.Proofs.YtkapoldjcpfdgaaGreatDoor
