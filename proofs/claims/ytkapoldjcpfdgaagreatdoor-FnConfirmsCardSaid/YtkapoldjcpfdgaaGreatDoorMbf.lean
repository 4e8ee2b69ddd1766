/- DoublePlaces: the program's. -/
import Derived.Test.YtkapoldjcpfdgaaGreatDoorMbe
set_option maxHeartbeats 4000000
set_option maxRecDepth 100000
namespace Go.Proofs.YtkapoldjcpfdgaaGreatDoor
open Go.ChangeShapes Go.WideShapes Go.ChangeAt Go.RowKit
def dbF (x:TourV):List Int:=if tourB x then dbPlaces x.wins x.wins.length else []
theorem implDoublePlaces_any (v:Value) (x:TourV) (w:World) (hs:InT w v x):
  Calls Tryz.prog 97 #[v] w fun e w'=>∃v',e=.returned v'∧Fr w' w.heap.size w'.heap.size v' (dbF x)∧Below w.heap.size w w':=by
 have HIT:=Lib.hid hs
 obtain ⟨u,rfl,A0,c0,rfl,hc,hm,hsl⟩:=hs
 have HB0:Hid (Below w.heap.size w (w.alloc (.cells #[.int .i64 x.size,.slice A0 x.wins.length c0] 27))∧Bx (w.alloc (.cells #[.int .i64 x.size,.slice A0 x.wins.length c0] 27)) w.heap.size (.int .i64 x.size) (.slice A0 x.wins.length c0)):=⟨(Below.refl _ w).alloc (Nat.le_refl _) _,⟨by simp,by simp,by simp⟩⟩
 have HTO:Hid (∀W,Below w.heap.size w W→Calls Tryz.prog 148 #[.agg #[.int .i64 x.size,.slice A0 x.wins.length c0]] W fun e w'=>e=.returned (.bool (tourB x))∧Below W.heap.size W w'):=fun W hW=>implTourOk_any _ x W (HIT.out.below hW)
 clear hsl hc hm
 cases h1:tourB x
 ·have HE:Hid (dbF x = []):=by show _=_;unfold dbF;rw [h1];rfl
  rw [h1] at HTO
  go_enter Tryz.func97,Tryz.ntmps97
  go_wp2_with (go_at_call 148;refine (HTO.out _ HB0.out.1).mono ?_;rintro e w1 ⟨rfl,hb⟩;have B1:Hid (Below w.heap.size w w1):=HB0.out.1.trans (hb.mono HB0.out.1.size);clear hb)
  go_ret
  exact ⟨_,rfl,by rw [HE.out];exact Fr.nil _ (Nat.le_refl _),B1.out⟩
 have HE:Hid (dbF x=dbPlaces x.wins x.wins.length):=by show _=_;unfold dbF;rw [h1];rfl
 obtain ⟨t1,t2,t3,_⟩:=tourB_t h1
 have HOK:=Lib.hid h1
 rw [h1] at HTO
 have hsz:x.size=(x.wins.length:Int):=t3.symm
 have HSZ:=Lib.hid hsz
 rw [hsz] at HTO HB0 HIT ⊢
 have HN:Hid (x.wins.length≤8∧0<x.wins.length):=⟨by omega,by omega⟩
 have HDB:Hid (∀W,Below w.heap.size w W→∀A c,SlI W A (idxs x.wins.length)→Calls Tryz.prog 179 #[.agg #[.int .i64 (x.wins.length:Int),.slice A0 x.wins.length c0],.slice A x.wins.length c] W fun e w'=>∃vg vp,e=.returned (.tuple #[vg,vp])∧Fr w' W.heap.size w'.heap.size vp (dbPlaces x.wins x.wins.length)∧Below W.heap.size W w'):=fun W hW A c hl=>by
  have h:=double_any _ x A c (idxs x.wins.length) W (HIT.out.below hW) HOK.out hl (by rw [idxs_length];exact HN.out.1) (by rw [idxs_length];exact HN.out.2) (fun y hy=>idxs_mem.1 hy)
  rw [idxs_length] at h
  exact h
 have HIX:Hid (∀W,Calls Tryz.prog 157 #[.int .i64 (x.wins.length:Int)] W fun e w'=>∃A c,e=.returned (.slice A x.wins.length c)∧SlI w' A (idxs x.wins.length)∧Below W.heap.size W w'):=fun W=>by
  refine (indices_any x.wins.length W (by have:=HN.out;omega)).mono fun e w' ⟨v',he,hf,hb⟩=>?_
  obtain ⟨A',c',rfl,_,_⟩:=hf.form
  rw [idxs_length] at he
  exact ⟨A',c',he,hf.sl,hb⟩
 clear t1 t2 t3 h1 hsz
 generalize x.wins.length=n at *
 go_enter Tryz.func97,Tryz.ntmps97
 go_wp2_with (go_at_call 148;refine (HTO.out _ HB0.out.1).mono ?_;rintro e w1 ⟨rfl,hb⟩;have B1:Hid (Below w.heap.size w w1∧Bx w1 w.heap.size (.int .i64 (n:Int)) (.slice A0 n c0)):=⟨HB0.out.1.trans (hb.mono HB0.out.1.size),HB0.out.2.below hb⟩;clear hb)
 have HBD:Hid (Below w.heap.size w w1.drew):=below_drewL B1.out.1
 have X1:Hid (Bx w1.drew w.heap.size (.int .i64 (n:Int)) (.slice A0 n c0)):=B1.out.2
 obtain ⟨q0,q1,-⟩:=id B1.out.2
 go_region_held3 (fun W=>W.cell? ⟨w.heap.size,0,none⟩=some (.int .i64 (n:Int))∧W.cell? ⟨w.heap.size,1,none⟩=some (.slice A0 n c0)) (first|exact ⟨q0,q1⟩|exact ⟨X2.out.1,X2.out.2.1⟩|exact ⟨X3.out.1,X3.out.2.1⟩) (first
  | (go_at_call 157;refine (HIX.out _).mono ?_;rintro e w2 ⟨A2,c2,rfl,hf,hb⟩;have X2:Hid (Bx w2 w.heap.size (.int .i64 (n:Int)) (.slice A0 n c0)):=X1.out.below hb;have B2:Hid (Below w.heap.size w w2):=HBD.out.trans (hb.mono HBD.out.size);have F2:=Lib.hid hf;clear hf hb)
  | (go_at_call 179;refine (HDB.out _ B2.out A2 c2 F2.out).mono ?_;rintro e w3 ⟨vg,vp,rfl,hf,hb⟩;have X3:Hid (Bx w3 w.heap.size (.int .i64 (n:Int)) (.slice A0 n c0)):=X2.out.below hb;have B3:Hid (Below w.heap.size w w3):=B2.out.trans (hb.mono B2.out.size);have F3:Hid (Fr w3 w.heap.size w3.heap.size vp (dbPlaces x.wins n)):=hf.wide B2.out.size (Nat.le_refl _) (Nat.le_refl _);clear hf hb))
 go_wp2
 go_ret
 exact ⟨_,rfl,by rw [HE.out];exact F3.out,B3.out⟩
end Go.Proofs.YtkapoldjcpfdgaaGreatDoor
