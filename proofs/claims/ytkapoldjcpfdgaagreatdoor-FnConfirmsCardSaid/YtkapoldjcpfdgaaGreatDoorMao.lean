/- Goals and points of results and of leagues: contracts. -/
import Derived.Test.YtkapoldjcpfdgaaGreatDoorMan
set_option maxHeartbeats 4000000
set_option maxRecDepth 100000
namespace Go.Proofs.YtkapoldjcpfdgaaGreatDoor
open Go.ChangeShapes Go.WideShapes Go.ChangeAt Go.RowKit
theorem fpR1 {w W:World}{y0 y1:Value}{n:Nat} (hn:n≤1048576) (h:RzAt w W y0 y1):
  FpAt w ((W.alloc (mkO n)).alloc (.cells #[.int .i64 (n:Int),.slice (some ⟨W.heap.size,0,none⟩) n n] 27)).drew (W.heap.size+1) W.heap.size n n (n:Int) (List.replicate n 0):=by
 have f:=fr_mkO hn W
 have b1:Below W.heap.size W (W.alloc (mkO n)):=(Below.refl _ W).alloc (Nat.le_refl _) _
 have z1:(W.alloc (mkO n)).heap.size=W.heap.size+1:=World.size_alloc _ _
 have hz2:=h.z2
 have h1:=h.below b1
 generalize W.alloc (mkO n)=W1 at *
 have b2:Below W1.heap.size W1 (W1.alloc (.cells #[.int .i64 (n:Int),.slice (some ⟨W.heap.size,0,none⟩) n n] 27)):=(Below.refl _ W1).alloc (Nat.le_refl _) _
 rw [←z1]
 exact (FpAt.mk2 (by simp) (by simp) (by simp) ((f.below b2 (Nat.le_refl _)).wide (by omega) b2.size (Nat.le_refl _)) (by omega) (by omega) (h1.below b2)).drew
theorem fpR2 {w W:World}{y0 y1:Value}{n:Nat} (hn:n≤1048576) (h:RzAt w W y0 y1):
  FpAt w ((W.alloc (.cells #[.int .i64 (n:Int),.slice (some ⟨W.heap.size+1,0,none⟩) n n] 27)).alloc (mkO n)).drew W.heap.size (W.heap.size+1) n n (n:Int) (List.replicate n 0):=by
 have b1:Below W.heap.size W (W.alloc (.cells #[.int .i64 (n:Int),.slice (some ⟨W.heap.size+1,0,none⟩) n n] 27)):=(Below.refl _ W).alloc (Nat.le_refl _) _
 have z1:(W.alloc (.cells #[.int .i64 (n:Int),.slice (some ⟨W.heap.size+1,0,none⟩) n n] 27)).heap.size=W.heap.size+1:=World.size_alloc _ _
 have c0:(W.alloc (.cells #[.int .i64 (n:Int),.slice (some ⟨W.heap.size+1,0,none⟩) n n] 27)).cell? ⟨W.heap.size,0,none⟩=some (.int .i64 (n:Int)):=by simp
 have c1:(W.alloc (.cells #[.int .i64 (n:Int),.slice (some ⟨W.heap.size+1,0,none⟩) n n] 27)).cell? ⟨W.heap.size,1,none⟩=some (.slice (some ⟨W.heap.size+1,0,none⟩) n n):=by simp
 have hz2:=h.z2
 have h1:=h.below b1
 generalize W.alloc (.cells #[.int .i64 (n:Int),.slice (some ⟨W.heap.size+1,0,none⟩) n n] 27)=W1 at *
 have f:=fr_mkO hn W1
 have b2:Below W1.heap.size W1 (W1.alloc (mkO n)):=(Below.refl _ W1).alloc (Nat.le_refl _) _
 have z2:(W1.alloc (mkO n)).heap.size=W1.heap.size+1:=World.size_alloc _ _
 rw [z1] at f
 exact (FpAt.mk2 ((b2.cell (p:=⟨W.heap.size,0,none⟩) (by show W.heap.size<_;omega)).trans c0) ((b2.cell (p:=⟨W.heap.size,1,none⟩) (by show W.heap.size<_;omega)).trans c1) (by omega) (f.wide (by omega) (Nat.le_refl _) (Nat.le_refl _)) (by omega) (by omega) (h1.below b2)).drew
theorem renamed_any (v:Value) (x:TourV) (nm:List Nat) (bn on cn:Nat) (w:World) (hs:InT w v x) (hok:tourB x=true) (hnS:SlI w (some ⟨bn,on,none⟩) (nI nm)) (hnl:nm.length=x.wins.length) (hnm:∀i,nm.getD i 0<x.wins.length) (hcn:x.wins.length≤cn∧cn≤9223372036854775807):
  Calls Tryz.prog 169 #[v,.slice (some ⟨bn,on,none⟩) x.wins.length cn] w fun e w'=>∃v',e=.returned v'∧OwT w' w.heap.size w'.heap.size v' ⟨x.size,renL x nm⟩∧Below w.heap.size w w':=by
 obtain ⟨u,rfl,B,d,rfl,hd,hm,hts⟩:=hs
 obtain ⟨t1,t2,t3,t4,_⟩:=tourB_t hok
 have hn8:x.wins.length≤8:=by omega
 have hn1:1≤x.wins.length:=by omega
 obtain ⟨bx,ox,-,rfl,-,-,-⟩:=hts.at_ (k:=0) hn1
 rw [←t3]
 have HXN:Hid (∃n,x.wins.length=n):=⟨_,rfl⟩
 obtain ⟨n,hn⟩:=HXN.out
 rw [hn] at hn8 hn1 hnl hnm hcn ⊢
 have H0:Hid (RzAt w ((w.alloc (.cells #[.int .i64 (n:Int),.slice (some ⟨bx,ox,none⟩) n d] 27)).alloc (.cells #[.int .i64 0,.slice none 0 0] 27)) (.int .i64 (n:Int)) (.slice (some ⟨bx,ox,none⟩) n d)):=rzStart
 have HQ:Hid (∀W,Below w.heap.size w W→SlI W (some ⟨bx,ox,none⟩) x.wins∧SlI W (some ⟨bn,on,none⟩) (nI nm)):=fun W hW=>⟨hts.below hW,hnS.below hW⟩
 have hR0:rnT x nm 0=List.replicate n 0:=by rw [rnT,hn]
 have HR0:=Lib.hid hR0
 have HM:=Lib.hid (And.intro hok (And.intro hn (And.intro hnl (And.intro hnm hcn))))
 have hmk:=run_mkI (n:=n) (by omega)
 have hn9:n≤1048576:=by omega
 clear hts hnS t1 t2 t3 t4 hok hnl hnm hR0 hm hd hcn HXN hn
 go_enter Tryz.func169,Tryz.ntmps169
 go_wp2
 rename_i hK1
 have HK1:=Lib.hid hK1
 clear hK1
 have F1:Hid (FpAt w ((((w.alloc (.cells #[.int .i64 (n:Int),.slice (some ⟨bx,ox,none⟩) n d] 27)).alloc (.cells #[.int .i64 0,.slice none 0 0] 27)).alloc (mkO n)).alloc (.cells #[.int .i64 (n:Int),.slice (some ⟨((w.alloc (.cells #[.int .i64 (n:Int),.slice (some ⟨bx,ox,none⟩) n d] 27)).alloc (.cells #[.int .i64 0,.slice none 0 0] 27)).heap.size,0,none⟩) n n] 27)).drew (((w.alloc (.cells #[.int .i64 (n:Int),.slice (some ⟨bx,ox,none⟩) n d] 27)).alloc (.cells #[.int .i64 0,.slice none 0 0] 27)).heap.size+1) ((w.alloc (.cells #[.int .i64 (n:Int),.slice (some ⟨bx,ox,none⟩) n d] 27)).alloc (.cells #[.int .i64 0,.slice none 0 0] 27)).heap.size n n (n:Int) (List.replicate n 0)):=fpR1 hn9 H0.out
 have F2:Hid (FpAt w ((((w.alloc (.cells #[.int .i64 (n:Int),.slice (some ⟨bx,ox,none⟩) n d] 27)).alloc (.cells #[.int .i64 0,.slice none 0 0] 27)).alloc (.cells #[.int .i64 (n:Int),.slice (some ⟨((w.alloc (.cells #[.int .i64 (n:Int),.slice (some ⟨bx,ox,none⟩) n d] 27)).alloc (.cells #[.int .i64 0,.slice none 0 0] 27)).heap.size+1,0,none⟩) n n] 27)).alloc (mkO n)).drew ((w.alloc (.cells #[.int .i64 (n:Int),.slice (some ⟨bx,ox,none⟩) n d] 27)).alloc (.cells #[.int .i64 0,.slice none 0 0] 27)).heap.size (((w.alloc (.cells #[.int .i64 (n:Int),.slice (some ⟨bx,ox,none⟩) n d] 27)).alloc (.cells #[.int .i64 0,.slice none 0 0] 27)).heap.size+1) n n (n:Int) (List.replicate n 0)):=fpR2 hn9 H0.out
 have HZ:Hid (((w.alloc (.cells #[.int .i64 (n:Int),.slice (some ⟨bx,ox,none⟩) n d] 27)).alloc (.cells #[.int .i64 0,.slice none 0 0] 27)).heap.size=w.heap.size+1+1):=(by show _=_;simp)
 generalize ((w.alloc (.cells #[.int .i64 (n:Int),.slice (some ⟨bx,ox,none⟩) n d] 27)).alloc (.cells #[.int .i64 0,.slice none 0 0] 27))=w1 at *
 have q0:=H0.out.q0
 have q1:=H0.out.q1
 go_region_held3 (fun W=>W.cell? ⟨w.heap.size,0,none⟩=some (.int .i64 (n:Int))∧W.cell? ⟨w.heap.size,1,none⟩=some (.slice (some ⟨bx,ox,none⟩) n d)) (first|go_keep|exact ⟨q0,q1⟩) (fail)
 all_goals (go_wp2_with fail)
 ·have HF:Hid (FpAt w ((w1.alloc (mkO n)).alloc (.cells #[.int .i64 (n:Int),.slice (some ⟨w1.heap.size,0,none⟩) n n] 27)).drew (w1.heap.size+1) w1.heap.size n n (n:Int) (rnT x nm 0)):=by rw [HR0.out];exact F1.out
  have HB:Hid (Bx ((w1.alloc (mkO n)).alloc (.cells #[.int .i64 (n:Int),.slice (some ⟨w1.heap.size,0,none⟩) n n] 27)).drew w.heap.size (.int .i64 (n:Int)) (.slice (some ⟨bx,ox,none⟩) n d)):=(H0.out.below (below_drewL (((Below.refl _ w1).alloc (Nat.le_refl _) _).alloc (by simp) _))).bx
  have HSZ1:Hid ((w1.alloc (mkO n)).heap.size=w1.heap.size+1):=World.size_alloc _ _
  refine HK1.out _ _ ?_
  exact rnTail w _ x _ _ n n bx ox d bn on cn nm HM.out.1 HM.out.2.1 HF HM.out.2.2.1 HM.out.2.2.2.1 HQ HB HM.out.2.2.2.2 _ _ _ _ _ _ _ _ _ _ _ _ _ _ _ _ _ _ _ _ _ _ _ _ _ _ _ _ _ _ _ _ _ _ _ _ _ _ _ _ _ _ _ _ _ _ _
 ·have HF:Hid (FpAt w ((w1.alloc (.cells #[.int .i64 (n:Int),.slice (some ⟨w1.heap.size+1,0,none⟩) n n] 27)).alloc (mkO n)).drew w1.heap.size (w1.heap.size+1) n n (n:Int) (rnT x nm 0)):=by rw [HR0.out];exact F2.out
  have HB:Hid (Bx ((w1.alloc (.cells #[.int .i64 (n:Int),.slice (some ⟨w1.heap.size+1,0,none⟩) n n] 27)).alloc (mkO n)).drew w.heap.size (.int .i64 (n:Int)) (.slice (some ⟨bx,ox,none⟩) n d)):=(H0.out.below (below_drewL (((Below.refl _ w1).alloc (Nat.le_refl _) _).alloc (by simp) _))).bx
  have HSZ1:∀o,Hid ((w1.alloc o).heap.size=w1.heap.size+1):=fun o=>World.size_alloc _ _
  refine HK1.out _ _ ?_
  exact rnTail w _ x _ _ n n bx ox d bn on cn nm HM.out.1 HM.out.2.1 HF HM.out.2.2.1 HM.out.2.2.2.1 HQ HB HM.out.2.2.2.2 _ _ _ _ _ _ _ _ _ _ _ _ _ _ _ _ _ _ _ _ _ _ _ _ _ _ _ _ _ _ _ _ _ _ _ _ _ _ _ _ _ _ _ _ _ _ _
theorem permB_nm {l:List Int} (h:permB l=true):nI (l.map Int.toNat)=l∧∀i,0<l.length→(l.map Int.toNat).getD i 0<l.length:=by
 obtain ⟨h1,-⟩:=permB_t h
 constructor
 ·unfold nI
  rw [List.map_map]
  conv=>rhs;rw [←List.map_id l]
  exact List.map_congr_left fun y hy=>Int.toNat_of_nonneg (h1 y hy).1
 ·intro i hi
  rw [List.getD_eq_getElem?_getD,List.getElem?_map]
  cases e:l[i]? with
  | none=>simpa using hi
  | some y=>have:=h1 y (List.mem_of_getElem? e);simp;omega
def rnmF (x:TourV) (l:List Int):Option TourV:=if orderB x l then some ⟨x.size,renL x (l.map Int.toNat)⟩ else none
theorem rnmF_no {x:TourV}{l:List Int} (h:orderB x l=false):rnmF x l=none:=by unfold rnmF;rw [h];rfl
theorem rnmF_yes {x:TourV}{l:List Int} (h:orderB x l=true):rnmF x l=some ⟨x.size,renL x (l.map Int.toNat)⟩:=by unfold rnmF;rw [h];rfl
theorem renL_len (x:TourV) (nm:List Nat):(renL x nm).length=x.wins.length:=rnT_len x nm _
theorem implRenameTour_any (v:Value) (x:TourV) (A:Option Addr) (c:Nat) (l:List Int) (w:World) (hs:InT w v x) (hl:InI w (.slice A l.length c) l):
  Calls Tryz.prog 80 #[v,.slice A l.length c] w fun e w'=>TR w e w' (rnmF x l):=by
 have HIT:=Lib.hid hs
 obtain ⟨u,rfl,B,d,rfl,hd,hm,hts⟩:=hs
 have H0:Hid (RzAt w ((w.alloc (.cells #[.int .i64 x.size,.slice B x.wins.length d] 27)).alloc (.cells #[.int .i64 0,.slice none 0 0] 27)) (.int .i64 x.size) (.slice B x.wins.length d)):=rzStart
 have HTO:Hid (∀W,Below w.heap.size w W→Calls Tryz.prog 148 #[.agg #[.int .i64 x.size,.slice B x.wins.length d]] W fun e w'=>e=.returned (.bool (tourB x))∧Below W.heap.size W w'):=fun W hW=>implTourOk_any _ x W (HIT.out.below hW)
 have HIL:=Lib.hid hl
 obtain ⟨A',c',he,hc,hcm,hsl2⟩:=hl
 injection he with e1 e2 e3
 subst e1;subst e3
 clear hts hsl2 hd hm
 cases h1:tourB x
 case false=>
  have HN:Hid (rnmF x l=none):=rnmF_no (by rw [orderB,h1];rfl)
  rw [h1] at HTO
  clear h1
  go_enter Tryz.func80,Tryz.ntmps80
  go_wp2_with fail
  refine (HTO.out _ H0.out.be).mono ?_
  rintro e w1 ⟨rfl,hb1⟩
  have H1:=Lib.hid (H0.out.below hb1)
  clear hb1
  obtain ⟨q0,q1,z0,z1,f0,f1,q2,z2,-⟩:=id H1.out
  go_wp2
  refine bodyPost_ret (v:=.tuple #[.agg #[.int .i64 0,.slice none 0 0],.bool false]) (by simp [results,Tryz.results80,go_sem,z0,z1]) rfl ?_
  rw [HN.out]
  exact ⟨H1.out.zero,rfl⟩
 have HT1:=Lib.hid h1
 obtain ⟨t1,t2,t3,t4,_⟩:=tourB_t h1
 rw [h1] at HTO
 by_cases h2:(l.length:Int)=x.size
 case neg=>
  have HN:Hid (rnmF x l=none):=rnmF_no (by unfold orderB;rw [decide_eq_false h2,Bool.false_and,Bool.and_false])
  have h2':((l.length:Int) != x.size)=true:=bne_iff_ne.2 h2
  clear h1 h2 t1 t2 t3 t4
  go_enter Tryz.func80,Tryz.ntmps80
  go_wp2_with fail
  refine (HTO.out _ H0.out.be).mono ?_
  rintro e w1 ⟨rfl,hb1⟩
  have H1:=Lib.hid (H0.out.below hb1)
  clear hb1
  obtain ⟨q0,q1,z0,z1,f0,f1,q2,z2,-⟩:=id H1.out
  go_wp2
  refine bodyPost_ret (v:=.tuple #[.agg #[.int .i64 0,.slice none 0 0],.bool false]) (by simp [results,Tryz.results80,go_sem,z0,z1]) rfl ?_
  rw [HN.out]
  exact ⟨H1.out.zero,rfl⟩
 have h2':((l.length:Int) != x.size)=false:=by rw [bne_eq_false_iff_eq];exact h2
 have hlx:l.length=x.wins.length:=by omega
 have hn8:l.length≤1048576:=by omega
 have hpos:0<l.length:=by omega
 have HIO:Hid (∀W,Below w.heap.size w W→Calls Tryz.prog 168 #[.slice A l.length c] W fun e w'=>e=.returned (.bool (permB l))∧Below W.heap.size W w'):=fun W hW=>(isOrder_any A c l W ((inI_sl HIL.out).below hW) hn8 hc).mono fun e w' h=>⟨h.1,by rw [h.2];exact Below.refl _ _⟩
 have HOB:Hid (orderB x l=permB l):=by show _=_;rw [orderB,h1,decide_eq_true h2,Bool.true_and,Bool.true_and]
 cases h3:permB l
 case false=>
  have HN:Hid (rnmF x l=none):=rnmF_no (by rw [HOB.out,h3])
  rw [h3] at HIO
  clear h1 h2 h3 t1 t2 t3 t4 hlx hn8
  go_enter Tryz.func80,Tryz.ntmps80
  go_wp2_with fail
  refine (HTO.out _ H0.out.be).mono ?_
  rintro e w1 ⟨rfl,hb1⟩
  have H1:=Lib.hid (H0.out.below hb1)
  clear hb1
  obtain ⟨q0,q1,z0,z1,f0,f1,q2,z2,-⟩:=id H1.out
  go_wp2_with fail
  refine (HIO.out _ H1.out.be).mono ?_
  rintro e w2 ⟨rfl,hb1⟩
  have H2:=Lib.hid (H1.out.below hb1)
  clear hb1 q0 q1 z0 z1 f0 f1 q2 z2
  obtain ⟨q0,q1,z0,z1,f0,f1,q2,z2,-⟩:=id H2.out
  go_wp2
  refine bodyPost_ret (v:=.tuple #[.agg #[.int .i64 0,.slice none 0 0],.bool false]) (by simp [results,Tryz.results80,go_sem,z0,z1]) rfl ?_
  rw [HN.out]
  exact ⟨H2.out.zero,rfl⟩
 have HY:Hid (rnmF x l=some ⟨x.size,renL x (l.map Int.toNat)⟩):=rnmF_yes (by rw [HOB.out,h3])
 obtain ⟨p1,p2⟩:=permB_nm h3
 rw [h3] at HIO
 obtain ⟨bn,on,-,rfl,-,-,-⟩:=(inI_sl HIL.out).at_ (k:=0) (by omega)
 have HRN:Hid (∀W,Below w.heap.size w W→Calls Tryz.prog 169 #[.agg #[.int .i64 x.size,.slice B x.wins.length d],.slice (some ⟨bn,on,none⟩) l.length c] W fun e w'=>∃v',e=.returned v'∧OwT w' W.heap.size w'.heap.size v' ⟨x.size,renL x (l.map Int.toNat)⟩∧Below W.heap.size W w'):=fun W hW=>by
  have g1:SlI W (some ⟨bn,on,none⟩) (nI (l.map Int.toNat)):=by rw [p1];exact (inI_sl HIL.out).below hW
  have g2:(l.map Int.toNat).length=x.wins.length:=by rw [List.length_map];exact hlx
  have g3:∀i,(l.map Int.toNat).getD i 0<x.wins.length:=fun i=>by rw [←hlx];exact p2 i hpos
  have g4:x.wins.length≤c∧c≤9223372036854775807:=by rw [←hlx];exact ⟨hc,hcm⟩
  rw [hlx]
  exact renamed_any _ x (l.map Int.toNat) bn on c W (HIT.out.below hW) HT1.out g1 g2 g3 g4
 clear h1 h2 h3 t1 t2 t3 t4 hlx hn8 p1 p2 HOB
 go_enter Tryz.func80,Tryz.ntmps80
 go_wp2_with fail
 refine (HTO.out _ H0.out.be).mono ?_
 rintro e w1 ⟨rfl,hb1⟩
 have H1:=Lib.hid (H0.out.below hb1)
 clear hb1
 obtain ⟨q0,q1,z0,z1,f0,f1,q2,z2,-⟩:=id H1.out
 go_wp2_with fail
 refine (HIO.out _ H1.out.be).mono ?_
 rintro e w2 ⟨rfl,hb1⟩
 have H2:=Lib.hid (H1.out.below hb1)
 clear hb1 q0 q1 z0 z1 f0 f1 q2 z2
 obtain ⟨q0,q1,z0,z1,f0,f1,q2,z2,-⟩:=id H2.out
 go_wp2_with fail
 refine (HRN.out _ H2.out.be).mono ?_
 rintro e w9 ⟨v9,rfl,ho9,hb9⟩
 have H9:=Lib.hid (H2.out.below hb9)
 obtain ⟨A9,c9,rfl,hst9,hbe9⟩:=H9.out.store z2 ho9
 have HST9:=Lib.hid (And.intro hst9 hbe9)
 clear hb9 ho9 hst9 hbe9 q0 q1 z0 z1 f0 f1 q2 z2
 obtain ⟨q0,q1,z0,z1,f0,f1,q2,z2,-⟩:=id H9.out
 go_wp2
 refine bodyPost_ret (v:=.tuple #[.agg #[.int .i64 x.size,.slice A9 (renL x (l.map Int.toNat)).length c9],.bool true]) (by simp [results,Tryz.results80,go_sem,z0,z1]) rfl ?_
 rw [HY.out]
 exact ⟨HST9.out.2,_,rfl,HST9.out.1⟩
def strR (L:List (List Int)) (xs:List Int):List Int:=L.foldl (fun ys g=>flipW ys (g.getD 0 0).toNat (g.getD 1 0).toNat) xs
def strF (x:TourV) (l:List Int):Option TourV:=if orderB x l then some ⟨x.size,strR (backL x.wins l x.wins.length x.wins.length) x.wins⟩ else none
theorem strR_len:∀(L:List (List Int)) (xs:List Int),(strR L xs).length=xs.length
 | [],_=>rfl
 | g :: L,xs=>by
  show (strR L (flipW xs _ _)).length=_
  rw [strR_len L,flipW_length]
theorem flipW_bd {xs:List Int}{a b:Nat} (h:∀y∈xs,0≤y∧y≤255) (ha:a<8) (hb:b<8):∀y∈flipW xs a b,0≤y∧y≤255:=by
 have hd:∀i,0≤xs.getD i 0∧xs.getD i 0≤255:=fun i=>by
  rw [List.getD_eq_getElem?_getD]
  cases e:xs[i]? with
  | none=>simp
  | some y=>exact h y (List.mem_of_getElem? e)
 intro y hy
 unfold flipW at hy
 rcases List.mem_or_eq_of_mem_set hy with h1|h1
 ·rcases List.mem_or_eq_of_mem_set h1 with h2|h2
  ·exact h y h2
  ·rw [h2];exact xorN_bd (hd a).1 (hd a).2 hb
 ·rw [h1];exact xorN_bd (hd b).1 (hd b).2 ha
theorem strR_bd:∀(L:List (List Int)) (xs:List Int),(∀g∈L,(g.getD 0 0).toNat<8∧(g.getD 1 0).toNat<8)→(∀y∈xs,0≤y∧y≤255)→∀y∈strR L xs,0≤y∧y≤255
 | [],_,_,h=>h
 | g :: L,_xs,hg,h=>strR_bd L _ (fun g hm=>hg g (List.mem_cons_of_mem _ hm)) (flipW_bd h (hg g (List.mem_cons_self ..)).1 (hg g (List.mem_cons_self ..)).2)
theorem strR_take (L:List (List Int)) (xs:List Int) (k:Nat) (g:List Int) (h:L[k]? = some g):strR (L.take (k+1)) xs=flipW (strR (L.take k) xs) (g.getD 0 0).toNat (g.getD 1 0).toNat:=by
 rw [List.take_add_one,h]
 simp [strR,List.foldl_append]
theorem RzAt.put {w W:World}{y0 y1 v0 v1:Value} (h:RzAt w W y0 y1):
  RzAt w ((W.setCell ⟨w.heap.size,0,none⟩ v0).setCell ⟨w.heap.size,1,none⟩ v1) v0 v1∧Keep w.heap.size (w.heap.size+1) W ((W.setCell ⟨w.heap.size,0,none⟩ v0).setCell ⟨w.heap.size,1,none⟩ v1):=by
 have KP:Keep w.heap.size (w.heap.size+1) W ((W.setCell ⟨w.heap.size,0,none⟩ v0).setCell ⟨w.heap.size,1,none⟩ v1):=((Keep.refl _ _ _).setCell (p:=⟨w.heap.size,0,none⟩) (Nat.le_refl _) (Nat.lt_succ_self _) _).setCell (p:=⟨w.heap.size,1,none⟩) (Nat.le_refl _) (Nat.lt_succ_self _) _
 refine ⟨⟨(World.cell?_setCell_other _ _ _ _ (by intro e;simp at e)).trans (World.cell?_setCell_same _ _ _ h.q0),World.cell?_setCell_same _ _ _ ((World.cell?_setCell_other _ _ _ _ (by intro e;simp at e)).trans h.q1),
  (KP.cell (p:=⟨w.heap.size+1,0,none⟩) h.z2 (.inr (Nat.le_refl _))).trans h.z0,(KP.cell (p:=⟨w.heap.size+1,1,none⟩) h.z2 (.inr (Nat.le_refl _))).trans h.z1,
  (KP.frozen (p:=⟨w.heap.size+1,0,none⟩) h.z2 (.inr (Nat.le_refl _))).trans h.f0,(KP.frozen (p:=⟨w.heap.size+1,1,none⟩) h.z2 (.inr (Nat.le_refl _))).trans h.f1,Nat.lt_of_lt_of_le h.q2 KP.size,Nat.lt_of_lt_of_le h.z2 KP.size,h.be.trans (KP.below (Nat.le_refl _) h.be.size)⟩,KP⟩
structure StAt (w W:World) (sz:Int) (A:Option Addr) (n d:Nat) (xs:List Int) (gv:Value) (L:List (List Int)) (lo hi:Nat):Prop where
 rz:RzAt w W (.int .i64 sz) (.slice A n d)
 e0:W.frozen? ⟨w.heap.size,0,none⟩=false
 e1:W.frozen? ⟨w.heap.size,1,none⟩=false
 it:InT W (.agg #[.int .i64 sz,.slice A n d]) ⟨sz,xs⟩
 gm:OwS W lo hi gv L
 glo:w.heap.size+2≤lo
theorem StAt.next {w W W2:World}{sz:Int}{A A2:Option Addr}{n d d2:Nat}{xs xs2:List Int}{gv:Value}{L:List (List Int)}{lo hi:Nat} (h:StAt w W sz A n d xs gv L lo hi) (hb:Below W.heap.size W W2)
  (ho:OwT W2 W.heap.size W2.heap.size (.agg #[.int .i64 sz,.slice A2 n d2]) ⟨sz,xs2⟩):
  StAt w ((W2.setCell ⟨w.heap.size,0,none⟩ (.int .i64 sz)).setCell ⟨w.heap.size,1,none⟩ (.slice A2 n d2)) sz A2 n d2 xs2 gv L lo hi:=by
 have r2:=h.rz.below hb
 obtain ⟨r3,kp⟩:=r2.put (v0:=.int .i64 sz) (v1:=.slice A2 n d2)
 have hg:=h.glo
 have hz:=h.rz.z2
 have kz:Keep 0 0 W W2:=Keep.of_below hb (Nat.le_refl _)
 have e0:W2.frozen? ⟨w.heap.size,0,none⟩=false:=(kz.frozen (p:=⟨w.heap.size,0,none⟩) h.rz.q2 (.inr (Nat.zero_le _))).trans h.e0
 have e1:W2.frozen? ⟨w.heap.size,1,none⟩=false:=(kz.frozen (p:=⟨w.heap.size,1,none⟩) h.rz.q2 (.inr (Nat.zero_le _))).trans h.e1
 exact ⟨r3,by simpa using e0,by simpa using e1,(ho.keep kp (.inr (by omega))).in_,(h.gm.grow hb).keep kp (.inr (by omega)),hg⟩
theorem backL_mem {x:TourV}{l g:List Int} (hok:tourB x=true) (h:g∈backL x.wins l x.wins.length x.wins.length):∃a b:Nat,g = [(a:Int),(b:Int)]∧a<x.wins.length∧b<x.wins.length∧a≠b:=by
 obtain ⟨_,_,_,_,t5⟩:=tourB_t hok
 unfold backL at h
 obtain ⟨a,ha,h⟩:=List.mem_flatMap.1 h
 unfold backR at h
 obtain ⟨b,hb,rfl⟩:=List.mem_map.1 h
 obtain ⟨hb1,hb2⟩:=List.mem_filter.1 hb
 refine ⟨a,b,rfl,List.mem_range.1 ha,List.mem_range.1 hb1,fun e=>?_⟩
 subst e
 have h1:=t5 a (List.mem_range.1 ha)
 unfold rowB at h1
 rw [Bool.and_eq_true] at h1
 unfold backP at hb2
 rw [Bool.and_eq_true] at hb2
 have h3:=h1.2
 simp only [hb2.1] at h3
 cases h3
theorem strF_no {x:TourV}{l:List Int} (h:orderB x l=false):strF x l=none:=by unfold strF;rw [h];rfl
theorem strF_yes {x:TourV}{l:List Int} (h:orderB x l=true):strF x l=some ⟨x.size,strR (backL x.wins l x.wins.length x.wins.length) x.wins⟩:=by unfold strF;rw [h];rfl
theorem rzFrozen {w:World}{y0 y1:Value} (k:Nat):((w.alloc (.cells #[y0,y1] 27)).alloc (.cells #[.int .i64 0,.slice none 0 0] 27)).frozen? ⟨w.heap.size,k,none⟩=false:=by
 rw [frozen?_alloc_cells,frozen?_alloc_cells]
 simp [World.frozen?]
theorem RzAt.done {w W:World}{y0 y1 u:Value}{lo:Nat}{xs:List Int} (h:RzAt w W y0 y1) (sz:Int) (hz:w.heap.size+2≤lo) (hf:Fr W lo W.heap.size u xs):
  Fr ((W.setCell ⟨w.heap.size+1,0,none⟩ (.int .i64 sz)).setCell ⟨w.heap.size+1,1,none⟩ u) w.heap.size ((W.setCell ⟨w.heap.size+1,0,none⟩ (.int .i64 sz)).setCell ⟨w.heap.size+1,1,none⟩ u).heap.size u xs∧Below w.heap.size w ((W.setCell ⟨w.heap.size+1,0,none⟩ (.int .i64 sz)).setCell ⟨w.heap.size+1,1,none⟩ u):=by
 have KP:Keep (w.heap.size+1) (w.heap.size+2) W ((W.setCell ⟨w.heap.size+1,0,none⟩ (.int .i64 sz)).setCell ⟨w.heap.size+1,1,none⟩ u):=
  ((Keep.refl _ _ _).setCell (p:=⟨w.heap.size+1,0,none⟩) (Nat.le_refl _) (Nat.lt_succ_self _) _).setCell (p:=⟨w.heap.size+1,1,none⟩) (Nat.le_refl _) (Nat.lt_succ_self _) _
 exact ⟨(hf.keep KP (.inr hz)).wide (by omega) KP.size (Nat.le_refl _),h.be.trans (KP.below (by omega) h.be.size)⟩
theorem frz2 {W W2:World}{p:Addr} (hb:Below W.heap.size W W2) (h:W.frozen? p=false) (hp:p.block<W.heap.size):W2.frozen? p=false:=
 ((Keep.of_below hb (Nat.le_refl _):Keep 0 0 W W2).frozen hp (.inr (Nat.zero_le _))).trans h
theorem implStraighten_any (v:Value) (x:TourV) (A:Option Addr) (c:Nat) (l:List Int) (w:World) (hs:InT w v x) (hl:InI w (.slice A l.length c) l) (hn:l.length≤1048576):
  Calls Tryz.prog 75 #[v,.slice A l.length c] w fun e w'=>TR w e w' (strF x l):=by
 have HIT:=Lib.hid hs
 obtain ⟨u,rfl,B,d,rfl,hd,hm,hts⟩:=hs
 have H0:Hid (RzAt w ((w.alloc (.cells #[.int .i64 x.size,.slice B x.wins.length d] 27)).alloc (.cells #[.int .i64 0,.slice none 0 0] 27)) (.int .i64 x.size) (.slice B x.wins.length d)):=rzStart
 have HIL:=Lib.hid hl
 have HTO:Hid (∀W,Below w.heap.size w W→Calls Tryz.prog 163 #[.agg #[.int .i64 x.size,.slice B x.wins.length d],.slice A l.length c] W fun e w'=>e=.returned (.bool (orderB x l))∧Below W.heap.size W w'):=fun W hW=>implOrderOk_any _ x A c l W (HIT.out.below hW) (HIL.out.below hW) hn
 clear hts hd hm
 cases h1:orderB x l
 case false=>
  have HN:=Lib.hid (strF_no h1)
  rw [h1] at HTO
  clear h1
  go_enter Tryz.func75,Tryz.ntmps75
  go_wp2_with fail
  refine (HTO.out _ H0.out.be).mono ?_
  rintro e w1 ⟨rfl,hb1⟩
  have H1:=Lib.hid (H0.out.below hb1)
  clear hb1
  obtain ⟨q0,q1,z0,z1,f0,f1,q2,z2,-⟩:=id H1.out
  go_wp2
  refine bodyPost_ret (v:=.tuple #[.agg #[.int .i64 0,.slice none 0 0],.bool false]) (by simp [results,Tryz.results75,go_sem,z0,z1]) rfl ?_
  rw [HN.out]
  exact ⟨H1.out.zero,rfl⟩
 have HY:=Lib.hid (strF_yes h1)
 have HOK:Hid (tourB x=true):=by
  show _=_
  unfold orderB at h1
  rw [Bool.and_eq_true] at h1
  exact h1.1
 have HBG:Hid (∀W,Below w.heap.size w W→Calls Tryz.prog 164 #[.agg #[.int .i64 x.size,.slice B x.wins.length d],.slice A l.length c] W fun e w'=>∃v',e=.returned v'∧OwS w' W.heap.size w'.heap.size v' (backL x.wins l x.wins.length x.wins.length)∧Below W.heap.size W w'):=fun W hW=>
  backGames_any _ x A c l W (HIT.out.below hW) HOK.out ((inI_sl HIL.out).below hW) hn
 rw [h1] at HTO
 clear h1
 go_enter Tryz.func75,Tryz.ntmps75
 go_wp2_with fail
 refine (HTO.out _ H0.out.be).mono ?_
 rintro e w1 ⟨rfl,hb1⟩
 have H1:=Lib.hid (H0.out.below hb1)
 have HE1:Hid (w1.frozen? ⟨w.heap.size,0,none⟩=false∧w1.frozen? ⟨w.heap.size,1,none⟩=false):=⟨frz2 hb1 (rzFrozen 0) H0.out.q2,frz2 hb1 (rzFrozen 1) H0.out.q2⟩
 clear hb1
 obtain ⟨q0,q1,z0,z1,f0,f1,q2,z2,-⟩:=id H1.out
 go_wp2_with fail
 refine (HBG.out _ H1.out.be).mono ?_
 rintro e w2 ⟨gv,rfl,hog,hb2⟩
 have HL8:Hid ((backL x.wins l x.wins.length x.wins.length).length≤64):=by
  show _≤_
  obtain ⟨t1,t2,t3,_⟩:=tourB_t HOK.out
  have h8:x.wins.length≤8:=by omega
  have:=backL_cap (xs:=x.wins) (l:=l) h8 x.wins.length
  omega
 have H2:=Lib.hid (H1.out.below hb2)
 obtain ⟨ga,gc,rfl,hgc,hgm⟩:=hog.form
 have HIT2:=Lib.hid (HIT.out.below H2.out.be)
 have HS:Hid (StAt w w2 x.size B x.wins.length d x.wins (.slice ga (backL x.wins l x.wins.length x.wins.length).length gc) (backL x.wins l x.wins.length x.wins.length) w1.heap.size w2.heap.size):=
  ⟨H2.out,frz2 hb2 HE1.out.1 H1.out.q2,frz2 hb2 HE1.out.2 H1.out.q2,HIT2.out,hog,H1.out.z2⟩
 have HMB:Hid (∀g∈backL x.wins l x.wins.length x.wins.length,∃a b:Nat,g = [(a:Int),(b:Int)]∧a<x.wins.length∧b<x.wins.length∧a≠b):=fun g hg=>backL_mem HOK.out hg
 obtain ⟨L,hL⟩:∃L,backL x.wins l x.wins.length x.wins.length=L:=⟨_,rfl⟩
 rw [hL] at HS HMB HL8 HY
 have hL8:=HL8.out
 rw [hL] at hgc
 rw [hL]
 clear hb2 q0 q1 z0 z1 f0 f1 q2 z2 hL hog
 go_wp2
 rename_i hK1
 have HK1:=Lib.hid hK1
 clear hK1
 go_loopw [17] (fun i wr=>∃(k:Nat) (A2:Option Addr) (d2:Nat),k≤L.length∧i=.int .i64 (k:Int)∧Hid (StAt w wr x.size A2 x.wins.length d2 (strR (L.take k) x.wins) (.slice ga L.length gc) L w1.heap.size w2.heap.size)) (fun i _=>L.length-(intOf i).toNat)
 case atStart=>exact ⟨0,B,d,Nat.zero_le _,rfl,HS.out⟩
 case round=>
  obtain ⟨k,A2,d2,hk,rfl,HR⟩:=hrel
  obtain ⟨wo,rfl⟩:∃W,W=wr:=⟨wr,rfl⟩
  by_cases hlt:k<L.length
  case neg=>
   obtain rfl:k=L.length:=by omega
   rw [List.take_length] at HR
   have HXL:Hid ((strR L x.wins).length=x.wins.length∧x.wins.length≤8):=by
    obtain ⟨t1,t2,t3,_⟩:=tourB_t HOK.out
    exact ⟨strR_len L x.wins,by omega⟩
   obtain ⟨q0,q1,z0,z1,f0,f1,q2,z2,-⟩:=id HR.out.rz
   have HSL:Hid (SlI wo A2 (strR L x.wins)):=by
    obtain ⟨u9,e9,h9⟩:=HR.out.it
    injection e9 with e9
    have e9:=congrArg (fun a=>a.toList) e9
    injection e9 with _ e9
    injection e9 with e9 _
    subst e9
    exact inI_sl (by have:=h9;rw [←HXL.out.1] at this;exact this)
   generalize strR L x.wins=xs at *
   generalize hnl:x.wins.length=n at *
   have HCL:Hid (∀W,Below wo.heap.size wo W→Calls Tryz.prog 59 #[.slice A2 n d2] W fun e w'=>∃A3 c3,e=.returned (.slice A3 n c3)∧Fr w' W.heap.size w'.heap.size (.slice A3 n c3) xs∧Below W.heap.size W w'):=fun W hW=>by
    have h:=cloneI_any A2 d2 xs W (HSL.out.below hW) (by rw [HXL.out.1];exact Nat.le_trans HXL.out.2 (by decide))
    rw [HXL.out.1] at h
    refine h.mono ?_
    rintro e w' ⟨A',c',rfl,hf,hb⟩
    exact ⟨A',c',rfl,hf,hb⟩
   have B1:Hid (Below wo.heap.size wo wo.drew):=below_drewL (Below.refl _ _)
   go_wp2
   refine HK1.out _ _ ?_
   go_wp2
   go_region_held3 (fun W=>W.cell? ⟨w.heap.size,0,none⟩=some (.int .i64 x.size)∧W.cell? ⟨w.heap.size,1,none⟩=some (.slice A2 n d2)) (first|exact ⟨q0,q1⟩|exact ⟨H3.out.1.q0,H3.out.1.q1⟩|exact HST.out|go_keep) (first|(go_at_call 59;(with_reducible refine (HCL.out wo.drew B1.out).mono ?_);rintro e w3 ⟨A3,c3,rfl,hf3,hb3⟩;have H3:Hid (RzAt w w3 (.int .i64 x.size) (.slice A2 n d2)∧Fr w3 wo.drew.heap.size w3.heap.size (.slice A3 n c3) xs):=(show _∧_ from ⟨HR.out.rz.below (B1.out.trans (hb3.mono B1.out.size)),hf3⟩);have z0':=H3.out.1.z0;have z1':=H3.out.1.z1;have f0':=H3.out.1.f0;have f1':=H3.out.1.f1;have HST:Hid (((w3.setCell ⟨w.heap.size+1,0,none⟩ (.int .i64 x.size)).setCell ⟨w.heap.size+1,1,none⟩ (.slice A3 n c3)).cell? ⟨w.heap.size,0,none⟩=some (.int .i64 x.size)∧((w3.setCell ⟨w.heap.size+1,0,none⟩ (.int .i64 x.size)).setCell ⟨w.heap.size+1,1,none⟩ (.slice A3 n c3)).cell? ⟨w.heap.size,1,none⟩=some (.slice A2 n d2)):=(show _∧_ from ⟨(World.cell?_setCell_other _ _ _ _ (by intro e;simp at e)).trans ((World.cell?_setCell_other _ _ _ _ (by intro e;simp at e)).trans H3.out.1.q0),(World.cell?_setCell_other _ _ _ _ (by intro e;simp at e)).trans ((World.cell?_setCell_other _ _ _ _ (by intro e;simp at e)).trans H3.out.1.q1)⟩);clear hf3 hb3 z0 z1 f0 f1))
   have HD:=Lib.hid (H3.out.1.done x.size (by show w.heap.size+2≤wo.heap.size;omega) H3.out.2)
   go_wp2
   refine bodyPost_ret (v:=.tuple #[.agg #[.int .i64 x.size,.slice A3 n c3],.bool true]) (by simp [results,Tryz.results75,go_sem,z0',z1']) rfl ?_
   rw [HY.out]
   exact ⟨HD.out.2,_,rfl,_,rfl,HD.out.1⟩
  obtain ⟨bg,og,u,g,rfl,hg,cg,hu,-⟩:=HR.out.gm.in_.at_ (k:=k) hlt
  obtain ⟨a,b,rfl,ha,hb,hab⟩:=HMB.out g (List.mem_of_getElem? hg)
  obtain ⟨Au,cu,rfl,-,-,hsu⟩:=hu
  obtain ⟨bu,ou,y1,rfl,hy1,cy1,-⟩:=hsu.at_ (k:=0) (by simp)
  injection hy1 with hy1;subst hy1
  obtain ⟨bu2,ou2,y2,e,hy2,cy2,-⟩:=hsu.at_ (k:=1) (by simp)
  injection e with e;injection e with e1 e2;subst e1;subst e2
  injection hy2 with hy2;subst hy2
  rw [Nat.add_zero] at cy1
  have HNX:Hid (strR (L.take (k+1)) x.wins=flipW (strR (L.take k) x.wins) a b):=by
   show _=_
   rw [strR_take L x.wins k _ hg];rfl
  have HFL:Hid (∀W,Below wo.heap.size wo W→Calls Tryz.prog 152 #[.agg #[.int .i64 x.size,.slice A2 x.wins.length d2],.int .i64 (a:Int),.int .i64 (b:Int)] W fun e w'=>∃v',e=.returned v'∧OwT w' W.heap.size w'.heap.size v' ⟨x.size,flipW (strR (L.take k) x.wins) a b⟩∧Below W.heap.size W w'):=fun W hW=>by
   obtain ⟨t1,t2,t3,t4,_⟩:=tourB_t HOK.out
   have hlen:=strR_len (L.take k) x.wins
   refine flipped_any _ ⟨x.size,strR (L.take k) x.wins⟩ a b W (HR.out.it.below hW) (by show (strR _ _).length≤8;omega) ?_ (by show a<(strR _ _).length;omega) (by show b<(strR _ _).length;omega) hab
   refine strR_bd _ _ (fun g hg=>?_) (fun y hy=>?_)
   ·obtain ⟨a',b',rfl,h1,h2,-⟩:=HMB.out g (List.mem_of_mem_take hg)
    exact ⟨by show ((a':Int)).toNat<8;omega,by show ((b':Int)).toNat<8;omega⟩
   ·obtain ⟨j,hj⟩:=List.getElem?_of_mem hy
    exact winsB_at (by omega) t4 hj
  obtain ⟨q0,q1,z0,z1,f0,f1,q2,z2,-⟩:=id HR.out.rz
  clear hsu hg
  have cy1':wo.drew.cell? ⟨bu,ou,none⟩=some (.int .i64 (a:Int)):=cy1
  have cy2':wo.drew.cell? ⟨bu,ou+1,none⟩=some (.int .i64 (b:Int)):=cy2
  go_wp2
  refine wp_region_still_tail 7 (by kernel_rfl) (by kernel_rfl) ?_
  simp only [List.take_succ_cons,List.take_zero,List.drop_succ_cons,List.drop_zero]
  repeat still_step
  refine wpStill_nil ?_
  change wpList _ _ _ _ _ wo.drew
  clear q0 q1 z0 z1 f0 f1 cy1 cy2 cy1' cy2'
  go_wp2_with fail
  refine (HFL.out wo.drew (below_drewL (Below.refl _ _))).mono ?_
  rintro e w3 ⟨v3,rfl,ho3,hb3⟩
  obtain ⟨A3,c3,rfl⟩:=ho3.form
  have hl5:(⟨x.size,flipW (strR (L.take k) x.wins) a b⟩:TourV).wins.length=x.wins.length:=by show (flipW _ _ _).length=_;rw [flipW_length,strR_len]
  rw [hl5]
  have hl3:(flipW (strR (L.take k) x.wins) a b).length=x.wins.length:=by rw [flipW_length,strR_len]
  have ho3:OwT w3 wo.drew.heap.size w3.heap.size (.agg #[.int .i64 x.size,.slice A3 (flipW (strR (L.take k) x.wins) a b).length c3]) ⟨x.size,flipW (strR (L.take k) x.wins) a b⟩:=ho3
  show _
  rw [←HNX.out] at ho3 hl3
  rw [hl3] at ho3
  have HN:=Lib.hid (HR.out.next ((below_drewL (Below.refl _ _)).trans hb3) ho3)
  have H3:Hid (RzAt w w3 (.int .i64 x.size) (.slice A2 x.wins.length d2)):=HR.out.rz.below ((below_drewL (Below.refl _ _)).trans hb3)
  obtain ⟨q0,q1,z0,z1,f0,f1,q2,z2,-⟩:=id H3.out
  have e0:w3.frozen? ⟨w.heap.size,0,none⟩=false:=frz2 ((below_drewL (Below.refl _ _)).trans hb3) HR.out.e0 HR.out.rz.q2
  have e1:w3.frozen? ⟨w.heap.size,1,none⟩=false:=frz2 ((below_drewL (Below.refl _ _)).trans hb3) HR.out.e1 HR.out.rz.q2
  clear ho3 hb3 hl3 hl5 z0 z1 f0 f1 HFL
  go_wp2
  go_roundw
  case rel=>exact ⟨k+1,A3,c3,by omega,by go_num,HN.out⟩
  case measure=>simp [intOf];omega
def cmpI (a b:Int):Int:=if a<b then -1 else if b<a then 1 else 0
theorem isNaN_any (a:Int) (w:World):Calls Tryz.prog 245 #[.int .i64 a] w fun e w'=>e=.returned (.bool false)∧w=w':=by
 go_enter Tryz.func245,Tryz.ntmps245
 go_wp2
 go_ret
 exact ⟨ret_bool (by simp),rfl⟩
theorem cmpCompare_any (a b:Int) (w:World):Calls Tryz.prog 160 #[.int .i64 a,.int .i64 b] w fun e w'=>e=.returned (.int .i64 (cmpI a b))∧w=w':=by
 by_cases h1:a<b
 ·have HE:Hid (cmpI a b = -1):=by show _=_;rw [cmpI,if_pos h1]
  go_enter Tryz.func160,Tryz.ntmps160
  go_wp2_with (go_at_call 245;refine (isNaN_any _ _).mono ?_;rintro e w' ⟨rfl,rfl⟩)
  go_ret
  exact ⟨ret_int HE.out.symm,rfl⟩
 ·by_cases h2:b<a
  ·have HE:Hid (cmpI a b=1):=by show _=_;rw [cmpI,if_neg h1,if_pos h2]
   go_enter Tryz.func160,Tryz.ntmps160
   go_wp2_with (go_at_call 245;refine (isNaN_any _ _).mono ?_;rintro e w' ⟨rfl,rfl⟩)
   go_ret
   exact ⟨ret_int HE.out.symm,rfl⟩
  ·have HE:Hid (cmpI a b=0):=by show _=_;rw [cmpI,if_neg h1,if_neg h2]
   go_enter Tryz.func160,Tryz.ntmps160
   go_wp2_with (go_at_call 245;refine (isNaN_any _ _).mono ?_;rintro e w' ⟨rfl,rfl⟩)
   go_ret
   exact ⟨ret_int HE.out.symm,rfl⟩
def orL:List Int→Int
 | []=>0
 | x :: xs=>if x=0 then orL xs else x
theorem orL_go {xs:List Int}{j:Nat} (h:xs[j]? = some 0):orL (xs.drop j)=orL (xs.drop (j+1)):=by
 obtain ⟨hl,e⟩:=List.getElem?_eq_some_iff.1 h
 rw [List.drop_eq_getElem_cons hl,e,orL,if_pos rfl]
theorem orL_hit {xs:List Int}{j:Nat}{x:Int} (h:xs[j]? = some x) (hx:x≠0):orL (xs.drop j)=x:=by
 obtain ⟨hl,e⟩:=List.getElem?_eq_some_iff.1 h
 rw [List.drop_eq_getElem_cons hl,e,orL,if_neg hx]
theorem cmpOr_any (A:Option Addr) (k:Nat) (xs:List Int) (w:World) (h:SlI w A xs) (hn:xs.length≤1048576):
  Calls Tryz.prog 159 #[.slice A xs.length k] w fun e w'=>e=.returned (.int .i64 (orL xs))∧w=w':=by
 have HS:=Lib.hid h
 clear h
 generalize hl:xs.length=n at *
 have HL:=Lib.hid hl
 clear hl
 go_enter Tryz.func159,Tryz.ntmps159
 go_wp2
 go_loop [8] (fun v=>∃j:Nat,j≤n∧v=.int .i64 j∧Hid (orL (xs.drop j)=orL xs)) (fun v=>n-(intOf v).toNat)
 case atStart=>exact ⟨0,Nat.zero_le _,rfl,rfl⟩
 case round=>
  obtain ⟨j,hj,rfl,HJ⟩:=hrel
  by_cases hlt:j<n
  ·obtain ⟨b,off,x,rfl,hx,c1,_⟩:=HS.out.at_ (k:=j) (by rw [HL.out];exact hlt)
   have HX:=Lib.hid hx
   clear hx
   by_cases hx0:x=0
   ·subst hx0
    go_wp2
    go_round
    all_goals first|exact ⟨j+1,by omega,by go_num,(orL_go HX.out).symm.trans HJ.out⟩|(simp [intOf];try omega)
   ·have HE:Hid (orL xs=x):=HJ.out.symm.trans (orL_hit HX.out hx0)
    have t1:(x != 0)=true:=by simp [hx0]
    go_wp2
    go_ret
    exact ⟨ret_int HE.out.symm,rfl⟩
  ·obtain rfl:j=n:=by omega
   have HE:Hid (orL xs=0):=by
    have:=HJ.out
    rw [List.drop_of_length_le (by rw [HL.out];exact Nat.le_refl _)] at this
    exact this.symm
   go_wp2
   go_ret
   exact ⟨ret_int HE.out.symm,rfl⟩
end Go.Proofs.YtkapoldjcpfdgaaGreatDoor
