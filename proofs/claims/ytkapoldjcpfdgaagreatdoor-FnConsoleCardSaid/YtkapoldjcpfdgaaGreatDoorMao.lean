/- IsLandau: the program's. -/
import Derived.Test.YtkapoldjcpfdgaaGreatDoorMan
set_option maxHeartbeats 4000000
set_option maxRecDepth 100000
namespace Go.Proofs.YtkapoldjcpfdgaaGreatDoor
open Go.ChangeShapes Go.WideShapes Go.ChangeAt Go.RowKit
theorem strF_no {x:TourV}{l:List Int} (h:orderB x l=false):strF x l=none:=by unfold strF;rw [h];rfl
theorem strF_yes {x:TourV}{l:List Int} (h:orderB x l=true):strF x l=some ⟨x.size,strR (backL x.wins l x.wins.length x.wins.length) x.wins⟩:=by unfold strF;rw [h];rfl
theorem rzFrozen {w:World}{y0 y1:Value} (k:Nat):((w.alloc (.cells #[y0,y1] 27)).alloc (.cells #[.int .i64 0,.slice none 0 0] 27)).frozen? ⟨w.heap.size,k,none⟩=false:=by
 rw [frozen?_alloc_cells,frozen?_alloc_cells]
 simp [World.frozen?]
theorem RzAt.done {w W:World}{y0 y1 u:Value}{lo:Nat}{xs:List Int} (h:RzAt w W y0 y1) (sz:Int) (hz:w.heap.size+2≤lo) (hf:Fr W lo W.heap.size u xs):
  Fr ((W.setCell ⟨w.heap.size+1,0,none⟩ (.int .i64 sz)).setCell ⟨w.heap.size+1,1,none⟩ u) w.heap.size ((W.setCell ⟨w.heap.size+1,0,none⟩ (.int .i64 sz)).setCell ⟨w.heap.size+1,1,none⟩ u).heap.size u xs∧Below w.heap.size w ((W.setCell ⟨w.heap.size+1,0,none⟩ (.int .i64 sz)).setCell ⟨w.heap.size+1,1,none⟩ u):=by
 have KP:Keep (w.heap.size+1) (w.heap.size+2) W ((W.setCell ⟨w.heap.size+1,0,none⟩ (.int .i64 sz)).setCell ⟨w.heap.size+1,1,none⟩ u):=
  ((Keep.refl _ _ _).setCell (p:=⟨w.heap.size+1,0,none⟩) (Nat.le_refl _) (Nat.lt_succ_self _) _).setCell (p:=⟨w.heap.size+1,1,none⟩) (Nat.le_refl _) (Nat.lt_succ_self _) _
 exact ⟨(hf.keep KP (.inr hz)).wide (by omega) KP.size (Nat.le_refl _),h.be.trans (KP.below (by omega) h.be.size)⟩
theorem frz2 {W W2:World}{p:Addr} (hb:Below W.heap.size W W2) (h:W.frozen? p=false) (hp:p.block<W.heap.size):W2.frozen? p=false:=
 ((Keep.of_below hb (Nat.le_refl _):Keep 0 0 W W2).frozen hp (.inr (Nat.zero_le _))).trans h
theorem implStraighten_any (v:Value) (x:TourV) (A:Option Addr) (c:Nat) (l:List Int) (w:World) (hs:InT w v x) (hl:InI w (.slice A l.length c) l) (hn:l.length≤1048576):
  Calls Tryz.prog 75 #[v,.slice A l.length c] w fun e w'=>TR w e w' (strF x l):=by
 have HIT:=Lib.hid hs
 obtain ⟨u,rfl,B,d,rfl,hd,hm,hts⟩:=hs
 have H0:Hid (RzAt w ((w.alloc (.cells #[.int .i64 x.size,.slice B x.wins.length d] 27)).alloc (.cells #[.int .i64 0,.slice none 0 0] 27)) (.int .i64 x.size) (.slice B x.wins.length d)):=rzStart
 have HIL:=Lib.hid hl
 have HTO:Hid (∀W,Below w.heap.size w W→Calls Tryz.prog 163 #[.agg #[.int .i64 x.size,.slice B x.wins.length d],.slice A l.length c] W fun e w'=>e=.returned (.bool (orderB x l))∧Below W.heap.size W w'):=fun W hW=>implOrderOk_any _ x A c l W (HIT.out.below hW) (HIL.out.below hW) hn
 clear hts hd hm
 cases h1:orderB x l
 case false=>
  have HN:=Lib.hid (strF_no h1)
  rw [h1] at HTO
  clear h1
  go_enter Tryz.func75,Tryz.ntmps75
  go_wp2_with fail
  refine (HTO.out _ H0.out.be).mono ?_
  rintro e w1 ⟨rfl,hb1⟩
  have H1:=Lib.hid (H0.out.below hb1)
  clear hb1
  obtain ⟨q0,q1,z0,z1,f0,f1,q2,z2,-⟩:=id H1.out
  go_wp2
  refine bodyPost_ret (v:=.tuple #[.agg #[.int .i64 0,.slice none 0 0],.bool false]) (by simp [results,Tryz.results75,go_sem,z0,z1]) rfl ?_
  rw [HN.out]
  exact ⟨H1.out.zero,rfl⟩
 have HY:=Lib.hid (strF_yes h1)
 have HOK:Hid (tourB x=true):=by
  show _=_
  unfold orderB at h1
  rw [Bool.and_eq_true] at h1
  exact h1.1
 have HBG:Hid (∀W,Below w.heap.size w W→Calls Tryz.prog 164 #[.agg #[.int .i64 x.size,.slice B x.wins.length d],.slice A l.length c] W fun e w'=>∃v',e=.returned v'∧OwS w' W.heap.size w'.heap.size v' (backL x.wins l x.wins.length x.wins.length)∧Below W.heap.size W w'):=fun W hW=>
  backGames_any _ x A c l W (HIT.out.below hW) HOK.out ((inI_sl HIL.out).below hW) hn
 rw [h1] at HTO
 clear h1
 go_enter Tryz.func75,Tryz.ntmps75
 go_wp2_with fail
 refine (HTO.out _ H0.out.be).mono ?_
 rintro e w1 ⟨rfl,hb1⟩
 have H1:=Lib.hid (H0.out.below hb1)
 have HE1:Hid (w1.frozen? ⟨w.heap.size,0,none⟩=false∧w1.frozen? ⟨w.heap.size,1,none⟩=false):=⟨frz2 hb1 (rzFrozen 0) H0.out.q2,frz2 hb1 (rzFrozen 1) H0.out.q2⟩
 clear hb1
 obtain ⟨q0,q1,z0,z1,f0,f1,q2,z2,-⟩:=id H1.out
 go_wp2_with fail
 refine (HBG.out _ H1.out.be).mono ?_
 rintro e w2 ⟨gv,rfl,hog,hb2⟩
 have HL8:Hid ((backL x.wins l x.wins.length x.wins.length).length≤64):=by
  show _≤_
  obtain ⟨t1,t2,t3,_⟩:=tourB_t HOK.out
  have h8:x.wins.length≤8:=by omega
  have:=backL_cap (xs:=x.wins) (l:=l) h8 x.wins.length
  omega
 have H2:=Lib.hid (H1.out.below hb2)
 obtain ⟨ga,gc,rfl,hgc,hgm⟩:=hog.form
 have HIT2:=Lib.hid (HIT.out.below H2.out.be)
 have HS:Hid (StAt w w2 x.size B x.wins.length d x.wins (.slice ga (backL x.wins l x.wins.length x.wins.length).length gc) (backL x.wins l x.wins.length x.wins.length) w1.heap.size w2.heap.size):=
  ⟨H2.out,frz2 hb2 HE1.out.1 H1.out.q2,frz2 hb2 HE1.out.2 H1.out.q2,HIT2.out,hog,H1.out.z2⟩
 have HMB:Hid (∀g∈backL x.wins l x.wins.length x.wins.length,∃a b:Nat,g = [(a:Int),(b:Int)]∧a<x.wins.length∧b<x.wins.length∧a≠b):=fun g hg=>backL_mem HOK.out hg
 obtain ⟨L,hL⟩:∃L,backL x.wins l x.wins.length x.wins.length=L:=⟨_,rfl⟩
 rw [hL] at HS HMB HL8 HY
 have hL8:=HL8.out
 rw [hL] at hgc
 rw [hL]
 clear hb2 q0 q1 z0 z1 f0 f1 q2 z2 hL hog
 go_wp2
 rename_i hK1
 have HK1:=Lib.hid hK1
 clear hK1
 go_loopw [17] (fun i wr=>∃(k:Nat) (A2:Option Addr) (d2:Nat),k≤L.length∧i=.int .i64 (k:Int)∧Hid (StAt w wr x.size A2 x.wins.length d2 (strR (L.take k) x.wins) (.slice ga L.length gc) L w1.heap.size w2.heap.size)) (fun i _=>L.length-(intOf i).toNat)
 case atStart=>exact ⟨0,B,d,Nat.zero_le _,rfl,HS.out⟩
 case round=>
  obtain ⟨k,A2,d2,hk,rfl,HR⟩:=hrel
  obtain ⟨wo,rfl⟩:∃W,W=wr:=⟨wr,rfl⟩
  by_cases hlt:k<L.length
  case neg=>
   obtain rfl:k=L.length:=by omega
   rw [List.take_length] at HR
   have HXL:Hid ((strR L x.wins).length=x.wins.length∧x.wins.length≤8):=by
    obtain ⟨t1,t2,t3,_⟩:=tourB_t HOK.out
    exact ⟨strR_len L x.wins,by omega⟩
   obtain ⟨q0,q1,z0,z1,f0,f1,q2,z2,-⟩:=id HR.out.rz
   have HSL:Hid (SlI wo A2 (strR L x.wins)):=by
    obtain ⟨u9,e9,h9⟩:=HR.out.it
    injection e9 with e9
    have e9:=congrArg (fun a=>a.toList) e9
    injection e9 with _ e9
    injection e9 with e9 _
    subst e9
    exact inI_sl (by have:=h9;rw [←HXL.out.1] at this;exact this)
   generalize strR L x.wins=xs at *
   generalize hnl:x.wins.length=n at *
   have HCL:Hid (∀W,Below wo.heap.size wo W→Calls Tryz.prog 59 #[.slice A2 n d2] W fun e w'=>∃A3 c3,e=.returned (.slice A3 n c3)∧Fr w' W.heap.size w'.heap.size (.slice A3 n c3) xs∧Below W.heap.size W w'):=fun W hW=>by
    have h:=cloneI_any A2 d2 xs W (HSL.out.below hW) (by rw [HXL.out.1];exact Nat.le_trans HXL.out.2 (by decide))
    rw [HXL.out.1] at h
    refine h.mono ?_
    rintro e w' ⟨A',c',rfl,hf,hb⟩
    exact ⟨A',c',rfl,hf,hb⟩
   have B1:Hid (Below wo.heap.size wo wo.drew):=below_drewL (Below.refl _ _)
   go_wp2
   refine HK1.out _ _ ?_
   go_wp2
   go_region_held3 (fun W=>W.cell? ⟨w.heap.size,0,none⟩=some (.int .i64 x.size)∧W.cell? ⟨w.heap.size,1,none⟩=some (.slice A2 n d2)) (first|exact ⟨q0,q1⟩|exact ⟨H3.out.1.q0,H3.out.1.q1⟩|exact HST.out|go_keep) (first|(go_at_call 59;(with_reducible refine (HCL.out wo.drew B1.out).mono ?_);rintro e w3 ⟨A3,c3,rfl,hf3,hb3⟩;have H3:Hid (RzAt w w3 (.int .i64 x.size) (.slice A2 n d2)∧Fr w3 wo.drew.heap.size w3.heap.size (.slice A3 n c3) xs):=(show _∧_ from ⟨HR.out.rz.below (B1.out.trans (hb3.mono B1.out.size)),hf3⟩);have z0':=H3.out.1.z0;have z1':=H3.out.1.z1;have f0':=H3.out.1.f0;have f1':=H3.out.1.f1;have HST:Hid (((w3.setCell ⟨w.heap.size+1,0,none⟩ (.int .i64 x.size)).setCell ⟨w.heap.size+1,1,none⟩ (.slice A3 n c3)).cell? ⟨w.heap.size,0,none⟩=some (.int .i64 x.size)∧((w3.setCell ⟨w.heap.size+1,0,none⟩ (.int .i64 x.size)).setCell ⟨w.heap.size+1,1,none⟩ (.slice A3 n c3)).cell? ⟨w.heap.size,1,none⟩=some (.slice A2 n d2)):=(show _∧_ from ⟨(World.cell?_setCell_other _ _ _ _ (by intro e;simp at e)).trans ((World.cell?_setCell_other _ _ _ _ (by intro e;simp at e)).trans H3.out.1.q0),(World.cell?_setCell_other _ _ _ _ (by intro e;simp at e)).trans ((World.cell?_setCell_other _ _ _ _ (by intro e;simp at e)).trans H3.out.1.q1)⟩);clear hf3 hb3 z0 z1 f0 f1))
   have HD:=Lib.hid (H3.out.1.done x.size (by show w.heap.size+2≤wo.heap.size;omega) H3.out.2)
   go_wp2
   refine bodyPost_ret (v:=.tuple #[.agg #[.int .i64 x.size,.slice A3 n c3],.bool true]) (by simp [results,Tryz.results75,go_sem,z0',z1']) rfl ?_
   rw [HY.out]
   exact ⟨HD.out.2,_,rfl,_,rfl,HD.out.1⟩
  obtain ⟨bg,og,u,g,rfl,hg,cg,hu,-⟩:=HR.out.gm.in_.at_ (k:=k) hlt
  obtain ⟨a,b,rfl,ha,hb,hab⟩:=HMB.out g (List.mem_of_getElem? hg)
  obtain ⟨Au,cu,rfl,-,-,hsu⟩:=hu
  obtain ⟨bu,ou,y1,rfl,hy1,cy1,-⟩:=hsu.at_ (k:=0) (by simp)
  injection hy1 with hy1;subst hy1
  obtain ⟨bu2,ou2,y2,e,hy2,cy2,-⟩:=hsu.at_ (k:=1) (by simp)
  injection e with e;injection e with e1 e2;subst e1;subst e2
  injection hy2 with hy2;subst hy2
  rw [Nat.add_zero] at cy1
  have HNX:Hid (strR (L.take (k+1)) x.wins=flipW (strR (L.take k) x.wins) a b):=by
   show _=_
   rw [strR_take L x.wins k _ hg];rfl
  have HFL:Hid (∀W,Below wo.heap.size wo W→Calls Tryz.prog 152 #[.agg #[.int .i64 x.size,.slice A2 x.wins.length d2],.int .i64 (a:Int),.int .i64 (b:Int)] W fun e w'=>∃v',e=.returned v'∧OwT w' W.heap.size w'.heap.size v' ⟨x.size,flipW (strR (L.take k) x.wins) a b⟩∧Below W.heap.size W w'):=fun W hW=>by
   obtain ⟨t1,t2,t3,t4,_⟩:=tourB_t HOK.out
   have hlen:=strR_len (L.take k) x.wins
   refine flipped_any _ ⟨x.size,strR (L.take k) x.wins⟩ a b W (HR.out.it.below hW) (by show (strR _ _).length≤8;omega) ?_ (by show a<(strR _ _).length;omega) (by show b<(strR _ _).length;omega) hab
   refine strR_bd _ _ (fun g hg=>?_) (fun y hy=>?_)
   ·obtain ⟨a',b',rfl,h1,h2,-⟩:=HMB.out g (List.mem_of_mem_take hg)
    exact ⟨by show ((a':Int)).toNat<8;omega,by show ((b':Int)).toNat<8;omega⟩
   ·obtain ⟨j,hj⟩:=List.getElem?_of_mem hy
    exact winsB_at (by omega) t4 hj
  obtain ⟨q0,q1,z0,z1,f0,f1,q2,z2,-⟩:=id HR.out.rz
  clear hsu hg
  have cy1':wo.drew.cell? ⟨bu,ou,none⟩=some (.int .i64 (a:Int)):=cy1
  have cy2':wo.drew.cell? ⟨bu,ou+1,none⟩=some (.int .i64 (b:Int)):=cy2
  go_wp2
  refine wp_region_still_tail 7 (by kernel_rfl) (by kernel_rfl) ?_
  simp only [List.take_succ_cons,List.take_zero,List.drop_succ_cons,List.drop_zero]
  repeat still_step
  refine wpStill_nil ?_
  change wpList _ _ _ _ _ wo.drew
  clear q0 q1 z0 z1 f0 f1 cy1 cy2 cy1' cy2'
  go_wp2_with fail
  refine (HFL.out wo.drew (below_drewL (Below.refl _ _))).mono ?_
  rintro e w3 ⟨v3,rfl,ho3,hb3⟩
  obtain ⟨A3,c3,rfl⟩:=ho3.form
  have hl5:(⟨x.size,flipW (strR (L.take k) x.wins) a b⟩:TourV).wins.length=x.wins.length:=by show (flipW _ _ _).length=_;rw [flipW_length,strR_len]
  rw [hl5]
  have hl3:(flipW (strR (L.take k) x.wins) a b).length=x.wins.length:=by rw [flipW_length,strR_len]
  have ho3:OwT w3 wo.drew.heap.size w3.heap.size (.agg #[.int .i64 x.size,.slice A3 (flipW (strR (L.take k) x.wins) a b).length c3]) ⟨x.size,flipW (strR (L.take k) x.wins) a b⟩:=ho3
  show _
  rw [←HNX.out] at ho3 hl3
  rw [hl3] at ho3
  have HN:=Lib.hid (HR.out.next ((below_drewL (Below.refl _ _)).trans hb3) ho3)
  have H3:Hid (RzAt w w3 (.int .i64 x.size) (.slice A2 x.wins.length d2)):=HR.out.rz.below ((below_drewL (Below.refl _ _)).trans hb3)
  obtain ⟨q0,q1,z0,z1,f0,f1,q2,z2,-⟩:=id H3.out
  have e0:w3.frozen? ⟨w.heap.size,0,none⟩=false:=frz2 ((below_drewL (Below.refl _ _)).trans hb3) HR.out.e0 HR.out.rz.q2
  have e1:w3.frozen? ⟨w.heap.size,1,none⟩=false:=frz2 ((below_drewL (Below.refl _ _)).trans hb3) HR.out.e1 HR.out.rz.q2
  clear ho3 hb3 hl3 hl5 z0 z1 f0 f1 HFL
  go_wp2
  go_roundw
  case rel=>exact ⟨k+1,A3,c3,by omega,by go_num,HN.out⟩
  case measure=>simp [intOf];omega
def cmpI (a b:Int):Int:=if a<b then -1 else if b<a then 1 else 0
theorem isNaN_any (a:Int) (w:World):Calls Tryz.prog 245 #[.int .i64 a] w fun e w'=>e=.returned (.bool false)∧w=w':=by
 go_enter Tryz.func245,Tryz.ntmps245
 go_wp2
 go_ret
 exact ⟨ret_bool (by simp),rfl⟩
theorem cmpCompare_any (a b:Int) (w:World):Calls Tryz.prog 160 #[.int .i64 a,.int .i64 b] w fun e w'=>e=.returned (.int .i64 (cmpI a b))∧w=w':=by
 by_cases h1:a<b
 ·have HE:Hid (cmpI a b = -1):=by show _=_;rw [cmpI,if_pos h1]
  go_enter Tryz.func160,Tryz.ntmps160
  go_wp2_with (go_at_call 245;refine (isNaN_any _ _).mono ?_;rintro e w' ⟨rfl,rfl⟩)
  go_ret
  exact ⟨ret_int HE.out.symm,rfl⟩
 ·by_cases h2:b<a
  ·have HE:Hid (cmpI a b=1):=by show _=_;rw [cmpI,if_neg h1,if_pos h2]
   go_enter Tryz.func160,Tryz.ntmps160
   go_wp2_with (go_at_call 245;refine (isNaN_any _ _).mono ?_;rintro e w' ⟨rfl,rfl⟩)
   go_ret
   exact ⟨ret_int HE.out.symm,rfl⟩
  ·have HE:Hid (cmpI a b=0):=by show _=_;rw [cmpI,if_neg h1,if_neg h2]
   go_enter Tryz.func160,Tryz.ntmps160
   go_wp2_with (go_at_call 245;refine (isNaN_any _ _).mono ?_;rintro e w' ⟨rfl,rfl⟩)
   go_ret
   exact ⟨ret_int HE.out.symm,rfl⟩
def orL:List Int→Int
 | []=>0
 | x :: xs=>if x=0 then orL xs else x
theorem orL_go {xs:List Int}{j:Nat} (h:xs[j]? = some 0):orL (xs.drop j)=orL (xs.drop (j+1)):=by
 obtain ⟨hl,e⟩:=List.getElem?_eq_some_iff.1 h
 rw [List.drop_eq_getElem_cons hl,e,orL,if_pos rfl]
theorem orL_hit {xs:List Int}{j:Nat}{x:Int} (h:xs[j]? = some x) (hx:x≠0):orL (xs.drop j)=x:=by
 obtain ⟨hl,e⟩:=List.getElem?_eq_some_iff.1 h
 rw [List.drop_eq_getElem_cons hl,e,orL,if_neg hx]
theorem cmpOr_any (A:Option Addr) (k:Nat) (xs:List Int) (w:World) (h:SlI w A xs) (hn:xs.length≤1048576):
  Calls Tryz.prog 159 #[.slice A xs.length k] w fun e w'=>e=.returned (.int .i64 (orL xs))∧w=w':=by
 have HS:=Lib.hid h
 clear h
 generalize hl:xs.length=n at *
 have HL:=Lib.hid hl
 clear hl
 go_enter Tryz.func159,Tryz.ntmps159
 go_wp2
 go_loop [8] (fun v=>∃j:Nat,j≤n∧v=.int .i64 j∧Hid (orL (xs.drop j)=orL xs)) (fun v=>n-(intOf v).toNat)
 case atStart=>exact ⟨0,Nat.zero_le _,rfl,rfl⟩
 case round=>
  obtain ⟨j,hj,rfl,HJ⟩:=hrel
  by_cases hlt:j<n
  ·obtain ⟨b,off,x,rfl,hx,c1,_⟩:=HS.out.at_ (k:=j) (by rw [HL.out];exact hlt)
   have HX:=Lib.hid hx
   clear hx
   by_cases hx0:x=0
   ·subst hx0
    go_wp2
    go_round
    all_goals first|exact ⟨j+1,by omega,by go_num,(orL_go HX.out).symm.trans HJ.out⟩|(simp [intOf];try omega)
   ·have HE:Hid (orL xs=x):=HJ.out.symm.trans (orL_hit HX.out hx0)
    have t1:(x != 0)=true:=by simp [hx0]
    go_wp2
    go_ret
    exact ⟨ret_int HE.out.symm,rfl⟩
  ·obtain rfl:j=n:=by omega
   have HE:Hid (orL xs=0):=by
    have:=HJ.out
    rw [List.drop_of_length_le (by rw [HL.out];exact Nat.le_refl _)] at this
    exact this.symm
   go_wp2
   go_ret
   exact ⟨ret_int HE.out.symm,rfl⟩
theorem cmpLess_any (a b:Int) (w:World):Calls Tryz.prog 314 #[.int .i64 a,.int .i64 b] w fun e w'=>e=.returned (.bool (decide (a<b)))∧w=w':=by
 by_cases h:a<b
 ·go_enter Tryz.func314,Tryz.ntmps314
  go_wp2_with (go_at_call 245;refine (isNaN_any _ _).mono ?_;rintro e w' ⟨rfl,rfl⟩)
  go_ret
  exact ⟨by simp [h],rfl⟩
 ·go_enter Tryz.func314,Tryz.ntmps314
  go_wp2_with (go_at_call 245;refine (isNaN_any _ _).mono ?_;rintro e w' ⟨rfl,rfl⟩)
  go_ret
  exact ⟨by simp,rfl⟩
def srtF (xs:List Int) (k:Nat):Bool:=(List.range xs.length).all fun i=>decide (i<k) || decide (i=0) || !decide (xs.getD i 0<xs.getD (i-1) 0)
def srtB (xs:List Int):Bool:=srtF xs 1
theorem srtF_top (xs:List Int):srtF xs xs.length=true:=by
 unfold srtF
 rw [List.all_eq_true]
 intro i hi
 rw [List.mem_range] at hi
 simp [hi]
theorem srtF_hit {xs:List Int}{k:Nat} (hk:k<xs.length) (h1:1≤k) (h:xs.getD k 0<xs.getD (k-1) 0):srtB xs=false:=by
 unfold srtB srtF
 rw [List.all_eq_false]
 refine ⟨k,List.mem_range.2 hk,?_⟩
 simp only [decide_eq_true h,decide_eq_false (show ¬k<1 by omega),decide_eq_false (show ¬k=0 by omega)]
 decide
theorem srtF_step {xs:List Int}{k:Nat} (h:¬xs.getD k 0<xs.getD (k-1) 0) (hs:srtF xs (k+1)=true):srtF xs k=true:=by
 unfold srtF at hs ⊢
 rw [List.all_eq_true] at hs ⊢
 intro i hi
 have h1:=hs i hi
 by_cases e:i=k
 ·subst e;simp only [decide_eq_false h];simp
 ·by_cases e2:i<k
  ·simp [e2]
  ·simp only [decide_eq_false (show ¬i<k+1 by omega)] at h1
   simp only [decide_eq_false e2]
   exact h1
theorem isSorted_any (A:Option Addr) (c:Nat) (xs:List Int) (w:World) (hs:SlI w A xs) (hn:xs.length≤1048576):
  Calls Tryz.prog 242 #[.slice A xs.length c] w fun e w'=>e=.returned (.bool (srtB xs))∧Below w.heap.size w w':=by
 generalize hl:xs.length=n at *
 have HL:=Lib.hid hl
 have HS:=Lib.hid hs
 have HTOP:Hid (srtF xs n=true):=by show _=_;rw [←hl];exact srtF_top xs
 clear hl hs
 go_enter Tryz.func242,Tryz.ntmps242
 go_wp2
 go_loopw [3] (fun i wr=>∃k:Nat,k≤n∧i=.int .i64 ((k:Int)-1)∧Hid (srtF xs k=true∧Below w.heap.size w wr∧SlI wr A xs)) (fun i _=>(intOf i).toNat)
 case atStart=>exact ⟨n,Nat.le_refl _,by go_num,HTOP.out,Below.refl _ _,HS.out⟩
 case round=>
  obtain ⟨k,hk,rfl,HR⟩:=hrel
  clear HTOP
  by_cases hlt:1<k
  case neg=>
   have HE:Hid (srtB xs=true):=by
    show _=_
    have h:=HR.out.1
    rcases Nat.eq_zero_or_pos k with h0|h0
    ·subst h0
     unfold srtB srtF
     unfold srtF at h
     rw [List.all_eq_true] at h ⊢
     intro i hi
     have h1:=h i hi
     by_cases e:i<1
     ·simp [e]
     ·simp only [decide_eq_false (show ¬i<0 by omega)] at h1
      simp only [decide_eq_false e]
      exact h1
    ·obtain rfl:k=1:=by omega
     exact h
   have hg:¬(0:Int)<(k:Int)-1:=by omega
   go_wp2
   go_ret
   exact ⟨by rw [HE.out];rfl,HR.out.2.1⟩
  obtain ⟨j,rfl⟩:∃j,k=j+2:=⟨k-2,by omega⟩
  have ej:(((j+2:Nat):Int)-1)=(((j+1:Nat)):Int):=by omega
  rw [ej]
  clear ej hlt
  have hg:(0:Int)<((j+1:Nat):Int):=by omega
  have ew:(((j+1:Nat):Int)-1)=((j:Nat):Int):=by omega
  obtain ⟨b,off,y,rfl,hy,cy,-⟩:=HR.out.2.2.at_ (k:=j+1) (by rw [HL.out];omega)
  obtain ⟨b2,off2,z,e,hz,cz,-⟩:=HR.out.2.2.at_ (k:=j) (by rw [HL.out];omega)
  injection e with e;injection e with e1 e2;subst e1;subst e2
  have hyD:xs.getD (j+1) 0=y:=by rw [List.getD_eq_getElem?_getD,hy];rfl
  have hzD:xs.getD j 0=z:=by rw [List.getD_eq_getElem?_getD,hz];rfl
  have f1:(0:Int)≤((j+1:Nat):Int)∧((j+1:Nat):Int)<(n:Int):=by omega
  have f2:(0:Int)≤((j:Nat):Int)∧((j:Nat):Int)<(n:Int):=by omega
  have HYZ:=Lib.hid (And.intro hyD hzD)
  clear hy hz hyD hzD
  by_cases hc:y<z
  ·have HE:Hid (srtB xs=false):=srtF_hit (k:=j+1) (by rw [HL.out];omega) (by omega) (by rw [HYZ.out.1,Nat.add_sub_cancel,HYZ.out.2];exact hc)
   have HLE:Hid (∀W,Calls Tryz.prog 314 #[.int .i64 y,.int .i64 z] W fun e w'=>e=.returned (.bool true)∧W=w'):=fun W=>by
    have h:=cmpLess_any y z W
    rwa [decide_eq_true hc] at h
   go_wp2_with fail
   go_quiet (first|(go_at_call 314;exact quiet_left (HLE.out _)))
   rename_i nq
   have HB:Hid (Below w.heap.size w (wr.drewN nq)):=below_drewN HR.out.2.1 nq
   generalize wr.drewN nq=w1 at *
   go_wp2
   go_ret
   exact ⟨by rw [HE.out];rfl,HB.out⟩
  ·have HN:Hid (srtF xs (j+1)=true):=srtF_step (by rw [HYZ.out.1,Nat.add_sub_cancel,HYZ.out.2];exact hc) HR.out.1
   have HLE:Hid (∀W,Calls Tryz.prog 314 #[.int .i64 y,.int .i64 z] W fun e w'=>e=.returned (.bool false)∧W=w'):=fun W=>by
    have h:=cmpLess_any y z W
    rwa [decide_eq_false hc] at h
   go_wp2_with fail
   go_quiet (first|(go_at_call 314;exact quiet_left (HLE.out _)))
   rename_i nq
   have HB:Hid (Below w.heap.size w (wr.drewN nq)∧SlI (wr.drewN nq) (some ⟨b,off,none⟩) xs):=⟨below_drewN HR.out.2.1 nq,HR.out.2.2⟩
   generalize wr.drewN nq=w1 at *
   go_wp2
   go_roundw
   case rel=>exact ⟨j+1,by omega,by go_num,HN.out,HB.out⟩
   case measure=>simp [intOf]
def slkS (xs:List Int):Nat→Int
 | 0=>0
 | k+1=>slkS xs k+(xs.getD k 0-k)
def slkL (xs:List Int):Nat→List Int
 | 0=>[]
 | k+1=>slkL xs k++[slkS xs (k+1)]
theorem slkL_len (xs:List Int):∀k,(slkL xs k).length=k
 | 0=>rfl
 | k+1=>by rw [slkL,List.length_append,slkL_len xs k];rfl
theorem slkS_bd {xs:List Int} (h:∀i,0≤xs.getD i 0∧xs.getD i 0≤8):∀k:Nat,k≤8→-(8*(k:Int))≤slkS xs k∧slkS xs k≤8*(k:Int)
 | 0,_=>by simp [slkS]
 | k+1,hk=>by
  have ih:=slkS_bd h k (by omega)
  have:=h k
  rw [slkS]
  omega
theorem slackOf_any (A:Option Addr) (c:Nat) (xs:List Int) (w:World) (hs:SlI w A xs) (hn:xs.length≤8) (hb:∀i,0≤xs.getD i 0∧xs.getD i 0≤8):
  Calls Tryz.prog 243 #[.slice A xs.length c] w fun e w'=>∃v',e=.returned v'∧Fr w' w.heap.size w'.heap.size v' (slkL xs xs.length)∧Below w.heap.size w w':=by
 generalize hl:xs.length=n at *
 have HL:=Lib.hid hl
 have HS:=Lib.hid hs
 have HSB:Hid (∀k:Nat,k≤8→-(8*(k:Int))≤slkS xs k∧slkS xs k≤8*(k:Int)):=fun k hk=>slkS_bd hb k hk
 have HBD:=Lib.hid hb
 have H0:Hid (Fr w w.heap.size w.heap.size (.slice none 0 0) (slkL xs 0)):=Fr.nil _ (Nat.le_refl _)
 clear hl hs hb
 go_enter Tryz.func243,Tryz.ntmps243
 go_wp2
 go_loopw [3,4,9] (fun o s i wr=>∃(k:Nat) (v':Value),k≤n∧i=.int .i64 (k:Int)∧v'=o∧s=.int .i64 (slkS xs k)∧Hid (Fr wr w.heap.size wr.heap.size v' (slkL xs k)∧Below w.heap.size w wr)) (fun _ _ i _=>n-(intOf i).toNat)
 case atStart=>exact ⟨0,_,Nat.zero_le _,rfl,rfl,rfl,H0.out,Below.refl _ _⟩
 case round=>
  obtain ⟨k,v',hk,rfl,rfl,rfl,HR⟩:=hrel
  by_cases hlt:k<n
  case neg=>
   obtain rfl:n=k:=by omega
   go_wp2
   go_ret
   exact ⟨_,rfl,HR.out.1,HR.out.2⟩
  obtain ⟨b,off,y,rfl,hy,cy,-⟩:=(HS.out.below HR.out.2).at_ (k:=k) (by rw [HL.out];exact hlt)
  have hyD:xs.getD k 0=y:=by rw [List.getD_eq_getElem?_getD,hy];rfl
  have hyb:=HBD.out k
  rw [hyD] at hyb
  obtain ⟨s,hs⟩:∃s,slkS xs k=s:=⟨_,rfl⟩
  have hsb:=HSB.out k (by omega)
  rw [hs] at hsb ⊢
  have HN:Hid (slkS xs (k+1)=s+(y-k)):=by show _=_;rw [slkS,hs,hyD]
  have HNL:Hid (slkL xs (k+1)=slkL xs k++[s+(y-k)]):=by show _=_;rw [slkL,HN.out]
  have e1:IntKind.i64.wrap (y-(k:Int))=y-k:=by rw [IntKind.wrap_i64];omega
  have e2:IntKind.i64.wrap (s+(y-(k:Int)))=s+(y-k):=by rw [IntKind.wrap_i64];omega
  clear hy hs hyD
  go_wp2_with (at_builtin;refine app1 rfl _ _ rfl wr w.heap.size v' k (slkL xs k) rfl (by have h:=HR.out.1.1;rw [slkL_len] at h;exact h) (s+(y-k)) rfl (by omega) HR.out.2.size ?_;intro v2 w2 hown2 hb2 hsz2 _)
  have HO:Hid (Fr w2 w.heap.size w2.heap.size v2 (slkL xs (k+1))∧Below w.heap.size w w2):=by
   refine ⟨Fr.of_own ?_,HR.out.2.trans (hb2 w.heap.size (Nat.le_refl _) HR.out.2.size)⟩
   rw [slkL_len,HNL.out];exact hown2
  clear hown2 hb2 hsz2
  go_wp2
  go_roundw
  case rel=>exact ⟨k+1,v2,by omega,by go_num,rfl,by rw [HN.out],HO.out⟩
  case measure=>simp [intOf];omega
def minTo (l:List Int):Nat→Int
 | 0=>l.getD 0 0
 | k+1=>if l.getD (k+1) 0<minTo l k then l.getD (k+1) 0 else minTo l k
theorem slicesMin_any (A:Option Addr) (c:Nat) (xs:List Int) (w:World) (hs:SlI w A xs) (h0:0<xs.length) (hn:xs.length≤1048576):
  Calls Tryz.prog 244 #[.slice A xs.length c] w fun e w'=>e=.returned (.int .i64 (minTo xs (xs.length-1)))∧w=w':=by
 obtain ⟨b,off,x0,rfl,hx0,hc0,-⟩:=hs.at_ h0
 rw [Nat.add_zero] at hc0
 have HS:=Lib.hid hs
 have H0:Hid (minTo xs 0=x0):=by show List.getD _ _ _=_;rw [List.getD_eq_getElem?_getD,hx0];rfl
 generalize hl:xs.length=n at *
 have HL:=Lib.hid hl
 clear hl hs hx0
 go_enter Tryz.func244,Tryz.ntmps244
 go_wp2
 go_loop [3,4] (fun m i=>∃q:Nat,1≤q∧q≤n∧i=.int .i64 q∧m=.int .i64 (minTo xs (q-1))) (fun _ i=>n-(intOf i).toNat)
 case atStart=>exact ⟨1,Nat.le_refl _,h0,rfl,by rw [show 1-1=0 from rfl,H0.out]⟩
 case round=>
  obtain ⟨q,hq1,hq,rfl,rfl⟩:=hrel
  by_cases hlt:q<n
  ·obtain ⟨b',off',y,e,hy,hcy,-⟩:=HS.out.at_ (k:=q) (by rw [HL.out];exact hlt)
   injection e with e;injection e with r1 r2 _;subst r1;subst r2
   have HN:Hid (minTo xs (q+1-1)=if y<minTo xs (q-1) then y else minTo xs (q-1)):=by
    show _=_
    obtain ⟨j,rfl⟩:∃j,q=j+1:=⟨q-1,by omega⟩
    have hyD:xs.getD (j+1) 0=y:=by rw [List.getD_eq_getElem?_getD,hy];rfl
    rw [show j+1+1-1=j+1 from rfl,show j+1-1=j from rfl,minTo,hyD]
   clear hy
   generalize minTo xs (q-1)=M at *
   by_cases hm:y<M
   ·have HN2:Hid (minTo xs (q+1-1)=y):=by show _=_;rw [HN.out,if_pos hm]
    go_wp2
    go_round
    case rel=>exact ⟨q+1,by omega,by omega,by go_num,by rw [HN2.out];exact congrArg (Value.int .i64) (by omega)⟩
    case measure=>simp [intOf];omega
   ·have HN2:Hid (minTo xs (q+1-1)=M):=by show _=_;rw [HN.out,if_neg hm]
    go_wp2
    go_round
    case rel=>exact ⟨q+1,by omega,by omega,by go_num,by rw [HN2.out];exact congrArg (Value.int .i64) (by omega)⟩
    case measure=>simp [intOf];omega
  ·obtain rfl:q=n:=by omega
   go_wp2
   go_ret
   exact ⟨rfl,rfl⟩
def landB (xs:List Int):Bool:=inB (xs.length:Int) 1 8 && (xs.all (fun x=>inB x 0 8) && (srtB xs && (decide (0≤minTo (slkL xs xs.length) (xs.length-1)) && decide (slkS xs xs.length=0))))
theorem slkL_get (xs:List Int):∀k i,i<k→(slkL xs k)[i]? = some (slkS xs (i+1))
 | 0,i,h=>by omega
 | k+1,i,h=>by
  rw [slkL]
  rcases Nat.lt_or_ge i k with h1|h1
  ·rw [List.getElem?_append_left (by rw [slkL_len];exact h1)];exact slkL_get xs k i h1
  ·obtain rfl:i=k:=by omega
   rw [List.getElem?_append_right (by rw [slkL_len];exact Nat.le_refl _),slkL_len,Nat.sub_self];rfl
theorem all_bd {xs:List Int}{lo hi:Int} (h0:lo≤0) (h1:0≤hi) (h:xs.all (fun x=>inB x lo hi)=true) (i:Nat):lo≤xs.getD i 0∧xs.getD i 0≤hi:=by
 rw [List.getD_eq_getElem?_getD]
 cases hx:xs[i]? with
 | none=>exact ⟨h0,h1⟩
 | some y=>exact inB_t.1 (List.all_eq_true.1 h y (List.mem_of_getElem? hx))
theorem implIsLandau_any (A:Option Addr) (c:Nat) (xs:List Int) (w:World) (hs:SlI w A xs) (hn:xs.length≤1048576):
  Calls Tryz.prog 156 #[.slice A xs.length c] w fun e w'=>e=.returned (.bool (landB xs))∧Below w.heap.size w w':=by
 have HS:=Lib.hid hs
 have HN:=Lib.hid hn
 have HLB:Hid (landB xs=(inB (xs.length:Int) 1 8 && (xs.all (fun x=>inB x 0 8) && (srtB xs && (decide (0≤minTo (slkL xs xs.length) (xs.length-1)) && decide (slkS xs xs.length=0)))))):=rfl
 have HAW:Hid (∀W,Below w.heap.size w W→Calls Tryz.prog 239 #[.slice A xs.length c,.int .i64 0,.int .i64 8] W fun e w'=>e=.returned (.bool (xs.all (fun x=>inB x 0 8)))∧Below W.heap.size W w'):=fun W hW=>allWithin_any A c xs 0 8 W (HS.out.below hW) HN.out
 have HSO:Hid (∀W,Below w.heap.size w W→Calls Tryz.prog 242 #[.slice A xs.length c] W fun e w'=>e=.returned (.bool (srtB xs))∧Below W.heap.size W w'):=fun W hW=>isSorted_any A c xs W (HS.out.below hW) HN.out
 clear hs
 cases h1:inB (xs.length:Int) 1 8
 case false=>
  rw [h1] at HLB
  go_enter Tryz.func156,Tryz.ntmps156
  go_wp2_with (go_at_call 147;refine (within_any _ 1 8 _).mono ?_;rintro e w_ ⟨rfl,rfl⟩;rw [h1])
  go_ret
  exact ⟨by rw [HLB.out];rfl,Below.refl _ _⟩
 have h8:=inB_t.1 h1
 cases h2:xs.all (fun x=>inB x 0 8)
 case false=>
  rw [h1,h2] at HLB
  rw [h2] at HAW
  clear h2
  go_enter Tryz.func156,Tryz.ntmps156
  go_wp2_with (first|(go_at_call 147;refine (within_any _ 1 8 _).mono ?_;rintro e w_ ⟨rfl,rfl⟩;rw [h1])|(go_at_call 239;refine (HAW.out _ (Below.refl _ _)).mono ?_;rintro e w2 ⟨rfl,hb⟩;have B2:=Lib.hid hb;clear hb))
  go_ret
  exact ⟨by rw [HLB.out];rfl,B2.out⟩
 have H2:=Lib.hid h2
 rw [h2] at HAW
 cases h3:srtB xs
 case false=>
  rw [h1,h2,h3] at HLB
  rw [h3] at HSO
  clear h2 h3
  go_enter Tryz.func156,Tryz.ntmps156
  go_wp2_with (first|(go_at_call 147;refine (within_any _ 1 8 _).mono ?_;rintro e w_ ⟨rfl,rfl⟩;rw [h1])|(go_at_call 239;refine (HAW.out _ (Below.refl _ _)).mono ?_;rintro e w2 ⟨rfl,hb⟩;have B2:=Lib.hid hb;clear hb)|(go_at_call 242;refine (HSO.out _ B2.out).mono ?_;rintro e w3 ⟨rfl,hb⟩;have B3:Hid (Below w.heap.size w w3):=B2.out.trans (hb.mono B2.out.size);clear hb))
  go_ret
  exact ⟨by rw [HLB.out];rfl,B3.out⟩
 rw [h1,h2,h3] at HLB
 rw [h3] at HSO
 clear h2 h3
 have HSK:Hid (∀W,Below w.heap.size w W→Calls Tryz.prog 243 #[.slice A xs.length c] W fun e w'=>∃v',e=.returned v'∧Fr w' W.heap.size w'.heap.size v' (slkL xs xs.length)∧Below W.heap.size W w'):=fun W hW=>slackOf_any A c xs W (HS.out.below hW) (by omega) (all_bd (by decide) (by decide) H2.out)
 have HSL:=Lib.hid (slkL_len xs xs.length)
 have HGT:=Lib.hid (slkL_get xs xs.length (xs.length-1) (by omega))
 have HBD:Hid (-64≤slkS xs xs.length∧slkS xs xs.length≤64):=by
  have:=slkS_bd (all_bd (by decide) (by decide) H2.out) xs.length (by omega)
  exact ⟨by omega,by omega⟩
 have e1:xs.length-1+1=xs.length:=by omega
 rw [e1] at HGT
 clear e1
 have b1:(1:Int)≤(xs.length:Int)∧(xs.length:Int)≤8:=h8
 clear h8 H2 HN
 generalize hL:slkL xs xs.length=L at *
 generalize hT:slkS xs xs.length=T at *
 generalize hn:xs.length=n at *
 clear hL hT hn
 have i1:(0:Int)≤(n:Int)-1:=by omega
 have i2:(n:Int)-1<(n:Int):=by omega
 have i3:((n:Int)-1).toNat=n-1:=by omega
 go_enter Tryz.func156,Tryz.ntmps156
 go_wp2_with (first
  | (go_at_call 147;refine (within_any _ 1 8 _).mono ?_;rintro e w_ ⟨rfl,rfl⟩;rw [h1])
  | (go_at_call 239;refine (HAW.out _ (Below.refl _ _)).mono ?_;rintro e w2 ⟨rfl,hb⟩;have B2:=Lib.hid hb;clear hb)
  | (go_at_call 242;refine (HSO.out _ B2.out).mono ?_;rintro e w3 ⟨rfl,hb⟩;have B3:Hid (Below w.heap.size w w3):=B2.out.trans (hb.mono B2.out.size);clear hb)
  | (go_at_call 243;refine (HSK.out _ B3.out).mono ?_;rintro e w4 ⟨v4,rfl,hf,hb⟩;have B4:Hid (Below w.heap.size w w4):=B3.out.trans (hb.mono B3.out.size);obtain ⟨A4,c4,rfl,hc4,hm4⟩:=hf.form;have HF:=Lib.hid hf;have HSL':=HSL.out;rw [HSL'] at hc4 HF ⊢;obtain ⟨g4,y4,rfl,-,-,hy4,cy4,-,-⟩:=HF.out.at_ (k:=n-1) (by rw [HSL.out];omega);rw [HGT.out] at hy4;injection hy4 with hy4;subst hy4;clear hb hf HSL')
  | (go_at_call 244;have hmn:=slicesMin_any (some ⟨g4,0,none⟩) c4 L w4 HF.out.sl (by rw [HSL.out];omega) (by rw [HSL.out];omega);rw [HSL.out] at hmn;refine hmn.mono ?_;rintro e w5 ⟨rfl,rfl⟩;clear hmn))
 ·by_cases hT:T=0
  ·subst hT
   go_wp2
   go_ret
   exact ⟨by rw [HLB.out];simp [*],B4.out⟩
  ·go_wp2
   go_ret
   exact ⟨by rw [HLB.out];simp [*],B4.out⟩
 ·go_ret
  exact ⟨by rw [HLB.out];simp [show ¬ 0≤minTo L (n-1) by omega],B4.out⟩
end Go.Proofs.YtkapoldjcpfdgaaGreatDoor
