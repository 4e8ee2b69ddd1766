/- StraightenBy: plain law and memory. -/
import Derived.Test.YtkapoldjcpfdgaaGreatDoorMam
set_option maxHeartbeats 4000000
set_option maxRecDepth 100000
namespace Go.Proofs.YtkapoldjcpfdgaaGreatDoor
open Go.ChangeShapes Go.WideShapes Go.ChangeAt Go.RowKit
theorem inI_sl {w:World}{A:Option Addr}{n c:Nat}{xs:List Int} (h:InI w (.slice A n c) xs):SlI w A xs:=by
 obtain ⟨A',c',e,_,_,hs⟩:=h
 injection e with e1
 subst e1
 exact hs
def orderB (x:TourV) (l:List Int):Bool:=tourB x && (decide ((l.length:Int)=x.size) && permB l)
theorem implOrderOk_any (v:Value) (x:TourV) (A:Option Addr) (c:Nat) (l:List Int) (w:World) (hs:InT w v x) (hl:InI w (.slice A l.length c) l) (hn:l.length≤1048576):
  Calls Tryz.prog 163 #[v,.slice A l.length c] w fun e w'=>e=.returned (.bool (orderB x l))∧Below w.heap.size w w':=by
 have HIT:=Lib.hid hs
 have HIL:=Lib.hid hl
 obtain ⟨u,rfl,B,d,rfl,hd,hm,hsl⟩:=hs
 obtain ⟨A',c',he,hc,_,hsl2⟩:=hl
 injection he with e1 e2 e3
 subst e1;subst e3
 have HTO:Hid (∀W,Below w.heap.size w W→Calls Tryz.prog 148 #[.agg #[.int .i64 x.size,.slice B x.wins.length d]] W fun e w'=>e=.returned (.bool (tourB x))∧Below W.heap.size W w'):=fun W hW=>implTourOk_any _ x W (HIT.out.below hW)
 have HIO:Hid (∀W,Below w.heap.size w W→Calls Tryz.prog 168 #[.slice A l.length c] W fun e w'=>e=.returned (.bool (permB l))∧W=w'):=fun W hW=>isOrder_any A c l W ((inI_sl HIL.out).below hW) hn hc
 have HO:Hid (orderB x l=(tourB x && (decide ((l.length:Int)=x.size) && permB l))):=rfl
 have HB:Hid (Bx (w.alloc (.cells #[.int .i64 x.size,.slice B x.wins.length d] 27)) w.heap.size (.int .i64 x.size) (.slice B x.wins.length d)∧Below w.heap.size w (w.alloc (.cells #[.int .i64 x.size,.slice B x.wins.length d] 27))):=⟨⟨by simp,by simp,by simp⟩,(Below.refl _ w).alloc (Nat.le_refl _) _⟩
 clear hsl hsl2 hd hm
 cases h1:tourB x
 ·rw [h1] at HTO
  have HE:Hid (orderB x l=false):=by show _=_;rw [HO.out,h1];rfl
  clear h1
  go_enter Tryz.func163,Tryz.ntmps163
  go_wp2_with (go_at_call 148;refine (HTO.out _ HB.out.2).mono ?_;rintro e w1 ⟨rfl,hb⟩;have H1:Hid (Below w.heap.size w w1):=HB.out.2.trans (hb.mono HB.out.2.size);clear hb)
  go_ret
  exact ⟨by rw [HE.out];rfl,H1.out⟩
 rw [h1] at HTO
 by_cases h2:(l.length:Int)=x.size
 case neg=>
  have HE:Hid (orderB x l=false):=by show _=_;rw [HO.out,decide_eq_false h2,Bool.false_and,Bool.and_false]
  have h2':((l.length:Int)==x.size)=false:=beq_eq_false_iff_ne.2 h2
  clear h1 h2
  go_enter Tryz.func163,Tryz.ntmps163
  go_wp2_with (go_at_call 148;refine (HTO.out _ HB.out.2).mono ?_;rintro e w1 ⟨rfl,hb⟩;have H1:Hid (Below w.heap.size w w1):=HB.out.2.trans (hb.mono HB.out.2.size);obtain ⟨q0,q1,q2⟩:=HB.out.1.below hb;clear hb)
  go_ret
  exact ⟨by rw [HE.out];rfl,H1.out⟩
 have HE:Hid (orderB x l=permB l):=by show _=_;rw [HO.out,h1,decide_eq_true h2,Bool.true_and,Bool.true_and]
 have h2':((l.length:Int)==x.size)=true:=beq_iff_eq.2 h2
 clear h1 h2
 go_enter Tryz.func163,Tryz.ntmps163
 go_wp2_with (first
  | (go_at_call 148;refine (HTO.out _ HB.out.2).mono ?_;rintro e w1 ⟨rfl,hb⟩;have H1:Hid (Below w.heap.size w w1):=HB.out.2.trans (hb.mono HB.out.2.size);obtain ⟨q0,q1,q2⟩:=HB.out.1.below hb;clear hb)
  | (go_at_call 168;refine (HIO.out _ H1.out).mono ?_;rintro e w2 ⟨rfl,rfl⟩))
 go_ret
 exact ⟨by rw [HE.out];rfl,H1.out⟩
structure BkAt (w wr:World) (x:TourV) (B:Option Addr) (d:Nat) (v:Value) (L:List (List Int)):Prop where
 ow:OwS wr (w.heap.size+1) wr.heap.size v L
 bx:Bx wr w.heap.size (.int .i64 (x.wins.length:Int)) (.slice B x.wins.length d)
 be:Below w.heap.size w wr
theorem rowLit2 (w:World) (a b:Int):Fr (w.alloc (.cells #[.int .i64 a,.int .i64 b] 3)) w.heap.size (w.alloc (.cells #[.int .i64 a,.int .i64 b] 3)).heap.size (.slice (some ⟨w.heap.size,0,none⟩) 2 2) [a,b]:=
 Fr.of_own (xs:=[a,b]) (World.ownsRow_lit (base:=w.heap.size) (e:=3) (size:=1) w #[.int .i64 a,.int .i64 b] 2 (Nat.le_refl _) (by unfold maxLen;omega) rfl)
theorem BkAt.below {w wr w2:World}{x:TourV}{B:Option Addr}{d:Nat}{v:Value}{L:List (List Int)} (h:BkAt w wr x B d v L) (hb:Below wr.heap.size wr w2):BkAt w w2 x B d v L:=
 ⟨(h.ow.grow hb).top hb.size (Nat.le_refl _),h.bx.below hb,h.be.trans (hb.mono h.be.size)⟩
theorem BkAt.lo {w wr:World}{x:TourV}{B:Option Addr}{d:Nat}{v:Value}{L:List (List Int)} (h:BkAt w wr x B d v L):w.heap.size+1≤wr.heap.size:=by
 obtain ⟨_,_,_,_,h1,h2,_⟩:=h.ow
 omega
theorem BkAt.next {w W w2:World}{x:TourV}{B:Option Addr}{d:Nat}{v v2:Value}{L L2:List (List Int)}{o:Obj} (h:BkAt w W x B d v L) (how:OwS w2 (w.heap.size+1) w2.heap.size v2 L2)
  (hb:∀D,D≤w.heap.size+1→D≤(W.alloc o).heap.size→Below D (W.alloc o) w2):BkAt w w2 x B d v2 L2:=by
 have hz:=h.lo
 have b1:Below W.heap.size W (W.alloc o):=(Below.refl _ W).alloc (Nat.le_refl _) _
 have b2:=hb (w.heap.size+1) (Nat.le_refl _) (by rw [World.size_alloc];omega)
 have b3:Below (w.heap.size+1) W w2:=(b1.mono hz).trans b2
 exact ⟨how,h.bx.under b3 (Nat.lt_succ_self _),h.be.trans (b3.mono (Nat.le_succ _))⟩
theorem bkStart {w:World}{x:TourV}{B:Option Addr}{d:Nat}:BkAt w (w.alloc (.cells #[.int .i64 (x.wins.length:Int),.slice B x.wins.length d] 27)) x B d (.slice none 0 0) []:=
 ⟨OwS.nil _ (by rw [World.size_alloc];exact Nat.le_refl _) (by rw [World.size_alloc];exact Nat.le_refl _),⟨by simp,by simp,by simp⟩,(Below.refl _ w).alloc (Nat.le_refl _) _⟩
theorem backL_cap {xs l:List Int}{n:Nat} (h:n≤8):∀a,(backL xs l n a).length≤a*8
 | 0=>by simp [backL]
 | a+1=>by
  have ih:=backL_cap (xs:=xs) (l:=l) h a
  have h2:(backR xs l n a n).length≤n:=by
   unfold backR
   rw [List.length_map]
   exact Nat.le_trans (List.length_filter_le _ _) (by rw [List.length_range];exact Nat.le_refl _)
  rw [backL_succ,List.length_append];omega
theorem backR_cap {xs l:List Int}{n a:Nat} (m:Nat):(backR xs l n a m).length≤m:=by
 unfold backR
 rw [List.length_map]
 exact Nat.le_trans (List.length_filter_le _ _) (by rw [List.length_range];exact Nat.le_refl _)
theorem backGames_any (v:Value) (x:TourV) (A:Option Addr) (c:Nat) (l:List Int) (w:World) (hs:InT w v x) (hok:tourB x=true) (hl:SlI w A l) (hn:l.length≤1048576):
  Calls Tryz.prog 164 #[v,.slice A l.length c] w fun e w'=>∃v',e=.returned v'∧OwS w' w.heap.size w'.heap.size v' (backL x.wins l x.wins.length x.wins.length)∧Below w.heap.size w w':=by
 have HIT:=Lib.hid hs
 have HIL:=Lib.hid hl
 obtain ⟨u,rfl,B,d,rfl,hd,hm,hsl⟩:=hs
 obtain ⟨t1,t2,t3,t4,_⟩:=tourB_t hok
 have hn8:x.wins.length≤8:=by omega
 have HSZ:Hid (x.size=(x.wins.length:Int)):=t3.symm
 have HBT:Hid (∀V (p q:Nat),Below w.heap.size w V→p<x.wins.length→q<x.wins.length→Calls Tryz.prog 150 #[.agg #[.int .i64 x.size,.slice B x.wins.length d],.int .i64 (p:Int),.int .i64 (q:Int)] V fun e w'=>e=.returned (.bool (bt x.wins p q))∧Below V.heap.size V w'):=fun V p q hV hp hq=>implBeats_any _ x p q V (HIT.out.below hV) hn8 t4 hp (by omega)
 have HIX:Hid (∀V (q:Nat),Below w.heap.size w V→Calls Tryz.prog 248 #[.slice A l.length c,.int .i64 (q:Int)] V fun e w'=>e=.returned (.int .i64 (plc l (q:Int)))∧V=w'):=fun V q hV=>indexI_any A c l _ V (HIL.out.below hV) hn
 have H0:=Lib.hid (bkStart (w:=w) (x:=x) (B:=B) (d:=d))
 rw [HSZ.out] at HBT
 rw [HSZ.out]
 clear hsl hl hok t1 t2 t3 t4 hm hd
 obtain ⟨q0,q1,q2⟩:=id H0.out.bx
 go_enter Tryz.func164,Tryz.ntmps164
 go_wp2
 clear q0 q1 q2
 go_loopw [5,10] (fun o i wr=>∃(a:Nat) (vv:Value),a≤x.wins.length∧i=.int .i64 a∧vv=o∧Hid (BkAt w wr x B d vv (backL x.wins l x.wins.length a))) (fun _ i _=>x.wins.length-(intOf i).toNat)
 case atStart=>exact ⟨0,_,Nat.zero_le _,rfl,rfl,H0.out⟩
 case round=>
  obtain ⟨a,vv,ha,rfl,rfl,HR⟩:=hrel
  obtain ⟨wo,rfl⟩:∃W,W=wr:=⟨wr,rfl⟩
  clear H0
  by_cases hlt:a<x.wins.length
  case neg=>
   obtain rfl:a=x.wins.length:=by omega
   go_wp2
   go_ret
   exact ⟨_,rfl,HR.out.ow.wideLo (Nat.le_succ _),HR.out.be⟩
  obtain ⟨q0,q1,q2⟩:=id HR.out.bx
  have HCA:Hid ((backL x.wins l x.wins.length a).length≤64):=by
   have:=backL_cap (xs:=x.wins) (l:=l) hn8 a
   show _≤_;omega
  go_wp2
  clear q0 q1 q2
  go_loopw [5,15] (fun o i wr=>∃(b:Nat) (vv:Value),b≤x.wins.length∧i=.int .i64 b∧vv=o∧Hid (BkAt w wr x B d vv (backL x.wins l x.wins.length a++backR x.wins l x.wins.length a b))) (fun _ i _=>x.wins.length-(intOf i).toNat)
  case atStart=>exact ⟨0,_,Nat.zero_le _,rfl,rfl,by show BkAt _ _ _ _ _ _ _;rw [show backR x.wins l x.wins.length a 0 = [] from rfl,List.append_nil];exact HR.out⟩
  case round=>
   obtain ⟨b,v2,hb,rfl,rfl,HR2⟩:=hrel
   obtain ⟨w1,rfl⟩:∃W,W=wr:=⟨wr,rfl⟩
   clear HR
   by_cases hlt2:b<x.wins.length
   case neg=>
    obtain rfl:b=x.wins.length:=by omega
    have HN:Hid (BkAt w w1 x B d v2 (backL x.wins l x.wins.length (a+1))):=by show BkAt _ _ _ _ _ _ _;rw [backL_succ];exact HR2.out
    go_wp2
    go_roundw
    case rel=>exact ⟨a+1,_,by omega,by go_num,rfl,HN.out⟩
    case measure=>simp [intOf];omega
   obtain ⟨q0,q1,q2⟩:=id HR2.out.bx
   have HBK:Hid (backP x.wins l a b=(bt x.wins a b && decide (plc l (b:Int)<plc l (a:Int)))):=rfl
   have HNO:Hid (∀W,BkAt w W x B d v2 (backL x.wins l x.wins.length a++backR x.wins l x.wins.length a b)→backP x.wins l a b=false→BkAt w W x B d v2 (backL x.wins l x.wins.length a++backR x.wins l x.wins.length a (b+1))):=fun W h e=>by
    rw [backR_succ,e];simpa using h
   have hB1:=Lib.hid (fun V hV=>HBT.out V a b hV hlt hlt2)
   cases e1:bt x.wins a b
   ·have HN:Hid (backP x.wins l a b=false):=by show _=_;rw [HBK.out,e1];rfl
    rw [e1] at hB1
    clear e1
    go_wp2_with (go_at_call 150;refine (hB1.out _ HR2.out.be).mono ?_;rintro e w4 ⟨rfl,hb4⟩;have H4:=Lib.hid (HR2.out.below hb4);clear hb4 q0 q1 q2)
    go_roundw
    case rel=>exact ⟨b+1,_,by omega,by go_num,rfl,HNO.out _ H4.out HN.out⟩
    case measure=>simp [intOf];omega
   rw [e1] at hB1
   have pb1:=plc_bd l (a:Int)
   have pb2:=plc_bd l (b:Int)
   by_cases e2:plc l (b:Int)<plc l (a:Int)
   case neg=>
    have HN:Hid (backP x.wins l a b=false):=by show _=_;rw [HBK.out,decide_eq_false e2,Bool.and_false]
    clear e1
    go_wp2_with (first
     | (go_at_call 150;refine (hB1.out _ HR2.out.be).mono ?_;rintro e w4 ⟨rfl,hb4⟩;have H4:=Lib.hid (HR2.out.below hb4);clear hb4 q0 q1 q2)
     | (go_at_call 248;refine (HIX.out _ _ H4.out.be).mono ?_;rintro e w5 ⟨rfl,rfl⟩))
    go_roundw
    case rel=>exact ⟨b+1,_,by omega,by go_num,rfl,HNO.out _ H4.out HN.out⟩
    case measure=>simp [intOf];omega
   have HY:Hid (backL x.wins l x.wins.length a++backR x.wins l x.wins.length a (b+1)=(backL x.wins l x.wins.length a++backR x.wins l x.wins.length a b)++[[(a:Int),(b:Int)]]):=by
    show _=_;rw [backR_succ,HBK.out,e1,decide_eq_true e2,Bool.and_self,if_pos rfl,List.append_assoc]
   have hcap:(backL x.wins l x.wins.length a++backR x.wins l x.wins.length a b).length≤1048576:=by
    have h1:=HCA.out
    have h2:=backR_cap (xs:=x.wins) (l:=l) (n:=x.wins.length) (a:=a) b
    rw [List.length_append];omega
   clear e1
   go_wp2_with (first
    | (go_at_call 150;refine (hB1.out _ HR2.out.be).mono ?_;rintro e w4 ⟨rfl,hb4⟩;have H4:=Lib.hid (HR2.out.below hb4);obtain ⟨vs,hown6,hpush⟩:=H4.out.ow.pushed ((Below.refl _ w4).alloc (Nat.le_refl _) _) (rowLit2 w4 (a:Int) (b:Int));have HO:=Lib.hid hown6;have HP:=Lib.hid hpush;clear hb4 q0 q1 q2 hown6 hpush)
    | (go_at_call 248;refine (HIX.out _ _ H4.out.be).mono ?_;rintro e w5 ⟨rfl,rfl⟩)
    | (at_builtin;refine appS rfl _ _ rfl (w4.alloc (.cells #[.int .i64 (a:Int),.int .i64 (b:Int)] 3)) (w.heap.size+1) v2 _ vs rfl HO.out (some ⟨w4.heap.size,0,none⟩) 2 2 (by rw [World.size_alloc];rfl) hcap (by have:=H4.out.lo;rw [World.size_alloc];omega) ?_;intro v7 w7 hown7 hb7 _ hg7;have H7:Hid (BkAt w w7 x B d v7 (backL x.wins l x.wins.length a++backR x.wins l x.wins.length a (b+1))):=(by show BkAt _ _ _ _ _ _ _;rw [HY.out];exact H4.out.next (HP.out _ _ hown7 hg7) hb7);clear hown7 hb7 hg7))
   go_roundw
   case rel=>exact ⟨b+1,_,by omega,by go_num,rfl,H7.out⟩
   case measure=>simp [intOf];omega
theorem fpR1 {w W:World}{y0 y1:Value}{n:Nat} (hn:n≤1048576) (h:RzAt w W y0 y1):
  FpAt w ((W.alloc (mkO n)).alloc (.cells #[.int .i64 (n:Int),.slice (some ⟨W.heap.size,0,none⟩) n n] 27)).drew (W.heap.size+1) W.heap.size n n (n:Int) (List.replicate n 0):=by
 have f:=fr_mkO hn W
 have b1:Below W.heap.size W (W.alloc (mkO n)):=(Below.refl _ W).alloc (Nat.le_refl _) _
 have z1:(W.alloc (mkO n)).heap.size=W.heap.size+1:=World.size_alloc _ _
 have hz2:=h.z2
 have h1:=h.below b1
 generalize W.alloc (mkO n)=W1 at *
 have b2:Below W1.heap.size W1 (W1.alloc (.cells #[.int .i64 (n:Int),.slice (some ⟨W.heap.size,0,none⟩) n n] 27)):=(Below.refl _ W1).alloc (Nat.le_refl _) _
 rw [←z1]
 exact (FpAt.mk2 (by simp) (by simp) (by simp) ((f.below b2 (Nat.le_refl _)).wide (by omega) b2.size (Nat.le_refl _)) (by omega) (by omega) (h1.below b2)).drew
theorem fpR2 {w W:World}{y0 y1:Value}{n:Nat} (hn:n≤1048576) (h:RzAt w W y0 y1):
  FpAt w ((W.alloc (.cells #[.int .i64 (n:Int),.slice (some ⟨W.heap.size+1,0,none⟩) n n] 27)).alloc (mkO n)).drew W.heap.size (W.heap.size+1) n n (n:Int) (List.replicate n 0):=by
 have b1:Below W.heap.size W (W.alloc (.cells #[.int .i64 (n:Int),.slice (some ⟨W.heap.size+1,0,none⟩) n n] 27)):=(Below.refl _ W).alloc (Nat.le_refl _) _
 have z1:(W.alloc (.cells #[.int .i64 (n:Int),.slice (some ⟨W.heap.size+1,0,none⟩) n n] 27)).heap.size=W.heap.size+1:=World.size_alloc _ _
 have c0:(W.alloc (.cells #[.int .i64 (n:Int),.slice (some ⟨W.heap.size+1,0,none⟩) n n] 27)).cell? ⟨W.heap.size,0,none⟩=some (.int .i64 (n:Int)):=by simp
 have c1:(W.alloc (.cells #[.int .i64 (n:Int),.slice (some ⟨W.heap.size+1,0,none⟩) n n] 27)).cell? ⟨W.heap.size,1,none⟩=some (.slice (some ⟨W.heap.size+1,0,none⟩) n n):=by simp
 have hz2:=h.z2
 have h1:=h.below b1
 generalize W.alloc (.cells #[.int .i64 (n:Int),.slice (some ⟨W.heap.size+1,0,none⟩) n n] 27)=W1 at *
 have f:=fr_mkO hn W1
 have b2:Below W1.heap.size W1 (W1.alloc (mkO n)):=(Below.refl _ W1).alloc (Nat.le_refl _) _
 have z2:(W1.alloc (mkO n)).heap.size=W1.heap.size+1:=World.size_alloc _ _
 rw [z1] at f
 exact (FpAt.mk2 ((b2.cell (p:=⟨W.heap.size,0,none⟩) (by show W.heap.size<_;omega)).trans c0) ((b2.cell (p:=⟨W.heap.size,1,none⟩) (by show W.heap.size<_;omega)).trans c1) (by omega) (f.wide (by omega) (Nat.le_refl _) (Nat.le_refl _)) (by omega) (by omega) (h1.below b2)).drew
theorem renamed_any (v:Value) (x:TourV) (nm:List Nat) (bn on cn:Nat) (w:World) (hs:InT w v x) (hok:tourB x=true) (hnS:SlI w (some ⟨bn,on,none⟩) (nI nm)) (hnl:nm.length=x.wins.length) (hnm:∀i,nm.getD i 0<x.wins.length) (hcn:x.wins.length≤cn∧cn≤9223372036854775807):
  Calls Tryz.prog 169 #[v,.slice (some ⟨bn,on,none⟩) x.wins.length cn] w fun e w'=>∃v',e=.returned v'∧OwT w' w.heap.size w'.heap.size v' ⟨x.size,renL x nm⟩∧Below w.heap.size w w':=by
 obtain ⟨u,rfl,B,d,rfl,hd,hm,hts⟩:=hs
 obtain ⟨t1,t2,t3,t4,_⟩:=tourB_t hok
 have hn8:x.wins.length≤8:=by omega
 have hn1:1≤x.wins.length:=by omega
 obtain ⟨bx,ox,-,rfl,-,-,-⟩:=hts.at_ (k:=0) hn1
 rw [←t3]
 have HXN:Hid (∃n,x.wins.length=n):=⟨_,rfl⟩
 obtain ⟨n,hn⟩:=HXN.out
 rw [hn] at hn8 hn1 hnl hnm hcn ⊢
 have H0:Hid (RzAt w ((w.alloc (.cells #[.int .i64 (n:Int),.slice (some ⟨bx,ox,none⟩) n d] 27)).alloc (.cells #[.int .i64 0,.slice none 0 0] 27)) (.int .i64 (n:Int)) (.slice (some ⟨bx,ox,none⟩) n d)):=rzStart
 have HQ:Hid (∀W,Below w.heap.size w W→SlI W (some ⟨bx,ox,none⟩) x.wins∧SlI W (some ⟨bn,on,none⟩) (nI nm)):=fun W hW=>⟨hts.below hW,hnS.below hW⟩
 have hR0:rnT x nm 0=List.replicate n 0:=by rw [rnT,hn]
 have HR0:=Lib.hid hR0
 have HM:=Lib.hid (And.intro hok (And.intro hn (And.intro hnl (And.intro hnm hcn))))
 have hmk:=run_mkI (n:=n) (by omega)
 have hn9:n≤1048576:=by omega
 clear hts hnS t1 t2 t3 t4 hok hnl hnm hR0 hm hd hcn HXN hn
 go_enter Tryz.func169,Tryz.ntmps169
 go_wp2
 rename_i hK1
 have HK1:=Lib.hid hK1
 clear hK1
 have F1:Hid (FpAt w ((((w.alloc (.cells #[.int .i64 (n:Int),.slice (some ⟨bx,ox,none⟩) n d] 27)).alloc (.cells #[.int .i64 0,.slice none 0 0] 27)).alloc (mkO n)).alloc (.cells #[.int .i64 (n:Int),.slice (some ⟨((w.alloc (.cells #[.int .i64 (n:Int),.slice (some ⟨bx,ox,none⟩) n d] 27)).alloc (.cells #[.int .i64 0,.slice none 0 0] 27)).heap.size,0,none⟩) n n] 27)).drew (((w.alloc (.cells #[.int .i64 (n:Int),.slice (some ⟨bx,ox,none⟩) n d] 27)).alloc (.cells #[.int .i64 0,.slice none 0 0] 27)).heap.size+1) ((w.alloc (.cells #[.int .i64 (n:Int),.slice (some ⟨bx,ox,none⟩) n d] 27)).alloc (.cells #[.int .i64 0,.slice none 0 0] 27)).heap.size n n (n:Int) (List.replicate n 0)):=fpR1 hn9 H0.out
 have F2:Hid (FpAt w ((((w.alloc (.cells #[.int .i64 (n:Int),.slice (some ⟨bx,ox,none⟩) n d] 27)).alloc (.cells #[.int .i64 0,.slice none 0 0] 27)).alloc (.cells #[.int .i64 (n:Int),.slice (some ⟨((w.alloc (.cells #[.int .i64 (n:Int),.slice (some ⟨bx,ox,none⟩) n d] 27)).alloc (.cells #[.int .i64 0,.slice none 0 0] 27)).heap.size+1,0,none⟩) n n] 27)).alloc (mkO n)).drew ((w.alloc (.cells #[.int .i64 (n:Int),.slice (some ⟨bx,ox,none⟩) n d] 27)).alloc (.cells #[.int .i64 0,.slice none 0 0] 27)).heap.size (((w.alloc (.cells #[.int .i64 (n:Int),.slice (some ⟨bx,ox,none⟩) n d] 27)).alloc (.cells #[.int .i64 0,.slice none 0 0] 27)).heap.size+1) n n (n:Int) (List.replicate n 0)):=fpR2 hn9 H0.out
 have HZ:Hid (((w.alloc (.cells #[.int .i64 (n:Int),.slice (some ⟨bx,ox,none⟩) n d] 27)).alloc (.cells #[.int .i64 0,.slice none 0 0] 27)).heap.size=w.heap.size+1+1):=(by show _=_;simp)
 generalize ((w.alloc (.cells #[.int .i64 (n:Int),.slice (some ⟨bx,ox,none⟩) n d] 27)).alloc (.cells #[.int .i64 0,.slice none 0 0] 27))=w1 at *
 have q0:=H0.out.q0
 have q1:=H0.out.q1
 go_region_held3 (fun W=>W.cell? ⟨w.heap.size,0,none⟩=some (.int .i64 (n:Int))∧W.cell? ⟨w.heap.size,1,none⟩=some (.slice (some ⟨bx,ox,none⟩) n d)) (first|go_keep|exact ⟨q0,q1⟩) (fail)
 all_goals (go_wp2_with fail)
 ·have HF:Hid (FpAt w ((w1.alloc (mkO n)).alloc (.cells #[.int .i64 (n:Int),.slice (some ⟨w1.heap.size,0,none⟩) n n] 27)).drew (w1.heap.size+1) w1.heap.size n n (n:Int) (rnT x nm 0)):=by rw [HR0.out];exact F1.out
  have HB:Hid (Bx ((w1.alloc (mkO n)).alloc (.cells #[.int .i64 (n:Int),.slice (some ⟨w1.heap.size,0,none⟩) n n] 27)).drew w.heap.size (.int .i64 (n:Int)) (.slice (some ⟨bx,ox,none⟩) n d)):=(H0.out.below (below_drewL (((Below.refl _ w1).alloc (Nat.le_refl _) _).alloc (by simp) _))).bx
  have HSZ1:Hid ((w1.alloc (mkO n)).heap.size=w1.heap.size+1):=World.size_alloc _ _
  refine HK1.out _ _ ?_
  exact rnTail w _ x _ _ n n bx ox d bn on cn nm HM.out.1 HM.out.2.1 HF HM.out.2.2.1 HM.out.2.2.2.1 HQ HB HM.out.2.2.2.2 _ _ _ _ _ _ _ _ _ _ _ _ _ _ _ _ _ _ _ _ _ _ _ _ _ _ _ _ _ _ _ _ _ _ _ _ _ _ _ _ _ _ _ _ _ _ _
 ·have HF:Hid (FpAt w ((w1.alloc (.cells #[.int .i64 (n:Int),.slice (some ⟨w1.heap.size+1,0,none⟩) n n] 27)).alloc (mkO n)).drew w1.heap.size (w1.heap.size+1) n n (n:Int) (rnT x nm 0)):=by rw [HR0.out];exact F2.out
  have HB:Hid (Bx ((w1.alloc (.cells #[.int .i64 (n:Int),.slice (some ⟨w1.heap.size+1,0,none⟩) n n] 27)).alloc (mkO n)).drew w.heap.size (.int .i64 (n:Int)) (.slice (some ⟨bx,ox,none⟩) n d)):=(H0.out.below (below_drewL (((Below.refl _ w1).alloc (Nat.le_refl _) _).alloc (by simp) _))).bx
  have HSZ1:∀o,Hid ((w1.alloc o).heap.size=w1.heap.size+1):=fun o=>World.size_alloc _ _
  refine HK1.out _ _ ?_
  exact rnTail w _ x _ _ n n bx ox d bn on cn nm HM.out.1 HM.out.2.1 HF HM.out.2.2.1 HM.out.2.2.2.1 HQ HB HM.out.2.2.2.2 _ _ _ _ _ _ _ _ _ _ _ _ _ _ _ _ _ _ _ _ _ _ _ _ _ _ _ _ _ _ _ _ _ _ _ _ _ _ _ _ _ _ _ _ _ _ _
theorem permB_nm {l:List Int} (h:permB l=true):nI (l.map Int.toNat)=l∧∀i,0<l.length→(l.map Int.toNat).getD i 0<l.length:=by
 obtain ⟨h1,-⟩:=permB_t h
 constructor
 ·unfold nI
  rw [List.map_map]
  conv=>rhs;rw [←List.map_id l]
  exact List.map_congr_left fun y hy=>Int.toNat_of_nonneg (h1 y hy).1
 ·intro i hi
  rw [List.getD_eq_getElem?_getD,List.getElem?_map]
  cases e:l[i]? with
  | none=>simpa using hi
  | some y=>have:=h1 y (List.mem_of_getElem? e);simp;omega
def rnmF (x:TourV) (l:List Int):Option TourV:=if orderB x l then some ⟨x.size,renL x (l.map Int.toNat)⟩ else none
theorem rnmF_no {x:TourV}{l:List Int} (h:orderB x l=false):rnmF x l=none:=by unfold rnmF;rw [h];rfl
theorem rnmF_yes {x:TourV}{l:List Int} (h:orderB x l=true):rnmF x l=some ⟨x.size,renL x (l.map Int.toNat)⟩:=by unfold rnmF;rw [h];rfl
theorem renL_len (x:TourV) (nm:List Nat):(renL x nm).length=x.wins.length:=rnT_len x nm _
theorem implRenameTour_any (v:Value) (x:TourV) (A:Option Addr) (c:Nat) (l:List Int) (w:World) (hs:InT w v x) (hl:InI w (.slice A l.length c) l):
  Calls Tryz.prog 80 #[v,.slice A l.length c] w fun e w'=>TR w e w' (rnmF x l):=by
 have HIT:=Lib.hid hs
 obtain ⟨u,rfl,B,d,rfl,hd,hm,hts⟩:=hs
 have H0:Hid (RzAt w ((w.alloc (.cells #[.int .i64 x.size,.slice B x.wins.length d] 27)).alloc (.cells #[.int .i64 0,.slice none 0 0] 27)) (.int .i64 x.size) (.slice B x.wins.length d)):=rzStart
 have HTO:Hid (∀W,Below w.heap.size w W→Calls Tryz.prog 148 #[.agg #[.int .i64 x.size,.slice B x.wins.length d]] W fun e w'=>e=.returned (.bool (tourB x))∧Below W.heap.size W w'):=fun W hW=>implTourOk_any _ x W (HIT.out.below hW)
 have HIL:=Lib.hid hl
 obtain ⟨A',c',he,hc,hcm,hsl2⟩:=hl
 injection he with e1 e2 e3
 subst e1;subst e3
 clear hts hsl2 hd hm
 cases h1:tourB x
 case false=>
  have HN:Hid (rnmF x l=none):=rnmF_no (by rw [orderB,h1];rfl)
  rw [h1] at HTO
  clear h1
  go_enter Tryz.func80,Tryz.ntmps80
  go_wp2_with fail
  refine (HTO.out _ H0.out.be).mono ?_
  rintro e w1 ⟨rfl,hb1⟩
  have H1:=Lib.hid (H0.out.below hb1)
  clear hb1
  obtain ⟨q0,q1,z0,z1,f0,f1,q2,z2,-⟩:=id H1.out
  go_wp2
  refine bodyPost_ret (v:=.tuple #[.agg #[.int .i64 0,.slice none 0 0],.bool false]) (by simp [results,Tryz.results80,go_sem,z0,z1]) rfl ?_
  rw [HN.out]
  exact ⟨H1.out.zero,rfl⟩
 have HT1:=Lib.hid h1
 obtain ⟨t1,t2,t3,t4,_⟩:=tourB_t h1
 rw [h1] at HTO
 by_cases h2:(l.length:Int)=x.size
 case neg=>
  have HN:Hid (rnmF x l=none):=rnmF_no (by unfold orderB;rw [decide_eq_false h2,Bool.false_and,Bool.and_false])
  have h2':((l.length:Int) != x.size)=true:=bne_iff_ne.2 h2
  clear h1 h2 t1 t2 t3 t4
  go_enter Tryz.func80,Tryz.ntmps80
  go_wp2_with fail
  refine (HTO.out _ H0.out.be).mono ?_
  rintro e w1 ⟨rfl,hb1⟩
  have H1:=Lib.hid (H0.out.below hb1)
  clear hb1
  obtain ⟨q0,q1,z0,z1,f0,f1,q2,z2,-⟩:=id H1.out
  go_wp2
  refine bodyPost_ret (v:=.tuple #[.agg #[.int .i64 0,.slice none 0 0],.bool false]) (by simp [results,Tryz.results80,go_sem,z0,z1]) rfl ?_
  rw [HN.out]
  exact ⟨H1.out.zero,rfl⟩
 have h2':((l.length:Int) != x.size)=false:=by rw [bne_eq_false_iff_eq];exact h2
 have hlx:l.length=x.wins.length:=by omega
 have hn8:l.length≤1048576:=by omega
 have hpos:0<l.length:=by omega
 have HIO:Hid (∀W,Below w.heap.size w W→Calls Tryz.prog 168 #[.slice A l.length c] W fun e w'=>e=.returned (.bool (permB l))∧Below W.heap.size W w'):=fun W hW=>(isOrder_any A c l W ((inI_sl HIL.out).below hW) hn8 hc).mono fun e w' h=>⟨h.1,by rw [h.2];exact Below.refl _ _⟩
 have HOB:Hid (orderB x l=permB l):=by show _=_;rw [orderB,h1,decide_eq_true h2,Bool.true_and,Bool.true_and]
 cases h3:permB l
 case false=>
  have HN:Hid (rnmF x l=none):=rnmF_no (by rw [HOB.out,h3])
  rw [h3] at HIO
  clear h1 h2 h3 t1 t2 t3 t4 hlx hn8
  go_enter Tryz.func80,Tryz.ntmps80
  go_wp2_with fail
  refine (HTO.out _ H0.out.be).mono ?_
  rintro e w1 ⟨rfl,hb1⟩
  have H1:=Lib.hid (H0.out.below hb1)
  clear hb1
  obtain ⟨q0,q1,z0,z1,f0,f1,q2,z2,-⟩:=id H1.out
  go_wp2_with fail
  refine (HIO.out _ H1.out.be).mono ?_
  rintro e w2 ⟨rfl,hb1⟩
  have H2:=Lib.hid (H1.out.below hb1)
  clear hb1 q0 q1 z0 z1 f0 f1 q2 z2
  obtain ⟨q0,q1,z0,z1,f0,f1,q2,z2,-⟩:=id H2.out
  go_wp2
  refine bodyPost_ret (v:=.tuple #[.agg #[.int .i64 0,.slice none 0 0],.bool false]) (by simp [results,Tryz.results80,go_sem,z0,z1]) rfl ?_
  rw [HN.out]
  exact ⟨H2.out.zero,rfl⟩
 have HY:Hid (rnmF x l=some ⟨x.size,renL x (l.map Int.toNat)⟩):=rnmF_yes (by rw [HOB.out,h3])
 obtain ⟨p1,p2⟩:=permB_nm h3
 rw [h3] at HIO
 obtain ⟨bn,on,-,rfl,-,-,-⟩:=(inI_sl HIL.out).at_ (k:=0) (by omega)
 have HRN:Hid (∀W,Below w.heap.size w W→Calls Tryz.prog 169 #[.agg #[.int .i64 x.size,.slice B x.wins.length d],.slice (some ⟨bn,on,none⟩) l.length c] W fun e w'=>∃v',e=.returned v'∧OwT w' W.heap.size w'.heap.size v' ⟨x.size,renL x (l.map Int.toNat)⟩∧Below W.heap.size W w'):=fun W hW=>by
  have g1:SlI W (some ⟨bn,on,none⟩) (nI (l.map Int.toNat)):=by rw [p1];exact (inI_sl HIL.out).below hW
  have g2:(l.map Int.toNat).length=x.wins.length:=by rw [List.length_map];exact hlx
  have g3:∀i,(l.map Int.toNat).getD i 0<x.wins.length:=fun i=>by rw [←hlx];exact p2 i hpos
  have g4:x.wins.length≤c∧c≤9223372036854775807:=by rw [←hlx];exact ⟨hc,hcm⟩
  rw [hlx]
  exact renamed_any _ x (l.map Int.toNat) bn on c W (HIT.out.below hW) HT1.out g1 g2 g3 g4
 clear h1 h2 h3 t1 t2 t3 t4 hlx hn8 p1 p2 HOB
 go_enter Tryz.func80,Tryz.ntmps80
 go_wp2_with fail
 refine (HTO.out _ H0.out.be).mono ?_
 rintro e w1 ⟨rfl,hb1⟩
 have H1:=Lib.hid (H0.out.below hb1)
 clear hb1
 obtain ⟨q0,q1,z0,z1,f0,f1,q2,z2,-⟩:=id H1.out
 go_wp2_with fail
 refine (HIO.out _ H1.out.be).mono ?_
 rintro e w2 ⟨rfl,hb1⟩
 have H2:=Lib.hid (H1.out.below hb1)
 clear hb1 q0 q1 z0 z1 f0 f1 q2 z2
 obtain ⟨q0,q1,z0,z1,f0,f1,q2,z2,-⟩:=id H2.out
 go_wp2_with fail
 refine (HRN.out _ H2.out.be).mono ?_
 rintro e w9 ⟨v9,rfl,ho9,hb9⟩
 have H9:=Lib.hid (H2.out.below hb9)
 obtain ⟨A9,c9,rfl,hst9,hbe9⟩:=H9.out.store z2 ho9
 have HST9:=Lib.hid (And.intro hst9 hbe9)
 clear hb9 ho9 hst9 hbe9 q0 q1 z0 z1 f0 f1 q2 z2
 obtain ⟨q0,q1,z0,z1,f0,f1,q2,z2,-⟩:=id H9.out
 go_wp2
 refine bodyPost_ret (v:=.tuple #[.agg #[.int .i64 x.size,.slice A9 (renL x (l.map Int.toNat)).length c9],.bool true]) (by simp [results,Tryz.results80,go_sem,z0,z1]) rfl ?_
 rw [HY.out]
 exact ⟨HST9.out.2,_,rfl,HST9.out.1⟩
def strR (L:List (List Int)) (xs:List Int):List Int:=L.foldl (fun ys g=>flipW ys (g.getD 0 0).toNat (g.getD 1 0).toNat) xs
def strF (x:TourV) (l:List Int):Option TourV:=if orderB x l then some ⟨x.size,strR (backL x.wins l x.wins.length x.wins.length) x.wins⟩ else none
theorem strR_len:∀(L:List (List Int)) (xs:List Int),(strR L xs).length=xs.length
 | [],_=>rfl
 | g :: L,xs=>by
  show (strR L (flipW xs _ _)).length=_
  rw [strR_len L,flipW_length]
theorem flipW_bd {xs:List Int}{a b:Nat} (h:∀y∈xs,0≤y∧y≤255) (ha:a<8) (hb:b<8):∀y∈flipW xs a b,0≤y∧y≤255:=by
 have hd:∀i,0≤xs.getD i 0∧xs.getD i 0≤255:=fun i=>by
  rw [List.getD_eq_getElem?_getD]
  cases e:xs[i]? with
  | none=>simp
  | some y=>exact h y (List.mem_of_getElem? e)
 intro y hy
 unfold flipW at hy
 rcases List.mem_or_eq_of_mem_set hy with h1|h1
 ·rcases List.mem_or_eq_of_mem_set h1 with h2|h2
  ·exact h y h2
  ·rw [h2];exact xorN_bd (hd a).1 (hd a).2 hb
 ·rw [h1];exact xorN_bd (hd b).1 (hd b).2 ha
theorem strR_bd:∀(L:List (List Int)) (xs:List Int),(∀g∈L,(g.getD 0 0).toNat<8∧(g.getD 1 0).toNat<8)→(∀y∈xs,0≤y∧y≤255)→∀y∈strR L xs,0≤y∧y≤255
 | [],_,_,h=>h
 | g :: L,_xs,hg,h=>strR_bd L _ (fun g hm=>hg g (List.mem_cons_of_mem _ hm)) (flipW_bd h (hg g (List.mem_cons_self ..)).1 (hg g (List.mem_cons_self ..)).2)
theorem strR_take (L:List (List Int)) (xs:List Int) (k:Nat) (g:List Int) (h:L[k]? = some g):strR (L.take (k+1)) xs=flipW (strR (L.take k) xs) (g.getD 0 0).toNat (g.getD 1 0).toNat:=by
 rw [List.take_add_one,h]
 simp [strR,List.foldl_append]
theorem RzAt.put {w W:World}{y0 y1 v0 v1:Value} (h:RzAt w W y0 y1):
  RzAt w ((W.setCell ⟨w.heap.size,0,none⟩ v0).setCell ⟨w.heap.size,1,none⟩ v1) v0 v1∧Keep w.heap.size (w.heap.size+1) W ((W.setCell ⟨w.heap.size,0,none⟩ v0).setCell ⟨w.heap.size,1,none⟩ v1):=by
 have KP:Keep w.heap.size (w.heap.size+1) W ((W.setCell ⟨w.heap.size,0,none⟩ v0).setCell ⟨w.heap.size,1,none⟩ v1):=((Keep.refl _ _ _).setCell (p:=⟨w.heap.size,0,none⟩) (Nat.le_refl _) (Nat.lt_succ_self _) _).setCell (p:=⟨w.heap.size,1,none⟩) (Nat.le_refl _) (Nat.lt_succ_self _) _
 refine ⟨⟨(World.cell?_setCell_other _ _ _ _ (by intro e;simp at e)).trans (World.cell?_setCell_same _ _ _ h.q0),World.cell?_setCell_same _ _ _ ((World.cell?_setCell_other _ _ _ _ (by intro e;simp at e)).trans h.q1),
  (KP.cell (p:=⟨w.heap.size+1,0,none⟩) h.z2 (.inr (Nat.le_refl _))).trans h.z0,(KP.cell (p:=⟨w.heap.size+1,1,none⟩) h.z2 (.inr (Nat.le_refl _))).trans h.z1,
  (KP.frozen (p:=⟨w.heap.size+1,0,none⟩) h.z2 (.inr (Nat.le_refl _))).trans h.f0,(KP.frozen (p:=⟨w.heap.size+1,1,none⟩) h.z2 (.inr (Nat.le_refl _))).trans h.f1,Nat.lt_of_lt_of_le h.q2 KP.size,Nat.lt_of_lt_of_le h.z2 KP.size,h.be.trans (KP.below (Nat.le_refl _) h.be.size)⟩,KP⟩
structure StAt (w W:World) (sz:Int) (A:Option Addr) (n d:Nat) (xs:List Int) (gv:Value) (L:List (List Int)) (lo hi:Nat):Prop where
 rz:RzAt w W (.int .i64 sz) (.slice A n d)
 e0:W.frozen? ⟨w.heap.size,0,none⟩=false
 e1:W.frozen? ⟨w.heap.size,1,none⟩=false
 it:InT W (.agg #[.int .i64 sz,.slice A n d]) ⟨sz,xs⟩
 gm:OwS W lo hi gv L
 glo:w.heap.size+2≤lo
theorem StAt.next {w W W2:World}{sz:Int}{A A2:Option Addr}{n d d2:Nat}{xs xs2:List Int}{gv:Value}{L:List (List Int)}{lo hi:Nat} (h:StAt w W sz A n d xs gv L lo hi) (hb:Below W.heap.size W W2)
  (ho:OwT W2 W.heap.size W2.heap.size (.agg #[.int .i64 sz,.slice A2 n d2]) ⟨sz,xs2⟩):
  StAt w ((W2.setCell ⟨w.heap.size,0,none⟩ (.int .i64 sz)).setCell ⟨w.heap.size,1,none⟩ (.slice A2 n d2)) sz A2 n d2 xs2 gv L lo hi:=by
 have r2:=h.rz.below hb
 obtain ⟨r3,kp⟩:=r2.put (v0:=.int .i64 sz) (v1:=.slice A2 n d2)
 have hg:=h.glo
 have hz:=h.rz.z2
 have kz:Keep 0 0 W W2:=Keep.of_below hb (Nat.le_refl _)
 have e0:W2.frozen? ⟨w.heap.size,0,none⟩=false:=(kz.frozen (p:=⟨w.heap.size,0,none⟩) h.rz.q2 (.inr (Nat.zero_le _))).trans h.e0
 have e1:W2.frozen? ⟨w.heap.size,1,none⟩=false:=(kz.frozen (p:=⟨w.heap.size,1,none⟩) h.rz.q2 (.inr (Nat.zero_le _))).trans h.e1
 exact ⟨r3,by simpa using e0,by simpa using e1,(ho.keep kp (.inr (by omega))).in_,(h.gm.grow hb).keep kp (.inr (by omega)),hg⟩
theorem backL_mem {x:TourV}{l g:List Int} (hok:tourB x=true) (h:g∈backL x.wins l x.wins.length x.wins.length):∃a b:Nat,g = [(a:Int),(b:Int)]∧a<x.wins.length∧b<x.wins.length∧a≠b:=by
 obtain ⟨_,_,_,_,t5⟩:=tourB_t hok
 unfold backL at h
 obtain ⟨a,ha,h⟩:=List.mem_flatMap.1 h
 unfold backR at h
 obtain ⟨b,hb,rfl⟩:=List.mem_map.1 h
 obtain ⟨hb1,hb2⟩:=List.mem_filter.1 hb
 refine ⟨a,b,rfl,List.mem_range.1 ha,List.mem_range.1 hb1,fun e=>?_⟩
 subst e
 have h1:=t5 a (List.mem_range.1 ha)
 unfold rowB at h1
 rw [Bool.and_eq_true] at h1
 unfold backP at hb2
 rw [Bool.and_eq_true] at hb2
 have h3:=h1.2
 simp only [hb2.1] at h3
 cases h3
end Go.Proofs.YtkapoldjcpfdgaaGreatDoor
