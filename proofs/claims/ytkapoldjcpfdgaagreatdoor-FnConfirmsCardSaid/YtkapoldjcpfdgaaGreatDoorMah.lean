/- Kings: both packages' contracts. -/
import Derived.Test.YtkapoldjcpfdgaaGreatDoorMag
set_option maxHeartbeats 4000000
set_option maxRecDepth 100000
namespace Go.Proofs.YtkapoldjcpfdgaaGreatDoor
open Go.ChangeShapes Go.WideShapes Go.ChangeAt Go.RowKit
theorem natBeq (a b:Nat):((a:Int)==(b:Int))=decide (a=b):=by
 by_cases h:a=b
 ·subst h;simp
 ·rw [decide_eq_false h];exact beq_eq_false_iff_ne.2 (by omega)
theorem wrapT {T:Nat} (h1:1≤T) (h2:T≤256):wrap64 (T:Int)=T∧wrap64 ((T:Int)-1)=T-1:=⟨by unfold wrap64;omega,by unfold wrap64;omega⟩
theorem implIsKing_any (v:Value) (x:TourV) (a:Nat) (w:World) (hs:InT w v x) (hok:tourB x=true) (ha:a<x.wins.length):
  Calls Tryz.prog 332 #[v,.int .i64 (a:Int)] w fun e w'=>e=.returned (.bool (kingB x a))∧Below w.heap.size w w':=by
 have HIT:=Lib.hid hs
 have HOK:=Lib.hid hok
 obtain ⟨u,rfl,A,c,rfl,hc,hm,hsl⟩:=hs
 obtain ⟨t1,t2,t3,_,_⟩:=tourB_t hok
 have hn8:x.wins.length≤8:=by omega
 obtain ⟨bk,off,rfl,hlt,hcell⟩:=win_cells hok hsl
 have HC:=Lib.hid (And.intro hlt hcell)
 have h256:(2:Nat)^x.wins.length≤256:=Nat.pow_le_pow_right (by omega) hn8
 have hpos:1≤(2:Nat)^x.wins.length:=Nat.one_le_two_pow
 have hT2:(2:Int)^x.wins.length=((2^x.wins.length:Nat):Int):=by rw [Int.natCast_pow];rfl
 have HSZ:Hid (x.size=(x.wins.length:Int)):=t3.symm
 have HW:Hid (∀b,winN x b<256):=fun b=>Nat.lt_of_lt_of_le (win_all hok b) h256
 have hQ256:2^a<256:=by
  have h:∀a:Fin 8,2^a.val<256:=by decide
  exact h ⟨a,by omega⟩
 have hor:=or_small hQ256 (HW.out a)
 have HNE:Hid (nearF x a=orM x (2^a ||| winN x a) (memL (winN x a))):=by show _=_;rfl
 have HBX:Hid (Bx (w.alloc (.cells #[.int .i64 (x.wins.length:Int),.slice (some ⟨bk,off,none⟩) x.wins.length c] 27)) w.heap.size (.int .i64 (x.wins.length:Int)) (.slice (some ⟨bk,off,none⟩) x.wins.length c)∧Below w.heap.size w (w.alloc (.cells #[.int .i64 (x.wins.length:Int),.slice (some ⟨bk,off,none⟩) x.wins.length c] 27))):=⟨⟨by simp,by simp,by simp⟩,(Below.refl _ w).alloc (Nat.le_refl _) _⟩
 have HKB:Hid (kingB x a=decide (nearF x a=2^x.wins.length-1)):=rfl
 obtain ⟨T,HT⟩:∃T:Nat,Hid (2^x.wins.length=T):=⟨_,rfl⟩
 rw [HT.out] at h256 hpos hT2 HKB
 have HET:=Lib.hid (And.intro hT2 (wrapT hpos h256))
 clear hT2
 have hsh:IntKind.i64.wrap ((2:Int)^a)=((2^a:Nat):Int):=by
  have h:∀k:Fin 8,IntKind.i64.wrap ((2:Int)^k.val)=((2^k.val:Nat):Int):=by decide +kernel
  exact h ⟨a,by omega⟩
 obtain ⟨Q,hQ⟩:∃Q:Nat,2^a=Q:=⟨_,rfl⟩
 rw [hQ] at hor hsh hQ256 HNE
 have HWA:Hid (winN x a<256):=HW.out a
 have ha64:(a:Int)<64:=by omega
 have hal:(a:Int)<x.wins.length:=by omega
 have hne:¬bk=w.heap.size:=by omega
 have qa:=hcell a ha
 obtain ⟨WA,HWE⟩:∃WA,Hid (winN x a=WA):=⟨_,rfl⟩
 rw [HWE.out] at hor HNE HWA qa
 obtain ⟨O,hO⟩:∃O:Nat,Q ||| WA=O:=⟨_,rfl⟩
 rw [hO] at hor HNE
 have HO256:Hid (O<256):=by show _<_;rw [←hO];exact Nat.or_lt_two_pow (n:=8) hQ256 HWA.out
 rw [HSZ.out]
 clear hQ hO hsl hok hcell t1 t2 t3
 go_enter Tryz.func332,Tryz.ntmps332
 go_wp2_with fail
 go_quiet (fail)
 rename_i nq
 have H1:Hid (Bx ((w.alloc (.cells #[.int .i64 (x.wins.length:Int),.slice (some ⟨bk,off,none⟩) x.wins.length c] 27)).drewN nq) w.heap.size (.int .i64 (x.wins.length:Int)) (.slice (some ⟨bk,off,none⟩) x.wins.length c)∧Below w.heap.size w ((w.alloc (.cells #[.int .i64 (x.wins.length:Int),.slice (some ⟨bk,off,none⟩) x.wins.length c] 27)).drewN nq)):=⟨HBX.out.1.below (below_drewN (Below.refl _ _) _),below_drewN HBX.out.2 _⟩
 generalize ((w.alloc (.cells #[.int .i64 (x.wins.length:Int),.slice (some ⟨bk,off,none⟩) x.wins.length c] 27)).drewN nq)=w1 at *
 clear qa hor hsh hne HBX hlt
 have qa:w1.cell? ⟨bk,off+a,none⟩=some (.int .i64 (WA:Int)):=by rw [←HWE.out];exact (H1.out.2.cell (p:=⟨bk,off+a,none⟩) HC.out.1).trans (HC.out.2 a ha)
 obtain ⟨q0,q1,-⟩:=id H1.out.1
 go_wp2_with (go_at_call 153;refine (membersOf_any WA _ HWA.out).mono ?_;rintro e w2 ⟨v2,rfl,hf,hb⟩;have H2:Hid (Bx w2 w.heap.size (.int .i64 (x.wins.length:Int)) (.slice (some ⟨bk,off,none⟩) x.wins.length c)∧Below w.heap.size w w2∧InI w2 v2 (memL WA)):=⟨H1.out.1.below hb,H1.out.2.trans (hb.mono H1.out.2.size),hf.in_⟩;obtain ⟨A3,c3,rfl,-⟩:=hf.in_;clear hb hf)
 clear q0 q1 qa
 go_loop [5,23] (fun g i=>∃(j:Nat),j≤(memL WA).length∧i=.int .i64 j∧g=.int .i64 (orM x O ((memL WA).take j):Nat)) (fun _ i=>(memL WA).length-(intOf i).toNat)
 case atStart=>exact ⟨0,Nat.zero_le _,rfl,rfl⟩
 case round=>
  obtain ⟨j,hj,rfl,rfl⟩:=hrel
  have ho256:orM x O ((memL WA).take j)<256:=orM_lt (n:=8) HW.out _ _ HO256.out
  have hjm:(memL WA).length≤8:=by rw [memL_len];exact cntL_le _
  obtain ⟨q0,q1,-⟩:=id H2.out.1
  by_cases hlt2:j<(memL WA).length
  case pos=>
   obtain ⟨A4,c4,e4,_,_,hsl4⟩:=H2.out.2.2
   injection e4 with e4 _ e5;subst e4;subst e5
   obtain ⟨b3,o3,y,rfl,ey,qy,_⟩:=hsl4.at_ (k:=j) hlt2
   obtain ⟨b,rfl,hb8,hbit⟩:=memT_mem.1 (List.mem_of_getElem? ey)
   have hbn:b<x.wins.length:=by
    rw [←HWE.out] at hbit
    exact bit_in (win_all HOK.out a) hbit
   have HX:=Lib.hid (orM_snoc (x:=x) (s:=O) ey)
   rw [Int.toNat_natCast] at HX
   have hbl:(b:Int)<x.wins.length:=by omega
   have q:w2.cell? ⟨bk,off+b,none⟩=some (.int .i64 (winN x b:Nat)):=(H2.out.2.1.cell (p:=⟨bk,off+b,none⟩) HC.out.1).trans (HC.out.2 b hbn)
   have hw256:=HW.out b
   have hor:=or_small ho256 hw256
   clear hsl4 ey hbit
   generalize orM x O ((memL WA).take j)=G at *
   generalize winN x b=WB at *
   go_wp2
   exact ⟨⟨j+1,by omega,by go_num,by rw [HX.out]⟩,by simp [intOf];omega⟩
  case neg=>
   obtain rfl:j=(memL WA).length:=by omega
   have HE:Hid (orM x O ((memL WA).take (memL WA).length)=nearF x a):=by show _=_;rw [List.take_length,HNE.out]
   rw [HE.out] at ho256 ⊢
   obtain ⟨G,HG⟩:∃G,Hid (nearF x a=G):=⟨_,rfl⟩
   rw [HG.out] at ho256 HKB ⊢
   obtain ⟨hT2,eT,eT1⟩:=id HET.out
   by_cases hk:(G:Int)=(T:Int)-1
   ·go_wp2
    go_ret
    exact ⟨ret_bool (by rw [HKB.out];exact (decide_eq_true (by omega)).symm),H2.out.2.1⟩
   ·go_wp2
    go_ret
    exact ⟨ret_bool (by rw [HKB.out,decide_eq_false (by omega)];exact beq_eq_false_iff_ne.2 hk),H2.out.2.1⟩
theorem add_or8 {v b:Nat} (hb:b<8) (hv:v<2^b):v+2^b=v ||| 2^b:=by
 have h256:(2:Nat)^b≤256:=Nat.pow_le_pow_right (by omega) (show b≤8 by omega)
 exact add_or ⟨b,hb⟩ ⟨v,by omega⟩ hv
theorem implKings_any (v:Value) (x:TourV) (w:World) (hs:InT w v x) (hok:tourB x=true):
  Calls Tryz.prog 257 #[v] w fun e w'=>e=.returned (.int .i64 (kingsF x:Nat))∧Below w.heap.size w w':=by
 have HIT:=Lib.hid hs
 have HOK:=Lib.hid hok
 obtain ⟨u,rfl,A,c,rfl,hc,hm,hsl⟩:=hs
 obtain ⟨t1,t2,t3,_,_⟩:=tourB_t hok
 have hn8:x.wins.length≤8:=by omega
 have HSZ:Hid (x.size=(x.wins.length:Int)):=t3.symm
 have HKI:Hid (∀W (a:Nat),Below w.heap.size w W→a<x.wins.length→Calls Tryz.prog 332 #[.agg #[.int .i64 x.size,.slice A x.wins.length c],.int .i64 (a:Int)] W fun e w'=>e=.returned (.bool (kingB x a))∧Below W.heap.size W w'):=fun W a hW ha=>implIsKing_any _ x a W (HIT.out.below hW) HOK.out ha
 rw [HSZ.out] at HKI
 rw [HSZ.out]
 have HBX:Hid (Bx (w.alloc (.cells #[.int .i64 (x.wins.length:Int),.slice A x.wins.length c] 27)) w.heap.size (.int .i64 (x.wins.length:Int)) (.slice A x.wins.length c)∧Below w.heap.size w (w.alloc (.cells #[.int .i64 (x.wins.length:Int),.slice A x.wins.length c] 27))):=⟨⟨by simp,by simp,by simp⟩,(Below.refl _ w).alloc (Nat.le_refl _) _⟩
 clear hsl hok t1 t2 t3
 go_enter Tryz.func257,Tryz.ntmps257
 go_wp2
 go_loopw [3,7] (fun g i wr=>∃(j:Nat),j≤x.wins.length∧i=.int .i64 j∧g=.int .i64 (kgT x j:Nat)∧Hid (Bx wr w.heap.size (.int .i64 (x.wins.length:Int)) (.slice A x.wins.length c)∧Below w.heap.size w wr)) (fun _ i _=>x.wins.length-(intOf i).toNat)
 case atStart=>exact ⟨0,Nat.zero_le _,rfl,rfl,HBX.out⟩
 case round=>
  obtain ⟨j,hj,rfl,rfl,HR⟩:=hrel
  clear HBX
  by_cases hlt:j<x.wins.length
  case neg=>
   obtain rfl:j=x.wins.length:=by omega
   have HE:Hid (kingsF x=kgT x x.wins.length):=rfl
   go_wp2
   go_ret
   exact ⟨by rw [HE.out];rfl,HR.out.2⟩
  obtain ⟨q0,q1,q2⟩:=id HR.out.1
  have HS:=Lib.hid (HKI.out wr j HR.out.2 hlt)
  have hkl:=kgT_lt x j
  have hQ128:(2:Nat)^j≤128:=by
   have h:∀b:Fin 8,(2:Nat)^b.val≤128:=by decide
   exact h ⟨j,by omega⟩
  have hk256:kgT x j<256:=by omega
  have hQ256:2^j<256:=by omega
  have hsh:=pow_lt8 (a:=j) (by omega)
  have hj64:(j:Int)<64:=by omega
  have hop:=or_small hk256 hQ256
  cases hkb:kingB x j
  ·have HX:Hid (kgT x (j+1)=kgT x j):=by show _=_;rw [kgT,hkb];rfl
   rw [hkb] at HS
   clear hkb hkl hop hsh hQ128 hQ256
   go_wp2_with (go_at_call 332;refine HS.out.mono ?_;rintro e w2 ⟨rfl,hb⟩;have H2:Hid (Bx w2 w.heap.size (.int .i64 (x.wins.length:Int)) (.slice A x.wins.length c)∧Below w.heap.size w w2):=(show _∧_ from ⟨HR.out.1.below hb,HR.out.2.trans (hb.mono HR.out.2.size)⟩);clear hb q0 q1 q2)
   go_roundw
   case rel=>exact ⟨j+1,by omega,by go_num,by rw [HX.out],H2.out⟩
   case measure=>simp [intOf];omega
  ·rw [hkb] at HS
   have HX:Hid (kgT x (j+1)=kgT x j ||| 2^j):=by show _=_;rw [kgT,hkb,if_pos rfl,add_or8 (by omega) hkl]
   clear hkb hkl
   obtain ⟨Q,hQ⟩:∃Q:Nat,2^j=Q:=⟨_,rfl⟩
   rw [hQ] at HX hsh hQ256 hQ128 hop
   generalize kgT x j=K at *
   clear hQ
   go_wp2_with (go_at_call 332;refine HS.out.mono ?_;rintro e w2 ⟨rfl,hb⟩;have H2:Hid (Bx w2 w.heap.size (.int .i64 (x.wins.length:Int)) (.slice A x.wins.length c)∧Below w.heap.size w w2):=(show _∧_ from ⟨HR.out.1.below hb,HR.out.2.trans (hb.mono HR.out.2.size)⟩);clear hb q0 q1 q2)
   go_roundw
   case rel=>exact ⟨j+1,by omega,by go_num,by rw [HX.out];try go_num,H2.out⟩
   case measure=>simp [intOf];omega
theorem implKingsOf_any (v:Value) (x:TourV) (w:World) (hs:InT w v x) (hok:tourB x=true):
  Calls Tryz.prog 173 #[v] w fun e w'=>e=.returned (.int .i64 (kingsF x:Nat))∧Below w.heap.size w w':=by
 have HIT:=Lib.hid hs
 have HOK:=Lib.hid hok
 obtain ⟨u,rfl,A,c,rfl,hc,hm,hsl⟩:=hs
 have HTO:Hid (∀W,Below w.heap.size w W→Calls Tryz.prog 148 #[.agg #[.int .i64 x.size,.slice A x.wins.length c]] W fun e w'=>e=.returned (.bool true)∧Below W.heap.size W w'):=fun W hW=>by
  have h:=implTourOk_any _ x W (HIT.out.below hW)
  rwa [HOK.out] at h
 have HKI:Hid (∀W,Below w.heap.size w W→Calls Tryz.prog 257 #[.agg #[.int .i64 x.size,.slice A x.wins.length c]] W fun e w'=>e=.returned (.int .i64 (kingsF x:Nat))∧Below W.heap.size W w'):=fun W hW=>implKings_any _ x W (HIT.out.below hW) HOK.out
 have HBX:Hid (Bx (w.alloc (.cells #[.int .i64 x.size,.slice A x.wins.length c] 27)) w.heap.size (.int .i64 x.size) (.slice A x.wins.length c)∧Below w.heap.size w (w.alloc (.cells #[.int .i64 x.size,.slice A x.wins.length c] 27))):=⟨⟨by simp,by simp,by simp⟩,(Below.refl _ w).alloc (Nat.le_refl _) _⟩
 clear hsl hok
 go_enter Tryz.func173,Tryz.ntmps173
 go_wp2_with (first
  | (go_at_call 148;refine (HTO.out _ HBX.out.2).mono ?_;rintro e w0 ⟨rfl,hb⟩;have H0:Hid (Bx w0 w.heap.size (.int .i64 x.size) (.slice A x.wins.length c)∧Below w.heap.size w w0):=(show _∧_ from ⟨HBX.out.1.below hb,HBX.out.2.trans (hb.mono HBX.out.2.size)⟩);clear hb HBX;obtain ⟨q0,q1,q2⟩:=id H0.out.1)
  | (go_at_call 257;refine (HKI.out _ H0.out.2).mono ?_;rintro e w1 ⟨rfl,hb⟩;have H1:Hid (Below w.heap.size w w1):=H0.out.2.trans (hb.mono H0.out.2.size);clear hb))
 go_ret
 exact ⟨rfl,H1.out⟩
end Go.Proofs.YtkapoldjcpfdgaaGreatDoor
