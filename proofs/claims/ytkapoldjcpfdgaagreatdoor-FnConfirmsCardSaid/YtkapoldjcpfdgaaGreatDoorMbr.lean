/- The console's closures that show something of the tour: the program's. -/
import Derived.Test.YtkapoldjcpfdgaaGreatDoorMbo
import Derived.Test.YtkapoldjcpfdgaaGreatDoorMbq
set_option maxHeartbeats 4000000
set_option maxRecDepth 100000
namespace Go.Proofs.YtkapoldjcpfdgaaGreatDoor
open Go.ChangeShapes Go.WideShapes Go.ChangeAt Go.RowKit
theorem partIn {w:World}{lo hi:Nat}{v:Value}{x:TourV}{s:Nat} (h:Fr w lo hi v (pwL x (memL s))):InT w (.agg #[.int .i64 ((memL s).length:Int),v]) (partV x s)∧∃A c,v=.slice A (memL s).length c:=by
 obtain ⟨A,c,e,-⟩:=h.form
 exact ⟨⟨v,rfl,h.in_⟩,A,c,by rw [e,pwL_len]⟩
theorem isTransitiveOn_any (v:Value) (x:TourV) (s:Nat) (w:World) (hs:InT w v x) (hok:tourB x=true) (h0:s≠0) (hsl:s<2^x.wins.length):
  Calls Tryz.prog 258 #[v,.int .i64 (s:Int)] w fun e w'=>e=.returned (.bool (transN x s))∧Below w.heap.size w w':=by
 have HIT:=Lib.hid hs
 have HOK:=Lib.hid hok
 have HPO:=Lib.hid (part_ok hok h0 hsl)
 obtain ⟨u,rfl,A,c,rfl,hc,hm,-⟩:=hs
 have HB0:Hid (Below w.heap.size w (w.alloc (.cells #[.int .i64 x.size,.slice A x.wins.length c] 27))):=(Below.refl _ w).alloc (Nat.le_refl _) _
 have HPT:Hid (∀W,Below w.heap.size w W→Calls Tryz.prog 70 #[.agg #[.int .i64 x.size,.slice A x.wins.length c],.int .i64 (s:Int)] W fun e w'=>∃v',e=.returned (.tuple #[.agg #[.int .i64 ((memL s).length:Int),v'],.bool true])∧Fr w' W.heap.size w'.heap.size v' (pwL x (memL s))∧Below W.heap.size W w'):=fun W hW=>implPartTour_any _ x s W (HIT.out.below hW) HOK.out h0 hsl
 have HTN:Hid (transN x s=decide (partN (partV x s)=(memL s).length)):=rfl
 obtain ⟨P,HP⟩:∃P,Hid (partN (partV x s)=P):=⟨_,rfl⟩
 rw [HP.out] at HTN
 obtain ⟨k,HK⟩:∃k,Hid ((memL s).length=k):=⟨_,rfl⟩
 rw [HK.out] at HPT HTN
 clear hsl hok hm
 go_enter Tryz.func258,Tryz.ntmps258
 go_wp2_with (go_at_call 70;refine (HPT.out _ HB0.out).mono ?_;rintro e w1 ⟨v1,rfl,hf,hb⟩;have hin:=partIn hf;rw [HK.out] at hin;obtain ⟨hin,A1,c1,rfl⟩:=hin;have H1:=Lib.hid (And.intro hin (HB0.out.trans (hb.mono HB0.out.size)));clear hf hb hin)
 have hal:Below w1.heap.size w1 (w1.alloc (.cells #[.int .i64 (k:Int),.slice A1 k c1] 27)):=(Below.refl _ w1).alloc (Nat.le_refl _) _
 have H2:Hid (InT (w1.alloc (.cells #[.int .i64 (k:Int),.slice A1 k c1] 27)) (.agg #[.int .i64 (k:Int),.slice A1 k c1]) (partV x s)∧Below w.heap.size w (w1.alloc (.cells #[.int .i64 (k:Int),.slice A1 k c1] 27))∧Bx (w1.alloc (.cells #[.int .i64 (k:Int),.slice A1 k c1] 27)) w1.heap.size (.int .i64 (k:Int)) (.slice A1 k c1)):=
  ⟨H1.out.1.below hal,H1.out.2.trans (hal.mono H1.out.2.size),⟨by simp,by simp,by simp⟩⟩
 clear hal
 generalize (w1.alloc (.cells #[.int .i64 (k:Int),.slice A1 k c1] 27))=w2 at *
 generalize w1.heap.size=b5 at *
 obtain ⟨q0,q1,q2⟩:=id H2.out.2.2
 have H3:Hid (InT w2.drew (.agg #[.int .i64 (k:Int),.slice A1 k c1]) (partV x s)∧Below w.heap.size w w2.drew∧Bx w2.drew b5 (.int .i64 (k:Int)) (.slice A1 k c1)):=⟨H2.out.1.below (below_drewL (Below.refl _ _)),below_drewL H2.out.2.1,H2.out.2.2.drew⟩
 go_region_held3 (fun W=>W.cell? ⟨b5,0,none⟩=some (.int .i64 (k:Int))∧W.cell? ⟨b5,1,none⟩=some (.slice A1 k c1)) (first|exact ⟨q0,q1⟩|exact ⟨H4.out.2.1,H4.out.2.2.1⟩) (first
  | (go_at_call 256;refine (implParts_any _ (partV x s) _ H3.out.1 HPO.out).mono ?_;rintro e w4 ⟨v4,L4,rfl,hf,hl,hb⟩;have H4:Hid (Below w.heap.size w w4∧Bx w4 b5 (.int .i64 (k:Int)) (.slice A1 k c1)):=(show _∧_ from ⟨H3.out.2.1.trans (hb.mono H3.out.2.1.size),H3.out.2.2.below hb⟩);obtain ⟨A4,c4,rfl,-⟩:=hf.form;rw [hl,HP.out];clear hf hl hb))
 go_wp2
 go_ret
 exact ⟨ret_bool (by rw [HTN.out];exact natBeq _ _),H4.out.1⟩
theorem topT_stop {x:TourV}{s n:Nat} (hs:s<2^n):∀k,n≤k→topT x s k=topT x s n:=by
 intro k hk
 induction k with
 | zero=>
  obtain rfl:n=0:=by omega
  rfl
 | succ k ih=>
  rcases Nat.eq_or_lt_of_le hk with rfl|h
  ·rfl
  ·rw [topT,Nat.testBit_lt_two_pow (Nat.lt_of_lt_of_le hs (Nat.pow_le_pow_right (by omega) (show n≤k by omega)))]
   exact ih (by omega)
theorem wrapTi {T:Nat} (h2:T≤256):IntKind.i64.wrap (T:Int)=T:=by rw [IntKind.wrap_i64];omega
def cellN (w:World) (v:Value):Nat:=match v with
 | .pointer (some a)=>match w.cell? a with
  | some (.int _ k)=>k.toNat
  | _=>0
 | _=>0
theorem cellN_eq {w:World}{g s:Nat} (h:w.cell? ⟨g,0,none⟩=some (.int .i64 (s:Int))):cellN w (.pointer (some ⟨g,0,none⟩))=s:=by
 unfold cellN
 simp [h]
theorem bkT_skip {x:TourV}{s:Nat} (h:¬(transN x s=true∧covT x s x.wins.length=false)):bkT x (s+1)=bkT x s:=by
 rw [bkT,if_neg (fun h2=>h h2.2)]
theorem bkT_take {x:TourV}{s:Nat} (h0:s≠0) (h1:transN x s=true) (h2:covT x s x.wins.length=false):bkT x (s+1)=bkT x s ||| topT x s x.wins.length:=by
 rw [bkT,if_pos ⟨h0,h1,h2⟩]
theorem banks1_any (y:Int) (s g:Nat) (W:World) (hg:W.cell? ⟨g,0,none⟩=some (.int .i64 (s:Int))):
  Calls Tryz.prog 260 #[.int .i64 y,.pointer (some ⟨g,0,none⟩)] W fun e w'=>e=.returned (.bool (bits BinOp.and IntKind.i64 y (s:Int)==(s:Int)))∧w'=W:=by
 go_enter Tryz.func260,Tryz.ntmps260
 go_wp2
 go_ret
 exact ⟨rfl,rfl⟩
structure BqAt (w wr:World) (x:TourV) (A:Option Addr) (c g s:Nat):Prop where
 cs:wr.cell? ⟨g,0,none⟩=some (.int .i64 (s:Int))
 cf:wr.frozen? ⟨g,0,none⟩=false
 gl:w.heap.size<g
 gh:g<wr.heap.size
 bx:Bx wr w.heap.size (.int .i64 (x.wins.length:Int)) (.slice A x.wins.length c)
 be:Below w.heap.size w wr
theorem BqAt.below {w wr w2:World}{x:TourV}{A:Option Addr}{c g s:Nat} (h:BqAt w wr x A c g s) (hb:Below wr.heap.size wr w2):BqAt w w2 x A c g s:=by
 have kz:Keep 0 0 wr w2:=Keep.of_below hb (Nat.le_refl _)
 exact ⟨(hb.cell (p:=⟨g,0,none⟩) h.gh).trans h.cs,(kz.frozen (p:=⟨g,0,none⟩) h.gh (.inr (Nat.zero_le _))).trans h.cf,h.gl,Nat.lt_of_lt_of_le h.gh hb.size,h.bx.below hb,h.be.trans (hb.mono h.be.size)⟩
theorem BqAt.fresh {w wr:World}{x:TourV}{A:Option Addr}{c:Nat} (s:Nat) (hbx:Bx wr w.heap.size (.int .i64 (x.wins.length:Int)) (.slice A x.wins.length c)) (hbe:Below w.heap.size w wr):BqAt w (wr.alloc (.cells #[.int .i64 (s:Int)] 3)) x A c wr.heap.size s:=by
 have hal:Below wr.heap.size wr (wr.alloc (.cells #[.int .i64 (s:Int)] 3)):=(Below.refl _ wr).alloc (Nat.le_refl _) _
 exact ⟨by simp,by rw [frozen?_alloc_cells];simp [World.frozen?],hbx.2.2,by simp,hbx.below hal,hbe.trans (hal.mono hbe.size)⟩
theorem bkTurn {w w4:World}{x:TourV}{A:Option Addr}{c g s:Nat} (h:BqAt w w4 x A c g s):BqAt w (w4.alloc (.cells #[.int .i64 ((s:Int)+1)] 3)) x A c w4.heap.size (s+1):=BqAt.fresh (s+1) h.bx h.be
theorem implBanks_any (v:Value) (x:TourV) (w:World) (hs:InT w v x) (hok:tourB x=true):
  Calls Tryz.prog 174 #[v] w fun e w'=>e=.returned (.int .i64 (banksF x:Nat))∧Below w.heap.size w w':=by
 have HIT:=Lib.hid hs
 have HOK:=Lib.hid hok
 obtain ⟨u,rfl,A,c,rfl,hc,hm,hsl⟩:=hs
 obtain ⟨t1,t2,t3,_,_⟩:=tourB_t hok
 have hn8:x.wins.length≤8:=by omega
 have h256:(2:Nat)^x.wins.length≤256:=Nat.pow_le_pow_right (by omega) hn8
 have hpos:1≤(2:Nat)^x.wins.length:=Nat.one_le_two_pow
 have hT2:(2:Int)^x.wins.length=((2^x.wins.length:Nat):Int):=by rw [Int.natCast_pow];rfl
 have HSZ:Hid (x.size=(x.wins.length:Int)):=t3.symm
 have HSL:=Lib.hid hsl
 have HW:Hid (∀b,winN x b<256):=fun b=>Nat.lt_of_lt_of_le (win_all hok b) h256
 have HTO:Hid (∀W,Below w.heap.size w W→Calls Tryz.prog 148 #[.agg #[.int .i64 x.size,.slice A x.wins.length c]] W fun e w'=>e=.returned (.bool true)∧Below W.heap.size W w'):=fun W hW=>by
  have h:=implTourOk_any _ x W (HIT.out.below hW)
  rwa [HOK.out] at h
 have HTR:Hid (∀W (s:Nat),Below w.heap.size w W→s≠0→s<2^x.wins.length→Calls Tryz.prog 258 #[.agg #[.int .i64 x.size,.slice A x.wins.length c],.int .i64 (s:Int)] W fun e w'=>e=.returned (.bool (transN x s))∧Below W.heap.size W w'):=fun W s hW h0 h1=>isTransitiveOn_any _ x s W (HIT.out.below hW) HOK.out h0 h1
 have HBF:Hid (banksF x=bkT x (2^x.wins.length)):=rfl
 have HKL:Hid (∀s:Nat,s≤2^x.wins.length→bkT x s<2^x.wins.length):=fun s hs=>bkT_lt hn8 s hs
 obtain ⟨T,HT⟩:∃T:Nat,Hid (2^x.wins.length=T):=⟨_,rfl⟩
 rw [HT.out] at h256 hpos hT2 HTR HBF HKL
 have eT:=wrapTi h256
 have HET:=Lib.hid (And.intro hT2 eT)
 clear hT2 eT
 have HBX:Hid (Bx (w.alloc (.cells #[.int .i64 (x.wins.length:Int),.slice A x.wins.length c] 27)) w.heap.size (.int .i64 (x.wins.length:Int)) (.slice A x.wins.length c)∧Below w.heap.size w (w.alloc (.cells #[.int .i64 (x.wins.length:Int),.slice A x.wins.length c] 27))):=⟨⟨by simp,by simp,by simp⟩,(Below.refl _ w).alloc (Nat.le_refl _) _⟩
 rw [HSZ.out] at HTO HTR
 rw [HSZ.out]
 clear hsl hok t1 t2 t3
 go_enter Tryz.func174,Tryz.ntmps174
 go_wp2_with (go_at_call 148;refine (HTO.out _ HBX.out.2).mono ?_;rintro e w0 ⟨rfl,hb⟩;have H0:Hid (BqAt w (w0.alloc (.cells #[.int .i64 ((1:Nat):Int)] 3)) x A c w0.heap.size 1):=BqAt.fresh 1 (HBX.out.1.below hb) (HBX.out.2.trans (hb.mono HBX.out.2.size));clear hb HBX)
 go_loopw [3,4] (fun o p wr=>∃(s g:Nat),1≤s∧s≤T∧o=.int .i64 (bkT x s:Nat)∧p=.pointer (some ⟨g,0,none⟩)∧Hid (BqAt w wr x A c g s)) (fun _ p wr=>T-cellN wr p)
 case atStart=>exact ⟨1,_,Nat.le_refl _,hpos,rfl,rfl,H0.out⟩
 case round=>
  obtain ⟨s,g,hs1,hsT,rfl,rfl,HR⟩:=hrel
  obtain ⟨wo,rfl⟩:∃W,W=wr:=⟨wr,rfl⟩
  clear H0
  have hce:=cellN_eq HR.out.cs
  have cs:=HR.out.cs
  obtain ⟨q0,q1,q2⟩:=id HR.out.bx
  by_cases hlt:s<T
  case neg=>
   obtain rfl:s=T:=by omega
   obtain ⟨hT2,eT⟩:=id HET.out
   go_wp2_with fail
   go_quiet (fail)
   go_wp2
   go_ret
   exact ⟨by rw [HBF.out];rfl,below_drewN HR.out.be _⟩
  have hlti:(s:Int)<(T:Int):=by omega
  obtain ⟨hT2,eT⟩:=id HET.out
  go_wp2_with fail
  go_quiet (fail)
  rename_i nq
  have H1:Hid (BqAt w (wo.drewN nq) x A c g s):=HR.out.below (below_drewN (Below.refl _ _) _)
  generalize wo.drewN nq=w1 at *
  have HTB:=Lib.hid (HTR.out w1 s H1.out.be (by omega) hlt)
  have hs256:s<256:=by omega
  clear cs q0 q1 q2 HR hT2 eT
  have cs:=H1.out.cs
  obtain ⟨q0,q1,q2⟩:=id H1.out.bx
  have HFI:Hid (∀w4,BqAt w w4 x A c g s→BqAt w (w4.alloc (.cells #[.int .i64 ((s:Int)+1)] 3)) x A c w4.heap.size (s+1)):=fun w4 h4=>bkTurn h4
  have HMS:Hid (∀w4,BqAt w w4 x A c g s→T-cellN (w4.alloc (.cells #[.int .i64 ((s:Int)+1)] 3)) (.pointer (some ⟨w4.heap.size,0,none⟩))<T-cellN wo (.pointer (some ⟨g,0,none⟩))):=fun w4 h4=>by rw [cellN_eq (bkTurn h4).cs,hce];omega
  cases htb:transN x s
  ·have HX:Hid (bkT x (s+1)=bkT x s):=bkT_skip (fun h=>by rw [htb] at h;cases h.1)
   rw [htb] at HTB
   clear htb
   go_wp2_with (go_at_call 258;refine HTB.out.mono ?_;rintro e w4 ⟨rfl,hb4⟩;have H4:=Lib.hid (H1.out.below hb4);clear hb4 cs q0 q1 q2;have cs:=H4.out.cs;have cf:=H4.out.cf)
   exact ⟨⟨s+1,_,by omega,by omega,by rw [HX.out],rfl,HFI.out _ H4.out⟩,HMS.out _ H4.out⟩
  ·have HCA:Hid (∀a,a<x.wins.length→(fun y:Int=>(bits BinOp.and IntKind.i64 y (s:Int)==(s:Int))) ((winN x a:Nat):Int)=decide (winN x a &&& s=s)):=fun a ha=>by
    show (bits BinOp.and IntKind.i64 ((winN x a:Nat):Int) (s:Int)==(s:Int))=_
    rw [and_small (HW.out a) hs256];exact natBeq _ _
   have HCV:Hid (x.wins.any (fun y:Int=>(bits BinOp.and IntKind.i64 y (s:Int)==(s:Int)))=covT x s x.wins.length):=by
    have h:=any_cov hs256 HW.out (fun y:Int=>(bits BinOp.and IntKind.i64 y (s:Int)==(s:Int))) HCA.out (fun a ha=>win_get HOK.out ha) x.wins.length (Nat.le_refl _)
    rwa [List.take_of_length_le (Nat.le_refl _)] at h
   have HCF:Hid (∀w4,BqAt w w4 x A c g s→Calls Tryz.prog 259 #[.slice A x.wins.length c,.func (.func 260) #[] #[.pointer (some ⟨g,0,none⟩)]] w4 fun e w'=>e=.returned (.bool (covT x s x.wins.length))∧∃q,w'=w4.drewN q):=fun w4 h4=>by
    have h:=containsFuncI_any A c x.wins w4 (SlI.below HSL.out h4.be) (by omega) 260 #[.pointer (some ⟨g,0,none⟩)] (fun y:Int=>(bits BinOp.and IntKind.i64 y (s:Int)==(s:Int))) (fun _ _=>by kernel_rfl) (fun q y=>(banks1_any y s g (w4.drewN q) h4.cs).mono (fun e w' hh=>⟨hh.1,q,hh.2⟩))
    rwa [HCV.out] at h
   rw [htb] at HTB
   have HTT:=Lib.hid htb
   clear htb
   cases hcv:covT x s x.wins.length
   case true=>
    have HX:Hid (bkT x (s+1)=bkT x s):=bkT_skip (fun h=>by rw [hcv] at h;cases h.2)
    rw [hcv] at HCF
    clear hcv
    go_wp2_with (first
     | (go_at_call 258;refine HTB.out.mono ?_;rintro e w4 ⟨rfl,hb4⟩;have H4:=Lib.hid (H1.out.below hb4);clear hb4 cs q0 q1 q2;have cs:=H4.out.cs;obtain ⟨q0,q1,q2⟩:=id H4.out.bx)
     | (go_at_call 259;refine (HCF.out _ H4.out).mono ?_;rintro e w5 ⟨rfl,q5,rfl⟩;have H5:Hid (BqAt w (w4.drewN q5) x A c g s):=H4.out.below (below_drewN (Below.refl _ _) _);generalize w4.drewN q5=w5 at *;clear cs q0 q1 q2;have cs:=H5.out.cs))
    exact ⟨⟨s+1,_,by omega,by omega,by rw [HX.out],rfl,HFI.out _ H5.out⟩,HMS.out _ H5.out⟩
   case false=>
    have HX:Hid (bkT x (s+1)=bkT x s ||| topT x s x.wins.length):=bkT_take (by omega) HTT.out hcv
    rw [hcv] at HCF
    clear hcv
    go_wp2_with (first
     | (go_at_call 258;refine HTB.out.mono ?_;rintro e w4 ⟨rfl,hb4⟩;have H4:=Lib.hid (H1.out.below hb4);clear hb4 cs q0 q1 q2;have cs:=H4.out.cs;obtain ⟨q0,q1,q2⟩:=id H4.out.bx)
     | (go_at_call 259;refine (HCF.out _ H4.out).mono ?_;rintro e w5 ⟨rfl,q5,rfl⟩;have H5:Hid (BqAt w (w4.drewN q5) x A c g s):=H4.out.below (below_drewN (Below.refl _ _) _);generalize w4.drewN q5=w5 at *;clear cs q0 q1 q2;have cs:=H5.out.cs)
     | (go_at_call 153;refine (membersOf_any s _ hs256).mono ?_;rintro e w6 ⟨v6,rfl,hf,hb⟩;have H6:Hid (BqAt w w6 x A c g s∧InI w6 v6 (memL s)):=⟨H5.out.below hb,hf.in_⟩;obtain ⟨A6,c6,rfl,-⟩:=hf.in_;clear hb hf cs))
    have hbk:=HKL.out s (Nat.le_of_lt hlt)
    have HBE:Hid (tpM x s (memL s) (bkT x s)=bkT x (s+1)):=by
     show _=_
     rw [HX.out,memL,tpM_top HOK.out (by rw [HT.out];exact hlt),topT_stop (n:=x.wins.length) (by rw [HT.out];exact hlt) 8 hn8]
    have HLT8:Hid (∀j,tpM x s ((memL s).take j) (bkT x s)<256):=fun j=>tpM_lt (n:=8) (fun y hy=>by
     obtain ⟨a,rfl,ha,_⟩:=memT_mem.1 (List.mem_of_mem_take hy)
     rw [Int.toNat_natCast];exact ha) _ (by show _<256;omega)
    clear hbk HX
    go_loopw [3,30] (fun o i wr=>∃(j:Nat),j≤(memL s).length∧i=.int .i64 j∧o=.int .i64 (tpM x s ((memL s).take j) (bkT x s):Nat)∧Hid (BqAt w wr x A c g s∧InI wr (.slice A6 (memL s).length c6) (memL s))) (fun _ i _=>(memL s).length-(intOf i).toNat)
    case atStart=>exact ⟨0,Nat.zero_le _,rfl,rfl,H6.out⟩
    case round=>
     obtain ⟨j,hj,rfl,rfl,HI⟩:=hrel
     clear H6
     by_cases hlt2:j<(memL s).length
     case neg=>
      obtain rfl:j=(memL s).length:=by omega
      have HE:Hid (tpM x s ((memL s).take (memL s).length) (bkT x s)=bkT x (s+1)):=by show _=_;rw [List.take_length,HBE.out]
      have cs:=HI.out.1.cs
      go_wp2
      exact ⟨⟨s+1,_,by omega,by omega,by rw [HE.out],rfl,HFI.out _ HI.out.1⟩,HMS.out _ HI.out.1⟩
     obtain ⟨A4,c4,e4,_,_,hsl4⟩:=HI.out.2
     injection e4 with e4 _ e5;subst e4;subst e5
     obtain ⟨b3,o3,y,rfl,ey,qy,_⟩:=hsl4.at_ (k:=j) hlt2
     obtain ⟨a,rfl,ha8,hbit⟩:=memT_mem.1 (List.mem_of_getElem? ey)
     have han:a<x.wins.length:=bit_in (by rw [HT.out];exact hlt) hbit
     have HX:=Lib.hid (tpM_snoc (x:=x) (s:=s) (o:=bkT x s) ey)
     rw [Int.toNat_natCast] at HX
     obtain ⟨bk,off,rfl,hlk,hcell⟩:=win_cells HOK.out HSL.out
     have qw:wr.cell? ⟨bk,off+a,none⟩=some (.int .i64 (winN x a:Nat)):=(HI.out.1.be.cell (p:=⟨bk,off+a,none⟩) hlk).trans (hcell a han)
     have hQ256:2^a<256:=by
      have h:∀a:Fin 8,2^a.val<256:=by decide
      exact h ⟨a,ha8⟩
     have hand:=andNot_small hs256 (HW.out a)
     have hor:=or_small (HLT8.out j) hQ256
     have hjm:(memL s).length≤8:=by rw [memL_len];exact cntL_le _
     have ha64:(a:Int)<64:=by omega
     have hal:(a:Int)<x.wins.length:=by omega
     have cs:=HI.out.1.cs
     obtain ⟨q0,q1,q2⟩:=id HI.out.1.bx
     have hsh:IntKind.i64.wrap ((2:Int)^a)=((2^a:Nat):Int):=by
      have h:∀k:Fin 8,IntKind.i64.wrap ((2:Int)^k.val)=((2^k.val:Nat):Int):=by decide +kernel
      exact h ⟨a,ha8⟩
     have hsh2:=pow_lt8 ha8
     have hOE:s &&& (255 ^^^ winN x a)=outN x s a:=rfl
     rw [hOE] at hand
     have hG:Hid (∀q,BqAt w (wr.drewN q) x (some ⟨bk,off,none⟩) c g s∧InI (wr.drewN q) (.slice (some ⟨b3,o3,none⟩) (memL s).length c6) (memL s)):=fun q=>⟨HI.out.1.below (below_drewN (Below.refl _ _) _),HI.out.2.drewN q⟩
     clear hOE hsl4 ey hbit hcell hlk
     obtain ⟨Q,hQ⟩:∃Q:Nat,2^a=Q:=⟨_,rfl⟩
     rw [hQ] at HX hor hsh hsh2 hQ256
     generalize outN x s a=O at *
     generalize tpM x s ((memL s).take j) (bkT x s)=G at *
     clear hQ
     by_cases hc:O=Q
     ·have HX2:Hid (tpM x s ((memL s).take (j+1)) (bkT x s)=G ||| Q):=by show _=_;rw [HX.out,if_pos hc]
      subst hc
      go_wp2_with fail
      go_quiet (fail)
      go_wp2
      clear hsh hsh2 hor hand
      exact ⟨⟨j+1,by omega,by go_num,by rw [HX2.out],hG.out _⟩,by simp [intOf];omega⟩
     ·have HX2:Hid (tpM x s ((memL s).take (j+1)) (bkT x s)=G):=by show _=_;rw [HX.out,if_neg hc]
      have hne:((O:Int)==(Q:Int))=false:=beq_eq_false_iff_ne.2 (fun h=>hc (Int.ofNat.inj h))
      go_wp2_with fail
      go_quiet (fail)
      go_wp2
      clear hsh hsh2 hor hand hne
      exact ⟨⟨j+1,by omega,by go_num,by rw [HX2.out],hG.out _⟩,by simp [intOf];omega⟩
def kiW:List UInt8:=[107,105,110,103,115]
def baW:List UInt8:=[98,97,110,107,115]
def kingTextT (a b:List UInt8):List UInt8:=Lib.join [kiW,a,baW,b] [32]
def kingText (x:TourV):List UInt8:=if tourB x then kingTextT (fmtF (memL (kingsF x))) (fmtF (memL (banksF x))) else [110,111,110,101]
theorem kingText_t {x:TourV} (h:tourB x=true):kingText x=kingTextT (fmtF (memL (kingsF x))) (fmtF (memL (banksF x))):=by rw [kingText,if_pos h]
theorem kingText_f {x:TourV} (h:tourB x=false):kingText x = [110,111,110,101]:=by rw [kingText,h];rfl
theorem join4k (a b c d:List UInt8):Lib.join [a,b,c,d] [32]=a++[32]++b++[32]++c++[32]++d:=by
 simp [Lib.join_cons,Lib.joinTail,List.append_assoc]
theorem kingCat (a b:List UInt8):(((⟨#[107,105,110,103,115,32]⟩:ByteArray)++⟨a.toArray⟩)++⟨#[32,98,97,110,107,115,32]⟩)++⟨b.toArray⟩=⟨(kingTextT a b).toArray⟩:=by
 rw [show (⟨#[107,105,110,103,115,32]⟩:ByteArray)=⟨([107,105,110,103,115,32]:List UInt8).toArray⟩ from rfl,show (⟨#[32,98,97,110,107,115,32]⟩:ByteArray)=⟨([32,98,97,110,107,115,32]:List UInt8).toArray⟩ from rfl,bcat,bcat,bcat,kingTextT,join4k]
 simp [kiW,baW]
theorem memK_wf (s:Nat):wfI (memL s):=by
 intro x hx
 obtain ⟨a,rfl,h,_⟩:=memT_mem.1 hx
 omega
theorem memK_fmt (s:Nat):(fmtF (memL s)).length≤200:=by
 have h:=memK_wf s
 have hl:=memL_len s
 have hc:=cntL_le s
 unfold fmtF
 split
 ·simp
 ·have:=fmt_bound h;omega
theorem kings_256 {x:TourV} (h:x.wins.length≤8):kingsF x<256:=Nat.lt_of_lt_of_le (kgT_lt x _) (Nat.pow_le_pow_right (by omega) h)
theorem banks_256 {x:TourV} (h:x.wins.length≤8):banksF x<256:=Nat.lt_of_lt_of_le (bkT_lt h _ (Nat.le_refl _)) (Nat.pow_le_pow_right (by omega) h)
theorem join4k_any (w:World) (T1 T2:List UInt8) (h1:T1.length≤200) (h2:T2.length≤200):
  Calls Tryz.prog 11 #[.slice (some ⟨w.heap.size,0,none⟩) 4 4,.string ⟨#[32]⟩] (w.alloc (.cells #[.string ⟨#[107,105,110,103,115]⟩,.string ⟨T1.toArray⟩,.string ⟨#[98,97,110,107,115]⟩,.string ⟨T2.toArray⟩] 9)) fun e w'=>e=.returned (.string ⟨(kingTextT T1 T2).toArray⟩)∧Below w.heap.size w w':=by
 have ho:=World.ownsRow_lit (base:=w.heap.size) (e:=9) (size:=1) w #[.string ⟨kiW.toArray⟩,.string ⟨T1.toArray⟩,.string ⟨baW.toArray⟩,.string ⟨T2.toArray⟩] 4 (Nat.le_refl _) (by unfold maxLen;omega) rfl
 have h:=implJoin_any _ w.heap.size 4 [kiW,T1,baW,T2] [32] _ ho (by omega) (by omega) (by rw [join4k];simp [kiW,baW];omega)
 exact h.mono fun e w' ⟨he,hb⟩=>⟨he,((Below.refl _ w).alloc (Nat.le_refl _) _).trans (hb.mono (by simp))⟩
theorem implKingLine_any (v:Value) (x:TourV) (w:World) (hs:InT w v x) (ht:tabP w):
  Calls Tryz.prog 86 #[v] w fun e w'=>e=.returned (.string ⟨(kingText x).toArray⟩)∧Below w.heap.size w w':=by
 have HIT:=Lib.hid hs
 have HT:=Lib.hid ht
 obtain ⟨u,rfl,A,c,rfl,hc,hm,hsl⟩:=hs
 have HTO:Hid (∀W,Below w.heap.size w W→Calls Tryz.prog 148 #[.agg #[.int .i64 x.size,.slice A x.wins.length c]] W fun e w'=>e=.returned (.bool (tourB x))∧Below W.heap.size W w'):=fun W hW=>implTourOk_any _ x W (HIT.out.below hW)
 have HBX:Hid (Bx (w.alloc (.cells #[.int .i64 x.size,.slice A x.wins.length c] 27)) w.heap.size (.int .i64 x.size) (.slice A x.wins.length c)∧Below w.heap.size w (w.alloc (.cells #[.int .i64 x.size,.slice A x.wins.length c] 27))∧w.heap.size<(w.alloc (.cells #[.int .i64 x.size,.slice A x.wins.length c] 27)).heap.size):=⟨⟨by simp,by simp,by simp⟩,(Below.refl _ w).alloc (Nat.le_refl _) _,by simp⟩
 clear hsl
 cases h1:tourB x
 case false=>
  have HX:Hid (kingText x = [110,111,110,101]):=kingText_f h1
  go_enter Tryz.func86,Tryz.ntmps86
  go_wp2_with (go_at_call 148;refine (HTO.out _ HBX.out.2.1).mono ?_;rintro e w1 ⟨rfl,hb⟩;rw [h1];have HB:Hid (Below w.heap.size w w1):=HBX.out.2.1.trans (hb.mono HBX.out.2.1.size);clear hb)
  go_ret
  exact ⟨by rw [HX.out];rfl,HB.out⟩
 obtain ⟨t1,t2,t3,_,_⟩:=tourB_t h1
 have hn8:x.wins.length≤8:=by omega
 have HX:=Lib.hid (kingText_t h1)
 have HOK:=Lib.hid h1
 have HKI:Hid (∀W,Below w.heap.size w W→Calls Tryz.prog 173 #[.agg #[.int .i64 x.size,.slice A x.wins.length c]] W fun e w'=>e=.returned (.int .i64 (kingsF x:Nat))∧Below W.heap.size W w'):=fun W hW=>implKingsOf_any _ x W (HIT.out.below hW) HOK.out
 have HBK:Hid (∀W,Below w.heap.size w W→Calls Tryz.prog 174 #[.agg #[.int .i64 x.size,.slice A x.wins.length c]] W fun e w'=>e=.returned (.int .i64 (banksF x:Nat))∧Below W.heap.size W w'):=fun W hW=>implBanks_any _ x W (HIT.out.below hW) HOK.out
 have k256:=kings_256 hn8
 have b256:=banks_256 hn8
 obtain ⟨KS,HKS⟩:∃KS:Nat,Hid (kingsF x=KS):=⟨_,rfl⟩
 obtain ⟨BS,HBS⟩:∃BS:Nat,Hid (banksF x=BS):=⟨_,rfl⟩
 rw [HKS.out] at HX HKI k256
 rw [HBS.out] at HX HBK b256
 have HLK:Hid (∀W,Calls Tryz.prog 153 #[.int .i64 (KS:Int)] W fun e w'=>∃v',e=.returned v'∧Fr w' W.heap.size w'.heap.size v' (memL KS)∧Below W.heap.size W w'):=fun W=>membersOf_any KS W k256
 have HLB:Hid (∀W,Calls Tryz.prog 153 #[.int .i64 (BS:Int)] W fun e w'=>∃v',e=.returned v'∧Fr w' W.heap.size w'.heap.size v' (memL BS)∧Below W.heap.size W w'):=fun W=>membersOf_any BS W b256
 have HFK:Hid (∀W (u:Value),InI W u (memL KS)→Below w.heap.size w W→Calls Tryz.prog 96 #[u] W fun e w'=>e=.returned (.string ⟨(fmtF (memL KS)).toArray⟩)∧Below W.heap.size W w'):=fun W u hu hW=>implFormatNumbers_any u (memL KS) W hu (by have:=memL_len KS;have:=cntL_le KS;omega) (memK_wf KS) (HT.out.below hW (Nat.le_refl _))
 have HFB:Hid (∀W (u:Value),InI W u (memL BS)→Below w.heap.size w W→Calls Tryz.prog 96 #[u] W fun e w'=>e=.returned (.string ⟨(fmtF (memL BS)).toArray⟩)∧Below W.heap.size W w'):=fun W u hu hW=>implFormatNumbers_any u (memL BS) W hu (by have:=memL_len BS;have:=cntL_le BS;omega) (memK_wf BS) (HT.out.below hW (Nat.le_refl _))
 have g1:=memK_fmt KS
 have g2:=memK_fmt BS
 obtain ⟨T1,HT1⟩:∃T1,Hid (fmtF (memL KS)=T1):=⟨_,rfl⟩
 obtain ⟨T2,HT2⟩:∃T2,Hid (fmtF (memL BS)=T2):=⟨_,rfl⟩
 rw [HT1.out] at HX g1 HFK
 rw [HT2.out] at HX g2 HFB
 have HCAT:=Lib.hid (kingCat T1 T2)
 have HGG:Hid (T1.length≤200∧T2.length≤200):=⟨g1,g2⟩
 clear h1 t1 t2 t3
 go_enter Tryz.func86,Tryz.ntmps86
 go_wp2_with (go_at_call 148;refine (HTO.out _ HBX.out.2.1).mono ?_;rintro e w1 ⟨rfl,hb⟩;rw [HOK.out];have H1:Hid (Bx w1 w.heap.size (.int .i64 x.size) (.slice A x.wins.length c)∧Below w.heap.size w w1):=⟨HBX.out.1.below hb,HBX.out.2.1.trans (hb.mono (Nat.le_of_lt HBX.out.2.2))⟩;clear hb)
 obtain ⟨q0,q1,-⟩:=id H1.out.1
 have H1B:Hid (Below w.heap.size w w1.drew):=below_drewL H1.out.2
 have H1X:Hid (Bx w1.drew w.heap.size (.int .i64 x.size) (.slice A x.wins.length c)):=H1.out.1.drew
 go_region_held3 (fun W=>W.cell? ⟨w.heap.size,0,none⟩=some (.int .i64 x.size)∧W.cell? ⟨w.heap.size,1,none⟩=some (.slice A x.wins.length c)) (first|exact ⟨q0,q1⟩|exact ⟨H8.out.1.1,H8.out.1.2.1⟩|exact ⟨(H7.out.1.below ((Below.refl _ w7).alloc (Nat.le_refl _) _)).1,(H7.out.1.below ((Below.refl _ w7).alloc (Nat.le_refl _) _)).2.1⟩|exact ⟨H7.out.1.1,H7.out.1.2.1⟩|exact ⟨H6.out.1.1,H6.out.1.2.1⟩|exact ⟨H5.out.1.1,H5.out.1.2.1⟩|exact ⟨H4.out.1.1,H4.out.1.2.1⟩|exact ⟨H3.out.1.1,H3.out.1.2.1⟩|exact ⟨H2.out.1.1,H2.out.1.2.1⟩) (first
  | (go_at_call 173;refine (HKI.out _ H1B.out).mono ?_;rintro e w2 ⟨rfl,hb⟩;have H2:Hid (Bx w2 w.heap.size (.int .i64 x.size) (.slice A x.wins.length c)∧Below w.heap.size w w2):=(show _∧_ from ⟨H1X.out.below hb,H1B.out.trans (hb.mono H1B.out.size)⟩);clear hb)
  | (go_at_call 153;have h_:=H2.out;clear h_;(with_reducible refine (HLK.out _).mono ?_);rintro e w3 ⟨v3,rfl,hf,hb⟩;have H3:Hid (Bx w3 w.heap.size (.int .i64 x.size) (.slice A x.wins.length c)∧Below w.heap.size w w3):=(show _∧_ from ⟨H2.out.1.below hb,H2.out.2.trans (hb.mono H2.out.2.size)⟩);have H3I:Hid (InI w3 v3 (memL KS)):=hf.in_;clear hb hf)
  | (go_at_call 96;have h_:=H3.out;clear h_;(with_reducible refine (HFK.out _ v3 H3I.out H3.out.2).mono ?_);rintro e w4 ⟨rfl,hb⟩;have H4:Hid (Bx w4 w.heap.size (.int .i64 x.size) (.slice A x.wins.length c)∧Below w.heap.size w w4):=(show _∧_ from ⟨H3.out.1.below hb,H3.out.2.trans (hb.mono H3.out.2.size)⟩);clear hb)
  | (go_at_call 174;refine (HBK.out _ H4.out.2).mono ?_;rintro e w5 ⟨rfl,hb⟩;have H5:Hid (Bx w5 w.heap.size (.int .i64 x.size) (.slice A x.wins.length c)∧Below w.heap.size w w5):=(show _∧_ from ⟨H4.out.1.below hb,H4.out.2.trans (hb.mono H4.out.2.size)⟩);clear hb)
  | (go_at_call 153;have h_:=H5.out;clear h_;(with_reducible refine (HLB.out _).mono ?_);rintro e w6 ⟨v6,rfl,hf,hb⟩;have H6:Hid (Bx w6 w.heap.size (.int .i64 x.size) (.slice A x.wins.length c)∧Below w.heap.size w w6):=(show _∧_ from ⟨H5.out.1.below hb,H5.out.2.trans (hb.mono H5.out.2.size)⟩);have H6I:Hid (InI w6 v6 (memL BS)):=hf.in_;clear hb hf)
  | (go_at_call 96;have h_:=H6.out;clear h_;(with_reducible refine (HFB.out _ v6 H6I.out H6.out.2).mono ?_);rintro e w7 ⟨rfl,hb⟩;have H7:Hid (Bx w7 w.heap.size (.int .i64 x.size) (.slice A x.wins.length c)∧Below w.heap.size w w7):=(show _∧_ from ⟨H6.out.1.below hb,H6.out.2.trans (hb.mono H6.out.2.size)⟩);clear hb)
  | (go_at_call 11;refine (join4k_any w7 T1 T2 HGG.out.1 HGG.out.2).mono ?_;rintro e w8 ⟨rfl,hb⟩;have H8:Hid (Bx w8 w.heap.size (.int .i64 x.size) (.slice A x.wins.length c)∧Below w.heap.size w w8):=(show _∧_ from ⟨H7.out.1.below hb,H7.out.2.trans (hb.mono H7.out.2.size)⟩);clear hb))
 go_wp2
 go_ret
 exact ⟨by rw [HX.out];rfl,H8.out.2⟩
theorem run9_any (w0 W:World) (b bq:Nat) (x:TourV) (ws:List (List UInt8)) (bad:Bool) (h:CoW w0 W b x ws bad) (ht:tabP w0) (hq:W.cell? ⟨bq,0,none⟩=some (.pointer (some ⟨b,0,none⟩))):
  Calls Tryz.prog 81 #[.pointer (some ⟨bq,0,none⟩)] W fun e w'=>CoP w0 W b (tourText x) x ws bad e w':=by
 obtain ⟨be,hb0,A,c,B,d,lo,hi,q1,q2,q3,q4,q5⟩:=id h
 obtain ⟨c0,c1,-,-,-⟩:=con_cells q1
 have HTB:Hid (∀V,Below W.heap.size W V→tabP V):=fun V hV=>ht.below (be.trans (hV.mono be.size)) (Nat.le_refl _)
 have HIN:=Lib.hid q2.in_
 have HH:=Lib.hid h
 have HF:=Lib.hid (implFormatTour_any _ x W HIN.out (HTB.out W (Below.refl _ _)))
 clear q1 q2 q3 q4 q5 be h ht
 go_enter Tryz.func81,Tryz.ntmps81
 go_wp2_with (go_at_call 82;refine HF.out.mono ?_;rintro e w1 ⟨rfl,hb⟩;have B1:=Lib.hid hb;clear hb)
 go_ret
 exact ⟨rfl,Keep.of_below B1.out (Nat.le_refl _),HH.out.grow B1.out⟩
theorem run10_any (w0 W:World) (b bq:Nat) (x:TourV) (ws:List (List UInt8)) (bad:Bool) (h:CoW w0 W b x ws bad) (ht:tabP w0) (hq:W.cell? ⟨bq,0,none⟩=some (.pointer (some ⟨b,0,none⟩))):
  Calls Tryz.prog 83 #[.pointer (some ⟨bq,0,none⟩)] W fun e w'=>CoP w0 W b (scoreText x) x ws bad e w':=by
 obtain ⟨be,hb0,A,c,B,d,lo,hi,q1,q2,q3,q4,q5⟩:=id h
 obtain ⟨c0,c1,-,-,-⟩:=con_cells q1
 have HTB:Hid (∀V,Below W.heap.size W V→tabP V):=fun V hV=>ht.below (be.trans (hV.mono be.size)) (Nat.le_refl _)
 have HIN:=Lib.hid q2.in_
 have HH:=Lib.hid h
 have HF:=Lib.hid (implScoreLine_any _ x W HIN.out (HTB.out W (Below.refl _ _)))
 clear q1 q2 q3 q4 q5 be h ht
 go_enter Tryz.func83,Tryz.ntmps83
 go_wp2_with (go_at_call 84;refine HF.out.mono ?_;rintro e w1 ⟨rfl,hb⟩;have B1:=Lib.hid hb;clear hb)
 go_ret
 exact ⟨rfl,Keep.of_below B1.out (Nat.le_refl _),HH.out.grow B1.out⟩
theorem run11_any (w0 W:World) (b bq:Nat) (x:TourV) (ws:List (List UInt8)) (bad:Bool) (h:CoW w0 W b x ws bad) (ht:tabP w0) (hq:W.cell? ⟨bq,0,none⟩=some (.pointer (some ⟨b,0,none⟩))):
  Calls Tryz.prog 85 #[.pointer (some ⟨bq,0,none⟩)] W fun e w'=>CoP w0 W b (kingText x) x ws bad e w':=by
 obtain ⟨be,hb0,A,c,B,d,lo,hi,q1,q2,q3,q4,q5⟩:=id h
 obtain ⟨c0,c1,-,-,-⟩:=con_cells q1
 have HTB:Hid (∀V,Below W.heap.size W V→tabP V):=fun V hV=>ht.below (be.trans (hV.mono be.size)) (Nat.le_refl _)
 have HIN:=Lib.hid q2.in_
 have HH:=Lib.hid h
 have HF:=Lib.hid (implKingLine_any _ x W HIN.out (HTB.out W (Below.refl _ _)))
 clear q1 q2 q3 q4 q5 be h ht
 go_enter Tryz.func85,Tryz.ntmps85
 go_wp2_with (go_at_call 86;refine HF.out.mono ?_;rintro e w1 ⟨rfl,hb⟩;have B1:=Lib.hid hb;clear hb)
 go_ret
 exact ⟨rfl,Keep.of_below B1.out (Nat.le_refl _),HH.out.grow B1.out⟩
theorem run12_any (w0 W:World) (b bq:Nat) (x:TourV) (ws:List (List UInt8)) (bad:Bool) (h:CoW w0 W b x ws bad) (ht:tabP w0) (hq:W.cell? ⟨bq,0,none⟩=some (.pointer (some ⟨b,0,none⟩))):
  Calls Tryz.prog 87 #[.pointer (some ⟨bq,0,none⟩)] W fun e w'=>CoP w0 W b (orderText x) x ws bad e w':=by
 obtain ⟨be,hb0,A,c,B,d,lo,hi,q1,q2,q3,q4,q5⟩:=id h
 obtain ⟨c0,c1,-,-,-⟩:=con_cells q1
 have HTB:Hid (∀V,Below W.heap.size W V→tabP V):=fun V hV=>ht.below (be.trans (hV.mono be.size)) (Nat.le_refl _)
 have HIN:=Lib.hid q2.in_
 have HH:=Lib.hid h
 have HF:=Lib.hid (implOrderLine_any _ x W HIN.out (HTB.out W (Below.refl _ _)))
 clear q1 q2 q3 q4 q5 be h ht
 go_enter Tryz.func87,Tryz.ntmps87
 go_wp2_with (go_at_call 88;refine HF.out.mono ?_;rintro e w1 ⟨rfl,hb⟩;have B1:=Lib.hid hb;clear hb)
 go_ret
 exact ⟨rfl,Keep.of_below B1.out (Nat.le_refl _),HH.out.grow B1.out⟩
theorem run13_any (w0 W:World) (b bq:Nat) (x:TourV) (ws:List (List UInt8)) (bad:Bool) (h:CoW w0 W b x ws bad) (ht:tabP w0) (hq:W.cell? ⟨bq,0,none⟩=some (.pointer (some ⟨b,0,none⟩))):
  Calls Tryz.prog 89 #[.pointer (some ⟨bq,0,none⟩)] W fun e w'=>CoP w0 W b (safeText x) x ws bad e w':=by
 obtain ⟨be,hb0,A,c,B,d,lo,hi,q1,q2,q3,q4,q5⟩:=id h
 obtain ⟨c0,c1,-,-,-⟩:=con_cells q1
 have HTB:Hid (∀V,Below W.heap.size W V→tabP V):=fun V hV=>ht.below (be.trans (hV.mono be.size)) (Nat.le_refl _)
 have HIN:=Lib.hid q2.in_
 have HH:=Lib.hid h
 have HF:=Lib.hid (implSafeLine_any _ x W HIN.out (HTB.out W (Below.refl _ _)))
 clear q1 q2 q3 q4 q5 be h ht
 go_enter Tryz.func89,Tryz.ntmps89
 go_wp2_with (go_at_call 90;refine HF.out.mono ?_;rintro e w1 ⟨rfl,hb⟩;have B1:=Lib.hid hb;clear hb)
 go_ret
 exact ⟨rfl,Keep.of_below B1.out (Nat.le_refl _),HH.out.grow B1.out⟩
end Go.Proofs.YtkapoldjcpfdgaaGreatDoor
