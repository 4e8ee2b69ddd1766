/- The console: its memory with the tour's and the words' rows named; numbers and lists from the words. -/
import Derived.Test.YtkapoldjcpfdgaaGreatDoorMaw
import Derived.Test.YtkapoldjcpfdgaaGreatDoorMbi
import Derived.Test.YtkapoldjcpfdgaaGreatDoorMbj
import Derived.Test.YtkapoldjcpfdgaaGreatDoorMbk
import Derived.Test.YtkapoldjcpfdgaaGreatDoorMbn
set_option maxHeartbeats 4000000
set_option maxRecDepth 100000
namespace Go.Proofs.YtkapoldjcpfdgaaGreatDoor
open Go.ChangeShapes Go.WideShapes Go.ChangeAt Go.RowKit
theorem implCarryNone_any (v:Value) (n:Nat) (w:World) (hs:InS w v []):
  Calls Tryz.prog 346 #[.int .i64 n,v] w fun e w'=>e=.returned (.slice none 0 0)∧∃d,w'=w.drewN d:=by
 have HC:=Lib.hid (implPlanOk_any n v [] w hs (by simp [bulk]))
 obtain ⟨A,c,vs,rfl,hvl,hc,hm,-,-⟩:=hs
 clear hvl
 cases h1:planB n []
 all_goals
  go_enter Tryz.func346,Tryz.ntmps346
  go_wp2_with (go_at_call 273;refine HC.out.mono ?_;rintro e w' ⟨rfl,d,rfl⟩;rw [h1])
  go_ret
  exact ⟨rfl,_,rfl⟩
theorem implCarryValue_any (v:Value) (P:List (List Int)) (n:Nat) (w:World) (hs:InS w v P) (hn:bulk P≤1048576) (hpl:planB n P=true) (hne:0<P.length):
  Calls Tryz.prog 275 #[.int .i64 n,v] w fun e w'=>e=.returned (.int .i64 (sqS (carR n P P.length)))∧Below w.heap.size w w':=by
 have HC:=Lib.hid (implCarryTable_any v P n w hs hn hpl hne)
 have hcap:=planB_cap hpl
 have HSM:Hid (sqM n 360 (carR n P P.length)):=sqM_all hpl (Nat.le_refl _)
 clear hpl hs hn
 generalize carR n P P.length=M at *
 have HCAP:Hid (∀q,q≤n→0≤sqS (M.take q)∧sqS (M.take q)≤1296000*q):=fun q hq=>sqS_cap HSM.out hcap.2.1 q (by rw [HSM.out.1];exact hq)
 have qT:∀(w:World) (a:Option Addr) (n c n' c':Nat),(binOp .eql 67 (.slice a n c) (.slice none n' c')).run Tryz.prog w=.ok (.bool a.isNone) w:=fun w a n c n' c'=>Lib.run_eql_slice_nil w _ _ a n c n' c' Tryz.underlying67
 go_enter Tryz.func275,Tryz.ntmps275
 go_wp2_with fail
 refine HC.out.mono ?_
 rintro e w2 ⟨v2,rfl,hown,hb⟩
 obtain ⟨At,ct,hft,hct,_⟩:=hown.form
 rw [HSM.out.1] at hft hct
 subst hft
 obtain ⟨g0,xs0,hx0,_⟩:∃xs,M[0]? = some xs∧True∧True:=by obtain ⟨xs,h,_⟩:=HSM.out.row (a:=0) (by omega);exact ⟨xs,h,trivial,trivial⟩
 obtain ⟨b0,o0,_,_,hA0,_⟩:=hown.in_.at_ (k:=0) (by rw [HSM.out.1];omega)
 subst hA0
 have HIN:=Lib.hid (And.intro hown.in_ hb)
 clear hown hb hx0 xs0
 go_wp2
 go_loop [6,18] (fun s i=>∃q:Nat,q≤n∧i=.int .i64 q∧s=.int .i64 (sqS (M.take q))) (fun _ i=>n-(intOf i).toNat)
 case atStart=>exact ⟨0,Nat.zero_le _,rfl,rfl⟩
 case round=>
  obtain ⟨q,hq,rfl,rfl⟩:=hrel
  by_cases hlt:q<n
  case neg=>
   obtain rfl:n=q:=by omega
   have HE:Hid (M.take n=M):=by show _=_;rw [List.take_of_length_le (by rw [HSM.out.1];exact Nat.le_refl _)]
   rw [HE.out]
   go_wp2
   go_ret
   exact ⟨rfl,HIN.out.2⟩
  obtain ⟨b1,o1,u,xs,e1,hx,hcell,hin,-⟩:=HIN.out.1.at_ (k:=q) (by rw [HSM.out.1];exact hlt)
  injection e1 with e1;injection e1 with r1 r2 _;subst r1;subst r2
  obtain ⟨A1,c1,rfl,hc1,hm1,hsl⟩:=hin
  have HX:=HSM.out.2 q xs hx
  have HNX:=Lib.hid (sqS_take hx)
  have hc0:=HCAP.out q hq
  have HRC:Hid (∀k,k≤xs.length→0≤sqR (xs.take k)∧sqR (xs.take k)≤129600*k):=fun k hk=>sqR_cap HX.2 k hk
  have HXL:=Lib.hid HX.1
  have HXC:=Lib.hid HX.2
  rw [HX.1] at hcell hc1
  have HSL:=Lib.hid hsl
  clear HX hx hsl
  generalize sqS (M.take q)=S0 at *
  go_wp2
  go_loop [6,24] (fun s i=>∃k:Nat,k≤n∧i=.int .i64 k∧s=.int .i64 (S0+sqR (xs.take k))) (fun _ i=>n-(intOf i).toNat)
  case atStart=>exact ⟨0,Nat.zero_le _,rfl,by simp [sqR]⟩
  case round=>
   obtain ⟨k,hk,rfl,rfl⟩:=hrel
   by_cases hlt2:k<n
   case neg=>
    obtain rfl:n=k:=by omega
    have HE:Hid (xs.take n=xs):=by show _=_;rw [List.take_of_length_le (by rw [HXL.out];exact Nat.le_refl _)]
    rw [HE.out]
    go_wp2
    go_round
    case rel=>exact ⟨q+1,by omega,by go_num,by rw [HNX.out]⟩
    case measure=>simp [intOf];omega
   obtain ⟨b2,o2,x,rfl,hx,hcx,-⟩:=HSL.out.at_ (k:=k) (by rw [HXL.out];exact hlt2)
   have hx0:=HXC.out k x hx
   have hxx:=sq_cap hx0.1 hx0.2
   have hr0:=HRC.out k (by rw [HXL.out];exact hk)
   have HRN:=Lib.hid (sqR_take hx)
   clear hx
   generalize sqR (xs.take k)=T0 at *
   go_wp2
   go_round
   case rel=>exact ⟨k+1,by omega,by go_num,by rw [HRN.out];first|rfl|go_num⟩
   case measure=>simp [intOf];omega
theorem specValue_any (v:Value) (P:List (List Int)) (n:Nat) (w:World) (hs:InS w v P) (hpl:planB n P=true) (hne:0<P.length):
  Calls Tryz.prog 38 #[.int .i64 n,v] w fun e w'=>e=.returned (.int .i64 (sqS (carR n P P.length)))∧Below w.heap.size w w':=by
 have HC:=Lib.hid (specTable_any v P n w hs hpl hne)
 have hcap:=planB_cap hpl
 have HSM:Hid (sqM n 360 (carR n P P.length)):=sqM_all hpl (Nat.le_refl _)
 clear hpl hs
 generalize carR n P P.length=M at *
 have HCAP:Hid (∀q,q≤n→0≤sqS (M.take q)∧sqS (M.take q)≤1296000*q):=fun q hq=>sqS_cap HSM.out hcap.2.1 q (by rw [HSM.out.1];exact hq)
 go_enter Tryz.func38,Tryz.ntmps38
 go_wp2_with fail
 refine HC.out.mono ?_
 rintro e w2 ⟨v2,rfl,hown,hb⟩
 obtain ⟨At,ct,hft,hct,_⟩:=hown.form
 rw [HSM.out.1] at hft hct
 subst hft
 obtain ⟨g0,xs0,hx0,_⟩:∃xs,M[0]? = some xs∧True∧True:=by obtain ⟨xs,h,_⟩:=HSM.out.row (a:=0) (by omega);exact ⟨xs,h,trivial,trivial⟩
 obtain ⟨b0,o0,_,_,hA0,_⟩:=hown.in_.at_ (k:=0) (by rw [HSM.out.1];omega)
 subst hA0
 have HIN:=Lib.hid (And.intro hown.in_ hb)
 clear hown hb hx0 xs0
 go_wp2
 go_loop [5,14] (fun s i=>∃q:Nat,q≤n∧i=.int .i64 q∧s=.int .i64 (sqS (M.take q))) (fun _ i=>n-(intOf i).toNat)
 case atStart=>exact ⟨0,Nat.zero_le _,rfl,rfl⟩
 case round=>
  obtain ⟨q,hq,rfl,rfl⟩:=hrel
  by_cases hlt:q<n
  case neg=>
   obtain rfl:n=q:=by omega
   have HE:Hid (M.take n=M):=by show _=_;rw [List.take_of_length_le (by rw [HSM.out.1];exact Nat.le_refl _)]
   rw [HE.out]
   go_wp2
   go_ret
   exact ⟨rfl,HIN.out.2⟩
  obtain ⟨b1,o1,u,xs,e1,hx,hcell,hin,-⟩:=HIN.out.1.at_ (k:=q) (by rw [HSM.out.1];exact hlt)
  injection e1 with e1;injection e1 with r1 r2 _;subst r1;subst r2
  obtain ⟨A1,c1,rfl,hc1,hm1,hsl⟩:=hin
  have HX:=HSM.out.2 q xs hx
  have HNX:=Lib.hid (sqS_take hx)
  have hc0:=HCAP.out q hq
  have HRC:Hid (∀k,k≤xs.length→0≤sqR (xs.take k)∧sqR (xs.take k)≤129600*k):=fun k hk=>sqR_cap HX.2 k hk
  have HXL:=Lib.hid HX.1
  have HXC:=Lib.hid HX.2
  rw [HX.1] at hcell hc1
  have HSL:=Lib.hid hsl
  clear HX hx hsl
  generalize sqS (M.take q)=S0 at *
  go_wp2
  go_loop [5,20] (fun s i=>∃k:Nat,k≤n∧i=.int .i64 k∧s=.int .i64 (S0+sqR (xs.take k))) (fun _ i=>n-(intOf i).toNat)
  case atStart=>exact ⟨0,Nat.zero_le _,rfl,by simp [sqR]⟩
  case round=>
   obtain ⟨k,hk,rfl,rfl⟩:=hrel
   by_cases hlt2:k<n
   case neg=>
    obtain rfl:n=k:=by omega
    have HE:Hid (xs.take n=xs):=by show _=_;rw [List.take_of_length_le (by rw [HXL.out];exact Nat.le_refl _)]
    rw [HE.out]
    go_wp2
    go_round
    case rel=>exact ⟨q+1,by omega,by go_num,by rw [HNX.out]⟩
    case measure=>simp [intOf];omega
   obtain ⟨b2,o2,x,rfl,hx,hcx,-⟩:=HSL.out.at_ (k:=k) (by rw [HXL.out];exact hlt2)
   have hx0:=HXC.out k x hx
   have hxx:=sq_cap hx0.1 hx0.2
   have hr0:=HRC.out k (by rw [HXL.out];exact hk)
   have HRN:=Lib.hid (sqR_take hx)
   clear hx
   generalize sqR (xs.take k)=T0 at *
   go_wp2
   go_round
   case rel=>exact ⟨k+1,by omega,by go_num,by rw [HRN.out];first|rfl|go_num⟩
   case measure=>simp [intOf];omega
theorem planNil {P:List (List Int)} (h:¬ 0<P.length):P = []:=List.eq_nil_of_length_eq_zero (by omega)
theorem implCarryAll_any (v:Value) (P:List (List Int)) (n:Nat) (w:World) (hs:InS w v P) (hn:bulk P≤1048576) (hpl:planB n P=true):
  Calls Tryz.prog 275 #[.int .i64 n,v] w fun e w'=>e=.returned (.int .i64 (carV n P))∧Below w.heap.size w w':=by
 by_cases hne:0<P.length
 ·have h:=implCarryValue_any v P n w hs hn hpl hne
  have e:carV n P=sqS (carR n P P.length):=by unfold carV;rw [if_neg (by intro h;rw [h] at hne;simp at hne)]
  rw [e];exact h
 ·obtain rfl:=planNil hne
  have HC:=Lib.hid (implCarryNone_any v n w hs)
  clear hs hn hpl hne
  have qT:∀(w:World) (a:Option Addr) (n c n' c':Nat),(binOp .eql 67 (.slice a n c) (.slice none n' c')).run Tryz.prog w=.ok (.bool a.isNone) w:=fun w a n c n' c'=>Lib.run_eql_slice_nil w _ _ a n c n' c' Tryz.underlying67
  go_enter Tryz.func275,Tryz.ntmps275
  go_wp2_with fail
  refine HC.out.mono ?_
  rintro e w2 ⟨rfl,d,rfl⟩
  go_wp2
  go_ret
  exact ⟨by simp [carV],below_of_drewN _ _ _⟩
theorem brkW_eq:(⟨#[98,114,101,97,107,115,32]⟩:ByteArray)=⟨brkW.toArray⟩:=rfl
theorem carW_eq:(⟨#[32,99,97,114,114,121,32]⟩:ByteArray)=⟨carW.toArray⟩:=rfl
theorem planText_t {n:Nat}{P:List (List Int)} (h:planB n P=true):planText n P=((brkW++Lib.itoa (brkSum P n))++carW)++Lib.itoa (carV n P):=by
 unfold planText;rw [if_pos h,Int.toNat_natCast]
theorem planText_f {n:Int}{P:List (List Int)} (h:planB n P=false):planText n P = [110,111,110,101]:=by unfold planText;simp [h]
theorem planText_str (a b:List UInt8):((((⟨#[98,114,101,97,107,115,32]⟩:ByteArray)++⟨a.toArray⟩)++⟨#[32,99,97,114,114,121,32]⟩)++⟨b.toArray⟩)=⟨(((brkW++a)++carW)++b).toArray⟩:=by
 rw [brkW_eq,carW_eq,bcat,bcat,bcat]
theorem carV_cap {n:Nat}{P:List (List Int)} (h:planB n P=true):-1≤carV n P∧carV n P≤12960000:=by
 have hcap:=planB_cap h
 unfold carV
 split
 ·omega
 ·have h1:=sqS_cap (sqM_all h (Nat.le_refl _)) hcap.2.1 (carR n P P.length).length (Nat.le_refl _)
  rw [List.take_length,(sqM_all h (Nat.le_refl _)).1] at h1
  omega
theorem implPlanLine_any (n:Int) (v:Value) (P:List (List Int)) (w:World) (hs:InS w v P) (hn:bulk P≤1048576) (ht:tabP w):
  Calls Tryz.prog 188 #[.int .i64 n,v] w fun e w'=>e=.returned (.string ⟨(planText n P).toArray⟩)∧Below w.heap.size w w':=by
 have HC:=Lib.hid (implPlanOk_any n v P w hs hn)
 cases h1:planB n P
 case false=>
  have HT:Hid (planText n P = [110,111,110,101]):=planText_f h1
  go_enter Tryz.func188,Tryz.ntmps188
  go_wp2_with (go_at_call 273;refine HC.out.mono ?_;rintro e w' ⟨rfl,d,rfl⟩;rw [h1])
  go_ret
  exact ⟨by rw [HT.out];rfl,below_of_drewN _ _ _⟩
 obtain ⟨m,rfl⟩:∃m:Nat,n=m:=⟨n.toNat,by have:=h1;unfold planB clubsB at this;simp only [Bool.and_eq_true] at this;have:=inB_t.1 this.1.1;omega⟩
 have hcap:=planB_cap h1
 have HPL:=Lib.hid h1
 have HS:=Lib.hid (And.intro hs (And.intro hn ht))
 have hbs:=brkSum_le P hcap.2.2 m
 have hcv:=carV_cap h1
 have HT:=Lib.hid (planText_t h1)
 have hl1:=Lib.itoa_length_le ((brkSum P m:Nat):Int) (by omega) (by omega)
 have hl2:=Lib.itoa_length_le (carV m P) (by omega) (by omega)
 have HST:=Lib.hid (planText_str (Lib.itoa ((brkSum P m:Nat):Int)) (Lib.itoa (carV m P)))
 clear h1 hs hn ht
 go_enter Tryz.func188,Tryz.ntmps188
 go_wp2_with (go_at_call 273;refine HC.out.mono ?_;rintro e w' ⟨rfl,d,rfl⟩;rw [HPL.out])
 have B1:Hid (Below w.heap.size w (w.drewN d)):=below_of_drewN _ _ _
 generalize w.drewN d=w1 at *
 refine (implCountBreaks_any v P m w1 (InS.below HS.out.1 B1.out) HS.out.2.1 HPL.out).mono ?_
 rintro e w2 ⟨rfl,hb⟩
 have B2:Hid (Below w.heap.size w w2):=B1.out.trans (hb.mono B1.out.size)
 clear hb
 go_wp2_with fail
 refine (implFormatInt_any _ w2 (by omega) (by omega) (HS.out.2.2.below B2.out (Nat.le_refl _))).mono ?_
 rintro e w3 ⟨rfl,hb⟩
 have B3:Hid (Below w.heap.size w w3):=B2.out.trans (hb.mono B2.out.size)
 clear hb
 go_wp2_with fail
 refine (implCarryAll_any v P m w3 (InS.below HS.out.1 B3.out) HS.out.2.1 HPL.out).mono ?_
 rintro e w4 ⟨rfl,hb⟩
 have B4:Hid (Below w.heap.size w w4):=B3.out.trans (hb.mono B3.out.size)
 clear hb
 go_wp2_with fail
 refine (implFormatInt_any _ w4 (by omega) (by omega) (HS.out.2.2.below B4.out (Nat.le_refl _))).mono ?_
 rintro e w5 ⟨rfl,hb⟩
 have B5:Hid (Below w.heap.size w w5):=B4.out.trans (hb.mono B4.out.size)
 clear hb
 go_wp2
 go_ret
 exact ⟨by rw [HT.out,←HST.out];rfl,B5.out⟩
theorem implFewest_any (v:Value) (x:TourV) (w:World) (hs:InT w v x) (hok:tourB x=true):
  Calls Tryz.prog 175 #[v] w fun e w'=>e=.returned (.int .i64 (fe x (2^x.wins.length-1)))∧Below w.heap.size w w':=by
 have HIT:=Lib.hid hs
 have HOK:=Lib.hid hok
 obtain ⟨u,rfl,A,c,rfl,hc,hm,hsl⟩:=hs
 obtain ⟨t1,t2,t3,_,_⟩:=tourB_t hok
 have hn8:x.wins.length≤8:=by omega
 have hT2:(2:Int)^x.wins.length=((2^x.wins.length:Nat):Int):=by rw [Int.natCast_pow];rfl
 have h256:(2:Nat)^x.wins.length≤256:=Nat.pow_le_pow_right (by omega) hn8
 have hpos:1≤(2:Nat)^x.wins.length:=Nat.one_le_two_pow
 have HTO:Hid (∀W,Below w.heap.size w W→Calls Tryz.prog 148 #[.agg #[.int .i64 x.size,.slice A x.wins.length c]] W fun e w'=>e=.returned (.bool true)∧Below W.heap.size W w'):=fun W hW=>by
  have h:=implTourOk_any _ x W (HIT.out.below hW)
  rwa [HOK.out] at h
 have HTAB:Hid (∀W,Below w.heap.size w W→Calls Tryz.prog 165 #[.agg #[.int .i64 x.size,.slice A x.wins.length c]] W fun e w'=>∃vb vw,e=.returned (.tuple #[vb,vw])∧InI w' vb (fsts x (2^x.wins.length))∧Below W.heap.size W w'):=fun W hW=>arranged_any _ x W (HIT.out.below hW) HOK.out
 obtain ⟨T,HT⟩:∃T:Nat,Hid (2^x.wins.length=T):=⟨_,rfl⟩
 rw [HT.out] at h256 hpos HTAB hT2 ⊢
 have HSZ:Hid (x.size=(x.wins.length:Int)):=t3.symm
 have HBX:Hid (Bx (w.alloc (.cells #[.int .i64 x.size,.slice A x.wins.length c] 27)) w.heap.size (.int .i64 x.size) (.slice A x.wins.length c)∧Below w.heap.size w (w.alloc (.cells #[.int .i64 x.size,.slice A x.wins.length c] 27))∧w.heap.size<(w.alloc (.cells #[.int .i64 x.size,.slice A x.wins.length c] 27)).heap.size):=⟨⟨by simp,by simp,by simp⟩,(Below.refl _ w).alloc (Nat.le_refl _) _,by simp⟩
 rw [HSZ.out] at HBX HTO HTAB
 rw [HSZ.out]
 have eT:wrap64 (T:Int)=T:=by unfold wrap64;omega
 have eT1:wrap64 ((T:Int)-1)=((T-1:Nat):Int):=by unfold wrap64;omega
 have eT':IntKind.i64.wrap (T:Int)=T:=by rw [IntKind.wrap_i64];omega
 have eT1':IntKind.i64.wrap ((T:Int)-1)=((T-1:Nat):Int):=by rw [IntKind.wrap_i64];omega
 have hlT:((T-1:Nat):Int)<(T:Int):=by omega
 obtain ⟨T1,HT1⟩:∃T1,Hid (T-1=T1):=⟨_,rfl⟩
 rw [HT1.out] at eT1 eT1' hlT ⊢
 clear hsl hok t1 t2 t3
 go_enter Tryz.func175,Tryz.ntmps175
 go_wp2_with (first
  | (go_at_call 148;refine (HTO.out _ HBX.out.2.1).mono ?_;rintro e w0 ⟨rfl,hb⟩;have H0:Hid (Bx w0 w.heap.size (.int .i64 (x.wins.length:Int)) (.slice A x.wins.length c)∧Below w.heap.size w w0∧w.heap.size<w0.heap.size):=(show _∧_ from ⟨HBX.out.1.below hb,HBX.out.2.1.trans (hb.mono (Nat.le_of_lt HBX.out.2.2)),Nat.lt_of_lt_of_le HBX.out.2.2 hb.size⟩);clear hb HBX;obtain ⟨q0,q1,q2⟩:=id H0.out.1)
  | (go_at_call 165;refine (HTAB.out _ H0.out.2.1).mono ?_;rintro e w1 ⟨vb,vw,rfl,hin,hb⟩;obtain ⟨bf,of,cf,rfl,hbf,hcell⟩:=hin.cells (by rw [fsts_len];omega);rw [fsts_len];have H1:Hid (Bx w1 w.heap.size (.int .i64 (x.wins.length:Int)) (.slice A x.wins.length c)∧Below w.heap.size w w1):=(show _∧_ from ⟨H0.out.1.below hb,H0.out.2.1.trans (hb.mono (Nat.le_of_lt H0.out.2.2))⟩);have qs:=hcell T1 (fe x T1) (fsts_fe (by omega));clear hin hb hcell hbf q0 q1 q2 H0;obtain ⟨q0,q1,q2⟩:=id H1.out.1))
 first
  | go_ret
  | go_outline
 all_goals exact ⟨rfl,H1.out.2⟩
def orderL (x:TourV):List Int:=bestL x 8 (2^x.wins.length-1)
def orderF (x:TourV):Int:=fe x (2^x.wins.length-1)
def orderText (x:TourV):List UInt8:=if tourB x then fmtF (orderL x)++[32]++Lib.itoa (orderF x) else [110,111,110,101]
theorem orderText_t {x:TourV} (h:tourB x=true):orderText x=fmtF (orderL x)++[32]++Lib.itoa (orderF x):=by rw [orderText,if_pos h]
theorem orderText_f {x:TourV} (h:tourB x=false):orderText x = [110,111,110,101]:=by rw [orderText,h];rfl
theorem orderL_wf (x:TourV):wfI (orderL x):=by
 intro y hy
 have:=bestL_mem _ _ y hy
 omega
theorem orderL_len (x:TourV):(orderL x).length≤8:=bestL_len _ _
theorem order_fmt (x:TourV):(fmtF (orderL x)).length≤200:=by
 have h:=orderL_wf x
 have hl:=orderL_len x
 unfold fmtF
 split
 ·simp
 ·have:=fmt_bound h;omega
theorem orderF_bd {x:TourV} (h:x.wins.length≤8):0≤orderF x∧orderF x≤64:=by
 have h2:(2:Nat)^x.wins.length≤256:=Nat.pow_le_pow_right (by omega) h
 have h3:0<(2:Nat)^x.wins.length:=Nat.pow_pos (by omega)
 exact fe_bd (by omega)
theorem orderCat (a b:List UInt8):((⟨a.toArray⟩:ByteArray)++⟨#[32]⟩)++⟨b.toArray⟩=⟨(a++[32]++b).toArray⟩:=by
 rw [show (⟨#[32]⟩:ByteArray)=⟨([32]:List UInt8).toArray⟩ from rfl,bcat,bcat]
theorem implOrderLine_any (v:Value) (x:TourV) (w:World) (hs:InT w v x) (ht:tabP w):
  Calls Tryz.prog 88 #[v] w fun e w'=>e=.returned (.string ⟨(orderText x).toArray⟩)∧Below w.heap.size w w':=by
 have HIT:=Lib.hid hs
 have HT:=Lib.hid ht
 obtain ⟨u,rfl,A,c,rfl,hc,hm,hsl⟩:=hs
 have HTO:Hid (∀W,Below w.heap.size w W→Calls Tryz.prog 148 #[.agg #[.int .i64 x.size,.slice A x.wins.length c]] W fun e w'=>e=.returned (.bool (tourB x))∧Below W.heap.size W w'):=fun W hW=>implTourOk_any _ x W (HIT.out.below hW)
 have HBX:Hid (Bx (w.alloc (.cells #[.int .i64 x.size,.slice A x.wins.length c] 27)) w.heap.size (.int .i64 x.size) (.slice A x.wins.length c)∧Below w.heap.size w (w.alloc (.cells #[.int .i64 x.size,.slice A x.wins.length c] 27))∧w.heap.size<(w.alloc (.cells #[.int .i64 x.size,.slice A x.wins.length c] 27)).heap.size):=⟨⟨by simp,by simp,by simp⟩,(Below.refl _ w).alloc (Nat.le_refl _) _,by simp⟩
 clear hsl
 cases h1:tourB x
 case false=>
  have HX:Hid (orderText x = [110,111,110,101]):=orderText_f h1
  go_enter Tryz.func88,Tryz.ntmps88
  go_wp2_with (go_at_call 148;refine (HTO.out _ HBX.out.2.1).mono ?_;rintro e w1 ⟨rfl,hb⟩;rw [h1];have HB:Hid (Below w.heap.size w w1):=HBX.out.2.1.trans (hb.mono HBX.out.2.1.size);clear hb)
  go_ret
  exact ⟨by rw [HX.out];rfl,HB.out⟩
 obtain ⟨t1,t2,t3,_,_⟩:=tourB_t h1
 have HX:Hid (orderText x=fmtF (orderL x)++[32]++Lib.itoa (orderF x)):=orderText_t h1
 have HOK:=Lib.hid h1
 have HWF:=Lib.hid (orderL_wf x)
 have HLL:=Lib.hid (orderL_len x)
 have g1:=order_fmt x
 have hfb:=orderF_bd (x:=x) (by omega)
 have HBO:Hid (∀W,Below w.heap.size w W→Calls Tryz.prog 76 #[.agg #[.int .i64 x.size,.slice A x.wins.length c]] W fun e w'=>∃v',e=.returned v'∧Fr w' W.heap.size w'.heap.size v' (orderL x)∧Below W.heap.size W w'):=fun W hW=>implBestOrder_any _ x W (HIT.out.below hW) HOK.out
 have HFW:Hid (∀W,Below w.heap.size w W→Calls Tryz.prog 175 #[.agg #[.int .i64 x.size,.slice A x.wins.length c]] W fun e w'=>e=.returned (.int .i64 (orderF x))∧Below W.heap.size W w'):=fun W hW=>implFewest_any _ x W (HIT.out.below hW) HOK.out
 obtain ⟨F,HF⟩:∃F,Hid (orderF x=F):=⟨_,rfl⟩
 rw [HF.out] at HX hfb HFW
 have hl2:=Lib.itoa_length_le F (by omega) (by omega)
 obtain ⟨T1,HT1⟩:∃T1,Hid (fmtF (orderL x)=T1):=⟨_,rfl⟩
 obtain ⟨T2,HT2⟩:∃T2,Hid (Lib.itoa F=T2):=⟨_,rfl⟩
 rw [HT1.out] at HX g1
 rw [HT2.out] at HX hl2
 have HCAT:=Lib.hid (orderCat T1 T2)
 have n1:¬ 9223372036854775807<T1.length+1:=by omega
 have n2:¬ 9223372036854775807<T1.length+1+T2.length:=by omega
 clear h1 t1 t2 t3
 go_enter Tryz.func88,Tryz.ntmps88
 go_wp2_with (go_at_call 148;refine (HTO.out _ HBX.out.2.1).mono ?_;rintro e w1 ⟨rfl,hb⟩;rw [HOK.out];have H1:Hid (Bx w1 w.heap.size (.int .i64 x.size) (.slice A x.wins.length c)∧Below w.heap.size w w1):=⟨HBX.out.1.below hb,HBX.out.2.1.trans (hb.mono (Nat.le_of_lt HBX.out.2.2))⟩;clear hb)
 obtain ⟨q0,q1,-⟩:=id H1.out.1
 have H1B:Hid (Below w.heap.size w w1.drew):=below_drewL H1.out.2
 have H1X:Hid (Bx w1.drew w.heap.size (.int .i64 x.size) (.slice A x.wins.length c)):=H1.out.1.drew
 go_region_held3 (fun W=>W.cell? ⟨w.heap.size,0,none⟩=some (.int .i64 x.size)∧W.cell? ⟨w.heap.size,1,none⟩=some (.slice A x.wins.length c)) (first|exact ⟨q0,q1⟩|exact ⟨H5.out.1.1,H5.out.1.2.1⟩|exact ⟨H4.out.1.1,H4.out.1.2.1⟩|exact ⟨H3.out.1.1,H3.out.1.2.1⟩|exact ⟨H2.out.1.1,H2.out.1.2.1⟩) (first
  | (go_at_call 76;refine (HBO.out _ H1B.out).mono ?_;rintro e w2 ⟨v2,rfl,hf,hb⟩;have H2:Hid (Bx w2 w.heap.size (.int .i64 x.size) (.slice A x.wins.length c)∧Below w.heap.size w w2∧InI w2 v2 (orderL x)):=(show _∧_ from ⟨H1X.out.below hb,H1B.out.trans (hb.mono H1B.out.size),hf.in_⟩);clear hb hf)
  | (go_at_call 96;refine (implFormatNumbers_any v2 (orderL x) _ H2.out.2.2 (by have:=HLL.out;omega) HWF.out (HT.out.below H2.out.2.1 (Nat.le_refl _))).mono ?_;rintro e w3 ⟨rfl,hb⟩;rw [HT1.out];have H3:Hid (Bx w3 w.heap.size (.int .i64 x.size) (.slice A x.wins.length c)∧Below w.heap.size w w3):=(show _∧_ from ⟨H2.out.1.below hb,H2.out.2.1.trans (hb.mono H2.out.2.1.size)⟩);clear hb)
  | (go_at_call 175;refine (HFW.out _ H3.out.2).mono ?_;rintro e w4 ⟨rfl,hb⟩;have H4:Hid (Bx w4 w.heap.size (.int .i64 x.size) (.slice A x.wins.length c)∧Below w.heap.size w w4):=(show _∧_ from ⟨H3.out.1.below hb,H3.out.2.trans (hb.mono H3.out.2.size)⟩);clear hb)
  | (go_at_call 13;refine (implFormatInt_any F _ (by omega) (by omega) (HT.out.below H4.out.2 (Nat.le_refl _))).mono ?_;rintro e w5 ⟨rfl,hb⟩;rw [HT2.out];have H5:Hid (Bx w5 w.heap.size (.int .i64 x.size) (.slice A x.wins.length c)∧Below w.heap.size w w5):=(show _∧_ from ⟨H4.out.1.below hb,H4.out.2.trans (hb.mono H4.out.2.size)⟩);clear hb))
 go_wp2
 go_ret
 exact ⟨by rw [HX.out,←HCAT.out];rfl,H5.out.2⟩
structure CoA (w0 W:World) (b:Nat) (x:TourV) (ws:List (List UInt8)) (bad:Bool) (A:Option Addr) (c:Nat) (B:Option Addr) (d lo hi:Nat):Prop where
 be:Below w0.heap.size w0 W
 hb:w0.heap.size≤b
 cl:W.heap[b]? = some (.cells #[.int .i64 x.size,.slice A x.wins.length c,.slice B ws.length d,.bool bad] 54 (0,0))
 ow:OwT W lo hi (.agg #[.int .i64 x.size,.slice A x.wins.length c]) x
 ap:w0.heap.size≤lo∧(b<lo∨hi≤b)
 wd:SlV W B (strs ws)
 wn:∀a,B=some a→a.block≠b
theorem CoA.co {w0 W:World}{b:Nat}{x:TourV}{ws:List (List UInt8)}{bad:Bool}{A B:Option Addr}{c d lo hi:Nat} (h:CoA w0 W b x ws bad A c B d lo hi):CoW w0 W b x ws bad:=
 ⟨h.be,h.hb,A,c,B,d,lo,hi,h.cl,h.ow,h.ap,h.wd,h.wn⟩
theorem CoW.names {w0 W:World}{b:Nat}{x:TourV}{ws:List (List UInt8)}{bad:Bool} (h:CoW w0 W b x ws bad):∃A c B d lo hi,CoA w0 W b x ws bad A c B d lo hi:=by
 obtain ⟨be,hb,A,c,B,d,lo,hi,q1,q2,q3,q4,q5⟩:=h
 exact ⟨A,c,B,d,lo,hi,be,hb,q1,q2,q3,q4,q5⟩
theorem CoA.grow {w0 W W':World}{b:Nat}{x:TourV}{ws:List (List UInt8)}{bad:Bool}{A B:Option Addr}{c d lo hi:Nat} (h:CoA w0 W b x ws bad A c B d lo hi) (hb:Below W.heap.size W W'):CoA w0 W' b x ws bad A c B d lo hi:=by
 have hbs:=(Array.getElem?_eq_some_iff.1 h.cl).1
 exact ⟨h.be.trans (hb.mono h.be.size),h.hb,(hb.block _ hbs).trans h.cl,h.ow.grow hb,h.ap,slV_keep h.wd (lo:=0) (hi:=0) (Keep.of_below hb (Nat.le_refl _)) (fun a _=>.inr (Nat.zero_le _)),h.wn⟩
theorem CoA.drew {w0 W:World}{b:Nat}{x:TourV}{ws:List (List UInt8)}{bad:Bool}{A B:Option Addr}{c d lo hi:Nat} (h:CoA w0 W b x ws bad A c B d lo hi):CoA w0 W.drew b x ws bad A c B d lo hi:=h.grow (below_of_drewN _ W 1)
theorem CoA.in_ {w0 W:World}{b:Nat}{x:TourV}{ws:List (List UInt8)}{bad:Bool}{A B:Option Addr}{c d lo hi:Nat} (h:CoA w0 W b x ws bad A c B d lo hi):InT W (.agg #[.int .i64 x.size,.slice A x.wins.length c]) x:=h.ow.in_
theorem CoA.cells {w0 W:World}{b:Nat}{x:TourV}{ws:List (List UInt8)}{bad:Bool}{A B:Option Addr}{c d lo hi:Nat} (h:CoA w0 W b x ws bad A c B d lo hi):W.cell? ⟨b,0,none⟩=some (.int .i64 x.size)∧W.cell? ⟨b,1,none⟩=some (.slice A x.wins.length c):=by
 obtain ⟨c0,c1,-⟩:=con_cells h.cl
 exact ⟨c0,c1⟩
theorem CoA.setBad {w0 W:World}{b:Nat}{x:TourV}{ws:List (List UInt8)}{bad:Bool}{A B:Option Addr}{c d lo hi:Nat} (h:CoA w0 W b x ws bad A c B d lo hi) (bad':Bool):CoA w0 (W.setCell ⟨b,3,none⟩ (.bool bad')) b x ws bad' A c B d lo hi∧Keep b (b+1) W (W.setCell ⟨b,3,none⟩ (.bool bad')):=by
 have K:Keep b (b+1) W (W.setCell ⟨b,3,none⟩ (.bool bad')):=Keep.setCell (p:=⟨b,3,none⟩) (Keep.refl b (b+1) W) (Nat.le_refl _) (Nat.lt_succ_self _) _
 exact ⟨⟨h.be.trans (K.below h.hb h.be.size),h.hb,con_set3 h.cl _,h.ow.keep K (by have:=h.ap;omega),h.ap,slV_keep h.wd K (fun a ha=>by have:=h.wn a ha;omega),h.wn⟩,K⟩
theorem Keep.ofBe {lo hi:Nat}{w w':World} (h:Below w.heap.size w w'):Keep lo hi w w':=Keep.of_below h (Nat.le_refl _)
def ComP (w:World):Prop:=tabP w∧errP w∧mlP w
theorem mlP.below {B:Nat}{w w':World} (h:mlP w) (hb:Below B w w') (hB:w.heap.size≤B):mlP w':=by
 obtain ⟨m,h⟩:=h
 exact ⟨m,((hb.mono hB).cell (p:=⟨0,0,none⟩) (block_lt_of_cell h)).trans h⟩
theorem ComP.below {w w':World} (h:ComP w) (hb:Below w.heap.size w w'):ComP w':=⟨h.1.below hb (Nat.le_refl _),h.2.1.below hb (Nat.le_refl _),h.2.2.below hb (Nat.le_refl _)⟩
theorem CoA.com {w0 W:World}{b:Nat}{x:TourV}{ws:List (List UInt8)}{bad:Bool}{A B:Option Addr}{c d lo hi:Nat} (h:CoA w0 W b x ws bad A c B d lo hi) (hc:ComP w0):ComP W:=hc.below h.be
def wd (ws:List (List UInt8)) (i:Nat):List UInt8:=ws.getD i []
def numV (l:List UInt8):Int:=(numOf l).getD 0
def numB (l:List UInt8):Bool:=(numOf l).isSome
theorem wd_at {ws:List (List UInt8)}{i:Nat} (h:i<ws.length):ws[i]? = some (wd ws i):=by
 rw [wd,List.getD_eq_getElem?_getD,List.getElem?_eq_getElem h];rfl
theorem wd_le {ws:List (List UInt8)} (h:∀l∈ws,l.length≤1048576) (i:Nat):(wd ws i).length≤1048576:=by
 rw [wd,List.getD_eq_getElem?_getD]
 cases e:ws[i]? with
 | none=>simp
 | some l=>exact h l (List.mem_of_getElem? e)
theorem number_co (w0 W:World) (b i:Nat) (x:TourV) (ws:List (List UInt8)) (bad:Bool) (A B:Option Addr) (c d lo hi:Nat) (h:CoA w0 W b x ws bad A c B d lo hi) (hc:ComP w0) (hl:∀l∈ws,l.length≤1048576) (hi':i<ws.length):
  Calls Tryz.prog 68 #[.pointer (some ⟨b,0,none⟩),.int .i64 (i:Int)] W fun e w'=>e=.returned (.int .i64 (numV (wd ws i)))∧CoA w0 w' b x ws (bad || !numB (wd ws i)) A c B d lo hi∧Keep b (b+1) W w':=by
 have hC:=h.com hc
 refine (number_any W b ws.length d i _ B _ _ bad ws (wd ws i) h.cl h.wd rfl (wd_at hi') (wd_le hl i) hC.2.1 hC.1).mono ?_
 rintro e w' ⟨rfl,W1,hb,rfl⟩
 obtain ⟨h1,h2⟩:=(h.grow hb).setBad (bad || !numB (wd ws i))
 exact ⟨rfl,h1,(Keep.ofBe hb).trans h2⟩
theorem numbers_co (w0 W:World) (b i:Nat) (x:TourV) (ws:List (List UInt8)) (bad:Bool) (A B:Option Addr) (c d lo hi:Nat) (h:CoA w0 W b x ws bad A c B d lo hi) (hc:ComP w0) (hl:∀l∈ws,l.length≤1048576) (hi':i<ws.length):
  Calls Tryz.prog 73 #[.pointer (some ⟨b,0,none⟩),.int .i64 (i:Int)] W fun e w'=>∃v',e=.returned v'∧InI w' v' (pnF (wd ws i))∧CoA w0 w' b x ws (bad || !pnB (wd ws i)) A c B d lo hi∧Keep b (b+1) W w':=by
 have hC:=h.com hc
 refine (numbers_any W b ws.length d i _ B _ _ bad ws (wd ws i) h.cl h.wd rfl (wd_at hi') (wd_le hl i) hC.2.1 hC.1).mono ?_
 rintro e w' ⟨v',W1,rfl,hf,hb,rfl⟩
 obtain ⟨h1,h2⟩:=(h.grow hb).setBad (bad || !pnB (wd ws i))
 have hbs:=(Array.getElem?_eq_some_iff.1 h.cl).1
 exact ⟨v',rfl,(hf.keep h2 (.inr (by omega))).in_,h1,(Keep.ofBe hb).trans h2⟩
def bstF (x:TourV):List Int:=if tourB x then orderL x else []
theorem bstF_len (x:TourV):(bstF x).length≤1048576:=by
 unfold bstF
 split
 ·exact Nat.le_trans (orderL_len x) (by omega)
 ·simp
theorem implBestAll_any (v:Value) (x:TourV) (w:World) (hs:InT w v x):
  Calls Tryz.prog 76 #[v] w fun e w'=>∃A2 c2,e=.returned (.slice A2 (bstF x).length c2)∧InI w' (.slice A2 (bstF x).length c2) (bstF x)∧Below w.heap.size w w':=by
 cases h1:tourB x
 case true=>
  have hE:bstF x=orderL x:=by unfold bstF;rw [h1];rfl
  rw [hE]
  refine (implBestOrder_any v x w hs h1).mono ?_
  rintro e w' ⟨v',rfl,hf,hb⟩
  obtain ⟨A2,c2,rfl,_,_⟩:=hf.form
  exact ⟨A2,c2,rfl,hf.in_,hb⟩
 case false=>
  have HE:Hid (bstF x = []):=by show _=_;unfold bstF;rw [h1];rfl
  have HIT:=Lib.hid hs
  obtain ⟨u,rfl,A0,c0,rfl,hc,hm,hsl⟩:=hs
  have HB0:Hid (Below w.heap.size w (w.alloc (.cells #[.int .i64 x.size,.slice A0 x.wins.length c0] 27))):=(Below.refl _ w).alloc (Nat.le_refl _) _
  have HTO:Hid (∀W,Below w.heap.size w W→Calls Tryz.prog 148 #[.agg #[.int .i64 x.size,.slice A0 x.wins.length c0]] W fun e w'=>e=.returned (.bool (tourB x))∧Below W.heap.size W w'):=fun W hW=>implTourOk_any _ x W (HIT.out.below hW)
  rw [h1] at HTO
  clear hsl hc hm h1
  go_enter Tryz.func76,Tryz.ntmps76
  go_wp2_with (go_at_call 148;refine (HTO.out _ HB0.out).mono ?_;rintro e w1 ⟨rfl,hb⟩;have B1:Hid (Below w.heap.size w w1):=HB0.out.trans (hb.mono HB0.out.size);clear hb)
  go_ret
  rw [HE.out]
  exact ⟨none,0,rfl,⟨none,0,rfl,Nat.le_refl _,by decide,.inl rfl⟩,B1.out⟩
theorem bfF_in {x:TourV}{a:Int}{L:List Int} (h:bfF x a=some L):L.length≤8∧∀y∈L,0≤y∧y<8:=by
 unfold bfF at h
 split at h
 ·rename_i h1
  rw [Bool.and_eq_true] at h1
  obtain ⟨t1,t2,t3,_⟩:=tourB_t h1.1
  have h2:=List.mem_of_find?_eq_some h
  obtain ⟨h3,h4,-⟩:=allOS_mem.1 h2
  exact ⟨by omega,fun y hy=>by have:=h4 y hy;omega⟩
 ·cases h
theorem bfF_len (x:TourV) (a:Int):((bfF x a).getD []).length≤1048576:=by
 cases h:bfF x a with
 | none=>simp
 | some L=>exact Nat.le_trans (bfF_in h).1 (by omega)
theorem bfF_wf (x:TourV) (a:Int):wfI ((bfF x a).getD []):=by
 cases h:bfF x a with
 | none=>intro y hy;simp at hy
 | some L=>intro y hy;have:=(bfF_in h).2 y hy;omega
theorem LR.listed {w w':World}{e:Ending}{o:Option (List Int)} (h:LR w e w' o):∃v,e=.returned (.tuple #[v,.bool o.isSome])∧(o.isSome=true→InI w' v (o.getD []))∧Below w.heap.size w w':=by
 obtain ⟨hb,hm⟩:=h
 cases o with
 | none=>exact ⟨_,hm,(fun h=>by cases h),hb⟩
 | some l=>obtain ⟨v',he,hf⟩:=hm;exact ⟨v',he,fun _=>hf.in_,hb⟩
theorem waysF_bd (i k:Int):-9223372036854775808≤waysF i k∧waysF i k≤9223372036854775807:=by
 unfold waysF
 split
 ·rename_i h
  obtain ⟨h1,h2⟩:=mOk_t.1 h
  have:=ways_cap (i:=i.toNat) (k:=k.toNat) (by omega)
  omega
 ·omega
end Go.Proofs.YtkapoldjcpfdgaaGreatDoor
