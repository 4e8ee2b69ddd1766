/- slices.SortFunc at few integers, at a row cut at its head. -/
import Derived.StillTail
import Derived.Deep.Quiet
import Derived.Test.YtkapoldjcpfdgaaGreatDoorMao
set_option maxHeartbeats 8000000
set_option maxRecDepth 100000
namespace Go.Proofs.YtkapoldjcpfdgaaGreatDoor
open Go.ChangeShapes Go.WideShapes Go.ChangeAt Go.RowKit
theorem cmpLess_any (a b:Int) (w:World):Calls Tryz.prog 314 #[.int .i64 a,.int .i64 b] w fun e w'=>e=.returned (.bool (decide (a<b)))∧w=w':=by
 by_cases h:a<b
 ·go_enter Tryz.func314,Tryz.ntmps314
  go_wp2_with (go_at_call 245;refine (isNaN_any _ _).mono ?_;rintro e w' ⟨rfl,rfl⟩)
  go_ret
  exact ⟨by simp [h],rfl⟩
 ·go_enter Tryz.func314,Tryz.ntmps314
  go_wp2_with (go_at_call 245;refine (isNaN_any _ _).mono ?_;rintro e w' ⟨rfl,rfl⟩)
  go_ret
  exact ⟨by simp,rfl⟩
def srtF (xs:List Int) (k:Nat):Bool:=(List.range xs.length).all fun i=>decide (i<k) || decide (i=0) || !decide (xs.getD i 0<xs.getD (i-1) 0)
def srtB (xs:List Int):Bool:=srtF xs 1
theorem srtF_top (xs:List Int):srtF xs xs.length=true:=by
 unfold srtF
 rw [List.all_eq_true]
 intro i hi
 rw [List.mem_range] at hi
 simp [hi]
theorem srtF_hit {xs:List Int}{k:Nat} (hk:k<xs.length) (h1:1≤k) (h:xs.getD k 0<xs.getD (k-1) 0):srtB xs=false:=by
 unfold srtB srtF
 rw [List.all_eq_false]
 refine ⟨k,List.mem_range.2 hk,?_⟩
 simp only [decide_eq_true h,decide_eq_false (show ¬k<1 by omega),decide_eq_false (show ¬k=0 by omega)]
 decide
theorem srtF_step {xs:List Int}{k:Nat} (h:¬xs.getD k 0<xs.getD (k-1) 0) (hs:srtF xs (k+1)=true):srtF xs k=true:=by
 unfold srtF at hs ⊢
 rw [List.all_eq_true] at hs ⊢
 intro i hi
 have h1:=hs i hi
 by_cases e:i=k
 ·subst e;simp only [decide_eq_false h];simp
 ·by_cases e2:i<k
  ·simp [e2]
  ·simp only [decide_eq_false (show ¬i<k+1 by omega)] at h1
   simp only [decide_eq_false e2]
   exact h1
theorem isSorted_any (A:Option Addr) (c:Nat) (xs:List Int) (w:World) (hs:SlI w A xs) (hn:xs.length≤1048576):
  Calls Tryz.prog 242 #[.slice A xs.length c] w fun e w'=>e=.returned (.bool (srtB xs))∧Below w.heap.size w w':=by
 generalize hl:xs.length=n at *
 have HL:=Lib.hid hl
 have HS:=Lib.hid hs
 have HTOP:Hid (srtF xs n=true):=by show _=_;rw [←hl];exact srtF_top xs
 clear hl hs
 go_enter Tryz.func242,Tryz.ntmps242
 go_wp2
 go_loopw [3] (fun i wr=>∃k:Nat,k≤n∧i=.int .i64 ((k:Int)-1)∧Hid (srtF xs k=true∧Below w.heap.size w wr∧SlI wr A xs)) (fun i _=>(intOf i).toNat)
 case atStart=>exact ⟨n,Nat.le_refl _,by go_num,HTOP.out,Below.refl _ _,HS.out⟩
 case round=>
  obtain ⟨k,hk,rfl,HR⟩:=hrel
  clear HTOP
  by_cases hlt:1<k
  case neg=>
   have HE:Hid (srtB xs=true):=by
    show _=_
    have h:=HR.out.1
    rcases Nat.eq_zero_or_pos k with h0|h0
    ·subst h0
     unfold srtB srtF
     unfold srtF at h
     rw [List.all_eq_true] at h ⊢
     intro i hi
     have h1:=h i hi
     by_cases e:i<1
     ·simp [e]
     ·simp only [decide_eq_false (show ¬i<0 by omega)] at h1
      simp only [decide_eq_false e]
      exact h1
    ·obtain rfl:k=1:=by omega
     exact h
   have hg:¬(0:Int)<(k:Int)-1:=by omega
   go_wp2
   go_ret
   exact ⟨by rw [HE.out];rfl,HR.out.2.1⟩
  obtain ⟨j,rfl⟩:∃j,k=j+2:=⟨k-2,by omega⟩
  have ej:(((j+2:Nat):Int)-1)=(((j+1:Nat)):Int):=by omega
  rw [ej]
  clear ej hlt
  have hg:(0:Int)<((j+1:Nat):Int):=by omega
  have ew:(((j+1:Nat):Int)-1)=((j:Nat):Int):=by omega
  obtain ⟨b,off,y,rfl,hy,cy,-⟩:=HR.out.2.2.at_ (k:=j+1) (by rw [HL.out];omega)
  obtain ⟨b2,off2,z,e,hz,cz,-⟩:=HR.out.2.2.at_ (k:=j) (by rw [HL.out];omega)
  injection e with e;injection e with e1 e2;subst e1;subst e2
  have hyD:xs.getD (j+1) 0=y:=by rw [List.getD_eq_getElem?_getD,hy];rfl
  have hzD:xs.getD j 0=z:=by rw [List.getD_eq_getElem?_getD,hz];rfl
  have f1:(0:Int)≤((j+1:Nat):Int)∧((j+1:Nat):Int)<(n:Int):=by omega
  have f2:(0:Int)≤((j:Nat):Int)∧((j:Nat):Int)<(n:Int):=by omega
  have HYZ:=Lib.hid (And.intro hyD hzD)
  clear hy hz hyD hzD
  by_cases hc:y<z
  ·have HE:Hid (srtB xs=false):=srtF_hit (k:=j+1) (by rw [HL.out];omega) (by omega) (by rw [HYZ.out.1,Nat.add_sub_cancel,HYZ.out.2];exact hc)
   have HLE:Hid (∀W,Calls Tryz.prog 314 #[.int .i64 y,.int .i64 z] W fun e w'=>e=.returned (.bool true)∧W=w'):=fun W=>by
    have h:=cmpLess_any y z W
    rwa [decide_eq_true hc] at h
   go_wp2_with fail
   go_quiet (first|(go_at_call 314;exact quiet_left (HLE.out _)))
   rename_i nq
   have HB:Hid (Below w.heap.size w (wr.drewN nq)):=below_drewN HR.out.2.1 nq
   generalize wr.drewN nq=w1 at *
   go_wp2
   go_ret
   exact ⟨by rw [HE.out];rfl,HB.out⟩
  ·have HN:Hid (srtF xs (j+1)=true):=srtF_step (by rw [HYZ.out.1,Nat.add_sub_cancel,HYZ.out.2];exact hc) HR.out.1
   have HLE:Hid (∀W,Calls Tryz.prog 314 #[.int .i64 y,.int .i64 z] W fun e w'=>e=.returned (.bool false)∧W=w'):=fun W=>by
    have h:=cmpLess_any y z W
    rwa [decide_eq_false hc] at h
   go_wp2_with fail
   go_quiet (first|(go_at_call 314;exact quiet_left (HLE.out _)))
   rename_i nq
   have HB:Hid (Below w.heap.size w (wr.drewN nq)∧SlI (wr.drewN nq) (some ⟨b,off,none⟩) xs):=⟨below_drewN HR.out.2.1 nq,HR.out.2.2⟩
   generalize wr.drewN nq=w1 at *
   go_wp2
   go_roundw
   case rel=>exact ⟨j+1,by omega,by go_num,HN.out,HB.out⟩
   case measure=>simp [intOf]
def slkS (xs:List Int):Nat→Int
 | 0=>0
 | k+1=>slkS xs k+(xs.getD k 0-k)
def slkL (xs:List Int):Nat→List Int
 | 0=>[]
 | k+1=>slkL xs k++[slkS xs (k+1)]
theorem slkL_len (xs:List Int):∀k,(slkL xs k).length=k
 | 0=>rfl
 | k+1=>by rw [slkL,List.length_append,slkL_len xs k];rfl
theorem slkS_bd {xs:List Int} (h:∀i,0≤xs.getD i 0∧xs.getD i 0≤8):∀k:Nat,k≤8→-(8*(k:Int))≤slkS xs k∧slkS xs k≤8*(k:Int)
 | 0,_=>by simp [slkS]
 | k+1,hk=>by
  have ih:=slkS_bd h k (by omega)
  have:=h k
  rw [slkS]
  omega
theorem slackOf_any (A:Option Addr) (c:Nat) (xs:List Int) (w:World) (hs:SlI w A xs) (hn:xs.length≤8) (hb:∀i,0≤xs.getD i 0∧xs.getD i 0≤8):
  Calls Tryz.prog 243 #[.slice A xs.length c] w fun e w'=>∃v',e=.returned v'∧Fr w' w.heap.size w'.heap.size v' (slkL xs xs.length)∧Below w.heap.size w w':=by
 generalize hl:xs.length=n at *
 have HL:=Lib.hid hl
 have HS:=Lib.hid hs
 have HSB:Hid (∀k:Nat,k≤8→-(8*(k:Int))≤slkS xs k∧slkS xs k≤8*(k:Int)):=fun k hk=>slkS_bd hb k hk
 have HBD:=Lib.hid hb
 have H0:Hid (Fr w w.heap.size w.heap.size (.slice none 0 0) (slkL xs 0)):=Fr.nil _ (Nat.le_refl _)
 clear hl hs hb
 go_enter Tryz.func243,Tryz.ntmps243
 go_wp2
 go_loopw [3,4,9] (fun o s i wr=>∃(k:Nat) (v':Value),k≤n∧i=.int .i64 (k:Int)∧v'=o∧s=.int .i64 (slkS xs k)∧Hid (Fr wr w.heap.size wr.heap.size v' (slkL xs k)∧Below w.heap.size w wr)) (fun _ _ i _=>n-(intOf i).toNat)
 case atStart=>exact ⟨0,_,Nat.zero_le _,rfl,rfl,rfl,H0.out,Below.refl _ _⟩
 case round=>
  obtain ⟨k,v',hk,rfl,rfl,rfl,HR⟩:=hrel
  by_cases hlt:k<n
  case neg=>
   obtain rfl:n=k:=by omega
   go_wp2
   go_ret
   exact ⟨_,rfl,HR.out.1,HR.out.2⟩
  obtain ⟨b,off,y,rfl,hy,cy,-⟩:=(HS.out.below HR.out.2).at_ (k:=k) (by rw [HL.out];exact hlt)
  have hyD:xs.getD k 0=y:=by rw [List.getD_eq_getElem?_getD,hy];rfl
  have hyb:=HBD.out k
  rw [hyD] at hyb
  obtain ⟨s,hs⟩:∃s,slkS xs k=s:=⟨_,rfl⟩
  have hsb:=HSB.out k (by omega)
  rw [hs] at hsb ⊢
  have HN:Hid (slkS xs (k+1)=s+(y-k)):=by show _=_;rw [slkS,hs,hyD]
  have HNL:Hid (slkL xs (k+1)=slkL xs k++[s+(y-k)]):=by show _=_;rw [slkL,HN.out]
  have e1:IntKind.i64.wrap (y-(k:Int))=y-k:=by rw [IntKind.wrap_i64];omega
  have e2:IntKind.i64.wrap (s+(y-(k:Int)))=s+(y-k):=by rw [IntKind.wrap_i64];omega
  clear hy hs hyD
  go_wp2_with (at_builtin;refine app1 rfl _ _ rfl wr w.heap.size v' k (slkL xs k) rfl (by have h:=HR.out.1.1;rw [slkL_len] at h;exact h) (s+(y-k)) rfl (by omega) HR.out.2.size ?_;intro v2 w2 hown2 hb2 hsz2 _)
  have HO:Hid (Fr w2 w.heap.size w2.heap.size v2 (slkL xs (k+1))∧Below w.heap.size w w2):=by
   refine ⟨Fr.of_own ?_,HR.out.2.trans (hb2 w.heap.size (Nat.le_refl _) HR.out.2.size)⟩
   rw [slkL_len,HNL.out];exact hown2
  clear hown2 hb2 hsz2
  go_wp2
  go_roundw
  case rel=>exact ⟨k+1,v2,by omega,by go_num,rfl,by rw [HN.out],HO.out⟩
  case measure=>simp [intOf];omega
def minTo (l:List Int):Nat→Int
 | 0=>l.getD 0 0
 | k+1=>if l.getD (k+1) 0<minTo l k then l.getD (k+1) 0 else minTo l k
theorem slicesMin_any (A:Option Addr) (c:Nat) (xs:List Int) (w:World) (hs:SlI w A xs) (h0:0<xs.length) (hn:xs.length≤1048576):
  Calls Tryz.prog 244 #[.slice A xs.length c] w fun e w'=>e=.returned (.int .i64 (minTo xs (xs.length-1)))∧w=w':=by
 obtain ⟨b,off,x0,rfl,hx0,hc0,-⟩:=hs.at_ h0
 rw [Nat.add_zero] at hc0
 have HS:=Lib.hid hs
 have H0:Hid (minTo xs 0=x0):=by show List.getD _ _ _=_;rw [List.getD_eq_getElem?_getD,hx0];rfl
 generalize hl:xs.length=n at *
 have HL:=Lib.hid hl
 clear hl hs hx0
 go_enter Tryz.func244,Tryz.ntmps244
 go_wp2
 go_loop [3,4] (fun m i=>∃q:Nat,1≤q∧q≤n∧i=.int .i64 q∧m=.int .i64 (minTo xs (q-1))) (fun _ i=>n-(intOf i).toNat)
 case atStart=>exact ⟨1,Nat.le_refl _,h0,rfl,by rw [show 1-1=0 from rfl,H0.out]⟩
 case round=>
  obtain ⟨q,hq1,hq,rfl,rfl⟩:=hrel
  by_cases hlt:q<n
  ·obtain ⟨b',off',y,e,hy,hcy,-⟩:=HS.out.at_ (k:=q) (by rw [HL.out];exact hlt)
   injection e with e;injection e with r1 r2 _;subst r1;subst r2
   have HN:Hid (minTo xs (q+1-1)=if y<minTo xs (q-1) then y else minTo xs (q-1)):=by
    show _=_
    obtain ⟨j,rfl⟩:∃j,q=j+1:=⟨q-1,by omega⟩
    have hyD:xs.getD (j+1) 0=y:=by rw [List.getD_eq_getElem?_getD,hy];rfl
    rw [show j+1+1-1=j+1 from rfl,show j+1-1=j from rfl,minTo,hyD]
   clear hy
   generalize minTo xs (q-1)=M at *
   by_cases hm:y<M
   ·have HN2:Hid (minTo xs (q+1-1)=y):=by show _=_;rw [HN.out,if_pos hm]
    go_wp2
    go_round
    case rel=>exact ⟨q+1,by omega,by omega,by go_num,by rw [HN2.out];exact congrArg (Value.int .i64) (by omega)⟩
    case measure=>simp [intOf];omega
   ·have HN2:Hid (minTo xs (q+1-1)=M):=by show _=_;rw [HN.out,if_neg hm]
    go_wp2
    go_round
    case rel=>exact ⟨q+1,by omega,by omega,by go_num,by rw [HN2.out];exact congrArg (Value.int .i64) (by omega)⟩
    case measure=>simp [intOf];omega
  ·obtain rfl:q=n:=by omega
   go_wp2
   go_ret
   exact ⟨rfl,rfl⟩
def landB (xs:List Int):Bool:=inB (xs.length:Int) 1 8 && (xs.all (fun x=>inB x 0 8) && (srtB xs && (decide (0≤minTo (slkL xs xs.length) (xs.length-1)) && decide (slkS xs xs.length=0))))
theorem slkL_get (xs:List Int):∀k i,i<k→(slkL xs k)[i]? = some (slkS xs (i+1))
 | 0,i,h=>by omega
 | k+1,i,h=>by
  rw [slkL]
  rcases Nat.lt_or_ge i k with h1|h1
  ·rw [List.getElem?_append_left (by rw [slkL_len];exact h1)];exact slkL_get xs k i h1
  ·obtain rfl:i=k:=by omega
   rw [List.getElem?_append_right (by rw [slkL_len];exact Nat.le_refl _),slkL_len,Nat.sub_self];rfl
theorem all_bd {xs:List Int}{lo hi:Int} (h0:lo≤0) (h1:0≤hi) (h:xs.all (fun x=>inB x lo hi)=true) (i:Nat):lo≤xs.getD i 0∧xs.getD i 0≤hi:=by
 rw [List.getD_eq_getElem?_getD]
 cases hx:xs[i]? with
 | none=>exact ⟨h0,h1⟩
 | some y=>exact inB_t.1 (List.all_eq_true.1 h y (List.mem_of_getElem? hx))
theorem implIsLandau_any (A:Option Addr) (c:Nat) (xs:List Int) (w:World) (hs:SlI w A xs) (hn:xs.length≤1048576):
  Calls Tryz.prog 156 #[.slice A xs.length c] w fun e w'=>e=.returned (.bool (landB xs))∧Below w.heap.size w w':=by
 have HS:=Lib.hid hs
 have HN:=Lib.hid hn
 have HLB:Hid (landB xs=(inB (xs.length:Int) 1 8 && (xs.all (fun x=>inB x 0 8) && (srtB xs && (decide (0≤minTo (slkL xs xs.length) (xs.length-1)) && decide (slkS xs xs.length=0)))))):=rfl
 have HAW:Hid (∀W,Below w.heap.size w W→Calls Tryz.prog 239 #[.slice A xs.length c,.int .i64 0,.int .i64 8] W fun e w'=>e=.returned (.bool (xs.all (fun x=>inB x 0 8)))∧Below W.heap.size W w'):=fun W hW=>allWithin_any A c xs 0 8 W (HS.out.below hW) HN.out
 have HSO:Hid (∀W,Below w.heap.size w W→Calls Tryz.prog 242 #[.slice A xs.length c] W fun e w'=>e=.returned (.bool (srtB xs))∧Below W.heap.size W w'):=fun W hW=>isSorted_any A c xs W (HS.out.below hW) HN.out
 clear hs
 cases h1:inB (xs.length:Int) 1 8
 case false=>
  rw [h1] at HLB
  go_enter Tryz.func156,Tryz.ntmps156
  go_wp2_with (go_at_call 147;refine (within_any _ 1 8 _).mono ?_;rintro e w_ ⟨rfl,rfl⟩;rw [h1])
  go_ret
  exact ⟨by rw [HLB.out];rfl,Below.refl _ _⟩
 have h8:=inB_t.1 h1
 cases h2:xs.all (fun x=>inB x 0 8)
 case false=>
  rw [h1,h2] at HLB
  rw [h2] at HAW
  clear h2
  go_enter Tryz.func156,Tryz.ntmps156
  go_wp2_with (first|(go_at_call 147;refine (within_any _ 1 8 _).mono ?_;rintro e w_ ⟨rfl,rfl⟩;rw [h1])|(go_at_call 239;refine (HAW.out _ (Below.refl _ _)).mono ?_;rintro e w2 ⟨rfl,hb⟩;have B2:=Lib.hid hb;clear hb))
  go_ret
  exact ⟨by rw [HLB.out];rfl,B2.out⟩
 have H2:=Lib.hid h2
 rw [h2] at HAW
 cases h3:srtB xs
 case false=>
  rw [h1,h2,h3] at HLB
  rw [h3] at HSO
  clear h2 h3
  go_enter Tryz.func156,Tryz.ntmps156
  go_wp2_with (first|(go_at_call 147;refine (within_any _ 1 8 _).mono ?_;rintro e w_ ⟨rfl,rfl⟩;rw [h1])|(go_at_call 239;refine (HAW.out _ (Below.refl _ _)).mono ?_;rintro e w2 ⟨rfl,hb⟩;have B2:=Lib.hid hb;clear hb)|(go_at_call 242;refine (HSO.out _ B2.out).mono ?_;rintro e w3 ⟨rfl,hb⟩;have B3:Hid (Below w.heap.size w w3):=B2.out.trans (hb.mono B2.out.size);clear hb))
  go_ret
  exact ⟨by rw [HLB.out];rfl,B3.out⟩
 rw [h1,h2,h3] at HLB
 rw [h3] at HSO
 clear h2 h3
 have HSK:Hid (∀W,Below w.heap.size w W→Calls Tryz.prog 243 #[.slice A xs.length c] W fun e w'=>∃v',e=.returned v'∧Fr w' W.heap.size w'.heap.size v' (slkL xs xs.length)∧Below W.heap.size W w'):=fun W hW=>slackOf_any A c xs W (HS.out.below hW) (by omega) (all_bd (by decide) (by decide) H2.out)
 have HSL:=Lib.hid (slkL_len xs xs.length)
 have HGT:=Lib.hid (slkL_get xs xs.length (xs.length-1) (by omega))
 have HBD:Hid (-64≤slkS xs xs.length∧slkS xs xs.length≤64):=by
  have:=slkS_bd (all_bd (by decide) (by decide) H2.out) xs.length (by omega)
  exact ⟨by omega,by omega⟩
 have e1:xs.length-1+1=xs.length:=by omega
 rw [e1] at HGT
 clear e1
 have b1:(1:Int)≤(xs.length:Int)∧(xs.length:Int)≤8:=h8
 clear h8 H2 HN
 generalize hL:slkL xs xs.length=L at *
 generalize hT:slkS xs xs.length=T at *
 generalize hn:xs.length=n at *
 clear hL hT hn
 have i1:(0:Int)≤(n:Int)-1:=by omega
 have i2:(n:Int)-1<(n:Int):=by omega
 have i3:((n:Int)-1).toNat=n-1:=by omega
 go_enter Tryz.func156,Tryz.ntmps156
 go_wp2_with (first
  | (go_at_call 147;refine (within_any _ 1 8 _).mono ?_;rintro e w_ ⟨rfl,rfl⟩;rw [h1])
  | (go_at_call 239;refine (HAW.out _ (Below.refl _ _)).mono ?_;rintro e w2 ⟨rfl,hb⟩;have B2:=Lib.hid hb;clear hb)
  | (go_at_call 242;refine (HSO.out _ B2.out).mono ?_;rintro e w3 ⟨rfl,hb⟩;have B3:Hid (Below w.heap.size w w3):=B2.out.trans (hb.mono B2.out.size);clear hb)
  | (go_at_call 243;refine (HSK.out _ B3.out).mono ?_;rintro e w4 ⟨v4,rfl,hf,hb⟩;have B4:Hid (Below w.heap.size w w4):=B3.out.trans (hb.mono B3.out.size);obtain ⟨A4,c4,rfl,hc4,hm4⟩:=hf.form;have HF:=Lib.hid hf;have HSL':=HSL.out;rw [HSL'] at hc4 HF ⊢;obtain ⟨g4,y4,rfl,-,-,hy4,cy4,-,-⟩:=HF.out.at_ (k:=n-1) (by rw [HSL.out];omega);rw [HGT.out] at hy4;injection hy4 with hy4;subst hy4;clear hb hf HSL')
  | (go_at_call 244;have hmn:=slicesMin_any (some ⟨g4,0,none⟩) c4 L w4 HF.out.sl (by rw [HSL.out];omega) (by rw [HSL.out];omega);rw [HSL.out] at hmn;refine hmn.mono ?_;rintro e w5 ⟨rfl,rfl⟩;clear hmn))
 ·by_cases hT:T=0
  ·subst hT
   go_wp2
   go_ret
   exact ⟨by rw [HLB.out];simp [*],B4.out⟩
  ·go_wp2
   go_ret
   exact ⟨by rw [HLB.out];simp [*],B4.out⟩
 ·go_ret
  exact ⟨by rw [HLB.out];simp [show ¬ 0≤minTo L (n-1) by omega],B4.out⟩
end Go.Proofs.YtkapoldjcpfdgaaGreatDoor
namespace Go.Proofs.YtkapoldjcpfdgaaGreatDoor
open Go
section
variable {P:Program}{ops:Array Oper}{C:World→Prop}
def anyLQ (P:Program) (ops:Array Oper) (C:World→Prop) (n:Nat) (L:Array Bool→Act→Prop):Nat→Array Bool→Act→Prop
 | 0,listed,a=>L listed a
 | f+1,listed,a=>Region.ready .any ops listed≠[]∧∀i∈Region.ready .any ops listed,i<n∧qOp P ops C i (anyLQ P ops C n L f (listed.setIfInBounds i true)) a
theorem any_of_headQ {n g:Nat}{L:Array Bool→Act→Prop}{Q':Exit→Act→World→Prop} (hL:∀listed a w,C w→L listed a→wpAny P .any ops Q' g listed a w):
  ∀(f:Nat) (listed:Array Bool) (a:Act) (w:World),C w→anyLQ P ops C n L f listed a→wpAny P .any ops Q' (f+g) listed a w
 | 0,listed,a,w,hw,h=>by rw [Nat.zero_add];exact hL _ _ _ hw h
 | f+1,listed,a,w,hw,h=>by
  rw [show f+1+g=(f+g)+1 by omega]
  exact ⟨fun h0=>absurd h0 h.1,fun i hi=>wpOp_of_qOp hw (fun a' w' hw' h'=>any_of_headQ hL f _ a' w' hw' h') (h.2 i hi).2⟩
theorem anyLQ_first {n i:Nat}{oi:Oper}{v:Value}{L:Array Bool→Act→Prop} (hi:ops[i]? = some oi) (hsel:∀(j:Nat) (o:Oper) cs b,ops[j]? = some o→o.op≠.select cs b)
  (hwait:∀listed,HeadInv .any ops n listed→listed.getD i true=false→∀t,n≤t→t ∉ Region.ready .any ops listed)
  (hdone:∀listed a,L listed a→∀j∈Region.ready .any ops listed,n≤j):
  ∀(f:Nat) (listed:Array Bool) (a:Act),HeadInv .any ops n listed →
   (∀j oj,ops[j]? = some oj→j≠i→listed.getD j true=false→(∀e∈oj.after,Region.binds .any e=true→e.on≠i)→oi.apart ops oj=true) →
   i∈Region.ready .any ops listed→YieldsIn P ops C oi v a →
   anyLQ P ops C n L f (listed.setIfInBounds i true) (a.put oi.dst v)→anyLQ P ops C n L (f+1) listed a:=by
 intro f
 induction f with
 | zero=>
  intro listed a inv _ hr hy H
  have hun:=(mem_ready.1 hr).1
  refine ⟨List.ne_nil_of_mem hr,fun j hj=>?_⟩
  have hjn:j<n:=Nat.lt_of_not_le fun h=>hwait listed inv hun j h hj
  refine ⟨hjn,?_⟩
  rcases Decidable.em (j=i) with rfl|hji
  ·exact hy.qOp hi H
  ·have:=hdone _ _ H j (ready_mono hj hji)
   omega
 | succ f ih=>
  intro listed a inv hfree hr hy H
  have hun:=(mem_ready.1 hr).1
  refine ⟨List.ne_nil_of_mem hr,fun j hj=>?_⟩
  have hjn:j<n:=Nat.lt_of_not_le fun h=>hwait listed inv hun j h hj
  refine ⟨hjn,?_⟩
  rcases Decidable.em (j=i) with rfl|hji
  ·exact hy.qOp hi H
  ·obtain ⟨hjun,oj,hoj,hall⟩:=mem_ready.1 hj
   have hnot:∀e∈oj.after,Region.binds .any e=true→e.on≠i:=fun e he hb heq=>by
    have h1:=hall e he hb
    rw [heq,getD_both hun] at h1
    cases h1
   have h2:=qOp_put hoj (hfree j oj hoj hji hjun hnot) (fun cs b=>hsel i oi cs b hi) (fun cs b=>hsel j oj cs b hoj) hy (H.2 j (ready_mono hj hji)).2
   have hfree':∀k ok,ops[k]? = some ok→k≠i→(listed.setIfInBounds j true).getD k true=false →
     (∀e∈ok.after,Region.binds .any e=true→e.on≠i)→oi.apart ops ok=true:=fun k ok hk hki hku hno=>by
    refine hfree k ok hk hki ?_ hno
    rcases Decidable.em (j=k) with rfl|hjk
    ·exact hjun
    ·rwa [getD_set_ne true hjk] at hku
   refine qOp_mono (fun a' h3=>ih (listed.setIfInBounds j true) a' (inv.set hj hjn) hfree' (ready_mono hr (Ne.symm hji)) h3.1 ?_) h2
   rw [Array.setIfInBounds_comm _ _ hji]
   exact h3.2
theorem anyLQ_lex {n g:Nat}{Lq:Act→Prop} (hsel:Region.noSelect ops=true) (hs:Region.sinkB .any ops n=true) (hc:Region.chainB .any ops n=true) (hn:n<ops.size):
  ∀(l:List Oper) (k:Nat) (listed:Array Bool) (a:Act),(∀j,j<l.length→l[j]? = ops[k+j]?)→k+l.length=n→HeadInv .any ops n listed →
  Region.lexHead .any ops g l.length k listed=true→wpQuiet P ops C Lq l a →
  anyLQ P ops C n (fun listed' a'=>Region.seqB .any ops g n listed'=true∧Lq a') l.length listed a
 | [],k,listed,a,_,hk,_,hB,h=>by
  obtain rfl:k=n:=by simpa using hk
  exact ⟨by simpa [Region.lexHead] using hB,h⟩
 | o :: l,k,listed,a,hl,hk,inv,hB,h=>by
  have h0:ops[k]? = some o:=(hl 0 (by simp)).symm
  simp only [List.length_cons] at hk
  simp only [List.length_cons,Region.lexHead,Bool.and_eq_true] at hB
  obtain ⟨⟨hr,hf⟩,hB'⟩:=hB
  have hkn:k<n:=by omega
  have hr':k∈Region.ready .any ops listed:=by simpa using hr
  have hst:qOp P ops C k (wpQuiet P ops C Lq l) a:=by unfold qOp;simp only [h0];exact h
  obtain ⟨v,hy,hK⟩:=yieldsIn_of_qOp h0 hst
  refine anyLQ_first h0 (Region.noSelect_spec hsel) (fun listed' inv' hun t ht=>tail_waits hs hc hn inv' _ k rfl hkn hun t ht) (fun listed' a' hL=>seqB_ready hL.1) l.length listed a inv (Region.free_spec h0 hf) hr' hy
   (anyLQ_lex hsel hs hc hn l (k+1) _ _ (fun j hj=>?_) (by omega) (inv.set hr' hkn) hB' hK)
  have h1:=hl (j+1) (by simp;omega)
  rw [List.getElem?_cons_succ] at h1
  rw [h1];congr 1;omega
theorem region_quiet_tail {id:Nat}{Q:Exit→Act→World→Prop}{a:Act}{w:World}{l:List Oper} (n:Nat) (hm:P.follows .mixedOrders=true) (hB:Region.lexTailB .any l.toArray n=true)
  (h:wpQuiet P l.toArray (fun w'=>∃m,w'=w.drewN m) (fun a'=>∀w',(∃m,w'=w.drewN m)→wpList P l.toArray Q (l.drop n) a' w') (l.take n) a):(Code.region id l.toArray true).wp P Q a w:=by
 simp only [Region.lexTailB,Bool.and_eq_true,decide_eq_true_eq] at hB
 obtain ⟨⟨⟨⟨hsel,hn⟩,hs⟩,hc⟩,hlex⟩:=hB
 have hn':n<l.length:=by simpa using hn
 have hlen:(l.take n).length=n:=by rw [List.length_take];omega
 have hdl:(l.drop n).length=l.toArray.size-n:=by simp
 have inv:HeadInv .any l.toArray n (Array.replicate l.toArray.size false):=
  ⟨by simp,fun j oj _ h1=>(by rw [getD_replicate_false] at h1;cases h1),fun t _ h1=>getD_in (by simpa using h1) (getD_replicate_false _ _)⟩
 have H:=anyLQ_lex (g:=l.toArray.size-n) hsel hs hc hn (l.take n) 0 _ a (fun j hj=>by rw [hlen] at hj;simp [hj]) (by omega) inv (by rw [hlen];exact hlex) h
 refine wp_region_any hm ?_
 have h1:=any_of_headQ (Q':=Q) (g:=l.toArray.size-n) (fun listed a' w' hw' hL=>by
  have h2:=wpAny_of_seq (md:=.any) (Q':=Q) (l.drop n) n listed a' w' (fun j=>by simp [List.getElem?_drop]) (by rw [hdl];exact hL.1) (hL.2 w' hw')
  rwa [hdl] at h2) _ _ _ { w with drawn:=w.drawn+1 } ⟨1,rfl⟩ H
 rw [hlen,show n+(l.toArray.size-n)=l.toArray.size by omega] at h1
 exact h1
end
end Go.Proofs.YtkapoldjcpfdgaaGreatDoor
namespace Go.Proofs.YtkapoldjcpfdgaaGreatDoor
open Go.ChangeShapes Go.WideShapes Go.ChangeAt Go.RowKit
theorem Fr.swapO {w:World}{lo hi N c g j o:Nat}{pre P rest:List Int}{x y:Int} (h:Fr w lo hi (.slice (some ⟨g,0,none⟩) N c) (pre++rowJ P x (j+1) rest)) (ho:pre.length=o) (hy:P[j]? = some y):
  w.cell? ⟨g,o+(j+1),none⟩=some (.int .i64 x)∧w.cell? ⟨g,o+j,none⟩=some (.int .i64 y)∧w.frozen? ⟨g,o+(j+1),none⟩=false∧w.frozen? ⟨g,o+j,none⟩=false∧g<w.heap.size ∧
   (Fr ((w.setCell ⟨g,o+(j+1),none⟩ (.int .i64 y)).setCell ⟨g,o+j,none⟩ (.int .i64 x)) lo hi (.slice (some ⟨g,0,none⟩) N c) (pre++rowJ P x j rest)∧Keep lo hi w ((w.setCell ⟨g,o+(j+1),none⟩ (.int .i64 y)).setCell ⟨g,o+j,none⟩ (.int .i64 x))) ∧
   (Fr ((w.setCell ⟨g,o+j,none⟩ (.int .i64 x)).setCell ⟨g,o+(j+1),none⟩ (.int .i64 y)) lo hi (.slice (some ⟨g,0,none⟩) N c) (pre++rowJ P x j rest)∧Keep lo hi w ((w.setCell ⟨g,o+j,none⟩ (.int .i64 x)).setCell ⟨g,o+(j+1),none⟩ (.int .i64 y))):=by
 subst ho
 have hl:j<P.length:=(List.getElem?_eq_some_iff.1 hy).1
 have hlen:(rowJ P x (j+1) rest).length=P.length+1+rest.length:=rowJ_length (by omega)
 have hset:∀(l:List Int) (i:Nat) (v:Int),(pre++l).set (pre.length+i) v=pre++l.set i v:=fun l i v=>by
  rw [List.set_append_right _ _ (by omega),Nat.add_sub_cancel_left]
 have hget:∀(l:List Int) (i:Nat),(pre++l)[pre.length+i]? = l[i]?:=fun l i=>by
  rw [List.getElem?_append_right (by omega),Nat.add_sub_cancel_left]
 obtain ⟨g1,x1,e1,_,hg2,hx1,c1,f1,s1⟩:=h.at_ (k:=pre.length+(j+1)) (by rw [List.length_append];omega)
 obtain ⟨g2,y1,e2,_,_,hy1,c2,f2,s2⟩:=h.at_ (k:=pre.length+j) (by rw [List.length_append];omega)
 obtain rfl:g=g1:=by injection e1 with e1;injection e1
 obtain rfl:g=g2:=by injection e2 with e2;injection e2
 rw [hget] at hx1 hy1
 obtain rfl:x=x1:=by rw [rowJ_at (by omega)] at hx1;injection hx1
 obtain rfl:y=y1:=by rw [rowJ_before hy] at hy1;injection hy1
 have hsz:=h.2.2
 refine ⟨c1,c2,f1,f2,by omega,?_,?_⟩
 ·obtain ⟨F1,K1⟩:=s1 y
  obtain ⟨g3,y3,e3,_,_,_,_,_,s3⟩:=F1.at_ (k:=pre.length+j) (by rw [List.length_set,List.length_append];omega)
  obtain rfl:g=g3:=by injection e3 with e3;injection e3
  obtain ⟨F2,K2⟩:=s3 x
  rw [hset,hset,rowJ_swap hy] at F2
  exact ⟨F2,K1.trans K2⟩
 ·obtain ⟨F1,K1⟩:=s2 x
  obtain ⟨g3,y3,e3,_,_,_,_,_,s3⟩:=F1.at_ (k:=pre.length+(j+1)) (by rw [List.length_set,List.length_append];omega)
  obtain rfl:g=g3:=by injection e3 with e3;injection e3
  obtain ⟨F2,K2⟩:=s3 y
  rw [hset,hset,rowJ_swap' hy] at F2
  exact ⟨F2,K1.trans K2⟩
theorem insertionO_any (w:World) (lo hi g c c2 N o:Nat) (pre xs:List Int) (key:Int→Int) (G:FuncId) (caps:Array Value) (hf:Fr w lo hi (.slice (some ⟨g,0,none⟩) N c) (pre++xs)) (ho:pre.length=o) (h0:0<xs.length) (hn:xs.length≤1048576)
  (hG:∀(args:Array Value) (W:World),(callFunc G args).run Tryz.prog W=.ok (.enter G args) W) (hc:CmpBy w lo hi G caps xs key):
  Calls Tryz.prog 319 #[.slice (some ⟨g,o,none⟩) xs.length c2,.int .i64 0,.int .i64 (xs.length:Int),.func (.func G) #[] caps] w fun e w'=>e=.returned (.tuple #[])∧Fr w' lo hi (.slice (some ⟨g,0,none⟩) N c) (pre++insF key xs)∧Keep lo hi w w':=by
 have HF:=Lib.hid (And.intro hf (insF_one key h0))
 have HC:=Lib.hid hc
 have HO:=Lib.hid ho
 clear hf hc ho
 generalize hl:xs.length=n at *
 have HL:=Lib.hid hl
 clear hl
 go_enter Tryz.func319,Tryz.ntmps319
 go_wp2
 go_loopw [8] (fun v wr=>∃i:Nat,1≤i∧i≤n∧v=.int .i64 i∧Hid (Fr wr lo hi (.slice (some ⟨g,0,none⟩) N c) (pre++(insF key (xs.take i)++xs.drop i))∧Keep lo hi w wr)) (fun v _=>n-(intOf v).toNat)
 case atStart=>exact ⟨1,Nat.le_refl _,h0,rfl,by rw [HF.out.2];exact HF.out.1,Keep.refl _ _ _⟩
 case round=>
  obtain ⟨i,hi1,hi2,rfl,HR⟩:=hrel
  obtain ⟨wo,rfl⟩:∃W,W=wr:=⟨wr,rfl⟩
  clear HF
  by_cases hlt:i<n
  case neg=>
   obtain rfl:i=n:=by omega
   have HE:Hid (insF key (xs.take i)++xs.drop i=insF key xs):=insF_all key (by rw [HL.out];exact Nat.le_refl _)
   go_wp2
   refine bodyPost_end (v:=.tuple #[]) (by simp [results,go_sem]) rfl ⟨rfl,by rw [←HE.out];exact HR.out.1,HR.out.2⟩
  have di:decide ((i:Int)<(n:Int))=true:=by simp;exact hlt
  obtain ⟨x,hx⟩:∃x,xs[i]? = some x:=⟨_,List.getElem?_eq_getElem (by rw [HL.out];exact hlt)⟩
  have HX:=Lib.hid hx
  have hP:=insF_takeLen key (xs:=xs) (i:=i) (by rw [HL.out];exact hi2)
  have HP:=Lib.hid hP
  have HR2:Hid (Fr wo lo hi (.slice (some ⟨g,0,none⟩) N c) (pre++rowJ (insF key (xs.take i)) x i (xs.drop (i+1)))∧Keep lo hi w wo):=⟨by rw [←insF_row key hx];exact HR.out.1,HR.out.2⟩
  clear hx hP HR
  go_wp2
  go_loopw [9] (fun v wr=>∃j:Nat,j≤i∧v=.int .i64 j∧Hid (Fr wr lo hi (.slice (some ⟨g,0,none⟩) N c) (pre++rowJ (insF key (xs.take i)) x j (xs.drop (i+1)))∧Keep lo hi w wr∧posR key (insF key (xs.take i)) x i=posR key (insF key (xs.take i)) x j)) (fun v _=>(intOf v).toNat)
  case atStart=>exact ⟨i,Nat.le_refl _,rfl,HR2.out.1,HR2.out.2,rfl⟩
  case round=>
   obtain ⟨j,hj,rfl,HI⟩:=hrel
   clear HR2
   cases j with
   | zero=>
    have HE:Hid (rowJ (insF key (xs.take i)) x 0 (xs.drop (i+1))=insF key (xs.take (i+1))++xs.drop (i+1)):=insF_put key HX.out (by rw [HI.out.2.2];rfl)
    go_wp2_with fail
    go_quiet (fail)
    rename_i nq
    have HI2:Hid (Fr (wr.drewN nq) lo hi (.slice (some ⟨g,0,none⟩) N c) (pre++(insF key (xs.take (i+1))++xs.drop (i+1)))∧Keep lo hi w (wr.drewN nq)):=⟨by rw [←HE.out];exact HI.out.1,HI.out.2.1.drewN nq⟩
    generalize wr.drewN nq=w2 at *
    clear HI HE
    go_wp2
    go_roundw
    all_goals first|exact ⟨i+1,by omega,by omega,by go_num,HI2.out.1,HI2.out.2⟩|(simp [intOf];try omega)
   | succ q=>
    obtain ⟨y,hy⟩:∃y,(insF key (xs.take i))[q]? = some y:=⟨_,List.getElem?_eq_getElem (by rw [HP.out];omega)⟩
    have HC2:Hid (∀W,Keep lo hi w W→Calls Tryz.prog G (#[.int .i64 x,.int .i64 y]++caps) W fun e W'=>∃c:Int,e=.returned (.int .i64 c)∧(c<0↔key y<key x)∧Below W.heap.size W W'):=fun W hW=>HC.out W x y hW (List.mem_of_getElem? HX.out) (insF_mem (List.mem_of_getElem? hy))
    have HY:=Lib.hid hy
    clear hy
    obtain ⟨c1,c2,f1,f2,hg,S1,S2⟩:=HI.out.1.swapO HO.out HY.out
    have HS:=Lib.hid (And.intro S1 S2)
    have dq:decide ((0:Int)<(q:Int)+1)=true:=decide_eq_true (by omega)
    have i1:(0:Int)≤(q:Int)+1:=by omega
    have i2:(q:Int)+1<(n:Int):=by omega
    have i3:((q:Int)+1).toNat=q+1:=by omega
    have i4:(0:Int)≤(q:Int):=by omega
    have i5:(q:Int)<(n:Int):=by omega
    have i6:IntKind.i64.wrap ((q:Int)+1)=(q:Int)+1:=by rw [IntKind.wrap_i64];omega
    have i7:IntKind.i64.wrap (q:Int)=(q:Int):=by rw [IntKind.wrap_i64];omega
    have K1:Keep lo hi w wr.drew:=Keep.drewK HI.out.2.1
    clear S1 S2
    by_cases hk:key y<key x
    ·have HPos:Hid (posR key (insF key (xs.take i)) x (q+1)=posR key (insF key (xs.take i)) x q):=posR_go HY.out hk
     go_wp2_with fail
     go_region_held3 (fun W=>W.cell? ⟨g,o+(q+1),none⟩=some (.int .i64 x)∧W.cell? ⟨g,o+q,none⟩=some (.int .i64 y)) (first|exact ⟨c1,c2⟩) (first|(refine (HC2.out _ K1).mono ?_;rintro e w3 ⟨c0,rfl,hcc,hb⟩;have F3:=(Fr.drew HI.out.1).grow hb;have K3:=K1.trans (Keep.of_below hb (Nat.le_refl _));clear c1 c2 f1 f2;obtain ⟨c1,c2,f1,f2,_,S1,S2⟩:=F3.swapO HO.out HY.out;have cn:c0<0:=hcc.2 hk;have HS3:=Lib.hid (And.intro F3 (And.intro K3 (And.intro S1 S2)));clear F3 K3 S1 S2 hcc hb))
     clear HS
     go_wp2_with fail
     go_region
     have HI2:Hid (Fr ((w3.setCell ⟨g,o+(q+1),none⟩ (.int .i64 y)).setCell ⟨g,o+q,none⟩ (.int .i64 x)).drew lo hi (.slice (some ⟨g,0,none⟩) N c) (pre++rowJ (insF key (xs.take i)) x q (xs.drop (i+1)))∧Keep lo hi w ((w3.setCell ⟨g,o+(q+1),none⟩ (.int .i64 y)).setCell ⟨g,o+q,none⟩ (.int .i64 x)).drew∧posR key (insF key (xs.take i)) x i=posR key (insF key (xs.take i)) x q):=
      ⟨Fr.drew HS3.out.2.2.1.1,Keep.drewK (HS3.out.2.1.trans HS3.out.2.2.1.2),HI.out.2.2.trans HPos.out⟩
     generalize ((w3.setCell ⟨g,o+(q+1),none⟩ (.int .i64 y)).setCell ⟨g,o+q,none⟩ (.int .i64 x)).drew=w4 at *
     clear HI HS3 c1 c2 f1 f2
     go_wp2
     go_roundw
     all_goals first|exact ⟨q,by omega,by go_num,HI2.out.1,HI2.out.2.1,HI2.out.2.2⟩|(simp [intOf];try omega)
    ·have HPos:Hid (posR key (insF key (xs.take i)) x (q+1)=q+1):=posR_stop HY.out hk
     have HE:Hid (rowJ (insF key (xs.take i)) x (q+1) (xs.drop (i+1))=insF key (xs.take (i+1))++xs.drop (i+1)):=insF_put key HX.out (by rw [HI.out.2.2,HPos.out])
     go_wp2_with fail
     go_region_held3 (fun W=>W.cell? ⟨g,o+(q+1),none⟩=some (.int .i64 x)∧W.cell? ⟨g,o+q,none⟩=some (.int .i64 y)) (first|exact ⟨c1,c2⟩) (first|(refine (HC2.out _ K1).mono ?_;rintro e w3 ⟨c0,rfl,hcc,hb⟩;have F3:=(Fr.drew HI.out.1).grow hb;have K3:=K1.trans (Keep.of_below hb (Nat.le_refl _));clear c1 c2 f1 f2;obtain ⟨c1,c2,f1,f2,_,S1,S2⟩:=F3.swapO HO.out HY.out;have cn:¬c0<0:=fun h=>absurd (hcc.1 h) (Int.not_lt.2 hk);have HS3:=Lib.hid (And.intro F3 (And.intro K3 (And.intro S1 S2)));clear F3 K3 S1 S2 hcc hb))
     have HI2:Hid (Fr w3 lo hi (.slice (some ⟨g,0,none⟩) N c) (pre++(insF key (xs.take (i+1))++xs.drop (i+1)))∧Keep lo hi w w3):=⟨by rw [←HE.out];exact HS3.out.1,HS3.out.2.1⟩
     clear HI HE HS HS3
     go_wp2
     go_roundw
     all_goals first|exact ⟨i+1,by omega,by omega,by go_num,HI2.out.1,HI2.out.2⟩|(simp [intOf];try omega)
theorem pdqO_any (w:World) (lo hi g c c2 N o:Nat) (pre xs:List Int) (key:Int→Int) (G:FuncId) (caps:Array Value) (hf:Fr w lo hi (.slice (some ⟨g,0,none⟩) N c) (pre++xs)) (ho:pre.length=o) (h0:0<xs.length) (hn:xs.length≤12) (lim:Int)
  (hG:∀(args:Array Value) (W:World),(callFunc G args).run Tryz.prog W=.ok (.enter G args) W) (hc:CmpBy w lo hi G caps xs key):
  Calls Tryz.prog 246 #[.slice (some ⟨g,o,none⟩) xs.length c2,.int .i64 0,.int .i64 (xs.length:Int),.int .i64 lim,.func (.func G) #[] caps] w fun e w'=>e=.returned (.tuple #[])∧Fr w' lo hi (.slice (some ⟨g,0,none⟩) N c) (pre++insF key xs)∧Keep lo hi w w':=by
 have HI:=Lib.hid (insertionO_any w lo hi g c c2 N o pre xs key G caps hf ho h0 (by omega) hG hc)
 clear hf hc
 generalize insF key xs=ys at *
 generalize xs.length=n at *
 go_enter Tryz.func246,Tryz.ntmps246
 go_wp2
 refine wp_loop_rounds 1 ?_
 rw [rounds_succ]
 go_wp2_with (go_at_call 319;refine HI.out.mono ?_;rintro e w1 ⟨rfl,h⟩;have H1:=Lib.hid h;clear h)
 (try simp only [Exit.inBlock,Exit.then])
 refine bodyPost_ret (results_none rfl _ _ _) rfl ?_
 exact ⟨rfl,H1.out⟩
theorem sortFuncO_any (w:World) (lo hi g c c2 N o:Nat) (pre xs:List Int) (key:Int→Int) (G:FuncId) (caps:Array Value) (hf:Fr w lo hi (.slice (some ⟨g,0,none⟩) N c) (pre++xs)) (ho:pre.length=o) (h0:0<xs.length) (hn:xs.length≤12)
  (hG:∀(args:Array Value) (W:World),(callFunc G args).run Tryz.prog W=.ok (.enter G args) W) (hc:CmpBy w lo hi G caps xs key):
  Calls Tryz.prog 161 #[.slice (some ⟨g,o,none⟩) xs.length c2,.func (.func G) #[] caps] w fun e w'=>e=.returned (.tuple #[])∧Fr w' lo hi (.slice (some ⟨g,0,none⟩) N c) (pre++insF key xs)∧Keep lo hi w w':=by
 have HP:=Lib.hid (fun lim=>pdqO_any w lo hi g c c2 N o pre xs key G caps hf ho h0 hn lim hG hc)
 have HB:Hid (∀W,Calls Tryz.prog 241 #[.int .u64 (xs.length:Int)] W fun e w'=>(∃l:Int,e=.returned (.int .i64 l))∧W=w'):=fun W=>by
  refine (Tryz.bits_Len (xs.length:Int) W (by omega) (by omega)).mono ?_
  rintro e w' ⟨rfl,rfl⟩
  exact ⟨⟨_,rfl⟩,rfl⟩
 clear hf hc
 generalize insF key xs=ys at *
 generalize xs.length=n at *
 go_enter Tryz.func161,Tryz.ntmps161
 go_wp2_with (first
  | (go_at_call 241;refine (HB.out _).mono ?_;rintro e w_ ⟨⟨l,rfl⟩,rfl⟩)
  | (go_at_call 246;refine (HP.out _).mono ?_;rintro e w1 ⟨rfl,h⟩;have H1:=Lib.hid h;clear h))
 refine bodyPost_end (v:=.tuple #[]) (by simp [results,go_sem]) rfl ⟨rfl,H1.out⟩
end Go.Proofs.YtkapoldjcpfdgaaGreatDoor
