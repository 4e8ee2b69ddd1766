/- Orders with few reversals: the spec's first best order. -/
import Derived.Test.YtkapoldjcpfdgaaGreatDoorMas
import Derived.Test.YtkapoldjcpfdgaaGreatDoorMbl
set_option maxHeartbeats 4000000
set_option maxRecDepth 100000
namespace Go.Proofs.YtkapoldjcpfdgaaGreatDoor
open Go.ChangeShapes Go.WideShapes Go.ChangeAt Go.RowKit
theorem implPlanOk_any (n:Int) (v:Value) (P:List (List Int)) (w:World) (hs:InS w v P) (hn:bulk P≤1048576):
  Calls Tryz.prog 273 #[.int .i64 n,v] w fun e w'=>e=.returned (.bool (planB n P))∧∃d,w'=w.drewN d:=by
 have HS:=Lib.hid hs
 obtain ⟨A,c,vs,rfl,hvl,hc,hm,-,-⟩:=hs
 have hbl:=bulk_len P
 have HBR:Hid (∀(k:Nat) (xs:List Int),P[k]? = some xs→xs.length≤1048576):=fun k xs h=>Nat.le_trans (bulk_row h) hn
 generalize hl:P.length=N at *
 have HL:=Lib.hid hl
 clear hl hvl
 unfold maxLen at hm
 cases h1:clubsB n
 case false=>
  go_enter Tryz.func273,Tryz.ntmps273
  go_wp2_with (go_at_call 271;refine (isClubs_any _ _).mono ?_;rintro e w' ⟨rfl,rfl⟩;rw [h1])
  go_ret
  exact ⟨ret_bool (planB_n h1).symm,0,rfl⟩
 by_cases h2:N≤36
 case neg=>
  go_enter Tryz.func273,Tryz.ntmps273
  go_wp2_with (go_at_call 271;refine (isClubs_any _ _).mono ?_;rintro e w' ⟨rfl,rfl⟩;rw [h1])
  go_ret
  exact ⟨ret_bool (planB_len (by rw [HL.out];exact h2)).symm,0,rfl⟩
 have hnr:2≤n∧n≤10:=by
  unfold clubsB at h1
  rw [Bool.and_eq_true] at h1
  exact inB_t.1 h1.1
 have H1:=Lib.hid h1
 go_enter Tryz.func273,Tryz.ntmps273
 go_wp2_with (go_at_call 271;refine (isClubs_any _ _).mono ?_;rintro e w' ⟨rfl,rfl⟩;rw [h1])
 clear h1
 go_loopw [19] (fun i wr=>∃j:Nat,j≤N∧i=.int .i64 j∧Hid ((P.take j).all (roundB n)=true)∧Hid (∃d,wr=w.drewN d)) (fun i _=>N-(intOf i).toNat)
 case atStart=>exact ⟨0,Nat.zero_le _,rfl,rfl,0,rfl⟩
 case round=>
  obtain ⟨j,hj,rfl,HP,HD⟩:=hrel
  have HSW:Hid (InS wr (.slice A N c) P):=by obtain ⟨d,rfl⟩:=HD.out;exact InS.below HS.out (below_of_drewN _ _ _)
  by_cases hlt:j<N
  case neg=>
   obtain rfl:j=N:=by omega
   go_wp2
   go_ret
   exact ⟨ret_bool (planB_t H1.out (by rw [HL.out];exact h2) (by rw [HL.out];exact HP.out)).symm,HD.out⟩
  obtain ⟨b,off,u,R,rfl,hu,hcell,hin,-⟩:=HSW.out.at_ (k:=j) (by rw [HL.out];exact hlt)
  have HU:=Lib.hid hu
  have hRl:=HBR.out j R hu
  obtain ⟨A1,c1,rfl,hc1,hm1,hsl⟩:=hin
  unfold maxLen at hm1
  have HR:=Lib.hid hsl
  clear hu hsl
  generalize hrl:R.length=m at *
  have HRL:=Lib.hid hrl
  clear hrl
  by_cases h3:(m:Int)=n
  case neg=>
   go_wp2
   go_ret
   exact ⟨ret_bool (planB_hit HU.out (roundB_len (by rw [HRL.out];exact h3))).symm,HD.out⟩
  subst h3
  go_wp2
  go_loopw [29] (fun i wt=>∃q:Nat,q≤m∧i=.int .i64 q∧Hid (allTo (elB m R) q=true)∧Hid (SlI wt A1 R)∧Hid (∃d,wt=w.drewN d)) (fun i _=>m-(intOf i).toNat)
  case atStart=>exact ⟨0,Nat.zero_le _,rfl,rfl,HR.out,HD.out⟩
  case round=>
   rename_i wt
   obtain ⟨q,hq,rfl,HQ,HR,HDD⟩:=hrel
   by_cases hlt2:q<m
   case neg=>
    obtain rfl:q=m:=by omega
    have HN:Hid ((P.take (j+1)).all (roundB (q:Int))=true):=all_snocP HU.out HP.out (roundB_t (by rw [HRL.out]) (by rw [HRL.out];exact HQ.out))
    go_wp2
    go_roundw
    case rel=>exact ⟨j+1,by omega,by go_num,HN,HDD.out⟩
    case measure=>simp [intOf];omega
   obtain ⟨b2,o2,x,rfl,hx,hcx,-⟩:=HR.out.at_ (k:=q) (by rw [HRL.out];exact hlt2)
   have HX:Hid (R.getD q 0=x):=by show _=_;rw [List.getD_eq_getElem?_getD,hx];rfl
   have HBAD:Hid (elB m R q=false→planB m P=false):=fun h=>planB_hit HU.out (roundB_hit (by rw [HRL.out];exact hlt2) h)
   clear hx
   by_cases e0:x=0
   ·have e0':(x==0)=true:=by simpa using e0
    go_wp2
    go_quiet (fail)
    go_wp2
    go_ret
    exact ⟨ret_bool (HBAD.out (by unfold elB;rw [HX.out,e0'];rfl)).symm,dd HDD.out _⟩
   have e0':(x==0)=false:=by simpa using e0
   cases e1:inB x (-m) m
   case false=>
    have J1:IntKind.i64.wrap (-(m:Int)) = -(m:Int):=by rw [IntKind.wrap_i64];omega
    go_wp2
    go_quiet ((go_at_call 147;exact quiet_left (within_any _ _ _ _)))
    go_wp2
    go_ret
    exact ⟨ret_bool (HBAD.out (by unfold elB;rw [HX.out,e1];simp)).symm,dd HDD.out _⟩
   have hxr:=inB_t.1 e1
   have HK0:∃k:Nat,opp x=(k:Int)∧k<m:=by
    have h5:0≤opp x∧opp x<m:=by rw [opp_eq];split<;>omega
    exact ⟨(opp x).toNat,by omega,by omega⟩
   obtain ⟨k,hk,hkm⟩:=HK0
   have HK:=Lib.hid hk
   obtain ⟨b3,o3,y,e3,hy,hcy,-⟩:=HR.out.at_ (k:=k) (by rw [HRL.out];exact hkm)
   injection e3 with e3;injection e3 with r1 r2 _;subst r1;subst r2
   have HY:Hid (R.getD k 0=y):=by show _=_;rw [List.getD_eq_getElem?_getD,hy];rfl
   have J1:IntKind.i64.wrap (-(m:Int)) = -(m:Int):=by rw [IntKind.wrap_i64];omega
   have J2:IntKind.i64.wrap (-x) = -x:=by rw [IntKind.wrap_i64];omega
   have HE:Hid (elB m R q=(!((k:Int)==(q:Int)) && (y==((q:Int)+1)*sgn (-x)))):=by
    show _=_
    unfold elB
    rw [HX.out,e1,HK.out,Int.toNat_natCast,HY.out,e0'];rfl
   clear hk hy
   by_cases e2:k=q
   ·have e2':((k:Int)==(q:Int))=true:=by simp [e2]
    go_wp2
    go_quiet (first|(go_at_call 147;exact quiet_left (within_any _ _ _ _))|(go_at_call 343;exact Calls.quiet_of (opponent_any _ _ _ R q x k _ (HR.out.drewN _) HRL.out hlt2 HX.out HK.out (by omega) (by omega)))|(go_at_call 344;exact quiet_left (sign_any _ _ _ HSG.out)))
    go_wp2
    go_ret
    exact ⟨ret_bool (HBAD.out (by rw [HE.out,e2'];rfl)).symm,dd HDD.out _⟩
   have e2':((k:Int)==(q:Int))=false:=by
                            have:¬(k:Int)=(q:Int):=by omega
                            simpa using this
   have HNX:Hid (elB m R q=true→allTo (elB m R) (q+1)=true):=fun h=>by unfold allTo;rw [HQ.out,h];rfl
   have HS0:∃s z:Int,Hid (sgn (-x)=s)∧Hid (((q:Int)+1)*s=z)∧IntKind.i64.wrap (((q:Int)+1)*s)=z:=⟨_,_,rfl,rfl,wrapS q _ (-x) rfl (by omega)⟩
   obtain ⟨s,z,HSG,HZ,J3⟩:=HS0
   have HE2:Hid (elB m R q=(y==z)):=by show _=_;rw [HE.out,HSG.out,HZ.out,e2'];rfl
   clear HE
   cases e4:(y==z)
   case true=>
    have e4':(y != z)=false:=by simp [bne,e4]
    have HN2:=Lib.hid (HNX.out (by rw [HE2.out,e4]))
    go_wp2
    go_quiet (first|(go_at_call 147;exact quiet_left (within_any _ _ _ _))|(go_at_call 343;exact Calls.quiet_of (opponent_any _ _ _ R q x k _ (HR.out.drewN _) HRL.out hlt2 HX.out HK.out (by omega) (by omega)))|(go_at_call 344;exact quiet_left (sign_any _ _ _ HSG.out)))
    go_wp2
    go_roundw
    case rel=>exact ⟨q+1,by omega,by go_num,HN2,HR.out.drewN _,dd HDD.out _⟩
    case measure=>simp [intOf];omega
   ·have e4':(y != z)=true:=by simp [bne,e4]
    go_wp2
    go_quiet (first|(go_at_call 147;exact quiet_left (within_any _ _ _ _))|(go_at_call 343;exact Calls.quiet_of (opponent_any _ _ _ R q x k _ (HR.out.drewN _) HRL.out hlt2 HX.out HK.out (by omega) (by omega)))|(go_at_call 344;exact quiet_left (sign_any _ _ _ HSG.out)))
    go_wp2
    go_ret
    exact ⟨ret_bool (HBAD.out (by rw [HE2.out,e4])).symm,dd HDD.out _⟩
theorem planB_row {n:Int}{P:List (List Int)} (h:planB n P=true) {r:Nat}{R:List Int} (hr:P[r]? = some R):2≤n∧n≤10∧(R.length:Int)=n∧∀k,k<R.length→-n≤R.getD k 0∧R.getD k 0≤n:=by
 unfold planB clubsB at h
 simp only [Bool.and_eq_true] at h
 have h1:=inB_t.1 h.1.1
 have h2:=List.all_eq_true.1 h.2.2 R (List.mem_of_getElem? hr)
 unfold roundB at h2
 rw [Bool.and_eq_true] at h2
 refine ⟨h1.1,h1.2,by simpa using h2.1,fun k hk=>?_⟩
 have h3:=allTo_t.1 h2.2 k hk
 unfold elB at h3
 simp only [Bool.and_eq_true] at h3
 exact inB_t.1 h3.2.1
def wordAt (k:Nat) (v:Int):List UInt8:=Lib.itoa k++[45]++Lib.itoa (v-1)
def wordsTo (R:List Int):Nat→List (List UInt8)
 | 0=>[]
 | j+1=>if 0<R.getD j 0 then wordsTo R j++[wordAt j (R.getD j 0)] else wordsTo R j
theorem wordsTo_pos {R:List Int}{j:Nat}{v:Int} (hv:R.getD j 0=v) (h:0<v):wordsTo R (j+1)=wordsTo R j++[wordAt j v]:=by
 rw [wordsTo,hv,if_pos h]
theorem wordsTo_neg {R:List Int}{j:Nat}{v:Int} (hv:R.getD j 0=v) (h:¬ 0<v):wordsTo R (j+1)=wordsTo R j:=by
 rw [wordsTo,hv,if_neg h]
theorem wordsTo_le (R:List Int) (j:Nat):(wordsTo R j).length≤j:=by
 induction j with
 | zero=>simp [wordsTo]
 | succ j ih=>
  rw [wordsTo]
  split
  ·simp only [List.length_append,List.length_singleton];omega
  ·omega
theorem wordAt_len {k:Nat}{v:Int} (hk:k≤1000) (h0:0<v) (h1:v≤1000):(wordAt k v).length≤43:=by
 have h2:=Lib.itoa_length_le (k:Int) (by omega) (by omega)
 have h3:=Lib.itoa_length_le (v-1) (by omega) (by omega)
 simp only [wordAt,List.length_append,List.length_singleton];omega
theorem wordsTo_len {R:List Int}{j:Nat} (hj:j≤1000) (h:∀k,k<j→R.getD k 0≤1000):∀l∈wordsTo R j,l.length≤43:=by
 induction j with
 | zero=>simp [wordsTo]
 | succ j ih=>
  rw [wordsTo]
  intro l hl
  split at hl
  ·rename_i h0
   rcases List.mem_append.1 hl with hl|hl
   ·exact ih (by omega) (fun k hk=>h k (by omega)) l hl
   ·rw [List.mem_singleton.1 hl]
    exact wordAt_len (by omega) h0 (h j (by omega))
  ·exact ih (by omega) (fun k hk=>h k (by omega)) l hl
theorem wordsJoin_len {R:List Int}{j:Nat} (hj:j≤1000) (h:∀k,k<j→R.getD k 0≤1000):(Lib.join (wordsTo R j) [32]).length≤44000:=by
 have h1:=join_bound (c:=32) (wordsTo_len hj h)
 have h2:=wordsTo_le R j
 omega
theorem wordB (k:Nat) (v:Int):((⟨(Lib.itoa k).toArray⟩:ByteArray)++⟨#[45]⟩)++⟨(Lib.itoa (v-1)).toArray⟩=⟨(wordAt k v).toArray⟩:=by
 rw [show (⟨#[45]⟩:ByteArray)=⟨[45].toArray⟩ from rfl,bcat,bcat];rfl
def roundOk (n:Int) (P:List (List Int)) (r:Int):Bool:=planB n P && inB r 0 ((P.length:Int)-1)
def roundText (n:Int) (P:List (List Int)) (r:Int):List UInt8:=
 if roundOk n P r then Lib.join (wordsTo (P.getD r.toNat []) (P.getD r.toNat []).length) [32] else [110,111,110,101]
theorem implJoin_any0 (v:Value) (lo n:Nat) (ls:List (List UInt8)) (sep:List UInt8) (w:World) (hs:w.ownsRow lo 9 1 v n (strs ls)) (hn:n≤1048576) (hlen:(Lib.join ls sep).length≤1099511627776):
  Calls Tryz.prog 11 #[v,.string ⟨sep.toArray⟩] w fun e w'=>e=.returned (.string ⟨(Lib.join ls sep).toArray⟩)∧Below w.heap.size w w':=by
 by_cases h0:0<n
 ·exact implJoin_any v lo n ls sep w hs hn h0 hlen
 obtain rfl:n=0:=by omega
 have hl:ls = []:=List.eq_nil_of_length_eq_zero (by have:=hs.1;rw [strs_length] at this;simpa using this)
 subst hl
 obtain ⟨A,c,rfl,_⟩:=ownZ_form hs
 go_enter Tryz.func11,Tryz.ntmps11
 go_wp2_with fail
 refine (Tryz.strings_Join_none A c ⟨sep.toArray⟩ w).mono ?_
 rintro e w2 ⟨rfl,rfl⟩
 go_wp2
 go_ret
 exact ⟨rfl,Below.refl _ _⟩
theorem implRoundLine_any (n:Int) (v:Value) (P:List (List Int)) (r:Int) (w:World) (hs:InS w v P) (hn:bulk P≤1048576) (ht:tabP w):
  Calls Tryz.prog 187 #[.int .i64 n,v,.int .i64 r] w fun e w'=>e=.returned (.string ⟨(roundText n P r).toArray⟩)∧Below w.heap.size w w':=by
 have HC:=Lib.hid (implPlanOk_any n v P w hs hn)
 have HS:=Lib.hid hs
 have HTT:=Lib.hid ht
 clear ht
 obtain ⟨A,c,vs,rfl,hvl,hc,hm,-,-⟩:=hs
 have hbl:=bulk_len P
 unfold maxLen at hm
 cases h1:planB n P
 case false=>
  have HT:Hid (roundText n P r = [110,111,110,101]):=by show _=_;simp [roundText,roundOk,h1]
  go_enter Tryz.func187,Tryz.ntmps187
  go_wp2_with (go_at_call 273;refine HC.out.mono ?_;rintro e w' ⟨rfl,d,rfl⟩;rw [h1])
  go_ret
  exact ⟨by rw [HT.out];rfl,below_of_drewN _ _ _⟩
 cases h2:inB r 0 ((P.length:Int)-1)
 case false=>
  have HT:Hid (roundText n P r = [110,111,110,101]):=by show _=_;simp [roundText,roundOk,h2]
  go_enter Tryz.func187,Tryz.ntmps187
  go_wp2_with (first|(go_at_call 273;refine HC.out.mono ?_;rintro e w' ⟨rfl,d,rfl⟩;rw [h1])|(go_at_call 147;refine (within_any _ _ _ _).mono ?_;rintro e w' ⟨rfl,rfl⟩;rw [h2]))
  go_ret
  exact ⟨by rw [HT.out];rfl,below_of_drewN _ _ _⟩
 have hb:planB n P=true∧inB r 0 ((P.length:Int)-1)=true:=⟨h1,h2⟩
 have h3:roundOk n P r=true:=by simp [roundOk,h1,h2]
 have hr:=inB_t.1 h2
 obtain ⟨q,rfl⟩:=Int.eq_ofNat_of_zero_le hr.1
 have hq:q<P.length:=by omega
 have hR:P[q]? = some P[q]:=List.getElem?_eq_getElem hq
 obtain ⟨hn1,hn2,hlR,hev⟩:=planB_row hb.1 hR
 have HT:Hid (roundText n P (q:Int)=Lib.join (wordsTo P[q] P[q].length) [32]):=by
  show _=_
  unfold roundText
  rw [if_pos h3,Int.toNat_natCast,List.getD_eq_getElem?_getD,hR];rfl
 have HJL:Hid ((Lib.join (wordsTo P[q] P[q].length) [32]).length≤44000):=wordsJoin_len (by omega) (fun k hk=>by have:=hev k hk;omega)
 have HEV:=Lib.hid hev
 have HCELL:Hid (∀wr:World,InS wr (.slice A P.length c) P→∃b off A1 c1,A=some ⟨b,off,none⟩∧wr.cell? ⟨b,off+q,none⟩=some (.slice A1 P[q].length c1)∧P[q].length≤c1∧SlI wr A1 P[q]):=by
  intro wr h
  obtain ⟨b,off,u,R,rfl,hu,hcell,hin,-⟩:=h.at_ (k:=q) hq
  obtain rfl:P[q]=R:=Option.some.inj (hR.symm.trans hu)
  obtain ⟨A1,c1,rfl,hc1,-,hsl⟩:=hin
  exact ⟨b,off,A1,c1,rfl,hcell,hc1,hsl⟩
 clear hev hb hR
 generalize hgr:P[q]=R at *
 clear hgr
 generalize hlr:R.length=m at *
 have HRL:=Lib.hid hlr
 clear hlr
 go_enter Tryz.func187,Tryz.ntmps187
 go_wp2_with (go_at_call 273;refine HC.out.mono ?_;rintro e w' ⟨rfl,d,rfl⟩;rw [h1])
 refine (within_any _ _ _ _).mono ?_;rintro e w' ⟨rfl,rfl⟩;rw [h2]
 have W1:Hid (InS (w.drewN d) (.slice A P.length c) P∧(w.drewN d).heap.size=w.heap.size∧Below w.heap.size w (w.drewN d)):=⟨InS.below HS.out (below_of_drewN _ _ _),rfl,below_of_drewN _ _ _⟩
 have HTW:Hid (tabP (w.drewN d)):=HTT.out.drewN d
 generalize w.drewN d=w1 at *
 obtain ⟨b,off,A1,c1,rfl,hcell,hc1,hsl⟩:=HCELL.out w1 W1.out.1
 have HSL:=Lib.hid hsl
 have hblt:=block_lt_of_cell hcell
 have hcell2:(w1.alloc (.cells #[] 9)).cell? ⟨b,off+q,none⟩=some (.slice A1 m c1):=(World.cell?_alloc_lt w1 _ ⟨b,off+q,none⟩ hblt).trans hcell
 have hne1:¬b=w1.heap.size:=by simp only at hblt;omega
 have hne2:¬w1.heap.size=b:=by omega
 clear hsl
 go_wp2
 go_loopw [7,27] (fun v i wr=>∃(j:Nat) (fv:Value),j≤m∧i=.int .i64 j∧fv=v∧Hid (wr.ownsRow w1.heap.size 9 1 fv (wordsTo R j).length (strs (wordsTo R j))∧Below w1.heap.size w1 wr)) (fun _ i _=>m-(intOf i).toNat)
 case atStart=>exact ⟨0,_,Nat.zero_le _,rfl,rfl,World.ownsRow_nil _ _ _ _,Below.refl _ _⟩
 case round=>
  obtain ⟨j,fv,hj,rfl,rfl,HR⟩:=hrel
  by_cases hlt:j<m
  case neg=>
   obtain rfl:j=m:=by omega
   go_wp2_with fail
   refine (implJoin_any0 fv _ _ (wordsTo R j) [32] wr HR.out.1 (by have:=wordsTo_le R j;omega) (by have:=HJL.out;omega)).mono ?_
   rintro e w2 ⟨rfl,hb⟩
   have HB2:Hid (Below w1.heap.size w1 w2):=HR.out.2.trans (hb.mono HR.out.2.size)
   clear hb
   go_wp2
   go_ret
   exact ⟨by rw [HT.out];rfl,W1.out.2.2.trans (HB2.out.mono W1.out.2.2.size)⟩
  obtain ⟨b2,o2,x,rfl,hx,hcx,-⟩:=(SlI.below HSL.out HR.out.2).at_ (k:=j) (by rw [HRL.out];exact hlt)
  have HX:Hid (R.getD j 0=x):=by show _=_;rw [List.getD_eq_getElem?_getD,hx];rfl
  have hxr:=HEV.out j hlt
  rw [HX.out] at hxr
  clear hx
  by_cases h0:0<x
  case neg=>
   have HW:=Lib.hid (wordsTo_neg HX.out h0)
   go_wp2
   go_roundw
   case rel=>exact ⟨j+1,fv,by omega,by go_num,rfl,by rw [HW.out];exact HR.out⟩
   case measure=>simp [intOf];omega
  have HW:=Lib.hid (wordsTo_pos HX.out h0)
  have HWL:Hid ((wordsTo R j).length≤1000):=by show _≤_;have:=wordsTo_le R j;omega
  have HB:=Lib.hid (wordB j x)
  have hl1:=Lib.itoa_length_le (j:Int) (by omega) (by omega)
  have hl2:=Lib.itoa_length_le (x-1) (by omega) (by omega)
  have HTB:Hid (tabP wr):=HTW.out.below HR.out.2 (Nat.le_refl _)
  go_wp2_with (first|(have h_:=H2.out;clear h_;go_at_call 13;refine (implFormatInt_any (x-1) _ (by omega) (by omega) (HTW.out.below H2.out.2 (Nat.le_refl _))).mono ?_;rintro e w3 ⟨rfl,hb⟩;have H3:Hid (w3.ownsRow w1.heap.size 9 1 fv (wordsTo R j).length (strs (wordsTo R j))∧Below w1.heap.size w1 w3):=⟨ownZ_below H2.out.1 hb,H2.out.2.trans (hb.mono H2.out.2.size)⟩;clear hb)|(go_at_call 13;refine (implFormatInt_any (j:Int) _ (by omega) (by omega) HTB.out).mono ?_;rintro e w2 ⟨rfl,hb⟩;have H2:Hid (w2.ownsRow w1.heap.size 9 1 fv (wordsTo R j).length (strs (wordsTo R j))∧Below w1.heap.size w1 w2):=⟨ownZ_below HR.out.1 hb,HR.out.2.trans (hb.mono HR.out.2.size)⟩;clear hb)|(at_builtin;rw [HB.out];refine appZ rfl _ _ rfl w3 w1.heap.size fv (wordsTo R j).length _ rfl H3.out.1 (wordAt j x) rfl (by have:=HWL.out;omega) H3.out.2.size ?_;intro v' w4 hown4 hb4 hsz4 _;have H4:Hid (w4.ownsRow w1.heap.size 9 1 v' (wordsTo R (j+1)).length (strs (wordsTo R (j+1)))∧Below w1.heap.size w1 w4):=⟨by rw [HW.out,List.length_append];exact hown4,H3.out.2.trans (hb4 w1.heap.size (Nat.le_refl _) H3.out.2.size)⟩;clear hown4 hb4 hsz4))
  all_goals exact ⟨⟨j+1,_,by omega,by go_num,rfl,H4.out⟩,by simp [intOf];omega⟩
def fe (x:TourV) (s:Nat):Int:=(entF x (tabF x s) s).1
theorem fsts_fe {x:TourV}{t s:Nat} (h:t<s):(fsts x s)[t]? = some (fe x t):=by
 rw [fsts_at h,List.getD_eq_getElem?_getD,tabF_at x h];rfl
theorem fe_bd {x:TourV}{s:Nat} (h:s<256):0≤fe x s∧fe x s≤64:=by
 have h1:=(entF_ok x s h).lo
 have h2:=(entF_ok x s h).hi
 have h3:=cntL_le s
 unfold fe
 omega
def okF (x:TourV) (s:Nat) (y:Int):Bool:=decide ((costN x y.toNat s:Int)+fe x (s-2^y.toNat)=fe x s)
def pickF (x:TourV) (s:Nat):Option Int:=(memL s).find? (okF x s)
def bestL (x:TourV):Nat→Nat→List Int
 | 0,_=>[]
 | k+1,s=>match pickF x s with
  | some a=>a :: bestL x k (s-2^a.toNat)
  | none=>[]
theorem stepC_one (p:Int × Int) (cost ways:Int):(stepC p cost ways).1=cost∨((stepC p cost ways).1=p.1∧0≤p.1):=by
 unfold stepC
 split
 ·exact .inl rfl
 ·next h=>
  split
  ·next h2=>exact .inl h2.symm
  ·exact .inr ⟨rfl,by omega⟩
theorem entT_from (x:TourV) (l:List (Int × Int)) (s:Nat):∀k,(entT x l s k=(-1,0)∧∀a,a<k→s.testBit a=false)∨∃a,a<k∧s.testBit a=true∧(entT x l s k).1=(costN x a s:Int)+(l.getD (s-2^a) (0,0)).1:=by
 intro k
 induction k with
 | zero=>exact .inl ⟨rfl,fun a h=>absurd h (Nat.not_lt_zero _)⟩
 | succ k ih=>
  cases hb:s.testBit k
  ·rw [entT_out hb]
   rcases ih with ⟨h1,h2⟩|⟨a,h1,h2,h3⟩
   ·refine .inl ⟨h1,fun a ha=>?_⟩
    rcases Nat.eq_or_lt_of_le (Nat.le_of_lt_succ ha) with rfl|ha
    ·exact hb
    ·exact h2 a ha
   ·exact .inr ⟨a,by omega,h2,h3⟩
  ·rw [entT_in hb]
   refine .inr ?_
   rcases stepC_one (entT x l s k) ((costN x k s:Int)+(l.getD (s-2^k) (0,0)).1) (l.getD (s-2^k) (0,0)).2 with h|⟨h,h0⟩
   ·exact ⟨k,Nat.lt_succ_self _,hb,h⟩
   ·rcases ih with ⟨h1,_⟩|⟨a,h1,h2,h3⟩
    ·rw [h1] at h0;exact absurd h0 (by decide)
    ·exact ⟨a,by omega,h2,h.trans h3⟩
theorem pick_some {x:TourV}{s:Nat} (h0:s≠0) (hs:s<256):∃a,a<8∧s.testBit a=true∧okF x s (a:Int)=true:=by
 rcases entT_from x (tabF x s) s 8 with ⟨_,h⟩|⟨a,h1,h2,h3⟩
 ·exact absurd (cnt_zero_all ⟨s,hs⟩ (fun a=>h a.val a.isLt)) h0
 ·refine ⟨a,h1,h2,?_⟩
  have hle:=(sub_all ⟨s,hs⟩ ⟨a,h1⟩ h2).1
  have hp:0<2^a:=Nat.pow_pos (by omega)
  have hlt:s-2^a<s:=by simp only at hle;omega
  rw [List.getD_eq_getElem?_getD,tabF_at x hlt,Option.getD_some] at h3
  have e:fe x s=(costN x a s:Int)+fe x (s-2^a):=by
   unfold fe
   rw [entF,if_neg h0]
   exact h3
  rw [okF,Int.toNat_natCast,e]
  exact decide_eq_true rfl
theorem pick_end {x:TourV}{s:Nat} (h0:s≠0) (hs:s<256) (h:∀y∈memL s,okF x s y=false):False:=by
 obtain ⟨a,h1,h2,h3⟩:=pick_some (x:=x) h0 hs
 rw [h (a:Int) (memT_mem.2 ⟨a,rfl,h1,h2⟩)] at h3
 cases h3
theorem pick_at {x:TourV}{s j:Nat}{y:Int} (hy:(memL s)[j]? = some y) (h:∀u∈(memL s).take j,okF x s u=false) (hok:okF x s y=true):pickF x s=some y:=by
 obtain ⟨hl,e⟩:=List.getElem?_eq_some_iff.1 hy
 have e2:memL s=(memL s).take j++(y :: (memL s).drop (j+1)):=by
  rw [←e,←List.drop_eq_getElem_cons hl,List.take_append_drop]
 rw [pickF,e2,List.find?_append,List.find?_eq_none.2 (fun u hu=>by simp [h u hu])]
 simp [hok]
theorem bestL_step {x:TourV}{k s:Nat}{a:Nat} (h:pickF x s=some (a:Int)):bestL x (k+1) s=(a:Int) :: bestL x k (s-2^a):=by rw [bestL,h];rfl
theorem bestL_end (x:TourV) (k:Nat):bestL x k 0 = []:=by
 cases k with
 | zero=>rfl
 | succ k=>rfl
theorem bestL_mem {x:TourV}:∀(k s:Nat),∀y∈bestL x k s,0≤y∧y<8:=by
 intro k
 induction k with
 | zero=>intro s y hy;simp [bestL] at hy
 | succ k ih=>
  intro s y hy
  rw [bestL] at hy
  split at hy
  ·next a ha=>
   rcases List.mem_cons.1 hy with rfl|hy
   ·obtain ⟨b,rfl,hb,_⟩:=memT_mem.1 (List.mem_of_find?_eq_some ha)
    omega
   ·exact ih _ y hy
  ·simp at hy
theorem bestL_len {x:TourV}:∀(k s:Nat),(bestL x k s).length≤k:=by
 intro k
 induction k with
 | zero=>intro s;simp [bestL]
 | succ k ih=>
  intro s
  rw [bestL]
  split
  ·rw [List.length_cons];have:=ih (s-2^(‹Int›).toNat);omega
  ·simp
theorem cnt_sub {s a:Nat} (hs:s<256) (ha:a<8) (h:s.testBit a=true):cntL (s-2^a)+1=cntL s:=sub_cnt_all ⟨s,hs⟩ ⟨a,ha⟩ h
structure PkF (x:TourV) (s:Nat) (a Q L M C:Nat) (K z:Int):Prop where
 a8:a<8
 an:a<x.wins.length
 ls:L<s
 hb:s.testBit a=true
 hL:Hid (s-2^a=L)
 hQ:Hid ((2:Int)^a=(Q:Int))
 e1:Hid (wrap64 ((2:Int)^a)=(Q:Int))
 Q8:Q≤256
 eL:(s:Int)-(Q:Int)=(L:Int)
 hM:Hid (bits BinOp.andNot IntKind.i64 (L:Int) (winN x a:Int)=(M:Int))
 M8:M<256
 hC:Hid (cntL M=C)
 hN:Hid (costN x a s=C)
 hz:fe x L=z
 z0:0≤z
 z1:z≤64
 hK:Hid (IntKind.i64.wrap (z+(C:Int))=K)
 hK':Hid (IntKind.i64.wrap ((C:Int)+z)=K)
 ok:okF x s (a:Int)=decide (K=fe x s)
theorem pkFacts {x:TourV}{s j:Nat}{y:Int} (hok:tourB x=true) (hs256:s<256) (hsp:s<2^x.wins.length) (hj:j<(memL s).length)
  (ey:(memL s)[j]? = some y) {w:World}{A:Option Addr} (hsl:SlI w A x.wins):
  ∃(a Q L M C:Nat) (K z:Int),y=(a:Int)∧PkF x s a Q L M C K z:=by
 obtain ⟨a,Q,L,M,C,K,z,z',rfl,h⟩:=inFacts hok hs256 hsp hj ey rfl hsl
 have hb:s.testBit a=true:=by
  obtain ⟨b,e,_,h⟩:=memT_mem.1 (List.mem_of_getElem? ey)
  obtain rfl:a=b:=Int.ofNat.inj e
  exact h
 have hz:fe x L=z:=by have h1:=fsts_fe (x:=x) h.ls;rw [h.ez] at h1;exact (Option.some.inj h1).symm
 have hKe:z+(C:Int)=K:=by
  have h1:=h.hK.out
  have h2:=h.z0
  have h3:=h.z1
  have h4:=h.C8
  rw [IntKind.wrap_i64] at h1;omega
 refine ⟨a,Q,L,M,C,K,z,rfl,⟨h.a8,h.an,h.ls,hb,h.hL,h.hQ,h.e1,h.Q8,h.eL,h.hM,h.M8,h.hC,h.hN,hz,h.z0,h.z1,h.hK,h.hK',?_⟩⟩
 rw [okF,Int.toNat_natCast,h.hN.out,h.hL.out,hz,show (C:Int)+z=K by omega]
structure BsAt (W0 wr:World) (x:TourV) (T k s:Nat) (vv:Value) (L:List Int):Prop where
 fr:Fr wr W0.heap.size wr.heap.size vv L
 be:Below W0.heap.size W0 wr
 lt:s<T
 ck:cntL s≤k
 eq:L++bestL x k s=bestL x 8 (T-1)
 len:L.length≤8
theorem BsAt.below {W0 wr w2:World}{x:TourV}{T k s:Nat}{vv:Value}{L:List Int} (h:BsAt W0 wr x T k s vv L) (hb:Below wr.heap.size wr w2):BsAt W0 w2 x T k s vv L:=
 ⟨(h.fr.grow hb).wide (Nat.le_refl _) hb.size (Nat.le_refl _),h.be.trans (hb.mono h.be.size),h.lt,h.ck,h.eq,h.len⟩
theorem BsAt.next {W0 wr w2:World}{x:TourV}{T k s a L0:Nat}{vv v2:Value}{L:List Int} (h:BsAt W0 wr x T k s vv L) (hs256:s<256) (ha:a<8) (hb:s.testBit a=true) (hL:s-2^a=L0) (hp:pickF x s=some (a:Int))
  (hown:w2.ownsRow W0.heap.size 3 1 v2 (L.length+1) (ints (L++[(a:Int)]))) (hb2:∀B,B≤W0.heap.size→B≤wr.heap.size→Below B wr w2):∃k',BsAt W0 w2 x T k' L0 v2 (L++[(a:Int)]):=by
 have hc:=cnt_sub hs256 ha hb
 have hck:=h.ck
 obtain ⟨k',rfl⟩:∃k',k=k'+1:=⟨k-1,by omega⟩
 have heq:(L++[(a:Int)])++bestL x k' L0=bestL x 8 (T-1):=by
  have:=h.eq
  rw [bestL_step hp,hL] at this
  rw [List.append_assoc];exact this
 have hlt:=h.lt
 refine ⟨k',Fr.of_own (by simpa using hown),h.be.trans (hb2 _ (Nat.le_refl _) h.be.size),?_,by rw [←hL];omega,heq,?_⟩
 ·rw [←hL];exact Nat.lt_of_le_of_lt (Nat.sub_le _ _) hlt
 ·have h2:=congrArg List.length heq
  have h3:=bestL_len (x:=x) 8 (T-1)
  rw [List.length_append] at h2
  omega
theorem InI.cells {w:World}{v:Value}{xs:List Int} (h:InI w v xs) (h0:0<xs.length):∃b o c,v=.slice (some ⟨b,o,none⟩) xs.length c∧b<w.heap.size∧∀k z,xs[k]? = some z→w.cell? ⟨b,o+k,none⟩=some (.int .i64 z):=by
 obtain ⟨A,c,rfl,_,_,hs⟩:=h
 obtain ⟨b,o,y,rfl,hy,c1,hlt⟩:=hs.at_ h0
 refine ⟨b,o,c,rfl,hlt,fun k z hz=>?_⟩
 obtain ⟨b',o',y',e,hy',c1',_⟩:=hs.at_ (List.getElem?_eq_some_iff.1 hz).1
 injection e with e
 injection e with e1 e2
 subst e1;subst e2
 rw [hz] at hy'
 rw [c1',Option.some.inj hy']
theorem bsStart0 {w1:World}{x:TourV}{T:Nat} (hpos:1≤T):BsAt w1 w1 x T 8 (T-1) (.slice none 0 0) []:=
 ⟨Fr.nil _ (Nat.le_refl _),Below.refl _ _,by omega,cntL_le _,rfl,by simp⟩
theorem implBestOrder_any (v:Value) (x:TourV) (w:World) (hs:InT w v x) (hok:tourB x=true):
  Calls Tryz.prog 76 #[v] w fun e w'=>∃v',e=.returned v'∧Fr w' w.heap.size w'.heap.size v' (bestL x 8 (2^x.wins.length-1))∧Below w.heap.size w w':=by
 have HIT:=Lib.hid hs
 have HOK:=Lib.hid hok
 obtain ⟨u,rfl,A,c,rfl,hc,hm,hsl⟩:=hs
 obtain ⟨t1,t2,t3,_,_⟩:=tourB_t hok
 have hn8:x.wins.length≤8:=by omega
 have hT2:(2:Int)^x.wins.length=((2^x.wins.length:Nat):Int):=by rw [Int.natCast_pow];rfl
 have h256:(2:Nat)^x.wins.length≤256:=Nat.pow_le_pow_right (by omega) hn8
 have hpos:1≤(2:Nat)^x.wins.length:=Nat.one_le_two_pow
 have HTO:Hid (∀W,Below w.heap.size w W→Calls Tryz.prog 148 #[.agg #[.int .i64 x.size,.slice A x.wins.length c]] W fun e w'=>e=.returned (.bool true)∧Below W.heap.size W w'):=fun W hW=>by
  have h:=implTourOk_any _ x W (HIT.out.below hW)
  rwa [HOK.out] at h
 have HTAB:Hid (∀W,Below w.heap.size w W→Calls Tryz.prog 165 #[.agg #[.int .i64 x.size,.slice A x.wins.length c]] W fun e w'=>∃vb vw,e=.returned (.tuple #[vb,vw])∧InI w' vb (fsts x (2^x.wins.length))∧Below W.heap.size W w'):=fun W hW=>arranged_any _ x W (HIT.out.below hW) HOK.out
 obtain ⟨T,HT⟩:∃T:Nat,Hid (2^x.wins.length=T):=⟨_,rfl⟩
 rw [HT.out] at h256 hpos HTAB hT2 ⊢
 have HSZ:Hid (x.size=(x.wins.length:Int)):=t3.symm
 have HSL:=Lib.hid hsl
 have HBX:Hid (Bx (w.alloc (.cells #[.int .i64 x.size,.slice A x.wins.length c] 27)) w.heap.size (.int .i64 x.size) (.slice A x.wins.length c)∧Below w.heap.size w (w.alloc (.cells #[.int .i64 x.size,.slice A x.wins.length c] 27))∧w.heap.size<(w.alloc (.cells #[.int .i64 x.size,.slice A x.wins.length c] 27)).heap.size):=⟨⟨by simp,by simp,by simp⟩,(Below.refl _ w).alloc (Nat.le_refl _) _,by simp⟩
 have HFC0:Hid (∀W (a s:Nat),Below w.heap.size w W→a<x.wins.length→s<256→Calls Tryz.prog 166 #[.agg #[.int .i64 x.size,.slice A x.wins.length c],.int .i64 (a:Int),.int .i64 (s:Int)] W fun e w'=>e=.returned (.int .i64 (costN x a s:Nat))∧Below W.heap.size W w'):=fun W a s hW ha hs=>firstCost_any _ x a s W (HIT.out.below hW) HOK.out ha hs
 rw [HSZ.out] at HBX HTO HTAB HFC0
 rw [HSZ.out]
 have eT:wrap64 (T:Int)=T:=by unfold wrap64;omega
 have eT1:wrap64 ((T:Int)-1)=T-1:=by unfold wrap64;omega
 clear hsl hok t1 t2 t3
 go_enter Tryz.func76,Tryz.ntmps76
 go_wp2_with (first
  | (go_at_call 148;refine (HTO.out _ HBX.out.2.1).mono ?_;rintro e w0 ⟨rfl,hb⟩;have H0:Hid (Bx w0 w.heap.size (.int .i64 (x.wins.length:Int)) (.slice A x.wins.length c)∧Below w.heap.size w w0∧w.heap.size<w0.heap.size):=(show _∧_ from ⟨HBX.out.1.below hb,HBX.out.2.1.trans (hb.mono (Nat.le_of_lt HBX.out.2.2)),Nat.lt_of_lt_of_le HBX.out.2.2 hb.size⟩);clear hb HBX;obtain ⟨q0,q1,q2⟩:=id H0.out.1)
  | (go_at_call 165;refine (HTAB.out _ H0.out.2.1).mono ?_;rintro e w1 ⟨vb,vw,rfl,hin,hb⟩;obtain ⟨bf,of,cf,rfl,hbf,hcell⟩:=hin.cells (by rw [fsts_len];omega);rw [fsts_len];have H1:Hid (Bx w1 w.heap.size (.int .i64 (x.wins.length:Int)) (.slice A x.wins.length c)∧Below w.heap.size w w1∧w.heap.size<w1.heap.size∧bf<w1.heap.size∧∀k z,(fsts x T)[k]? = some z→w1.cell? ⟨bf,of+k,none⟩=some (.int .i64 z)):=(show _∧_ from ⟨H0.out.1.below hb,H0.out.2.1.trans (hb.mono (Nat.le_of_lt H0.out.2.2)),Nat.lt_of_lt_of_le H0.out.2.2 hb.size,hbf,hcell⟩);clear hin hb hcell hbf q0 q1 q2 H0;obtain ⟨q0,q1,q2⟩:=id H1.out.1))
 have H2:Hid (BsAt w1 w1 x T 8 (T-1) (.slice none 0 0) []):=bsStart0 hpos
 have HT1:Hid ((T:Int)-1=((T-1:Nat):Int)):=by show _=_;omega
 clear q0 q1 q2 eT eT1 hT2
 go_loopw [5,6] (fun v i wr=>∃(k s:Nat) (vv:Value) (L:List Int),i=.int .i64 s∧vv=v∧Hid (BsAt w1 wr x T k s vv L)) (fun _ i _=>(intOf i).toNat)
 case atStart=>exact ⟨8,T-1,_,[],by rw [HT1.out],rfl,H2.out⟩
 case round=>
  obtain ⟨k,s,vv,L,rfl,rfl,HR⟩:=hrel
  obtain ⟨wo,rfl⟩:∃W,W=wr:=⟨wr,rfl⟩
  clear H2
  by_cases h0:s=0
  ·subst h0
   have HE:Hid (L=bestL x 8 (T-1)):=by
    have h:=HR.out.eq
    rw [bestL_end,List.append_nil] at h
    exact h
   go_wp2
   go_ret
   have h3:=H1.out.2.2.1
   exact ⟨_,rfl,by rw [←HE.out];exact HR.out.fr.wide (by omega) (Nat.le_refl _) (Nat.le_refl _),H1.out.2.1.trans (HR.out.be.mono (by omega))⟩
  have hs1:(0:Int)<(s:Int):=by omega
  have hsT:=HR.out.lt
  have hs256:s<256:=by omega
  have HTK:Hid (Below w1.heap.size w1 wo):=HR.out.be
  go_wp2_with (go_at_call 153;refine (membersOf_any s _ hs256).mono ?_;rintro e w3 ⟨v3,rfl,hf,hb⟩;have H3:Hid (BsAt w1 w3 x T k s vv L∧InI w3 v3 (memL s)):=⟨HR.out.below hb,hf.in_⟩;obtain ⟨A3,c3,rfl,-⟩:=hf.in_;clear hb hf HR)
  go_loopw [5,6,26] (fun v g i wr=>∃(j:Nat),j≤(memL s).length∧i=.int .i64 j∧vv=v∧g=.int .i64 s∧Hid (∀u∈(memL s).take j,okF x s u=false)∧Hid (BsAt w1 wr x T k s vv L∧InI wr (.slice A3 (memL s).length c3) (memL s))) (fun _ _ i _=>(memL s).length-(intOf i).toNat)
  case atStart=>exact ⟨0,Nat.zero_le _,rfl,rfl,rfl,fun u hu=>by simp at hu,H3.out⟩
  case round=>
   obtain ⟨j,hj,rfl,rfl,rfl,HP,HW⟩:=hrel
   clear H3
   by_cases hlt2:j<(memL s).length
   case neg=>
    exfalso
    refine pick_end (x:=x) h0 hs256 (fun y hy=>HP.out y ?_)
    rw [List.take_of_length_le (by omega)];exact hy
   case pos=>
    obtain ⟨A4,c4,e4,_,_,hsl4⟩:=HW.out.2
    injection e4 with e4 _ e5;subst e4;subst e5
    obtain ⟨b3,o3,y,rfl,ey,qy,_⟩:=hsl4.at_ (k:=j) hlt2
    have HEY:=Lib.hid ey
    obtain ⟨a,Q,L0,M,C,K,z,rfl,HF⟩:=pkFacts HOK.out hs256 (by rw [HT.out];exact hsT) hlt2 ey HSL.out
    have HF:=Lib.hid HF
    obtain ⟨b5,o5,rfl,qw0,hlw,-,-⟩:=win_at HOK.out HSL.out HF.out.an
    have hw1:=H1.out.2.2.1
    have hbf:=H1.out.2.2.2.1
    have hL0:=HF.out.ls
    have HBW:Hid (Below w1.heap.size w1 wr):=HW.out.1.be
    have qw:=((HBW.out.cell (p:=⟨b5,o5+a,none⟩) (Nat.lt_trans hlw hw1)).trans (H1.out.2.1.cell (p:=⟨b5,o5+a,none⟩) hlw)).trans qw0
    obtain ⟨q0,q1,q2⟩:=H1.out.1.below HBW.out
    have qL:=(HBW.out.cell (p:=⟨bf,of+L0,none⟩) hbf).trans (H1.out.2.2.2.2 L0 z (by rw [fsts_fe (by omega),HF.out.hz]))
    have qs:=(HBW.out.cell (p:=⟨bf,of+s,none⟩) hbf).trans (H1.out.2.2.2.2 s (fe x s) (fsts_fe hsT))
    have HOKF:Hid (okF x s (a:Int)=decide (K=fe x s)):=HF.out.ok
    obtain ⟨F,HFE⟩:∃F,Hid (fe x s=F):=⟨_,rfl⟩
    rw [HFE.out] at qs HOKF
    have HAN:Hid (bits BinOp.andNot IntKind.i64 (s:Int) (Q:Int)=(L0:Int)):=andNot_one hs256 HF.out.a8 HF.out.hb HF.out.hQ.out HF.out.hL.out
    have HFC:Hid (∀W,Below w.heap.size w W→Calls Tryz.prog 166 #[.agg #[.int .i64 (x.wins.length:Int),.slice (some ⟨b5,o5,none⟩) x.wins.length c],.int .i64 (a:Int),.int .i64 (s:Int)] W fun e w'=>e=.returned (.int .i64 (C:Int))∧Below W.heap.size W w'):=fun W hW=>by
     have h:=HFC0.out W a s hW HF.out.an hs256
     rwa [HF.out.hN.out] at h
    have HE1:Hid (IntKind.i64.wrap ((2:Int)^a)=(Q:Int)):=by
     have h8:=HF.out.Q8
     show _=_
     rw [HF.out.hQ.out,IntKind.wrap_i64]
     omega
    clear qw0 hlw ey hsl4 hbf qw
    have hjm:(memL s).length≤8:=by rw [memL_len];exact cntL_le _
    have ha64:(a:Int)<64:=by have:=HF.out.a8;omega
    have hls:(L0:Int)<T:=by omega
    have hsTi:(s:Int)<T:=by omega
    have HBE:Hid (Below w.heap.size w wr.drew):=below_drewL (H1.out.2.1.trans (HBW.out.mono (Nat.le_of_lt hw1)))
    have e1:=HF.out.e1.out
    have e1':=HE1.out
    have eK:=HF.out.hK'.out
    have eAN:=HAN.out
    have HCL:Hid (∀W,Below wr.heap.size wr W→W.cell? ⟨w.heap.size,0,none⟩=some (.int .i64 (x.wins.length:Int))∧W.cell? ⟨w.heap.size,1,none⟩=some (.slice (some ⟨b5,o5,none⟩) x.wins.length c)∧W.cell? ⟨bf,of+L0,none⟩=some (.int .i64 z)∧W.cell? ⟨bf,of+s,none⟩=some (.int .i64 F)):=by
     intro W hW
     have hW2:Below w1.heap.size w1 W:=HBW.out.trans (hW.mono HBW.out.size)
     obtain ⟨r0,r1,_⟩:=H1.out.1.below hW2
     exact ⟨r0,r1,(hW2.cell (p:=⟨bf,of+L0,none⟩) H1.out.2.2.2.1).trans (H1.out.2.2.2.2 L0 z (by rw [fsts_fe (by omega),HF.out.hz])),(hW2.cell (p:=⟨bf,of+s,none⟩) H1.out.2.2.2.1).trans (H1.out.2.2.2.2 s F (by rw [fsts_fe hsT,HFE.out]))⟩
    have HDR:Hid (Below wr.heap.size wr wr.drew):=below_drewL (Below.refl _ _)
    clear q0 q1 q2 qL qs
    obtain ⟨q0,q1,qL,qs⟩:=HCL.out wr (Below.refl _ _)
    go_wp2_with fail
    go_region_held3 (fun W=>W.cell? ⟨w.heap.size,0,none⟩=some (.int .i64 (x.wins.length:Int))∧W.cell? ⟨w.heap.size,1,none⟩=some (.slice (some ⟨b5,o5,none⟩) x.wins.length c)∧W.cell? ⟨bf,of+L0,none⟩=some (.int .i64 z)∧W.cell? ⟨bf,of+s,none⟩=some (.int .i64 F)) (first|exact ⟨q0,q1,qL,qs⟩|exact HCL.out _ H4.out) (first|(go_at_call 166;refine (HFC.out _ HBE.out).mono ?_;rintro e w4 ⟨rfl,hb⟩;have H4:Hid (Below wr.heap.size wr w4):=HDR.out.trans (hb.mono HDR.out.size);clear hb))
    clear q0 q1 qL qs qy HCL HBE
    have HW4:Hid (BsAt w1 w4 x T k s vv L∧InI w4 (.slice (some ⟨b3,o3,none⟩) (memL s).length c3) (memL s)):=⟨HW.out.1.below H4.out,HW.out.2.below H4.out⟩
    by_cases hKF:K=F
    ·have HPK:Hid (pickF x s=some (a:Int)):=pick_at HEY.out HP.out (by rw [HOKF.out];exact decide_eq_true hKF)
     subst hKF
     have HLL:Hid (L.length≤1048576):=by have:=HW4.out.1.len;show _≤_;omega
     clear HW HP HBW
     go_wp2_with (at_builtin;refine app1 rfl _ _ rfl w4 w1.heap.size vv L.length L rfl HW4.out.1.fr.own (a:Int) rfl HLL.out HW4.out.1.be.size ?_;intro v2 w2 hown hb2 _ _;obtain ⟨k',H6⟩:=HW4.out.1.next hs256 HF.out.a8 HF.out.hb HF.out.hL.out HPK.out hown hb2;have H6:=Lib.hid H6;clear hown hb2)
     go_roundw
     case rel=>exact ⟨k',L0,_,_,rfl,rfl,H6.out⟩
     case measure=>simp [intOf];omega
    ·have HN:Hid (∀u∈(memL s).take (j+1),okF x s u=false):=by
      intro u hu
      rw [take_snoc HEY.out] at hu
      rcases List.mem_append.1 hu with hu|hu
      ·exact HP.out u hu
      ·rw [List.mem_singleton.1 hu,HOKF.out];exact decide_eq_false hKF
     clear HW HP HBW
     go_wp2
     exact ⟨⟨j+1,by omega,by go_num,rfl,rfl,HN.out,HW4.out⟩,by simp [intOf];omega⟩
end Go.Proofs.YtkapoldjcpfdgaaGreatDoor
