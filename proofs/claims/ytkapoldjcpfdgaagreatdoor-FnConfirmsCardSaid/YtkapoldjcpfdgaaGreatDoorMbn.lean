/- Carry-over tables: the walks. -/
import Derived.Test.YtkapoldjcpfdgaaGreatDoorMbm
set_option maxHeartbeats 4000000
set_option maxRecDepth 100000
namespace Go.Proofs.YtkapoldjcpfdgaaGreatDoor
open Go.ChangeShapes Go.WideShapes Go.ChangeAt Go.RowKit
def elP (P:List (List Int)) (r k:Nat):Int:=(P.getD r []).getD k 0
def hmB (P:List (List Int)) (r k:Nat):Bool:=decide (0<elP P r k)
def brkTo (P:List (List Int)) (k:Nat):Nat→Nat
 | 0=>0
 | j+1=>if hmB P (j+1) k=hmB P j k then brkTo P k j+1 else brkTo P k j
theorem brkTo_yes {P:List (List Int)}{k j:Nat} (h:hmB P (j+1) k=hmB P j k):brkTo P k (j+1)=brkTo P k j+1:=by rw [brkTo,if_pos h]
theorem brkTo_no {P:List (List Int)}{k j:Nat} (h:¬hmB P (j+1) k=hmB P j k):brkTo P k (j+1)=brkTo P k j:=by rw [brkTo,if_neg h]
theorem brkTo_le (P:List (List Int)) (k j:Nat):brkTo P k j≤j:=by
 induction j with
 | zero=>simp [brkTo]
 | succ j ih=>rw [brkTo];split<;>omega
def brkF (P:List (List Int)) (k:Nat):Nat:=brkTo P k (P.length-1)
def brkSum (P:List (List Int)):Nat→Nat
 | 0=>0
 | k+1=>brkSum P k+brkF P k
theorem brkSum_le (P:List (List Int)) (h:P.length≤36) (k:Nat):brkSum P k≤36*k:=by
 induction k with
 | zero=>simp [brkSum]
 | succ k ih=>have:=brkTo_le P k (P.length-1);rw [brkSum,brkF];omega
def oppAt (P:List (List Int)) (r k:Nat):Nat:=(opp (elP P r k)).toNat
def bump (M:List (List Int)) (a b:Nat):List (List Int):=M.set a ((M.getD a []).set b ((M.getD a []).getD b 0+1))
def carK (P:List (List Int)) (r s:Nat) (M:List (List Int)):Nat→List (List Int)
 | 0=>M
 | k+1=>bump (carK P r s M k) (oppAt P r k) (oppAt P s k)
def carR (n:Nat) (P:List (List Int)):Nat→List (List Int)
 | 0=>List.replicate n (List.replicate n 0)
 | j+1=>carK P j ((j+1)%P.length) (carR n P j) n
def sqM (n c:Nat) (M:List (List Int)):Prop:=M.length=n∧∀(k:Nat) (xs:List Int),M[k]? = some xs→xs.length=n∧∀(b:Nat) (x:Int),xs[b]? = some x→0≤x∧x≤c
theorem sqM.wide {n c d:Nat}{M:List (List Int)} (h:sqM n c M) (hd:c≤d):sqM n d M:=
 ⟨h.1,fun k xs hk=>⟨(h.2 k xs hk).1,fun b x hx=>by have:=(h.2 k xs hk).2 b x hx;omega⟩⟩
theorem sqM.row {n c a:Nat}{M:List (List Int)} (h:sqM n c M) (ha:a<n):∃xs,M[a]? = some xs∧M.getD a []=xs∧xs.length=n:=by
 have h1:M[a]? = some M[a]!:=by rw [getElem!_pos M a (by rw [h.1];exact ha)];exact List.getElem?_eq_getElem _
 exact ⟨_,h1,by rw [List.getD_eq_getElem?_getD,h1];rfl,(h.2 a _ h1).1⟩
theorem sqM.cell {n c a b:Nat}{M:List (List Int)}{xs:List Int} (h:sqM n c M) (hx:M[a]? = some xs) (hb:b<n):∃x,xs[b]? = some x∧xs.getD b 0=x∧0≤x∧x≤c:=by
 have hl:=(h.2 a xs hx).1
 have h1:xs[b]? = some xs[b]!:=by rw [getElem!_pos xs b (by omega)];exact List.getElem?_eq_getElem _
 exact ⟨_,h1,by rw [List.getD_eq_getElem?_getD,h1];rfl,(h.2 a xs hx).2 b _ h1⟩
theorem sqM.bump {n c a b:Nat}{M:List (List Int)} (h:sqM n c M) (ha:a<n) (hb:b<n):sqM n (c+1) (bump M a b):=by
 obtain ⟨xs,h1,h2,h3⟩:=h.row ha
 obtain ⟨x,h4,h5,h6,h7⟩:=h.cell h1 hb
 unfold Go.Proofs.YtkapoldjcpfdgaaGreatDoor.bump
 rw [h2,h5]
 refine ⟨by rw [List.length_set];exact h.1,fun k ys hk=>?_⟩
 by_cases e:a=k
 ·subst e
  rw [List.getElem?_set_self (by rw [h.1];exact ha)] at hk
  injection hk with hk
  subst hk
  refine ⟨by rw [List.length_set];exact h3,fun b' y hy=>?_⟩
  by_cases e2:b=b'
  ·subst e2
   rw [List.getElem?_set_self (by omega)] at hy
   injection hy with hy
   omega
  ·rw [List.getElem?_set_ne e2] at hy
   have:=(h.2 a xs h1).2 b' y hy
   omega
 ·rw [List.getElem?_set_ne e] at hk
  exact ⟨(h.2 k ys hk).1,fun b' y hy=>by have:=(h.2 k ys hk).2 b' y hy;omega⟩
theorem bump_eq {M:List (List Int)}{xs:List Int}{x:Int}{a b:Nat} (h1:M[a]? = some xs) (h2:xs[b]? = some x):bump M a b=M.set a (xs.set b (x+1)):=by
 unfold bump
 rw [show M.getD a []=xs from by rw [List.getD_eq_getElem?_getD,h1];rfl,show xs.getD b 0=x from by rw [List.getD_eq_getElem?_getD,h2];rfl]
theorem planB_opp {n:Nat}{P:List (List Int)} (h:planB n P=true) {r k:Nat} (hr:r<P.length) (hk:k<n):oppAt P r k<n∧(oppAt P r k:Int)=opp (elP P r k)∧-10≤elP P r k∧elP P r k≤10∧elP P r k≠0:=by
 have h0:P[r]? = some P[r]!:=by rw [getElem!_pos P r hr];exact List.getElem?_eq_getElem _
 have hR:P.getD r []=P[r]!:=by rw [List.getD_eq_getElem?_getD,h0];rfl
 have h1:=planB_row h h0
 unfold planB clubsB at h
 simp only [Bool.and_eq_true] at h
 have h2:=List.all_eq_true.1 h.2.2 _ (List.mem_of_getElem? h0)
 unfold roundB at h2
 rw [Bool.and_eq_true] at h2
 have h3:=allTo_t.1 h2.2 k (by omega)
 have h4:=h1.2.2.2 k (by omega)
 unfold elB at h3
 simp only [Bool.and_eq_true,Bool.not_eq_true',beq_eq_false_iff_ne,ne_eq] at h3
 unfold oppAt elP
 rw [hR]
 generalize P[r]!.getD k 0=x at *
 have h5:x≠0:=by omega
 have h6:0≤opp x∧opp x<n:=by rw [opp_eq];split<;>omega
 omega
theorem sqM_carK {n c:Nat}{P:List (List Int)}{r s:Nat}{M:List (List Int)} (h:planB n P=true) (hr:r<P.length) (hs:s<P.length) (hM:sqM n c M):∀k,k≤n→sqM n (c+k) (carK P r s M k):=by
 intro k
 induction k with
 | zero=>intro _;exact hM
 | succ k ih=>intro hk;exact (ih (by omega)).bump (planB_opp h hr (by omega)).1 (planB_opp h hs (by omega)).1
theorem sqM_zero (n:Nat):sqM n 0 (List.replicate n (List.replicate n 0)):=by
 refine ⟨by simp,fun k xs hk=>?_⟩
 rw [List.getElem?_replicate] at hk
 split at hk
 ·injection hk with hk
  subst hk
  refine ⟨by simp,fun b x hx=>?_⟩
  rw [List.getElem?_replicate] at hx
  split at hx
  ·injection hx with hx;omega
  ·cases hx
 ·cases hk
theorem sqM_carR {n:Nat}{P:List (List Int)} (h:planB n P=true):∀j,j≤P.length→sqM n (n*j) (carR n P j):=by
 intro j
 induction j with
 | zero=>intro _;exact (sqM_zero n).wide (Nat.zero_le _)
 | succ j ih=>
  intro hj
  have:=sqM_carK h (r:=j) (s:=(j+1)%P.length) (by omega) (Nat.mod_lt _ (by omega)) (ih (by omega)) n (Nat.le_refl _)
  rw [show n*(j+1)=n*j+n from by rw [Nat.mul_add,Nat.mul_one]]
  exact this
def sqR (xs:List Int):Int:=(xs.map fun x=>x*x).sum
def sqS (M:List (List Int)):Int:=(M.map sqR).sum
theorem sqR_take {xs:List Int}{k:Nat}{x:Int} (h:xs[k]? = some x):sqR (xs.take (k+1))=sqR (xs.take k)+x*x:=by
 unfold sqR;rw [take_snoc h,List.map_append,List.sum_append];simp
theorem sqS_take {M:List (List Int)}{k:Nat}{xs:List Int} (h:M[k]? = some xs):sqS (M.take (k+1))=sqS (M.take k)+sqR xs:=by
 unfold sqS;rw [take_snoc h,List.map_append,List.sum_append];simp
theorem sq_cap {x:Int} (h0:0≤x) (h1:x≤360):0≤x*x∧x*x≤129600:=by
 have:=Int.mul_nonneg h0 h0
 have:=Int.mul_le_mul h1 h1 h0 (by omega:(0:Int)≤360)
 omega
theorem sqR_cap {xs:List Int} (h:∀(b:Nat) (x:Int),xs[b]? = some x→0≤x∧x≤360):∀k,k≤xs.length→0≤sqR (xs.take k)∧sqR (xs.take k)≤129600*k:=by
 intro k
 induction k with
 | zero=>intro _;simp [sqR]
 | succ k ih=>
  intro hk
  have h1:xs[k]? = some xs[k]:=List.getElem?_eq_getElem (by omega)
  have h2:=h k _ h1
  have h3:=sq_cap h2.1 h2.2
  have h4:=ih (by omega)
  rw [sqR_take h1];omega
theorem sqS_cap {n:Nat}{M:List (List Int)} (h:sqM n 360 M) (hn:n≤10):∀k,k≤M.length→0≤sqS (M.take k)∧sqS (M.take k)≤1296000*k:=by
 intro k
 induction k with
 | zero=>intro _;simp [sqS]
 | succ k ih=>
  intro hk
  have h1:M[k]? = some M[k]:=List.getElem?_eq_getElem (by omega)
  have h2:=h.2 k _ h1
  have h3:=sqR_cap h2.2 M[k].length (Nat.le_refl _)
  rw [List.take_length] at h3
  have h4:=ih (by omega)
  rw [sqS_take h1];omega
theorem planB_cap {n:Nat}{P:List (List Int)} (h:planB n P=true):2≤n∧n≤10∧P.length≤36:=by
 unfold planB clubsB at h
 simp only [Bool.and_eq_true] at h
 have h1:=inB_t.1 h.1.1
 have h2:P.length≤36:=by simpa using h.2.1
 omega
theorem sqM_all {n:Nat}{P:List (List Int)} (h:planB n P=true) {j:Nat} (hj:j≤P.length):sqM n 360 (carR n P j):=by
 have h1:=planB_cap h
 refine (sqM_carR h j hj).wide ?_
 have:n*j≤10*36:=Nat.mul_le_mul h1.2.1 (by omega)
 omega
def carV (n:Nat) (P:List (List Int)):Int:=if P = [] then -1 else sqS (carR n P P.length)
def brkW:List UInt8:=[98,114,101,97,107,115,32]
def carW:List UInt8:=[32,99,97,114,114,121,32]
def planText (n:Int) (P:List (List Int)):List UInt8:=
 if planB n P then ((brkW++Lib.itoa (brkSum P n.toNat))++carW)++Lib.itoa (carV n.toNat P) else [110,111,110,101]
theorem planCell {w:World}{A:Option Addr}{c n k r:Nat}{P:List (List Int)} (hpl:planB n P=true) (hs:InS w (.slice A P.length c) P) (hr:r<P.length) (hk:k<n):
  ∃b off b2 o2 c1 x,A=some ⟨b,off,none⟩∧w.cell? ⟨b,off+r,none⟩=some (.slice (some ⟨b2,o2,none⟩) n c1)∧w.cell? ⟨b2,o2+k,none⟩=some (.int .i64 x)∧elP P r k=x∧n≤c1:=by
 obtain ⟨b,off,u,R,rfl,hu,hcell,hin,-⟩:=hs.at_ (k:=r) hr
 obtain ⟨A1,c1,rfl,hc1,hm1,hsl⟩:=hin
 have hl:R.length=n:=by have:=(planB_row hpl hu).2.2.1;omega
 obtain ⟨b2,o2,x,rfl,hx,hcx,-⟩:=hsl.at_ (k:=k) (by omega)
 refine ⟨b,off,b2,o2,c1,x,rfl,by rw [hcell,hl],hcx,?_,by omega⟩
 unfold elP
 rw [show P.getD r []=R from by rw [List.getD_eq_getElem?_getD,hu];rfl,List.getD_eq_getElem?_getD,hx];rfl
theorem sgn_hm {P:List (List Int)}{r r' k:Nat}{x y s t:Int} (hx:elP P r k=x) (hy:elP P r' k=y) (hs:sgn x=s) (ht:sgn y=t):(s==t)=decide (hmB P r k=hmB P r' k):=by
 unfold hmB
 rw [hx,hy,←hs,←ht]
 unfold sgn
 by_cases h1:0<x<;>by_cases h2:0<y<;>simp [h1,h2]
theorem implBreaks_any (v:Value) (P:List (List Int)) (n k:Nat) (w:World) (hs:InS w v P) (hpl:planB n P=true) (hk:k<n):
  Calls Tryz.prog 345 #[v,.int .i64 k] w fun e w'=>∃v',e=.returned v'∧(∃A c,v'=.slice A (brkF P k) c)∧Below w.heap.size w w':=by
 have HS:=Lib.hid hs
 obtain ⟨A,c,vs,rfl,hvl,hc,hm,-,-⟩:=hs
 have hcap:=planB_cap hpl
 have HPL:=Lib.hid hpl
 have HCE:Hid (∀(wr:World) (r:Nat),InS wr (.slice A P.length c) P→r<P.length→∃b off b2 o2 c1 x,A=some ⟨b,off,none⟩∧wr.cell? ⟨b,off+r,none⟩=some (.slice (some ⟨b2,o2,none⟩) n c1)∧wr.cell? ⟨b2,o2+k,none⟩=some (.int .i64 x)∧elP P r k=x∧n≤c1):=
  fun wr r h1 h2=>planCell hpl h1 h2 hk
 clear hpl
 generalize hN:P.length=N at *
 have HN:=Lib.hid hN
 clear hN hvl
 unfold maxLen at hm
 go_enter Tryz.func345,Tryz.ntmps345
 go_wp2
 go_loopw [5,6] (fun v i wr=>∃(q:Nat) (fv:Value) (xs:List Int),1≤q∧i=.int .i64 q∧fv=v∧Hid ((q≤N∨q=1)∧Fr wr w.heap.size wr.heap.size fv xs∧xs.length=brkTo P k (q-1)∧Below w.heap.size w wr)) (fun _ i _=>N-(intOf i).toNat)
 case atStart=>exact ⟨1,_,[],by omega,rfl,rfl,.inr rfl,Fr.nil _ (Nat.le_refl _),rfl,Below.refl _ _⟩
 case round=>
  obtain ⟨q,fv,xs,hq1,rfl,rfl,HR⟩:=hrel
  by_cases hlt:q<N
  case neg=>
   have HZ:Hid (xs.length=brkF P k):=by
    show _=_
    rw [HR.out.2.2.1,brkF,HN.out];congr 1;have:=HR.out.1;omega
   go_wp2
   go_ret
   obtain ⟨A2,c2,h2,_⟩:=HR.out.2.1.form
   exact ⟨_,rfl,⟨A2,c2,by rw [h2,HZ.out];rfl⟩,HR.out.2.2.2⟩
  obtain ⟨j,hj⟩:∃j,q=j+1:=⟨q-1,by omega⟩
  have HJ:=Lib.hid hj
  have hjl:j<N:=by omega
  have J:IntKind.i64.wrap ((q:Int)-1)=(j:Int):=by rw [IntKind.wrap_i64];omega
  clear hj
  have hsW:InS wr (.slice A N c) P:=InS.below HS.out HR.out.2.2.2
  obtain ⟨b,off,b2,o2,c1,x,rfl,hc1,hx1,HX,hn1⟩:=HCE.out wr q hsW hlt
  obtain ⟨b',off',b3,o3,c2,y,e3,hc2,hx2,HY,hn2⟩:=HCE.out wr j hsW hjl
  injection e3 with e3;injection e3 with r1 r2 _;subst r1;subst r2
  obtain ⟨s,hs⟩:∃s,sgn x=s:=⟨_,rfl⟩
  obtain ⟨t,ht⟩:∃t,sgn y=t:=⟨_,rfl⟩
  have HB:Hid ((s==t)=decide (hmB P q k=hmB P j k)):=sgn_hm HX HY hs ht
  have HSX:=Lib.hid hs
  have HSY:=Lib.hid ht
  have HXL:Hid (xs.length≤36):=by show _≤_;rw [HR.out.2.2.1];have:=brkTo_le P k (q-1);omega
  have HQ1:Hid (q-1=j∧brkTo P k (q+1-1)=brkTo P k (j+1)):=⟨by have:=HJ.out;omega,by rw [HJ.out];rfl⟩
  clear hs ht HX HY hsW
  cases e:(s==t)
  case false=>
   have HW:Hid (brkTo P k (q+1-1)=brkTo P k (q-1)):=by
    show _=_
    rw [HQ1.out.2,HQ1.out.1]
    exact brkTo_no (by have:=HB.out;rw [e] at this;rw [←HJ.out];simpa using this.symm)
   go_wp2
   go_quiet (first|(go_at_call 344;exact quiet_left (sign_any x s _ HSX.out))|(go_at_call 344;exact quiet_left (sign_any y t _ HSY.out)))
   go_wp2
   go_roundw
   case rel=>exact ⟨q+1,fv,xs,by omega,by go_num,rfl,.inl (by omega),HR.out.2.1.drewN _,by rw [HW.out];exact HR.out.2.2.1,below_drewN HR.out.2.2.2 _⟩
   case measure=>simp [intOf];omega
  ·have HW:Hid (brkTo P k (q+1-1)=brkTo P k (q-1)+1):=by
    show _=_
    rw [HQ1.out.2,HQ1.out.1]
    exact brkTo_yes (by have:=HB.out;rw [e] at this;rw [←HJ.out];simpa using this.symm)
   go_wp2
   go_quiet (first|(go_at_call 344;exact quiet_left (sign_any x s _ HSX.out))|(go_at_call 344;exact quiet_left (sign_any y t _ HSY.out)))
   go_wp2_with (at_builtin;refine app1 rfl _ _ rfl _ w.heap.size fv xs.length xs rfl ((HR.out.2.1.drewN _).own) (q:Int) rfl (by have:=HXL.out;omega) (below_drewN HR.out.2.2.2 _).size ?_;intro v' w3 hown3 hb3 hsz3 _;have H3:Hid (Fr w3 w.heap.size w3.heap.size v' (xs++[(q:Int)])∧Below w.heap.size w w3):=⟨Fr.of_own (by rw [List.length_append,List.length_singleton];exact hown3),(below_drewN HR.out.2.2.2 _).trans (hb3 w.heap.size (Nat.le_refl _) (below_drewN HR.out.2.2.2 _).size)⟩;clear hown3 hb3 hsz3)
   go_roundw
   case rel=>exact ⟨q+1,_,xs++[(q:Int)],by omega,by go_num,rfl,.inl (by omega),H3.out.1,by rw [HW.out,List.length_append,List.length_singleton,HR.out.2.2.1],H3.out.2⟩
   case measure=>simp [intOf];omega
theorem implCountBreaks_any (v:Value) (P:List (List Int)) (n:Nat) (w:World) (hs:InS w v P) (hn:bulk P≤1048576) (hpl:planB n P=true):
  Calls Tryz.prog 274 #[.int .i64 n,v] w fun e w'=>e=.returned (.int .i64 (brkSum P n))∧Below w.heap.size w w':=by
 have HC:=Lib.hid (implPlanOk_any n v P w hs hn)
 have HS:=Lib.hid hs
 have hcap:=planB_cap hpl
 have HSUM:Hid (∀k,brkSum P k≤36*k):=fun k=>brkSum_le P hcap.2.2 k
 have HPL:=Lib.hid hpl
 clear hs hpl
 go_enter Tryz.func274,Tryz.ntmps274
 go_wp2_with (go_at_call 273;refine HC.out.mono ?_;rintro e w' ⟨rfl,d,rfl⟩;rw [HPL.out])
 have HB0:Hid (Below w.heap.size w (w.drewN d)):=below_of_drewN _ _ _
 go_loopw [5,12] (fun s i wr=>∃k:Nat,k≤n∧i=.int .i64 k∧s=.int .i64 (brkSum P k)∧Hid (Below w.heap.size w wr)) (fun _ i _=>n-(intOf i).toNat)
 case atStart=>exact ⟨0,Nat.zero_le _,rfl,rfl,HB0.out⟩
 case round=>
  obtain ⟨k,hk,rfl,rfl,HB⟩:=hrel
  by_cases hlt:k<n
  ·have h1:=HSUM.out k
   have h2:=HSUM.out (k+1)
   have HW:Hid (brkSum P (k+1)=brkSum P k+brkF P k):=rfl
   rw [HW.out] at h2
   go_wp2_with (go_at_call 345;refine (implBreaks_any v P n k _ (InS.below HS.out HB.out) HPL.out hlt).mono ?_;rintro e w2 ⟨u,rfl,⟨A1,c1,rfl⟩,hb⟩;have HB2:Hid (Below w.heap.size w w2):=HB.out.trans (hb.mono HB.out.size);clear hb)
   go_roundw
   case rel=>exact ⟨k+1,by omega,by go_num,by rw [HW.out];go_num,HB2.out⟩
   case measure=>simp [intOf];omega
  ·obtain rfl:k=n:=by omega
   go_wp2
   go_ret
   exact ⟨rfl,HB.out⟩
def zeroM (n:Nat):List (List Int):=List.replicate n (List.replicate n 0)
theorem zeroM_get {n j:Nat} (h:j<n):(zeroM n)[j]? = some (List.replicate n 0):=by unfold zeroM;rw [List.getElem?_replicate,if_pos h]
theorem planRowAt {w:World}{A:Option Addr}{c n r:Nat}{P:List (List Int)} (hpl:planB n P=true) (hs:InS w (.slice A P.length c) P) (hr:r<P.length):
  ∃b off A1 c1 R,A=some ⟨b,off,none⟩∧b<w.heap.size∧w.cell? ⟨b,off+r,none⟩=some (.slice A1 n c1)∧n≤c1∧SlI w A1 R∧R.length=n∧∀k,k<n→R.getD k 0=elP P r k:=by
 obtain ⟨b,off,u,R,rfl,hu,hcell,hin,hlt⟩:=hs.at_ (k:=r) hr
 obtain ⟨A1,c1,rfl,hc1,hm1,hsl⟩:=hin
 have hl:R.length=n:=by have:=(planB_row hpl hu).2.2.1;omega
 refine ⟨b,off,A1,c1,R,rfl,hlt,by rw [hcell,hl],by omega,hsl,hl,fun k hk=>?_⟩
 unfold elP
 rw [show P.getD r []=R from by rw [List.getD_eq_getElem?_getD,hu];rfl]
theorem carNext {n q s k:Nat}{P:List (List Int)} (hpl:planB n P=true) (hq:q<P.length) (hs:s<P.length) (hk:k<n):
  ∃xs x,(carK P q s (carR n P q) k)[oppAt P q k]? = some xs∧xs.length=n∧xs[oppAt P s k]? = some x∧0≤x∧x≤370∧carK P q s (carR n P q) (k+1)=(carK P q s (carR n P q) k).set (oppAt P q k) (xs.set (oppAt P s k) (x+1)):=by
 have hcap:=planB_cap hpl
 have h0:=(sqM_carK hpl hq hs (sqM_carR hpl q (by omega)) k (by omega)).wide (d:=370) (by have:=Nat.mul_le_mul hcap.2.1 (show q≤36 by omega);omega)
 have ha:=(planB_opp hpl hq hk).1
 have hb:=(planB_opp hpl hs hk).1
 obtain ⟨xs,h1,_,h3⟩:=h0.row ha
 obtain ⟨x,h4,_,h6,h7⟩:=h0.cell h1 hb
 exact ⟨xs,x,h1,h3,h4,h6,by omega,bump_eq h1 h4⟩
theorem implCarryTable_any (v:Value) (P:List (List Int)) (n:Nat) (w:World) (hs:InS w v P) (hn:bulk P≤1048576) (hpl:planB n P=true) (hne:0<P.length):
  Calls Tryz.prog 346 #[.int .i64 n,v] w fun e w'=>∃v',e=.returned v'∧OwS w' w.heap.size w'.heap.size v' (carR n P P.length)∧Below w.heap.size w w':=by
 have HC:=Lib.hid (implPlanOk_any n v P w hs hn)
 have HS:=Lib.hid hs
 obtain ⟨A,c,vs,hv,hvl,hc,hm,-,-⟩:=id hs
 subst hv
 have hcap:=planB_cap hpl
 have HPL:=Lib.hid hpl
 have HROW:Hid (∀(r:Nat),r<P.length→∃b off A1 c1 R,A=some ⟨b,off,none⟩∧b<w.heap.size∧w.cell? ⟨b,off+r,none⟩=some (.slice A1 n c1)∧n≤c1∧SlI w A1 R∧R.length=n∧∀k,k<n→R.getD k 0=elP P r k):=
  fun r h2=>planRowAt hpl hs h2
 have HOP:Hid (∀(r k:Nat),r<P.length→k<n→oppAt P r k<n∧(oppAt P r k:Int)=opp (elP P r k)∧-10≤elP P r k∧elP P r k≤10∧elP P r k≠0):=fun r k h1 h2=>planB_opp hpl h1 h2
 have HNX:Hid (∀(q s k:Nat),q<P.length→s<P.length→k<n→∃xs x,(carK P q s (carR n P q) k)[oppAt P q k]? = some xs∧xs.length=n∧xs[oppAt P s k]? = some x∧0≤x∧x≤370∧carK P q s (carR n P q) (k+1)=(carK P q s (carR n P q) k).set (oppAt P q k) (xs.set (oppAt P s k) (x+1))):=fun q s k h1 h2 h3=>carNext hpl h1 h2 h3
 clear hpl hvl hs
 unfold maxLen at hm
 have e0:((P.length:Int)==0)=false:=by
                         have:¬(P.length:Int)=0:=by omega
                         simpa using this
 generalize hN:P.length=N at *
 have HN:=Lib.hid hN
 clear hN
 go_enter Tryz.func346,Tryz.ntmps346
 go_wp2_with (first|(go_at_call 273;refine HC.out.mono ?_;rintro e w' ⟨rfl,d,rfl⟩;rw [HPL.out])|(at_make;refine makeS rfl _ _ rfl _ n rfl rfl (by omega) ?_;intro w1 hown hb hsz))
 have B1:Hid (Below w.heap.size w w1):=(below_of_drewN _ w d).trans hb
 have F1:Hid (FillS w.heap.size w1 n 0 [] (zeroM n)):=FillS.zero (w:=w.drewN d) (by simp [zeroM]) hown hsz
 have HZ1:=Lib.hid hsz
 clear hown hb hsz
 generalize w.drewN d=wd at *
 go_loopw [24] (fun i wr=>∃(j:Nat) (us:List Value),j≤n∧i=.int .i64 j∧Hid (FillS w.heap.size wr n j us (zeroM n)∧Below w.heap.size w wr)) (fun i _=>n-(intOf i).toNat)
 case atStart=>exact ⟨0,[],Nat.zero_le _,rfl,F1.out,B1.out⟩
 case round=>
  obtain ⟨j,us,hj,rfl,HR⟩:=hrel
  by_cases hlt:j<n
  case pos=>
   have HRP:Hid (((List.replicate n (0:Int)).length=n)∧(zeroM n)[j]? = some (List.replicate n 0)):=⟨by simp,zeroM_get hlt⟩
   go_wp2_with (at_make;refine makeI rfl _ _ rfl wr n rfl rfl (by omega) ?_;intro w2 hfr hb hsz2;have H2:=(HR.out.1.next hlt HRP.out.2 (by rw [HRP.out.1];exact hfr) hb);rw [HRP.out.1] at H2;obtain ⟨⟨x2,hx2⟩,hf2,hF2,hK2⟩:=H2;have HF2:Hid (FillS w.heap.size (w2.setCell ⟨w.heap.size,j,none⟩ (.slice (some ⟨wr.heap.size,0,none⟩) n n)) n (j+1) (us++[.slice (some ⟨wr.heap.size,0,none⟩) n n]) (zeroM n)∧Below w.heap.size w (w2.setCell ⟨w.heap.size,j,none⟩ (.slice (some ⟨wr.heap.size,0,none⟩) n n))):=⟨hF2,(HR.out.2.trans (hb.mono HR.out.2.size)).trans (hK2.below (Nat.le_refl _) (by have:=hb.size;have:=HR.out.2.size;omega))⟩;clear hF2 hK2 hfr hb hsz2)
   go_roundw
   case rel=>exact ⟨j+1,_,by omega,by go_num,HF2.out⟩
   case measure=>simp [intOf];omega
  obtain rfl:n=j:=by omega
  have HT:Hid (OwS wr w.heap.size wr.heap.size (.slice (some ⟨w.heap.size,0,none⟩) n n) (carR n P 0)∧Below w.heap.size w wr):=⟨HR.out.1.done,HR.out.2⟩
  clear HR F1 B1 HZ1
  go_wp2
  go_loopw [35] (fun i wt=>∃(q:Nat),q≤N∧i=.int .i64 q∧Hid (OwS wt w.heap.size wt.heap.size (.slice (some ⟨w.heap.size,0,none⟩) n n) (carR n P q)∧Below w.heap.size w wt)) (fun i _=>N-(intOf i).toNat)
  case atStart=>exact ⟨0,Nat.zero_le _,rfl,HT.out⟩
  case round=>
   obtain ⟨q,hq,rfl,HR⟩:=hrel
   clear HT
   by_cases hlt2:q<N
   case neg=>
    obtain rfl:N=q:=by omega
    go_wp2
    go_ret
    exact ⟨_,rfl,HR.out.1,HR.out.2⟩
   obtain ⟨s,hs⟩:∃s,s=(q+1)%N:=⟨_,rfl⟩
   have hsN:s<N:=by rw [hs];exact Nat.mod_lt _ (by omega)
   have J2:((q:Int)+1)%(N:Int)=(s:Int):=by rw [hs,Int.natCast_emod];rfl
   have HSQ:=Lib.hid hs
   clear hs
   obtain ⟨b,off,A1,c1,R,rfl,hbl,hce1,hc1,hsl1,hl1,hel1⟩:=HROW.out q hlt2
   obtain ⟨b',off',A2,c2,S,e3,hbl2,hce2,hc2,hsl2,hl2,hel2⟩:=HROW.out s hsN
   injection e3 with e3;injection e3 with r1 r2 _;subst r1;subst r2
   have HS1:=Lib.hid (And.intro hsl1 (And.intro hl1 hel1))
   have HS2:=Lib.hid (And.intro hsl2 (And.intro hl2 hel2))
   have hd1:wr.cell? ⟨b,off+q,none⟩=some (.slice A1 n c1):=(HR.out.2.cell (p:=⟨b,off+q,none⟩) hbl).trans hce1
   have hd2:wr.cell? ⟨b,off+s,none⟩=some (.slice A2 n c2):=(HR.out.2.cell (p:=⟨b,off+s,none⟩) hbl).trans hce2
   clear hsl1 hl1 hel1 hsl2 hl2 hel2 hce1 hce2 hbl2
   go_wp2
   go_loopw [49] (fun i wt=>∃(k:Nat),k≤n∧i=.int .i64 k∧Hid (OwS wt w.heap.size wt.heap.size (.slice (some ⟨w.heap.size,0,none⟩) n n) (carK P q s (carR n P q) k)∧Below w.heap.size w wt)) (fun i _=>n-(intOf i).toNat)
   case atStart=>exact ⟨0,Nat.zero_le _,rfl,HR.out⟩
   case round=>
    obtain ⟨k,hk,rfl,HT⟩:=hrel
    clear HR hd1 hd2
    by_cases hlt3:k<n
    case neg=>
     obtain rfl:n=k:=by omega
     have HN2:Hid (carK P q s (carR n P q) n=carR n P (q+1)):=by show _=_;rw [HSQ.out,←HN.out];rfl
     go_wp2
     go_roundw
     case rel=>exact ⟨q+1,by omega,by go_num,by rw [←HN2.out];exact HT.out⟩
     case measure=>simp [intOf];omega
    obtain ⟨xs,x0,hxa,hxl,hxb,hx0,hx1,hnx⟩:=HNX.out q s k hlt2 hsN hlt3
    have ho1:=HOP.out q k hlt2 hlt3
    have ho2:=HOP.out s k hsN hlt3
    have HX1:Hid (R.getD k 0=elP P q k):=HS1.out.2.2 k hlt3
    have HX2:Hid (S.getD k 0=elP P s k):=HS2.out.2.2 k hlt3
    generalize oppAt P q k=a at *
    generalize oppAt P s k=d2 at *
    generalize elP P q k=x at *
    generalize elP P s k=y at *
    obtain ⟨hal,hop1,hx2,hx3,_⟩:=ho1
    obtain ⟨hdl,hop2,hy2,hy3,_⟩:=ho2
    have HO1:Hid (opp x=(a:Int)):=hop1.symm
    have HO2:Hid (opp y=(d2:Int)):=hop2.symm
    obtain ⟨g,g1,c3,x9,e3,_,_,hce,hc3,hxb',hcx,hfz,hst⟩:=HT.out.1.cellAt hxa (b:=d2) (by rw [hxl];exact hdl)
    injection e3 with e3;injection e3 with r1 _ _;subst r1
    obtain rfl:x0=x9:=by rw [hxb] at hxb';injection hxb'
    rw [hxl] at hce hc3
    have HST:=Lib.hid (hst (x0+1))
    have HNXT:=Lib.hid hnx
    have J3:IntKind.i64.wrap (x0+1)=x0+1:=by rw [IntKind.wrap_i64];omega
    have HSA:Hid (SlI wr A1 R∧SlI wr A2 S):=⟨SlI.below HS1.out.1 HT.out.2,SlI.below HS2.out.1 HT.out.2⟩
    clear hxa hxl hxb hxb' hnx hst hop1 hop2
    have HC1:Hid (∀m,Calls Tryz.prog 343 #[.slice A1 n c1,.int .i64 k] (wr.drewN m) fun e w'=>e=.returned (.int .i64 a)∧∃m',w'=(wr.drewN m).drewN m'):=fun m=>opponent_any A1 c1 n R k x a _ (SlI.drewN HSA.out.1 m) HS1.out.2.1 hlt3 HX1.out HO1.out (by omega) (by omega)
    have HC2:Hid (∀m,Calls Tryz.prog 343 #[.slice A2 n c2,.int .i64 k] (wr.drewN m) fun e w'=>e=.returned (.int .i64 d2)∧∃m',w'=(wr.drewN m).drewN m'):=fun m=>opponent_any A2 c2 n S k y d2 _ (SlI.drewN HSA.out.2 m) HS2.out.2.1 hlt3 HX2.out HO2.out (by omega) (by omega)
    go_wp2
    refine region_quiet_tail 13 (by kernel_rfl) (by kernel_rfl) ?_
    simp only [List.take_succ_cons,List.take_zero,List.drop_succ_cons,List.drop_zero]
    repeat (go_big_quiet_step (first|(go_at_call 343;with_reducible exact Calls.quiet_of (HC1.out _))|(go_at_call 343;with_reducible exact Calls.quiet_of (HC2.out _))))
    refine wpQuiet_nil ?_
    intro _ hw'
    obtain ⟨nq,hw''⟩:=hw'
    subst hw''
    go_wp2
    go_roundw
    case rel=>
     refine ⟨k+1,by omega,by go_num,?_,?_⟩
     ·rw [HNXT.out];exact (HST.out.1.top HST.out.2.size (Nat.le_refl _)).drewN _
     ·exact below_drewN (HT.out.2.trans (HST.out.2.below (Nat.le_refl _) HT.out.2.size)) _
    case measure=>simp [intOf];omega
theorem specTable_any (v:Value) (P:List (List Int)) (n:Nat) (w:World) (hs:InS w v P) (hpl:planB n P=true) (hne:0<P.length):
  Calls Tryz.prog 113 #[.int .i64 n,v] w fun e w'=>∃v',e=.returned v'∧OwS w' w.heap.size w'.heap.size v' (carR n P P.length)∧Below w.heap.size w w':=by
 obtain ⟨A,c,vs,hv,hvl,hc,hm,-,-⟩:=id hs
 subst hv
 have hcap:=planB_cap hpl
 have HPL:=Lib.hid hpl
 have HROW:Hid (∀(r:Nat),r<P.length→∃b off A1 c1 R,A=some ⟨b,off,none⟩∧b<w.heap.size∧w.cell? ⟨b,off+r,none⟩=some (.slice A1 n c1)∧n≤c1∧SlI w A1 R∧R.length=n∧∀k,k<n→R.getD k 0=elP P r k):=
  fun r h2=>planRowAt hpl hs h2
 have HOP:Hid (∀(r k:Nat),r<P.length→k<n→oppAt P r k<n∧(oppAt P r k:Int)=opp (elP P r k)∧-10≤elP P r k∧elP P r k≤10∧elP P r k≠0):=fun r k h1 h2=>planB_opp hpl h1 h2
 have HNX:Hid (∀(q s k:Nat),q<P.length→s<P.length→k<n→∃xs x,(carK P q s (carR n P q) k)[oppAt P q k]? = some xs∧xs.length=n∧xs[oppAt P s k]? = some x∧0≤x∧x≤370∧carK P q s (carR n P q) (k+1)=(carK P q s (carR n P q) k).set (oppAt P q k) (xs.set (oppAt P s k) (x+1))):=fun q s k h1 h2 h3=>carNext hpl h1 h2 h3
 have HNL:Hid (OwS w w.heap.size w.heap.size (.slice none 0 0) []):=OwS.nil w (Nat.le_refl _) (Nat.le_refl _)
 clear hpl hvl hs
 unfold maxLen at hm
 generalize hN:P.length=N at *
 have HN:=Lib.hid hN
 clear hN
 go_enter Tryz.func113,Tryz.ntmps113
 go_wp2
 go_loopw [5,6] (fun v i wr=>∃(j:Nat) (fv:Value),j≤n∧i=.int .i64 j∧fv=v∧Hid (OwS wr w.heap.size wr.heap.size fv (List.replicate j (List.replicate n 0))∧Below w.heap.size w wr)) (fun _ i _=>n-(intOf i).toNat)
 case atStart=>exact ⟨0,_,Nat.zero_le _,rfl,rfl,⟨[],rfl,World.ownsRow_lit (base:=w.heap.size) (e:=25) (size:=1) w #[] 0 (Nat.le_refl _) (by unfold maxLen;omega) rfl,fun g hg=>by simp only [Value.ownBlock,Option.some.injEq] at hg;subst hg;simp,by simp,Nat.le_refl _,by simp,by simp⟩,(Below.refl _ w).alloc (Nat.le_refl _) _⟩
 case round=>
  obtain ⟨j,fv,hj,rfl,rfl,HR⟩:=hrel
  by_cases hlt:j<n
  case pos=>
   have HRP:Hid ((List.replicate n (0:Int)).length=n∧(List.replicate j (List.replicate n (0:Int))).length=j∧List.replicate j (List.replicate n (0:Int))++[List.replicate n 0]=List.replicate (j+1) (List.replicate n 0)):=⟨by simp,by simp,by rw [List.replicate_succ']⟩
   go_wp2_with (first|(at_make;refine makeI rfl _ _ rfl wr n rfl rfl (by omega) ?_;intro w2 hfr hb hsz2;obtain ⟨vs2,hown2,hpush⟩:=HR.out.1.pushed hb (by first|exact hfr|(rw [HRP.out.1] at hfr;exact hfr));rw [HRP.out.2.1] at hown2 hpush;have HP:=Lib.hid hpush;have HO:=Lib.hid hown2;have HB2:Hid (Below w.heap.size w w2):=HR.out.2.trans (hb.mono HR.out.2.size);clear hpush hown2 hb hfr hsz2)|(at_builtin;refine appS rfl _ _ rfl w2 w.heap.size fv j vs2 rfl HO.out _ n n rfl (by omega) HB2.out.size ?_;intro v' w3 hown3 hb3 hsz3 hg3;have H3:Hid (OwS w3 w.heap.size w3.heap.size v' (List.replicate (j+1) (List.replicate n 0))∧Below w.heap.size w w3):=⟨by rw [←HRP.out.2.2];exact HP.out v' w3 hown3 hg3,HB2.out.trans (hb3 w.heap.size (Nat.le_refl _) HB2.out.size)⟩;clear hown3 hb3 hsz3 hg3))
   go_roundw
   case rel=>exact ⟨j+1,_,by omega,by go_num,rfl,H3.out⟩
   case measure=>simp [intOf];omega
  obtain rfl:n=j:=by omega
  obtain ⟨At,ct,hft,hct,_⟩:=HR.out.1.form
  rw [List.length_replicate] at hft hct
  subst hft
  have HT:Hid (OwS wr w.heap.size wr.heap.size (.slice At n ct) (carR n P 0)∧Below w.heap.size w wr):=HR.out
  clear HR HNL
  go_wp2
  go_loopw [24] (fun i wt=>∃(q:Nat),q≤N∧i=.int .i64 q∧Hid (OwS wt w.heap.size wt.heap.size (.slice At n ct) (carR n P q)∧Below w.heap.size w wt)) (fun i _=>N-(intOf i).toNat)
  case atStart=>exact ⟨0,Nat.zero_le _,rfl,HT.out⟩
  case round=>
   obtain ⟨q,hq,rfl,HR⟩:=hrel
   clear HT
   by_cases hlt2:q<N
   case neg=>
    obtain rfl:N=q:=by omega
    go_wp2
    go_ret
    exact ⟨_,rfl,HR.out.1,HR.out.2⟩
   obtain ⟨s,hs⟩:∃s,s=(q+1)%N:=⟨_,rfl⟩
   have hsN:s<N:=by rw [hs];exact Nat.mod_lt _ (by omega)
   have J2:((q:Int)+1)%(N:Int)=(s:Int):=by rw [hs,Int.natCast_emod];rfl
   have HSQ:=Lib.hid hs
   clear hs
   obtain ⟨b,off,A1,c1,R,rfl,hbl,hce1,hc1,hsl1,hl1,hel1⟩:=HROW.out q hlt2
   obtain ⟨b',off',A2,c2,S,e3,hbl2,hce2,hc2,hsl2,hl2,hel2⟩:=HROW.out s hsN
   injection e3 with e3;injection e3 with r1 r2 _;subst r1;subst r2
   have HS1:=Lib.hid (And.intro hsl1 (And.intro hl1 hel1))
   have HS2:=Lib.hid (And.intro hsl2 (And.intro hl2 hel2))
   have hd1:wr.cell? ⟨b,off+q,none⟩=some (.slice A1 n c1):=(HR.out.2.cell (p:=⟨b,off+q,none⟩) hbl).trans hce1
   have hd2:wr.cell? ⟨b,off+s,none⟩=some (.slice A2 n c2):=(HR.out.2.cell (p:=⟨b,off+s,none⟩) hbl).trans hce2
   clear hsl1 hl1 hel1 hsl2 hl2 hel2 hce1 hce2 hbl2
   go_wp2
   go_loopw [10] (fun i wt=>∃(k:Nat),k≤n∧i=.int .i64 k∧Hid (OwS wt w.heap.size wt.heap.size (.slice At n ct) (carK P q s (carR n P q) k)∧Below w.heap.size w wt)) (fun i _=>n-(intOf i).toNat)
   case atStart=>exact ⟨0,Nat.zero_le _,rfl,HR.out⟩
   case round=>
    obtain ⟨k,hk,rfl,HT⟩:=hrel
    clear HR hd1 hd2
    by_cases hlt3:k<n
    case neg=>
     obtain rfl:n=k:=by omega
     have HN2:Hid (carK P q s (carR n P q) n=carR n P (q+1)):=by show _=_;rw [HSQ.out,←HN.out];rfl
     go_wp2
     go_roundw
     case rel=>exact ⟨q+1,by omega,by go_num,by rw [←HN2.out];exact HT.out⟩
     case measure=>simp [intOf];omega
    obtain ⟨xs,x0,hxa,hxl,hxb,hx0,hx1,hnx⟩:=HNX.out q s k hlt2 hsN hlt3
    have ho1:=HOP.out q k hlt2 hlt3
    have ho2:=HOP.out s k hsN hlt3
    have HX1:Hid (R.getD k 0=elP P q k):=HS1.out.2.2 k hlt3
    have HX2:Hid (S.getD k 0=elP P s k):=HS2.out.2.2 k hlt3
    generalize oppAt P q k=a at *
    generalize oppAt P s k=d2 at *
    generalize elP P q k=x at *
    generalize elP P s k=y at *
    obtain ⟨hal,hop1,hx2,hx3,_⟩:=ho1
    obtain ⟨hdl,hop2,hy2,hy3,_⟩:=ho2
    have HO1:Hid (opp x=(a:Int)):=hop1.symm
    have HO2:Hid (opp y=(d2:Int)):=hop2.symm
    obtain ⟨g,g1,c3,x9,rfl,_,_,hce,hc3,hxb',hcx,hfz,hst⟩:=HT.out.1.cellAt hxa (b:=d2) (by rw [hxl];exact hdl)
    obtain rfl:x0=x9:=by rw [hxb] at hxb';injection hxb'
    rw [hxl] at hce hc3
    have HST:=Lib.hid (hst (x0+1))
    have HNXT:=Lib.hid hnx
    have J3:IntKind.i64.wrap (x0+1)=x0+1:=by rw [IntKind.wrap_i64];omega
    obtain ⟨b3,o3,x',rfl,hrx,hrc,-⟩:=(SlI.below HS1.out.1 HT.out.2).at_ (k:=k) (by rw [HS1.out.2.1];exact hlt3)
    obtain ⟨b4,o4,y',rfl,hsx,hsc,-⟩:=(SlI.below HS2.out.1 HT.out.2).at_ (k:=k) (by rw [HS2.out.2.1];exact hlt3)
    obtain rfl:x'=x:=by have h:=HX1.out;rw [List.getD_eq_getElem?_getD,hrx] at h;exact h
    obtain rfl:y'=y:=by have h:=HX2.out;rw [List.getD_eq_getElem?_getD,hsx] at h;exact h
    have HC1:Hid (∀m,Calls Tryz.prog 194 #[.int .i64 x'] (wr.drewN m) fun e w'=>e=.returned (.int .i64 a)∧∃m',w'=(wr.drewN m).drewN m'):=fun m=>(l16Other_any x' a _ HO1.out (by omega) (by omega)).mono fun e w' ⟨he,hw⟩=>⟨he,0,hw.symm⟩
    have HC2:Hid (∀m,Calls Tryz.prog 194 #[.int .i64 y'] (wr.drewN m) fun e w'=>e=.returned (.int .i64 d2)∧∃m',w'=(wr.drewN m).drewN m'):=fun m=>(l16Other_any y' d2 _ HO2.out (by omega) (by omega)).mono fun e w' ⟨he,hw⟩=>⟨he,0,hw.symm⟩
    clear hxa hxl hxb hxb' hnx hst hop1 hop2 hrx hsx
    go_wp2
    refine region_quiet_tail 17 (by kernel_rfl) (by kernel_rfl) ?_
    simp only [List.take_succ_cons,List.take_zero,List.drop_succ_cons,List.drop_zero]
    repeat (go_big_quiet_step (first|(go_at_call 194;with_reducible exact Calls.quiet_of (HC1.out _))|(go_at_call 194;with_reducible exact Calls.quiet_of (HC2.out _))))
    refine wpQuiet_nil ?_
    intro _ hw'
    obtain ⟨nq,hw''⟩:=hw'
    subst hw''
    go_wp2
    go_roundw
    case rel=>
     refine ⟨k+1,by omega,by go_num,?_,?_⟩
     ·rw [HNXT.out];exact (HST.out.1.top HST.out.2.size (Nat.le_refl _)).drewN _
     ·exact below_drewN (HT.out.2.trans (HST.out.2.below (Nat.le_refl _) HT.out.2.size)) _
    case measure=>simp [intOf];omega
end Go.Proofs.YtkapoldjcpfdgaaGreatDoor
