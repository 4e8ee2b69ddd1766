/- The kernel of an odd tournament by elimination: the reference's (printed by print/skk.py). -/
import Derived.Test.YtkapoldjcpfdgaaGreatDoorMam
set_option maxHeartbeats 2000000
set_option maxRecDepth 100000
namespace Go.Proofs.YtkapoldjcpfdgaaGreatDoor
open Go.ChangeShapes Go.WideShapes Go.ChangeAt Go.RowKit
def balF (B:Nat→Nat→Bool) (ws:List Int) (b i:Nat):Int:=smN (fun a=>Mb B a b*fn ws a) i
theorem balF_succ (B:Nat→Nat→Bool) (ws:List Int) (b i:Nat):balF B ws b (i+1)=balF B ws b i+Mb B i b*fn ws i:=rfl
theorem balF_abs {B:Nat→Nat→Bool}{ws:List Int}{b:Nat} (h:∀w∈ws,0≤w∧w≤100000):∀i,i≤ws.length→(balF B ws b i).natAbs≤i*100000
 | 0,_=>by simp [balF,smN]
 | i+1,hi=>by
  have ih:=balF_abs (B:=B) (b:=b) h i (by omega)
  have h1:=h _ (fn_mem (l:=ws) (j:=i) (by omega))
  have h2:(Mb B i b*fn ws i).natAbs≤1*100000:=by
   rw [Int.natAbs_mul]
   exact Nat.mul_le_mul (Mb_abs B i b) (by omega)
  rw [balF_succ]
  omega
theorem balance_any (v:Value) (x:TourV) (A:Option Addr) (c:Nat) (ws:List Int) (b:Nat) (w:World) (hok:tourB x=true) (hs:InT w v x) (hw:SlI w A ws) (hn:ws.length=x.wins.length) (hb:b<x.wins.length) (hr:∀y∈ws,0≤y∧y≤100000):
  Calls Tryz.prog 338 #[v,.slice A ws.length c,.int .i64 (b:Int)] w fun e w'=>e=.returned (.int .i64 (balF (bt x.wins) ws b x.wins.length))∧Below w.heap.size w w':=by
 have HIT:=Lib.hid hs
 have HW:=Lib.hid hw
 obtain ⟨u,rfl,B,d,rfl,hd,hm,hts⟩:=hs
 obtain ⟨t1,t2,t3,t4,_⟩:=tourB_t hok
 have hn8:x.wins.length≤8:=by omega
 have HBD:Hid (∀i,i≤x.wins.length→(balF (bt x.wins) ws b i).natAbs≤i*100000):=fun i hi=>balF_abs hr i (by omega)
 have HOK:=Lib.hid hok
 have HWB:=Lib.hid t4
 have HTS:=Lib.hid hts
 have HRG:=Lib.hid hr
 obtain ⟨bb,ob,y,rfl,hy,cy,hlt⟩:=hts.at_ hb
 obtain ⟨h1,h2⟩:=winsB_at hn8 t4 hy
 rw [hn]
 have HBY:Hid (∀a,bt x.wins b a=y.toNat.testBit a):=fun a=>by rw [bt,List.getD_eq_getElem?_getD,hy];rfl
 have HNL:=Lib.hid hn
 clear hts hw hn t4 hok hr hy
 go_enter Tryz.func338,Tryz.ntmps338
 go_wp2
 go_loopw [7,12] (fun s i wr=>∃q:Nat,q≤x.wins.length∧i=.int .i64 (q:Int)∧s=.int .i64 (balF (bt x.wins) ws b q)∧wr=w.alloc (.cells #[.int .i64 x.size,.slice (some ⟨bb,ob,none⟩) x.wins.length d] 27)) (fun _ i _=>x.wins.length-(intOf i).toNat)
 case atStart=>exact ⟨0,Nat.zero_le _,rfl,rfl,rfl⟩
 case round=>
  obtain ⟨q,hq,rfl,rfl,rfl⟩:=hrel
  by_cases hql:q<x.wins.length
  case neg=>
   obtain rfl:q=x.wins.length:=by omega
   go_wp2
   go_ret
   exact ⟨rfl,(Below.refl _ w).alloc (Nat.le_refl _) _⟩
  obtain ⟨bw,ow,u0,rfl,hu,cu,hltu⟩:=HW.out.at_ (k:=q) (by rw [HNL.out];exact hql)
  obtain ⟨bb',ob',z,e,hz,cz,hltz⟩:=HTS.out.at_ hql
  injection e with e;injection e with e1 e2;subst e1;subst e2
  obtain ⟨g1,g2⟩:=HRG.out u0 (List.mem_of_getElem? hu)
  obtain ⟨z1,z2⟩:=winsB_at hn8 HWB.out hz
  have HBZ:Hid (bt x.wins q b=z.toNat.testBit b):=by show _=_;rw [bt,List.getD_eq_getElem?_getD,hz];rfl
  have bz:=bit_at z1 z2 (show b≤7 by omega)
  have by_:=bit_at h1 h2 (show q≤7 by omega)
  rw [←HBZ.out] at bz
  rw [←HBY.out q] at by_
  have hsc:=balF_succ (bt x.wins) ws b q
  rw [show fn ws q=u0 by unfold fn;rw [List.getD_eq_getElem?_getD,hu];rfl] at hsc
  have hbd:=HBD.out q hq
  have hself:q=b→bt x.wins q b=false:=fun e=>by rw [e];exact tourB_irr HOK.out hb
  have hanti:q≠b→bt x.wins q b≠bt x.wins b q:=fun e=>tourB_anti HOK.out hql hb e
  have hmb:Mb (bt x.wins) q b=(if bt x.wins q b then 1 else 0)-(if bt x.wins b q then 1 else 0):=rfl
  have n1:¬bw=w.heap.size:=by omega
  have n2:¬bb=w.heap.size:=by omega
  generalize balF (bt x.wins) ws b q=S at *
  have HQ:Hid (q≤7):=by show _≤_;omega
  have hSb:-800000≤S∧S≤800000:=by omega
  clear hu hz HRG HBD
  have HSC:=Lib.hid hsc
  cases ha:bt x.wins q b
  ·cases hc:bt x.wins b q
   ·have HN:Hid (balF (bt x.wins) ws b (q+1)=S):=by show _=_;rw [HSC.out,hmb,ha,hc];simp
    rw [ha] at bz
    rw [hc] at by_
    simp only [Bool.false_eq_true,if_false] at bz by_
    clear hsc hmb hself hanti ha hc hbd
    go_wp2
    go_roundw
    case rel=>exact ⟨q+1,by omega,by go_num,by rw [HN.out],trivial⟩
    case measure=>simp [intOf];omega
   ·have HN:Hid (balF (bt x.wins) ws b (q+1)=S-u0):=by show _=_;rw [HSC.out,hmb,ha,hc];simp;omega
    rw [ha] at bz
    rw [hc] at by_
    simp only [Bool.false_eq_true,if_false,if_true] at bz by_
    clear hsc hmb hself hanti ha hc hbd
    go_wp2
    go_roundw
    case rel=>exact ⟨q+1,by omega,by go_num,by rw [HN.out],trivial⟩
    case measure=>simp [intOf];omega
  ·have hc:bt x.wins b q=false:=by
    have hne:q≠b:=fun e=>by have:=hself e;rw [ha] at this;cases this
    have:=hanti hne
    rw [ha] at this
    cases h:bt x.wins b q
    ·rfl
    ·exact absurd h.symm this
   have HN:Hid (balF (bt x.wins) ws b (q+1)=S+u0):=by show _=_;rw [HSC.out,hmb,ha,hc];simp
   rw [ha] at bz
   simp only [if_true] at bz
   clear hsc hmb hself hanti ha hc hbd by_
   go_wp2
   go_roundw
   case rel=>exact ⟨q+1,by omega,by go_num,by rw [HN.out],trivial⟩
   case measure=>simp [intOf];omega
def gcdI (l:List Int) (i:Nat):Nat:=(l.take i).foldl (fun g x=>Nat.gcd g x.natAbs) 0
theorem gcdI_succ {l:List Int}{i:Nat}{x:Int} (h:l[i]? = some x):gcdI l (i+1)=Nat.gcd (gcdI l i) x.natAbs:=by
 unfold gcdI
 rw [take_snoc h,List.foldl_append];rfl
theorem gcdI_all (l:List Int):gcdI l l.length=gcdL l:=by unfold gcdI gcdL;rw [List.take_length]
theorem gcdI_le {l:List Int} (h:∀x∈l,0≤x∧x≤1000000):∀i,i≤l.length→gcdI l i≤1000000
 | 0,_=>by simp [gcdI]
 | i+1,hi=>by
  have ih:=gcdI_le h i (by omega)
  rw [gcdI_succ (List.getElem?_eq_getElem (by omega))]
  have h1:=h l[i] (List.getElem_mem _)
  by_cases h0:gcdI l i=0
  ·rw [h0,Nat.gcd_zero_left];omega
  ·exact Nat.le_trans (Nat.gcd_le_left _ (by omega)) ih
theorem lowest_any (A:Option Addr) (c:Nat) (xs:List Int) (w:World) (hs:SlI w A xs) (hx:∀x∈xs,0≤x∧x≤1000000) (hn:xs.length≤1000) (hg:0<gcdL xs):
  Calls Tryz.prog 336 #[.slice A xs.length c] w fun e w'=>∃v',e=.returned v'∧Fr w' w.heap.size w'.heap.size v' (lowL xs)∧Below w.heap.size w w':=by
 have HS:=Lib.hid hs
 have HX:=Lib.hid hx
 have HG:=Lib.hid hg
 have HGL:=Lib.hid (gcdI_le hx)
 have HGA:=Lib.hid (gcdI_all xs)
 generalize hl:xs.length=n at *
 have HL:=Lib.hid hl
 clear hs hx hg hl
 go_enter Tryz.func336,Tryz.ntmps336
 go_wp2
 go_loopw [3,5,11] (fun g _ i wr=>∃q:Nat,q≤n∧i=.int .i64 (q:Int)∧g=.int .i64 (gcdI xs q:Nat)∧∃k,wr=w.drewN k) (fun _ _ i _=>n-(intOf i).toNat)
 case atStart=>exact ⟨0,Nat.zero_le _,rfl,rfl,0,rfl⟩
 case round=>
  obtain ⟨q,hq,rfl,rfl,k1,rfl⟩:=hrel
  by_cases hlt:q<n
  ·obtain ⟨b,off,y,rfl,hy,cy,hbl⟩:=(SlI.drewN HS.out k1).at_ (k:=q) (by rw [HL.out];exact hlt)
   obtain ⟨y1,y2⟩:=HX.out y (List.mem_of_getElem? hy)
   obtain ⟨Y,rfl⟩:∃Y:Nat,y=(Y:Int):=⟨y.toNat,by omega⟩
   have HN:Hid (gcdI xs (q+1)=Nat.gcd (gcdI xs q) Y):=gcdI_succ hy
   have hgl:=HGL.out q (by omega)
   clear hy
   go_wp2
   go_loopw [3,5] (fun g m wr=>∃a b:Nat,a≤1000000∧b≤1000000∧g=.int .i64 (a:Int)∧m=.int .i64 (b:Int)∧Hid (Nat.gcd a b=gcdI xs (q+1))∧∃k,wr=w.drewN k) (fun _ m _=>(intOf m).toNat)
   case atStart=>exact ⟨gcdI xs q,Y,hgl,by omega,rfl,rfl,HN.out.symm,k1,rfl⟩
   case round=>
    obtain ⟨a,d,ha,hd,rfl,rfl,HE,k2,rfl⟩:=hrel
    by_cases h0:d=0
    ·subst h0
     have HE2:Hid (gcdI xs (q+1)=a):=by show _=_;rw [←HE.out,Nat.gcd_zero_right]
     go_wp2
     go_roundw
     case rel=>exact ⟨q+1,by omega,by go_num,by rw [HE2.out],k2,rfl⟩
     case measure=>simp [intOf];omega
    ·have f1:¬((d:Int)=0):=by omega
     have f2:Int.tmod (a:Int) (d:Int)=((a%d:Nat):Int):=rfl
     have f3:a%d<d:=Nat.mod_lt _ (by omega)
     have HE2:Hid (Nat.gcd d (a%d)=gcdI xs (q+1)):=by show _=_;rw [←HE.out,Nat.gcd_comm d,←Nat.gcd_rec,Nat.gcd_comm]
     have f4:((d:Int)==0)=false:=by simpa using f1
     go_wp2
     go_quiet (fail)
     go_wp2
     go_roundw
     case rel=>exact ⟨d,a%d,by omega,by omega,rfl,by simp,HE2.out,k2+nq,World.drewN_drewN _ _ _⟩
     case measure=>simp [intOf];omega
  ·obtain rfl:q=n:=by omega
   have HGP:Hid (((gcdI xs q:Nat):Int)=(gcdL xs:Int)):=by show _=_;rw [HGA.out]
   rw [HGP.out]
   have g1:¬((gcdL xs:Nat):Int)=0:=by have:=HG.out;omega
   have H0:Hid (Fr (w.drewN k1) w.heap.size (w.drewN k1).heap.size (.slice none 0 0) ((lowL xs).take 0)∧Below w.heap.size w (w.drewN k1)):=⟨Fr.nil _ (Nat.le_refl _),below_of_drewN _ _ _⟩
   have HLL:Hid ((lowL xs).length=q):=by show _=_;unfold lowL;rw [List.length_map,HL.out]
   go_wp2
   go_loopw [6,24] (fun v i wr=>∃(r:Nat) (vv:Value),r≤q∧i=.int .i64 r∧vv=v∧Hid (Fr wr w.heap.size wr.heap.size vv ((lowL xs).take r)∧Below w.heap.size w wr)) (fun _ i _=>q-(intOf i).toNat)
   case atStart=>exact ⟨0,_,Nat.zero_le _,rfl,rfl,H0.out⟩
   case round=>
    obtain ⟨r,vv,hr,rfl,rfl,HR⟩:=hrel
    by_cases hlt2:r<q
    ·obtain ⟨b,off,y,rfl,hy,cy,hbl⟩:=(SlI.below HS.out HR.out.2).at_ (k:=r) (by rw [HL.out];exact hlt2)
     obtain ⟨y1,y2⟩:=HX.out y (List.mem_of_getElem? hy)
     obtain ⟨Y,rfl⟩:∃Y:Nat,y=(Y:Int):=⟨y.toNat,by omega⟩
     have HT:Hid ((lowL xs).take (r+1)=(lowL xs).take r++[((Y:Int)).tdiv (gcdL xs:Int)]):=take_snoc (by unfold lowL;rw [List.getElem?_map,hy];rfl)
     have hTL:((lowL xs).take r).length=r:=by rw [List.length_take,HLL.out];omega
     have HTL:=Lib.hid hTL
     have f2:Int.tdiv (Y:Int) (gcdL xs:Int)=((Y/gcdL xs:Nat):Int):=rfl
     have hYd:Y/gcdL xs≤Y:=Nat.div_le_self _ _
     rw [f2] at HT
     generalize Y/gcdL xs=Z at *
     have g2:(((gcdL xs:Nat):Int)==0)=false:=by simpa using g1
     have f3:IntKind.i64.wrap (Z:Int)=(Z:Int):=by rw [IntKind.wrap_i64];omega
     clear hy hTL
     go_wp2_with (at_builtin;refine app1 rfl _ _ rfl wr w.heap.size vv r ((lowL xs).take r) rfl (by have:=HR.out.1.own;rw [HTL.out] at this;exact this) (Z:Int) rfl (by omega) HR.out.2.size ?_;intro v2 w2 hown hb2 _ _;have H2:Hid (Fr w2 w.heap.size w2.heap.size v2 ((lowL xs).take (r+1))∧Below w.heap.size w w2):=⟨by rw [HT.out];exact Fr.of_own (by rw [List.length_append,HTL.out];exact hown),HR.out.2.trans (hb2 _ (Nat.le_refl _) HR.out.2.size)⟩;clear hown hb2)
     go_roundw
     case rel=>exact ⟨r+1,_,by omega,by go_num,rfl,H2.out⟩
     case measure=>simp [intOf];omega
    ·obtain rfl:r=q:=by omega
     have HF:Hid (Fr wr w.heap.size wr.heap.size vv (lowL xs)):=by have:=HR.out.1;rw [List.take_of_length_le (by rw [HLL.out];exact Nat.le_refl _)] at this;exact this
     go_wp2
     go_ret
     exact ⟨_,rfl,HF.out,HR.out.2⟩
def sprI (n:Nat) (l:List Nat) (q:List Int):Nat→List Int
 | 0=>List.replicate n 0
 | i+1=>(sprI n l q i).set (l.getD i 0) (fn q i)
def sprL (n:Nat) (l:List Nat) (q:List Int):List Int:=sprI n l q l.length
theorem sprI_length (n:Nat) (l:List Nat) (q:List Int):∀i,(sprI n l q i).length=n
 | 0=>by simp [sprI]
 | i+1=>by rw [sprI,List.length_set,sprI_length n l q i]
theorem sprL_length (n:Nat) (l:List Nat) (q:List Int):(sprL n l q).length=n:=sprI_length n l q _
theorem getD_ne {l:List Nat} (hnd:l.Nodup) {i j:Nat} (hi:i<l.length) (hj:j<l.length) (h:i≠j):l.getD i 0≠l.getD j 0:=fun e=>by
 rw [List.getD_eq_getElem?_getD,List.getD_eq_getElem?_getD,List.getElem?_eq_getElem hi,List.getElem?_eq_getElem hj] at e
 exact h ((List.getElem_inj hnd).1 e)
theorem fn_set {l:List Int}{i j:Nat}{y:Int} (hi:i<l.length):fn (l.set i y) j=if j=i then y else fn l j:=getD_set l i j y 0 hi
theorem sprI_at {n:Nat}{l:List Nat}{q:List Int} (hnd:l.Nodup) (hm:∀a∈l,a<n):∀i,i≤l.length→∀j,j<i→fn (sprI n l q i) (l.getD j 0)=fn q j
 | 0,_,j,hj=>by omega
 | i+1,hi,j,hj=>by
  have hmi:l.getD i 0<n:=hm _ (by rw [List.getD_eq_getElem?_getD,List.getElem?_eq_getElem (show i<l.length by omega)];exact List.getElem_mem _)
  rw [sprI,fn_set (by rw [sprI_length];exact hmi)]
  by_cases e:j=i
  ·subst e;rw [if_pos rfl]
  ·rw [if_neg (getD_ne hnd (by omega) (by omega) e),sprI_at hnd hm i (by omega) j (by omega)]
theorem sprL_at {n:Nat}{l:List Nat}{q:List Int} (hnd:l.Nodup) (hm:∀a∈l,a<n) {j:Nat} (hj:j<l.length):fn (sprL n l q) (l.getD j 0)=fn q j:=sprI_at hnd hm _ (Nat.le_refl _) j hj
theorem sprI_mem {n:Nat}{l:List Nat}{q:List Int}:∀i,i≤q.length→∀x∈sprI n l q i,x=0∨x∈q
 | 0,_,x,hx=>by rw [sprI,List.mem_replicate] at hx;exact .inl hx.2
 | i+1,hi,x,hx=>by
  rw [sprI] at hx
  rcases List.mem_or_eq_of_mem_set hx with h|h
  ·exact sprI_mem i (by omega) x h
  ·exact .inr (h ▸ fn_mem (by omega))
theorem sprL_mem {n:Nat}{l:List Nat}{q:List Int} (hq:q.length=l.length):∀x∈sprL n l q,x=0∨x∈q:=sprI_mem _ (by omega)
theorem sprI_map {n:Nat}{l:List Nat}{q:List Int}{f:Int→Int} (h0:f 0=0):∀i,i≤q.length→(sprI n l q i).map f=sprI n l (q.map f) i
 | 0,_=>by simp [sprI,h0]
 | i+1,hi=>by rw [sprI,sprI,List.map_set,sprI_map h0 i (by omega),fn_map (by omega)]
theorem sprL_map {n:Nat}{l:List Nat}{q:List Int}{f:Int→Int} (hq:q.length=l.length) (h0:f 0=0):(sprL n l q).map f=sprL n l (q.map f):=sprI_map h0 _ (by omega)
theorem sprL_gcd {n:Nat}{l:List Nat}{q:List Int} (hnd:l.Nodup) (hm:∀a∈l,a<n) (hq:q.length=l.length):gcdL (sprL n l q)=gcdL q:=by
 refine Nat.dvd_antisymm (dvd_gcdL.2 fun x hx=>?_) (dvd_gcdL.2 fun x hx=>?_)
 ·obtain ⟨j,hj,rfl⟩:=mem_fn hx
  have hmj:l.getD j 0<n:=hm _ (by rw [List.getD_eq_getElem?_getD,List.getElem?_eq_getElem (show j<l.length by omega)];exact List.getElem_mem _)
  rw [←sprL_at hnd hm (show j<l.length by omega)]
  exact gcdL_dvd (fn_mem (by rw [sprL_length];exact hmj))
 ·rcases sprL_mem hq x hx with rfl|h
  ·simp
  ·exact gcdL_dvd h
theorem sprL_low {n:Nat}{l:List Nat}{q:List Int} (hnd:l.Nodup) (hm:∀a∈l,a<n) (hq:q.length=l.length):lowL (sprL n l q)=sprL n l (lowL q):=by
 unfold lowL
 rw [sprL_gcd hnd hm hq,sprL_map (f:=fun z=>z.tdiv (gcdL q:Int)) hq (by simp)]
def memN (s:Nat):List Nat:=(List.range 8).filter fun a=>s.testBit a
theorem memN_nI (s:Nat):memL s=nI (memN s):=rfl
theorem memN_len (s:Nat):(memN s).length=cntL s:=rfl
theorem memN_nd (s:Nat):(memN s).Nodup:=List.Pairwise.filter _ List.nodup_range
theorem memN_lt {s n:Nat} (hs:s<2^n):∀a∈memN s,a<n:=fun a ha=>by
 have h:=(List.mem_filter.1 ha).2
 rcases Nat.lt_or_ge a n with h2|h2
 ·exact h2
 ·rw [Nat.testBit_lt_two_pow (Nat.lt_of_lt_of_le hs (Nat.pow_le_pow_right (by omega) h2))] at h
  cases h
def kerS (x:TourV) (s:Nat):Option (List Int):=kerF (pfs (Mb (bt x.wins)) (cntL s/2) (memN s))
def safeB (x:TourV) (ws:List Int):Bool:=(List.range x.wins.length).all fun b=>decide (0≤balF (bt x.wins) ws b x.wins.length)
def setS (x:TourV) (s:Nat):Option (List Int):=
 if cntL s%2=1 then
  match kerS x s with
  | some q=>if safeB x (sprL x.wins.length (memN s) q) then some (sprL x.wins.length (memN s) q) else none
  | none=>none
 else none
def safeT (x:TourV):Nat→Option (List Int)
 | 0=>none
 | k+1=>match safeT x k with
  | some q=>some q
  | none=>setS x (k+1)
def safeF (x:TourV):Option (List Int):=if tourB x=true∧x.wins.length≤7 then safeT x (2^x.wins.length-1) else none
theorem safeT_none {x:TourV}{k:Nat} (h:safeT x k=none) (h2:setS x (k+1)=none):safeT x (k+1)=none:=by rw [safeT,h,h2]
theorem safeT_hit {x:TourV}{k:Nat}{q:List Int} (h:safeT x k=none) (h2:setS x (k+1)=some q):∀m,k+1≤m→safeT x m=some q
 | 0,hm=>by omega
 | m+1,hm=>by
  by_cases e:m=k
  ·subst e;rw [safeT,h,h2]
  ·rw [safeT,safeT_hit h h2 m (by omega)]
theorem setS_even {x:TourV}{s:Nat} (h:cntL s%2=0):setS x s=none:=by unfold setS;rw [if_neg (by omega)]
theorem setS_no {x:TourV}{s:Nat} (h:kerS x s=none):setS x s=none:=by unfold setS;rw [h];split<;>rfl
theorem setS_some {x:TourV}{s:Nat}{q:List Int} (h1:cntL s%2=1) (h:kerS x s=some q):setS x s=if safeB x (sprL x.wins.length (memN s) q) then some (sprL x.wins.length (memN s) q) else none:=by unfold setS;rw [if_pos h1,h]
theorem low_bd {l:List Int} (h:∀z∈l,0<z∧z≤15):∀z∈lowL l,1≤z∧z≤15:=by
 intro z hz
 obtain ⟨y,hy,rfl⟩:=List.mem_map.1 hz
 obtain ⟨h1,h2⟩:=h y hy
 obtain ⟨k,hk⟩:=Int.ofNat_dvd_left.2 (gcdL_dvd hy)
 have hg:0<gcdL l:=Nat.pos_of_ne_zero fun h0=>by
  rw [h0] at hk;simp at hk;omega
 rw [hk,Int.mul_tdiv_cancel_left _ (by omega)]
 have hg1:(1:Int)≤gcdL l:=by omega
 constructor
 ·rcases (by omega:k<1∨1≤k) with h3|h3
  ·have h4:=Int.mul_le_mul_of_nonneg_left (show k≤0 by omega) (show (0:Int)≤gcdL l by omega)
   rw [Int.mul_zero] at h4
   omega
  ·exact h3
 ·rcases (by omega:k<16∨16≤k) with h3|h3
  ·omega
  ·have h4:=Int.mul_le_mul_of_nonneg_right hg1 (show (0:Int)≤k by omega)
   omega
theorem pfs_15 {x:TourV}{l:List Nat}{k:Nat} (hl:l.length=2*k+1) (hk:k≤3):∀z∈pfs (Mb (bt x.wins)) k l,z.natAbs≤15:=fun z hz=>by
 have h1:=pfs_abs (Mb_abs _) hl z hz
 have h2:dfact k≤15:=by
  match k,hk with
  | 0,_=>decide
  | 1,_=>decide
  | 2,_=>decide
  | 3,_=>decide
 omega
theorem sgn_15 {ps:List Int} (h:∀z∈ps,z.natAbs≤15):∀z∈sgnL ps,z.natAbs≤15:=by
 unfold sgnL
 split
 ·intro z hz
  obtain ⟨y,hy,rfl⟩:=List.mem_map.1 hz
  have:=h y hy;omega
 ·exact h
theorem ker_some {ps q:List Int} (h:kerF ps=some q):q=lowL (sgnL ps)∧∀z∈sgnL ps,0<z:=by
 unfold kerF at h
 split at h
 ·rename_i ha
  injection h with h
  exact ⟨h.symm,fun z hz=>of_decide_eq_true (List.all_eq_true.1 ha z hz)⟩
 ·cases h
theorem ker_15 {x:TourV}{l:List Nat}{k:Nat} (hl:l.length=2*k+1) (hk:k≤3) {q:List Int} (h:kerF (pfs (Mb (bt x.wins)) k l)=some q):q.length=l.length∧∀z∈q,1≤z∧z≤15:=by
 obtain ⟨rfl,hp⟩:=ker_some h
 refine ⟨by unfold lowL;rw [List.length_map,sgnL_length,pfs_length],low_bd fun z hz=>⟨hp z hz,?_⟩⟩
 have:=sgn_15 (pfs_15 (x:=x) hl hk) z hz
 omega
theorem spr_bd {n:Nat}{l:List Nat}{q:List Int} (hq:q.length=l.length) (h:∀z∈q,1≤z∧z≤15):∀y∈sprL n l q,0≤y∧y≤100000:=fun y hy=>by
 rcases sprL_mem hq y hy with rfl|h2
 ·omega
 ·have:=h y h2;omega
theorem safeB_hit {x:TourV}{ws:List Int}{b:Nat} (hb:b<x.wins.length) (h:balF (bt x.wins) ws b x.wins.length<0):safeB x ws=false:=
 List.all_eq_false.2 ⟨b,List.mem_range.2 hb,by simpa using h⟩
theorem safeB_all {x:TourV}{ws:List Int} (h:∀b,b<x.wins.length→0≤balF (bt x.wins) ws b x.wins.length):safeB x ws=true:=by
 unfold safeB
 rw [List.all_eq_true]
 exact fun b hb=>decide_eq_true (h b (List.mem_range.1 hb))
def KerR (w:World) (e:Ending) (w':World) (o:Option (List Int)):Prop:=
 Below w.heap.size w w'∧match o with
  | none=>e=.returned (.tuple #[.slice none 0 0,.bool false])
  | some q=>∃v',e=.returned (.tuple #[v',.bool true])∧Fr w' w.heap.size w'.heap.size v' q
theorem Bx.far {w w':World}{b B:Nat}{x y:Value} (h:Bx w b x y) (hb:Below B w w') (hB:b<B):Bx w' b x y:=
 ⟨(hb.cell (p:=⟨b,0,none⟩) hB).trans h.1,(hb.cell (p:=⟨b,1,none⟩) hB).trans h.2.1,Nat.lt_of_lt_of_le h.2.2 hb.size⟩
end Go.Proofs.YtkapoldjcpfdgaaGreatDoor
