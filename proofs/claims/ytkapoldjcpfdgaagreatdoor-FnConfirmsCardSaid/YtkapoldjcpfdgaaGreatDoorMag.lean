/- Orders with few reversals: the tables of the sets. -/
import Derived.Test.YtkapoldjcpfdgaaGreatDoorMae
import Derived.Test.YtkapoldjcpfdgaaGreatDoorMaf
set_option maxHeartbeats 4000000
set_option maxRecDepth 100000
namespace Go.Proofs.YtkapoldjcpfdgaaGreatDoor
open Go.ChangeShapes Go.WideShapes Go.ChangeAt Go.RowKit
theorem reverseI_any (g n c lo hi i:Nat) (c2:Nat) (xs:List Int) (w:World) (hn:n=xs.length) (hnn:xs.length≤1048576) (hf:Fr w lo hi (.slice (some ⟨g,0,none⟩) n c) xs) (hi':i≤n):
  Calls Tryz.prog 265 #[.slice (some ⟨g,i,none⟩) (n-i) c2] w fun e w'=>e=.returned (.tuple #[])∧Fr w' lo hi (.slice (some ⟨g,0,none⟩) n c) (xs.take i++(xs.drop i).reverse)∧Keep lo hi w w':=by
 obtain ⟨A',c',he,hc,hm⟩:=hf.form
 injection he with h1 h2 h3
 subst h1;subst h3;subst hn
 have hgh:g<hi:=hf.2.1 g rfl
 have hlog:lo≤g:=(hf.1.lt g rfl).1
 obtain ⟨us,hul,hut,_,hfull⟩:=own_full hf.1
 have hdl:(xs.drop i).length=xs.length-i:=List.length_drop
 have h:=Tryz.slices_Reverse_int_cells g i (xs.length-i) c2 (xs.drop i) w (by omega) (by omega) ?_ ?_
 ·refine h.mono ?_
  rintro e w' ⟨rfl,q,rfl⟩
  have hz:=own_setCells (((xs.drop i).take (xs.length-i)).reverse.map (Value.int .i64)) i (w.drewN q) us hfull (by simp;omega)
  have hk:Keep lo hi w ((w.drewN q).setCells g i (((xs.drop i).take (xs.length-i)).reverse.map (Value.int .i64))):=((Keep.refl lo hi w).drewN q).trans (hz.2.wide hlog (by omega))
  refine ⟨rfl,⟨?_,fun g' hg'=>?_,Nat.le_trans hf.2.2 hk.size⟩,hk⟩
  ·have hcut:=own_cut hz.1 (k:=xs.length) hc
   have e:(us.take i++((xs.drop i).take (xs.length-i)).reverse.map (Value.int .i64)++us.drop (i+(((xs.drop i).take (xs.length-i)).reverse.map (Value.int .i64)).length)).take xs.length=ints (xs.take i++(xs.drop i).reverse):=by
    rw [List.take_of_length_le (l:=xs.drop i) (by omega)]
    rw [List.take_left' (by simp;omega)]
    have e1:us.take i=ints (xs.take i):=by
     have:(us.take xs.length).take i=us.take i:=by rw [List.take_take];congr 1;omega
     rw [←this,hut];simp [ints,List.map_take]
    rw [e1];simp [ints]
   rw [e] at hcut
   rw [show (xs.take i++(xs.drop i).reverse).length=xs.length from by simp;omega]
   exact hcut
  ·simp only [Value.ownBlock,Option.some.injEq] at hg';omega
 ·intro j hj
  rw [hf.1.cellAt (i+j) (by simp;omega)]
  have e:(xs.drop i).getD j 0=xs[i+j]'(by omega):=by
   rw [List.getD_eq_getElem?_getD,List.getElem?_drop,List.getElem?_eq_getElem (by omega)];rfl
  rw [e]
  exact ints_get (List.getElem?_eq_getElem (by omega))
 ·intro j _
  exact hf.1.frozenAt (i+j)
theorem posR_lo {key:Int→Int}{l:List Int}{x:Int}:∀k,k≤l.length→∀i,i<posR key l x k→posR key l x k=i+1→¬key (l.getD i 0)<key x:=by
 intro k
 induction k with
 | zero=>intro _ i h;simp [posR] at h
 | succ k ih=>
  intro hk i hi e
  rw [posR] at hi e
  split at e
  ·next h=>rw [if_pos h] at hi;exact ih (by omega) i hi e
  ·next h=>
   obtain rfl:k=i:=by omega
   exact h
theorem posR_hi {key:Int→Int}{l:List Int}{x:Int}:∀k,k≤l.length→∀i,posR key l x k≤i→i<k→key (l.getD i 0)<key x:=by
 intro k
 induction k with
 | zero=>intro _ i _ h;omega
 | succ k ih=>
  intro hk i h1 h2
  rw [posR] at h1
  split at h1
  ·next h=>
   rcases Nat.eq_or_lt_of_le (Nat.le_of_lt_succ h2) with rfl|h3
   ·exact h
   ·exact ih (by omega) i h1 h3
  ·omega
def Desc (key:Int→Int) (l:List Int):Prop:=∀i j,i<j→j<l.length→key (l.getD j 0)≤key (l.getD i 0)
theorem insR_desc {key:Int→Int}{l:List Int}{x:Int} (h:Desc key l):Desc key (insR key l x):=by
 have hp:=posR_le key l x l.length
 have hlo:=posR_lo (key:=key) (l:=l) (x:=x) l.length (Nat.le_refl _)
 have hhi:=posR_hi (key:=key) (l:=l) (x:=x) l.length (Nat.le_refl _)
 have hlen:=insR_length key l x
 unfold insR at hlen ⊢
 generalize hP:posR key l x l.length=p at *
 have hget:∀i,(l.take p++x :: l.drop p).getD i 0=if i<p then l.getD i 0 else if i=p then x else l.getD (i-1) 0:=by
  intro i
  rw [List.getD_eq_getElem?_getD]
  split
  ·next h1=>rw [List.getElem?_append_left (by simp;omega),List.getElem?_take,if_pos h1,←List.getD_eq_getElem?_getD]
  ·next h1=>
   rw [List.getElem?_append_right (by simp;omega)]
   have hm:(l.take p).length=p:=by simp;omega
   rw [hm]
   split
   ·next h2=>subst h2;simp
   ·next h2=>
    rw [show i-p=(i-1-p)+1 by omega,List.getElem?_cons_succ,List.getElem?_drop,show p+(i-1-p)=i-1 by omega,←List.getD_eq_getElem?_getD]
 intro i j hij hj
 rw [hlen] at hj
 rw [hget i,hget j]
 by_cases hi:i<p
 ·rw [if_pos hi]
  by_cases hj1:j<p
  ·rw [if_pos hj1];exact h i j hij (by omega)
  ·rw [if_neg hj1]
   by_cases hj2:j=p
   ·rw [if_pos hj2]
    have h1:=hlo (p-1) (by omega) (by omega)
    rcases Nat.eq_or_lt_of_le (show i≤p-1 by omega) with e|e
    ·subst e;omega
    ·have:=h i (p-1) e (by omega);omega
   ·rw [if_neg hj2];exact h i (j-1) (by omega) (by omega)
 ·rw [if_neg hi,if_neg (show ¬j<p by omega),if_neg (show ¬j=p by omega)]
  by_cases hi2:i=p
  ·rw [if_pos hi2]
   have:=hhi (j-1) (by omega) (by omega);omega
  ·rw [if_neg hi2];exact h (i-1) (j-1) (by omega) (by omega)
theorem insF_desc (key:Int→Int):∀xs,Desc key (insF key xs):=by
 have h:∀(xs l:List Int),Desc key l→Desc key (xs.foldl (insR key) l):=by
  intro xs
  induction xs with
  | nil=>intro l hl;exact hl
  | cons x xs ih=>intro l hl;exact ih _ (insR_desc hl)
 intro xs
 exact h xs [] (fun i j _ hj=>by simp at hj)
theorem byScore1_any (x:TourV) (hok:tourB x=true) (A:Option Addr) (c bq:Nat) (a b:Nat) (W:World) (ha:a<x.wins.length) (hb:b<x.wins.length)
  (hi:InT W (.agg #[.int .i64 x.size,.slice A x.wins.length c]) x) (hq:Bx W bq (.int .i64 x.size) (.slice A x.wins.length c)):
  Calls Tryz.prog 372 #[.int .i64 (a:Int),.int .i64 (b:Int),.pointer (some ⟨bq,0,none⟩)] W fun e W'=>∃c:Int,e=.returned (.int .i64 c)∧(c<0↔scoreF x (b:Int)<scoreF x (a:Int))∧Below W.heap.size W W':=by
 have HI:=Lib.hid hi
 have HQ:=Lib.hid hq
 obtain ⟨q0,q1,q2⟩:=hq
 have HS:Hid (∀V (d:Nat),Below W.heap.size W V→d<x.wins.length→Calls Tryz.prog 254 #[.agg #[.int .i64 x.size,.slice A x.wins.length c],.int .i64 (d:Int)] V fun e w'=>e=.returned (.int .i64 (scN x d:Nat))∧Below V.heap.size V w'):=fun V d hV hd=>implScore_any _ x d V (HI.out.below hV) hok hd
 have HE:Hid (((scN x b:Nat):Int)-(scN x a:Nat)<0↔scoreF x (b:Int)<scoreF x (a:Int)):=by
  show _↔_
  rw [scoreF,scoreF,Int.toNat_natCast,Int.toNat_natCast]
  show ((scN x b:Nat):Int)-(scN x a:Nat)<0↔((scN x b:Nat):Int)<((scN x a:Nat):Int)
  omega
 have hsa:=scN_le x a
 have hsb:=scN_le x b
 have HSA:=Lib.hid (fun V hV=>HS.out V a hV ha)
 have HSB:=Lib.hid (fun V hV=>HS.out V b hV hb)
 have eW:IntKind.i64.wrap (((scN x b:Nat):Int)-(scN x a:Nat))=((scN x b:Nat):Int)-(scN x a:Nat):=by rw [IntKind.wrap_i64];omega
 generalize scN x a=SA at *
 generalize scN x b=SB at *
 have HB0:Hid (Below W.heap.size W W.drew):=below_drewL (Below.refl _ _)
 clear hi HS
 go_enter Tryz.func372,Tryz.ntmps372
 go_wp2_with fail
 go_region_held3 (fun V=>V.cell? ⟨bq,0,none⟩=some (.int .i64 x.size)∧V.cell? ⟨bq,1,none⟩=some (.slice A x.wins.length c)) (first|exact ⟨q0,q1⟩|exact ⟨(HQ.out.below B2.out).1,(HQ.out.below B2.out).2.1⟩|exact ⟨(HQ.out.below B1.out).1,(HQ.out.below B1.out).2.1⟩) (first
  | (go_at_call 254;(with_reducible refine (HSB.out _ HB0.out).mono ?_);rintro e w1 ⟨rfl,hb⟩;have B1:Hid (Below W.heap.size W w1):=HB0.out.trans (hb.mono HB0.out.size);clear hb)
  | (have h_:=B1.out;clear h_;go_at_call 254;(with_reducible refine (HSA.out _ B1.out).mono ?_);rintro e w2 ⟨rfl,hb⟩;have B2:Hid (Below W.heap.size W w2):=B1.out.trans (hb.mono B1.out.size);clear hb))
 go_wp2
 go_ret
 exact ⟨_,rfl,HE.out,B2.out⟩
def byL (x:TourV):List Int:=insF (scoreF x) (idxs x.wins.length)
theorem byL_len (x:TourV):(byL x).length=x.wins.length:=by rw [byL,insF_length,idxs_length]
theorem byL_mem {x:TourV}{y:Int}:y∈byL x↔0≤y∧y<x.wins.length:=by rw [byL,(insF_perm _ _).mem_iff,idxs_mem]
theorem Fr.someC {w:World}{lo hi:Nat}{v:Value}{xs:List Int} (h:Fr w lo hi v xs) (hl:0<xs.length):∃g c,v=.slice (some ⟨g,0,none⟩) xs.length c∧lo≤g∧g<hi:=by
 obtain ⟨A,c,rfl,_,_⟩:=h.form
 obtain ⟨g,y,rfl,h1,h2,_⟩:=h.at_ hl
 exact ⟨g,c,rfl,h1,h2⟩
theorem byScore_any (v:Value) (x:TourV) (w:World) (hs:InT w v x) (hok:tourB x=true):
  Calls Tryz.prog 330 #[v] w fun e w'=>∃v',e=.returned v'∧Fr w' w.heap.size w'.heap.size v' (byL x)∧Below w.heap.size w w':=by
 have HIT:=Lib.hid hs
 have HOK:=Lib.hid hok
 obtain ⟨u,rfl,A,c,rfl,hc,hm,hsl⟩:=hs
 obtain ⟨t1,t2,t3,_,_⟩:=tourB_t hok
 have hn8:x.wins.length≤8:=by omega
 have HSZ:Hid (x.size=(x.wins.length:Int)):=t3.symm
 have HBX:Hid (Bx (w.alloc (.cells #[.int .i64 x.size,.slice A x.wins.length c] 27)) w.heap.size (.int .i64 x.size) (.slice A x.wins.length c)∧Below w.heap.size w (w.alloc (.cells #[.int .i64 x.size,.slice A x.wins.length c] 27))∧(w.alloc (.cells #[.int .i64 x.size,.slice A x.wins.length c] 27)).heap.size=w.heap.size+1):=⟨⟨by simp,by simp,by simp⟩,(Below.refl _ w).alloc (Nat.le_refl _) _,World.size_alloc _ _⟩
 clear hsl
 have hn1:1≤x.wins.length:=by omega
 have HBX2:=HBX.out
 rw [HSZ.out] at HBX2
 rw [HSZ.out]
 obtain ⟨⟨q0,q1,q2⟩,-,-⟩:=id HBX2
 have HBX2:=Lib.hid HBX2
 clear t1 t2 t3
 go_enter Tryz.func330,Tryz.ntmps330
 go_wp2_with fail
 generalize hW1:(w.alloc (.cells #[.int .i64 (x.wins.length:Int),.slice A x.wins.length c] 27))=w1 at *
 refine (indices_any x.wins.length w1 (by omega)).mono ?_
 rintro e w4 ⟨v4,rfl,hf,hb⟩
 obtain ⟨gi,ci,rfl,hi1,hi2⟩:=hf.someC (by rw [idxs_length];omega)
 rw [idxs_length] at hf
 have HF4:=Lib.hid (And.intro hf hb)
 have hsz4:=hb.size
 have hz1:=HBX2.out.2.2
 clear hf hb q0 q1 q2 hW1
 have HC:Hid (CmpBy w4 w1.heap.size w4.heap.size 372 #[.pointer (some ⟨w.heap.size,0,none⟩)] (idxs x.wins.length) (scoreF x)):=by
  show CmpBy _ _ _ _ _ _ _
  intro W a b hk ha hb
  obtain ⟨a1,a2⟩:=idxs_mem.1 ha
  obtain ⟨b1,b2⟩:=idxs_mem.1 hb
  obtain ⟨a,rfl⟩:=Int.eq_ofNat_of_zero_le a1
  obtain ⟨b,rfl⟩:=Int.eq_ofNat_of_zero_le b1
  have B1:Below w1.heap.size w1 W:=HF4.out.2.trans (hk.below (Nat.le_refl _) hsz4)
  have B0:Below w.heap.size w W:=HBX2.out.2.1.trans (B1.mono (by omega))
  have hq:Bx W w.heap.size (.int .i64 x.size) (.slice A x.wins.length c):=by rw [HSZ.out];exact HBX2.out.1.below B1
  exact byScore1_any x HOK.out A c w.heap.size a b W (by omega) (by omega) (HIT.out.below B0) hq
 have HSS:=sortStable_any w4 w1.heap.size w4.heap.size gi ci (idxs x.wins.length) (scoreF x) 372 #[.pointer (some ⟨w.heap.size,0,none⟩)] (by rw [idxs_length];exact HF4.out.1) (by rw [idxs_length];omega) (by rw [idxs_length];omega) (fun _ _=>by kernel_rfl) HC.out
 rw [idxs_length] at HSS
 have HSH:=Lib.hid HSS
 rw [idxs_length]
 clear HSS
 go_wp2_with fail
 refine HSH.out.mono ?_
 rintro e w5 ⟨rfl,hf5,kp5⟩
 have H5:Hid (Fr w5 w1.heap.size w4.heap.size (.slice (some ⟨gi,0,none⟩) x.wins.length ci) (byL x)∧Keep w1.heap.size w4.heap.size w4 w5):=⟨hf5,kp5⟩
 clear hf5 kp5
 go_wp2
 go_ret
 have hs3:w.heap.size≤w1.heap.size:=by omega
 exact ⟨_,rfl,H5.out.1.wide hs3 H5.out.2.size (Nat.le_refl _),(HBX2.out.2.1.trans (HF4.out.2.mono hs3)).trans (H5.out.2.below hs3 (by omega))⟩
def partN (x:TourV):Nat:=clN x (2^x.wins.length-1)
theorem clN_pos {x:TourV}{t:Nat} (h:clB x t=true):0<clN x t:=List.length_pos_of_mem (List.mem_filter.2 ⟨List.mem_range.2 (Nat.lt_succ_self t),h⟩)
theorem all_eq {n s:Nat} (hs:s<2^n) (h:∀i,i<n→s.testBit i=true):s=2^n-1:=by
 apply Nat.eq_of_testBit_eq
 intro i
 rw [Nat.testBit_two_pow_sub_one]
 rcases Nat.lt_or_ge i n with h1|h1
 ·rw [h i h1,decide_eq_true h1]
 ·rw [Nat.testBit_lt_two_pow (Nat.lt_of_lt_of_le hs (Nat.pow_le_pow_right (by omega) h1)),decide_eq_false (by omega)]
theorem partN_pos {x:TourV} (hok:tourB x=true):0<partN x:=by
 obtain ⟨t1,t2,t3,_,_⟩:=tourB_t hok
 have h2:(2:Nat)^1≤2^x.wins.length:=Nat.pow_le_pow_right (by omega) (by omega)
 have h256:(2:Nat)^x.wins.length≤256:=Nat.pow_le_pow_right (by omega) (show x.wins.length≤8 by omega)
 exact clN_pos ((clB_t (by omega)).2 ⟨by omega,cl_all hok⟩)
theorem clN_le (x:TourV) (s:Nat):clN x s≤s+1:=by
 unfold clN
 have:=List.length_filter_le (clB x) (List.range (s+1))
 rwa [List.length_range] at this
theorem partN_le {x:TourV} (hok:tourB x=true):partN x≤256:=by
 obtain ⟨t1,t2,t3,_,_⟩:=tourB_t hok
 have h256:(2:Nat)^x.wins.length≤256:=Nat.pow_le_pow_right (by omega) (show x.wins.length≤8 by omega)
 have h3:0<(2:Nat)^x.wins.length:=Nat.pow_pos (by omega)
 have:=clN_le x (2^x.wins.length-1)
 unfold partN
 omega
theorem add_or:∀b:Fin 8,∀v:Fin 256,v.val<2^b.val→v.val+2^b.val=v.val ||| 2^b.val:=by decide +kernel
theorem parts_more {x:TourV} (hok:tourB x=true) {L:List Int} (hmem:∀y,y∈L↔0≤y∧y<x.wins.length) (hd:∀i j,i<j→j<L.length→scoreF x (L.getD j 0)≤scoreF x (L.getD i 0))
  {k p j:Nat} (hk:k<2^x.wins.length) (hc:Cl x k) (hp:L[j]? = some (p:Int)) (hpk:k.testBit p=false) (hv:∀i y,j<i→L[i]? = some (y:Int)→k.testBit y.toNat=true):
  clN x (k ||| reachF x p)=clN x k+1:=by
 obtain ⟨hj,ep⟩:=List.getElem?_eq_some_iff.1 hp
 have hpl:=(hmem (p:Int)).1 (List.mem_of_getElem? hp)
 refine cl_more hok hk hc (by omega) hpk (fun q hq hqk=>?_)
 obtain ⟨i,hi,e⟩:=List.mem_iff_getElem.1 ((hmem (q:Int)).2 ⟨by omega,by omega⟩)
 have hqi:L[i]? = some (q:Int):=by rw [←e];exact List.getElem?_eq_getElem hi
 rcases Nat.lt_trichotomy i j with h|h|h
 ·have:=hd i j h hj
  rw [List.getD_eq_getElem?_getD,List.getD_eq_getElem?_getD,hp,hqi] at this
  exact this
 ·subst h
  rw [hp] at hqi
  obtain rfl:p=q:=Int.ofNat.inj (Option.some.inj hqi)
  exact Int.le_refl _
 ·have:=hv i q h hqi
  rw [Int.toNat_natCast,hqk] at this
  cases this
def nearF (x:TourV) (a:Nat):Nat:=(memL (winN x a)).foldl (fun (acc:Nat) (b:Int)=>acc ||| winN x b.toNat) (2^a ||| winN x a)
def kingB (x:TourV) (a:Nat):Bool:=decide (nearF x a=2^x.wins.length-1)
def kgT (x:TourV):Nat→Nat
 | 0=>0
 | k+1=>if kingB x k then kgT x k+2^k else kgT x k
def kingsF (x:TourV):Nat:=kgT x x.wins.length
theorem kgT_lt (x:TourV):∀k,kgT x k<2^k:=by
 intro k
 induction k with
 | zero=>exact Nat.one_pos
 | succ k ih=>
  rw [kgT,Nat.pow_succ]
  split<;>omega
def pwT (x:TourV) (l:List Int) (a:Nat):Nat→Nat
 | 0=>0
 | k+1=>if bt x.wins a (l.getD k 0).toNat then pwT x l a k+2^k else pwT x l a k
theorem pwT_lt (x:TourV) (l:List Int) (a:Nat):∀k,pwT x l a k<2^k:=by
 intro k
 induction k with
 | zero=>exact Nat.one_pos
 | succ k ih=>
  rw [pwT,Nat.pow_succ]
  split<;>omega
theorem pwT_bit (x:TourV) (l:List Int) (a:Nat):∀k,k≤8→∀i,(pwT x l a k).testBit i=(decide (i<k) && bt x.wins a (l.getD i 0).toNat):=by
 intro k
 induction k with
 | zero=>intro _ i;simp [pwT]
 | succ k ih=>
  intro hk i
  have h2:=pwT_lt x l a k
  have h256:(2:Nat)^k≤256:=Nat.pow_le_pow_right (by omega) (show k≤8 by omega)
  rw [pwT]
  split
  ·next h=>
   have e:=add_or ⟨k,by omega⟩ ⟨pwT x l a k,by omega⟩ h2
   simp only at e
   rw [e,Nat.testBit_or,ih (by omega),Nat.testBit_two_pow]
   rcases Nat.lt_trichotomy i k with h1|h1|h1
   ·have hne:¬k=i:=by omega
    simp [h1,hne,Nat.lt_succ_of_lt h1]
   ·subst h1
    simp only [Nat.lt_irrefl,decide_false,Bool.false_and,decide_true,Bool.or_true,Nat.lt_succ_self,Bool.true_and,h]
   ·have a1:¬i<k:=by omega
    have a2:¬k=i:=by omega
    have a3:¬i<k+1:=by omega
    simp [a1,a2,a3]
  ·next h=>
   rw [ih (by omega)]
   rcases Nat.lt_trichotomy i k with h1|h1|h1
   ·simp [h1,Nat.lt_succ_of_lt h1]
   ·subst h1
    have h':bt x.wins a (l.getD i 0).toNat=false:=by
     cases h3:bt x.wins a (l.getD i 0).toNat
     ·rfl
     ·exact absurd h3 h
    simp only [Nat.lt_irrefl,decide_false,h',Bool.and_false]
   ·have a1:¬i<k:=by omega
    have a3:¬i<k+1:=by omega
    simp [a1,a3]
theorem bits_zero:∀s:Fin 256,(∀a:Fin 8,s.val.testBit a.val=false)→s.val=0:=by decide +kernel
def pwL (x:TourV) (l:List Int):List Int:=l.map (fun a=>((pwT x l a.toNat l.length:Nat):Int))
def partV (x:TourV) (s:Nat):TourV:=⟨((memL s).length:Int),pwL x (memL s)⟩
theorem pwL_len (x:TourV) (l:List Int):(pwL x l).length=l.length:=by simp [pwL]
theorem pwL_at {x:TourV}{l:List Int}{i:Nat}{a:Int} (h:l[i]? = some a):(pwL x l)[i]? = some ((pwT x l a.toNat l.length:Nat):Int):=by simp [pwL,h]
theorem memT_lt {s:Nat}:∀(k i j:Nat) (a b:Int),i<j→(memT s k)[i]? = some a→(memT s k)[j]? = some b→a<b:=by
 intro k
 induction k with
 | zero=>intro i j a b _ h _;simp [memT] at h
 | succ k ih=>
  intro i j a b hij ha hb
  cases hk:s.testBit k
  ·rw [memT_out hk] at ha hb
   exact ih i j a b hij ha hb
  ·rw [memT_in hk] at ha hb
   rcases Nat.lt_or_ge j (memT s k).length with hj|hj
   ·rw [List.getElem?_append_left hj] at hb
    rw [List.getElem?_append_left (by omega)] at ha
    exact ih i j a b hij ha hb
   ·have hj2:=(List.getElem?_eq_some_iff.1 hb).1
    rw [List.length_append,List.length_singleton] at hj2
    obtain rfl:j=(memT s k).length:=by omega
    rw [List.getElem?_append_right (Nat.le_refl _),Nat.sub_self] at hb
    rw [List.getElem?_append_left hij] at ha
    obtain ⟨c,rfl,hc,_⟩:=memT_mem.1 (List.mem_of_getElem? ha)
    have:(k:Int)=b:=by simpa using hb
    omega
theorem part_bt {x:TourV}{s i j:Nat}{a b:Int} (ha:(memL s)[i]? = some a) (hb:(memL s)[j]? = some b):bt (partV x s).wins i j=bt x.wins a.toNat b.toNat:=by
 have hl:(memL s).length≤8:=by rw [memL_len];exact cntL_le _
 have hj:=(List.getElem?_eq_some_iff.1 hb).1
 show ((pwL x (memL s)).getD i 0).toNat.testBit j=_
 rw [List.getD_eq_getElem?_getD,pwL_at ha,Option.getD_some,Int.toNat_natCast,pwT_bit x (memL s) a.toNat _ hl,decide_eq_true hj,Bool.true_and,List.getD_eq_getElem?_getD,hb];rfl
theorem part_ok {x:TourV} (hok:tourB x=true) {s:Nat} (h0:s≠0) (hs:s<2^x.wins.length):tourB (partV x s)=true:=by
 obtain ⟨t1,t2,t3,_,_⟩:=tourB_t hok
 have hn8:x.wins.length≤8:=by omega
 have h256:(2:Nat)^x.wins.length≤256:=Nat.pow_le_pow_right (by omega) hn8
 have hl:(memL s).length≤8:=by rw [memL_len];exact cntL_le _
 have hpos:0<(memL s).length:=by
  rcases Nat.eq_zero_or_pos (memL s).length with h|h
  ·exfalso
   apply h0
   refine bits_zero ⟨s,by omega⟩ (fun a=>?_)
   cases hb:s.testBit a.val
   ·rfl
   ·have hm:((a.val:Nat):Int)∈memL s:=memT_mem.2 ⟨a.val,rfl,a.isLt,hb⟩
    have:=List.length_pos_of_mem hm
    omega
  ·exact h
 have hlen:(partV x s).wins.length=(memL s).length:=pwL_len _ _
 have hwb:winsB (memL s).length (pwL x (memL s))=true:=by
  unfold winsB
  rw [List.all_eq_true]
  intro y hy
  simp only [pwL,List.mem_map] at hy
  obtain ⟨a,_,rfl⟩:=hy
  have h2:=pwT_lt x (memL s) a.toNat (memL s).length
  have h3:(2:Int)^(memL s).length=((2^(memL s).length:Nat):Int):=by rw [Int.natCast_pow];rfl
  rw [inB_t,h3]
  omega
 have hsz:inB (partV x s).size 1 8=true:=inB_t.2 ⟨by show (1:Int)≤((memL s).length:Int);omega,by show ((memL s).length:Int)≤8;omega⟩
 have hle:((partV x s).wins.length:Int)=(partV x s).size:=by rw [hlen];rfl
 rw [tourB_go hsz hle (by rw [hlen];exact hwb)]
 refine rows_all (fun i hi=>?_)
 rw [hlen] at hi
 obtain ⟨a,ha⟩:∃a,(memL s)[i]? = some a:=⟨_,List.getElem?_eq_getElem hi⟩
 obtain ⟨a,rfl,ha8,hab⟩:=memT_mem.1 (List.mem_of_getElem? ha)
 have han:=bit_in hs hab
 refine rowB_all (fun j hj=>?_) ?_
 ·obtain ⟨b,hb⟩:∃b,(memL s)[j]? = some b:=⟨_,List.getElem?_eq_getElem (show j<(memL s).length by omega)⟩
  have hlt:=memT_lt 8 j i b (a:Int) hj hb ha
  obtain ⟨b,rfl,hb8,hbb⟩:=memT_mem.1 (List.mem_of_getElem? hb)
  rw [part_bt ha hb,part_bt hb ha,Int.toNat_natCast,Int.toNat_natCast]
  exact tourB_anti hok han (bit_in hs hbb) (by omega)
 ·rw [part_bt ha ha,Int.toNat_natCast]
  exact tourB_irr hok han
def transN (x:TourV) (s:Nat):Bool:=decide (partN (partV x s)=(memL s).length)
def outN (x:TourV) (s a:Nat):Nat:=s &&& (255 ^^^ winN x a)
def covT (x:TourV) (s:Nat):Nat→Bool
 | 0=>false
 | k+1=>covT x s k || decide (outN x s k=0)
def topT (x:TourV) (s:Nat):Nat→Nat
 | 0=>0
 | k+1=>if s.testBit k && decide (outN x s k=2^k) then 2^k else topT x s k
theorem out_bit {x:TourV}{s a i:Nat} (hi:i<8):(outN x s a).testBit i=(s.testBit i && !(winN x a).testBit i):=by
 have h255:∀i:Fin 8,(255:Nat).testBit i.val=true:=by decide
 rw [outN,Nat.testBit_and,Nat.testBit_xor,h255 ⟨i,hi⟩];simp
theorem out_zero {x:TourV}{s a:Nat} (hs:s<256) (_hw:winN x a<256):decide (winN x a &&& s=s)=decide (outN x s a=0):=by
 apply decide_eq_decide.2
 constructor
 ·intro h
  apply Nat.eq_of_testBit_eq
  intro i
  rw [Nat.zero_testBit]
  rcases Nat.lt_or_ge i 8 with hi|hi
  ·rw [out_bit hi]
   have h1:=congrArg (fun n=>n.testBit i) h
   simp only [Nat.testBit_and] at h1
   cases h2:s.testBit i
   ·rfl
   ·rw [h2] at h1
    simp at h1
    simp [h1]
  ·rw [outN,Nat.testBit_and,bit_hi hs hi];rfl
 ·intro h
  apply Nat.eq_of_testBit_eq
  intro i
  rw [Nat.testBit_and]
  rcases Nat.lt_or_ge i 8 with hi|hi
  ·have h1:=congrArg (fun n=>n.testBit i) h
   simp only [out_bit hi,Nat.zero_testBit] at h1
   cases h2:s.testBit i
   ·simp
   ·rw [h2] at h1
    simp at h1
    simp [h1]
  ·rw [bit_hi hs hi];simp
theorem topT_or (x:TourV) (s:Nat):∀k,topT x s k=0∨∃a,a<k∧s.testBit a=true∧outN x s a=2^a∧topT x s k=2^a:=by
 intro k
 induction k with
 | zero=>exact .inl rfl
 | succ k ih=>
  rw [topT]
  split
  ·next h=>
   rw [Bool.and_eq_true,decide_eq_true_eq] at h
   exact .inr ⟨k,Nat.lt_succ_self _,h.1,h.2,rfl⟩
  ·rcases ih with h|⟨a,h1,h2⟩
   ·exact .inl h
   ·exact .inr ⟨a,by omega,h2⟩
theorem topT_lt {x:TourV}{s n:Nat} (hs:s<2^n) (_hn:n≤8) (k:Nat):topT x s k<2^n:=by
 rcases topT_or x s k with h|⟨a,_,h2,_,h4⟩
 ·rw [h];exact Nat.pow_pos (by omega)
 ·rw [h4]
  refine Nat.pow_lt_pow_right (by omega) ?_
  rcases Nat.lt_or_ge a n with h|h
  ·exact h
  ·rw [Nat.testBit_lt_two_pow (Nat.lt_of_lt_of_le hs (Nat.pow_le_pow_right (by omega) h))] at h2;cases h2
theorem top_one {x:TourV} (hok:tourB x=true) {s a k:Nat} (hs:s<2^x.wins.length) (ha:s.testBit a=true) (hk:s.testBit k=true) (h1:outN x s a=2^a) (h2:outN x s k=2^k):a=k:=by
 refine Classical.byContradiction fun hne=>?_
 obtain ⟨t1,t2,t3,_,_⟩:=tourB_t hok
 have hal:=bit_in hs ha
 have hkl:=bit_in hs hk
 have e1:=congrArg (fun n=>n.testBit k) h1
 have e2:=congrArg (fun n=>n.testBit a) h2
 simp only [out_bit (show k<8 by omega),out_bit (show a<8 by omega),Nat.testBit_two_pow,ha,hk,Bool.true_and] at e1 e2
 have hne2:¬k=a:=fun e=>hne e.symm
 rw [decide_eq_false hne] at e1
 rw [decide_eq_false hne2] at e2
 have b1:bt x.wins a k=true:=by
  show (winN x a).testBit k=true
  cases h:(winN x a).testBit k
  ·rw [h] at e1;cases e1
  ·rfl
 have b2:bt x.wins k a=true:=by
  show (winN x k).testBit a=true
  cases h:(winN x k).testBit a
  ·rw [h] at e2;cases e2
  ·rfl
 exact tourB_anti hok hal hkl hne (b1.trans b2.symm)
def tpM (x:TourV) (s:Nat) (l:List Int) (o:Nat):Nat:=l.foldl (fun (o:Nat) (a:Int)=>if outN x s a.toNat=2^a.toNat then o ||| 2^a.toNat else o) o
theorem tpM_snoc {x:TourV}{s j o:Nat}{l:List Int}{y:Int} (h:l[j]? = some y):tpM x s (l.take (j+1)) o=if outN x s y.toNat=2^y.toNat then tpM x s (l.take j) o ||| 2^y.toNat else tpM x s (l.take j) o:=by
 rw [take_snoc h,tpM,List.foldl_append];rfl
theorem tpM_top {x:TourV} (hok:tourB x=true) {s:Nat} (hs:s<2^x.wins.length) (o:Nat):∀k,tpM x s (memT s k) o=o ||| topT x s k:=by
 intro k
 induction k with
 | zero=>simp [memT_zero,tpM,topT]
 | succ k ih=>
  cases hk:s.testBit k
  ·rw [memT_out hk,ih,topT,hk];rfl
  ·rw [memT_in hk,tpM,List.foldl_append]
   show (if outN x s (k:Int).toNat=2^(k:Int).toNat then tpM x s (memT s k) o ||| 2^(k:Int).toNat else tpM x s (memT s k) o)=_
   rw [Int.toNat_natCast,ih,topT,hk]
   by_cases hc:outN x s k=2^k
   ·rw [if_pos hc,decide_eq_true hc]
    rcases topT_or x s k with h|⟨a,h1,h2,h3,h4⟩
    ·rw [h];simp
    ·have:=top_one hok hs h2 hk h3 hc
     omega
   ·rw [if_neg hc,decide_eq_false hc];rfl
theorem tpM_lt {x:TourV}{s n:Nat}{l:List Int} (hl:∀y∈l,y.toNat<n):∀o,o<2^n→tpM x s l o<2^n:=by
 induction l with
 | nil=>intro o h;exact h
 | cons y l ih=>
  intro o h
  have h2:2^y.toNat<2^n:=Nat.pow_lt_pow_right (by omega) (hl y (by simp))
  refine ih (fun z hz=>hl z (by simp [hz])) _ ?_
  show (if outN x s y.toNat=2^y.toNat then o ||| 2^y.toNat else o)<2^n
  split
  ·exact Nat.or_lt_two_pow h h2
  ·exact h
def bkT (x:TourV):Nat→Nat
 | 0=>0
 | s+1=>if s≠0∧transN x s=true∧covT x s x.wins.length=false then bkT x s ||| topT x s x.wins.length else bkT x s
def banksF (x:TourV):Nat:=bkT x (2^x.wins.length)
theorem bkT_lt {x:TourV} (hn:x.wins.length≤8):∀s,s≤2^x.wins.length→bkT x s<2^x.wins.length:=by
 intro s
 induction s with
 | zero=>intro _;exact Nat.pow_pos (by omega)
 | succ s ih=>
  intro hs
  rw [bkT]
  split
  ·exact Nat.or_lt_two_pow (ih (by omega)) (topT_lt (by omega) hn _)
  ·exact ih (by omega)
theorem any_cov {x:TourV}{s:Nat} (hs:s<256) (hw:∀a,winN x a<256) (p:Int→Bool) (hp:∀a,a<x.wins.length→p (winN x a:Nat)=decide (winN x a &&& s=s)) (h0:∀a,a<x.wins.length→x.wins[a]? = some ((winN x a:Nat):Int)):
  ∀k,k≤x.wins.length→(x.wins.take k).any p=covT x s k:=by
 intro k
 induction k with
 | zero=>intro _;simp [covT]
 | succ k ih=>
  intro hk
  rw [take_snoc (h0 k (by omega)),List.any_append,ih (by omega),covT,←out_zero hs (hw k)]
  simp [hp k (by omega)]
theorem win_get {x:TourV} (hok:tourB x=true) {a:Nat} (ha:a<x.wins.length):x.wins[a]? = some ((winN x a:Nat):Int):=by
 obtain ⟨h1,h2,h3,h4,h5⟩:=tourB_t hok
 have hy:x.wins[a]? = some x.wins[a]:=List.getElem?_eq_getElem ha
 have hin:=inB_t.1 (List.all_eq_true.1 h4 _ (List.mem_of_getElem? hy))
 rw [hy,winN,List.getD_eq_getElem?_getD,hy,Option.getD_some,Int.toNat_of_nonneg hin.1]
def stepC (p:Int × Int) (cost ways:Int):Int × Int:=if p.1<0∨cost<p.1 then (cost,ways) else if cost=p.1 then (p.1,p.2+ways) else p
def entT (x:TourV) (l:List (Int × Int)) (s k:Nat):Int × Int:=((List.range k).filter (fun a=>s.testBit a)).foldl (fun p a=>stepC p ((costN x a s:Int)+(l.getD (s-2^a) (0,0)).1) (l.getD (s-2^a) (0,0)).2) (-1,0)
def entF (x:TourV) (l:List (Int × Int)) (s:Nat):Int × Int:=if s=0 then (0,1) else entT x l s 8
def tabF (x:TourV):Nat→List (Int × Int)
 | 0=>[]
 | s+1=>tabF x s++[entF x (tabF x s) s]
theorem tabF_len (x:TourV):∀s,(tabF x s).length=s:=by
 intro s
 induction s with
 | zero=>rfl
 | succ s ih=>rw [tabF,List.length_append,ih];rfl
theorem tabF_at (x:TourV) {s m:Nat} (h:s<m):(tabF x m)[s]? = some (entF x (tabF x s) s):=by
 induction m with
 | zero=>omega
 | succ m ih=>
  rw [tabF]
  rcases Nat.eq_or_lt_of_le (Nat.le_of_lt_succ h) with rfl|h
  ·rw [List.getElem?_append_right (by rw [tabF_len];exact Nat.le_refl _),tabF_len,Nat.sub_self];rfl
  ·rw [List.getElem?_append_left (by rw [tabF_len];exact h)];exact ih h
theorem entT_in {x:TourV}{l:List (Int × Int)}{s k:Nat} (h:s.testBit k=true):entT x l s (k+1)=stepC (entT x l s k) ((costN x k s:Int)+(l.getD (s-2^k) (0,0)).1) (l.getD (s-2^k) (0,0)).2:=by
 simp [entT,List.range_succ,h]
theorem entT_out {x:TourV}{l:List (Int × Int)}{s k:Nat} (h:s.testBit k=false):entT x l s (k+1)=entT x l s k:=by
 simp [entT,List.range_succ,h]
theorem costN_le (x:TourV) (a s:Nat):costN x a s≤8:=cntL_le _
theorem sub_all:∀s:Fin 256,∀a:Fin 8,s.val.testBit a.val=true→2^a.val≤s.val∧∀b:Fin 8,(s.val-2^a.val).testBit b.val=(s.val.testBit b.val && b.val != a.val):=by decide +kernel
theorem sub_bit {s a b:Nat} (hs:s<2^8) (hin:s.testBit a=true) (hb:b<8):(s-2^a).testBit b=(s.testBit b && b != a):=by
 have ha:a<8:=by
  rcases Nat.lt_or_ge a 8 with h|h
  ·exact h
  ·rw [bit_hi hs h] at hin;cases hin
 exact (sub_all ⟨s,hs⟩ ⟨a,ha⟩ hin).2 ⟨b,hb⟩
theorem cost_eq {x:TourV}{a s:Nat} (hok:tourB x=true) (ha:a<x.wins.length) (hs:s<2^x.wins.length) (hin:s.testBit a=true) (hw:winN x a<2^x.wins.length) (hwb:(winN x a).testBit a=false):
  cntL ((s-2^a) &&& (255 ^^^ winN x a))=costN x a s:=by
 obtain ⟨t1,t2,t3,_,_⟩:=tourB_t hok
 have hn8:x.wins.length≤8:=by omega
 obtain ⟨_,hl⟩:=loss_ok hn8 ha hw hwb
 unfold costN cntL cntT
 congr 1
 apply List.filter_congr
 intro b hb
 have hb8:b<8:=List.mem_range.1 hb
 rw [Nat.testBit_and,Nat.testBit_and,Nat.testBit_xor,hl b hb8]
 have h255:∀i:Fin 8,(255:Nat).testBit i.val=true:=by decide
 rw [h255 ⟨b,hb8⟩]
 have hsub:(s-2^a).testBit b=(s.testBit b && b != a):=sub_bit (Nat.lt_of_lt_of_le hs (Nat.pow_le_pow_right (by omega) hn8)) hin hb8
 rw [hsub]
 cases hsb:s.testBit b
 ·simp
 ·have hbn:b<x.wins.length:=by
   rcases Nat.lt_or_ge b x.wins.length with h|h
   ·exact h
   ·rw [Nat.testBit_lt_two_pow (Nat.lt_of_lt_of_le hs (Nat.pow_le_pow_right (by omega) h))] at hsb;cases hsb
  simp [hbn,Bool.and_comm]
theorem stepC_bd {p:Int × Int}{cost ways B W:Int}{k:Nat} (h0:0≤cost) (h1:cost≤B) (h2:0≤ways) (h3:ways≤W)
  (hp:p=(-1,0)∨(0≤p.1∧p.1≤B∧0≤p.2∧p.2≤k*W)):0≤(stepC p cost ways).1∧(stepC p cost ways).1≤B∧0≤(stepC p cost ways).2∧(stepC p cost ways).2≤((k:Int)+1)*W:=by
 have e:((k:Int)+1)*W=k*W+W:=by rw [Int.add_mul,Int.one_mul]
 have hk:0≤(k:Int)*W:=Int.mul_nonneg (by omega) (by omega)
 rw [e]
 unfold stepC
 rcases hp with rfl|⟨p1,p2,p3,p4⟩
 ·rw [if_pos (Or.inl (by decide))];dsimp only;omega
 ·split
  ·dsimp only;omega
  ·split
   ·dsimp only;omega
   ·omega
theorem entT_bd {x:TourV}{l:List (Int × Int)}{s:Nat}{B W:Int} (hW:0≤W) (hl:∀a,a<8→s.testBit a=true→0≤(l.getD (s-2^a) (0,0)).1∧(l.getD (s-2^a) (0,0)).1≤B∧0≤(l.getD (s-2^a) (0,0)).2∧(l.getD (s-2^a) (0,0)).2≤W):
  ∀k,k≤8→(entT x l s k=(-1,0)∧∀a,a<k→s.testBit a=false)∨(0≤(entT x l s k).1∧(entT x l s k).1≤8+B∧0≤(entT x l s k).2∧(entT x l s k).2≤k*W):=by
 intro k
 induction k with
 | zero=>intro _;exact .inl ⟨rfl,fun a h=>absurd h (Nat.not_lt_zero _)⟩
 | succ k ih=>
  intro hk
  have ih:=ih (by omega)
  cases hb:s.testBit k
  ·rw [entT_out hb]
   rcases ih with ⟨h1,h2⟩|⟨h1,h2,h3,h4⟩
   ·refine .inl ⟨h1,fun a ha=>?_⟩
    rcases Nat.eq_or_lt_of_le (Nat.le_of_lt_succ ha) with rfl|ha
    ·exact hb
    ·exact h2 a ha
   ·refine .inr ⟨h1,h2,h3,?_⟩
    rw [Int.natCast_add,Int.natCast_one,Int.add_mul,Int.one_mul];omega
  ·rw [entT_in hb]
   obtain ⟨q1,q2,q3,q4⟩:=hl k (by omega) hb
   have hc:=costN_le x k s
   refine .inr ?_
   rw [Int.natCast_add,Int.natCast_one]
   refine stepC_bd (by omega) (by omega) q3 q4 ?_
   rcases ih with ⟨h1,_⟩|h
   ·exact .inl h1
   ·exact .inr h
theorem sub_cnt_all:∀s:Fin 256,∀a:Fin 8,s.val.testBit a.val=true→cntL (s.val-2^a.val)+1=cntL s.val:=by decide +kernel
theorem cnt_zero_all:∀s:Fin 256,(∀a:Fin 8,s.val.testBit a.val=false)→s.val=0:=by decide +kernel
structure EntOk (s:Nat) (p:Int × Int):Prop where
 lo:0≤p.1
 hi:p.1≤8*(cntL s:Int)
 w0:0≤p.2
 w1:p.2≤8^cntL s
theorem entF_ok (x:TourV):∀s,s<256→EntOk s (entF x (tabF x s) s):=by
 intro s
 induction s using Nat.strongRecOn with
 | ind s ih=>
  intro hs
  by_cases h0:s=0
  ·subst h0
   refine ⟨by simp [entF],by simp only [entF,if_true];omega,by simp [entF],by simp only [entF,if_true];decide⟩
  ·have hl:∀a,a<8→s.testBit a=true→0≤((tabF x s).getD (s-2^a) (0,0)).1∧((tabF x s).getD (s-2^a) (0,0)).1≤8*((cntL s:Int)-1)∧0≤((tabF x s).getD (s-2^a) (0,0)).2∧((tabF x s).getD (s-2^a) (0,0)).2≤8^(cntL s-1):=by
    intro a ha hb
    have hle:=(sub_all ⟨s,hs⟩ ⟨a,ha⟩ hb).1
    have hp:0<2^a:=Nat.pow_pos (by omega)
    have hlt:s-2^a<s:=by simp only at hle;omega
    have hk:=ih (s-2^a) hlt (by omega)
    have hc:=sub_cnt_all ⟨s,hs⟩ ⟨a,ha⟩ hb
    simp only at hc
    have hat:=tabF_at x hlt
    rw [List.getD_eq_getElem?_getD,hat,Option.getD_some]
    refine ⟨hk.lo,?_,hk.w0,?_⟩
    ·have:=hk.hi;omega
    ·have:=hk.w1
     rwa [show cntL (s-2^a)=cntL s-1 by omega] at this
   have hW:(0:Int)≤8^(cntL s-1):=Int.pow_nonneg (by omega)
   have h:=entT_bd (x:=x) hW hl 8 (Nat.le_refl _)
   rw [entF,if_neg h0]
   rcases h with ⟨_,h⟩|⟨h1,h2,h3,h4⟩
   ·exact absurd (cnt_zero_all ⟨s,hs⟩ (fun a=>h a.val a.isLt)) h0
   ·have hc1:1≤cntL s:=by
     rcases Nat.eq_zero_or_pos (cntL s) with hz|hz
     ·exfalso
      apply h0
      refine cnt_zero_all ⟨s,hs⟩ (fun a=>?_)
      cases hb:s.testBit a.val
      ·rfl
      ·have hc:=sub_cnt_all ⟨s,hs⟩ a hb
       simp only at hc;omega
     ·exact hz
    refine ⟨h1,by omega,h3,?_⟩
    have e:(8:Int)^cntL s=8*8^(cntL s-1):=by
     rw [show cntL s=(cntL s-1)+1 by omega,Int.pow_succ,Nat.add_sub_cancel,Int.mul_comm]
    rw [e];exact h4
def stepM (x:TourV) (l:List (Int × Int)) (s:Nat) (p:Int × Int) (a:Int):Int × Int:=stepC p ((costN x a.toNat s:Int)+(l.getD (s-2^a.toNat) (0,0)).1) (l.getD (s-2^a.toNat) (0,0)).2
theorem entT_mem (x:TourV) (l:List (Int × Int)) (s:Nat):∀k,(memT s k).foldl (stepM x l s) (-1,0)=entT x l s k:=by
 intro k
 induction k with
 | zero=>rfl
 | succ k ih=>
  cases h:s.testBit k
  ·rw [memT_out h,ih,entT_out h]
  ·rw [memT_in h,List.foldl_append,ih,entT_in h];simp [stepM]
theorem entF_mem {x:TourV}{l:List (Int × Int)}{s:Nat} (h:s≠0):(memL s).foldl (stepM x l s) (-1,0)=entF x l s:=by rw [memL,entT_mem,entF,if_neg h]
theorem fold_snoc {x:TourV}{l:List (Int × Int)}{s j:Nat}{L:List Int}{a:Int} (h:L[j]? = some a):(L.take (j+1)).foldl (stepM x l s) (-1,0)=stepM x l s ((L.take j).foldl (stepM x l s) (-1,0)) a:=by
 rw [take_snoc h,List.foldl_append];rfl
theorem fold_bd {x:TourV}{s:Nat} (hs:s<256):∀j,j≤8→((memL s).take j).foldl (stepM x (tabF x s) s) (-1,0)=(-1,0) ∨
  (0≤(((memL s).take j).foldl (stepM x (tabF x s) s) (-1,0)).1∧(((memL s).take j).foldl (stepM x (tabF x s) s) (-1,0)).1≤72∧0≤(((memL s).take j).foldl (stepM x (tabF x s) s) (-1,0)).2∧(((memL s).take j).foldl (stepM x (tabF x s) s) (-1,0)).2≤(j:Int)*16777216):=by
 intro j
 induction j with
 | zero=>intro _;exact .inl (by simp)
 | succ j ih=>
  intro hj
  have ih:=ih (by omega)
  rcases Nat.lt_or_ge j (memL s).length with h|h
  ·have hg:(memL s)[j]? = some (memL s)[j]:=List.getElem?_eq_getElem h
   obtain ⟨a,e,ha,hb⟩:=memT_mem.1 (List.mem_of_getElem? hg)
   rw [fold_snoc hg,e]
   have hle:=(sub_all ⟨s,hs⟩ ⟨a,ha⟩ hb).1
   have hp:0<2^a:=Nat.pow_pos (by omega)
   have hlt:s-2^a<s:=by simp only at hle;omega
   have hk:=entF_ok x (s-2^a) (by omega)
   have hc:=cntL_le (s-2^a)
   have hw:(8:Int)^cntL (s-2^a)≤16777216:=by
    have h1:∀c:Fin 9,(8:Int)^c.val≤16777216:=by decide
    exact h1 ⟨cntL (s-2^a),Nat.lt_succ_of_le hc⟩
   have hat:=tabF_at x hlt
   have hcn:=costN_le x a s
   unfold stepM
   rw [Int.toNat_natCast,List.getD_eq_getElem?_getD,hat,Option.getD_some]
   refine .inr ?_
   rw [Int.natCast_add,Int.natCast_one]
   have h1:=hk.lo
   have h2:=hk.hi
   have h3:=hk.w1
   exact stepC_bd (by omega) (by omega) hk.w0 (by omega) ih
  ·rw [List.take_of_length_le (by omega),←List.take_of_length_le (l:=memL s) (i:=j) h]
   rcases ih with h1|⟨h1,h2,h3,h4⟩
   ·exact .inl h1
   ·refine .inr ⟨h1,h2,h3,?_⟩
    rw [Int.natCast_add,Int.natCast_one,Int.add_mul,Int.one_mul];omega
end Go.Proofs.YtkapoldjcpfdgaaGreatDoor
