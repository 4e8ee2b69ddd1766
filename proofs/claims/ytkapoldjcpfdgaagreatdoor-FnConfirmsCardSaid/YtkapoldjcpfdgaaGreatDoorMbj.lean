/- Ways and cycles through all players: the program's (printed by print/ccw.py). -/
import Derived.Test.YtkapoldjcpfdgaaGreatDoorMax
set_option maxHeartbeats 4000000
set_option maxRecDepth 100000
namespace Go.Proofs.YtkapoldjcpfdgaaGreatDoor
open Go.ChangeShapes Go.WideShapes Go.ChangeAt Go.RowKit
def partF (x:TourV) (s:Int):Option TourV:=if tourB x && inB s 1 ((2^x.wins.length-1:Nat):Int) then some ⟨((memL s.toNat).length:Int),pwL x (memL s.toNat)⟩ else none
theorem partF_no {x:TourV}{s:Int} (h:tourB x=false∨inB s 1 ((2^x.wins.length-1:Nat):Int)=false):partF x s=none:=by
 unfold partF
 rw [if_neg]
 rcases h with h|h<;>simp [h]
theorem partF_yes {x:TourV}{s:Nat} (h1:tourB x=true) (h2:inB (s:Int) 1 ((2^x.wins.length-1:Nat):Int)=true):partF x (s:Int)=some ⟨((memL s).length:Int),pwL x (memL s)⟩:=by
 unfold partF
 rw [if_pos (by simp [h1,h2]),Int.toNat_natCast]
theorem implPart_any (v:Value) (x:TourV) (s:Int) (w:World) (hs:InT w v x):
  Calls Tryz.prog 70 #[v,.int .i64 s] w fun e w'=>TR w e w' (partF x s):=by
 cases h1:tourB x
 case false=>
  have HIT:=Lib.hid hs
  obtain ⟨u,rfl,B,d,rfl,hd,hm,hts⟩:=hs
  have H0:Hid (RzAt w ((w.alloc (.cells #[.int .i64 x.size,.slice B x.wins.length d] 27)).alloc (.cells #[.int .i64 0,.slice none 0 0] 27)) (.int .i64 x.size) (.slice B x.wins.length d)):=rzStart
  have HTO:Hid (∀W,Below w.heap.size w W→Calls Tryz.prog 148 #[.agg #[.int .i64 x.size,.slice B x.wins.length d]] W fun e w'=>e=.returned (.bool (tourB x))∧Below W.heap.size W w'):=fun W hW=>implTourOk_any _ x W (HIT.out.below hW)
  clear hts
  have HN:=Lib.hid (partF_no (s:=s) (.inl h1))
  rw [h1] at HTO
  clear h1
  go_enter Tryz.func70,Tryz.ntmps70
  go_wp2_with fail
  refine (HTO.out _ H0.out.be).mono ?_
  rintro e w1 ⟨rfl,hb1⟩
  have H1:=Lib.hid (H0.out.below hb1)
  clear hb1
  obtain ⟨q0,q1,z0,z1,f0,f1,q2,z2,-⟩:=id H1.out
  go_wp2
  refine bodyPost_ret (v:=.tuple #[.agg #[.int .i64 0,.slice none 0 0],.bool false]) (by simp [results,Tryz.results70,go_sem,z0,z1]) rfl ?_
  rw [HN.out]
  exact ⟨H1.out.zero,rfl⟩
 cases h2:inB s 1 ((2^x.wins.length-1:Nat):Int)
 case true=>
  obtain ⟨s1,s2⟩:=inB_t.1 h2
  obtain ⟨k,rfl⟩:=Int.eq_ofNat_of_zero_le (show 0≤s by omega)
  have HY:=Lib.hid (partF_yes h1 h2)
  have hp:1≤(2:Nat)^x.wins.length:=Nat.one_le_two_pow
  refine (implPartTour_any v x k w hs h1 (by omega) (by omega)).mono ?_
  rintro e w' ⟨v',rfl,hf,hb⟩
  rw [HY.out]
  exact ⟨hb,_,rfl,v',rfl,hf⟩
 have HIT:=Lib.hid hs
 obtain ⟨u,rfl,B,d,rfl,hd,hm,hts⟩:=hs
 have H0:Hid (RzAt w ((w.alloc (.cells #[.int .i64 x.size,.slice B x.wins.length d] 27)).alloc (.cells #[.int .i64 0,.slice none 0 0] 27)) (.int .i64 x.size) (.slice B x.wins.length d)):=rzStart
 have HTO:Hid (∀W,Below w.heap.size w W→Calls Tryz.prog 148 #[.agg #[.int .i64 x.size,.slice B x.wins.length d]] W fun e w'=>e=.returned (.bool (tourB x))∧Below W.heap.size W w'):=fun W hW=>implTourOk_any _ x W (HIT.out.below hW)
 clear hts
 have HN:=Lib.hid (partF_no (s:=s) (.inr h2))
 obtain ⟨t1,t2,t3,_⟩:=tourB_t h1
 have hn8:x.wins.length≤8:=by omega
 have h256:(2:Nat)^x.wins.length≤256:=Nat.pow_le_pow_right (by omega) hn8
 have hpos:1≤(2:Nat)^x.wins.length:=Nat.one_le_two_pow
 have hT2:(2:Int)^x.wins.length=((2^x.wins.length:Nat):Int):=by rw [Int.natCast_pow];rfl
 rw [h1] at HTO
 rw [←t3] at HTO H0 ⊢
 have HI:=Lib.hid h2
 generalize (2:Nat)^x.wins.length=T at *
 have HE:Hid (((T-1:Nat):Int)=(T:Int)-1):=by show _=_;omega
 rw [HE.out] at HI
 clear h1 h2 t1 t2 t3
 go_enter Tryz.func70,Tryz.ntmps70
 go_wp2_with fail
 refine (HTO.out _ H0.out.be).mono ?_
 rintro e w1 ⟨rfl,hb1⟩
 have H1:=Lib.hid (H0.out.below hb1)
 clear hb1
 obtain ⟨q0,q1,z0,z1,f0,f1,q2,z2,-⟩:=id H1.out
 go_wp2_with fail
 refine (within_any s 1 ((T:Int)-1) _).mono ?_
 rintro e w1' ⟨rfl,rfl⟩
 rw [HI.out]
 go_wp2
 refine bodyPost_ret (v:=.tuple #[.agg #[.int .i64 0,.slice none 0 0],.bool false]) (by simp [results,Tryz.results70,go_sem,z0,z1]) rfl ?_
 rw [HN.out]
 exact ⟨H1.out.zero,rfl⟩
def cwF (x:TourV) (g:Nat→Nat) (T:Nat):Nat→Nat→Nat→Nat
 | 0,_,_=>0
 | k+1,a,met=>if met=T-1 then g a else ((memN (winN x a &&& (255 ^^^ met))).map fun b=>cwF x g T k b (met ||| 2^b)).sum
def cwS (x:TourV) (g:Nat→Nat) (T k met:Nat) (l:List Nat):Nat:=(l.map fun b=>cwF x g T k b (met ||| 2^b)).sum
theorem cwS_snoc {x:TourV}{g:Nat→Nat}{T k met:Nat}{l:List Nat}{j:Nat} (h:j<l.length):cwS x g T k met (l.take (j+1))=cwS x g T k met (l.take j)+cwF x g T k (l.getD j 0) (met ||| 2^l.getD j 0):=by
 unfold cwS
 rw [take_snoc (List.getElem?_eq_getElem h),List.map_append,List.sum_append,List.getD_eq_getElem?_getD,List.getElem?_eq_getElem h]
 simp
theorem cwF_end {x:TourV}{g:Nat→Nat}{T k a:Nat}:cwF x g T (k+1) a (T-1)=g a:=by rw [cwF,if_pos rfl]
theorem cwF_go {x:TourV}{g:Nat→Nat}{T k a met:Nat} (h:met≠T-1):cwF x g T (k+1) a met=cwS x g T k met (memN (winN x a &&& (255 ^^^ met))):=by rw [cwF,if_neg h];rfl
theorem cwF_le {x:TourV}{g:Nat→Nat} (hg:∀a,g a≤1) {T:Nat}:∀k a met,cwF x g T k a met≤8^k
 | 0,_,_=>by simp [cwF]
 | k+1,a,met=>by
  rw [cwF]
  split
  ·exact Nat.le_trans (hg a) (Nat.one_le_pow _ _ (by omega))
  ·have h1:∀l:List Nat,(l.map fun b=>cwF x g T k b (met ||| 2^b)).sum≤l.length*8^k:=by
    intro l
    induction l with
    | nil=>simp
    | cons b l ih=>
     have:=cwF_le hg (T:=T) (x:=x) k b (met ||| 2^b)
     rw [List.map_cons,List.sum_cons,List.length_cons,Nat.add_mul];omega
   have h2:=h1 (memN (winN x a &&& (255 ^^^ met)))
   have h3:(memN (winN x a &&& (255 ^^^ met))).length≤8:=by rw [memN_len];exact cntL_le _
   have h4:=Nat.mul_le_mul h3 (Nat.le_refl (8^k))
   rw [Nat.pow_succ];omega
theorem cwS_le {x:TourV}{g:Nat→Nat} (hg:∀a,g a≤1) {T k met:Nat}:∀l:List Nat,cwS x g T k met l≤l.length*8^k
 | []=>by simp [cwS]
 | b :: l=>by
  have h1:=cwF_le hg (T:=T) (x:=x) k b (met ||| 2^b)
  have h2:=cwS_le hg (T:=T) (x:=x) (k:=k) (met:=met) l
  unfold cwS at h2 ⊢
  rw [List.map_cons,List.sum_cons,List.length_cons,Nat.add_mul];omega
theorem free_bit:∀m:Fin 256,∀b:Fin 8,(255 ^^^ m.val).testBit b.val = !m.val.testBit b.val:=by decide +kernel
theorem cnt_or:∀m:Fin 256,∀b:Fin 8,m.val.testBit b.val=false→cntL (m.val ||| 2^b.val)=cntL m.val+1:=by decide +kernel
theorem memN_mem {s a:Nat}:a∈memN s↔a<8∧s.testBit a=true:=by unfold memN;rw [List.mem_filter,List.mem_range]
theorem free_mem {W m b:Nat} (hm:m<256) (h:b∈memN (W &&& (255 ^^^ m))):W.testBit b=true∧m.testBit b=false:=by
 obtain ⟨h1,h2⟩:=memN_mem.1 h
 have h3:=free_bit ⟨m,hm⟩ ⟨b,h1⟩
 simp only at h3
 rw [Nat.testBit_and,h3,Bool.and_eq_true] at h2
 exact ⟨h2.1,by simpa using h2.2⟩
theorem cnt_top {n m:Nat} (hm:m<2^n) (hn:n≤8):cntL m≤n:=by
 have h:(memN m).length≤(List.range n).length:=by
  unfold memN
  have:((List.range 8).filter fun a=>m.testBit a)=(List.range n).filter fun a=>m.testBit a:=by
   obtain ⟨d,hd⟩:∃d,8=n+d:=⟨8-n,by omega⟩
   rw [hd,List.range_add,List.filter_append]
   have:((List.map (fun x=>n+x) (List.range d)).filter fun a=>m.testBit a) = []:=by
    rw [List.filter_eq_nil_iff]
    intro a ha
    obtain ⟨e,_,rfl⟩:=List.mem_map.1 ha
    rw [Nat.testBit_lt_two_pow (Nat.lt_of_lt_of_le hm (Nat.pow_le_pow_right (by omega) (by omega)))];simp
   rw [this,List.append_nil]
  rw [this]
  exact List.length_filter_le _ _
 rw [List.length_range] at h
 exact h
theorem pow8_le {k:Nat} (h:k≤9):8^k≤134217728:=Nat.le_trans (Nat.pow_le_pow_right (by omega) h) (by decide)
theorem countWays_any (x:TourV) (hok:tourB x=true):∀k,k≤9→∀(a met:Nat) (v:Value) (w:World),InT w v x→a<x.wins.length→met<2^x.wins.length→x.wins.length+1≤k+cntL met →
  Calls Tryz.prog 177 #[v,.int .i64 (a:Int),.int .i64 (met:Int)] w fun e w'=>e=.returned (.int .i64 (cwF x (fun _=>1) (2^x.wins.length) k a met:Nat))∧Below w.heap.size w w':=by
 obtain ⟨t1,t2,t3,_,_⟩:=tourB_t hok
 have hn8:x.wins.length≤8:=by omega
 have h256:(2:Nat)^x.wins.length≤256:=Nat.pow_le_pow_right (by omega) hn8
 have hpos:1≤(2:Nat)^x.wins.length:=Nat.one_le_two_pow
 have hT2:(2:Int)^x.wins.length=((2^x.wins.length:Nat):Int):=by rw [Int.natCast_pow];rfl
 have hG:∀a:Nat,((fun _=>1):Nat→Nat) a≤1:=fun a=>Nat.le_refl _
 intro k
 induction k with
 | zero=>
  intro _ a met v w _ _ hmt hc
  exfalso
  have:=cnt_top hmt hn8
  omega
 | succ k ih=>
  intro hk9 a met v w hs ha hmt hcn
  have hIH:=ih (by omega)
  have HIH:=Lib.hid hIH
  have HIT:=Lib.hid hs
  obtain ⟨u,rfl,A,c,rfl,hc,hm,hsl⟩:=hs
  obtain ⟨bk,off,rfl,hlt,hcell⟩:=win_cells hok hsl
  have qa:=hcell a ha
  have HW:Hid (∀b,winN x b<256):=fun b=>Nat.lt_of_lt_of_le (win_all hok b) h256
  have HWT:Hid (∀b,winN x b<2^x.wins.length):=fun b=>win_all hok b
  have hm256:met<256:=by omega
  have hand:=andNot_small (HW.out a) hm256
  have HGO:Hid (met≠2^x.wins.length-1→cwF x (fun _=>1) (2^x.wins.length) (k+1) a met=cwS x (fun _=>1) (2^x.wins.length) k met (memN (winN x a &&& (255 ^^^ met)))):=cwF_go
  have HMEM:Hid (∀b∈memN (winN x a &&& (255 ^^^ met)),b<x.wins.length∧cntL (met ||| 2^b)=cntL met+1∧met ||| 2^b<2^x.wins.length):=fun b hb=>by
   obtain ⟨h1,h2⟩:=free_mem hm256 hb
   have hb8:=(memN_mem.1 hb).1
   have hbn:b<x.wins.length:=by
    rcases Nat.lt_or_ge b x.wins.length with h|h
    ·exact h
    ·rw [Nat.testBit_lt_two_pow (Nat.lt_of_lt_of_le (HWT.out a) (Nat.pow_le_pow_right (by omega) h))] at h1;cases h1
   exact ⟨hbn,cnt_or ⟨met,hm256⟩ ⟨b,hb8⟩ h2,Nat.or_lt_two_pow hmt (Nat.pow_lt_pow_right (by omega) hbn)⟩
  have HSL8:Hid (∀j,cwS x (fun _=>1) (2^x.wins.length) k met ((memN (winN x a &&& (255 ^^^ met))).take j)≤8*134217728):=fun j=>by
   have h1:=cwS_le (x:=x) (g:=(fun _=>1)) (fun a=>hG a) (T:=2^x.wins.length) (k:=k) (met:=met) ((memN (winN x a &&& (255 ^^^ met))).take j)
   have h2:((memN (winN x a &&& (255 ^^^ met))).take j).length≤8:=by
    rw [List.length_take,memN_len]
    have:=cntL_le (winN x a &&& (255 ^^^ met));omega
   exact Nat.le_trans h1 (Nat.mul_le_mul h2 (pow8_le (by omega)))
  have HFL:Hid (∀b m,cwF x (fun _=>1) (2^x.wins.length) k b m≤134217728):=fun b m=>Nat.le_trans (cwF_le (x:=x) (g:=(fun _=>1)) (fun a=>hG a) k b m) (pow8_le (by omega))
  have HSN:Hid (∀j,j<(memN (winN x a &&& (255 ^^^ met))).length→cwS x (fun _=>1) (2^x.wins.length) k met ((memN (winN x a &&& (255 ^^^ met))).take (j+1))=cwS x (fun _=>1) (2^x.wins.length) k met ((memN (winN x a &&& (255 ^^^ met))).take j)+cwF x (fun _=>1) (2^x.wins.length) k ((memN (winN x a &&& (255 ^^^ met))).getD j 0) (met ||| 2^(memN (winN x a &&& (255 ^^^ met))).getD j 0)):=fun j hj=>cwS_snoc hj
  have HSZ:Hid (x.size=(x.wins.length:Int)):=t3.symm
  have hS256:winN x a &&& (255 ^^^ met)<256:=Nat.lt_of_le_of_lt Nat.and_le_left (HW.out a)
  have HMB:=Lib.hid (fun V=>membersOf_any (winN x a &&& (255 ^^^ met)) V hS256)
  rw [memN_nI] at HMB
  obtain ⟨L,HL⟩:∃L,Hid ((memN (winN x a &&& (255 ^^^ met))).length=L):=⟨_,rfl⟩
  rw [HL.out] at HSN
  have hL8:L≤8:=by rw [←HL.out,memN_len];exact cntL_le _
  generalize memN (winN x a &&& (255 ^^^ met))=l at *
  generalize winN x a &&& (255 ^^^ met)=S at *
  have HEN:Hid (cwF x (fun _=>1) (2^x.wins.length) (k+1) a (2^x.wins.length-1)=(fun _=>1) a):=cwF_end
  generalize (2:Nat)^x.wins.length=T at *
  have HET:Hid ((2:Int)^x.wins.length=(T:Int)∧wrap64 (T:Int)=T∧wrap64 ((T:Int)-1)=T-1):=⟨hT2,wrapT hpos h256⟩
  have H0:Hid (Bx (w.alloc (.cells #[.int .i64 (x.wins.length:Int),.slice (some ⟨bk,off,none⟩) x.wins.length c] 27)) w.heap.size (.int .i64 (x.wins.length:Int)) (.slice (some ⟨bk,off,none⟩) x.wins.length c)∧Below w.heap.size w (w.alloc (.cells #[.int .i64 (x.wins.length:Int),.slice (some ⟨bk,off,none⟩) x.wins.length c] 27))):=⟨⟨by simp,by simp,by simp⟩,(Below.refl _ w).alloc (Nat.le_refl _) _⟩
  have hbne:¬bk=w.heap.size:=by omega
  rw [HSZ.out]
  rw [HSZ.out] at HIT
  have hai:(a:Int)<(x.wins.length:Int):=by omega
  have HAL:=Lib.hid ha
  clear hsl hcell ih hIH hT2 hG hok t1 t2 t3 ha
  by_cases hfull:met=T-1
  ·have HX:Hid (cwF x (fun _=>1) T (k+1) a met=(fun _=>1) a):=by show _=_;rw [hfull];exact HEN.out
   have hb1:((met:Int)==(T:Int)-1)=true:=by simp;omega
   clear hfull
   obtain ⟨e1,-,-⟩:=id HET.out
   go_enter Tryz.func177,Tryz.ntmps177
   go_wp2
   go_ret
   exact ⟨by rw [HX.out];rfl,H0.out.2⟩
  have HX:=Lib.hid (HGO.out hfull)
  have hb1:((met:Int)==(T:Int)-1)=false:=by simp;omega
  have HCN:=Lib.hid hcn
  clear hfull hcn
  obtain ⟨e1,-,-⟩:=id HET.out
  go_enter Tryz.func177,Tryz.ntmps177
  go_wp2_with fail
  refine (HMB.out _).mono ?_
  rintro e w3 ⟨v3,rfl,hf3,hb3⟩
  obtain ⟨A3,c3,rfl,-,-⟩:=hf3.form
  rw [nI_length,HL.out] at hf3 ⊢
  have H3:Hid (SlI w3 A3 (nI l)∧Bx w3 w.heap.size (.int .i64 (x.wins.length:Int)) (.slice (some ⟨bk,off,none⟩) x.wins.length c)∧Below w.heap.size w w3):=⟨hf3.sl,H0.out.1.below hb3,H0.out.2.trans (hb3.mono H0.out.2.size)⟩
  clear hf3 hb3 e1
  go_wp2
  go_loopw [7,25] (fun s i wr=>∃j:Nat,j≤L∧i=.int .i64 (j:Int)∧s=.int .i64 (cwS x (fun _=>1) T k met (l.take j):Nat)∧Hid (SlI wr A3 (nI l)∧Bx wr w.heap.size (.int .i64 (x.wins.length:Int)) (.slice (some ⟨bk,off,none⟩) x.wins.length c)∧Below w.heap.size w wr)) (fun _ i _=>L-(intOf i).toNat)
  case atStart=>exact ⟨0,Nat.zero_le _,rfl,rfl,H3.out⟩
  case round=>
   obtain ⟨j,hj,rfl,rfl,HR⟩:=hrel
   clear H3
   obtain ⟨wo,rfl⟩:∃W,W=wr:=⟨wr,rfl⟩
   by_cases hjl:j<L
   case neg=>
    obtain rfl:L=j:=by omega
    have HF:Hid (cwS x (fun _=>1) T k met (l.take L)=cwF x (fun _=>1) T (k+1) a met):=by show _=_;rw [HX.out,←HL.out,List.take_length]
    go_wp2
    go_ret
    exact ⟨by rw [HF.out];rfl,HR.out.2.2⟩
   obtain ⟨b3,o3,y,rfl,hy,cl,-⟩:=HR.out.1.at_ (k:=j) (by rw [nI_length,HL.out];exact hjl)
   rw [nI_at (by rw [HL.out];exact hjl)] at hy
   injection hy with hy
   subst hy
   have hmem:l.getD j 0∈l:=by rw [List.getD_eq_getElem?_getD,List.getElem?_eq_getElem (by rw [HL.out];exact hjl)];exact List.getElem_mem _
   obtain ⟨hbn,hbc,hbT⟩:=HMEM.out _ hmem
   have HSNj:=Lib.hid (HSN.out j hjl)
   clear hmem
   generalize l.getD j 0=b at *
   have hQ256:2^b<256:=by
    have h:∀a:Fin 8,2^a.val<256:=by decide
    exact h ⟨b,by omega⟩
   have hor:=or_small hm256 hQ256
   have hsh:IntKind.i64.wrap ((2:Int)^b)=((2^b:Nat):Int):=by
    have h:∀k:Fin 8,IntKind.i64.wrap ((2:Int)^k.val)=((2^k.val:Nat):Int):=by decide +kernel
    exact h ⟨b,by omega⟩
   have HFB:=HFL.out b (met ||| 2^b)
   have HSB:=HSL8.out j
   have HREC:Hid (∀V,Below w.heap.size w V→Calls Tryz.prog 177 #[.agg #[.int .i64 (x.wins.length:Int),.slice (some ⟨bk,off,none⟩) x.wins.length c],.int .i64 (b:Int),.int .i64 ((met ||| 2^b:Nat):Int)] V fun e w'=>e=.returned (.int .i64 (cwF x (fun _=>1) T k b (met ||| 2^b):Nat))∧Below V.heap.size V w'):=fun V hV=>HIH.out b _ _ V (HIT.out.below hV) hbn hbT (by have:=HCN.out;omega)
   generalize met ||| 2^b=O at *
   generalize (2:Nat)^b=Q at *
   generalize cwF x (fun _=>1) T k b O=F at *
   generalize hSj:cwS x (fun _=>1) T k met (l.take j)=Sj at *
   have f1:IntKind.i64.wrap ((Sj:Int)+(F:Int))=(Sj:Int)+(F:Int):=by rw [IntKind.wrap_i64];omega
   obtain ⟨q0,q1,-⟩:=id HR.out.2.1
   clear hbc hbT HFB HSB
   go_upto_region 7 with (fail)
   refine wp_region_noPanic ?_
   refine wp_region_held_drew (S:=fun W=>W.cell? ⟨w.heap.size,0,none⟩=some (.int .i64 (x.wins.length:Int))∧W.cell? ⟨w.heap.size,1,none⟩=some (.slice (some ⟨bk,off,none⟩) x.wins.length c)) (by kernel_rfl) ⟨q0,q1⟩ (fun hHeld=>?_)
   refine wT 0 (.int .i64 (Sj:Int)) ?_
   try simp only [pu]
   refine wT 1 (.agg #[.int .i64 (x.wins.length:Int),.slice (some ⟨bk,off,none⟩) x.wins.length c]) ?_
   try simp only [pu]
   refine wT 2 (.int .i64 (b:Int)) ?_
   try simp only [pu]
   refine wT 3 (.int .i64 (met:Int)) ?_
   try simp only [pu]
   refine wT 4 (.int .i64 (b:Int)) ?_
   try simp only [pu]
   refine wT 5 (.int .i64 (Q:Int)) ?_
   try simp only [pu]
   refine wT 6 (.int .i64 (O:Int)) ?_
   try simp only [pu]
   refine wR 7 (fun K hK=>?_)
   go_simp
   go_at_call 177
   (with_reducible refine (HREC.out wo.drew (below_drewL HR.out.2.2)).mono ?_)
   rintro e w5 ⟨rfl,hb5⟩
   have H5:Hid (SlI w5 (some ⟨b3,o3,none⟩) (nI l)∧Bx w5 w.heap.size (.int .i64 (x.wins.length:Int)) (.slice (some ⟨bk,off,none⟩) x.wins.length c)∧Below w.heap.size w w5):=⟨SlI.below (SlI.drew HR.out.1) hb5,(show Bx wo.drew _ _ _ from HR.out.2.1).below hb5,(below_drewL HR.out.2.2).trans (hb5.mono HR.out.2.2.size)⟩
   try (go_wp2_with fail)
   refine hK.out _ _ ⟨H5.out.2.1.1,H5.out.2.1.2.1⟩ (fun hHeld=>?_)
   clear hK K
   try simp only [pu]
   clear hb5
   refine wT 8 (.int .i64 ((Sj:Int)+(F:Int))) ?_
   try simp only [pu]
   refine wT 9 _ ?_
   try simp only [pu]
   refine wpAnyH_done (by kernel_rfl) ?_ _
   refine NoPanic.normal ?_
   clear hSj cl hor hsh f1
   go_wp2
   go_roundw
   case rel=>exact ⟨j+1,by omega,by go_num,by rw [HSNj.out];go_num,H5.out⟩
   case measure=>simp [intOf];omega
theorem countCycles_any (x:TourV) (hok:tourB x=true):∀k,k≤9→∀(a met:Nat) (v:Value) (w:World),InT w v x→a<x.wins.length→met<2^x.wins.length→x.wins.length+1≤k+cntL met →
  Calls Tryz.prog 178 #[v,.int .i64 (a:Int),.int .i64 (met:Int)] w fun e w'=>e=.returned (.int .i64 (cwF x (fun a=>winN x a%2) (2^x.wins.length) k a met:Nat))∧Below w.heap.size w w':=by
 obtain ⟨t1,t2,t3,_,_⟩:=tourB_t hok
 have hn8:x.wins.length≤8:=by omega
 have h256:(2:Nat)^x.wins.length≤256:=Nat.pow_le_pow_right (by omega) hn8
 have hpos:1≤(2:Nat)^x.wins.length:=Nat.one_le_two_pow
 have hT2:(2:Int)^x.wins.length=((2^x.wins.length:Nat):Int):=by rw [Int.natCast_pow];rfl
 have hG:∀a:Nat,((fun a=>winN x a%2):Nat→Nat) a≤1:=fun a=>Nat.le_of_lt_succ (Nat.mod_lt (winN x a) (by decide))
 intro k
 induction k with
 | zero=>
  intro _ a met v w _ _ hmt hc
  exfalso
  have:=cnt_top hmt hn8
  omega
 | succ k ih=>
  intro hk9 a met v w hs ha hmt hcn
  have hIH:=ih (by omega)
  have HIH:=Lib.hid hIH
  have HIT:=Lib.hid hs
  obtain ⟨u,rfl,A,c,rfl,hc,hm,hsl⟩:=hs
  obtain ⟨bk,off,rfl,hlt,hcell⟩:=win_cells hok hsl
  have qa:=hcell a ha
  have HW:Hid (∀b,winN x b<256):=fun b=>Nat.lt_of_lt_of_le (win_all hok b) h256
  have HWT:Hid (∀b,winN x b<2^x.wins.length):=fun b=>win_all hok b
  have hm256:met<256:=by omega
  have hand:=andNot_small (HW.out a) hm256
  have HGO:Hid (met≠2^x.wins.length-1→cwF x (fun a=>winN x a%2) (2^x.wins.length) (k+1) a met=cwS x (fun a=>winN x a%2) (2^x.wins.length) k met (memN (winN x a &&& (255 ^^^ met)))):=cwF_go
  have HMEM:Hid (∀b∈memN (winN x a &&& (255 ^^^ met)),b<x.wins.length∧cntL (met ||| 2^b)=cntL met+1∧met ||| 2^b<2^x.wins.length):=fun b hb=>by
   obtain ⟨h1,h2⟩:=free_mem hm256 hb
   have hb8:=(memN_mem.1 hb).1
   have hbn:b<x.wins.length:=by
    rcases Nat.lt_or_ge b x.wins.length with h|h
    ·exact h
    ·rw [Nat.testBit_lt_two_pow (Nat.lt_of_lt_of_le (HWT.out a) (Nat.pow_le_pow_right (by omega) h))] at h1;cases h1
   exact ⟨hbn,cnt_or ⟨met,hm256⟩ ⟨b,hb8⟩ h2,Nat.or_lt_two_pow hmt (Nat.pow_lt_pow_right (by omega) hbn)⟩
  have HSL8:Hid (∀j,cwS x (fun a=>winN x a%2) (2^x.wins.length) k met ((memN (winN x a &&& (255 ^^^ met))).take j)≤8*134217728):=fun j=>by
   have h1:=cwS_le (x:=x) (g:=(fun a=>winN x a%2)) (fun a=>hG a) (T:=2^x.wins.length) (k:=k) (met:=met) ((memN (winN x a &&& (255 ^^^ met))).take j)
   have h2:((memN (winN x a &&& (255 ^^^ met))).take j).length≤8:=by
    rw [List.length_take,memN_len]
    have:=cntL_le (winN x a &&& (255 ^^^ met));omega
   exact Nat.le_trans h1 (Nat.mul_le_mul h2 (pow8_le (by omega)))
  have HFL:Hid (∀b m,cwF x (fun a=>winN x a%2) (2^x.wins.length) k b m≤134217728):=fun b m=>Nat.le_trans (cwF_le (x:=x) (g:=(fun a=>winN x a%2)) (fun a=>hG a) k b m) (pow8_le (by omega))
  have HSN:Hid (∀j,j<(memN (winN x a &&& (255 ^^^ met))).length→cwS x (fun a=>winN x a%2) (2^x.wins.length) k met ((memN (winN x a &&& (255 ^^^ met))).take (j+1))=cwS x (fun a=>winN x a%2) (2^x.wins.length) k met ((memN (winN x a &&& (255 ^^^ met))).take j)+cwF x (fun a=>winN x a%2) (2^x.wins.length) k ((memN (winN x a &&& (255 ^^^ met))).getD j 0) (met ||| 2^(memN (winN x a &&& (255 ^^^ met))).getD j 0)):=fun j hj=>cwS_snoc hj
  have HSZ:Hid (x.size=(x.wins.length:Int)):=t3.symm
  have hS256:winN x a &&& (255 ^^^ met)<256:=Nat.lt_of_le_of_lt Nat.and_le_left (HW.out a)
  have HMB:=Lib.hid (fun V=>membersOf_any (winN x a &&& (255 ^^^ met)) V hS256)
  rw [memN_nI] at HMB
  obtain ⟨L,HL⟩:∃L,Hid ((memN (winN x a &&& (255 ^^^ met))).length=L):=⟨_,rfl⟩
  rw [HL.out] at HSN
  have hL8:L≤8:=by rw [←HL.out,memN_len];exact cntL_le _
  generalize memN (winN x a &&& (255 ^^^ met))=l at *
  generalize winN x a &&& (255 ^^^ met)=S at *
  have HEN:Hid (cwF x (fun a=>winN x a%2) (2^x.wins.length) (k+1) a (2^x.wins.length-1)=(fun a=>winN x a%2) a):=cwF_end
  generalize (2:Nat)^x.wins.length=T at *
  have HET:Hid ((2:Int)^x.wins.length=(T:Int)∧wrap64 (T:Int)=T∧wrap64 ((T:Int)-1)=T-1):=⟨hT2,wrapT hpos h256⟩
  have H0:Hid (Bx (w.alloc (.cells #[.int .i64 (x.wins.length:Int),.slice (some ⟨bk,off,none⟩) x.wins.length c] 27)) w.heap.size (.int .i64 (x.wins.length:Int)) (.slice (some ⟨bk,off,none⟩) x.wins.length c)∧Below w.heap.size w (w.alloc (.cells #[.int .i64 (x.wins.length:Int),.slice (some ⟨bk,off,none⟩) x.wins.length c] 27))):=⟨⟨by simp,by simp,by simp⟩,(Below.refl _ w).alloc (Nat.le_refl _) _⟩
  have hbne:¬bk=w.heap.size:=by omega
  rw [HSZ.out]
  rw [HSZ.out] at HIT
  have hai:(a:Int)<(x.wins.length:Int):=by omega
  have HAL:=Lib.hid ha
  clear hsl hcell ih hIH hT2 hG hok t1 t2 t3 ha
  by_cases hfull:met=T-1
  ·have HX:Hid (cwF x (fun a=>winN x a%2) T (k+1) a met=(fun a=>winN x a%2) a):=by show _=_;rw [hfull];exact HEN.out
   have hb1:((met:Int)==(T:Int)-1)=true:=by simp;omega
   have hw2:=and_low (s:=winN x a) (HW.out a)
   clear hfull
   obtain ⟨e1,-,-⟩:=id HET.out
   go_enter Tryz.func178,Tryz.ntmps178
   go_wp2
   go_ret
   exact ⟨by rw [HX.out];rfl,H0.out.2⟩
  have HX:=Lib.hid (HGO.out hfull)
  have hb1:((met:Int)==(T:Int)-1)=false:=by simp;omega
  have HCN:=Lib.hid hcn
  clear hfull hcn
  obtain ⟨e1,-,-⟩:=id HET.out
  go_enter Tryz.func178,Tryz.ntmps178
  go_wp2_with fail
  refine (HMB.out _).mono ?_
  rintro e w3 ⟨v3,rfl,hf3,hb3⟩
  obtain ⟨A3,c3,rfl,-,-⟩:=hf3.form
  rw [nI_length,HL.out] at hf3 ⊢
  have H3:Hid (SlI w3 A3 (nI l)∧Bx w3 w.heap.size (.int .i64 (x.wins.length:Int)) (.slice (some ⟨bk,off,none⟩) x.wins.length c)∧Below w.heap.size w w3):=⟨hf3.sl,H0.out.1.below hb3,H0.out.2.trans (hb3.mono H0.out.2.size)⟩
  clear hf3 hb3 e1
  go_wp2
  go_loopw [7,31] (fun s i wr=>∃j:Nat,j≤L∧i=.int .i64 (j:Int)∧s=.int .i64 (cwS x (fun a=>winN x a%2) T k met (l.take j):Nat)∧Hid (SlI wr A3 (nI l)∧Bx wr w.heap.size (.int .i64 (x.wins.length:Int)) (.slice (some ⟨bk,off,none⟩) x.wins.length c)∧Below w.heap.size w wr)) (fun _ i _=>L-(intOf i).toNat)
  case atStart=>exact ⟨0,Nat.zero_le _,rfl,rfl,H3.out⟩
  case round=>
   obtain ⟨j,hj,rfl,rfl,HR⟩:=hrel
   clear H3
   obtain ⟨wo,rfl⟩:∃W,W=wr:=⟨wr,rfl⟩
   by_cases hjl:j<L
   case neg=>
    obtain rfl:L=j:=by omega
    have HF:Hid (cwS x (fun a=>winN x a%2) T k met (l.take L)=cwF x (fun a=>winN x a%2) T (k+1) a met):=by show _=_;rw [HX.out,←HL.out,List.take_length]
    go_wp2
    go_ret
    exact ⟨by rw [HF.out];rfl,HR.out.2.2⟩
   obtain ⟨b3,o3,y,rfl,hy,cl,-⟩:=HR.out.1.at_ (k:=j) (by rw [nI_length,HL.out];exact hjl)
   rw [nI_at (by rw [HL.out];exact hjl)] at hy
   injection hy with hy
   subst hy
   have hmem:l.getD j 0∈l:=by rw [List.getD_eq_getElem?_getD,List.getElem?_eq_getElem (by rw [HL.out];exact hjl)];exact List.getElem_mem _
   obtain ⟨hbn,hbc,hbT⟩:=HMEM.out _ hmem
   have HSNj:=Lib.hid (HSN.out j hjl)
   clear hmem
   generalize l.getD j 0=b at *
   have hQ256:2^b<256:=by
    have h:∀a:Fin 8,2^a.val<256:=by decide
    exact h ⟨b,by omega⟩
   have hor:=or_small hm256 hQ256
   have hsh:IntKind.i64.wrap ((2:Int)^b)=((2^b:Nat):Int):=by
    have h:∀k:Fin 8,IntKind.i64.wrap ((2:Int)^k.val)=((2^k.val:Nat):Int):=by decide +kernel
    exact h ⟨b,by omega⟩
   have HFB:=HFL.out b (met ||| 2^b)
   have HSB:=HSL8.out j
   have HREC:Hid (∀V,Below w.heap.size w V→Calls Tryz.prog 178 #[.agg #[.int .i64 (x.wins.length:Int),.slice (some ⟨bk,off,none⟩) x.wins.length c],.int .i64 (b:Int),.int .i64 ((met ||| 2^b:Nat):Int)] V fun e w'=>e=.returned (.int .i64 (cwF x (fun a=>winN x a%2) T k b (met ||| 2^b):Nat))∧Below V.heap.size V w'):=fun V hV=>HIH.out b _ _ V (HIT.out.below hV) hbn hbT (by have:=HCN.out;omega)
   generalize met ||| 2^b=O at *
   generalize (2:Nat)^b=Q at *
   generalize cwF x (fun a=>winN x a%2) T k b O=F at *
   generalize hSj:cwS x (fun a=>winN x a%2) T k met (l.take j)=Sj at *
   have f1:IntKind.i64.wrap ((Sj:Int)+(F:Int))=(Sj:Int)+(F:Int):=by rw [IntKind.wrap_i64];omega
   obtain ⟨q0,q1,-⟩:=id HR.out.2.1
   clear hbc hbT HFB HSB
   go_upto_region 7 with (fail)
   refine wp_region_noPanic ?_
   refine wp_region_held_drew (S:=fun W=>W.cell? ⟨w.heap.size,0,none⟩=some (.int .i64 (x.wins.length:Int))∧W.cell? ⟨w.heap.size,1,none⟩=some (.slice (some ⟨bk,off,none⟩) x.wins.length c)) (by kernel_rfl) ⟨q0,q1⟩ (fun hHeld=>?_)
   refine wT 0 (.int .i64 (Sj:Int)) ?_
   try simp only [pu]
   refine wT 1 (.agg #[.int .i64 (x.wins.length:Int),.slice (some ⟨bk,off,none⟩) x.wins.length c]) ?_
   try simp only [pu]
   refine wT 2 (.int .i64 (b:Int)) ?_
   try simp only [pu]
   refine wT 3 (.int .i64 (met:Int)) ?_
   try simp only [pu]
   refine wT 4 (.int .i64 (b:Int)) ?_
   try simp only [pu]
   refine wT 5 (.int .i64 (Q:Int)) ?_
   try simp only [pu]
   refine wT 6 (.int .i64 (O:Int)) ?_
   try simp only [pu]
   refine wR 7 (fun K hK=>?_)
   go_simp
   go_at_call 178
   (with_reducible refine (HREC.out wo.drew (below_drewL HR.out.2.2)).mono ?_)
   rintro e w5 ⟨rfl,hb5⟩
   have H5:Hid (SlI w5 (some ⟨b3,o3,none⟩) (nI l)∧Bx w5 w.heap.size (.int .i64 (x.wins.length:Int)) (.slice (some ⟨bk,off,none⟩) x.wins.length c)∧Below w.heap.size w w5):=⟨SlI.below (SlI.drew HR.out.1) hb5,(show Bx wo.drew _ _ _ from HR.out.2.1).below hb5,(below_drewL HR.out.2.2).trans (hb5.mono HR.out.2.2.size)⟩
   try (go_wp2_with fail)
   refine hK.out _ _ ⟨H5.out.2.1.1,H5.out.2.1.2.1⟩ (fun hHeld=>?_)
   clear hK K
   try simp only [pu]
   clear hb5
   refine wT 8 (.int .i64 ((Sj:Int)+(F:Int))) ?_
   try simp only [pu]
   refine wT 9 _ ?_
   try simp only [pu]
   refine wpAnyH_done (by kernel_rfl) ?_ _
   refine NoPanic.normal ?_
   clear hSj cl hor hsh f1
   go_wp2
   go_roundw
   case rel=>exact ⟨j+1,by omega,by go_num,by rw [HSNj.out];go_num,H5.out⟩
   case measure=>simp [intOf];omega
def fullWT (x:TourV) (i:Nat):Nat:=((List.range i).map fun a=>cwF x (fun _=>1) (2^x.wins.length) x.wins.length a (2^a)).sum
def fullWF (x:TourV):Int:=if tourB x then (fullWT x x.wins.length:Nat) else -1
def fullCF (x:TourV):Int:=if tourB x then (cwF x (fun a=>winN x a%2) (2^x.wins.length) x.wins.length 0 1:Nat) else -1
theorem fullWT_succ (x:TourV) (i:Nat):fullWT x (i+1)=fullWT x i+cwF x (fun _=>1) (2^x.wins.length) x.wins.length i (2^i):=by
 unfold fullWT
 rw [List.range_succ,List.map_append,List.sum_append];simp
theorem cnt_pow:∀a:Fin 8,cntL (2^a.val)=1:=by decide +kernel
theorem fullWT_le (x:TourV) (h:x.wins.length≤8):∀i,fullWT x i≤i*16777216
 | 0=>by simp [fullWT]
 | i+1=>by
  have h1:=fullWT_le x h i
  have h2:=cwF_le (x:=x) (g:=fun _=>1) (fun _=>Nat.le_refl _) (T:=2^x.wins.length) x.wins.length i (2^i)
  have h3:8^x.wins.length≤16777216:=Nat.le_trans (Nat.pow_le_pow_right (by omega) h) (by decide)
  rw [fullWT_succ,Nat.add_mul];omega
theorem implCountWays_any (v:Value) (x:TourV) (w:World) (hs:InT w v x):
  Calls Tryz.prog 92 #[v] w fun e w'=>e=.returned (.int .i64 (fullWF x))∧Below w.heap.size w w':=by
 have HIT:=Lib.hid hs
 obtain ⟨u,rfl,B,d,rfl,hd,hm,hts⟩:=hs
 have HTO:Hid (∀W,Below w.heap.size w W→Calls Tryz.prog 148 #[.agg #[.int .i64 x.size,.slice B x.wins.length d]] W fun e w'=>e=.returned (.bool (tourB x))∧Below W.heap.size W w'):=fun W hW=>implTourOk_any _ x W (HIT.out.below hW)
 have H0:Hid (Bx (w.alloc (.cells #[.int .i64 x.size,.slice B x.wins.length d] 27)) w.heap.size (.int .i64 x.size) (.slice B x.wins.length d)∧Below w.heap.size w (w.alloc (.cells #[.int .i64 x.size,.slice B x.wins.length d] 27))):=⟨⟨by simp,by simp,by simp⟩,(Below.refl _ w).alloc (Nat.le_refl _) _⟩
 clear hts
 cases h1:tourB x
 ·have HX:Hid (fullWF x = -1):=by show _=_;unfold fullWF;rw [h1];rfl
  rw [h1] at HTO
  clear h1
  go_enter Tryz.func92,Tryz.ntmps92
  go_wp2_with fail
  refine (HTO.out _ H0.out.2).mono ?_
  rintro e w1 ⟨rfl,hb1⟩
  have H1:Hid (Below w.heap.size w w1):=H0.out.2.trans (hb1.mono H0.out.2.size)
  clear hb1
  go_wp2
  go_ret
  exact ⟨by rw [HX.out];rfl,H1.out⟩
 have HX:Hid (fullWF x=(fullWT x x.wins.length:Nat)):=by show _=_;unfold fullWF;rw [h1];rfl
 have HOK:=Lib.hid h1
 rw [h1] at HTO
 obtain ⟨t1,t2,t3,_⟩:=tourB_t h1
 have hn8:x.wins.length≤8:=by omega
 have HSU:=Lib.hid (fullWT_succ x)
 have HLE:=Lib.hid (fullWT_le x hn8)
 have HCW:Hid (∀V (a:Nat),Below w.heap.size w V→a<x.wins.length→Calls Tryz.prog 177 #[.agg #[.int .i64 x.size,.slice B x.wins.length d],.int .i64 (a:Int),.int .i64 ((2^a:Nat):Int)] V fun e w'=>e=.returned (.int .i64 (cwF x (fun _=>1) (2^x.wins.length) x.wins.length a (2^a):Nat))∧Below V.heap.size V w'):=fun V a hV ha=>
  countWays_any x HOK.out x.wins.length (by omega) a (2^a) _ V (HIT.out.below hV) ha (Nat.pow_lt_pow_right (by omega) ha) (by rw [cnt_pow ⟨a,by omega⟩];exact Nat.le_refl _)
 rw [←t3] at HTO H0 HCW ⊢
 generalize x.wins.length=n at *
 clear h1 t1 t2 t3
 go_enter Tryz.func92,Tryz.ntmps92
 go_wp2_with fail
 refine (HTO.out _ H0.out.2).mono ?_
 rintro e w1 ⟨rfl,hb1⟩
 have H1:Hid (Bx w1 w.heap.size (.int .i64 (n:Int)) (.slice B n d)∧Below w.heap.size w w1):=⟨H0.out.1.below hb1,H0.out.2.trans (hb1.mono H0.out.2.size)⟩
 obtain ⟨q0,q1,-⟩:=id H1.out.1
 clear hb1
 go_wp2
 clear q0 q1
 go_loopw [3,10] (fun s i wr=>∃a:Nat,a≤n∧i=.int .i64 (a:Int)∧s=.int .i64 (fullWT x a:Nat)∧Hid (Bx wr w.heap.size (.int .i64 (n:Int)) (.slice B n d)∧Below w.heap.size w wr)) (fun _ i _=>n-(intOf i).toNat)
 case atStart=>exact ⟨0,Nat.zero_le _,rfl,rfl,H1.out⟩
 case round=>
  obtain ⟨a,ha,rfl,rfl,HR⟩:=hrel
  clear H1
  obtain ⟨wo,rfl⟩:∃W,W=wr:=⟨wr,rfl⟩
  by_cases hlt:a<n
  case neg=>
   obtain rfl:n=a:=by omega
   go_wp2
   go_ret
   exact ⟨by rw [HX.out];rfl,HR.out.2⟩
  have HREC:=Lib.hid (fun V hV=>HCW.out V a hV hlt)
  have hle1:=HLE.out (a+1)
  have hsu:=HSU.out a
  have hsh:IntKind.i64.wrap ((2:Int)^a)=((2^a:Nat):Int):=by
   have h:∀k:Fin 8,IntKind.i64.wrap ((2:Int)^k.val)=((2^k.val:Nat):Int):=by decide +kernel
   exact h ⟨a,by omega⟩
  generalize cwF x (fun _=>1) (2^n) n a (2^a)=F at *
  generalize (2:Nat)^a=Q at *
  generalize hSj:fullWT x a=Sj at *
  have f1:IntKind.i64.wrap ((Sj:Int)+(F:Int))=(Sj:Int)+(F:Int):=by rw [IntKind.wrap_i64];omega
  have HSN:=Lib.hid hsu
  obtain ⟨q0,q1,-⟩:=id HR.out.1
  clear hle1 hsu
  go_upto_region 7 with (fail)
  refine wp_region_noPanic ?_
  refine wp_region_held_drew (S:=fun W=>W.cell? ⟨w.heap.size,0,none⟩=some (.int .i64 (n:Int))∧W.cell? ⟨w.heap.size,1,none⟩=some (.slice B n d)) (by kernel_rfl) ⟨q0,q1⟩ (fun hHeld=>?_)
  refine wT 0 (.int .i64 (Sj:Int)) ?_
  try simp only [pu]
  refine wT 1 (.agg #[.int .i64 (n:Int),.slice B n d]) ?_
  try simp only [pu]
  refine wT 2 (.int .i64 (a:Int)) ?_
  try simp only [pu]
  refine wT 3 (.int .i64 (a:Int)) ?_
  try simp only [pu]
  refine wT 4 (.int .i64 (Q:Int)) ?_
  try simp only [pu]
  refine wR 5 (fun K hK=>?_)
  go_simp
  go_at_call 177
  (with_reducible refine (HREC.out wo.drew (below_drewL HR.out.2)).mono ?_)
  rintro e w5 ⟨rfl,hb5⟩
  have H5:Hid (Bx w5 w.heap.size (.int .i64 (n:Int)) (.slice B n d)∧Below w.heap.size w w5):=⟨(show Bx wo.drew _ _ _ from HR.out.1).below hb5,(below_drewL HR.out.2).trans (hb5.mono HR.out.2.size)⟩
  try (go_wp2_with fail)
  refine hK.out _ _ ⟨H5.out.1.1,H5.out.1.2.1⟩ (fun hHeld=>?_)
  clear hK K
  try simp only [pu]
  clear hb5
  refine wT 6 (.int .i64 ((Sj:Int)+(F:Int))) ?_
  try simp only [pu]
  refine wT 7 _ ?_
  try simp only [pu]
  refine wpAnyH_done (by kernel_rfl) ?_ _
  refine NoPanic.normal ?_
  clear hSj hsh f1
  go_wp2
  go_roundw
  case rel=>exact ⟨a+1,by omega,by go_num,by rw [HSN.out];go_num,H5.out⟩
  case measure=>simp [intOf];omega
theorem implCountCycles_any (v:Value) (x:TourV) (w:World) (hs:InT w v x):
  Calls Tryz.prog 94 #[v] w fun e w'=>e=.returned (.int .i64 (fullCF x))∧Below w.heap.size w w':=by
 have HIT:=Lib.hid hs
 obtain ⟨u,rfl,B,d,rfl,hd,hm,hts⟩:=hs
 have HTO:Hid (∀W,Below w.heap.size w W→Calls Tryz.prog 148 #[.agg #[.int .i64 x.size,.slice B x.wins.length d]] W fun e w'=>e=.returned (.bool (tourB x))∧Below W.heap.size W w'):=fun W hW=>implTourOk_any _ x W (HIT.out.below hW)
 have H0:Hid (Bx (w.alloc (.cells #[.int .i64 x.size,.slice B x.wins.length d] 27)) w.heap.size (.int .i64 x.size) (.slice B x.wins.length d)∧Below w.heap.size w (w.alloc (.cells #[.int .i64 x.size,.slice B x.wins.length d] 27))):=⟨⟨by simp,by simp,by simp⟩,(Below.refl _ w).alloc (Nat.le_refl _) _⟩
 clear hts
 cases h1:tourB x
 ·have HX:Hid (fullCF x = -1):=by show _=_;unfold fullCF;rw [h1];rfl
  rw [h1] at HTO
  clear h1
  go_enter Tryz.func94,Tryz.ntmps94
  go_wp2_with fail
  refine (HTO.out _ H0.out.2).mono ?_
  rintro e w1 ⟨rfl,hb1⟩
  have H1:Hid (Below w.heap.size w w1):=H0.out.2.trans (hb1.mono H0.out.2.size)
  clear hb1
  go_wp2
  go_ret
  exact ⟨by rw [HX.out];rfl,H1.out⟩
 have HX:Hid (fullCF x=(cwF x (fun a=>winN x a%2) (2^x.wins.length) x.wins.length 0 1:Nat)):=by show _=_;unfold fullCF;rw [h1];rfl
 have HOK:=Lib.hid h1
 rw [h1] at HTO
 obtain ⟨t1,t2,t3,_⟩:=tourB_t h1
 have hn8:x.wins.length≤8:=by omega
 have HCC:Hid (∀V,Below w.heap.size w V→Calls Tryz.prog 178 #[.agg #[.int .i64 x.size,.slice B x.wins.length d],.int .i64 0,.int .i64 1] V fun e w'=>e=.returned (.int .i64 (cwF x (fun a=>winN x a%2) (2^x.wins.length) x.wins.length 0 1:Nat))∧Below V.heap.size V w'):=fun V hV=>
  countCycles_any x HOK.out x.wins.length (by omega) 0 1 _ V (HIT.out.below hV) (by omega) (Nat.one_lt_two_pow (by omega)) (by have h:=cnt_pow ⟨0,by omega⟩;simp only [Nat.pow_zero] at h;omega)
 clear h1 t1 t2 t3
 go_enter Tryz.func94,Tryz.ntmps94
 go_wp2_with fail
 refine (HTO.out _ H0.out.2).mono ?_
 rintro e w1 ⟨rfl,hb1⟩
 have H1:Hid (Bx w1 w.heap.size (.int .i64 x.size) (.slice B x.wins.length d)∧Below w.heap.size w w1):=⟨H0.out.1.below hb1,H0.out.2.trans (hb1.mono H0.out.2.size)⟩
 obtain ⟨q0,q1,-⟩:=id H1.out.1
 clear hb1
 go_wp2_with fail
 refine (HCC.out _ H1.out.2).mono ?_
 rintro e w2 ⟨rfl,hb2⟩
 have H2:Hid (Below w.heap.size w w2):=H1.out.2.trans (hb2.mono H1.out.2.size)
 clear hb2
 go_wp2
 go_ret
 exact ⟨by rw [HX.out];rfl,H2.out⟩
end Go.Proofs.YtkapoldjcpfdgaaGreatDoor
