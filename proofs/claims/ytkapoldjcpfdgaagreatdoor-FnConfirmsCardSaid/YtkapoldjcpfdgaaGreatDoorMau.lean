/- Tours read from text: plain law. -/
import Derived.Test.YtkapoldjcpfdgaaGreatDoorMat
set_option maxHeartbeats 2000000
set_option maxRecDepth 100000
namespace Go.Proofs.YtkapoldjcpfdgaaGreatDoor
open Go.ChangeShapes Go.WideShapes Go.ChangeAt Go.RowKit
theorem strs_at {ls:List (List UInt8)}{k:Nat}{l:List UInt8} (h:ls[k]? = some l):(strs ls)[k]? = some (.string ⟨l.toArray⟩):=by simp [strs,h]
theorem own_neZ {w:World}{lo lo2 m n s s2:Nat}{u v:Value}{xs vs:List Value} (h1:w.ownsRow lo 3 s u m xs) (h2:w.ownsRow lo2 9 s2 v n vs) {g:Nat} (hg:u.ownBlock=some g):v.ownBlock≠some g:=by
 intro hv
 rcases h1.2 with ⟨rfl,_⟩|⟨g1,_,cur1,rfl,_,e1,_⟩
 ·cases hg
 ·rcases h2.2 with ⟨rfl,_⟩|⟨g2,_,cur2,rfl,_,e2,_⟩
  ·cases hv
  ·simp only [Value.ownBlock,Option.some.injEq] at hg hv
   subst hg;subst hv
   rw [e1] at e2
   injection e2 with e2
   injection e2 with _ e2 _
   exact absurd e2 (by decide)
theorem Fr.grownByZ {w w':World}{lo hi:Nat}{u:Value}{xs:List Int}{row:Option Nat} (h:Fr w lo hi u xs) (hg:w.grownBy w' row) (hd:∀g,u.ownBlock=some g→row≠some g):Fr w' lo hi u xs:=by
 refine ⟨h.1.kept hg ?_,h.2.1,Nat.le_trans h.2.2 hg.size⟩
 cases hu:u.ownBlock with
 | none=>exact .inl rfl
 | some g=>exact .inr fun e=>hd g hu e.symm
def digB (b:Bool):UInt8:=if b then 49 else 48
def rowD (x:TourV) (a:Nat):Nat→List UInt8
 | 0=>[]
 | b+1=>if a<b then rowD x a b++[digB (bt x.wins a b)] else rowD x a b
def allD (x:TourV) (n:Nat):Nat→List UInt8
 | 0=>[]
 | a+1=>allD x n a++rowD x a n
def headD (x:TourV):List UInt8:=Lib.itoa x.size++[58]
def tourText (x:TourV):List UInt8:=if tourB x then headD x++allD x x.wins.length x.wins.length else []
theorem rowD_low (x:TourV) (a:Nat):∀b,b≤a+1→rowD x a b = []
 | 0,_=>rfl
 | b+1,h=>by rw [rowD,if_neg (by omega),rowD_low x a b (by omega)]
theorem rowD_succ {x:TourV}{a b:Nat} (h:a<b):rowD x a (b+1)=rowD x a b++[digB (bt x.wins a b)]:=by rw [rowD,if_pos h]
theorem rowD_len (x:TourV) (a:Nat):∀b,(rowD x a b).length≤b
 | 0=>Nat.le_refl _
 | b+1=>by
  have h:=rowD_len x a b
  rw [rowD]
  split
  ·rw [List.length_append];simp;omega
  ·omega
theorem allD_len (x:TourV) (n:Nat):∀a,(allD x n a).length≤a*n
 | 0=>by simp [allD]
 | a+1=>by
  have h:=allD_len x n a
  have h2:=rowD_len x a n
  rw [allD,List.length_append,Nat.add_mul];omega
theorem itoa_8:∀n:Fin 9,(Lib.itoa (n.val:Int)).length=1:=by decide +kernel
theorem headD_len {x:TourV} (h:tourB x=true):(headD x).length=2:=by
 obtain ⟨t1,t2,_⟩:=tourB_t h
 have h:=itoa_8 ⟨x.size.toNat,by omega⟩
 simp only [Int.toNat_of_nonneg (show 0≤x.size by omega)] at h
 unfold headD
 rw [List.length_append,h];rfl
theorem implFormatTour_any (v:Value) (x:TourV) (w:World) (hs:InT w v x) (ht:tabP w):
  Calls Tryz.prog 82 #[v] w fun e w'=>e=.returned (.string ⟨(tourText x).toArray⟩)∧Below w.heap.size w w':=by
 have HIT:=Lib.hid hs
 have HT:=Lib.hid ht
 obtain ⟨u,rfl,B,d,rfl,hd,hm,hts⟩:=hs
 have HSL:=Lib.hid hts
 have HTO:Hid (∀W,Below w.heap.size w W→Calls Tryz.prog 148 #[.agg #[.int .i64 x.size,.slice B x.wins.length d]] W fun e w'=>e=.returned (.bool (tourB x))∧Below W.heap.size W w'):=fun W hW=>implTourOk_any _ x W (HIT.out.below hW)
 have H0:Hid (Bx (w.alloc (.cells #[.int .i64 x.size,.slice B x.wins.length d] 27)) w.heap.size (.int .i64 x.size) (.slice B x.wins.length d)∧Below w.heap.size w (w.alloc (.cells #[.int .i64 x.size,.slice B x.wins.length d] 27))):=⟨⟨by simp,by simp,by simp⟩,(Below.refl _ w).alloc (Nat.le_refl _) _⟩
 clear hts ht
 cases h1:tourB x
 ·have HX:Hid (tourText x = []):=by show _=_;unfold tourText;rw [h1];rfl
  rw [h1] at HTO
  clear h1
  go_enter Tryz.func82,Tryz.ntmps82
  go_wp2_with fail
  refine (HTO.out _ H0.out.2).mono ?_
  rintro e w1 ⟨rfl,hb1⟩
  have H1:Hid (Below w.heap.size w w1):=H0.out.2.trans (hb1.mono H0.out.2.size)
  clear hb1
  go_wp2
  go_ret
  exact ⟨by rw [HX.out];rfl,H1.out⟩
 have HX:Hid (tourText x=headD x++allD x x.wins.length x.wins.length):=by show _=_;unfold tourText;rw [h1];rfl
 have HHL:=Lib.hid (headD_len h1)
 rw [h1] at HTO
 obtain ⟨t1,t2,t3,t4,_⟩:=tourB_t h1
 have hn8:x.wins.length≤8:=by omega
 have HWB:=Lib.hid t4
 have HHD:Hid (headD x=Lib.itoa x.size++[58]):=rfl
 have HFI:Hid (∀V (n:Nat),Below w.heap.size w V→n≤8→Calls Tryz.prog 13 #[.int .i64 (n:Int)] V fun e w'=>e=.returned (.string ⟨(Lib.itoa (n:Int)).toArray⟩)∧Below V.heap.size V w'):=fun V n hV hn=>implFormatInt_any (n:Int) V (by omega) (by omega) (HT.out.below hV (Nat.le_refl _))
 have HAL:Hid (∀a,a≤x.wins.length→(allD x x.wins.length a).length≤64):=fun a ha=>Nat.le_trans (allD_len x _ a) (Nat.mul_le_mul (show a≤8 by omega) hn8)
 have HAS:Hid (∀a,allD x x.wins.length (a+1)=allD x x.wins.length a++rowD x a x.wins.length):=fun a=>rfl
 have hsz:x.size=(x.wins.length:Int):=t3.symm
 rw [hsz] at HTO H0 HHD ⊢
 have HSZ:=Lib.hid hsz
 have H1I:Hid (Lib.itoa ((x.wins.length:Nat):Int)++[58]=headD x):=HHD.out.symm
 have HIL:Hid ((Lib.itoa ((x.wins.length:Nat):Int)).length=1):=itoa_8 ⟨x.wins.length,by omega⟩
 generalize hn:x.wins.length=n at *
 clear h1 t1 t2 t3 t4 hsz HHD
 go_enter Tryz.func82,Tryz.ntmps82
 go_wp2_with fail
 refine (HTO.out _ H0.out.2).mono ?_
 rintro e w1 ⟨rfl,hb1⟩
 have H1:Hid (Bx w1 w.heap.size (.int .i64 (n:Int)) (.slice B n d)∧Below w.heap.size w w1):=⟨H0.out.1.below hb1,H0.out.2.trans (hb1.mono H0.out.2.size)⟩
 obtain ⟨q0,q1,-⟩:=id H1.out.1
 clear hb1
 go_wp2_with fail
 refine (HFI.out _ n H1.out.2 hn8).mono ?_
 rintro e w2 ⟨rfl,hb2⟩
 have H2:Hid (Bx w2 w.heap.size (.int .i64 (n:Int)) (.slice B n d)∧Below w.heap.size w w2):=⟨H1.out.1.below hb2,H1.out.2.trans (hb2.mono H1.out.2.size)⟩
 have hil:=HIL.out
 generalize Lib.itoa (n:Int)=I0 at *
 clear hb2 q0 q1
 obtain ⟨q0,q1,-⟩:=id H2.out.1
 have HC0:Hid ((⟨I0.toArray⟩:ByteArray)++⟨#[58]⟩=⟨(headD x).toArray⟩):=by show _=_;rw [←H1I.out];exact bcat I0 [58]
 have HA0:Hid (headD x++allD x n 0=headD x):=by show _=_;simp [allD]
 go_wp2
 rw [HC0.out]
 clear q0 q1 hil
 generalize headD x=HD at *
 go_loopw [3,15] (fun s i wr=>∃a:Nat,a≤n∧i=.int .i64 (a:Int)∧s=.string ⟨(HD++allD x n a).toArray⟩∧Hid (Bx wr w.heap.size (.int .i64 (n:Int)) (.slice B n d)∧Below w.heap.size w wr)) (fun _ i _=>n-(intOf i).toNat)
 case atStart=>exact ⟨0,Nat.zero_le _,rfl,by rw [HA0.out],H2.out⟩
 case round=>
  obtain ⟨a,ha,rfl,rfl,HR⟩:=hrel
  clear H2 H1
  obtain ⟨wo,rfl⟩:∃W,W=wr:=⟨wr,rfl⟩
  obtain ⟨q0,q1,-⟩:=id HR.out.1
  by_cases hlt:a<n
  case neg=>
   obtain rfl:n=a:=by omega
   go_wp2
   go_ret
   exact ⟨by rw [HX.out];rfl,HR.out.2⟩
  have HSN:Hid (HD++allD x n (a+1)=HD++allD x n a++rowD x a n):=by show _=_;rw [HAS.out,List.append_assoc]
  have hla:=HAL.out a (by omega)
  have HP0:Hid (HD++allD x n a++rowD x a (a+1)=HD++allD x n a):=by show _=_;rw [rowD_low x a (a+1) (Nat.le_refl _),List.append_nil]
  have HPL:Hid ((HD++allD x n a).length≤66):=by show _≤_;rw [List.length_append,HHL.out];omega
  generalize HD++allD x n a=P at *
  obtain ⟨bk,off,y,rfl,hy,cy,hbl⟩:=HSL.out.at_ (k:=a) (by rw [hn];exact hlt)
  obtain ⟨y1,y2⟩:=winsB_at hn8 HWB.out hy
  have HBY:Hid (∀b,bt x.wins a b=y.toNat.testBit b):=fun b=>by rw [bt,List.getD_eq_getElem?_getD,hy];rfl
  have HCY:Hid (∀W,Below w.heap.size w W→W.cell? ⟨bk,off+a,none⟩=some (.int .i64 y)):=fun W hW=>(hW.cell (block_lt_of_cell cy)).trans cy
  have hda:decide ((a:Int)<(n:Int))=true:=by simp;omega
  have HN:=Lib.hid hn
  clear hy cy hla hn
  go_wp2
  go_loopw [3,5] (fun s i wr=>∃b:Nat,a+1≤b∧b≤n∧i=.int .i64 (b:Int)∧s=.string ⟨(P++rowD x a b).toArray⟩∧Hid (Bx wr w.heap.size (.int .i64 (n:Int)) (.slice (some ⟨bk,off,none⟩) n d)∧Below w.heap.size w wr)) (fun _ i _=>n-(intOf i).toNat)
  case atStart=>exact ⟨a+1,Nat.le_refl _,by omega,by go_num,by rw [HP0.out],HR.out⟩
  case round=>
   obtain ⟨b,hb1,hb2,rfl,rfl,HI⟩:=hrel
   clear q0 q1
   obtain ⟨q0,q1,-⟩:=id HI.out.1
   by_cases hltb:b<n
   case neg=>
    obtain rfl:n=b:=by omega
    go_wp2
    go_roundw
    case rel=>exact ⟨a+1,by omega,by go_num,by rw [HSN.out],HI.out⟩
    case measure=>simp [intOf];omega
   have bz:=bit_at y1 y2 (show b≤7 by omega)
   have HRS:Hid (rowD x a (b+1)=rowD x a b++[digB (bt x.wins a b)]):=rowD_succ (by omega)
   have cy:=HCY.out _ HI.out.2
   have hrl:(P++rowD x a b).length≤74:=by rw [List.length_append];have:=HPL.out;have:=rowD_len x a b;omega
   have HF1:=Lib.hid (fun V hV=>HFI.out V 1 hV (by decide))
   have HF0:=Lib.hid (fun V hV=>HFI.out V 0 hV (by decide))
   rw [show Lib.itoa ((1:Nat):Int) = [49] from by decide +kernel] at HF1
   rw [show Lib.itoa ((0:Nat):Int) = [48] from by decide +kernel] at HF0
   rw [←HBY.out b] at bz
   have HCAT:Hid (∀c:UInt8,(⟨(P++rowD x a b).toArray⟩:ByteArray)++⟨[c].toArray⟩=⟨(P++(rowD x a b++[c])).toArray⟩):=fun c=>by rw [bcat,List.append_assoc]
   generalize P++rowD x a b=PR at *
   cases ht:bt x.wins a b
   ·have HN2:Hid (P++rowD x a (b+1)=P++(rowD x a b++[48])):=by show _=_;rw [HRS.out,ht];rfl
    rw [ht] at bz
    simp only [Bool.false_eq_true,if_false] at bz
    clear ht
    go_wp2_with fail
    refine (HF0.out _ HI.out.2).mono ?_
    rintro e w5 ⟨rfl,hb5⟩
    have H5:Hid (Bx w5 w.heap.size (.int .i64 (n:Int)) (.slice (some ⟨bk,off,none⟩) n d)∧Below w.heap.size w w5):=⟨HI.out.1.below hb5,HI.out.2.trans (hb5.mono HI.out.2.size)⟩
    clear hb5
    go_wp2
    go_roundw
    case rel=>exact ⟨b+1,by omega,by omega,by go_num,by rw [HN2.out,←HCAT.out],H5.out⟩
    case measure=>simp [intOf];omega
   ·have HN2:Hid (P++rowD x a (b+1)=P++(rowD x a b++[49])):=by show _=_;rw [HRS.out,ht];rfl
    rw [ht] at bz
    simp only [if_true] at bz
    clear ht
    go_wp2_with fail
    refine (HF1.out _ HI.out.2).mono ?_
    rintro e w5 ⟨rfl,hb5⟩
    have H5:Hid (Bx w5 w.heap.size (.int .i64 (n:Int)) (.slice (some ⟨bk,off,none⟩) n d)∧Below w.heap.size w w5):=⟨HI.out.1.below hb5,HI.out.2.trans (hb5.mono HI.out.2.size)⟩
    clear hb5
    go_wp2
    go_roundw
    case rel=>exact ⟨b+1,by omega,by omega,by go_num,by rw [HN2.out,←HCAT.out],H5.out⟩
    case measure=>simp [intOf];omega
def offA (n:Nat):Nat→Nat
 | 0=>0
 | a+1=>offA n a+(n-1-a)
theorem offA_all:∀n:Fin 9,∀a:Fin 9,a.val<n.val→offA n.val a.val+(n.val-1-a.val)≤n.val*(n.val-1)/2:=by decide +kernel
theorem offA_end:∀n:Fin 9,offA n.val n.val=n.val*(n.val-1)/2:=by decide +kernel
theorem offA_le {n a b:Nat} (h:a≤b):offA n a≤offA n b:=by
 induction b with
 | zero=>
      obtain rfl:a=0:=by omega
      exact Nat.le_refl _
 | succ b ih=>
  rcases Nat.lt_or_ge b a with h1|h1
  ·obtain rfl:a=b+1:=by omega
   exact Nat.le_refl _
  ·exact Nat.le_trans (ih h1) (Nat.le_add_right _ _)
def oneG (g:List UInt8) (i:Nat):Bool:=g.getD i 0==49
def rowP (g:List UInt8) (o a:Nat) (xs:List Int):Nat→List Int
 | 0=>xs
 | k+1=>if oneG g (o+k) then (rowP g o a xs k).set a (orN ((rowP g o a xs k).getD a 0) (a+1+k)) else (rowP g o a xs k).set (a+1+k) (orN ((rowP g o a xs k).getD (a+1+k) 0) a)
def allP (g:List UInt8) (n:Nat):Nat→List Int
 | 0=>List.replicate n 0
 | a+1=>rowP g (offA n a) a (allP g n a) (n-1-a)
theorem rowP_len (g:List UInt8) (o a:Nat) (xs:List Int):∀k,(rowP g o a xs k).length=xs.length
 | 0=>rfl
 | k+1=>by
  rw [rowP]
  split<;>rw [List.length_set,rowP_len g o a xs k]
theorem allP_len (g:List UInt8) (n:Nat):∀a,(allP g n a).length=n
 | 0=>by simp [allP]
 | a+1=>by rw [allP,rowP_len,allP_len g n a]
theorem orN_lt {v:Int}{b n:Nat} (h1:0≤v∧v<2^n) (hb:b<n):0≤orN v b∧orN v b<2^n:=by
 have h2:v.toNat<2^n:=by
  have:((v.toNat:Nat):Int)<((2^n:Nat):Int):=by rw [Int.toNat_of_nonneg h1.1,Int.natCast_pow];exact h1.2
  exact Int.ofNat_lt.1 this
 have h3:v.toNat ||| 2^b<2^n:=Nat.or_lt_two_pow h2 (Nat.pow_lt_pow_right (by omega) hb)
 refine ⟨by unfold orN;omega,?_⟩
 have:=Int.ofNat_lt.2 h3
 rw [Int.natCast_pow] at this
 exact this
theorem set_lt {xs:List Int}{i n:Nat}{z:Int} (h:∀y∈xs,0≤y∧y<2^n) (hz:0≤z∧z<2^n):∀y∈xs.set i z,0≤y∧y<2^n:=fun y hy=>by
 rcases List.mem_or_eq_of_mem_set hy with h1|h1
 ·exact h y h1
 ·rw [h1];exact hz
theorem getD_lt {xs:List Int}{i n:Nat} (h:∀y∈xs,0≤y∧y<2^n):0≤xs.getD i 0∧xs.getD i 0<2^n:=by
 rw [List.getD_eq_getElem?_getD]
 cases e:xs[i]? with
 | none=>exact ⟨by simp,by have:(0:Int)<2^n:=Int.pow_pos (by omega);simpa using this⟩
 | some y=>exact h y (List.mem_of_getElem? e)
theorem rowP_lt {g:List UInt8}{o a n:Nat}{xs:List Int} (h:∀y∈xs,0≤y∧y<2^n) (ha:a<n):∀k,k≤n-1-a→∀y∈rowP g o a xs k,0≤y∧y<2^n
 | 0,_=>h
 | k+1,hk=>by
  have ih:=rowP_lt (g:=g) (o:=o) h ha k (by omega)
  rw [rowP]
  split
  ·exact set_lt ih (orN_lt (getD_lt ih) (by omega))
  ·exact set_lt ih (orN_lt (getD_lt ih) (by omega))
theorem allP_lt (g:List UInt8) (n:Nat):∀a,a≤n→∀y∈allP g n a,0≤y∧y<2^n
 | 0,_=>fun y hy=>by
  rw [allP,List.mem_replicate] at hy
  have:(0:Int)<2^n:=Int.pow_pos (by omega)
  omega
 | a+1,ha=>rowP_lt (allP_lt g n a (by omega)) (by omega) _ (Nat.le_refl _)
theorem bt_or {xs:List Int}{p q:Nat} (hp:p<xs.length) (i j:Nat):bt (xs.set p (orN (xs.getD p 0) q)) i j=if i=p then (bt xs p j || decide (q=j)) else bt xs i j:=by
 unfold bt
 by_cases h:i=p
 ·subst h
  rw [if_pos rfl,List.getD_eq_getElem?_getD,List.getElem?_set_self hp]
  show (orN (xs.getD i 0) q).toNat.testBit j=_
  rw [orN,Int.toNat_natCast,Nat.testBit_or,Nat.testBit_two_pow]
 ·rw [if_neg h,List.getD_eq_getElem?_getD,List.getElem?_set_ne (Ne.symm h),List.getD_eq_getElem?_getD]
def bitP (g:List UInt8) (n i j:Nat):Bool:=if i<j then oneG g (offA n i+(j-1-i)) else if j<i then !oneG g (offA n j+(i-1-j)) else false
def decP (a k i j:Nat):Bool:=decide ((i<a∨j<a)∨(i=a∧j<a+1+k)∨(j=a∧i<a+1+k))
theorem rowP_bt {g:List UInt8}{a n:Nat}{xs:List Int} (hl:xs.length=n) (ha:a<n) (h:∀i j,i<n→j<n→bt xs i j=(decP a 0 i j && bitP g n i j)):
  ∀k,k≤n-1-a→∀i j,i<n→j<n→bt (rowP g (offA n a) a xs k) i j=(decP a k i j && bitP g n i j)
 | 0,_=>h
 | k+1,hk=>fun i j hi hj=>by
  have ih:=rowP_bt hl ha h k (by omega)
  have hlen:=rowP_len g (offA n a) a xs k
  have same:¬((i=a∧j=a+1+k)∨(j=a∧i=a+1+k))→decP a (k+1) i j=decP a k i j:=fun hne=>by
   unfold decP
   exact decide_eq_decide.2 (by omega)
  have d1:decP a (k+1) a (a+1+k)=true:=by unfold decP;exact decide_eq_true (by omega)
  have d2:decP a (k+1) (a+1+k) a=true:=by unfold decP;exact decide_eq_true (by omega)
  have d3:decP a k a (a+1+k)=false:=by unfold decP;exact decide_eq_false (by omega)
  have d4:decP a k (a+1+k) a=false:=by unfold decP;exact decide_eq_false (by omega)
  have b1:bitP g n a (a+1+k)=oneG g (offA n a+k):=by
   unfold bitP;rw [if_pos (by omega)];congr 2;omega
  have b2:bitP g n (a+1+k) a = !oneG g (offA n a+k):=by
   unfold bitP;rw [if_neg (by omega),if_pos (by omega)];congr 3;omega
  rw [rowP]
  cases hc:oneG g (offA n a+k)
  ·simp only [Bool.false_eq_true,if_false]
   rw [bt_or (by rw [hlen];omega)]
   by_cases e1:i=a+1+k
   ·subst e1
    rw [if_pos rfl,ih _ _ hi hj]
    by_cases e2:a=j
    ·subst e2;rw [d2,d4,b2,hc];simp
    ·rw [same (by omega)];simp [e2]
   ·rw [if_neg e1,ih _ _ hi hj]
    by_cases e2:i=a∧j=a+1+k
    ·obtain ⟨rfl,rfl⟩:=e2;rw [d1,d3,b1,hc];rfl
    ·rw [same (by omega)]
  ·simp only [if_true]
   rw [bt_or (by rw [hlen];omega)]
   by_cases e1:i=a
   ·subst e1
    rw [if_pos rfl,ih _ _ hi hj]
    by_cases e2:i+1+k=j
    ·subst e2;rw [d1,d3,b1,hc];simp
    ·rw [same (by omega)];simp [e2]
   ·rw [if_neg e1,ih _ _ hi hj]
    by_cases e2:j=a∧i=a+1+k
    ·obtain ⟨rfl,rfl⟩:=e2;rw [d2,d4,b2,hc];rfl
    ·rw [same (by omega)]
theorem allP_bt (g:List UInt8) (n:Nat):∀a,a≤n→∀i j,i<n→j<n→bt (allP g n a) i j=(decide (i<a∨j<a) && bitP g n i j)
 | 0,_=>fun i j _ _=>by
  rw [decide_eq_false (by omega),Bool.false_and,allP,bt,List.getD_eq_getElem?_getD,List.getElem?_replicate]
  split<;>simp
 | a+1,ha=>fun i j hi hj=>by
  have ih:=allP_bt g n a (by omega)
  rw [allP,rowP_bt (allP_len g n a) (by omega) (fun i j hi hj=>by
   rw [ih i j hi hj]
   by_cases e:i=a∧j=a
   ·obtain ⟨rfl,rfl⟩:=e
    have:∀q,bitP g n q q=false:=fun q=>by unfold bitP;rw [if_neg (by omega),if_neg (by omega)]
    rw [this,Bool.and_false,Bool.and_false]
   ·congr 1;unfold decP;exact decide_eq_decide.2 (by omega)) _ (Nat.le_refl _) i j hi hj]
  congr 1
  unfold decP
  exact decide_eq_decide.2 (by omega)
theorem allP_bits {g:List UInt8}{n i j:Nat} (hi:i<n) (hj:j<n):bt (allP g n n) i j=bitP g n i j:=by
 rw [allP_bt g n n (Nat.le_refl _) i j hi hj,decide_eq_true (.inl hi),Bool.true_and]
theorem allP_tour {g:List UInt8}{n:Nat} (h1:1≤n) (h8:n≤8):tourB ⟨(n:Int),allP g n n⟩=true:=by
 have hl:=allP_len g n n
 unfold tourB
 show (inB (n:Int) 1 8 && (decide (((allP g n n).length:Int)=(n:Int)) && (winsB (allP g n n).length (allP g n n) && (List.range (allP g n n).length).all (rowB (allP g n n)))))=true
 rw [hl,inB_mk (by omega) (by omega),decide_eq_true rfl,Bool.true_and,Bool.true_and]
 rw [Bool.and_eq_true]
 constructor
 ·rw [winsB,List.all_eq_true]
  intro y hy
  have:=allP_lt g n n (Nat.le_refl _) y hy
  exact inB_mk this.1 (by omega)
 ·rw [List.all_eq_true]
  intro a ha
  rw [List.mem_range] at ha
  unfold rowB
  rw [Bool.and_eq_true]
  constructor
  ·rw [List.all_eq_true]
   intro b hb
   rw [List.mem_range] at hb
   rw [allP_bits ha (by omega),allP_bits (by omega) ha]
   unfold bitP
   rw [if_neg (by omega),if_pos hb,if_pos hb]
   cases oneG g (offA n b+(a-1-b))<;>rfl
  ·rw [allP_bits ha ha]
   unfold bitP
   rw [if_neg (by omega),if_neg (by omega)]
   rfl
theorem rowD_get (x:TourV) (a:Nat):∀b k,a+1+k<b→(rowD x a b)[k]? = some (digB (bt x.wins a (a+1+k)))
 | 0,k,h=>by omega
 | b+1,k,h=>by
  have hlen:∀b,(rowD x a b).length=b-(a+1):=fun b=>by
   induction b with
   | zero=>simp [rowD]
   | succ b ih=>
    rw [rowD]
    split
    ·rw [List.length_append,ih];simp;omega
    ·rw [ih];omega
  rw [rowD_succ (by omega)]
  rcases Nat.lt_or_ge (a+1+k) b with h1|h1
  ·rw [List.getElem?_append_left (by rw [hlen];omega)]
   exact rowD_get x a b k h1
  ·obtain rfl:b=a+1+k:=by omega
   rw [List.getElem?_append_right (by rw [hlen];omega),hlen]
   have:k-(a+1+k-(a+1))=0:=by omega
   rw [this];rfl
theorem rowD_length (x:TourV) (a:Nat):∀b,(rowD x a b).length=b-(a+1)
 | 0=>by simp [rowD]
 | b+1=>by
  have ih:=rowD_length x a b
  rw [rowD]
  split
  ·rw [List.length_append,ih];simp;omega
  ·rw [ih];omega
theorem allD_length (x:TourV) (n:Nat):∀a,(allD x n a).length=offA n a
 | 0=>rfl
 | a+1=>by rw [allD,List.length_append,allD_length x n a,rowD_length,offA];omega
theorem allD_get (x:TourV) (n:Nat):∀m,m≤n→∀a k,a<m→a+1+k<n→(allD x n m)[offA n a+k]? = some (digB (bt x.wins a (a+1+k)))
 | 0,_,a,k,h,_=>by omega
 | m+1,hm,a,k,h,hk=>by
  rw [allD]
  rcases Nat.lt_or_ge a m with h1|h1
  ·have h2:offA n (a+1)≤offA n m:=offA_le h1
   rw [offA] at h2
   rw [List.getElem?_append_left (by rw [allD_length];omega)]
   exact allD_get x n m (by omega) a k h1 hk
  ·obtain rfl:a=m:=by omega
   rw [List.getElem?_append_right (by rw [allD_length];omega),allD_length]
   have:offA n a+k-offA n a=k:=by omega
   rw [this]
   exact rowD_get x a n k hk
theorem digB_one (b:Bool):(digB b==49)=b:=by cases b<;>rfl
theorem oneG_all {x:TourV}{n a k:Nat} (ha:a<n) (hk:a+1+k<n):oneG (allD x n n) (offA n a+k)=bt x.wins a (a+1+k):=by
 unfold oneG
 rw [List.getD_eq_getElem?_getD,allD_get x n n (Nat.le_refl _) a k ha hk]
 exact digB_one _
theorem bt_lt {xs:List Int}{n a j:Nat} (hw:winsB n xs=true) (hj:n≤j):bt xs a j=false:=by
 unfold bt
 rw [List.getD_eq_getElem?_getD]
 cases e:xs[a]? with
 | none=>simp
 | some y=>
  have h:=inB_t.1 (List.all_eq_true.1 hw y (List.mem_of_getElem? e))
  refine Nat.testBit_lt_two_pow ?_
  have h3:((y.toNat:Nat):Int)<((2^j:Nat):Int):=by
   rw [Int.toNat_of_nonneg h.1,Int.natCast_pow]
   show y<(2:Int)^j
   have h4:(2:Int)^n≤2^j:=by
    have:=Nat.pow_le_pow_right (show 0<2 by omega) hj
    have:=Int.ofNat_le.2 this
    rw [Int.natCast_pow,Int.natCast_pow] at this
    exact this
   omega
  exact Int.ofNat_lt.1 h3
theorem allP_back {x:TourV} (h:tourB x=true):allP (allD x x.wins.length x.wins.length) x.wins.length x.wins.length=x.wins:=by
 obtain ⟨t1,t2,t3,t4,t5⟩:=tourB_t h
 have hl:=allP_len (allD x x.wins.length x.wins.length) x.wins.length x.wins.length
 refine List.ext_getElem? fun i=>?_
 rcases Nat.lt_or_ge i x.wins.length with hi|hi
 ·have e1:=List.getElem?_eq_getElem (l:=x.wins) hi
  have e2:=List.getElem?_eq_getElem (l:=allP (allD x x.wins.length x.wins.length) x.wins.length x.wins.length) (by rw [hl];exact hi)
  rw [e1,e2]
  have p1:=inB_t.1 (List.all_eq_true.1 t4 _ (List.mem_of_getElem? e1))
  have p2:=allP_lt (allD x x.wins.length x.wins.length) x.wins.length _ (Nat.le_refl _) _ (List.mem_of_getElem? e2)
  have hb:∀j,bt (allP (allD x x.wins.length x.wins.length) x.wins.length x.wins.length) i j=bt x.wins i j:=fun j=>by
   rcases Nat.lt_or_ge j x.wins.length with hj|hj
   ·rw [allP_bits hi hj]
    unfold bitP
    have anti:∀a b,b<a→a<x.wins.length→bt x.wins a b = !bt x.wins b a:=fun a b hba hal=>by
     have:=t5 a hal
     unfold rowB at this
     rw [Bool.and_eq_true,List.all_eq_true] at this
     have:=this.1 b (List.mem_range.2 hba)
     cases h1:bt x.wins a b<;>cases h2:bt x.wins b a<;>rw [h1,h2] at this<;>first|rfl|cases this
    by_cases c1:i<j
    ·rw [if_pos c1,oneG_all hi (by omega)]
     congr 1;omega
    ·rw [if_neg c1]
     by_cases c2:j<i
     ·rw [if_pos c2,oneG_all hj (by omega),anti i j c2 hi]
      congr 2;omega
     ·rw [if_neg c2]
      obtain rfl:i=j:=by omega
      have:=t5 i hi
      unfold rowB at this
      rw [Bool.and_eq_true] at this
      cases h1:bt x.wins i i
      ·rfl
      ·rw [h1] at this;cases this.2
   ·rw [bt_lt t4 hj]
    refine bt_lt (n:=x.wins.length) ?_ hj
    rw [winsB,List.all_eq_true]
    intro y hy
    have:=allP_lt (allD x x.wins.length x.wins.length) x.wins.length _ (Nat.le_refl _) y hy
    exact inB_mk this.1 (by omega)
  congr 1
  have q:=Nat.eq_of_testBit_eq (x:=((allP (allD x x.wins.length x.wins.length) x.wins.length x.wins.length)[i]'(by rw [hl];exact hi)).toNat) (y:=(x.wins[i]).toNat) (fun j=>by
   have:=hb j
   unfold bt at this
   rw [List.getD_eq_getElem?_getD,List.getD_eq_getElem?_getD,e1,e2] at this
   exact this)
  omega
 ·rw [List.getElem?_eq_none hi,List.getElem?_eq_none (by rw [hl];exact hi)]
theorem ixB_at:∀(u g:List UInt8),(58:UInt8) ∉ u→Lib.indexByte (u++58 :: g) 58=(u.length:Int)
 | [],g,_=>by simp [Lib.indexByte]
 | c :: r,g,h=>by
  have h1:c≠58:=fun e=>h (by rw [e];exact List.mem_cons_self ..)
  have h2:=ixB_at r g (fun e=>h (List.mem_cons_of_mem _ e))
  simp only [List.cons_append,Lib.indexByte,h2,List.length_cons]
  simp [h1]
theorem cut_at (u g:List UInt8) (h:(58:UInt8) ∉ u):Lib.cut (u++58 :: g) [58]=(u,g,true):=by
 have hi:Lib.index (u++58 :: g) [58]=(u.length:Int):=by rw [Lib.index_one,ixB_at u g h]
 unfold Lib.cut
 rw [hi,if_pos (Int.natCast_nonneg _),Int.toNat_natCast]
 have e1:(u++58 :: g).take u.length=u:=by simp
 have e2:(u++58 :: g).drop (u.length + [(58:UInt8)].length)=g:=by simp [List.drop_append]
 rw [e1,e2]
def sizeP (s:List UInt8):Int:=(numOf (Lib.cut s [58]).1).getD 0
def gamesP (s:List UInt8):List UInt8:=(Lib.cut s [58]).2.1
def tourP (s:List UInt8):TourV:=⟨sizeP s,allP (gamesP s) (sizeP s).toNat (sizeP s).toNat⟩
def parF (s:List UInt8):Option TourV:=if inB (sizeP s) 1 8 && decide (((gamesP s).length:Int)=sizeP s*(sizeP s-1)/2) then if tourText (tourP s)=s then some (tourP s) else none else none
theorem numOf_8:∀n:Fin 9,numOf (Lib.itoa (n.val:Int))=some (n.val:Int)∧(58:UInt8) ∉ Lib.itoa (n.val:Int):=by decide +kernel
theorem parF_iff {s:List UInt8}{x:TourV}:parF s=some x↔tourB x=true∧tourText x=s:=by
 constructor
 ·intro h
  unfold parF at h
  split at h
  ·rename_i hc
   rw [Bool.and_eq_true] at hc
   obtain ⟨c1,c2⟩:=inB_t.1 hc.1
   split at h
   ·rename_i ht
    injection h with h
    subst h
    refine ⟨?_,ht⟩
    have:=allP_tour (g:=gamesP s) (n:=(sizeP s).toNat) (by omega) (by omega)
    rw [Int.toNat_of_nonneg (by omega)] at this
    exact this
   ·cases h
  ·cases h
 ·rintro ⟨h1,h2⟩
  obtain ⟨t1,t2,t3,t4,t5⟩:=tourB_t h1
  have hn:=numOf_8 ⟨x.size.toNat,by omega⟩
  simp only [Int.toNat_of_nonneg (show 0≤x.size by omega)] at hn
  have hs:s=Lib.itoa x.size++58 :: allD x x.wins.length x.wins.length:=by
   rw [←h2,tourText,if_pos h1,headD,List.append_assoc];rfl
  have hcut:=cut_at (Lib.itoa x.size) (allD x x.wins.length x.wins.length) hn.2
  rw [←hs] at hcut
  have e1:sizeP s=x.size:=by unfold sizeP;rw [hcut,hn.1];rfl
  have e2:gamesP s=allD x x.wins.length x.wins.length:=by unfold gamesP;rw [hcut]
  have hxs:x.size.toNat=x.wins.length:=by omega
  have e3:tourP s=x:=by
   unfold tourP
   rw [e1,e2,hxs,allP_back h1]
  unfold parF
  rw [e3,e1,e2,allD_length,if_pos h2,if_pos]
  rw [Bool.and_eq_true]
  refine ⟨inB_mk t1 t2,decide_eq_true ?_⟩
  have:=offA_end ⟨x.wins.length,by omega⟩
  simp only at this
  rw [this,←t3]
  have:∀n:Fin 9,((n.val*(n.val-1)/2:Nat):Int)=(n.val:Int)*((n.val:Int)-1)/2:=by decide +kernel
  exact this ⟨x.wins.length,by omega⟩
end Go.Proofs.YtkapoldjcpfdgaaGreatDoor
