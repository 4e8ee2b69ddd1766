/- The line of scores: both packages' contracts. -/
import Derived.Test.YtkapoldjcpfdgaaGreatDoorMas
set_option maxHeartbeats 4000000
set_option maxRecDepth 100000
namespace Go.Proofs.YtkapoldjcpfdgaaGreatDoor
open Go.ChangeShapes Go.WideShapes Go.ChangeAt Go.RowKit
structure PtAt (w0 wr:World) (x:TourV) (j k:Nat) (vv:Value) (L:List Int):Prop where
 fr:Fr wr w0.heap.size wr.heap.size vv L
 be:Below w0.heap.size w0 wr
 klt:k<2^x.wins.length
 cl:Cl x k
 len:L.length=clN x k
 vis:∀i y,j≤i→(byL x)[i]? = some (y:Int)→k.testBit y.toNat=true
 l8:L.length+j≤8
theorem PtAt.below {w0 wr w2:World}{x:TourV}{j k:Nat}{vv:Value}{L:List Int} (h:PtAt w0 wr x j k vv L) (hb:Below wr.heap.size wr w2):PtAt w0 w2 x j k vv L:=
 ⟨(h.fr.grow hb).wide (Nat.le_refl _) hb.size (Nat.le_refl _),h.be.trans (hb.mono h.be.size),h.klt,h.cl,h.len,h.vis,h.l8⟩
theorem PtAt.start {w0:World}{x:TourV} (hn:x.wins.length≤8):PtAt w0 w0 x x.wins.length 0 (.slice none 0 0) []:=
 ⟨Fr.nil _ (Nat.le_refl _),Below.refl _ _,Nat.pow_pos (by omega),cl_zero x,by rw [clN_zero];rfl,fun i y h1 h2=>by
  have:=(List.getElem?_eq_some_iff.1 h2).1
  rw [byL_len] at this;omega,by simpa using hn⟩
theorem PtAt.more {w0 wr w2:World}{x:TourV}{j k p:Nat}{y:Int}{vv v2:Value}{L:List Int} (hok:tourB x=true) (h:PtAt w0 wr x (j+1) k vv L) (hp:(byL x)[j]? = some (p:Int)) (hpk:k.testBit p=false)
  (hown:w2.ownsRow w0.heap.size 3 1 v2 (L.length+1) (ints (L++[y]))) (hb2:∀B,B≤w0.heap.size→B≤wr.heap.size→Below B wr w2):PtAt w0 w2 x j (k ||| reachF x p) v2 (L++[y]):=by
 have hpl:=byL_mem.1 (List.mem_of_getElem? hp)
 obtain ⟨r1,r2,r3⟩:=reach_ok hok (show p<x.wins.length by omega)
 refine ⟨Fr.of_own (by simpa using hown),h.be.trans (hb2 _ (Nat.le_refl _) h.be.size),Nat.or_lt_two_pow h.klt r3,cl_or h.cl r1,?_,?_,?_⟩
 ·rw [parts_more hok (L:=byL x) (fun y=>byL_mem) (insF_desc _ _) h.klt h.cl hp hpk (fun i y h1 h2=>h.vis i y (by omega) h2),List.length_append,h.len];rfl
 ·intro i y h1 h2
  rw [Nat.testBit_or,Bool.or_eq_true]
  rcases Nat.eq_or_lt_of_le h1 with rfl|h1
  ·rw [hp] at h2
   rw [←Option.some.inj h2,Int.toNat_natCast];exact .inr r2
  ·exact .inl (h.vis i y (by omega) h2)
 ·have:=h.l8
  rw [List.length_append];simp;omega
theorem PtAt.same {w0 wr:World}{x:TourV}{j k p:Nat}{vv:Value}{L:List Int} (h:PtAt w0 wr x (j+1) k vv L) (hp:(byL x)[j]? = some (p:Int)) (hpk:k.testBit p=true):PtAt w0 wr x j k vv L:=by
 refine ⟨h.fr,h.be,h.klt,h.cl,h.len,?_,by have:=h.l8;omega⟩
 intro i y h1 h2
 rcases Nat.eq_or_lt_of_le h1 with rfl|h1
 ·rw [hp] at h2
  rw [←Option.some.inj h2,Int.toNat_natCast];exact hpk
 ·exact h.vis i y (by omega) h2
theorem PtAt.all {w0 wr:World}{x:TourV}{k:Nat}{vv:Value}{L:List Int} (h:PtAt w0 wr x 0 k vv L):L.length=partN x:=by
 have e:k=2^x.wins.length-1:=all_eq h.klt (fun i hi=>by
  obtain ⟨q,hq,e⟩:=List.mem_iff_getElem.1 ((byL_mem (x:=x) (y:=(i:Int))).2 ⟨by omega,by omega⟩)
  have:=h.vis q (i:Int) (Nat.zero_le _) (by rw [←e];exact List.getElem?_eq_getElem hq)
  rwa [Int.toNat_natCast] at this)
 rw [h.len,e];rfl
theorem implParts_any (v:Value) (x:TourV) (w:World) (hs:InT w v x) (hok:tourB x=true):
  Calls Tryz.prog 256 #[v] w fun e w'=>∃v' L,e=.returned v'∧Fr w' w.heap.size w'.heap.size v' L∧L.length=partN x∧Below w.heap.size w w':=by
 have HIT:=Lib.hid hs
 have HOK:=Lib.hid hok
 obtain ⟨u,rfl,A,c,rfl,hc,hm,hsl⟩:=hs
 obtain ⟨t1,t2,t3,_,_⟩:=tourB_t hok
 have hn8:x.wins.length≤8:=by omega
 have hn1:1≤x.wins.length:=by omega
 have HBY:Hid (∀W,Below w.heap.size w W→Calls Tryz.prog 330 #[.agg #[.int .i64 x.size,.slice A x.wins.length c]] W fun e w'=>∃v',e=.returned v'∧Fr w' W.heap.size w'.heap.size v' (byL x)∧Below W.heap.size W w'):=fun W hW=>byScore_any _ x W (HIT.out.below hW) HOK.out
 have HRE:Hid (∀W (a:Nat),Below w.heap.size w W→a<x.wins.length→Calls Tryz.prog 331 #[.agg #[.int .i64 x.size,.slice A x.wins.length c],.int .i64 (a:Int)] W fun e w'=>e=.returned (.int .i64 (reachF x a:Nat))∧Below W.heap.size W w'):=fun W a hW ha=>implReach_any _ x a W (HIT.out.below hW) HOK.out ha
 have h256:(2:Nat)^x.wins.length≤256:=Nat.pow_le_pow_right (by omega) hn8
 have HN:Hid ((2:Nat)^x.wins.length≤256):=h256
 have HBL:=Lib.hid (byL_len x)
 have HBX:Hid (Bx (w.alloc (.cells #[.int .i64 x.size,.slice A x.wins.length c] 27)) w.heap.size (.int .i64 x.size) (.slice A x.wins.length c)∧Below w.heap.size w (w.alloc (.cells #[.int .i64 x.size,.slice A x.wins.length c] 27))∧w.heap.size<(w.alloc (.cells #[.int .i64 x.size,.slice A x.wins.length c] 27)).heap.size):=⟨⟨by simp,by simp,by simp⟩,(Below.refl _ w).alloc (Nat.le_refl _) _,by simp⟩
 clear hsl h256 hok t1 t2 t3
 go_enter Tryz.func256,Tryz.ntmps256
 go_wp2_with (go_at_call 330;refine (HBY.out _ HBX.out.2.1).mono ?_;rintro e w1 ⟨v1,rfl,hf,hb⟩;obtain ⟨gi,ci,rfl,hi1,hi2⟩:=hf.someC (by rw [HBL.out];omega);rw [HBL.out];have H1:Hid (Bx w1 w.heap.size (.int .i64 x.size) (.slice A x.wins.length c)∧Below w.heap.size w w1∧w.heap.size<w1.heap.size∧SlI w1 (some ⟨gi,0,none⟩) (byL x)∧gi<w1.heap.size):=(show _∧_ from ⟨HBX.out.1.below hb,HBX.out.2.1.trans (hb.mono (Nat.le_of_lt HBX.out.2.2)),Nat.lt_of_lt_of_le HBX.out.2.2 hb.size,hf.sl,hi2⟩);clear hf hb hi1 hi2 HBX)
 go_loopw [3,4,6] (fun o k i wr=>∃(j K:Nat) (vv:Value) (L:List Int),j≤x.wins.length∧i=.int .i64 ((j:Int)-1)∧k=.int .i64 (K:Int)∧vv=o∧Hid (PtAt w1 wr x j K vv L)) (fun _ _ i _=>((intOf i)+1).toNat)
 case atStart=>exact ⟨x.wins.length,0,_,[],Nat.le_refl _,rfl,rfl,rfl,PtAt.start hn8⟩
 case round=>
  obtain ⟨j,K,vv,L,hj,rfl,rfl,rfl,HR⟩:=hrel
  cases j with
  | zero=>
   have HAL:Hid (L.length=partN x):=HR.out.all
   have hpos:0<L.length:=by rw [HAL.out];exact partN_pos HOK.out
   obtain ⟨go,co,rfl,hg1,hg2⟩:=HR.out.fr.someC hpos
   have hl8:L.length≤8:=by have:=HR.out.l8;omega
   have HRV:=Lib.hid (reverseI_any go L.length co w1.heap.size wr.heap.size 0 co L wr rfl (by omega) HR.out.fr (Nat.zero_le _))
   clear hg1 hg2
   go_wp2_with (go_at_call 265;refine HRV.out.mono ?_;rintro e w5 ⟨rfl,hf5,kp5⟩;have H5:=Lib.hid (And.intro hf5 kp5);clear hf5 kp5)
   go_ret
   have hw1:=H1.out.2.2.1
   exact ⟨_,_,rfl,H5.out.1.wide (by omega) H5.out.2.size (Nat.le_refl _),by rw [←HAL.out];simp,(H1.out.2.1.trans (HR.out.be.mono (by omega))).trans (H5.out.2.below (by omega) (by have:=HR.out.be.size;omega))⟩
  | succ j=>
   obtain ⟨bg,og,y,eg,ey,cy,-⟩:=H1.out.2.2.2.1.at_ (k:=j) (by rw [HBL.out];omega)
   injection eg with eg;injection eg with e1 e2;subst e1;subst e2
   obtain ⟨y0,y1⟩:=byL_mem.1 (List.mem_of_getElem? ey)
   obtain ⟨p,rfl⟩:=Int.eq_ofNat_of_zero_le y0
   have HEY:=Lib.hid ey
   have hpn:p<x.wins.length:=by omega
   rw [Nat.zero_add] at cy
   have HCL:Hid (∀W,Below w1.heap.size w1 W→W.cell? ⟨w.heap.size,0,none⟩=some (.int .i64 x.size)∧W.cell? ⟨w.heap.size,1,none⟩=some (.slice A x.wins.length c)∧W.cell? ⟨gi,j,none⟩=some (.int .i64 (p:Int))):=by
    intro W hW
    obtain ⟨r0,r1,_⟩:=H1.out.1.below hW
    exact ⟨r0,r1,(hW.cell (p:=⟨gi,j,none⟩) H1.out.2.2.2.2).trans cy⟩
   have HRP:Hid (∀W,Below w.heap.size w W→Calls Tryz.prog 331 #[.agg #[.int .i64 x.size,.slice A x.wins.length c],.int .i64 (p:Int)] W fun e w'=>e=.returned (.int .i64 (reachF x p:Nat))∧Below W.heap.size W w'):=fun W hW=>HRE.out W p hW hpn
   have HR256:Hid (reachF x p<256):=Nat.lt_of_lt_of_le (reach_ok HOK.out hpn).2.2 HN.out
   have hK256:K<256:=Nat.lt_of_lt_of_le HR.out.klt HN.out
   have HW1:Hid (Below w1.heap.size w1 wr.drew):=below_drewL HR.out.be
   have HW0:Hid (Below w.heap.size w wr.drew):=H1.out.2.1.trans (HW1.out.mono (Nat.le_of_lt H1.out.2.2.1))
   have HRD:Hid (PtAt w1 wr.drew x (j+1) K vv L):=HR.out.below (below_drewL (Below.refl _ _))
   obtain ⟨q0,q1,qy⟩:=HCL.out wr HR.out.be
   have j0:(0:Int)≤(j:Int):=by omega
   have j1:(j:Int)<x.wins.length:=by omega
   have je:((j+1:Nat):Int)-1=(j:Int):=by omega
   rw [je]
   have hbb:=bits_low (k:=p) hK256
   have hp64:(p:Int)<64:=by omega
   clear ey cy je
   cases hbit:K.testBit p
   ·rw [hbit] at hbb
    simp only [Bool.false_eq_true,if_false] at hbb
    have hor:=or_small hK256 HR256.out
    have han:=andNot_small HR256.out hK256
    have HPM:Hid (∀(y:Int) (w2 w3:World) (v3:Value),PtAt w1 w2 x (j+1) K vv L→w3.ownsRow w1.heap.size 3 1 v3 (L.length+1) (ints (L++[y]))→(∀B,B≤w1.heap.size→B≤w2.heap.size→Below B w2 w3)→PtAt w1 w3 x j (K ||| reachF x p) v3 (L++[y])):=fun y w2 w3 v3 h2 ho hb=>h2.more HOK.out HEY.out hbit ho hb
    have hl8:L.length≤1048576:=by have:=HR.out.l8;omega
    clear hbit
    generalize reachF x p=S at *
    generalize hKS:K ||| S=KS at *
    obtain ⟨Y,hY⟩:∃Y:Nat,S &&& (255 ^^^ K)=Y:=⟨_,rfl⟩
    rw [hY] at han
    clear hKS hY
    go_wp2_with fail
    go_region_held3 (fun W=>W.cell? ⟨w.heap.size,0,none⟩=some (.int .i64 x.size)∧W.cell? ⟨w.heap.size,1,none⟩=some (.slice A x.wins.length c)∧W.cell? ⟨gi,j,none⟩=some (.int .i64 (p:Int))) (first|exact ⟨q0,q1,qy⟩|exact HCL.out _ H4.out.be) (first|(go_at_call 331;refine (HRP.out _ HW0.out).mono ?_;rintro e w4 ⟨rfl,hb⟩;have H4:Hid (PtAt w1 w4 x (j+1) K vv L):=HRD.out.below hb;clear hb))
    clear q0 q1 qy
    obtain ⟨q0,q1,qy⟩:=HCL.out w4 H4.out.be
    go_wp2_with (at_builtin;refine app1 rfl _ _ rfl w4 w1.heap.size vv L.length L rfl H4.out.fr.own (Y:Int) rfl hl8 H4.out.be.size ?_;intro v5 w5 hown hb5 _ _;have H5:=Lib.hid (HPM.out _ _ _ _ H4.out hown hb5);clear hown hb5)
    exact ⟨⟨j,KS,_,_,by omega,rfl,rfl,rfl,H5.out⟩,by simp [intOf]⟩
   ·rw [hbit] at hbb
    simp only [if_true] at hbb
    have HPS:Hid (∀w2,PtAt w1 w2 x (j+1) K vv L→PtAt w1 w2 x j K vv L):=fun w2 h2=>h2.same HEY.out hbit
    clear hbit
    generalize reachF x p=S at *
    go_wp2_with fail
    go_region_held3 (fun W=>W.cell? ⟨w.heap.size,0,none⟩=some (.int .i64 x.size)∧W.cell? ⟨w.heap.size,1,none⟩=some (.slice A x.wins.length c)∧W.cell? ⟨gi,j,none⟩=some (.int .i64 (p:Int))) (first|exact ⟨q0,q1,qy⟩|exact HCL.out _ H4.out.be) (first|(go_at_call 331;refine (HRP.out _ HW0.out).mono ?_;rintro e w4 ⟨rfl,hb⟩;have H4:Hid (PtAt w1 w4 x (j+1) K vv L):=HRD.out.below hb;clear hb))
    clear q0 q1 qy
    obtain ⟨q0,q1,qy⟩:=HCL.out w4 H4.out.be
    go_wp2
    exact ⟨⟨j,K,_,_,by omega,rfl,rfl,rfl,HPS.out _ H4.out⟩,by simp [intOf]⟩
theorem implStrongParts_any (v:Value) (x:TourV) (w:World) (hs:InT w v x) (hok:tourB x=true):
  Calls Tryz.prog 172 #[v] w fun e w'=>∃v' L,e=.returned v'∧Fr w' w.heap.size w'.heap.size v' L∧L.length=partN x∧Below w.heap.size w w':=by
 have HIT:=Lib.hid hs
 have HOK:=Lib.hid hok
 obtain ⟨u,rfl,A,c,rfl,hc,hm,hsl⟩:=hs
 have HTO:Hid (∀W,Below w.heap.size w W→Calls Tryz.prog 148 #[.agg #[.int .i64 x.size,.slice A x.wins.length c]] W fun e w'=>e=.returned (.bool true)∧Below W.heap.size W w'):=fun W hW=>by
  have h:=implTourOk_any _ x W (HIT.out.below hW)
  rwa [HOK.out] at h
 have HPA:Hid (∀W,Below w.heap.size w W→Calls Tryz.prog 256 #[.agg #[.int .i64 x.size,.slice A x.wins.length c]] W fun e w'=>∃v' L,e=.returned v'∧Fr w' W.heap.size w'.heap.size v' L∧L.length=partN x∧Below W.heap.size W w'):=fun W hW=>implParts_any _ x W (HIT.out.below hW) HOK.out
 have HBX:Hid (Bx (w.alloc (.cells #[.int .i64 x.size,.slice A x.wins.length c] 27)) w.heap.size (.int .i64 x.size) (.slice A x.wins.length c)∧Below w.heap.size w (w.alloc (.cells #[.int .i64 x.size,.slice A x.wins.length c] 27))∧w.heap.size<(w.alloc (.cells #[.int .i64 x.size,.slice A x.wins.length c] 27)).heap.size):=⟨⟨by simp,by simp,by simp⟩,(Below.refl _ w).alloc (Nat.le_refl _) _,by simp⟩
 clear hsl hok
 go_enter Tryz.func172,Tryz.ntmps172
 go_wp2_with (first
  | (go_at_call 148;refine (HTO.out _ HBX.out.2.1).mono ?_;rintro e w0 ⟨rfl,hb⟩;have H0:Hid (Bx w0 w.heap.size (.int .i64 x.size) (.slice A x.wins.length c)∧Below w.heap.size w w0∧w.heap.size<w0.heap.size):=(show _∧_ from ⟨HBX.out.1.below hb,HBX.out.2.1.trans (hb.mono (Nat.le_of_lt HBX.out.2.2)),Nat.lt_of_lt_of_le HBX.out.2.2 hb.size⟩);clear hb HBX;obtain ⟨q0,q1,q2⟩:=id H0.out.1)
  | (go_at_call 256;refine (HPA.out _ H0.out.2.1).mono ?_;rintro e w1 ⟨v1,L,rfl,hf,hl,hb⟩;have H1:Hid (Fr w1 w.heap.size w1.heap.size v1 L∧L.length=partN x∧Below w.heap.size w w1):=(show _∧_ from ⟨hf.wide (Nat.le_of_lt H0.out.2.2) (Nat.le_refl _) (Nat.le_refl _),hl,H0.out.2.1.trans (hb.mono (Nat.le_of_lt H0.out.2.2))⟩);clear hf hl hb))
 go_ret
 exact ⟨_,_,rfl,H1.out.1,H1.out.2.1,H1.out.2.2⟩
def scW:List UInt8:=[115,99,111,114,101,115]
def trW:List UInt8:=[116,114,105,97,110,103,108,101,115]
def paW:List UInt8:=[112,97,114,116,115]
def scoreTextT (a b c:List UInt8):List UInt8:=Lib.join [scW,a,trW,b,paW,c] [32]
def scoreText (x:TourV):List UInt8:=if tourB x then scoreTextT (fmtF (scoresL x)) (Lib.itoa (triF x)) (Lib.itoa (partN x:Nat)) else [110,111,110,101]
theorem scoreText_t {x:TourV} (h:tourB x=true):scoreText x=scoreTextT (fmtF (scoresL x)) (Lib.itoa (triF x)) (Lib.itoa (partN x:Nat)):=by rw [scoreText,if_pos h]
theorem scoreText_f {x:TourV} (h:tourB x=false):scoreText x = [110,111,110,101]:=by rw [scoreText,h];rfl
theorem join6 (a b c d e f:List UInt8):Lib.join [a,b,c,d,e,f] [32]=a++[32]++b++[32]++c++[32]++d++[32]++e++[32]++f:=by
 simp [Lib.join_cons,Lib.joinTail,List.append_assoc]
theorem scoreCat (a b c:List UInt8):(((((⟨#[115,99,111,114,101,115,32]⟩:ByteArray)++⟨a.toArray⟩)++⟨#[32,116,114,105,97,110,103,108,101,115,32]⟩)++⟨b.toArray⟩)++⟨#[32,112,97,114,116,115,32]⟩)++⟨c.toArray⟩=⟨(scoreTextT a b c).toArray⟩:=by
 rw [show (⟨#[115,99,111,114,101,115,32]⟩:ByteArray)=⟨([115,99,111,114,101,115,32]:List UInt8).toArray⟩ from rfl,show (⟨#[32,116,114,105,97,110,103,108,101,115,32]⟩:ByteArray)=⟨([32,116,114,105,97,110,103,108,101,115,32]:List UInt8).toArray⟩ from rfl,show (⟨#[32,112,97,114,116,115,32]⟩:ByteArray)=⟨([32,112,97,114,116,115,32]:List UInt8).toArray⟩ from rfl,bcat,bcat,bcat,bcat,bcat,scoreTextT,join6]
 simp [scW,trW,paW]
theorem scoresL_wf (x:TourV):wfI (scoresL x):=by
 intro y hy
 have:=scoresL_bd y hy
 omega
theorem scores_fmt {x:TourV} (h:x.wins.length≤8):(fmtF (scoresL x)).length≤200:=by
 have hw:=scoresL_wf x
 have hl:=scoresL_len x
 unfold fmtF
 split
 ·simp
 ·have:=fmt_bound hw;omega
theorem triF_bd {x:TourV} (h:x.wins.length≤8):-224≤triF x∧triF x≤56:=by
 have:=triT_bd h x.wins.length
 unfold triF
 omega
theorem join6_any (w:World) (T1 T2 T3:List UInt8) (h1:T1.length≤200) (h2:T2.length≤200) (h3:T3.length≤200):
  Calls Tryz.prog 11 #[.slice (some ⟨w.heap.size,0,none⟩) 6 6,.string ⟨#[32]⟩] (w.alloc (.cells #[.string ⟨#[115,99,111,114,101,115]⟩,.string ⟨T1.toArray⟩,.string ⟨#[116,114,105,97,110,103,108,101,115]⟩,.string ⟨T2.toArray⟩,.string ⟨#[112,97,114,116,115]⟩,.string ⟨T3.toArray⟩] 9)) fun e w'=>e=.returned (.string ⟨(scoreTextT T1 T2 T3).toArray⟩)∧Below w.heap.size w w':=by
 have ho:=World.ownsRow_lit (base:=w.heap.size) (e:=9) (size:=1) w #[.string ⟨scW.toArray⟩,.string ⟨T1.toArray⟩,.string ⟨trW.toArray⟩,.string ⟨T2.toArray⟩,.string ⟨paW.toArray⟩,.string ⟨T3.toArray⟩] 6 (Nat.le_refl _) (by unfold maxLen;omega) rfl
 have h:=implJoin_any _ w.heap.size 6 [scW,T1,trW,T2,paW,T3] [32] _ ho (by omega) (by omega) (by rw [join6];simp [scW,trW,paW];omega)
 exact h.mono fun e w' ⟨he,hb⟩=>⟨he,((Below.refl _ w).alloc (Nat.le_refl _) _).trans (hb.mono (by simp))⟩
theorem implScoreLine_any (v:Value) (x:TourV) (w:World) (hs:InT w v x) (ht:tabP w):
  Calls Tryz.prog 84 #[v] w fun e w'=>e=.returned (.string ⟨(scoreText x).toArray⟩)∧Below w.heap.size w w':=by
 have HIT:=Lib.hid hs
 have HT:=Lib.hid ht
 obtain ⟨u,rfl,A,c,rfl,hc,hm,hsl⟩:=hs
 have HTO:Hid (∀W,Below w.heap.size w W→Calls Tryz.prog 148 #[.agg #[.int .i64 x.size,.slice A x.wins.length c]] W fun e w'=>e=.returned (.bool (tourB x))∧Below W.heap.size W w'):=fun W hW=>implTourOk_any _ x W (HIT.out.below hW)
 have HBX:Hid (Bx (w.alloc (.cells #[.int .i64 x.size,.slice A x.wins.length c] 27)) w.heap.size (.int .i64 x.size) (.slice A x.wins.length c)∧Below w.heap.size w (w.alloc (.cells #[.int .i64 x.size,.slice A x.wins.length c] 27))∧w.heap.size<(w.alloc (.cells #[.int .i64 x.size,.slice A x.wins.length c] 27)).heap.size):=⟨⟨by simp,by simp,by simp⟩,(Below.refl _ w).alloc (Nat.le_refl _) _,by simp⟩
 clear hsl
 cases h1:tourB x
 case false=>
  have HX:Hid (scoreText x = [110,111,110,101]):=scoreText_f h1
  go_enter Tryz.func84,Tryz.ntmps84
  go_wp2_with (go_at_call 148;refine (HTO.out _ HBX.out.2.1).mono ?_;rintro e w1 ⟨rfl,hb⟩;rw [h1];have HB:Hid (Below w.heap.size w w1):=HBX.out.2.1.trans (hb.mono HBX.out.2.1.size);clear hb)
  go_ret
  exact ⟨by rw [HX.out];rfl,HB.out⟩
 obtain ⟨t1,t2,t3,_,_⟩:=tourB_t h1
 have hn8:x.wins.length≤8:=by omega
 have HX:=Lib.hid (scoreText_t h1)
 have HOK:=Lib.hid h1
 have HWF:=Lib.hid (scoresL_wf x)
 have HSL:Hid ((scoresL x).length≤8):=by show _≤_;rw [scoresL_len];exact hn8
 have g1:=scores_fmt hn8
 have htb:=triF_bd hn8
 have hpb:=partN_le h1
 have HSC:Hid (∀W,Below w.heap.size w W→Calls Tryz.prog 170 #[.agg #[.int .i64 x.size,.slice A x.wins.length c]] W fun e w'=>∃v',e=.returned v'∧Fr w' W.heap.size w'.heap.size v' (scoresL x)∧Below W.heap.size W w'):=fun W hW=>implScoresOf_any _ x W (HIT.out.below hW) HOK.out
 have HTR:Hid (∀W,Below w.heap.size w W→Calls Tryz.prog 171 #[.agg #[.int .i64 x.size,.slice A x.wins.length c]] W fun e w'=>e=.returned (.int .i64 (triF x))∧Below W.heap.size W w'):=fun W hW=>implTriangles_any _ x W (HIT.out.below hW) HOK.out
 have HPA:Hid (∀W,Below w.heap.size w W→Calls Tryz.prog 172 #[.agg #[.int .i64 x.size,.slice A x.wins.length c]] W fun e w'=>∃v' L,e=.returned v'∧Fr w' W.heap.size w'.heap.size v' L∧L.length=partN x∧Below W.heap.size W w'):=fun W hW=>implStrongParts_any _ x W (HIT.out.below hW) HOK.out
 obtain ⟨P,HP⟩:∃P:Nat,Hid (partN x=P):=⟨_,rfl⟩
 obtain ⟨TR,HTRe⟩:∃TR:Int,Hid (triF x=TR):=⟨_,rfl⟩
 rw [HP.out] at hpb
 rw [HP.out,HTRe.out] at HX
 rw [HTRe.out] at htb HTR
 have hl2:=Lib.itoa_length_le TR (by omega) (by omega)
 have hl3:=Lib.itoa_length_le (P:Int) (by omega) (by omega)
 have HFA:Hid (∀W,Below w.heap.size w W→Calls Tryz.prog 13 #[.int .i64 TR] W fun e w'=>e=.returned (.string ⟨(Lib.itoa TR).toArray⟩)∧Below W.heap.size W w'):=fun W hW=>implFormatInt_any TR W (by omega) (by omega) (HT.out.below hW (Nat.le_refl _))
 have HFB:Hid (∀W,Below w.heap.size w W→Calls Tryz.prog 13 #[.int .i64 (P:Int)] W fun e w'=>e=.returned (.string ⟨(Lib.itoa (P:Int)).toArray⟩)∧Below W.heap.size W w'):=fun W hW=>implFormatInt_any (P:Int) W (by omega) (by omega) (HT.out.below hW (Nat.le_refl _))
 obtain ⟨T1,HT1⟩:∃T1,Hid (fmtF (scoresL x)=T1):=⟨_,rfl⟩
 obtain ⟨T2,HT2⟩:∃T2,Hid (Lib.itoa TR=T2):=⟨_,rfl⟩
 obtain ⟨T3,HT3⟩:∃T3,Hid (Lib.itoa (P:Int)=T3):=⟨_,rfl⟩
 rw [HT1.out] at HX g1
 rw [HT2.out] at HX hl2 HFA
 rw [HT3.out] at HX hl3 HFB
 have HCAT:=Lib.hid (scoreCat T1 T2 T3)
 have HGG:Hid (T1.length≤200∧T2.length≤200∧T3.length≤200):=⟨g1,by omega,by omega⟩
 clear h1 t1 t2 t3 htb
 go_enter Tryz.func84,Tryz.ntmps84
 go_wp2_with (go_at_call 148;refine (HTO.out _ HBX.out.2.1).mono ?_;rintro e w1 ⟨rfl,hb⟩;rw [HOK.out];have H1:Hid (Bx w1 w.heap.size (.int .i64 x.size) (.slice A x.wins.length c)∧Below w.heap.size w w1):=⟨HBX.out.1.below hb,HBX.out.2.1.trans (hb.mono (Nat.le_of_lt HBX.out.2.2))⟩;clear hb)
 obtain ⟨q0,q1,-⟩:=id H1.out.1
 have H1B:Hid (Below w.heap.size w w1.drew):=below_drewL H1.out.2
 have H1X:Hid (Bx w1.drew w.heap.size (.int .i64 x.size) (.slice A x.wins.length c)):=H1.out.1.drew
 go_region_held3 (fun W=>W.cell? ⟨w.heap.size,0,none⟩=some (.int .i64 x.size)∧W.cell? ⟨w.heap.size,1,none⟩=some (.slice A x.wins.length c)) (first|exact ⟨q0,q1⟩|exact ⟨H8.out.1.1,H8.out.1.2.1⟩|exact ⟨(H7.out.1.below ((Below.refl _ w7).alloc (Nat.le_refl _) _)).1,(H7.out.1.below ((Below.refl _ w7).alloc (Nat.le_refl _) _)).2.1⟩|exact ⟨H7.out.1.1,H7.out.1.2.1⟩|exact ⟨H6.out.1.1,H6.out.1.2.1⟩|exact ⟨H5.out.1.1,H5.out.1.2.1⟩|exact ⟨H4.out.1.1,H4.out.1.2.1⟩|exact ⟨H3.out.1.1,H3.out.1.2.1⟩|exact ⟨H2.out.1.1,H2.out.1.2.1⟩) (first
  | (go_at_call 170;refine (HSC.out _ H1B.out).mono ?_;rintro e w2 ⟨v2,rfl,hf,hb⟩;have H2:Hid (Bx w2 w.heap.size (.int .i64 x.size) (.slice A x.wins.length c)∧Below w.heap.size w w2):=(show _∧_ from ⟨H1X.out.below hb,H1B.out.trans (hb.mono H1B.out.size)⟩);have H2I:Hid (InI w2 v2 (scoresL x)):=hf.in_;clear hb hf)
  | (go_at_call 96;refine (implFormatNumbers_any v2 (scoresL x) _ H2I.out (by have:=HSL.out;omega) HWF.out (HT.out.below H2.out.2 (Nat.le_refl _))).mono ?_;rintro e w3 ⟨rfl,hb⟩;rw [HT1.out];have H3:Hid (Bx w3 w.heap.size (.int .i64 x.size) (.slice A x.wins.length c)∧Below w.heap.size w w3):=(show _∧_ from ⟨H2.out.1.below hb,H2.out.2.trans (hb.mono H2.out.2.size)⟩);clear hb)
  | (go_at_call 171;refine (HTR.out _ H3.out.2).mono ?_;rintro e w4 ⟨rfl,hb⟩;have H4:Hid (Bx w4 w.heap.size (.int .i64 x.size) (.slice A x.wins.length c)∧Below w.heap.size w w4):=(show _∧_ from ⟨H3.out.1.below hb,H3.out.2.trans (hb.mono H3.out.2.size)⟩);clear hb)
  | (go_at_call 13;have h_:=H4.out;clear h_;(with_reducible refine (HFA.out _ H4.out.2).mono ?_);rintro e w5 ⟨rfl,hb⟩;have H5:Hid (Bx w5 w.heap.size (.int .i64 x.size) (.slice A x.wins.length c)∧Below w.heap.size w w5):=(show _∧_ from ⟨H4.out.1.below hb,H4.out.2.trans (hb.mono H4.out.2.size)⟩);clear hb)
  | (go_at_call 172;refine (HPA.out _ H5.out.2).mono ?_;rintro e w6 ⟨v6,L6,rfl,hf,hl6,hb⟩;have H6:Hid (Bx w6 w.heap.size (.int .i64 x.size) (.slice A x.wins.length c)∧Below w.heap.size w w6):=(show _∧_ from ⟨H5.out.1.below hb,H5.out.2.trans (hb.mono H5.out.2.size)⟩);obtain ⟨A6,c6,rfl,-⟩:=hf.form;rw [hl6,HP.out];clear hb hf hl6)
  | (go_at_call 13;have h_:=H6.out;clear h_;(with_reducible refine (HFB.out _ H6.out.2).mono ?_);rintro e w7 ⟨rfl,hb⟩;have H7:Hid (Bx w7 w.heap.size (.int .i64 x.size) (.slice A x.wins.length c)∧Below w.heap.size w w7):=(show _∧_ from ⟨H6.out.1.below hb,H6.out.2.trans (hb.mono H6.out.2.size)⟩);clear hb)
  | (go_at_call 11;refine (join6_any w7 T1 T2 T3 HGG.out.1 HGG.out.2.1 HGG.out.2.2).mono ?_;rintro e w8 ⟨rfl,hb⟩;have H8:Hid (Bx w8 w.heap.size (.int .i64 x.size) (.slice A x.wins.length c)∧Below w.heap.size w w8):=(show _∧_ from ⟨H7.out.1.below hb,H7.out.2.trans (hb.mono H7.out.2.size)⟩);clear hb))
 go_wp2
 go_ret
 exact ⟨by rw [HX.out];rfl,H8.out.2⟩
end Go.Proofs.YtkapoldjcpfdgaaGreatDoor
