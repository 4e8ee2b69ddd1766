/- Swiss rounds: when points and meetings are valid; the order: the program's. -/
import Derived.Lib.SliceRun
import Derived.Test.YtkapoldjcpfdgaaGreatDoorMaz
set_option maxHeartbeats 4000000
set_option maxRecDepth 100000
namespace Go.Proofs.YtkapoldjcpfdgaaGreatDoor
open Go.ChangeShapes Go.WideShapes Go.ChangeAt Go.RowKit
def evF (x:TourV) (s:Nat):Option (List Int):=if cntL s%2=1 then (kerS x s).map (sprL x.wins.length (memN s)) else none
theorem setS_none {x:TourV}{s:Nat} (h:evF x s=none):setS x s=none:=by
 unfold evF at h
 split at h
 ·rename_i h1
  cases hk:kerS x s with
  | none=>exact setS_no hk
  | some q=>rw [hk] at h;cases h
 ·exact setS_even (by omega)
theorem setS_ev {x:TourV}{s:Nat}{q:List Int} (h:evF x s=some q):setS x s=if safeB x q then some q else none:=by
 unfold evF at h
 split at h
 ·rename_i h1
  cases hk:kerS x s with
  | none=>rw [hk] at h;cases h
  | some q'=>
   rw [hk] at h
   injection h with h
   subst h
   exact setS_some h1 hk
 ·cases h
theorem evF_facts {x:TourV}{s:Nat} (hs:s<2^x.wins.length) {q:List Int} (h:evF x s=some q):q.length=x.wins.length∧(∀y∈q,0≤y∧y≤100000)∧(∀y∈q,y≤15)∧∃j,j<x.wins.length∧0<q.getD j 0:=by
 unfold evF at h
 split at h
 ·rename_i h1
  cases hk:kerS x s with
  | none=>rw [hk] at h;cases h
  | some q'=>
   rw [hk] at h
   injection h with h
   subst h
   have h8:=cntL_le s
   have hl:(memN s).length=2*(cntL s/2)+1:=by rw [memN_len];omega
   obtain ⟨g1,g2⟩:=ker_15 hl (by omega) hk
   refine ⟨sprL_length ..,spr_bd g1 g2,fun y hy=>?_,(memN s).getD 0 0,?_,?_⟩
   ·rcases sprL_mem g1 y hy with rfl|h2
    ·omega
    ·exact (g2 y h2).2
   ·exact memN_lt hs _ (by rw [List.getD_eq_getElem?_getD,List.getElem?_eq_getElem (show 0<(memN s).length by omega)];exact List.getElem_mem _)
   ·have h3:=sprL_at (q:=q') (memN_nd s) (memN_lt hs) (j:=0) (show 0<(memN s).length by omega)
    have h4:=g2 (fn q' 0) (fn_mem (by omega))
    unfold fn at h3 h4
    rw [h3];omega
 ·cases h
theorem wf_15 {q:List Int} (h:∀y∈q,0≤y∧y≤100000):wfI q:=fun y hy=>by have:=h y hy;omega
theorem evenSet_any (v:Value) (x:TourV) (A:Option Addr) (c s:Nat) (w:World) (hok:tourB x=true) (hs:InT w v x) (hss:s<2^x.wins.length) (hsl:SlI w A (memL s)) (hc:cntL s≤c) (hcm:c≤maxLen):
  Calls Tryz.prog 261 #[v,.slice A (cntL s) c] w fun e w'=>EvR w e w' (evF x s):=by
 have h8:=cntL_le s
 unfold evF
 by_cases hp:cntL s%2=1
 ·rw [if_pos hp]
  have hl:(memN s).length=2*(cntL s/2)+1:=by rw [memN_len];omega
  exact evenOn_any v x A c (memN s) (cntL s/2) w hok hs hsl hl (by omega) (memN_lt hss) (memN_nd s) hc hcm
 ·rw [if_neg hp]
  refine (evenOn_even v x A c (cntL s) w hs (by omega) h8).mono ?_
  rintro e w' ⟨rfl,hb⟩
  exact ⟨hb,rfl⟩
theorem implSafe_no (v:Value) (x:TourV) (w:World) (hs:InT w v x) (h:¬(tourB x=true∧x.wins.length≤7)):
  Calls Tryz.prog 176 #[v] w fun e w'=>KerR w e w' none:=by
 have HIT:=Lib.hid hs
 obtain ⟨u,rfl,B,d,rfl,hd,hm,hts⟩:=hs
 have HTO:Hid (∀W,Below w.heap.size w W→Calls Tryz.prog 148 #[.agg #[.int .i64 x.size,.slice B x.wins.length d]] W fun e w'=>e=.returned (.bool (tourB x))∧Below W.heap.size W w'):=fun W hW=>implTourOk_any _ x W (HIT.out.below hW)
 have H0:Hid (Bx (w.alloc (.cells #[.int .i64 x.size,.slice B x.wins.length d] 27)) w.heap.size (.int .i64 x.size) (.slice B x.wins.length d)∧Below w.heap.size w (w.alloc (.cells #[.int .i64 x.size,.slice B x.wins.length d] 27))):=⟨⟨by simp,by simp,by simp⟩,(Below.refl _ w).alloc (Nat.le_refl _) _⟩
 cases ht:tourB x
 ·rw [ht] at HTO
  clear h ht hts
  go_enter Tryz.func176,Tryz.ntmps176
  go_wp2_with fail
  refine (HTO.out _ H0.out.2).mono ?_
  rintro e w1 ⟨rfl,hb1⟩
  have H1:Hid (Below w.heap.size w w1):=H0.out.2.trans (hb1.mono H0.out.2.size)
  clear hb1
  go_wp2
  go_ret2
  exact ⟨H1.out,rfl⟩
 ·obtain ⟨t1,t2,t3,t4,_⟩:=tourB_t ht
  have hsz:x.size=8:=by
   have:¬x.wins.length≤7:=fun h7=>h ⟨ht,h7⟩
   omega
  rw [ht] at HTO
  rw [hsz] at HTO H0 ⊢
  clear h ht hts t1 t2 t3 t4 hsz
  go_enter Tryz.func176,Tryz.ntmps176
  go_wp2_with fail
  refine (HTO.out _ H0.out.2).mono ?_
  rintro e w1 ⟨rfl,hb1⟩
  have H1:Hid (Bx w1 w.heap.size (.int .i64 8) (.slice B x.wins.length d)∧Below w.heap.size w w1):=⟨H0.out.1.below hb1,H0.out.2.trans (hb1.mono H0.out.2.size)⟩
  obtain ⟨q0,q1,-⟩:=id H1.out.1
  clear hb1
  go_wp2
  go_ret2
  exact ⟨H1.out.2,rfl⟩
theorem implSafe_any (v:Value) (x:TourV) (w:World) (hs:InT w v x):
  Calls Tryz.prog 176 #[v] w fun e w'=>KerR w e w' (safeF x):=by
 by_cases hc:tourB x=true∧x.wins.length≤7
 case neg=>
  rw [show safeF x=none by unfold safeF;rw [if_neg hc]]
  exact implSafe_no v x w hs hc
 obtain ⟨hok,h7⟩:=hc
 have qN:∀(w:World) (a:Option Addr) (n c n' c':Nat),(binOp .neq 25 (.slice a n c) (.slice none n' c')).run Tryz.prog w=.ok (.bool (!a.isNone)) w:=fun w a n c n' c'=>Go.run_neq_slice_nil_any w _ _ a n c n' c' Tryz.underlying25
 have HSF:Hid (safeF x=safeT x (2^x.wins.length-1)):=by show _=_;unfold safeF;rw [if_pos ⟨hok,h7⟩]
 have HIT:=Lib.hid hs
 have HOK:=Lib.hid hok
 obtain ⟨u,rfl,B,d,rfl,hd,hm,hts⟩:=hs
 obtain ⟨t1,t2,t3,t4,_⟩:=tourB_t hok
 have HTO:Hid (∀W,Below w.heap.size w W→Calls Tryz.prog 148 #[.agg #[.int .i64 x.size,.slice B x.wins.length d]] W fun e w'=>e=.returned (.bool true)∧Below W.heap.size W w'):=fun W hW=>by
  have h:=implTourOk_any _ x W (HIT.out.below hW)
  rwa [HOK.out] at h
 have HEV:Hid (∀W (s:Nat) A c,Below w.heap.size w W→s<2^x.wins.length→SlI W A (memL s)→cntL s≤c→c≤maxLen→Calls Tryz.prog 261 #[.agg #[.int .i64 x.size,.slice B x.wins.length d],.slice A (cntL s) c] W fun e w'=>EvR W e w' (evF x s)):=fun W s A c hW h1 h2 h3 h4=>evenSet_any _ x A c s W HOK.out (HIT.out.below hW) h1 h2 h3 h4
 have HIS:Hid (∀W (s:Nat) A c q,Below w.heap.size w W→s<2^x.wins.length→evF x s=some q→SlI W A q→Calls Tryz.prog 262 #[.agg #[.int .i64 x.size,.slice B x.wins.length d],.slice A x.wins.length c] W fun e w'=>e=.returned (.bool (safeB x q))∧Below W.heap.size W w'):=fun W s A c q hW h1 h2 h3=>by
  obtain ⟨f1,f2,f3,f4⟩:=evF_facts h1 h2
  exact isSafe_any _ x A c _ q W HOK.out (HIT.out.below hW) h3 f1 rfl f2 f4
 have HQL:Hid (∀s q,s<2^x.wins.length→evF x s=some q→q.length=x.wins.length):=fun s q h1 h2=>(evF_facts h1 h2).1
 have h256:(2:Nat)^x.wins.length≤128:=Nat.pow_le_pow_right (by omega) h7
 have hpos:1≤(2:Nat)^x.wins.length:=Nat.one_le_two_pow
 have hT2:(2:Int)^x.wins.length=((2^x.wins.length:Nat):Int):=by rw [Int.natCast_pow];rfl
 have hn1:1≤x.wins.length:=by omega
 generalize x.size=sz at *
 subst t3
 have H0:Hid (Bx (w.alloc (.cells #[.int .i64 (x.wins.length:Int),.slice B x.wins.length d] 27)) w.heap.size (.int .i64 (x.wins.length:Int)) (.slice B x.wins.length d)∧Below w.heap.size w (w.alloc (.cells #[.int .i64 (x.wins.length:Int),.slice B x.wins.length d] 27))):=⟨⟨by simp,by simp,by simp⟩,(Below.refl _ w).alloc (Nat.le_refl _) _⟩
 obtain ⟨n,hn⟩:∃n,x.wins.length=n:=⟨_,rfl⟩
 simp only [hn] at *
 obtain ⟨T,HT⟩:∃T:Nat,Hid (2^n=T):=⟨_,rfl⟩
 rw [HT.out] at h256 hpos hT2 HSF HEV HIS HQL
 have HET:Hid ((2:Int)^n=(T:Int)∧wrap64 (T:Int)=T):=⟨hT2,by unfold wrap64;omega⟩
 clear hT2 t1 t2 t4 hok hts hn
 go_enter Tryz.func176,Tryz.ntmps176
 go_wp2_with fail
 refine (HTO.out _ H0.out.2).mono ?_
 rintro e w1 ⟨rfl,hb1⟩
 have H1:Hid (Bx w1 w.heap.size (.int .i64 (n:Int)) (.slice B n d)∧Below w.heap.size w w1):=⟨H0.out.1.below hb1,H0.out.2.trans (hb1.mono H0.out.2.size)⟩
 obtain ⟨q0,q1,-⟩:=id H1.out.1
 have h7i:¬(n:Int)>7:=by omega
 clear hb1 H0
 go_wp2
 clear q0 q1
 go_loopw [4] (fun i wr=>∃s:Nat,1≤s∧s≤T∧i=.int .i64 (s:Int)∧Hid (Bx wr w.heap.size (.int .i64 (n:Int)) (.slice B n d)∧Below w.heap.size w wr)∧Hid (safeT x (s-1)=none)) (fun i _=>T-(intOf i).toNat)
 case atStart=>exact ⟨1,Nat.le_refl _,hpos,rfl,H1.out,rfl⟩
 case round=>
  obtain ⟨s,hs1,hs2,rfl,HR,HN⟩:=hrel
  clear H1
  obtain ⟨wz,rfl⟩:∃W,W=wr:=⟨wr,rfl⟩
  obtain ⟨q0,q1,-⟩:=id HR.out.1
  obtain ⟨hT2,eT⟩:=id HET.out
  by_cases hlt:s<T
  case neg=>
   obtain rfl:T=s:=by omega
   have HF:Hid (safeF x=none):=by show _=_;rw [HSF.out];exact HN.out
   go_wp2
   go_ret2
   rw [HF.out]
   exact ⟨HR.out.2,rfl⟩
  have hlti:(s:Int)<(T:Int):=by omega
  have HMB:Hid (Calls Tryz.prog 153 #[.int .i64 (s:Int)] wz.drew fun e w'=>∃A3 c3,e=.returned (.slice A3 (cntL s) c3)∧cntL s≤c3∧c3≤maxLen∧SlI w' A3 (memL s)∧Below wz.heap.size wz w'):=by
   refine (membersOf_any s wz.drew (by omega)).mono ?_
   rintro e w' ⟨v',rfl,hf,hb⟩
   obtain ⟨A3,c3,rfl,h1,h2⟩:=hf.form
   rw [memL_len] at h1 hf ⊢
   exact ⟨A3,c3,rfl,h1,h2,hf.sl,below_undraw (q:=1) hb⟩
  have HEVs:=Lib.hid (fun W A c hW=>HEV.out W s A c hW hlt)
  go_upto_region 6 with (fail)
  refine wp_region_noPanic ?_
  refine wp_region_held_drew (S:=fun W=>W.cell? ⟨w.heap.size,0,none⟩=some (.int .i64 (n:Int))∧W.cell? ⟨w.heap.size,1,none⟩=some (.slice B n d)) (by kernel_rfl) ⟨q0,q1⟩ (fun hHeld=>?_)
  refine wT 0 (.agg #[.int .i64 (n:Int),.slice B n d]) ?_
  try simp only [pu]
  refine wT 1 (.int .i64 (s:Int)) ?_
  try simp only [pu]
  refine wR 2 (fun K hK=>?_)
  go_simp
  go_at_call 153
  (with_reducible refine (HMB.out).mono ?_)
  rintro e w3 ⟨A3,c3,rfl,hc3,hcm3,hsl3,hb3⟩
  have H3:Hid (SlI w3 A3 (memL s)∧Bx w3 w.heap.size (.int .i64 (n:Int)) (.slice B n d)∧Below w.heap.size w w3):=⟨hsl3,HR.out.1.below hb3,HR.out.2.trans (hb3.mono HR.out.2.size)⟩
  try (go_wp2_with fail)
  refine hK.out _ _ ⟨H3.out.2.1.1,H3.out.2.1.2.1⟩ (fun hHeld=>?_)
  clear hK K
  try simp only [pu]
  clear hsl3 hb3
  have HEV3:=Lib.hid (HEVs.out w3 A3 c3 H3.out.2.2 H3.out.1 hc3 hcm3)
  cases hev:evF x s with
  | none=>
   have HSN:Hid (safeT x (s+1-1)=none):=by
    show _=_
    have h:=safeT_none (k:=s-1) HN.out (by rw [show s-1+1=s by omega];exact setS_none hev)
    rw [show s-1+1=s by omega] at h
    exact h
   rw [hev] at HEV3
   clear hev hT2 eT
   refine wR 3 (fun K hK=>?_)
   go_simp
   go_at_call 261
   (with_reducible refine (HEV3.out).mono ?_)
   rintro e w4 ⟨hb4,rfl⟩
   have H4:Hid (Bx w4 w.heap.size (.int .i64 (n:Int)) (.slice B n d)∧Below w.heap.size w w4):=⟨H3.out.2.1.below hb4,H3.out.2.2.trans (hb4.mono H3.out.2.2.size)⟩
   try (go_wp2_with fail)
   refine hK.out _ _ ⟨H4.out.1.1,H4.out.1.2.1⟩ (fun hHeld=>?_)
   clear hK K
   try simp only [pu]
   clear hb4
   refine wT 4 _ ?_
   try simp only [pu]
   refine wpAnyH_done (by kernel_rfl) ?_ _
   refine NoPanic.normal ?_
   go_wp2
   go_roundw
   case rel=>exact ⟨s+1,by omega,by omega,by go_num,H4.out,HSN.out⟩
   case measure=>simp [intOf];omega
  | some q=>
   have HEVq:=Lib.hid hev
   have hql:=HQL.out s q hlt hev
   rw [hev] at HEV3
   clear hev hT2 eT
   refine wR 3 (fun K hK=>?_)
   go_simp
   go_at_call 261
   (with_reducible refine (HEV3.out).mono ?_)
   rintro e w4 ⟨hb4,v4,rfl,hf4⟩
   have H4:Hid (Bx w4 w.heap.size (.int .i64 (n:Int)) (.slice B n d)∧Below w.heap.size w w4∧Fr w4 w3.heap.size w4.heap.size v4 q):=⟨H3.out.2.1.below hb4,H3.out.2.2.trans (hb4.mono H3.out.2.2.size),hf4⟩
   try (go_wp2_with fail)
   refine hK.out _ _ ⟨H4.out.1.1,H4.out.1.2.1⟩ (fun hHeld=>?_)
   clear hK K
   try simp only [pu]
   clear hb4 hf4
   obtain ⟨A4,c4,rfl,-,-⟩:=H4.out.2.2.form
   rw [hql] at H4 ⊢
   obtain ⟨g4,-,rfl,-⟩:=H4.out.2.2.at_ (k:=0) (by omega)
   refine wT 4 (.slice (some ⟨g4,0,none⟩) n c4) ?_
   try simp only [pu]
   refine wpAnyH_done (by kernel_rfl) ?_ _
   refine NoPanic.normal ?_
   obtain ⟨r0,r1,-⟩:=id H4.out.1
   have HSQ:=Lib.hid (HIS.out w4 s (some ⟨g4,0,none⟩) c4 q H4.out.2.1 hlt HEVq.out H4.out.2.2.sl)
   have HSE:=Lib.hid (setS_ev HEVq.out)
   cases hsb:safeB x q
   ·have HSN:Hid (safeT x (s+1-1)=none):=by
     show _=_
     have h:=safeT_none (k:=s-1) HN.out (by rw [show s-1+1=s by omega,HSE.out,hsb];rfl)
     rw [show s-1+1=s by omega] at h
     exact h
    rw [hsb] at HSQ
    clear hsb hql
    go_wp2_with fail
    refine HSQ.out.mono ?_
    rintro e w5 ⟨rfl,hb5⟩
    have H5:Hid (Bx w5 w.heap.size (.int .i64 (n:Int)) (.slice B n d)∧Below w.heap.size w w5):=⟨H4.out.1.below hb5,H4.out.2.1.trans (hb5.mono H4.out.2.1.size)⟩
    clear hb5
    go_wp2
    go_roundw
    case rel=>exact ⟨s+1,by omega,by omega,by go_num,H5.out,HSN.out⟩
    case measure=>simp [intOf];omega
   ·have HSS:Hid (safeF x=some q):=by
     show _=_
     rw [HSF.out]
     exact safeT_hit (k:=s-1) HN.out (by rw [show s-1+1=s by omega,HSE.out,hsb];rfl) _ (by omega)
    rw [hsb] at HSQ
    clear hsb hql
    go_wp2_with fail
    refine HSQ.out.mono ?_
    rintro e w5 ⟨rfl,hb5⟩
    have H5:Hid (Below w.heap.size w w5∧Fr w5 w.heap.size w5.heap.size (.slice (some ⟨g4,0,none⟩) n c4) q):=⟨H4.out.2.1.trans (hb5.mono H4.out.2.1.size),(H4.out.2.2.grow hb5).wide (Nat.le_trans H3.out.2.2.size (Nat.le_refl _)) hb5.size (Nat.le_refl _)⟩
    clear hb5
    go_wp2
    go_ret2
    rw [HSS.out]
    exact ⟨H5.out.1,_,rfl,H5.out.2⟩
def safeText (x:TourV):List UInt8:=match safeF x with
 | some q=>fmtF q
 | none=>[110,111,110,101]
theorem safeT_src {x:TourV}:∀ {k:Nat}{q:List Int},safeT x k=some q→∃s,s≤k∧evF x s=some q
 | 0,q,h=>by cases h
 | k+1,q,h=>by
  rw [safeT] at h
  cases h1:safeT x k with
  | some q'=>
   rw [h1] at h
   injection h with h
   subst h
   obtain ⟨s,h2,h3⟩:=safeT_src h1
   exact ⟨s,by omega,h3⟩
  | none=>
   rw [h1] at h
   cases h2:evF x (k+1) with
   | none=>rw [show setS x (k+1)=none from setS_none h2] at h;cases h
   | some q2=>
    have h3:=setS_ev h2
    rw [show setS x (k+1)=some q from h] at h3
    split at h3
    ·injection h3 with h3
     subst h3
     exact ⟨k+1,Nat.le_refl _,h2⟩
    ·cases h3
theorem safeF_facts {x:TourV}{q:List Int} (h:safeF x=some q):q.length≤8∧∀y∈q,0≤y∧y≤100000:=by
 unfold safeF at h
 split at h
 ·rename_i hc
  obtain ⟨s,h1,h2⟩:=safeT_src h
  have hp:1≤(2:Nat)^x.wins.length:=Nat.one_le_two_pow
  obtain ⟨f1,f2,_⟩:=evF_facts (show s<2^x.wins.length by omega) h2
  exact ⟨by omega,f2⟩
 ·cases h
theorem implSafeLine_any (v:Value) (x:TourV) (w:World) (hs:InT w v x) (ht:tabP w):
  Calls Tryz.prog 90 #[v] w fun e w'=>e=.returned (.string ⟨(safeText x).toArray⟩)∧Below w.heap.size w w':=by
 have HIT:=Lib.hid hs
 have HT:=Lib.hid ht
 have HSS:=Lib.hid (fun V (hV:Below w.heap.size w V)=>implSafe_any v x V (hs.below hV))
 obtain ⟨u,rfl,B,d,rfl,hd,hm,hts⟩:=hs
 have H0:Hid (Bx (w.alloc (.cells #[.int .i64 x.size,.slice B x.wins.length d] 27)) w.heap.size (.int .i64 x.size) (.slice B x.wins.length d)∧Below w.heap.size w (w.alloc (.cells #[.int .i64 x.size,.slice B x.wins.length d] 27))):=⟨⟨by simp,by simp,by simp⟩,(Below.refl _ w).alloc (Nat.le_refl _) _⟩
 clear hts ht
 cases hq:safeF x with
 | none=>
  have HX:Hid (safeText x = [110,111,110,101]):=by show _=_;unfold safeText;rw [hq]
  rw [hq] at HSS
  clear hq
  go_enter Tryz.func90,Tryz.ntmps90
  go_wp2_with fail
  refine (HSS.out _ H0.out.2).mono ?_
  rintro e w1 ⟨hb1,rfl⟩
  have H1:Hid (Below w.heap.size w w1):=H0.out.2.trans (hb1.mono H0.out.2.size)
  clear hb1
  go_wp2
  go_ret
  exact ⟨by rw [HX.out];rfl,H1.out⟩
 | some q=>
  have HX:Hid (safeText x=fmtF q):=by show _=_;unfold safeText;rw [hq]
  obtain ⟨f1,f2⟩:=safeF_facts hq
  rw [hq] at HSS
  have HF2:=Lib.hid f2
  clear hq f2
  go_enter Tryz.func90,Tryz.ntmps90
  go_wp2_with fail
  refine (HSS.out _ H0.out.2).mono ?_
  rintro e w1 ⟨hb1,v1,rfl,hf1⟩
  have H1:Hid (Below w.heap.size w w1∧InI w1 v1 q):=⟨H0.out.2.trans (hb1.mono H0.out.2.size),hf1.in_⟩
  clear hb1 hf1
  go_wp2_with fail
  refine (implFormatNumbers_any v1 q w1 H1.out.2 (by omega) (wf_15 HF2.out) (HT.out.below H1.out.1 (Nat.le_refl _))).mono ?_
  rintro e w2 ⟨rfl,hb2⟩
  have H2:Hid (Below w.heap.size w w2):=H1.out.1.trans (hb2.mono H1.out.1.size)
  clear hb2
  go_wp2
  go_ret
  exact ⟨by rw [HX.out];rfl,H2.out⟩
def meetW (W:List Int) (a b:Int):Int:=if bt W a.toNat b.toNat then a else b
def meetL (W:List Int) (a b:Int):Int:=if bt W a.toNat b.toNat then b else a
def dbStep (W:List Int):List Int→List Int→List Int→List Int × List Int × List Int
 | a :: b :: r,se,pl=>(r++[meetW W a b],se++[meetL W a b],pl)
 | fi,a :: b :: r,pl=>(fi,r++[meetW W a b],pl++[meetL W a b])
 | [a],[b],pl=>if meetW W a b=a then ([a],[],pl++[b]) else ([],[a,b],pl)
 | fi,se,pl=>(fi,se,pl)
def dbRun (W:List Int):Nat→List Int→List Int→List Int→List Int × List Int × List Int
 | 0,fi,se,pl=>(fi,se,pl)
 | f+1,fi,se,pl=>if fi.length+se.length≤1 then (fi,se,pl) else dbRun W f (dbStep W fi se pl).1 (dbStep W fi se pl).2.1 (dbStep W fi se pl).2.2
def dbPlaces (W:List Int) (n:Nat):List Int:=let r:=dbRun W (2*n) (idxs n) [] [];(r.2.2++r.1++r.2.1).reverse
theorem meet_cases (W:List Int) (a b:Int):(meetW W a b=a∧meetL W a b=b)∨(meetW W a b=b∧meetL W a b=a):=by
 unfold meetW meetL;split<;>simp
def dbM (fi se:List Int):Nat:=2*fi.length+se.length
theorem getD_setSame {l:List Int}{k:Nat}{v:Int} (h:k<l.length):(l.set k v).getD k 0=v:=by
 rw [List.getD_eq_getElem?_getD,List.getElem?_set_self h];rfl
theorem getD_setOther {l:List Int}{k j:Nat}{v:Int} (h:k≠j):(l.set k v).getD j 0=l.getD j 0:=by
 rw [List.getD_eq_getElem?_getD,List.getElem?_set_ne h,←List.getD_eq_getElem?_getD]
def metB (met:List Int) (a b:Int):Bool:=(met.getD a.toNat 0).toNat.testBit b.toNat
def putP (p:List Int) (a b:Int):List Int:=(p.set a.toNat b).set b.toNat a
def pairF (met:List Int):Nat→List Int→List Int→Option (List Int)
  | _,[],p=>some p
  | 0,_ :: _,_=>none
  | f+1,a :: rest,p=>rest.findSome? fun b=>if metB met a b then none else pairF met f (rest.erase b) (putP p a b)
def freeL (order p:List Int):List Int:=order.filter fun a=>decide (p.getD a.toNat 0<0)
theorem putP_len (p:List Int) (a b:Int):(putP p a b).length=p.length:=by simp [putP]
theorem putP_at {p:List Int}{a b:Int}{n:Nat} (hp:p.length=n) (ha:0≤a∧a<n) (hb:0≤b∧b<n) (_hne:a≠b) {x:Int} (hx:0≤x):(putP p a b).getD x.toNat 0=if x=b then a else if x=a then b else p.getD x.toNat 0:=by
  unfold putP
  by_cases h1:x=b
  · subst h1
    rw [if_pos rfl,getD_setSame (by rw [List.length_set];omega)]
  · rw [if_neg h1,getD_setOther (by omega)]
    by_cases h2:x=a
    · subst h2
      rw [if_pos rfl,getD_setSame (by omega)]
    · rw [if_neg h2,getD_setOther (by omega)]
theorem freeL_put {order p rest:List Int}{n:Nat}{a b:Int} (hp:p.length=n) (hr:∀x∈order,0≤x∧x<n) (hnd:order.Nodup) (hf:freeL order p=a :: rest) (hb:b∈rest):freeL order (putP p a b)=rest.erase b:=by
  have hnd2:(a :: rest).Nodup:=by rw [←hf];exact List.Pairwise.filter _ hnd
  have hin:∀x∈a :: rest,x∈order:=fun x hx=>by rw [←hf] at hx;exact (List.mem_filter.1 hx).1
  obtain ⟨n1,n2⟩:=List.nodup_cons.1 hnd2
  have ha:=hr a (hin a (by simp))
  have hb2:=hr b (hin b (by simp [hb]))
  have hne:a≠b:=fun e=>n1 (e ▸ hb)
  have e1:freeL order (putP p a b)=(freeL order p).filter (fun x=>decide (x≠a) && decide (x≠b)):=by
    unfold freeL
    rw [List.filter_filter]
    refine List.filter_congr fun x hx=>?_
    have hx0:=hr x hx
    rw [putP_at hp ha hb2 hne hx0.1]
    by_cases h1:x=b
    · subst h1;rw [if_pos rfl];simp;omega
    · rw [if_neg h1]
      by_cases h2:x=a
      · subst h2;rw [if_pos rfl];simp;omega
      · rw [if_neg h2];simp [h1,h2]
  rw [e1,hf,n2.erase_eq_filter,List.filter_cons_of_neg (by simp)]
  refine List.filter_congr fun x hx=>?_
  have:x≠a:=fun e=>n1 (e ▸ hx)
  by_cases h1:x=b<;>simp [this,h1,bne]
theorem filter_findSome {α β:Type} (q:α→Bool) (f:α→Option β):∀l:List α,(l.filter q).findSome? f=l.findSome? fun b=>if q b then f b else none
  | []=>rfl
  | x :: l=>by
    by_cases h:q x=true
    · rw [List.filter_cons_of_pos h,List.findSome?_cons,List.findSome?_cons,filter_findSome q f l]
      simp [h]
    · rw [List.filter_cons_of_neg h,List.findSome?_cons,filter_findSome q f l]
      simp [h]
structure PairOk (met left p pr:List Int) (n:Nat):Prop where
  len:pr.length=n
  out:∀i,i<n→(i:Int) ∉ left→pr.getD i 0=p.getD i 0
  ins:∀x∈left,pr.getD x.toNat 0∈left∧pr.getD x.toNat 0≠x∧pr.getD (pr.getD x.toNat 0).toNat 0=x∧(metB met x (pr.getD x.toNat 0)=false∨metB met (pr.getD x.toNat 0) x=false)
theorem pairF_ok {met:List Int}:∀ {f:Nat}{left p pr:List Int}{n:Nat},p.length=n→(∀x∈left,0≤x∧x<n)→left.Nodup→pairF met f left p=some pr→PairOk met left p pr n
  | f,[],p,pr,n,h1,_,_,h=>by
    have:p=pr:=by cases f<;>simpa [pairF] using h
    subst this
    exact ⟨h1,fun _ _ _=>rfl,fun x hx=>by simp at hx⟩
  | 0,_ :: _,_,_,_,_,_,_,h=>by cases h
  | f+1,a :: rest,p,pr,n,h1,hr,hnd,h=>by
    obtain ⟨n1,n2⟩:=List.nodup_cons.1 hnd
    rw [pairF] at h
    obtain ⟨b,hb,h⟩:=List.exists_of_findSome?_eq_some h
    have hne:a≠b:=fun e=>n1 (e ▸ hb)
    have ha0:=hr a (by simp)
    have hb0:=hr b (by simp [hb])
    split at h
    · cases h
    · rename_i hm
      rw [Bool.not_eq_true] at hm
      have ih:=pairF_ok (n:=n) (by rw [putP_len];exact h1) (fun x hx=>hr x (by simp [List.mem_of_mem_erase hx])) (n2.erase b) h
      have va:pr.getD a.toNat 0=b:=by
        have:=ih.out a.toNat (by omega) (fun hx=>n1 (List.mem_of_mem_erase (by rwa [Int.toNat_of_nonneg ha0.1] at hx)))
        rw [this,putP_at h1 ha0 hb0 hne ha0.1,if_neg hne,if_pos rfl]
      have vb:pr.getD b.toNat 0=a:=by
        have:=ih.out b.toNat (by omega) (fun hx=>by
          rw [Int.toNat_of_nonneg hb0.1,n2.mem_erase_iff] at hx
          exact hx.1 rfl)
        rw [this,putP_at h1 ha0 hb0 hne hb0.1,if_pos rfl]
      refine ⟨ih.len,fun i hi hx=>?_,fun x hx=>?_⟩
      · have hia:¬(i:Int)=a:=fun e=>hx (by simp [e])
        have hib:¬(i:Int)=b:=fun e=>hx (by simp [e,hb])
        rw [ih.out i hi (fun hx2=>hx (by simp [List.mem_of_mem_erase hx2]))]
        have g1:=putP_at h1 ha0 hb0 hne (x:=(i:Int)) (by omega)
        rw [Int.toNat_natCast] at g1
        rw [g1,if_neg hib,if_neg hia]
      · by_cases c1:x=a
        · subst c1;rw [va,vb];exact ⟨by simp [hb],hne.symm,rfl,.inl hm⟩
        · by_cases c2:x=b
          · subst c2;rw [vb,va];exact ⟨by simp,hne,rfl,.inr hm⟩
          · rcases List.mem_cons.1 hx with hx|hx
            · exact absurd hx c1
            · obtain ⟨y1,y2,y3,y4⟩:=ih.ins x ((List.mem_erase_of_ne c2).2 hx)
              exact ⟨List.mem_cons_of_mem _ (List.mem_of_mem_erase y1),y2,y3,y4⟩
def isSwB (points:List Int):Bool:=decide (2≤points.length) && (decide (points.length≤8) && (decide (points.length%2=0) && points.all fun x=>inB x 0 100))
def swRow (met:List Int) (n a:Nat):Bool:=!(met.getD a 0).toNat.testBit a && (List.range n).all fun b=>(met.getD a 0).toNat.testBit b==(met.getD b 0).toNat.testBit a
def swB (points met:List Int):Bool:=isSwB points && (decide (met.length=points.length) && ((met.all fun x=>inB x 0 (2^points.length-1)) && (List.range points.length).all (swRow met points.length)))
def pairSw (ord:List Int→List Int) (points met:List Int):Option (List Int):=if swB points met then pairF met points.length (ord points) (List.replicate points.length (-1)) else none
def swPts (W:List Int) (pr points:List Int):Nat→List Int
  | 0=>points
  | k+1=>if bt W k (pr.getD k 0).toNat then (swPts W pr points k).set k (points.getD k 0+1) else swPts W pr points k
def swMet (pr met:List Int):Nat→List Int
  | 0=>met
  | k+1=>(swMet pr met k).set k (((met.getD k 0).toNat ||| 2^(pr.getD k 0).toNat:Nat):Int)
def swRun (ord:List Int→List Int) (W:List Int) (n:Nat):Nat→List Int→List Int→List Int
  | 0,points,_=>points
  | r+1,points,met=>match pairSw ord points met with
    | none=>points
    | some pr=>swRun ord W n r (swPts W pr points n) (swMet pr met n)
theorem swPts_len (W pr points:List Int):∀k,(swPts W pr points k).length=points.length
  | 0=>rfl
  | k+1=>by rw [swPts];split<;>simp [swPts_len W pr points k]
theorem swMet_len (pr met:List Int):∀k,(swMet pr met k).length=met.length
  | 0=>rfl
  | k+1=>by rw [swMet];simp [swMet_len pr met k]
theorem swPts_high (W pr points:List Int):∀k j,k≤j→(swPts W pr points k).getD j 0=points.getD j 0
  | 0,_,_=>rfl
  | k+1,j,h=>by
    rw [swPts]
    split
    · rw [getD_setOther (by omega),swPts_high W pr points k j (by omega)]
    · exact swPts_high W pr points k j (by omega)
theorem swMet_high (pr met:List Int):∀k j,k≤j→(swMet pr met k).getD j 0=met.getD j 0
  | 0,_,_=>rfl
  | k+1,j,h=>by rw [swMet,getD_setOther (by omega),swMet_high pr met k j (by omega)]
theorem swPts_bd {W pr points:List Int}{d:Int} (h:∀x∈points,0≤x∧x≤d):∀k,∀x∈swPts W pr points k,0≤x∧x≤d+1
  | 0,x,hx=>by have:=h x hx;omega
  | k+1,x,hx=>by
    rw [swPts] at hx
    split at hx
    · rcases List.mem_or_eq_of_mem_set hx with hx|rfl
      · exact swPts_bd h k x hx
      · rw [List.getD_eq_getElem?_getD]
        cases hk:points[k]? with
        | none=>
          simp
          cases points with
          | nil =>
                   simp at hx;
                   have:=swPts_len W pr [] k
                   simp at this
                   rw [this] at hx;simp at hx
          | cons y ys=>have:=h y (by simp);omega
        | some y=>have:=h y (List.mem_of_getElem? hk);simp;omega
    · exact swPts_bd h k x hx
theorem isSwiss_any (A:Option Addr) (c:Nat) (xs:List Int) (w:World) (hs:SlI w A xs) (hn:xs.length≤1048576):
  Calls Tryz.prog 373 #[.slice A xs.length c] w fun e w'=>e=.returned (.bool (isSwB xs))∧Below w.heap.size w w':=by
 have HE:Hid (isSwB xs=(decide (2≤xs.length) && (decide (xs.length≤8) && (decide (xs.length%2=0) && xs.all fun x=>inB x 0 100)))):=rfl
 have HAW:Hid (∀W,Below w.heap.size w W→Calls Tryz.prog 239 #[.slice A xs.length c,.int .i64 0,.int .i64 100] W fun e w'=>e=.returned (.bool (xs.all (fun x=>inB x 0 100)))∧Below W.heap.size W w'):=fun W hW=>allWithin_any A c xs 0 100 W (hs.below hW) hn
 clear hs
 have hcast:(xs.length:Int).tmod 2=((xs.length%2:Nat):Int):=by
  rw [Int.tmod_eq_emod_of_nonneg (by omega)];rfl
 cases h1:inB (xs.length:Int) 2 8
 ·have h1':=inB_f.1 h1
  have HX:Hid (isSwB xs=false):=by
   show _=_
   rw [HE.out]
   rcases h1' with h|h
   ·rw [decide_eq_false (show ¬ 2≤xs.length by omega)];rfl
   ·rw [decide_eq_false (show ¬xs.length≤8 by omega)];simp
  clear h1' hcast
  go_enter Tryz.func373,Tryz.ntmps373
  go_wp2_with (go_at_call 147;refine (within_any _ 2 8 _).mono ?_;rintro e w_ ⟨rfl,rfl⟩;rw [h1])
  go_ret
  exact ⟨by rw [HX.out];rfl,Below.refl _ _⟩
 have h8:=inB_t.1 h1
 generalize xs.length=n at *
 have hn8:2≤n∧n≤8:=by omega
 rcases Nat.mod_two_eq_zero_or_one n with h2|h2
 ·have e2:(((n:Int).tmod 2)==0)=true:=by rw [hcast,h2];rfl
  have HX:Hid (isSwB xs=xs.all fun x=>inB x 0 100):=by
   show _=_
   rw [HE.out,decide_eq_true hn8.1,decide_eq_true hn8.2,decide_eq_true h2];rfl
  obtain ⟨m,hm⟩:∃m,(n:Int).tmod 2=m:=⟨_,rfl⟩
  rw [hm] at e2
  have em:m=0:=by rw [beq_iff_eq] at e2;exact e2
  subst em
  have hmod:(n:Int)%2=0:=by omega
  clear h2 hcast HE hm e2
  go_enter Tryz.func373,Tryz.ntmps373
  go_wp2_with (first
   | (go_at_call 147;refine (within_any _ 2 8 _).mono ?_;rintro e w_ ⟨rfl,rfl⟩;rw [h1])
   | (go_at_call 239;refine (HAW.out _ (Below.refl _ _)).mono ?_;rintro e w2 ⟨rfl,hb⟩;have B2:=Lib.hid hb;clear hb))
  go_ret
  exact ⟨by rw [HX.out];rfl,B2.out⟩
 ·have HX:Hid (isSwB xs=false):=by
   show _=_
   rw [HE.out,decide_eq_false (show ¬n%2=0 by omega)];simp
  have hmod:¬(n:Int)%2=0:=by omega
  clear hcast HE
  go_enter Tryz.func373,Tryz.ntmps373
  go_wp2_with (first
   | (go_at_call 147;refine (within_any _ 2 8 _).mono ?_;rintro e w_ ⟨rfl,rfl⟩;rw [h1]))
  go_ret
  exact ⟨by rw [HX.out];rfl,Below.refl _ _⟩
def ordBy (points:List Int):List Int:=insF (fun a=>points.getD a.toNat 0) (idxs points.length)
theorem ordBy_len (points:List Int):(ordBy points).length=points.length:=by rw [ordBy,insF_length,idxs_length]
theorem ordBy_mem {points:List Int}{y:Int}:y∈ordBy points↔0≤y∧y<points.length:=by rw [ordBy,(insF_perm _ _).mem_iff,idxs_mem]
theorem ordBy_nodup (points:List Int):(ordBy points).Nodup:=by
 rw [ordBy,(insF_perm _ _).nodup_iff]
 unfold idxs
 refine List.Pairwise.map _ (fun a b hab=>?_) List.nodup_range
 intro h;exact hab (by omega)
theorem cmpI_lt (a b:Int):cmpI a b<0↔a<b:=by
 unfold cmpI
 split
 ·simp;assumption
 ·split<;>simp<;>omega
theorem orderBy1_any (A:Option Addr) (c bq:Nat) (points:List Int) (a b:Nat) (W:World) (ha:a<points.length) (hb:b<points.length) (hs:SlI W A points) (q0:W.cell? ⟨bq,0,none⟩=some (.slice A points.length c)):
  Calls Tryz.prog 388 #[.int .i64 (a:Int),.int .i64 (b:Int),.pointer (some ⟨bq,0,none⟩)] W fun e W'=>∃c:Int,e=.returned (.int .i64 c)∧(c<0↔points.getD b 0<points.getD a 0)∧Below W.heap.size W W':=by
 obtain ⟨g,o,x,e,hx,cx,-⟩:=hs.at_ ha
 subst e
 obtain ⟨g2,o2,y,e,hy,cy,-⟩:=hs.at_ hb
 injection e with e;injection e with e1 e2;subst e1;subst e2
 have HX:Hid (points.getD a 0=x∧points.getD b 0=y):=by
  constructor
  ·rw [List.getD_eq_getElem?_getD,hx];rfl
  ·rw [List.getD_eq_getElem?_getD,hy];rfl
 have f1:(0:Int)≤(a:Int)∧(a:Int)<(points.length:Int):=by omega
 have f2:(0:Int)≤(b:Int)∧(b:Int)<(points.length:Int):=by omega
 clear hx hy hs
 generalize points.length=n at *
 have HC:=Lib.hid (fun W=>cmpCompare_any y x W)
 have HL:=Lib.hid (cmpI_lt y x)
 generalize cmpI y x=z at *
 go_enter Tryz.func388,Tryz.ntmps388
 go_wp2_with fail
 go_quiet (first|(go_at_call 160;exact quiet_left (HC.out _)))
 rename_i nq
 have HB:Hid (Below W.heap.size W (W.drewN nq)):=below_of_drewN _ W nq
 generalize W.drewN nq=w1 at *
 go_wp2
 go_ret
 exact ⟨z,rfl,by rw [HX.out.1,HX.out.2];exact HL.out,HB.out⟩
theorem implOrderBy_any (A:Option Addr) (c:Nat) (points:List Int) (w:World) (hs:SlI w A points) (h0:0<points.length) (hn:points.length≤19):
  Calls Tryz.prog 378 #[.slice A points.length c] w fun e w'=>∃v',e=.returned v'∧Fr w' w.heap.size w'.heap.size v' (ordBy points)∧Below w.heap.size w w':=by
 have HS:=Lib.hid hs
 have HOB:Hid (ordBy points=insF (fun a=>points.getD a.toNat 0) (idxs points.length)):=rfl
 have HB0:Hid (Below w.heap.size w (w.alloc (.cells #[.slice A points.length c] 25))∧(w.alloc (.cells #[.slice A points.length c] 25)).heap[w.heap.size]? = some (.cells #[.slice A points.length c] 25 (0,0))∧(w.alloc (.cells #[.slice A points.length c] 25)).heap.size=w.heap.size+1):=⟨(Below.refl _ w).alloc (Nat.le_refl _) _,World.alloc_heap_new w _,by simp⟩
 obtain ⟨q0,-⟩:=box_cell HB0.out.2.1
 obtain ⟨w0,hw0⟩:∃w0,w0=w.alloc (.cells #[.slice A points.length c] 25):=⟨_,rfl⟩
 rw [←hw0] at HB0 q0
 have HIX:=Lib.hid (indices_any points.length w0 (by omega))
 have hgt:¬(40:Int)<(points.length:Int):=by omega
 clear hs
 have HG:Hid (∀(w2:World) (v:Value),Fr w2 w0.heap.size w2.heap.size v (idxs points.length)→Below w0.heap.size w0 w2→∃g cc,v=.slice (some ⟨g,0,none⟩) points.length cc∧Calls Tryz.prog 371 #[.slice (some ⟨g,0,none⟩) points.length cc,.func (.func 388) #[] #[.pointer (some ⟨w.heap.size,0,none⟩)]] w2 fun e w'=>e=.returned (.tuple #[])∧Fr w' w0.heap.size w2.heap.size (.slice (some ⟨g,0,none⟩) points.length cc) (ordBy points)∧Keep w0.heap.size w2.heap.size w2 w'):=fun w2 v hf hb=>by
  obtain ⟨A',cc,rfl,_,_⟩:=hf.form
  obtain ⟨g,y,rfl,_⟩:=hf.at_ (k:=0) (by rw [idxs_length];exact h0)
  rw [idxs_length] at hf
  refine ⟨g,cc,by rw [idxs_length],?_⟩
  have h:=sortStable_any w2 w0.heap.size w2.heap.size g cc (idxs points.length) (fun a=>points.getD a.toNat 0) 388 #[.pointer (some ⟨w.heap.size,0,none⟩)] (by rw [idxs_length];exact hf) (by rw [idxs_length];exact h0) (by rw [idxs_length];exact hn) (fun _ _=>by kernel_rfl) (by
   intro W a b hk ha hb2
   obtain ⟨a1,a2⟩:=idxs_mem.1 ha
   obtain ⟨b1,b2⟩:=idxs_mem.1 hb2
   obtain ⟨a,rfl⟩:=Int.eq_ofNat_of_zero_le a1
   obtain ⟨b,rfl⟩:=Int.eq_ofNat_of_zero_le b1
   have hz:=HB0.out.2.2
   have B3:Below w0.heap.size w0 W:=hb.trans (hk.below (Nat.le_refl _) hb.size)
   have B0:Below w.heap.size w W:=HB0.out.1.trans (B3.mono (by omega))
   exact orderBy1_any A c w.heap.size points a b W (by omega) (by omega) (HS.out.below B0) ((B3.cell (p:=⟨w.heap.size,0,none⟩) (by show w.heap.size<_;omega)).trans (box_cell HB0.out.2.1).1))
  rw [idxs_length] at h
  exact h
 generalize points.length=n at *
 clear hn h0
 go_enter Tryz.func378,Tryz.ntmps378
 go_wp2_with fail
 rw [←hw0]
 clear hw0
 refine HIX.out.mono ?_
 rintro e w2 ⟨v2,rfl,hf,hb⟩
 obtain ⟨g,cc,rfl,hsort⟩:=HG.out w2 v2 hf hb
 have H2:=Lib.hid (And.intro hb hsort)
 clear hf hb hsort
 go_wp2_with fail
 refine H2.out.2.mono ?_
 rintro e w3 ⟨rfl,hf3,hk3⟩
 have H3:=Lib.hid (And.intro hf3 hk3)
 clear hf3 hk3
 go_wp2
 go_ret
 have hz:=HB0.out.2.2
 have hz2:=H2.out.1.size
 exact ⟨_,rfl,H3.out.1.wide (by omega) H3.out.2.size (Nat.le_refl _),(HB0.out.1.trans (H2.out.1.mono (by omega))).trans (H3.out.2.below (by omega) (by omega))⟩
theorem implSwissOrder_any (A:Option Addr) (c:Nat) (points:List Int) (w:World) (hs:SlI w A points) (hsw:isSwB points=true):
  Calls Tryz.prog 342 #[.slice A points.length c] w fun e w'=>∃v',e=.returned v'∧Fr w' w.heap.size w'.heap.size v' (ordBy points)∧Below w.heap.size w w':=by
 have h:=hsw
 unfold isSwB at h
 simp only [Bool.and_eq_true,decide_eq_true_eq] at h
 obtain ⟨h1,h2,-⟩:=h
 have HS:=Lib.hid hs
 have HIS:Hid (Calls Tryz.prog 373 #[.slice A points.length c] w fun e w'=>e=.returned (.bool true)∧Below w.heap.size w w'):=by
  have h:=isSwiss_any A c points w hs (by omega)
  rw [hsw] at h;exact h
 have HOB:Hid (∀W,Below w.heap.size w W→Calls Tryz.prog 378 #[.slice A points.length c] W fun e w'=>∃v',e=.returned v'∧Fr w' W.heap.size w'.heap.size v' (ordBy points)∧Below W.heap.size W w'):=fun W hW=>implOrderBy_any A c points W (HS.out.below hW) (by omega) (by omega)
 clear hs hsw h1 h2
 generalize points.length=n at *
 go_enter Tryz.func342,Tryz.ntmps342
 go_wp2_with (first
  | (go_at_call 373;refine HIS.out.mono ?_;rintro e w1 ⟨rfl,hb⟩;have B1:=Lib.hid hb;clear hb)
  | (go_at_call 378;refine (HOB.out _ B1.out).mono ?_;rintro e w2 ⟨v2,rfl,hf,hb⟩;have H2:=Lib.hid (And.intro hf hb);clear hf hb))
 go_ret
 exact ⟨_,rfl,H2.out.1.wide B1.out.size (Nat.le_refl _) (Nat.le_refl _),B1.out.trans (H2.out.2.mono B1.out.size)⟩
end Go.Proofs.YtkapoldjcpfdgaaGreatDoor
