/- Settling a ladder: what it leads to, and the games that an order has back (plain; for FnLadders). -/
import Derived.Maps.AppendAt
import Derived.Deep.RegionWith
import Derived.Test.YtkapoldjcpfdgaaGreatDoorMaj
import Derived.Test.YtkapoldjcpfdgaaGreatDoorMak
set_option maxHeartbeats 4000000
set_option maxRecDepth 100000
namespace Go.Proofs.YtkapoldjcpfdgaaGreatDoor
open Go.ChangeShapes Go.WideShapes Go.ChangeAt Go.RowKit
def nI (l:List Nat):List Int:=l.map fun (a:Nat)=>(a:Int)
theorem nI_length (l:List Nat):(nI l).length=l.length:=by simp [nI]
theorem nI_at {l:List Nat}{i:Nat} (h:i<l.length):(nI l)[i]? = some ((l.getD i 0:Nat):Int):=by
 unfold nI
 rw [List.getElem?_map,List.getD_eq_getElem?_getD,List.getElem?_eq_getElem h];rfl
theorem nI_erase (l:List Nat) (i:Nat):nI (l.eraseIdx i)=(nI l).take i++(nI l).drop (i+1):=by
 unfold nI
 rw [List.eraseIdx_eq_take_drop_succ,List.map_append,List.map_take,List.map_drop]
theorem altP_abs {f:Nat→List Nat→Int}{l:List Nat}{B:Nat} (h:∀i,i<l.length→(f (l.getD i 0) (l.eraseIdx i)).natAbs≤B):∀i,i≤l.length→(altP f l i).natAbs≤i*B
 | 0,_=>by simp [altP,smN]
 | i+1,hi=>by
  have ih:=altP_abs h i (by omega)
  have h1:=h i (by omega)
  rw [altP_succ (by omega),Nat.succ_mul]
  have h2:(sg i*f (l.getD i 0) (l.eraseIdx i)).natAbs≤B:=by
   rw [Int.natAbs_mul]
   have:(sg i).natAbs=1:=by unfold sg;split<;>rfl
   rw [this,Nat.one_mul];exact h1
  omega
theorem pfaffian_any (x:TourV) (hok:tourB x=true):∀(k:Nat),k≤3→∀(l:List Nat) (A:Option Addr) (c:Nat) (v:Value) (w:World),l.length=2*k→(∀a∈l,a<x.wins.length)→l.Nodup→InT w v x→SlI w A (nI l)→l.length≤c→c≤maxLen →
  Calls Tryz.prog 334 #[v,.slice A l.length c] w fun e w'=>e=.returned (.int .i64 (pf (Mb (bt x.wins)) k l))∧Below w.heap.size w w':=by
 intro k
 induction k with
 | zero=>
  intro _ l A c v w hl _ _ hs _ _ _
  obtain rfl:=List.eq_nil_of_length_eq_zero hl
  obtain ⟨u,rfl,B,d,rfl,hd,hm,hsl⟩:=hs
  go_enter Tryz.func334,Tryz.ntmps334
  go_wp2
  go_ret
  exact ⟨rfl,(Below.refl _ w).alloc (Nat.le_refl _) _⟩
 | succ k ih=>
  intro hk3 l A c v w hl hmem hnd hs hsl hc hcm
  obtain ⟨a,m,rfl⟩:∃a m,l=a :: m:=(by cases l with|nil=>simp at hl|cons a m=>exact ⟨a,m,rfl⟩)
  have hml:m.length=2*k+1:=by have:=hl;rw [List.length_cons] at this;omega
  have HREC:=Lib.hid (ih (by omega))
  have HIT:=Lib.hid hs
  have HIL:=Lib.hid hsl
  obtain ⟨u,rfl,B,d,rfl,hd,hm,hts⟩:=hs
  obtain ⟨t1,t2,t3,t4,_⟩:=tourB_t hok
  have hn8:x.wins.length≤8:=by omega
  obtain ⟨b,off,y0,rfl,hy0,hc0,hbl⟩:=hsl.at_ (k:=0) (by rw [nI_length];simp)
  rw [Nat.add_zero] at hc0
  obtain rfl:y0=(a:Int):=by rw [nI_at (by simp)] at hy0;injection hy0 with hy0;exact hy0.symm
  rw [show (a :: m).length=m.length+1 from rfl] at hc ⊢
  have HF:Hid (pf (Mb (bt x.wins)) (k+1) (a :: m)=altP (fun y r=>Mb (bt x.wins) a y*pf (Mb (bt x.wins)) k r) m m.length):=by show _=_;rw [altP_all];rfl
  obtain ⟨f,Hf⟩:∃f,Hid ((fun y r=>Mb (bt x.wins) a y*pf (Mb (bt x.wins)) k r)=f):=⟨_,rfl⟩
  rw [Hf.out] at HF
  have HSUM:Hid (∀q,q<m.length→altP f m (q+1)=altP f m q+sg q*(Mb (bt x.wins) a (m.getD q 0)*pf (Mb (bt x.wins)) k (m.eraseIdx q))):=fun q hq=>by rw [altP_succ hq,←Hf.out]
  have HPA:Hid (∀q,q<m.length→(pf (Mb (bt x.wins)) k (m.eraseIdx q)).natAbs≤3):=fun q hq=>by
   have h1:=pf_abs (Mb_abs (bt x.wins)) k (m.eraseIdx q) (by rw [List.length_eraseIdx_of_lt hq];omega)
   have h2:dfact k≤3:=by
    match k,hk3 with
    | 0,_=>decide
    | 1,_=>decide
    | 2,_=>decide
   omega
  have HSB:Hid (∀q,q≤m.length→(altP f m q).natAbs≤q*3):=fun q hq=>altP_abs (fun i hi=>by
   rw [←Hf.out,Int.natAbs_mul]
   have h1:=HPA.out i hi
   have h2:=Mb_abs (bt x.wins) a (m.getD i 0)
   have h3:=Nat.mul_le_mul h2 h1
   omega) q hq
  have HNE:Hid (∀q,q<m.length→m.getD q 0<x.wins.length∧bt x.wins a (m.getD q 0)≠bt x.wins (m.getD q 0) a):=fun q hq=>by
   have h1:m.getD q 0∈m:=by rw [List.getD_eq_getElem?_getD,List.getElem?_eq_getElem hq];exact List.getElem_mem hq
   have h2:=hmem _ (List.mem_cons_of_mem _ h1)
   refine ⟨h2,tourB_anti hok (hmem a (List.mem_cons_self ..)) h2 ?_⟩
   rintro rfl
   exact (List.nodup_cons.1 hnd).1 h1
  have ha:a<x.wins.length:=hmem a (List.mem_cons_self ..)
  have HBT:Hid (∀V (q:Nat),Below w.heap.size w V→q<m.length→Calls Tryz.prog 150 #[.agg #[.int .i64 x.size,.slice B x.wins.length d],.int .i64 (a:Int),.int .i64 ((m.getD q 0:Nat):Int)] V fun e w'=>e=.returned (.bool (bt x.wins a (m.getD q 0)))∧Below V.heap.size V w'):=fun V q hV hq=>implBeats_any _ x a _ V (HIT.out.below hV) hn8 t4 ha (by have:=(HNE.out q hq).1;omega)
  have HLC:Hid (∀V,Below w.heap.size w V→V.cell? ⟨b,off,none⟩=some (.int .i64 (a:Int))):=fun V hV=>(hV.cell (block_lt_of_cell hc0)).trans hc0
  have HLQ:Hid (∀V q,Below w.heap.size w V→q<m.length→V.cell? ⟨b,off+(q+1),none⟩=some (.int .i64 ((m.getD q 0:Nat):Int))):=fun V q hV hq=>by
   obtain ⟨b2,off2,y,e,hy,hcy,hlt⟩:=HIL.out.at_ (k:=q+1) (by rw [nI_length,List.length_cons];omega)
   injection e with e;injection e with e1 e2;subst e1;subst e2
   rw [nI_at (by rw [List.length_cons];omega)] at hy
   injection hy with hy
   subst hy
   exact (hV.cell (block_lt_of_cell hcy)).trans hcy
  have HREC2:Hid (∀V q A c,Below w.heap.size w V→q<m.length→SlI V A (nI (m.eraseIdx q))→(nI (m.eraseIdx q)).length≤c→c≤maxLen→Calls Tryz.prog 334 #[.agg #[.int .i64 x.size,.slice B x.wins.length d],.slice A (nI (m.eraseIdx q)).length c] V fun e w'=>e=.returned (.int .i64 (pf (Mb (bt x.wins)) k (m.eraseIdx q)))∧Below V.heap.size V w'):=fun V q A c hV hq h1 h2 h3=>by
   rw [nI_length] at h2 ⊢
   exact HREC.out (m.eraseIdx q) A c _ V (by rw [List.length_eraseIdx_of_lt hq];omega) (fun z hz=>hmem z (List.mem_cons_of_mem _ (List.mem_of_mem_eraseIdx hz))) ((List.nodup_cons.1 hnd).2.eraseIdx q) (HIT.out.below hV) h1 h2 h3
  have HCAT:Hid (∀V (q:Nat) (Ad2:Addr) (c1 c2 n1 n2:Nat),Below w.heap.size w V→q<m.length→n1=q→n2=m.length-(q+1)→(Ad2=⟨b,off+(q+2),none⟩∨(c=q+2∧Ad2=⟨b,off,none⟩)) →
    Calls Tryz.prog 264 #[.slice (some ⟨V.heap.size,0,none⟩) 2 2] (V.alloc (.cells #[.slice (some ⟨b,off+1,none⟩) n1 c1,.slice (some Ad2) n2 c2] 25)).drew fun e w'=>∃A c,e=.returned (.slice A (nI (m.eraseIdx q)).length c)∧Fr w' V.heap.size w'.heap.size (.slice A (nI (m.eraseIdx q)).length c) (nI (m.eraseIdx q))∧Below V.heap.size V w'):=fun V q Ad2 c1 c2 n1 n2 hV hq e1 e2 hA=>by
   have hnl:=nI_length m
   have hs1:SlI V (some ⟨b,off+1,none⟩) ((nI m).take q):=((SlI.below HIL.out hV).drop_ 1).take_ q
   have hs2:SlI V (some Ad2) ((nI m).drop (q+1)):=by
    rcases hA with rfl|⟨h1,rfl⟩
    ·have:=(SlI.below HIL.out hV).drop_ (q+2);exact this
    ·refine .inl (List.eq_nil_of_length_eq_zero ?_)
     rw [List.length_drop,hnl];omega
   obtain rfl:((nI m).take q).length=n1:=by rw [List.length_take,hnl];omega
   obtain rfl:((nI m).drop (q+1)).length=n2:=by rw [List.length_drop,hnl];omega
   rw [nI_erase]
   refine (concatI_any V.heap.size _ _ c1 c2 _ _ (V.alloc _).drew (by simp) (by simp) (hs1.alloc _).drew (hs2.alloc _).drew (by omega) (by omega)).mono ?_
   rintro e w' ⟨A,c,rfl,hf,hb⟩
   exact ⟨A,c,rfl,hf.wide (by simp) (Nat.le_refl _) (Nat.le_refl _),(((Below.refl _ V).alloc (Nat.le_refl _) _).drew).trans (hb.mono (by simp))⟩
  have H0:Hid (Bx (w.alloc (.cells #[.int .i64 x.size,.slice B x.wins.length d] 27)) w.heap.size (.int .i64 x.size) (.slice B x.wins.length d)∧Below w.heap.size w (w.alloc (.cells #[.int .i64 x.size,.slice B x.wins.length d] 27))):=⟨⟨by simp,by simp,by simp⟩,(Below.refl _ w).alloc (Nat.le_refl _) _⟩
  clear hsl hy0 hbl hts hl hmem hnd t1 t2 t4 hd hm hok
  have hm5:m.length≤5:=by omega
  have hnz:¬((m.length:Int)+1=0):=by omega
  have hnzb:(((m.length:Int)+1)==0)=false:=by simpa using hnz
  clear hml
  go_enter Tryz.func334,Tryz.ntmps334
  go_wp2
  go_loopw [5,6,7] (fun s g i wr=>∃q:Nat,q≤m.length∧i=.int .i64 ((q:Int)+1)∧g=.int .i64 (sg q)∧s=.int .i64 (altP f m q)∧Hid (Bx wr w.heap.size (.int .i64 x.size) (.slice B x.wins.length d)∧Below w.heap.size w wr)) (fun _ _ i _=>m.length+1-(intOf i).toNat)
  case atStart=>exact ⟨0,Nat.zero_le _,rfl,rfl,rfl,H0.out⟩
  case round=>
   obtain ⟨q,hq,rfl,rfl,rfl,HR⟩:=hrel
   obtain ⟨wo,rfl⟩:∃W,W=wr:=⟨wr,rfl⟩
   clear H0
   by_cases hlt:q<m.length
   case neg=>
    obtain rfl:q=m.length:=by omega
    go_wp2
    go_ret
    exact ⟨by rw [HF.out];rfl,HR.out.2⟩
   obtain ⟨q0,q1,q2⟩:=id HR.out.1
   have hpa:=HPA.out q hlt
   have hsb:=HSB.out q hq
   obtain ⟨hb8,hne⟩:=HNE.out q hlt
   have HRC:=Lib.hid (fun V A c=>HREC2.out V q A c)
   have HNX:=HSUM.out q hlt
   generalize pf (Mb (bt x.wins)) k (m.eraseIdx q)=P at *
   have hsg:sg q=1∨sg q = -1:=by unfold sg;split;exact .inl rfl;exact .inr rfl
   have hsgn:=sg_succ q
   obtain ⟨G,hG⟩:∃G,G=sg q:=⟨_,rfl⟩
   rw [←hG] at hsg hsgn HNX ⊢
   have HGP:Hid ((G*P=P∨G*P = -P)):=by
    rcases hsg with h|h
    ·rw [h];exact .inl (Int.one_mul _)
    ·rw [h];exact .inr (by omega)
   obtain ⟨Z,hZ⟩:∃Z,G*P=Z:=⟨_,rfl⟩
   clear hG
   have hZw:IntKind.i64.wrap Z=Z:=by rw [IntKind.wrap_i64];have:=HGP.out;rw [hZ] at this;omega
   have hZb:-3≤Z∧Z≤3:=by
    have:=HGP.out
    rw [hZ] at this;omega
   have f1:(0:Int)≤(q:Int)+1:=by omega
   have f2:(1:Int)≤(q:Int)+1:=by omega
   have f3:(q:Int)+1≤(c:Int):=by omega
   have f4:(0:Int)≤(q:Int)+2:=by omega
   have f5:(q:Int)+2≤(m.length:Int)+1:=by omega
   have f6:IntKind.i64.wrap ((q:Int)+1+1)=(q:Int)+2:=by rw [IntKind.wrap_i64];omega
   have f7:¬(c=1):=by omega
   have f8:((q:Int)+2).toNat=q+2:=by omega
   have f9:m.length+1-(q+2)=m.length-(q+1):=by omega
   obtain ⟨Ad2,hif,HAd⟩:∃Ad2:Addr,(if c=q+2 then some (⟨b,off,none⟩:Addr) else some ⟨b,off+(q+2),none⟩)=some Ad2∧Hid (Ad2=⟨b,off+(q+2),none⟩∨(c=q+2∧Ad2=⟨b,off,none⟩)):=by
    by_cases h:c=q+2
    ·exact ⟨⟨b,off,none⟩,by rw [if_pos h],.inr ⟨h,rfl⟩⟩
    ·exact ⟨⟨b,off+(q+2),none⟩,by rw [if_neg h],.inl rfl⟩
   go_upto_region 7 with (fail)
   refine wp_region_noPanic ?_
   refine wp_region_held_drew (S:=fun W=>W.cell? ⟨w.heap.size,0,none⟩=some (.int .i64 x.size)∧W.cell? ⟨w.heap.size,1,none⟩=some (.slice B x.wins.length d)) (by kernel_rfl) ⟨q0,q1⟩ (fun hHeld=>?_)
   refine wT 0 _ ?_
   try simp only [pu]
   refine wT 1 _ ?_
   try simp only [pu]
   refine wT 2 (.slice (some ⟨b,off,none⟩) (m.length+1) c) ?_
   try simp only [pu]
   refine wT 3 _ ?_
   try simp only [pu]
   refine wT 4 (.slice (some ⟨b,off+1,none⟩) q (c-1)) ?_
   try simp only [pu]
   refine wT 5 (.slice (some ⟨b,off,none⟩) (m.length+1) c) ?_
   try simp only [pu]
   refine wT 6 _ ?_
   try simp only [pu]
   refine wT 7 _ ?_
   try simp only [pu]
   refine wT 8 (.slice (some Ad2) (m.length-(q+1)) (c-(q+2))) ?_
   try simp only [pu]
   refine wpAnyH_ready (rs:=[9]) (by kernel_rfl) (by simp) ?_
   refine AllReadyH.cons rfl (fun K hK=>?_) AllReadyH.nil
   go_simp
   have q0':=(Below.refl wo.heap.size wo).alloc (Nat.le_refl _) (.cells #[] 3)
   clear q0'
   refine hK.out _ _ ⟨(World.cell?_alloc_lt wo _ ⟨w.heap.size,0,none⟩ q2).trans q0,(World.cell?_alloc_lt wo _ ⟨w.heap.size,1,none⟩ q2).trans q1⟩ (fun hHeld=>?_)
   clear hK K
   try simp only [Act.put,List.setIfInBounds_toArray,List.set_cons_zero,List.set_cons_succ]
   refine wR 10 (fun K hK=>?_)
   go_simp
   go_at_call 264
   (with_reducible refine (HCAT.out wo q _ _ _ _ _ HR.out.2 hlt rfl rfl HAd.out).mono ?_)
   rintro e w3 ⟨A3,c3,rfl,hf3,hb3⟩
   have H3:Hid (Fr w3 wo.heap.size w3.heap.size (.slice A3 (nI (m.eraseIdx q)).length c3) (nI (m.eraseIdx q))∧Below wo.heap.size wo w3∧(nI (m.eraseIdx q)).length≤c3∧c3≤maxLen):=⟨hf3,hb3,by obtain ⟨A',c',e,h1,h2⟩:=hf3.form;injection e with e1 e2 e3;subst e3;exact ⟨h1,h2⟩⟩
   try (go_wp2_with fail)
   refine hK.out _ _ ⟨(HR.out.1.below H3.out.2.1).1,(HR.out.1.below H3.out.2.1).2.1⟩ (fun hHeld=>?_)
   clear hK K
   try simp only [pu]
   clear hf3 hb3
   refine wR 11 (fun K hK=>?_)
   go_simp
   go_at_call 334
   (with_reducible refine (HRC.out w3 A3 c3 (HR.out.2.trans (H3.out.2.1.mono HR.out.2.size)) hlt H3.out.1.sl H3.out.2.2.1 H3.out.2.2.2).mono ?_)
   rintro e w4 ⟨rfl,hb4⟩
   have H4:Hid (Bx w4 w.heap.size (.int .i64 x.size) (.slice B x.wins.length d)∧Below w.heap.size w w4):=⟨(HR.out.1.below H3.out.2.1).below hb4,HR.out.2.trans ((H3.out.2.1.trans (hb4.mono H3.out.2.1.size)).mono HR.out.2.size)⟩
   try (go_wp2_with fail)
   refine hK.out _ _ ⟨H4.out.1.1,H4.out.1.2.1⟩ (fun hHeld=>?_)
   clear hK K
   try simp only [pu]
   clear hb4
   refine wT 12 _ ?_
   try simp only [pu]
   refine wT 13 _ ?_
   try simp only [pu]
   refine wpAnyH_done (by kernel_rfl) ?_ _
   refine NoPanic.normal ?_
   obtain ⟨r0,r1,r2⟩:=id H4.out.1
   have k0:=HLC.out w4 H4.out.2
   have k1:=HLQ.out w4 q H4.out.2 hlt
   have HKK:Hid (∀V,Below w.heap.size w V→V.cell? ⟨b,off,none⟩=some (.int .i64 (a:Int))∧V.cell? ⟨b,off+(q+1),none⟩=some (.int .i64 ((m.getD q 0:Nat):Int))):=fun V hV=>⟨HLC.out V hV,HLQ.out V q hV hlt⟩
   have HBQ:=Lib.hid (fun V hV=>HBT.out V q hV hlt)
   have HEQ:Hid (Mb (bt x.wins) a (m.getD q 0)=if bt x.wins a (m.getD q 0) then 1 else -1):=by
    show _=_
    cases e:bt x.wins a (m.getD q 0)
    ·rw [Mb_f e hne];rfl
    ·rw [Mb_t e hne];rfl
   have f11:(0:Int)<(m.length:Int)+1:=by omega
   have f12:(q:Int)+1<(m.length:Int)+1:=by omega
   have f13:((q:Int)+1).toNat=q+1:=by omega
   generalize (m.getD q 0)=p at *
   generalize Mb (bt x.wins) a p=MM at *
   go_upto_region 8 with (fail)
   refine wp_region_noPanic ?_
   refine wp_region_held_drew (S:=fun W=>W.cell? ⟨w.heap.size,0,none⟩=some (.int .i64 x.size)∧W.cell? ⟨w.heap.size,1,none⟩=some (.slice B x.wins.length d)∧W.cell? ⟨b,off,none⟩=some (.int .i64 (a:Int))∧W.cell? ⟨b,off+(q+1),none⟩=some (.int .i64 (p:Int))) (by kernel_rfl) ⟨r0,r1,k0,k1⟩ (fun hHeld=>?_)
   refine wT 0 (.agg #[.int .i64 x.size,.slice B x.wins.length d]) ?_
   try simp only [pu]
   refine wT 1 (.slice (some ⟨b,off,none⟩) (m.length+1) c) ?_
   try simp only [pu]
   refine wT 2 (.pointer (some ⟨b,off,none⟩)) ?_
   try simp only [pu]
   refine wT 3 (.int .i64 (a:Int)) ?_
   try simp only [pu]
   refine wT 4 (.slice (some ⟨b,off,none⟩) (m.length+1) c) ?_
   try simp only [pu]
   refine wT 5 (.int .i64 ((q:Int)+1)) ?_
   try simp only [pu]
   refine wT 6 (.pointer (some ⟨b,off+(q+1),none⟩)) ?_
   try simp only [pu]
   refine wT 7 (.int .i64 (p:Int)) ?_
   try simp only [pu]
   refine wR 8 (fun K hK=>?_)
   go_simp
   go_at_call 150
   (with_reducible refine (HBQ.out w4.drew H4.out.2.drew).mono ?_)
   rintro e w5 ⟨rfl,hb5⟩
   have H5:Hid (Bx w5 w.heap.size (.int .i64 x.size) (.slice B x.wins.length d)∧Below w.heap.size w w5):=⟨(show Bx w4.drew w.heap.size (.int .i64 x.size) (.slice B x.wins.length d) from H4.out.1).below hb5,H4.out.2.drew.trans (hb5.mono H4.out.2.size)⟩
   try (go_wp2_with fail)
   refine hK.out _ _ ⟨H5.out.1.1,H5.out.1.2.1,HKK.out _ H5.out.2⟩ (fun hHeld=>?_)
   clear hK K
   try simp only [pu]
   clear hb5
   refine wpAnyH_done (by kernel_rfl) ?_ _
   refine NoPanic.normal ?_
   have HALT:=Lib.hid HNX
   clear HNX k0 k1 r0 r1 r2 q0 q1 q2 hHeld
   cases e:bt x.wins a p
   ·have hA:altP f m (q+1)=altP f m q-Z:=by
     have h1:=HEQ.out
     rw [e] at h1
     rw [HALT.out,h1,←hZ]
     simp [Int.sub_eq_add_neg,Int.mul_neg]
    clear HEQ hZ
    generalize altP f m q=S at *
    have hs1:-12≤S∧S≤12:=by omega
    clear f12 f13
    go_wp2
    go_roundw
    case rel=>exact ⟨q+1,by omega,by go_num,by rw [hsgn],by rw [hA],H5.out⟩
    case measure=>simp [intOf];omega
   ·have hA:altP f m (q+1)=altP f m q+Z:=by
     have h1:=HEQ.out
     rw [e] at h1
     rw [HALT.out,h1,←hZ]
     simp
    clear HEQ hZ
    generalize altP f m q=S at *
    have hs1:-12≤S∧S≤12:=by omega
    clear f12 f13
    go_wp2
    go_roundw
    case rel=>exact ⟨q+1,by omega,by go_num,by rw [hsgn],by rw [hA],H5.out⟩
    case measure=>simp [intOf];omega
def orN (v:Int) (b:Nat):Int:=((v.toNat ||| 2^b:Nat):Int)
theorem or_sm:∀v:Fin 256,∀b:Fin 8,bits BinOp.or IntKind.i64 (v.val:Int) (2^b.val)=((v.val ||| 2^b.val:Nat):Int)∧v.val ||| 2^b.val≤255:=by decide +kernel
theorem or_at {v:Int}{b:Nat} (h1:0≤v) (h2:v≤255) (hb:b<8):bits BinOp.or IntKind.i64 v (2^b)=orN v b∧0≤orN v b∧orN v b≤255:=by
 have h:=or_sm ⟨v.toNat,by omega⟩ ⟨b,hb⟩
 simp only [Int.toNat_of_nonneg h1] at h
 exact ⟨h.1,by unfold orN;omega,by unfold orN;omega⟩
def rnR (x:TourV) (nm:List Nat) (a:Nat) (xs:List Int):Nat→List Int
 | 0=>xs
 | b+1=>if bt x.wins a b then (rnR x nm a xs b).set (nm.getD a 0) (orN ((rnR x nm a xs b).getD (nm.getD a 0) 0) (nm.getD b 0)) else rnR x nm a xs b
def rnT (x:TourV) (nm:List Nat):Nat→List Int
 | 0=>List.replicate x.wins.length 0
 | a+1=>rnR x nm a (rnT x nm a) x.wins.length
def renL (x:TourV) (nm:List Nat):List Int:=rnT x nm x.wins.length
theorem rnR_len (x:TourV) (nm:List Nat) (a:Nat) (xs:List Int):∀b,(rnR x nm a xs b).length=xs.length
 | 0=>rfl
 | b+1=>by
  rw [rnR]
  split
  ·rw [List.length_set,rnR_len x nm a xs b]
  ·exact rnR_len x nm a xs b
theorem rnT_len (x:TourV) (nm:List Nat):∀a,(rnT x nm a).length=x.wins.length
 | 0=>by simp [rnT]
 | a+1=>by rw [rnT,rnR_len,rnT_len x nm a]
theorem set_bd {xs:List Int}{i:Nat}{z:Int} (h:∀y∈xs,0≤y∧y≤255) (hz:0≤z∧z≤255):∀y∈xs.set i z,0≤y∧y≤255:=fun y hy=>by
 rcases List.mem_or_eq_of_mem_set hy with h1|h1
 ·exact h y h1
 ·rw [h1];exact hz
theorem getD_bd {xs:List Int}{i:Nat} (h:∀y∈xs,0≤y∧y≤255):0≤xs.getD i 0∧xs.getD i 0≤255:=by
 rw [List.getD_eq_getElem?_getD]
 cases e:xs[i]? with
 | none=>simp
 | some y=>exact h y (List.mem_of_getElem? e)
theorem rnR_bd {x:TourV}{nm:List Nat}{n:Nat} (hn:n≤8) (hnm:∀i,nm.getD i 0<n) {a:Nat}{xs:List Int} (h:∀y∈xs,0≤y∧y≤255):∀b,∀y∈rnR x nm a xs b,0≤y∧y≤255
 | 0=>h
 | b+1=>by
  have ih:=rnR_bd hn hnm (x:=x) (a:=a) h b
  rw [rnR]
  split
  ·obtain ⟨g1,g2⟩:=getD_bd (i:=nm.getD a 0) ih
   exact set_bd ih (or_at g1 g2 (by have:=hnm b;omega)).2
  ·exact ih
theorem rnT_bd {x:TourV}{nm:List Nat}{n:Nat} (hn:n≤8) (hnm:∀i,nm.getD i 0<n):∀a,∀y∈rnT x nm a,0≤y∧y≤255
 | 0=>fun y hy=>by rw [rnT,List.mem_replicate] at hy;omega
 | a+1=>rnR_bd hn hnm (rnT_bd hn hnm a) _
theorem setCell_size1 (w:World) (a:Addr) (v:Value):(w.setCell a v).heap.size=w.heap.size:=by simp [World.setCell]
theorem setCell_drew_size (w:World) (a:Addr) (v:Value):(w.drew.setCell a v).heap.size=w.heap.size:=setCell_size1 w.drew a v
noncomputable def rnTailC:Code:=((Tryz.f169.body.map (codeAtK 2)).getD []).getD 0 .skip
theorem rnTail (w wo:World) (x:TourV) (g7 g c n bx ox d bn on cn:Nat) (nm:List Nat) (hok:tourB x=true) (hxn:x.wins.length=n) (HF:Hid (FpAt w wo g7 g c n (n:Int) (rnT x nm 0))) (hN:nm.length=n) (hnm:∀i,nm.getD i 0<n)
  (HQ:Hid (∀W,Below w.heap.size w W→SlI W (some ⟨bx,ox,none⟩) x.wins∧SlI W (some ⟨bn,on,none⟩) (nI nm))) (HBX:Hid (Bx wo w.heap.size (.int .i64 (n:Int)) (.slice (some ⟨bx,ox,none⟩) n d))) (_hcn:n≤cn∧cn≤9223372036854775807) (l0 l3 l6 l7 l8 l9 l10 l11 l12 l13 l14 l15 l16 l17 l18 l19 l20 l21 l22 l23 l24 l25 l26 l27 l28 l29 l30 l31 l32 l33 l34 l35 l36 l37 l38 l39 l40 l41 l42 l43 l44 l45 l46 l47 l48 l49 l50:Value):
  Code.wp Tryz.prog rnTailC (bodyPost Tryz.prog Tryz.f169 fun e w'=>∃v',e=.returned v'∧OwT w' w.heap.size w'.heap.size v' ⟨(n:Int),renL x nm⟩∧Below w.heap.size w w') ⟨(List.toArray (l0 :: (.slice (some ⟨bn,on,none⟩) n cn:Value) :: (.pointer (some ⟨w.heap.size,0,none⟩):Value) :: l3 :: (.pointer (some ⟨w.heap.size+1,0,none⟩):Value) :: (.pointer (some ⟨g7,0,none⟩):Value) :: l6 :: l7 :: l8 :: l9 :: l10 :: l11 :: l12 :: l13 :: l14 :: l15 :: l16 :: l17 :: l18 :: l19 :: l20 :: l21 :: l22 :: l23 :: l24 :: l25 :: l26 :: l27 :: l28 :: l29 :: l30 :: l31 :: l32 :: l33 :: l34 :: l35 :: l36 :: l37 :: l38 :: l39 :: l40 :: l41 :: l42 :: l43 :: l44 :: l45 :: l46 :: l47 :: l48 :: l49 :: l50 :: [])),[]⟩ wo:=by
 conv=>arg 2;whnf
 obtain ⟨t1,t2,t3,t4,_⟩:=tourB_t hok
 have hn8:n≤8:=by omega
 have HWB:=Lib.hid t4
 have HNM:=Lib.hid hnm
 have HNL:=Lib.hid hN
 have HXN:=Lib.hid hxn
 have HRE:Hid (rnT x nm n=renL x nm):=by show _=_;unfold renL;rw [hxn]
 have HT1:Hid (∀a,rnT x nm (a+1)=rnR x nm a (rnT x nm a) n):=fun a=>by rw [rnT,hxn]
 have HTL:Hid (∀a,(rnT x nm a).length=n):=fun a=>(rnT_len x nm a).trans hxn
 have HTB:Hid (∀a y,y∈rnT x nm a→0≤y∧y≤255):=fun a y hy=>rnT_bd hn8 hnm a y hy
 obtain ⟨q0,q1,q2⟩:=id HBX.out
 clear t1 t2 t3 t4 hok hnm hN
 go_wp2
 rename_i hK1
 have HK1:=Lib.hid hK1
 clear hK1 q0 q1
 go_loopw [18] (fun i wr=>∃a:Nat,a≤n∧i=.int .i64 (a:Int)∧Hid (FpAt w wr g7 g c n (n:Int) (rnT x nm a)∧Bx wr w.heap.size (.int .i64 (n:Int)) (.slice (some ⟨bx,ox,none⟩) n d))) (fun i _=>n-(intOf i).toNat)
 case atStart=>exact ⟨0,Nat.zero_le _,rfl,HF.out,HBX.out⟩
 case round=>
  obtain ⟨a,ha,rfl,HR⟩:=hrel
  clear HF HBX
  obtain ⟨wz,rfl⟩:∃W,W=wr:=⟨wr,rfl⟩
  by_cases hlt:a<n
  case neg=>
   obtain rfl:n=a:=by omega
   rw [HRE.out] at HR
   obtain ⟨q0,q1,-⟩:=id HR.out.1.bx
   obtain ⟨s0,z0⟩:=HR.out.1.z0
   obtain ⟨s1,z1⟩:=HR.out.1.z1
   have f0:=HR.out.1.f0
   have f1:=HR.out.1.f1
   have HD:=Lib.hid (HR.out.1.done (by rw [←HRE.out];exact HTL.out n))
   go_wp2
   refine HK1.out _ _ ?_
   go_wp2
   refine bodyPost_ret (v:=.agg #[.int .i64 (n:Int),.slice (some ⟨g,0,none⟩) n c]) (by simp [results,Tryz.results169,go_sem,z0,z1]) rfl ⟨_,rfl,HD.out⟩
  obtain ⟨hqx,hqn⟩:=HQ.out wz HR.out.1.be
  obtain ⟨bx',ox',y,e,hy,cy,-⟩:=hqx.at_ (k:=a) (by rw [hxn];exact hlt)
  injection e with e;injection e with e1 e2;subst e1;subst e2
  obtain ⟨y1,y2⟩:=winsB_at (by omega) HWB.out hy
  have HBY:Hid (∀b,bt x.wins a b=y.toNat.testBit b):=fun b=>by rw [bt,List.getD_eq_getElem?_getD,hy];rfl
  obtain ⟨q0,q1,-⟩:=id HR.out.2
  have HSN:Hid (rnR x nm a (rnT x nm a) n=rnT x nm (a+1)):=(HT1.out a).symm
  have HR0:Hid (FpAt w wz g7 g c n (n:Int) (rnR x nm a (rnT x nm a) 0)∧Bx wz w.heap.size (.int .i64 (n:Int)) (.slice (some ⟨bx,ox,none⟩) n d)):=HR.out
  have HRL:Hid (∀b,(rnR x nm a (rnT x nm a) b).length=n):=fun b=>(rnR_len ..).trans (HTL.out a)
  have HRB:Hid (∀b y,y∈rnR x nm a (rnT x nm a) b→0≤y∧y≤255):=fun b y hy=>rnR_bd hn8 HNM.out (HTB.out a) b y hy
  have HRS:Hid (∀b,rnR x nm a (rnT x nm a) (b+1)=if bt x.wins a b then (rnR x nm a (rnT x nm a) b).set (nm.getD a 0) (orN ((rnR x nm a (rnT x nm a) b).getD (nm.getD a 0) 0) (nm.getD b 0)) else rnR x nm a (rnT x nm a) b):=fun b=>rfl
  obtain ⟨ρ,hρ⟩:∃ ρ:Nat→List Int,∀b,rnR x nm a (rnT x nm a) b=ρ b:=⟨_,fun _=>rfl⟩
  simp only [hρ] at HSN HR0 HRL HRB HRS
  clear hy hqx hqn hρ HR
  go_wp2
  clear q0 q1 cy
  go_loopw [25] (fun i wr=>∃b:Nat,b≤n∧i=.int .i64 (b:Int)∧Hid (FpAt w wr g7 g c n (n:Int) (ρ b)∧Bx wr w.heap.size (.int .i64 (n:Int)) (.slice (some ⟨bx,ox,none⟩) n d))) (fun i _=>n-(intOf i).toNat)
  case atStart=>exact ⟨0,Nat.zero_le _,rfl,HR0.out⟩
  case round=>
   obtain ⟨b,hb,rfl,HI⟩:=hrel
   clear HR0
   obtain ⟨wy,rfl⟩:∃W,W=wr:=⟨wr,rfl⟩
   by_cases hbl:b<n
   case neg=>
    obtain rfl:n=b:=by omega
    rw [HSN.out] at HI
    go_wp2
    go_roundw
    case rel=>exact ⟨a+1,by omega,by go_num,HI.out⟩
    case measure=>simp [intOf];omega
   have bz:=bit_at y1 y2 (show b≤7 by omega)
   rw [←HBY.out b] at bz
   have hrs:=HRS.out b
   cases htb:bt x.wins a b
   ·rw [htb] at bz
    have HN2:Hid (ρ (b+1)=ρ b):=by show _=_;rw [hrs,htb];rfl
    simp only [Bool.false_eq_true,if_false] at bz
    clear htb hrs
    go_wp2
    go_roundw
    case rel=>exact ⟨b+1,by omega,by go_num,by rw [HN2.out];exact HI.out⟩
    case measure=>simp [intOf];omega
   ·rw [htb] at bz hrs
    simp only [if_true] at bz hrs
    clear htb
    have hpn:=HNM.out a
    have hqn:=HNM.out b
    obtain ⟨-,hsn⟩:=HQ.out wy HI.out.1.be
    obtain ⟨b1,o1,v1,e,hv1,c1,-⟩:=hsn.at_ (k:=a) (by rw [nI_length,HNL.out];exact hlt)
    injection e with e;injection e with e1 e2;subst e1;subst e2
    rw [nI_at (by rw [HNL.out];exact hlt)] at hv1
    injection hv1 with hv1;subst hv1
    obtain ⟨b1,o1,v1,e,hv1,c2,-⟩:=hsn.at_ (k:=b) (by rw [nI_length,HNL.out];exact hbl)
    injection e with e;injection e with e1 e2;subst e1;subst e2
    rw [nI_at (by rw [HNL.out];exact hbl)] at hv1
    injection hv1 with hv1;subst hv1
    generalize nm.getD a 0=p at *
    generalize nm.getD b 0=q at *
    obtain ⟨z,hz,cz,fz,hst⟩:=HI.out.1.drew.set (a:=p) (by rw [HRL.out];exact hpn)
    obtain ⟨z1,z2⟩:=HRB.out b z (List.mem_of_getElem? hz)
    obtain ⟨x1,-,-⟩:=or_at z1 z2 (show q<8 by omega)
    have p1:=(pow8i ⟨q,by omega⟩).1
    simp only at p1
    have hgz:(ρ b).getD p 0=z:=by rw [List.getD_eq_getElem?_getD,hz];rfl
    rw [hgz] at hrs
    have h2:=hst (orN z q)
    rw [←hrs] at h2
    have H2:Hid (FpAt w (wy.drew.setCell ⟨g,p,none⟩ (.int .i64 (orN z q))) g7 g c n (n:Int) (ρ (b+1))∧Bx (wy.drew.setCell ⟨g,p,none⟩ (.int .i64 (orN z q))) w.heap.size (.int .i64 (n:Int)) (.slice (some ⟨bx,ox,none⟩) n d)):=by
     refine ⟨h2,?_⟩
     have hne:(w.heap.size:Nat)≠g:=by have:=(HI.out.1.fr.1.lt g rfl).1;omega
     exact ⟨(World.cell?_setCell_other _ _ _ _ (by intro e;simp only [Addr.mk.injEq] at e;exact hne e.1.symm)).trans HI.out.2.1,(World.cell?_setCell_other _ _ _ _ (by intro e;simp only [Addr.mk.injEq] at e;exact hne e.1.symm)).trans HI.out.2.2.1,Nat.lt_of_lt_of_le HI.out.2.2.2 (Nat.le_of_eq (setCell_drew_size wy _ _).symm)⟩
    have f1:(0:Int)≤(p:Int)∧(p:Int)<(n:Int):=by omega
    have f2:(0:Int)≤(a:Int)∧(a:Int)<(n:Int):=by omega
    have f3:(0:Int)≤(b:Int)∧(b:Int)<(n:Int):=by omega
    obtain ⟨u0,u1,-⟩:=id HI.out.1.bx
    clear hst h2 hz hgz hrs hsn
    go_wp2
    refine wp_region_still_tail 15 (by kernel_rfl) (by kernel_rfl) ?_
    simp only [List.take_succ_cons,List.take_zero,List.drop_succ_cons,List.drop_zero]
    repeat still_step
    refine wpStill_nil ?_
    change wpList _ _ _ _ _ wy.drew
    have cz':wy.drew.cell? ⟨g,p,none⟩=some (.int .i64 z):=cz
    have fz':wy.drew.frozen? ⟨g,p,none⟩=false:=fz
    clear cz fz u0 u1 c1 c2
    generalize wy.drew=wd at *
    go_wp2
    go_roundw
    case rel=>exact ⟨b+1,by omega,by go_num,H2.out⟩
    case measure=>simp [intOf];omega
theorem own_ne {w:World}{lo lo2 m n s s2:Nat}{u v:Value}{xs vs:List Value} (h1:w.ownsRow lo 3 s u m xs) (h2:w.ownsRow lo2 25 s2 v n vs) {g:Nat} (hg:u.ownBlock=some g):v.ownBlock≠some g:=by
 intro hv
 rcases h1.2 with ⟨rfl,_⟩|⟨g1,_,cur1,rfl,_,e1,_⟩
 ·cases hg
 ·rcases h2.2 with ⟨rfl,_⟩|⟨g2,_,cur2,rfl,_,e2,_⟩
  ·cases hv
  ·simp only [Value.ownBlock,Option.some.injEq] at hg hv
   subst hg;subst hv
   rw [e1] at e2
   injection e2 with e2
   injection e2 with _ e2 _
   exact absurd e2 (by decide)
theorem Fr.grownBy {w w':World}{lo hi:Nat}{u:Value}{xs:List Int}{row:Option Nat} (h:Fr w lo hi u xs) (hg:w.grownBy w' row) (hd:∀g,u.ownBlock=some g→row≠some g):Fr w' lo hi u xs:=by
 refine ⟨h.1.kept hg ?_,h.2.1,Nat.le_trans h.2.2 hg.size⟩
 cases hu:u.ownBlock with
 | none=>exact .inl rfl
 | some g=>exact .inr fun e=>hd g hu e.symm
theorem OwS.push {w w1 w2:World}{lo:Nat}{v v' u:Value}{xss:List (List Int)}{xs:List Int}{vs:List Value} (hlo:lo≤w.heap.size)
  (hv:w1.ownsRow lo 25 1 v xss.length vs) (hl:vs.length=xss.length)
  (hrows:∀(k:Nat) (y:Value) (ys:List Int),vs[k]? = some y→xss[k]? = some ys→Fr w1 lo w.heap.size y ys)
  (hap:∀(i j:Nat) (y y':Value),i≠j→vs[i]? = some y→vs[j]? = some y'→∀g,y.ownBlock=some g→y'.ownBlock≠some g)
  (hu:Fr w1 w.heap.size w1.heap.size u xs) (hle:w.heap.size≤w1.heap.size)
  (hown:w2.ownsRow lo 25 1 v' (xss.length+1) (vs++[u])) (hg:w1.grownBy w2 v.ownBlock):OwS w2 lo w2.heap.size v' (xss++[xs]):=by
 refine ⟨vs++[u],by simp [hl],by rw [List.length_append,List.length_singleton];exact hown,fun g hg'=>(hown.lt g hg').2,Nat.le_trans hlo (Nat.le_trans hle hg.size),Nat.le_refl _,?_,?_⟩
 ·intro k y ys hy hys
  rcases Nat.lt_or_ge k vs.length with hk|hk
  ·rw [List.getElem?_append_left hk] at hy
   rw [List.getElem?_append_left (by omega)] at hys
   have h:=hrows k y ys hy hys
   exact (h.grownBy hg fun g he=>own_ne h.1 hv he).wide (Nat.le_refl _) (Nat.le_trans hle hg.size) (Nat.le_refl _)
  ·rw [List.getElem?_append_right hk] at hy
   rw [List.getElem?_append_right (by omega)] at hys
   have h0:k-vs.length=0:=by
    rcases Nat.eq_zero_or_pos (k-vs.length) with h|h
    ·exact h
    ·rw [List.getElem?_eq_none (by simp;omega)] at hy;cases hy
   rw [h0] at hy
   rw [show k-xss.length=0 from by omega] at hys
   simp only [List.getElem?_cons_zero,Option.some.injEq] at hy hys
   subst hy;subst hys
   exact (hu.grownBy hg fun g he=>own_ne hu.1 hv he).wide hlo hg.size (Nat.le_refl _)
 ·have new_ne:∀(k:Nat) (y:Value),vs[k]? = some y→∀g,y.ownBlock=some g→u.ownBlock≠some g:=by
   intro k y hy g he heu
   obtain ⟨ys,hys⟩:∃ys,xss[k]? = some ys:=⟨_,List.getElem?_eq_getElem (by have:=(List.getElem?_eq_some_iff.1 hy).1;omega)⟩
   have h1:=(hrows k y ys hy hys).2.1 g he
   have h2:=(hu.1.lt g heu).1
   omega
  intro i j y y' hij hy hy' g he
  rcases Nat.lt_or_ge i vs.length with hi|hi<;>rcases Nat.lt_or_ge j vs.length with hj|hj
  ·rw [List.getElem?_append_left hi] at hy
   rw [List.getElem?_append_left hj] at hy'
   exact hap i j y y' hij hy hy' g he
  ·rw [List.getElem?_append_left hi] at hy
   rw [List.getElem?_append_right hj] at hy'
   obtain ⟨h1,h2⟩:=List.getElem?_eq_some_iff.1 hy'
   simp only [List.length_singleton] at h1
   rw [show j-vs.length=0 from by omega] at hy'
   simp only [List.getElem?_cons_zero,Option.some.injEq] at hy'
   subst hy'
   exact new_ne i y hy g he
  ·rw [List.getElem?_append_right hi] at hy
   rw [List.getElem?_append_left hj] at hy'
   obtain ⟨h1,h2⟩:=List.getElem?_eq_some_iff.1 hy
   simp only [List.length_singleton] at h1
   rw [show i-vs.length=0 from by omega] at hy
   simp only [List.getElem?_cons_zero,Option.some.injEq] at hy
   subst hy
   intro he'
   exact new_ne j y' hy' g he' he
  ·obtain ⟨h1,_⟩:=List.getElem?_eq_some_iff.1 hy
   obtain ⟨h2,_⟩:=List.getElem?_eq_some_iff.1 hy'
   simp only [List.length_append,List.length_singleton] at h1 h2
   omega
structure Two (wr:World) (lo:Nat) (vb vw:Value) (bs ws:List Int):Prop where
 fb:Fr wr lo wr.heap.size vb bs
 fw:Fr wr lo wr.heap.size vw ws
 ne:∀g,vb.ownBlock=some g→vw.ownBlock≠some g
theorem Two.below {wr w2:World}{lo:Nat}{vb vw:Value}{bs ws:List Int} (h:Two wr lo vb vw bs ws) (hb:Below wr.heap.size wr w2):Two w2 lo vb vw bs ws:=
 ⟨(h.fb.grow hb).wide (Nat.le_refl _) hb.size (Nat.le_refl _),(h.fw.grow hb).wide (Nat.le_refl _) hb.size (Nat.le_refl _),h.ne⟩
theorem Two.left {wr w2:World}{lo:Nat}{vb vb' vw:Value}{bs ws:List Int}{x:Int} (h:Two wr lo vb vw bs ws) (hown:w2.ownsRow lo 3 1 vb' (bs.length+1) (ints (bs++[x])))
  (hg:wr.grownBy w2 vb.ownBlock) (hat:vb'.ownBlock=vb.ownBlock∨vb'.ownBlock=some (wr.heap.size+1)):Two w2 lo vb' vw (bs++[x]) ws:=by
 refine ⟨Fr.of_own (by rw [List.length_append];exact hown),(h.fw.grownBy hg fun g hw hb=>h.ne g hb hw).wide (Nat.le_refl _) hg.size (Nat.le_refl _),?_⟩
 intro g hb hw
 rcases hat with e|e
 ·exact h.ne g (e ▸ hb) hw
 ·rw [e] at hb
  injection hb with hb
  have:=h.fw.2.1 g hw
  omega
def mkO (n:Nat):Obj:=.cells (madeCells (Value.int .i64 0).cells (n*1)) 3
theorem run_mkI {n:Nat} (hn:n≤1048576) (W:World):(Instr.makeSlice 25 (.int .i64 (n:Int)) (.int .i64 (n:Int))).run Tryz.prog W=.ok (.slice (some ⟨W.heap.size,0,none⟩) n n) (W.alloc (mkO n)):=by
 obtain ⟨i0,hi,hz0,hz1,hz2⟩:=info_parts infoInt
 have hr:=run_make (P:=Tryz.prog) W 25 3 i0 (.int .i64 0) Tryz.underlying25 hi hz0 .i64 .i64 n n (by omega) (Int.le_refl _) (by rw [hz2];omega) (by omega)
 simp only [Int.toNat_natCast,hz1] at hr
 exact hr
theorem fr_mkO {n:Nat} (hn:n≤1048576) (W:World):Fr (W.alloc (mkO n)) W.heap.size (W.alloc (mkO n)).heap.size (.slice (some ⟨W.heap.size,0,none⟩) n n) (List.replicate n 0):=by
 have h1:=World.ownsRow_lit (base:=W.heap.size) (e:=3) (size:=1) W (madeCells (Value.int .i64 0).cells (n*1)) n (Nat.le_refl _) (by unfold maxLen;omega) (size_madeCells _ _)
 rw [ints_replicate] at h1
 exact Fr.of_own (by rw [List.length_replicate];exact h1)
theorem cell_mkO {W:World}{b n:Nat}{v:Value} (h:W.cell? ⟨b,0,none⟩=some v) (hb:b<W.heap.size):(W.alloc (mkO n)).drew.cell? ⟨b,0,none⟩=some v:=(((Below.refl _ W).alloc (Nat.le_refl _) _).cell (p:=⟨b,0,none⟩) hb).trans h
def visit (n:Nat):Nat→List Int→List (List Int)
 | 0,cur=>[cur]
 | f+1,cur=>(idxs n).flatMap fun x=>if cur.contains x then [] else visit n f (cur++[x])
def allO (n:Nat):List (List Int):=visit n n []
def backP (xs l:List Int) (a b:Nat):Bool:=bt xs a b && decide (plc l (b:Int)<plc l (a:Int))
def backR (xs l:List Int) (_n a m:Nat):List (List Int):=((List.range m).filter (backP xs l a)).map fun (b:Nat)=>[(a:Int),(b:Int)]
def backL (xs l:List Int) (n m:Nat):List (List Int):=(List.range m).flatMap fun a=>backR xs l n a n
theorem backL_succ (xs l:List Int) (n m:Nat):backL xs l n (m+1)=backL xs l n m++backR xs l n m n:=by
 unfold backL
 rw [List.range_succ,List.flatMap_append]
 simp
theorem backR_succ (xs l:List Int) (n a m:Nat):backR xs l n a (m+1)=backR xs l n a m++(if backP xs l a m=true then [[(a:Int),(m:Int)]] else []):=by
 unfold backR
 rw [List.range_succ,List.filter_append,List.map_append]
 congr 1
 rw [List.filter_cons]
 split<;>rfl
end Go.Proofs.YtkapoldjcpfdgaaGreatDoor
