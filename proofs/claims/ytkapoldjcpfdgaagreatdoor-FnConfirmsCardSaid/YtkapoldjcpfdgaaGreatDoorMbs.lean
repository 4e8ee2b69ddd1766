/- The circle's plan at a few clubs: the walk. -/
import Derived.Test.YtkapoldjcpfdgaaGreatDoorMbp
import Derived.Test.YtkapoldjcpfdgaaGreatDoorMbr
set_option maxHeartbeats 4000000
set_option maxRecDepth 100000
namespace Go.Proofs.YtkapoldjcpfdgaaGreatDoor
open Go.ChangeShapes Go.WideShapes Go.ChangeAt Go.RowKit
theorem fullWF_bd (x:TourV):-9223372036854775808≤fullWF x∧fullWF x≤9223372036854775807:=by
 unfold fullWF
 split
 ·rename_i h
  obtain ⟨t1,t2,t3,_⟩:=tourB_t h
  have h8:x.wins.length≤8:=by omega
  have:=fullWT_le x h8 x.wins.length
  have h3:=Nat.mul_le_mul h8 (Nat.le_refl 16777216)
  omega
 ·omega
theorem fullCF_bd (x:TourV):-9223372036854775808≤fullCF x∧fullCF x≤9223372036854775807:=by
 unfold fullCF
 split
 ·rename_i h
  obtain ⟨t1,t2,t3,_⟩:=tourB_t h
  have h8:x.wins.length≤8:=by omega
  have h2:=cwF_le (x:=x) (g:=fun a=>winN x a%2) (fun a=>by omega) (T:=2^x.wins.length) x.wins.length 0 1
  have h3:8^x.wins.length≤16777216:=Nat.le_trans (Nat.pow_le_pow_right (by omega) h8) (by decide)
  omega
 ·omega
theorem dbRun_perm (W:List Int):∀(f:Nat) (fi se pl:List Int),((dbRun W f fi se pl).1++(dbRun W f fi se pl).2.1++(dbRun W f fi se pl).2.2).Perm (fi++se++pl)
 | 0,_,_,_=>List.Perm.refl _
 | f+1,fi,se,pl=>by
  rw [dbRun]
  split
  ·exact List.Perm.refl _
  ·exact (dbRun_perm W f _ _ _).trans (dbStep_perm W fi se pl)
theorem dbPlaces_perm (W:List Int) (n:Nat):(dbPlaces W n).Perm (idxs n):=by
 have h:=dbRun_perm W (2*n) (idxs n) [] []
 unfold dbPlaces
 refine (List.reverse_perm _).trans (List.Perm.trans ?_ (h.trans (by simp)))
 rw [List.append_assoc,List.append_assoc]
 exact (List.perm_append_comm).trans (by rw [List.append_assoc])
theorem dbF_bd (x:TourV):(dbF x).length≤1048576∧wfI (dbF x):=by
 unfold dbF
 split
 ·rename_i h
  obtain ⟨t1,t2,t3,_⟩:=tourB_t h
  have hp:=dbPlaces_perm x.wins x.wins.length
  refine ⟨by rw [hp.length_eq,idxs_length];omega,fun y hy=>?_⟩
  have:=idxs_mem.1 (hp.mem_iff.1 hy)
  omega
 ·exact ⟨by simp,fun y hy=>by simp at hy⟩
theorem swRun_bd {ord:List Int→List Int}{W:List Int}{n:Nat}:∀(r:Nat) (points met:List Int) (d:Int),(∀x∈points,0≤x∧x≤d)→(swRun ord W n r points met).length=points.length∧∀x∈swRun ord W n r points met,0≤x∧x≤d+r
 | 0,points,met,d,h=>⟨rfl,fun x hx=>by have:=h x hx;omega⟩
 | r+1,points,met,d,h=>by
  rw [swRun]
  split
  ·exact ⟨rfl,fun x hx=>by have:=h x hx;omega⟩
  ·rename_i pr _
   obtain ⟨h1,h2⟩:=swRun_bd (ord:=ord) (W:=W) (n:=n) r (swPts W pr points n) (swMet pr met n) (d+1) (swPts_bd h n)
   exact ⟨by rw [h1,swPts_len],fun x hx=>by have:=h2 x hx;omega⟩
theorem spF_bd {x:TourV}{r:Int}{l:List Int} (h:spF x r=some l):0<l.length∧l.length≤8∧wfI l:=by
 unfold spF at h
 split at h
 ·rename_i h1
  injection h with h
  unfold spOk at h1
  simp only [Bool.and_eq_true] at h1
  obtain ⟨t1,t2,t3,_⟩:=tourB_t h1.1
  have h7:=inB_t.1 h1.2.2
  obtain ⟨h2,h3⟩:=swRun_bd (ord:=ordBy) (W:=x.wins) (n:=x.wins.length) r.toNat (List.replicate x.wins.length 0) (List.replicate x.wins.length 0) 0 (fun y hy=>by have:=List.eq_of_mem_replicate hy;omega)
  rw [h,List.length_replicate] at h2
  rw [h] at h3
  exact ⟨by omega,by omega,fun y hy=>by have:=h3 y hy;omega⟩
 ·cases h
theorem run1_co (w0 W:World) (b bq:Nat) (x:TourV) (ws:List (List UInt8)) (h:CoW w0 W b x ws false) (hc:ComP w0) (hl:∀l∈ws,l.length≤1048576) (hm:ws.length=1) (hq:W.cell? ⟨bq,0,none⟩=some (.pointer (some ⟨b,0,none⟩))) (hbq:bq≠b):
  Calls Tryz.prog 61 #[.pointer (some ⟨bq,0,none⟩)] W fun e w'=>CoR w0 W b ws (setA x true (parF (wd ws 0))) e w':=by
 have hC:ComP W.drew:=hc.below (h.1.trans ((below_of_drewN W.heap.size W 1).mono h.1.size))
 exact (run1_any w0 W b bq x ws false (wd ws 0) h hc.1 (wd_at (by omega)) (wd_le hl 0) hC.2.1 hC.2.2 hq hbq).mono fun e w' hp=>⟨_,_,false,hp,rfl⟩
theorem run2_co (w0 W:World) (b bq:Nat) (x:TourV) (ws:List (List UInt8)) (h:CoW w0 W b x ws false) (hc:ComP w0) (_hl:∀l∈ws,l.length≤1048576) (_hm:ws.length=0) (hq:W.cell? ⟨bq,0,none⟩=some (.pointer (some ⟨b,0,none⟩))) (hbq:bq≠b):
  Calls Tryz.prog 64 #[.pointer (some ⟨bq,0,none⟩)] W fun e w'=>CoR w0 W b ws (setA x true (turnF x)) e w':=
 (run2_any w0 W b bq x ws false h hc.1 hq hbq).mono fun _e _w' hp=>⟨_,_,false,hp,rfl⟩
theorem run9_co (w0 W:World) (b bq:Nat) (x:TourV) (ws:List (List UInt8)) (h:CoW w0 W b x ws false) (hc:ComP w0) (_hl:∀l∈ws,l.length≤1048576) (_hm:ws.length=0) (hq:W.cell? ⟨bq,0,none⟩=some (.pointer (some ⟨b,0,none⟩))) (_hbq:bq≠b):
  Calls Tryz.prog 81 #[.pointer (some ⟨bq,0,none⟩)] W fun e w'=>CoR w0 W b ws (outA x true (tourText x)) e w':=
 (run9_any w0 W b bq x ws false h hc.1 hq).mono fun _e _w' hp=>⟨_,_,false,hp,rfl⟩
theorem run10_co (w0 W:World) (b bq:Nat) (x:TourV) (ws:List (List UInt8)) (h:CoW w0 W b x ws false) (hc:ComP w0) (_hl:∀l∈ws,l.length≤1048576) (_hm:ws.length=0) (hq:W.cell? ⟨bq,0,none⟩=some (.pointer (some ⟨b,0,none⟩))) (_hbq:bq≠b):
  Calls Tryz.prog 83 #[.pointer (some ⟨bq,0,none⟩)] W fun e w'=>CoR w0 W b ws (outA x true (scoreText x)) e w':=
 (run10_any w0 W b bq x ws false h hc.1 hq).mono fun _e _w' hp=>⟨_,_,false,hp,rfl⟩
theorem run11_co (w0 W:World) (b bq:Nat) (x:TourV) (ws:List (List UInt8)) (h:CoW w0 W b x ws false) (hc:ComP w0) (_hl:∀l∈ws,l.length≤1048576) (_hm:ws.length=0) (hq:W.cell? ⟨bq,0,none⟩=some (.pointer (some ⟨b,0,none⟩))) (_hbq:bq≠b):
  Calls Tryz.prog 85 #[.pointer (some ⟨bq,0,none⟩)] W fun e w'=>CoR w0 W b ws (outA x true (kingText x)) e w':=
 (run11_any w0 W b bq x ws false h hc.1 hq).mono fun _e _w' hp=>⟨_,_,false,hp,rfl⟩
theorem run12_co (w0 W:World) (b bq:Nat) (x:TourV) (ws:List (List UInt8)) (h:CoW w0 W b x ws false) (hc:ComP w0) (_hl:∀l∈ws,l.length≤1048576) (_hm:ws.length=0) (hq:W.cell? ⟨bq,0,none⟩=some (.pointer (some ⟨b,0,none⟩))) (_hbq:bq≠b):
  Calls Tryz.prog 87 #[.pointer (some ⟨bq,0,none⟩)] W fun e w'=>CoR w0 W b ws (outA x true (orderText x)) e w':=
 (run12_any w0 W b bq x ws false h hc.1 hq).mono fun _e _w' hp=>⟨_,_,false,hp,rfl⟩
theorem run13_co (w0 W:World) (b bq:Nat) (x:TourV) (ws:List (List UInt8)) (h:CoW w0 W b x ws false) (hc:ComP w0) (_hl:∀l∈ws,l.length≤1048576) (_hm:ws.length=0) (hq:W.cell? ⟨bq,0,none⟩=some (.pointer (some ⟨b,0,none⟩))) (_hbq:bq≠b):
  Calls Tryz.prog 89 #[.pointer (some ⟨bq,0,none⟩)] W fun e w'=>CoR w0 W b ws (outA x true (safeText x)) e w':=
 (run13_any w0 W b bq x ws false h hc.1 hq).mono fun _e _w' hp=>⟨_,_,false,hp,rfl⟩
theorem run14_co (w0 W:World) (b bq:Nat) (x:TourV) (ws:List (List UInt8)) (h:CoW w0 W b x ws false) (hc:ComP w0) (_hl:∀l∈ws,l.length≤1048576) (_hm:ws.length=0) (hq:W.cell? ⟨bq,0,none⟩=some (.pointer (some ⟨b,0,none⟩))) (_hbq:bq≠b):
  Calls Tryz.prog 91 #[.pointer (some ⟨bq,0,none⟩)] W fun e w'=>CoR w0 W b ws (outA x true (Lib.itoa (fullWF x))) e w':=by
 obtain ⟨A,c,B,d,lo,hi,hA⟩:=h.names
 obtain ⟨c0,c1⟩:=hA.cells
 have A0:=Lib.hid hA
 have HF:=Lib.hid (implCountWays_any _ x W hA.in_)
 have HG:Hid (∀V,Below W.heap.size W V→Calls Tryz.prog 13 #[.int .i64 (fullWF x)] V fun e w'=>e=.returned (.string ⟨(Lib.itoa (fullWF x)).toArray⟩)∧Below V.heap.size V w'):=fun V hV=>implFormatInt_any _ V (fullWF_bd x).1 (fullWF_bd x).2 ((hA.grow hV).com hc).1
 clear hA h hc _hl
 go_enter Tryz.func91,Tryz.ntmps91
 go_wp2_with (first
  | (go_at_call 92;refine HF.out.mono ?_;rintro e w1 ⟨rfl,hb⟩;have B1:=Lib.hid hb;clear hb)
  | (go_at_call 13;refine (HG.out _ B1.out).mono ?_;rintro e w2 ⟨rfl,hb⟩;have B2:Hid (Below W.heap.size W w2):=B1.out.trans (hb.mono B1.out.size);clear hb))
 go_ret
 exact CoR.text rfl (Keep.ofBe B2.out) (A0.out.grow B2.out)
theorem run15_co (w0 W:World) (b bq:Nat) (x:TourV) (ws:List (List UInt8)) (h:CoW w0 W b x ws false) (hc:ComP w0) (_hl:∀l∈ws,l.length≤1048576) (_hm:ws.length=0) (hq:W.cell? ⟨bq,0,none⟩=some (.pointer (some ⟨b,0,none⟩))) (_hbq:bq≠b):
  Calls Tryz.prog 93 #[.pointer (some ⟨bq,0,none⟩)] W fun e w'=>CoR w0 W b ws (outA x true (Lib.itoa (fullCF x))) e w':=by
 obtain ⟨A,c,B,d,lo,hi,hA⟩:=h.names
 obtain ⟨c0,c1⟩:=hA.cells
 have A0:=Lib.hid hA
 have HF:=Lib.hid (implCountCycles_any _ x W hA.in_)
 have HG:Hid (∀V,Below W.heap.size W V→Calls Tryz.prog 13 #[.int .i64 (fullCF x)] V fun e w'=>e=.returned (.string ⟨(Lib.itoa (fullCF x)).toArray⟩)∧Below V.heap.size V w'):=fun V hV=>implFormatInt_any _ V (fullCF_bd x).1 (fullCF_bd x).2 ((hA.grow hV).com hc).1
 clear hA h hc _hl
 go_enter Tryz.func93,Tryz.ntmps93
 go_wp2_with (first
  | (go_at_call 94;refine HF.out.mono ?_;rintro e w1 ⟨rfl,hb⟩;have B1:=Lib.hid hb;clear hb)
  | (go_at_call 13;refine (HG.out _ B1.out).mono ?_;rintro e w2 ⟨rfl,hb⟩;have B2:Hid (Below W.heap.size W w2):=B1.out.trans (hb.mono B1.out.size);clear hb))
 go_ret
 exact CoR.text rfl (Keep.ofBe B2.out) (A0.out.grow B2.out)
theorem run16_co (w0 W:World) (b bq:Nat) (x:TourV) (ws:List (List UInt8)) (h:CoW w0 W b x ws false) (hc:ComP w0) (_hl:∀l∈ws,l.length≤1048576) (_hm:ws.length=0) (hq:W.cell? ⟨bq,0,none⟩=some (.pointer (some ⟨b,0,none⟩))) (_hbq:bq≠b):
  Calls Tryz.prog 95 #[.pointer (some ⟨bq,0,none⟩)] W fun e w'=>CoR w0 W b ws (outA x true (fmtF (dbF x))) e w':=by
 obtain ⟨A,c,B,d,lo,hi,hA⟩:=h.names
 obtain ⟨c0,c1⟩:=hA.cells
 have A0:=Lib.hid hA
 have HF:=Lib.hid (implDoublePlaces_any _ x W hA.in_)
 have HG:Hid (∀V v,Below W.heap.size W V→InI V v (dbF x)→Calls Tryz.prog 96 #[v] V fun e w'=>e=.returned (.string ⟨(fmtF (dbF x)).toArray⟩)∧Below V.heap.size V w'):=fun V v hV hi2=>implFormatNumbers_any v _ V hi2 (dbF_bd x).1 (dbF_bd x).2 ((hA.grow hV).com hc).1
 clear hA h hc _hl
 go_enter Tryz.func95,Tryz.ntmps95
 go_wp2_with (first
  | (go_at_call 97;refine HF.out.mono ?_;rintro e w1 ⟨v1,rfl,hf,hb⟩;have B1:=Lib.hid hb;have I1:=Lib.hid hf.in_;clear hb hf)
  | (go_at_call 96;refine (HG.out _ _ B1.out I1.out).mono ?_;rintro e w2 ⟨rfl,hb⟩;have B2:Hid (Below W.heap.size W w2):=B1.out.trans (hb.mono B1.out.size);clear hb))
 go_ret
 exact CoR.text rfl (Keep.ofBe B2.out) (A0.out.grow B2.out)
theorem landau_co (w0 W:World) (b:Nat) (x:TourV) (ws:List (List UInt8)) (h:CoW w0 W b x ws false) (hc:ComP w0) (hl:∀l∈ws,l.length≤1048576) (hm:ws.length=1):
  Calls Tryz.prog 108 #[.pointer (some ⟨b,0,none⟩)] W fun e w'=>CoR w0 W b ws (outA x (pnB (wd ws 0)) (if landB (pnF (wd ws 0)) then [121,101,115] else [110,111])) e w':=by
 obtain ⟨A,c,B,d,lo,hi,hA⟩:=h.names
 have HNS:Hid (∀V bad,CoA w0 V b x ws bad A c B d lo hi→Calls Tryz.prog 73 #[.pointer (some ⟨b,0,none⟩),.int .i64 0] V fun e w'=>∃A2 c2,e=.returned (.slice A2 (pnF (wd ws 0)).length c2)∧InI w' (.slice A2 (pnF (wd ws 0)).length c2) (pnF (wd ws 0))∧CoA w0 w' b x ws (bad || !pnB (wd ws 0)) A c B d lo hi∧Keep b (b+1) V w'):=fun V bad hV=>(numbers_co w0 V b 0 x ws bad A B c d lo hi hV hc hl (by omega)).mono fun e w' ⟨v',he,hi2,h1,h2⟩=>by
  obtain ⟨A2,c2,rfl,h3,h4,h5⟩:=hi2
  exact ⟨A2,c2,he,⟨A2,c2,rfl,h3,h4,h5⟩,h1,h2⟩
 have HF:Hid (∀V A2 c2,InI V (.slice A2 (pnF (wd ws 0)).length c2) (pnF (wd ws 0))→Calls Tryz.prog 156 #[.slice A2 (pnF (wd ws 0)).length c2] V fun e w'=>e=.returned (.bool (landB (pnF (wd ws 0))))∧Below V.heap.size V w'):=fun V A2 c2 hi2=>implIsLandau_any A2 c2 _ V (by obtain ⟨A3,c3,he,_,_,h5⟩:=hi2;injection he with e1 _ _;subst e1;exact h5) (pnF_len _)
 have A0:=Lib.hid hA
 clear hA h hc hl
 cases hlb:landB (pnF (wd ws 0))
 all_goals
  rw [hlb] at HF
  clear hlb
  go_enter Tryz.func108,Tryz.ntmps108
  go_wp2_with (first
   | (go_at_call 73;refine (HNS.out _ _ A0.out).mono ?_;rintro e w1 ⟨A2,c2,rfl,hI,hA1,hK1⟩;have A1:=Lib.hid hA1;have K1:=Lib.hid hK1;have I1:=Lib.hid hI;clear hA1 hK1 hI)
   | (go_at_call 156;refine (HF.out _ _ _ I1.out).mono ?_;rintro e w2 ⟨rfl,hb⟩;have A2_:=Lib.hid (A1.out.grow hb);have K2:Hid (Keep b (b+1) W w2):=K1.out.trans (Keep.ofBe hb);clear hb))
  go_ret
  exact CoR.text (by simp) K2.out A2_.out
theorem LP.form {w w':World}{e:Ending}{o:Option (List Int)} (h:LP w e w' o) (hpos:∀l,o=some l→0<l.length):∃A n c v2,e=.returned (.tuple #[.slice A n c,v2])∧A.isSome=o.isSome∧(o.isSome=true→InI w' (.slice A n c) (o.getD []))∧Below w.heap.size w w':=by
 obtain ⟨hb,hm⟩:=h
 cases o with
 | none=>exact ⟨none,0,0,_,hm,rfl,(fun h=>by cases h),hb⟩
 | some l=>
  obtain ⟨v1,v2,he,hf⟩:=hm
  have h0:=hpos l rfl
  rcases hf.1.2 with ⟨e1,h2⟩|⟨g,cap,cur,e1,_⟩
  ·omega
  ·subst e1
   exact ⟨_,_,_,v2,he,rfl,fun _=>hf.in_,hb⟩
theorem swiss_co (w0 W:World) (b:Nat) (x:TourV) (ws:List (List UInt8)) (h:CoW w0 W b x ws false) (hc:ComP w0) (hl:∀l∈ws,l.length≤1048576) (hm:ws.length=1):
  Calls Tryz.prog 103 #[.pointer (some ⟨b,0,none⟩)] W fun e w'=>CoR w0 W b ws (outA x (numB (wd ws 0)) (lstF ((spF x (numV (wd ws 0))).getD []) (spF x (numV (wd ws 0))).isSome)) e w':=by
 obtain ⟨A,c,B,d,lo,hi,hA⟩:=h.names
 have HN0:Hid (∀V bad,CoA w0 V b x ws bad A c B d lo hi→Calls Tryz.prog 68 #[.pointer (some ⟨b,0,none⟩),.int .i64 0] V fun e w'=>e=.returned (.int .i64 (numV (wd ws 0)))∧CoA w0 w' b x ws (bad || !numB (wd ws 0)) A c B d lo hi∧Keep b (b+1) V w'):=fun V bad hV=>number_co w0 V b 0 x ws bad A B c d lo hi hV hc hl (by omega)
 obtain ⟨o,ho⟩:∃o,spF x (numV (wd ws 0))=o:=⟨_,rfl⟩
 have HO:Hid (∀l,o=some l→0<l.length∧l.length≤8∧wfI l):=fun l hl2=>spF_bd (ho.trans hl2)
 have HF:Hid (∀V bad,CoA w0 V b x ws bad A c B d lo hi→Calls Tryz.prog 185 #[.agg #[.int .i64 x.size,.slice A x.wins.length c],.int .i64 (numV (wd ws 0))] V fun e w'=>∃A n c v2,e=.returned (.tuple #[.slice A n c,v2])∧A.isSome=o.isSome∧(o.isSome=true→InI w' (.slice A n c) (o.getD []))∧Below V.heap.size V w'):=fun V bad hV=>by
  have h:=swissPlay_any _ x (numV (wd ws 0)) V hV.in_
  rw [ho] at h
  exact h.mono fun e w' hp=>hp.form fun l h=>(HO.out l h).1
 have HG:Hid (∀V v bad ok,CoA w0 V b x ws bad A c B d lo hi→ok=o.isSome→(o.isSome=true→InI V v (o.getD []))→Calls Tryz.prog 101 #[v,.bool ok] V fun e w'=>e=.returned (.string ⟨(lstF (o.getD []) o.isSome).toArray⟩)∧Below V.heap.size V w'):=fun V v bad ok hV hok hi2=>by
  subst hok
  exact listed_any v _ _ V (fun hs=>⟨hi2 hs,by
   cases o with
   | none=>simp
   | some l=>exact Nat.le_trans (HO.out l rfl).2.1 (by omega),by
   cases o with
   | none=>intro y hy;simp at hy
   | some l=>exact (HO.out l rfl).2.2⟩) (hV.com hc).1
 have qN:∀(w:World) (a:Option Addr) (n c n' c':Nat),(binOp .neq 25 (.slice a n c) (.slice none n' c')).run Tryz.prog w=.ok (.bool (!a.isNone)) w:=fun w a n c n' c'=>Go.run_neq_slice_nil_any w _ _ a n c n' c' Tryz.underlying25
 rw [ho]
 clear ho HO
 have A0:=Lib.hid hA.drew
 have K0:Hid (Keep b (b+1) W W.drew):=Keep.ofBe (below_of_drewN _ W 1)
 clear hA h hc hl
 go_enter Tryz.func103,Tryz.ntmps103
 go_wp2_with fail
 refine wp_region_noPanic ?_
 refine wp_region_held_drew (S:=fun W=>W.cell? ⟨b,0,none⟩=some (.int .i64 x.size)∧W.cell? ⟨b,1,none⟩=some (.slice A x.wins.length c)) (by kernel_rfl) A0.out.cells (fun hHeld=>?_)
 refine wT 0 (.pointer (some ⟨b,0,none⟩)) ?_
 try simp only [pu]
 refine wT 1 (.pointer (some ⟨b,0,none⟩)) ?_
 try simp only [pu]
 refine wT 2 (.pointer (some ⟨b,0,none⟩)) ?_
 try simp only [pu]
 refine wT 3 (.agg #[.int .i64 x.size,.slice A x.wins.length c]) ?_
 try simp only [pu]
 refine wT 4 (.pointer (some ⟨b,0,none⟩)) ?_
 try simp only [pu]
 refine wR 5 (fun K hK=>?_)
 go_simp
 go_at_call 68
 (with_reducible refine (HN0.out _ _ A0.out).mono ?_)
 rintro e w1 ⟨rfl,hA,hK2⟩
 have A1:=Lib.hid hA;have K1:Hid (Keep b (b+1) W w1):=K0.out.trans (hK2);clear hA hK2
 try (go_wp2_with fail)
 refine hK.out _ _ A1.out.cells (fun hHeld=>?_)
 clear hK K
 try simp only [pu]
 refine wR 6 (fun K hK=>?_)
 go_simp
 go_at_call 185
 (with_reducible refine (HF.out _ _ A1.out).mono ?_)
 rintro e w2 ⟨A3,n3,c3,v3,rfl,hk,hI,hb⟩
 have A2:=Lib.hid (A1.out.grow hb);have I2:=Lib.hid (And.intro hk hI);have K2:Hid (Keep b (b+1) W w2):=K1.out.trans (Keep.ofBe hb);clear hb hk hI
 try (go_wp2_with fail)
 refine hK.out _ _ A2.out.cells (fun hHeld=>?_)
 clear hK K
 try simp only [pu]
 refine wT 7 (.tuple #[.slice A3 n3 c3,v3]) ?_
 try simp only [pu]
 refine wT 8 (.slice A3 n3 c3) ?_
 try simp only [pu]
 refine wT 9 (v3) ?_
 try simp only [pu]
 refine wR 10 (fun K hK=>?_)
 go_simp
 refine hK.out _ _ A2.out.cells (fun hHeld=>?_)
 clear hK K
 try simp only [pu]
 refine wR 11 (fun K hK=>?_)
 go_simp
 refine hK.out _ _ A2.out.cells (fun hHeld=>?_)
 clear hK K
 try simp only [pu]
 refine wpAnyH_done (by kernel_rfl) ?_ _
 refine NoPanic.normal ?_
 go_wp2_with (go_at_call 101;refine (HG.out _ _ _ _ A2.out I2.out.1 I2.out.2).mono ?_;rintro e w4 ⟨rfl,hb⟩;have A4:=Lib.hid (A2.out.grow hb);have K4:Hid (Keep b (b+1) W w4):=K2.out.trans (Keep.ofBe hb);clear hb)
 go_ret
 exact CoR.text (by simp) K4.out A4.out
theorem planB_p {n:Int}{P:List (List Int)} (h:planB n P=true):clubsB n=true∧P.length≤36∧∀R∈P,roundB n R=true:=by
 unfold planB at h
 simp only [Bool.and_eq_true,decide_eq_true_eq,List.all_eq_true] at h
 exact ⟨h.1,h.2.1,h.2.2⟩
def cirI (n r j:Nat):Nat:=(r+j)%(n-1)
def cirK (n r j:Nat):Nat:=(r+(n-1)-j)%(n-1)
def cirS (n r j:Nat) (R:List Int):List Int:=
 if j%2=1 then (R.set (cirI n r j) ((cirK n r j:Int)+1)).set (cirK n r j) (-(cirI n r j:Int)-1)
 else (R.set (cirK n r j) ((cirI n r j:Int)+1)).set (cirI n r j) (-(cirK n r j:Int)-1)
def cir0 (n r:Nat):List Int:=
 if r%2=1 then ((List.replicate n 0).set (n-1) ((r:Int)+1)).set r (-(n:Int))
 else ((List.replicate n 0).set r (n:Int)).set (n-1) (-(r:Int)-1)
def cirR (n r:Nat):Nat→List Int
 | 0=>cir0 n r
 | j+1=>cirS n r (j+1) (cirR n r j)
theorem cirS_len (n r j:Nat) (R:List Int):(cirS n r j R).length=R.length:=by unfold cirS;split<;>simp
theorem cir0_len (n r:Nat):(cir0 n r).length=n:=by unfold cir0;split<;>simp
theorem cirR_len (n r:Nat):∀j,(cirR n r j).length=n
 | 0=>cir0_len n r
 | j+1=>by rw [cirR,cirS_len,cirR_len n r j]
def circP (n:Nat) (r:Nat):List (List Int):=(List.range r).map fun r=>cirR n r (n/2-1)
theorem circP_snoc (n r:Nat):circP n (r+1)=circP n r++[cirR n r (n/2-1)]:=by
 rw [circP,List.range_succ,List.map_append];rfl
structure TuP (w:World) (lo:Nat) (wr:World) (gv:Value) (GS:List (List Int)):Prop where
  ow:OwS wr lo wr.heap.size gv GS
  be:Below w.heap.size w wr
  lo0:w.heap.size≤lo
  lo1:lo≤wr.heap.size
theorem TuP.start (w:World):TuP w w.heap.size (w.alloc (.cells #[] 25)) (.slice (some ⟨w.heap.size,0,none⟩) 0 0) []:=
  ⟨⟨[],rfl,World.ownsRow_lit (base:=w.heap.size) (e:=25) (size:=1) w #[] 0 (Nat.le_refl _) (by unfold maxLen;omega) rfl,fun g hg=>by simp only [Value.ownBlock,Option.some.injEq] at hg;subst hg;simp,by simp,Nat.le_refl _,by simp,by simp⟩,
   (Below.refl _ w).alloc (Nat.le_refl _) _,Nat.le_refl _,by simp⟩
theorem TuP.next {w wr W w2:World}{lo:Nat}{gv v':Value}{g:List Int}{GS:List (List Int)} (h:TuP w lo wr gv GS) (hb1:Below wr.heap.size wr W) (hb:∀B,B≤lo→B≤W.heap.size→Below B W w2)
    (how:OwS w2 lo w2.heap.size v' (GS++[g])):TuP w lo w2 v' (GS++[g]):=by
  have B:Below lo wr w2:=(hb1.mono h.lo1).trans (hb lo (Nat.le_refl _) (Nat.le_trans h.lo1 hb1.size))
  exact ⟨how,h.be.trans (B.mono h.lo0),h.lo0,Nat.le_trans h.lo1 B.size⟩
theorem tm_cast {a:Int}{q m:Nat} (h0:0≤a) (h:a.toNat%m=q):Int.tmod a (m:Int)=(q:Int)∧a%(m:Int)=(q:Int):=by
 obtain ⟨k,rfl⟩:=Int.eq_ofNat_of_zero_le h0
 rw [Int.tmod_eq_emod_of_nonneg h0]
 subst h
 exact ⟨rfl,rfl⟩
structure CiR (wr:World) (w1:World) (g n:Nat) (xs:List Int):Prop where
 fr:Fr w1 wr.heap.size w1.heap.size (.slice (some ⟨g,0,none⟩) n n) xs
 be:Below wr.heap.size wr w1
theorem CiR.len {wr w1:World}{g n:Nat}{xs:List Int} (h:CiR wr w1 g n xs):xs.length=n:=h.fr.len.symm
theorem CiR.set {wr w1:World}{g n:Nat}{xs:List Int} (h:CiR wr w1 g n xs) {k:Nat} (hk:k<n):(∃z,w1.cell? ⟨g,k,none⟩=some z)∧w1.frozen? ⟨g,k,none⟩=false∧∀y,CiR wr (w1.setCell ⟨g,k,none⟩ (.int .i64 y)) g n (xs.set k y):=by
 obtain ⟨g',x,e,hg1,hg2,hx,hc,hf,hst⟩:=h.fr.at_ (k:=k) (by rw [h.len];exact hk)
 injection e with e
 injection e with e
 subst e
 exact ⟨⟨_,hc⟩,hf,fun y=>⟨(hst y).1.wide (Nat.le_refl _) (hst y).2.size (Nat.le_refl _),h.be.trans ((hst y).2.below (Nat.le_refl _) h.be.size)⟩⟩
theorem circle_any (n M H:Nat) (w:World) (h2:2≤n) (h8:n≤10) (hMn:n=M+1) (hHn:2*H=n) (hcb:clubsB (n:Int)=true):
  Calls Tryz.prog 37 #[.int .i64 (n:Int)] w fun e w'=>∃v',e=.returned (.tuple #[v',.bool true])∧OwS w' w.heap.size w'.heap.size v' (circP n M)∧Below w.heap.size w w':=by
 have HT:=Lib.hid (TuP.start w)
 have HMn:=Lib.hid hMn
 have HHn:=Lib.hid hHn
 have hM:(n:Int)-1=(M:Int):=by omega
 have hH1:Int.tdiv (n:Int) 2=(H:Int):=by rw [Int.tdiv_eq_ediv_of_nonneg (by omega)];omega
 have hH2:(n:Int)/2=(H:Int):=by omega
 have hM1:1≤M:=by omega
 have hMl:(M:Int)<n:=by omega
 clear hMn hHn
 go_enter Tryz.func37,Tryz.ntmps37
 go_wp2_with fail
 refine (l16Size_any (n:Int) w).mono ?_
 rintro e w1 ⟨rfl,rfl⟩
 rw [hcb]
 clear hcb
 go_wp2_with fail
 go_loopw [4,5] (fun g i wr=>∃(r:Nat) (gv:Value),r≤M∧i=.int .i64 r∧gv=g∧Hid (TuP w w.heap.size wr gv (circP n r))) (fun _ i _=>M-(intOf i).toNat)
 case atStart=>exact ⟨0,_,Nat.zero_le _,rfl,rfl,HT.out⟩
 case round=>
  obtain ⟨r,gv,hr,rfl,rfl,HR⟩:=hrel
  clear HT
  by_cases hlt:r<M
  case neg=>
   obtain rfl:r=M:=by omega
   go_wp2
   go_ret2
   exact ⟨_,rfl,HR.out.ow,HR.out.be⟩
  have hri:(r:Int)<M:=by omega
  have hrn:(r:Int)<n:=by omega
  obtain ⟨wz,rfl⟩:∃W,W=wr:=⟨wr,rfl⟩
  have hin:r<n:=by omega
  have hMn2:M<n:=by omega
  go_upto_if 24 with (at_make;refine makeI rfl _ _ rfl _ n rfl rfl (by omega) ?_;intro w1 hfr hb hsz;have H1:Hid (CiR wz w1 wz.heap.size n (List.replicate n 0)):=⟨hfr,hb⟩;clear hfr hb hsz)
  go_cut [] (fun wx=>Hid (CiR wz wx wz.heap.size n (cir0 n r)))
  case first=>
   have hM2:n-1=M:=by have:=HMn.out;omega
   rcases Nat.mod_two_eq_zero_or_one r with hr2|hr2
   ·have hc0:cir0 n r=((List.replicate n 0).set r (n:Int)).set M (-(r:Int)-1):=by rw [cir0,if_neg (by omega),hM2]
    have HC0:=Lib.hid hc0
    have ht:((r:Int)%2==1)=false:=by rw [show (r:Int)%2=0 from by omega];rfl
    obtain ⟨⟨z1,d1⟩,f1,s1⟩:=H1.out.set (k:=r) hin
    obtain ⟨⟨z2,d2⟩,f2,s2⟩:=(s1 ((n:Int))).set (k:=M) hMn2
    have HS2:=Lib.hid (s2 (-(r:Int)-1))
    clear s1 s2
    clear hc0 hM2 hr2
    go_wp2
    go_meet
    show Hid _
    rw [HC0.out]
    exact HS2
   ·have hc0:cir0 n r=((List.replicate n 0).set M ((r:Int)+1)).set r (-(n:Int)):=by rw [cir0,if_pos hr2,hM2]
    have HC0:=Lib.hid hc0
    have ht:((r:Int)%2==1)=true:=by rw [show (r:Int)%2=1 from by omega];rfl
    obtain ⟨⟨z1,d1⟩,f1,s1⟩:=H1.out.set (k:=M) hMn2
    obtain ⟨⟨z2,d2⟩,f2,s2⟩:=(s1 ((r:Int)+1)).set (k:=r) hin
    have HS2:=Lib.hid (s2 (-(n:Int)))
    clear s1 s2
    clear hc0 hM2 hr2
    go_wp2
    go_meet
    show Hid _
    rw [HC0.out]
    exact HS2
  case rest=>
   clear H1
   go_wp2
   go_loopw [7] (fun s wr=>∃j:Nat,j+1≤H∧s=.int .i64 ((j+1:Nat):Int)∧Hid (CiR wz wr wz.heap.size n (cirR n r j))) (fun s _=>H-(intOf s).toNat)
   case atStart=>exact ⟨0,by have:=HHn.out;omega,rfl,hcut.out⟩
   case round=>
    clear hcut
    obtain ⟨j,hj,rfl,HI⟩:=hrel
    by_cases hlt2:j+1<H
    case neg=>
     have hjH:j=n/2-1:=by have:=HHn.out;omega
     have HI2:Hid (CiR wz wr wz.heap.size n (cirR n r (n/2-1))):=by rw [←hjH];exact HI.out
     have hgl:(circP n r).length≤1048576:=by rw [circP,List.length_map,List.length_range];omega
     have HGL:=Lib.hid hgl
     have hjI:¬((j:Int)+1<H):=by omega
     obtain ⟨vs,hown6,hpush⟩:=HR.out.ow.pushed HI2.out.be HI2.out.fr
     have HO:=Lib.hid hown6
     have HP:=Lib.hid hpush
     clear hown6 hpush hgl hjH HI
     go_wp2_with (at_builtin;refine appS rfl _ _ rfl wr w.heap.size gv (circP n r).length vs rfl HO.out _ _ _ rfl HGL.out (Nat.le_trans HR.out.lo1 HI2.out.be.size) ?_;intro v7 w7 hown7 hb7 _ hg7;have H7:Hid (TuP w w.heap.size w7 v7 (circP n (r+1))):=(by rw [circP_snoc];exact HR.out.next HI2.out.be hb7 (HP.out _ _ hown7 hg7));clear hown7 hb7 hg7)
     go_roundw
     case rel=>exact ⟨r+1,_,by omega,by go_num,rfl,H7.out⟩
     case measure=>simp [intOf];omega
    have hjI:(j:Int)+1<H:=by omega
    have hHn:=HHn.out
    have hMn:=HMn.out
    obtain ⟨I,hI⟩:∃I,cirI n r (j+1)=I:=⟨_,rfl⟩
    obtain ⟨K,hK⟩:∃K,cirK n r (j+1)=K:=⟨_,rfl⟩
    have hIe:(r+(j+1))%M=I:=by rw [←hI,cirI,hMn,Nat.add_sub_cancel]
    have hKe:(r+M-(j+1))%M=K:=by rw [←hK,cirK,hMn,Nat.add_sub_cancel]
    have hIM:I<M:=by rw [←hIe];exact Nat.mod_lt _ (by omega)
    have hKM:K<M:=by rw [←hKe];exact Nat.mod_lt _ (by omega)
    obtain ⟨p3,p4⟩:=tm_cast (a:=(r:Int)+((j:Int)+1)) (m:=M) (q:=I) (by omega) (by rw [show ((r:Int)+((j:Int)+1)).toNat=r+(j+1) from by omega];exact hIe)
    obtain ⟨p5,p6⟩:=tm_cast (a:=(r:Int)-((j:Int)+1)+(n:Int)-1) (m:=M) (q:=K) (by omega) (by rw [show ((r:Int)-((j:Int)+1)+(n:Int)-1).toNat=r+M-(j+1) from by omega];exact hKe)
    have HIK:Hid (cirI n r (j+1)=I∧cirK n r (j+1)=K):=⟨hI,hK⟩
    have hIi:(I:Int)<n:=by omega
    have hKi:(K:Int)<n:=by omega
    have hIn:I<n:=by omega
    have hKn:K<n:=by omega
    clear hI hK hIe hKe hHn hMn
    rcases Nat.mod_two_eq_zero_or_one (j+1) with hr2|hr2
    ·have hc0:cirR n r (j+1)=((cirR n r j).set K ((I:Int)+1)).set I (-(K:Int)-1):=by rw [cirR,cirS,if_neg (by omega),HIK.out.1,HIK.out.2]
     have HC0:=Lib.hid hc0
     have ht1:((j:Int)+1)%2=0:=by omega
     have ht2:Int.tmod ((j:Int)+1) 2=0:=by rw [Int.tmod_eq_emod_of_nonneg (by omega)];exact ht1
     obtain ⟨⟨z1,d1⟩,f1,s1⟩:=HI.out.set (k:=K) hKn
     obtain ⟨⟨z2,d2⟩,f2,s2⟩:=(s1 ((I:Int)+1)).set (k:=I) hIn
     have HS2:=Lib.hid (s2 (-(K:Int)-1))
     clear s1 s2
     clear hc0 hr2
     go_wp2
     go_roundw
     case rel=>exact ⟨j+1,by omega,by go_num,by rw [HC0.out];exact HS2.out⟩
     case measure=>simp [intOf];omega
    ·have hc0:cirR n r (j+1)=((cirR n r j).set I ((K:Int)+1)).set K (-(I:Int)-1):=by rw [cirR,cirS,if_pos hr2,HIK.out.1,HIK.out.2]
     have HC0:=Lib.hid hc0
     have ht1:((j:Int)+1)%2=1:=by omega
     have ht2:Int.tmod ((j:Int)+1) 2=1:=by rw [Int.tmod_eq_emod_of_nonneg (by omega)];exact ht1
     obtain ⟨⟨z1,d1⟩,f1,s1⟩:=HI.out.set (k:=I) hIn
     obtain ⟨⟨z2,d2⟩,f2,s2⟩:=(s1 ((K:Int)+1)).set (k:=K) hKn
     have HS2:=Lib.hid (s2 (-(I:Int)-1))
     clear s1 s2
     clear hc0 hr2
     go_wp2
     go_roundw
     case rel=>exact ⟨j+1,by omega,by go_num,by rw [HC0.out];exact HS2.out⟩
     case measure=>simp [intOf];omega
end Go.Proofs.YtkapoldjcpfdgaaGreatDoor
