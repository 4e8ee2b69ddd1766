/- SwissPlay: the program's. -/
import Derived.Test.YtkapoldjcpfdgaaGreatDoorMbh
set_option maxHeartbeats 8000000
set_option maxRecDepth 100000
namespace Go.Proofs.YtkapoldjcpfdgaaGreatDoor
open Go.ChangeShapes Go.WideShapes Go.ChangeAt Go.RowKit
theorem RowV.At.fr {W:World}{lo g n:Nat}{xs:List Int} (h:(⟨3,.slice (some ⟨g,0,none⟩) n n,ints xs⟩:RowV).At W lo) (hn:0<n) (_hlo:lo≤W.heap.size):Fr W lo W.heap.size (.slice (some ⟨g,0,none⟩) n n) xs:=by
 have hl:(ints xs).length=xs.length:=by simp [ints]
 rcases h with ⟨e,_⟩|⟨g',off,cap,cur,e,h1,h2,h3,h4,h5,h6⟩
 ·cases e
 ·injection e with e1 e2 e3
  injection e1 with e1
  injection e1 with e4 e5
  subst e4;subst e5;subst e3
  have e6:xs.length=n:=by rw [←hl];exact e2.symm
  have hsz:cur.size=n:=by rcases h5 with h|h<;>omega
  have hg:=(Array.getElem?_eq_some_iff.1 h4).1
  refine ⟨⟨by rw [hl];simp,.inr ⟨g,n,cur,by rw [e6],h3,h4,by omega,h2,by omega,?_⟩⟩,fun g' hg'=>by simp only [Value.ownBlock,Option.some.injEq] at hg';omega,Nat.le_refl _⟩
  apply List.ext_getElem?
  intro j
  rw [List.getElem?_take]
  split
  ·rename_i hj
   obtain ⟨u,hu⟩:∃u,(ints xs)[j]? = some u:=⟨_,List.getElem?_eq_getElem (by omega)⟩
   rw [hu,←h6 j u hu,Nat.zero_add];simp
  ·rw [List.getElem?_eq_none (by omega)]
theorem swMet_bd {pr met:List Int}{n:Nat} (hn:n≤8) (hp:∀y∈pr,0≤y∧y<n) (hl:pr.length=n) (h:∀y∈met,0≤y∧y≤255) (hm:met.length=n):∀k,k≤n→∀y∈swMet pr met k,0≤y∧y≤255
 | 0,_,y,hy=>h y hy
 | k+1,hk,y,hy=>by
  rw [swMet] at hy
  rcases List.mem_or_eq_of_mem_set hy with hy|rfl
  ·exact swMet_bd hn hp hl h hm k (by omega) y hy
  ·have h1:=hp (pr.getD k 0) (by rw [List.getD_eq_getElem?_getD,List.getElem?_eq_getElem (by omega)];exact List.getElem_mem _)
   have h2:=h (met.getD k 0) (by rw [List.getD_eq_getElem?_getD,List.getElem?_eq_getElem (by omega)];exact List.getElem_mem _)
   have h3:=or_at (v:=met.getD k 0) (b:=(pr.getD k 0).toNat) h2.1 h2.2 (by omega)
   exact h3.2
theorem swRun_none {ord:List Int→List Int}{W pts met:List Int}{n k:Nat} (h:pairSw ord pts met=none):swRun ord W n (k+1) pts met=pts:=by
 show (match pairSw ord pts met with|none=>pts|some pr=>swRun ord W n k (swPts W pr pts n) (swMet pr met n))=pts
 rw [h]
theorem swRun_some {ord:List Int→List Int}{W pts met pr:List Int}{n k:Nat} (h:pairSw ord pts met=some pr):swRun ord W n (k+1) pts met=swRun ord W n k (swPts W pr pts n) (swMet pr met n):=by
 show (match pairSw ord pts met with|none=>pts|some pr=>swRun ord W n k (swPts W pr pts n) (swMet pr met n))=_
 rw [h]
theorem DbW.setAt {w wr:World}{z u:Value}{L:List RowV}{k g n j:Nat}{xs:List Int} (h:DbW w wr z u L) (hk:L[k]? = some ⟨3,.slice (some ⟨g,0,none⟩) n n,ints xs⟩) (hj:j<xs.length) (y:Int):
  DbW w (wr.setCell ⟨g,j,none⟩ (.int .i64 y)) z u (L.set k ⟨3,.slice (some ⟨g,0,none⟩) n n,ints (xs.set j y)⟩):=by
 obtain ⟨g',off,cap,e,h1,h2⟩:=h.sep.store h.sz hk (j:=j) (by show j<(ints xs).length;rw [ints_len];exact hj) (.int .i64 y)
 injection e with e1
 injection e1 with e1
 injection e1 with e4 e5
 subst e4;subst e5
 rw [Nat.zero_add] at h1 h2
 rw [←ints_set]
 exact h.app h1 h2
theorem DbW.make {w w1:World}{z u:Value}{n:Nat} (hn:n≤1048576) (hb:Below w.heap.size w w1) (hx:Bx w1 w.heap.size z u):
  DbW w ((w1.alloc (mkO n)).alloc (mkO n)).drew z u (dbRows (.slice (some ⟨w1.heap.size,0,none⟩) n n) (.slice (some ⟨w1.heap.size+1,0,none⟩) n n) (.slice none 0 0) (.slice none 0 0) (List.replicate n 0) (List.replicate n 0) [] []) ∧
  DbW w ((w1.alloc (mkO n)).alloc (mkO n)).drew z u (dbRows (.slice (some ⟨w1.heap.size+1,0,none⟩) n n) (.slice (some ⟨w1.heap.size,0,none⟩) n n) (.slice none 0 0) (.slice none 0 0) (List.replicate n 0) (List.replicate n 0) [] []):=by
 have hz:w.heap.size+1≤w1.heap.size:=hx.2.2
 have f1:=fr_mkO hn w1
 have b1:Below w1.heap.size w1 (w1.alloc (mkO n)):=(Below.refl _ _).alloc (Nat.le_refl _) _
 have b2:Below (w1.alloc (mkO n)).heap.size (w1.alloc (mkO n)) ((w1.alloc (mkO n)).alloc (mkO n)):=(Below.refl _ _).alloc (Nat.le_refl _) _
 have f2:=fr_mkO hn (w1.alloc (mkO n))
 have hs:(w1.alloc (mkO n)).heap.size=w1.heap.size+1:=World.size_alloc _ _
 rw [hs] at f2
 have s1:=(SepL.nil w1 (w.heap.size+1)).push (r:=⟨3,.slice (some ⟨w1.heap.size,0,none⟩) n n,ints (List.replicate n 0)⟩) b1 (RowV.At.of_own (f1.wide hz (Nat.le_refl _) (Nat.le_refl _)).1) (fun g hg=>(f1.1.lt g hg).1)
 have s2:=s1.push (r:=⟨3,.slice (some ⟨w1.heap.size+1,0,none⟩) n n,ints (List.replicate n 0)⟩) b2 (RowV.At.of_own (f2.wide (by omega) (Nat.le_refl _) (Nat.le_refl _)).1) (fun g hg=>by rw [hs];exact (f2.1.lt g hg).1)
 have s3:=((s2.pushNil 3).pushNil 25).drewN 1
 have B:Below w.heap.size w ((w1.alloc (mkO n)).alloc (mkO n)).drew:=below_drewL (hb.trans ((b1.trans (b2.mono (by omega))).mono (by omega)))
 have X0:Bx ((w1.alloc (mkO n)).alloc (mkO n)) w.heap.size z u:=(hx.below b1).below b2
 have X:Bx ((w1.alloc (mkO n)).alloc (mkO n)).drew w.heap.size z u:=X0
 refine ⟨⟨s3,B,X⟩,⟨s3.pick (fun i=>if i=0 then 1 else if i=1 then 0 else i) (fun i r hr=>?_) (fun i j _ _ hne=>by (try dsimp only);split<;>split<;>(try split)<;>(try split)<;>omega),B,X⟩⟩
 match i,hr with
 | 0,hr=>exact hr
 | 1,hr=>exact hr
 | i+2,hr=>exact hr
def spOk (x:TourV) (r:Int):Bool:=tourB x && (!decide (x.size%2=1) && inB r 0 7)
def spF (x:TourV) (r:Int):Option (List Int):=if spOk x r then some (swRun ordBy x.wins x.wins.length r.toNat (List.replicate x.wins.length 0) (List.replicate x.wins.length 0)) else none
theorem swissPlay_go (x:TourV) (n c0 r:Nat) (A0:Option Addr) (w:World) (hn:x.wins.length=n) (hs:InT w (.agg #[.int .i64 (n:Int),.slice A0 n c0]) x) (hok:tourB x=true) (hev:n%2=0) (hr:r≤7):
  Calls Tryz.prog 185 #[.agg #[.int .i64 (n:Int),.slice A0 n c0],.int .i64 (r:Int)] w fun e w'=>∃v1 v2,e=.returned (.tuple #[v1,v2])∧Fr w' w.heap.size w'.heap.size v1 (swRun ordBy x.wins n r (List.replicate n 0) (List.replicate n 0))∧Below w.heap.size w w':=by
 have HIT:=Lib.hid hs
 have HOK:=Lib.hid (And.intro hok hn)
 have hsz:x.size=(n:Int):=by obtain ⟨_,_,h,_⟩:=tourB_t hok;rw [←h,hn]
 have HN:Hid (1≤n∧n≤8):=by obtain ⟨h1,h2,_,_⟩:=tourB_t hok;exact ⟨by omega,by omega⟩
 have HB0:Hid (Below w.heap.size w (w.alloc (.cells #[.int .i64 (n:Int),.slice A0 n c0] 27))∧Bx (w.alloc (.cells #[.int .i64 (n:Int),.slice A0 n c0] 27)) w.heap.size (.int .i64 (n:Int)) (.slice A0 n c0)):=⟨(Below.refl _ w).alloc (Nat.le_refl _) _,⟨by simp,by simp,by simp⟩⟩
 have HTO:Hid (∀W,Below w.heap.size w W→Calls Tryz.prog 148 #[.agg #[.int .i64 (n:Int),.slice A0 n c0]] W fun e w'=>e=.returned (.bool true)∧Below W.heap.size W w'):=fun W hW=>by
  have h:=implTourOk_any _ x W (HIT.out.below hW)
  rw [hok] at h;exact h
 have HWI:Hid (∀W,Calls Tryz.prog 147 #[.int .i64 (r:Int),.int .i64 0,.int .i64 7] W fun e w'=>e=.returned (.bool true)∧W=w'):=fun W=>by
  have h:=within_any (r:Int) 0 7 W
  rw [show inB (r:Int) 0 7=true from inB_t.2 ⟨by omega,by omega⟩] at h;exact h
 have hmod:((n:Int)%2==1)=false:=by rw [beq_eq_false_iff_ne];omega
 have n8:=HN.out.2
 clear hs hok hn hev
 go_enter Tryz.func185,Tryz.ntmps185
 go_upto_region 1 with fail
 change Code.wp _ _ _ _ (w.alloc (.cells #[.int .i64 (n:Int),.slice A0 n c0] 27))
 obtain ⟨q0,q1,-⟩:=HB0.out.2
 generalize w.alloc (.cells #[.int .i64 (n:Int),.slice A0 n c0] 27)=w0 at *
 go_wp2_with (first
  | (go_at_call 148;refine (HTO.out _ HB0.out.1).mono ?_;rintro e w1 ⟨rfl,hb⟩;have B1:Hid (Below w.heap.size w w1∧Bx w1 w.heap.size (.int .i64 (n:Int)) (.slice A0 n c0)):=⟨HB0.out.1.trans (hb.mono HB0.out.1.size),HB0.out.2.below hb⟩;clear hb q0 q1;obtain ⟨q0,q1,-⟩:=B1.out.2)
  | (go_at_call 147;refine (HWI.out _).mono ?_;rintro e w2 ⟨rfl,rfl⟩))
 have hmk:=run_mkI (n:=n) (by omega)
 have hlt:w.heap.size<w1.heap.size:=B1.out.2.2.2
 have qm:(w1.alloc (mkO n)).cell? ⟨w.heap.size,0,none⟩=some (.int .i64 (n:Int)):=cell_mkO (n:=n) q0 hlt
 go_region
 ·skip
  have H0:=Lib.hid ((DbW.make (n:=n) (by omega) B1.out.1 B1.out.2).1)
  generalize ((w1.alloc (mkO n)).alloc (mkO n)).drew=wz at *
  obtain ⟨g1,hg1⟩:∃g,w1.heap.size+1=g:=⟨_,rfl⟩
  obtain ⟨g0,hg0⟩:∃g,w1.heap.size=g:=⟨_,rfl⟩
  rw [hg1,hg0] at H0 ⊢
  clear hg1 hg0 q0 q1 qm hmk hlt B1
  go_wp2
  go_loopw [8,34] (fun v8 v34 wr=>∃(i:Nat) (pts met:List Int) (gs:List Value),i≤r∧v34=.int .i64 (i:Int)∧Hid (DbW w wr (.int .i64 (n:Int)) (.slice A0 n c0) (dbRows (.slice (some ⟨g0,0,none⟩) n n) (.slice (some ⟨g1,0,none⟩) n n) (.slice none 0 0) v8 pts met [] gs))∧Hid (swRun ordBy x.wins n (r-i) pts met=swRun ordBy x.wins n r (List.replicate n 0) (List.replicate n 0)∧pts.length=n∧met.length=n∧gs.length=i∧(∀y∈pts,0≤y∧y≤(i:Int))∧(∀y∈met,0≤y∧y≤255))) (fun _ v34 _=>r-(intOf v34).toNat)
  case atStart=>exact ⟨0,List.replicate n 0,List.replicate n 0,[],Nat.zero_le _,rfl,H0.out,rfl,by simp,by simp,rfl,fun y hy=>by rw [List.eq_of_mem_replicate hy];omega,fun y hy=>by rw [List.eq_of_mem_replicate hy];omega⟩
  case round=>
   obtain ⟨i,pts,met,gs,hi,rfl,HD,HL⟩:=hrel
   clear H0
   have HPT:Hid (∀W,DbW w W (.int .i64 (n:Int)) (.slice A0 n c0) (dbRows (.slice (some ⟨g0,0,none⟩) n n) (.slice (some ⟨g1,0,none⟩) n n) (.slice none 0 0) u8 pts met [] gs)→Fr W w.heap.size W.heap.size (.slice (some ⟨g0,0,none⟩) n n) pts):=fun W h=>((h.sep.at_ 0 _ rfl).fr (by have:=HN.out;omega) h.sz).wide (by omega) (Nat.le_refl _) (Nat.le_refl _)
   by_cases hlt:i<r
   case neg=>
    obtain rfl:i=r:=by omega
    have HX:=HL.out.1
    rw [Nat.sub_self] at HX
    have HX2:Hid (pts=swRun ordBy x.wins n i (List.replicate n 0) (List.replicate n 0)):=HX
    clear HX
    go_wp2
    refine bodyPost_ret (v:=.tuple #[.slice (some ⟨g0,0,none⟩) n n,u8]) (by simp [results,Tryz.results185,go_sem]) rfl ?_
    exact ⟨_,_,rfl,by rw [←HX2.out];exact HPT.out _ HD.out,HD.out.be⟩
   have HPSW:Hid (Calls Tryz.prog 270 #[.slice (some ⟨g0,0,none⟩) n n,.slice (some ⟨g1,0,none⟩) n n] wr fun e w'=>LR wr e w' (pairSw ordBy pts met)):=by
    have h:=pairSwiss_any (some ⟨g0,0,none⟩) (some ⟨g1,0,none⟩) n n pts met wr (HPT.out _ HD.out).sl (((HD.out.sep.at_ 1 _ rfl).fr (by have:=HN.out;omega) HD.out.sz).sl) (by rw [HL.out.2.1];omega) (by rw [HL.out.2.2.1];omega)
    rw [HL.out.2.1,HL.out.2.2.1] at h
    exact h
   obtain ⟨k9,hk9⟩:∃k,r-i=k+1:=⟨r-i-1,by omega⟩
   cases hp:pairSw ordBy pts met with
   | none=>
    rw [hp] at HPSW
    have HX2:Hid (pts=swRun ordBy x.wins n r (List.replicate n 0) (List.replicate n 0)):=by
     have h:=HL.out.1
     rw [hk9,swRun_none hp] at h
     exact h
    clear hp hk9
    go_wp2_with (go_at_call 270;refine HPSW.out.mono ?_;rintro e w2 ⟨hb,rfl⟩;have H2:=Lib.hid (HD.out.below hb);clear hb)
    refine bodyPost_ret (v:=.tuple #[.slice (some ⟨g0,0,none⟩) n n,u8]) (by simp [results,Tryz.results185,go_sem]) rfl ?_
    exact ⟨_,_,rfl,by rw [←HX2.out];exact HPT.out _ H2.out,H2.out.be⟩
   | some pr=>
    rw [hp] at HPSW
    have HRUN:Hid (swRun ordBy x.wins n (r-(i+1)) (swPts x.wins pr pts n) (swMet pr met n)=swRun ordBy x.wins n r (List.replicate n 0) (List.replicate n 0)):=by
     have h:=HL.out.1
     rw [hk9,swRun_some hp] at h
     rw [show r-(i+1)=k9 by omega]
     exact h
    have HPR:Hid (pr.length=n∧∀y∈pr,0≤y∧y<n):=by
     unfold pairSw at hp
     split at hp
     case isFalse=>cases hp
     have hk:=pairF_ok (n:=n) (by simp [HL.out.2.1]) (fun y hy=>by have:=ordBy_mem.1 hy;rw [HL.out.2.1] at this;exact this) (ordBy_nodup pts) hp
     refine ⟨hk.len,fun y hy=>?_⟩
     obtain ⟨j,hj⟩:=List.getElem?_of_mem hy
     have hjl:=(List.getElem?_eq_some_iff.1 hj).1
     have h1:=(hk.ins (j:Int) (ordBy_mem.2 (by rw [HL.out.2.1];have:=hk.len;omega))).1
     rw [Int.toNat_natCast,List.getD_eq_getElem?_getD,hj] at h1
     have h2:=ordBy_mem.1 h1
     rw [HL.out.2.1] at h2
     exact h2
    have HP2:Hid (Calls Tryz.prog 270 #[.slice (some ⟨g0,0,none⟩) n n,.slice (some ⟨g1,0,none⟩) n n] wr fun e w'=>∃g9 c9,e=.returned (.tuple #[.slice (some ⟨g9,0,none⟩) n c9,.bool true])∧DbW w w' (.int .i64 (n:Int)) (.slice A0 n c0) (dbRows (.slice (some ⟨g0,0,none⟩) n n) (.slice (some ⟨g1,0,none⟩) n n) (.slice none 0 0) u8 pts met [] gs++[⟨3,.slice (some ⟨g9,0,none⟩) n c9,ints pr⟩])):=by
     refine HPSW.out.mono fun e w' ⟨hb,v',he,hf⟩=>?_
     obtain ⟨A',c',rfl,_,_⟩:=hf.form
     obtain ⟨g,y,rfl,_⟩:=hf.at_ (k:=0) (by rw [HPR.out.1];have:=HN.out;omega)
     rw [HPR.out.1] at he hf
     exact ⟨g,c',he,HD.out.push hb (RowV.At.of_own hf.1)⟩
    clear hp hk9 HPSW
    go_wp2_with (go_at_call 270;refine HP2.out.mono ?_;rintro e w2 ⟨g9,c9,rfl,h2⟩;have H2:=Lib.hid h2;clear h2)
    go_loopw [46] (fun v46 wr=>∃k:Nat,k≤n∧v46=.int .i64 (k:Int)∧Hid (DbW w wr (.int .i64 (n:Int)) (.slice A0 n c0) (dbRows (.slice (some ⟨g0,0,none⟩) n n) (.slice (some ⟨g1,0,none⟩) n n) (.slice none 0 0) u8 (swPts x.wins pr pts k) (swMet pr met k) [] gs++[⟨3,.slice (some ⟨g9,0,none⟩) n c9,ints pr⟩]))) (fun v46 _=>n-(intOf v46).toNat)
    case atStart=>exact ⟨0,Nat.zero_le _,rfl,H2.out⟩
    case round=>
     obtain ⟨k,hk,rfl,HI⟩:=hrel
     clear H2
     by_cases hlt2:k<n
     case neg=>
      obtain rfl:k=n:=by omega
      go_wp2_with (at_builtin;refine sepAppS rfl _ _ rfl wr (w.heap.size+1) 3 _ u8 gs HI.out.sep HI.out.sz rfl rfl (some ⟨g9,0,none⟩) k c9 rfl (by have:=HL.out.2.2.2.1;omega) ?_;intro v5 w5 h1 h2 h3;have H5:Hid (DbW w w5 (.int .i64 (k:Int)) (.slice A0 k c0) (dbRows (.slice (some ⟨g0,0,none⟩) k k) (.slice (some ⟨g1,0,none⟩) k k) (.slice none 0 0) v5 (swPts x.wins pr pts k) (swMet pr met k) [] (gs++[.slice (some ⟨g9,0,none⟩) k c9]))):=(HI.out.app h1 h2).four;clear h1 h2 h3)
      go_roundw
      case rel=>exact ⟨i+1,_,_,_,by omega,by go_num,H5.out,HRUN.out,by rw [swPts_len];exact HL.out.2.1,by rw [swMet_len];exact HL.out.2.2.1,by rw [List.length_append,HL.out.2.2.2.1];rfl,fun y hy=>by have:=swPts_bd HL.out.2.2.2.2.1 _ y hy;omega,swMet_bd n8 HPR.out.2 HPR.out.1 HL.out.2.2.2.2.2 HL.out.2.2.1 _ (Nat.le_refl _)⟩
      case measure=>simp [intOf];omega
     obtain ⟨b,hb⟩:∃y,pr[k]? = some y:=⟨_,List.getElem?_eq_getElem (by rw [HPR.out.1];omega)⟩
     obtain ⟨b1,b2⟩:=HPR.out.2 b (List.mem_of_getElem? hb)
     obtain ⟨b,rfl⟩:=Int.eq_ofNat_of_zero_le b1
     obtain ⟨mv,hmv⟩:∃y,(swMet pr met k)[k]? = some y:=⟨_,List.getElem?_eq_getElem (by rw [swMet_len,HL.out.2.2.1];omega)⟩
     obtain ⟨pv,hpv⟩:∃y,(swPts x.wins pr pts k)[k]? = some y:=⟨_,List.getElem?_eq_getElem (by rw [swPts_len,HL.out.2.1];omega)⟩
     have hm2:=swMet_bd n8 HPR.out.2 HPR.out.1 HL.out.2.2.2.2.2 HL.out.2.2.1 k (by omega) mv (List.mem_of_getElem? hmv)
     have hp2:=swPts_bd HL.out.2.2.2.2.1 k pv (List.mem_of_getElem? hpv)
     obtain ⟨o1,o2,o3⟩:=or_at (v:=mv) (b:=b) hm2.1 hm2.2 (by omega)
     have cb:wr.cell? ⟨g9,k,none⟩=some (.int .i64 (b:Int)):=by have:=((HI.out.sep.at_ 4 _ rfl).cells (ints_at hb)).1;rwa [Nat.zero_add] at this
     have cm:=(HI.out.sep.at_ 1 _ rfl).cells (ints_at hmv)
     rw [Nat.zero_add] at cm
     obtain ⟨cm1,cm2⟩:=cm
     have HME:Hid ((swMet pr met k).set k (orN mv b)=swMet pr met (k+1)):=by
      show _=_
      rw [swMet]
      have e1:met.getD k 0=mv:=by rw [←swMet_high pr met k k (Nat.le_refl _),List.getD_eq_getElem?_getD,hmv];rfl
      have e2:pr.getD k 0=(b:Int):=by rw [List.getD_eq_getElem?_getD,hb];rfl
      rw [e1,e2,Int.toNat_natCast];rfl
     have HPE:Hid (swPts x.wins pr pts (k+1)=if bt x.wins k b then (swPts x.wins pr pts k).set k (pv+1) else swPts x.wins pr pts k):=by
      show _=_
      rw [swPts]
      have e1:pts.getD k 0=pv:=by rw [←swPts_high x.wins pr pts k k (Nat.le_refl _),List.getD_eq_getElem?_getD,hpv];rfl
      have e2:pr.getD k 0=(b:Int):=by rw [List.getD_eq_getElem?_getD,hb];rfl
      rw [e1,e2,Int.toNat_natCast]
     have HS1:Hid (∀W,DbW w W (.int .i64 (n:Int)) (.slice A0 n c0) (dbRows (.slice (some ⟨g0,0,none⟩) n n) (.slice (some ⟨g1,0,none⟩) n n) (.slice none 0 0) u8 (swPts x.wins pr pts k) (swMet pr met k) [] gs++[⟨3,.slice (some ⟨g9,0,none⟩) n c9,ints pr⟩])→DbW w (W.setCell ⟨g1,k,none⟩ (.int .i64 (orN mv b))).drew (.int .i64 (n:Int)) (.slice A0 n c0) (dbRows (.slice (some ⟨g0,0,none⟩) n n) (.slice (some ⟨g1,0,none⟩) n n) (.slice none 0 0) u8 (swPts x.wins pr pts k) (swMet pr met (k+1)) [] gs++[⟨3,.slice (some ⟨g9,0,none⟩) n c9,ints pr⟩])):=fun W h=>by
      have h1:=(h.setAt (k:=1) rfl (j:=k) (by rw [swMet_len,HL.out.2.2.1];omega) (orN mv b)).drewN 1
      rw [HME.out] at h1
      exact h1
     have HS2:Hid (∀W,DbW w W (.int .i64 (n:Int)) (.slice A0 n c0) (dbRows (.slice (some ⟨g0,0,none⟩) n n) (.slice (some ⟨g1,0,none⟩) n n) (.slice none 0 0) u8 (swPts x.wins pr pts k) (swMet pr met (k+1)) [] gs++[⟨3,.slice (some ⟨g9,0,none⟩) n c9,ints pr⟩])→(W.cell? ⟨g0,k,none⟩=some (.int .i64 pv)∧W.frozen? ⟨g0,k,none⟩=false)∧DbW w (W.setCell ⟨g0,k,none⟩ (.int .i64 (pv+1))) (.int .i64 (n:Int)) (.slice A0 n c0) (dbRows (.slice (some ⟨g0,0,none⟩) n n) (.slice (some ⟨g1,0,none⟩) n n) (.slice none 0 0) u8 ((swPts x.wins pr pts k).set k (pv+1)) (swMet pr met (k+1)) [] gs++[⟨3,.slice (some ⟨g9,0,none⟩) n c9,ints pr⟩])):=fun W h=>by
      have h1:=(h.sep.at_ 0 _ rfl).cells (ints_at hpv)
      rw [Nat.zero_add] at h1
      exact ⟨h1,h.setAt (k:=0) rfl (j:=k) (by rw [swPts_len,HL.out.2.1];omega) (pv+1)⟩
     have HBT:Hid (∀W,Below w.heap.size w W→Calls Tryz.prog 150 #[.agg #[.int .i64 (n:Int),.slice A0 n c0],.int .i64 (k:Int),.int .i64 (b:Int)] W fun e w'=>e=.returned (.bool (bt x.wins k b))∧Below W.heap.size W w'):=fun W hW=>by
      obtain ⟨_,_,_,hwb,_⟩:=tourB_t HOK.out.1
      exact implBeats_any _ x k b W (HIT.out.below hW) (by rw [HOK.out.2];exact n8) hwb (by rw [HOK.out.2];omega) (by omega)
     have f1:(0:Int)≤(k:Int)∧(k:Int)<(n:Int):=by omega
     have f2:(0:Int)≤(b:Int)∧(b:Int)<64:=by omega
     have f3:IntKind.i64.wrap (pv+1)=pv+1:=by rw [IntKind.wrap_i64];omega
     have e2:wrap64 (2^b)=(2:Int)^b:=by
      have h:∀k:Fin 8,wrap64 (2^k.val)=(2:Int)^k.val:=by decide +kernel
      exact h ⟨b,by omega⟩
     clear hb hmv hpv
     go_wp2_with fail
     go_region
     have H6:=Lib.hid (HS1.out wr HI.out)
     generalize (wr.setCell ⟨g1,k,none⟩ (.int .i64 (orN mv b))).drew=w6 at *
     obtain ⟨q0,q1,-⟩:=H6.out.bx
     clear cb cm1 cm2 e2 o1 o2 o3 HS1
     cases hbt:bt x.wins k b
     case false=>
      rw [hbt] at HBT HPE
      clear hbt
      go_wp2_with (go_at_call 150;refine (HBT.out _ H6.out.be).mono ?_;rintro e w7 ⟨rfl,hb⟩;have H7:=Lib.hid (H6.out.below hb);clear hb)
      go_roundw
      case rel=>exact ⟨k+1,by omega,by go_num,by rw [HPE.out];exact H7.out⟩
      case measure=>simp [intOf];omega
     case true=>
      rw [hbt] at HBT HPE
      clear hbt
      go_wp2_with (go_at_call 150;refine (HBT.out _ H6.out.be).mono ?_;rintro e w7 ⟨rfl,hb⟩;obtain ⟨⟨cp,fp⟩,h8⟩:=HS2.out w7 (H6.out.below hb);have H8:=Lib.hid h8;clear hb h8)
      go_roundw
      case rel=>exact ⟨k+1,by omega,by go_num,by rw [HPE.out];exact H8.out⟩
      case measure=>simp [intOf];omega
 ·skip
  have H0:=Lib.hid ((DbW.make (n:=n) (by omega) B1.out.1 B1.out.2).2)
  generalize ((w1.alloc (mkO n)).alloc (mkO n)).drew=wz at *
  obtain ⟨g1,hg1⟩:∃g,w1.heap.size+1=g:=⟨_,rfl⟩
  obtain ⟨g0,hg0⟩:∃g,w1.heap.size=g:=⟨_,rfl⟩
  rw [hg1,hg0] at H0 ⊢
  clear hg1 hg0 q0 q1 qm hmk hlt B1
  go_wp2
  go_loopw [8,34] (fun v8 v34 wr=>∃(i:Nat) (pts met:List Int) (gs:List Value),i≤r∧v34=.int .i64 (i:Int)∧Hid (DbW w wr (.int .i64 (n:Int)) (.slice A0 n c0) (dbRows (.slice (some ⟨g1,0,none⟩) n n) (.slice (some ⟨g0,0,none⟩) n n) (.slice none 0 0) v8 pts met [] gs))∧Hid (swRun ordBy x.wins n (r-i) pts met=swRun ordBy x.wins n r (List.replicate n 0) (List.replicate n 0)∧pts.length=n∧met.length=n∧gs.length=i∧(∀y∈pts,0≤y∧y≤(i:Int))∧(∀y∈met,0≤y∧y≤255))) (fun _ v34 _=>r-(intOf v34).toNat)
  case atStart=>exact ⟨0,List.replicate n 0,List.replicate n 0,[],Nat.zero_le _,rfl,H0.out,rfl,by simp,by simp,rfl,fun y hy=>by rw [List.eq_of_mem_replicate hy];omega,fun y hy=>by rw [List.eq_of_mem_replicate hy];omega⟩
  case round=>
   obtain ⟨i,pts,met,gs,hi,rfl,HD,HL⟩:=hrel
   clear H0
   have HPT:Hid (∀W,DbW w W (.int .i64 (n:Int)) (.slice A0 n c0) (dbRows (.slice (some ⟨g1,0,none⟩) n n) (.slice (some ⟨g0,0,none⟩) n n) (.slice none 0 0) u8 pts met [] gs)→Fr W w.heap.size W.heap.size (.slice (some ⟨g1,0,none⟩) n n) pts):=fun W h=>((h.sep.at_ 0 _ rfl).fr (by have:=HN.out;omega) h.sz).wide (by omega) (Nat.le_refl _) (Nat.le_refl _)
   by_cases hlt:i<r
   case neg=>
    obtain rfl:i=r:=by omega
    have HX:=HL.out.1
    rw [Nat.sub_self] at HX
    have HX2:Hid (pts=swRun ordBy x.wins n i (List.replicate n 0) (List.replicate n 0)):=HX
    clear HX
    go_wp2
    refine bodyPost_ret (v:=.tuple #[.slice (some ⟨g1,0,none⟩) n n,u8]) (by simp [results,Tryz.results185,go_sem]) rfl ?_
    exact ⟨_,_,rfl,by rw [←HX2.out];exact HPT.out _ HD.out,HD.out.be⟩
   have HPSW:Hid (Calls Tryz.prog 270 #[.slice (some ⟨g1,0,none⟩) n n,.slice (some ⟨g0,0,none⟩) n n] wr fun e w'=>LR wr e w' (pairSw ordBy pts met)):=by
    have h:=pairSwiss_any (some ⟨g1,0,none⟩) (some ⟨g0,0,none⟩) n n pts met wr (HPT.out _ HD.out).sl (((HD.out.sep.at_ 1 _ rfl).fr (by have:=HN.out;omega) HD.out.sz).sl) (by rw [HL.out.2.1];omega) (by rw [HL.out.2.2.1];omega)
    rw [HL.out.2.1,HL.out.2.2.1] at h
    exact h
   obtain ⟨k9,hk9⟩:∃k,r-i=k+1:=⟨r-i-1,by omega⟩
   cases hp:pairSw ordBy pts met with
   | none=>
    rw [hp] at HPSW
    have HX2:Hid (pts=swRun ordBy x.wins n r (List.replicate n 0) (List.replicate n 0)):=by
     have h:=HL.out.1
     rw [hk9,swRun_none hp] at h
     exact h
    clear hp hk9
    go_wp2_with (go_at_call 270;refine HPSW.out.mono ?_;rintro e w2 ⟨hb,rfl⟩;have H2:=Lib.hid (HD.out.below hb);clear hb)
    refine bodyPost_ret (v:=.tuple #[.slice (some ⟨g1,0,none⟩) n n,u8]) (by simp [results,Tryz.results185,go_sem]) rfl ?_
    exact ⟨_,_,rfl,by rw [←HX2.out];exact HPT.out _ H2.out,H2.out.be⟩
   | some pr=>
    rw [hp] at HPSW
    have HRUN:Hid (swRun ordBy x.wins n (r-(i+1)) (swPts x.wins pr pts n) (swMet pr met n)=swRun ordBy x.wins n r (List.replicate n 0) (List.replicate n 0)):=by
     have h:=HL.out.1
     rw [hk9,swRun_some hp] at h
     rw [show r-(i+1)=k9 by omega]
     exact h
    have HPR:Hid (pr.length=n∧∀y∈pr,0≤y∧y<n):=by
     unfold pairSw at hp
     split at hp
     case isFalse=>cases hp
     have hk:=pairF_ok (n:=n) (by simp [HL.out.2.1]) (fun y hy=>by have:=ordBy_mem.1 hy;rw [HL.out.2.1] at this;exact this) (ordBy_nodup pts) hp
     refine ⟨hk.len,fun y hy=>?_⟩
     obtain ⟨j,hj⟩:=List.getElem?_of_mem hy
     have hjl:=(List.getElem?_eq_some_iff.1 hj).1
     have h1:=(hk.ins (j:Int) (ordBy_mem.2 (by rw [HL.out.2.1];have:=hk.len;omega))).1
     rw [Int.toNat_natCast,List.getD_eq_getElem?_getD,hj] at h1
     have h2:=ordBy_mem.1 h1
     rw [HL.out.2.1] at h2
     exact h2
    have HP2:Hid (Calls Tryz.prog 270 #[.slice (some ⟨g1,0,none⟩) n n,.slice (some ⟨g0,0,none⟩) n n] wr fun e w'=>∃g9 c9,e=.returned (.tuple #[.slice (some ⟨g9,0,none⟩) n c9,.bool true])∧DbW w w' (.int .i64 (n:Int)) (.slice A0 n c0) (dbRows (.slice (some ⟨g1,0,none⟩) n n) (.slice (some ⟨g0,0,none⟩) n n) (.slice none 0 0) u8 pts met [] gs++[⟨3,.slice (some ⟨g9,0,none⟩) n c9,ints pr⟩])):=by
     refine HPSW.out.mono fun e w' ⟨hb,v',he,hf⟩=>?_
     obtain ⟨A',c',rfl,_,_⟩:=hf.form
     obtain ⟨g,y,rfl,_⟩:=hf.at_ (k:=0) (by rw [HPR.out.1];have:=HN.out;omega)
     rw [HPR.out.1] at he hf
     exact ⟨g,c',he,HD.out.push hb (RowV.At.of_own hf.1)⟩
    clear hp hk9 HPSW
    go_wp2_with (go_at_call 270;refine HP2.out.mono ?_;rintro e w2 ⟨g9,c9,rfl,h2⟩;have H2:=Lib.hid h2;clear h2)
    go_loopw [46] (fun v46 wr=>∃k:Nat,k≤n∧v46=.int .i64 (k:Int)∧Hid (DbW w wr (.int .i64 (n:Int)) (.slice A0 n c0) (dbRows (.slice (some ⟨g1,0,none⟩) n n) (.slice (some ⟨g0,0,none⟩) n n) (.slice none 0 0) u8 (swPts x.wins pr pts k) (swMet pr met k) [] gs++[⟨3,.slice (some ⟨g9,0,none⟩) n c9,ints pr⟩]))) (fun v46 _=>n-(intOf v46).toNat)
    case atStart=>exact ⟨0,Nat.zero_le _,rfl,H2.out⟩
    case round=>
     obtain ⟨k,hk,rfl,HI⟩:=hrel
     clear H2
     by_cases hlt2:k<n
     case neg=>
      obtain rfl:k=n:=by omega
      go_wp2_with (at_builtin;refine sepAppS rfl _ _ rfl wr (w.heap.size+1) 3 _ u8 gs HI.out.sep HI.out.sz rfl rfl (some ⟨g9,0,none⟩) k c9 rfl (by have:=HL.out.2.2.2.1;omega) ?_;intro v5 w5 h1 h2 h3;have H5:Hid (DbW w w5 (.int .i64 (k:Int)) (.slice A0 k c0) (dbRows (.slice (some ⟨g1,0,none⟩) k k) (.slice (some ⟨g0,0,none⟩) k k) (.slice none 0 0) v5 (swPts x.wins pr pts k) (swMet pr met k) [] (gs++[.slice (some ⟨g9,0,none⟩) k c9]))):=(HI.out.app h1 h2).four;clear h1 h2 h3)
      go_roundw
      case rel=>exact ⟨i+1,_,_,_,by omega,by go_num,H5.out,HRUN.out,by rw [swPts_len];exact HL.out.2.1,by rw [swMet_len];exact HL.out.2.2.1,by rw [List.length_append,HL.out.2.2.2.1];rfl,fun y hy=>by have:=swPts_bd HL.out.2.2.2.2.1 _ y hy;omega,swMet_bd n8 HPR.out.2 HPR.out.1 HL.out.2.2.2.2.2 HL.out.2.2.1 _ (Nat.le_refl _)⟩
      case measure=>simp [intOf];omega
     obtain ⟨b,hb⟩:∃y,pr[k]? = some y:=⟨_,List.getElem?_eq_getElem (by rw [HPR.out.1];omega)⟩
     obtain ⟨b1,b2⟩:=HPR.out.2 b (List.mem_of_getElem? hb)
     obtain ⟨b,rfl⟩:=Int.eq_ofNat_of_zero_le b1
     obtain ⟨mv,hmv⟩:∃y,(swMet pr met k)[k]? = some y:=⟨_,List.getElem?_eq_getElem (by rw [swMet_len,HL.out.2.2.1];omega)⟩
     obtain ⟨pv,hpv⟩:∃y,(swPts x.wins pr pts k)[k]? = some y:=⟨_,List.getElem?_eq_getElem (by rw [swPts_len,HL.out.2.1];omega)⟩
     have hm2:=swMet_bd n8 HPR.out.2 HPR.out.1 HL.out.2.2.2.2.2 HL.out.2.2.1 k (by omega) mv (List.mem_of_getElem? hmv)
     have hp2:=swPts_bd HL.out.2.2.2.2.1 k pv (List.mem_of_getElem? hpv)
     obtain ⟨o1,o2,o3⟩:=or_at (v:=mv) (b:=b) hm2.1 hm2.2 (by omega)
     have cb:wr.cell? ⟨g9,k,none⟩=some (.int .i64 (b:Int)):=by have:=((HI.out.sep.at_ 4 _ rfl).cells (ints_at hb)).1;rwa [Nat.zero_add] at this
     have cm:=(HI.out.sep.at_ 1 _ rfl).cells (ints_at hmv)
     rw [Nat.zero_add] at cm
     obtain ⟨cm1,cm2⟩:=cm
     have HME:Hid ((swMet pr met k).set k (orN mv b)=swMet pr met (k+1)):=by
      show _=_
      rw [swMet]
      have e1:met.getD k 0=mv:=by rw [←swMet_high pr met k k (Nat.le_refl _),List.getD_eq_getElem?_getD,hmv];rfl
      have e2:pr.getD k 0=(b:Int):=by rw [List.getD_eq_getElem?_getD,hb];rfl
      rw [e1,e2,Int.toNat_natCast];rfl
     have HPE:Hid (swPts x.wins pr pts (k+1)=if bt x.wins k b then (swPts x.wins pr pts k).set k (pv+1) else swPts x.wins pr pts k):=by
      show _=_
      rw [swPts]
      have e1:pts.getD k 0=pv:=by rw [←swPts_high x.wins pr pts k k (Nat.le_refl _),List.getD_eq_getElem?_getD,hpv];rfl
      have e2:pr.getD k 0=(b:Int):=by rw [List.getD_eq_getElem?_getD,hb];rfl
      rw [e1,e2,Int.toNat_natCast]
     have HS1:Hid (∀W,DbW w W (.int .i64 (n:Int)) (.slice A0 n c0) (dbRows (.slice (some ⟨g1,0,none⟩) n n) (.slice (some ⟨g0,0,none⟩) n n) (.slice none 0 0) u8 (swPts x.wins pr pts k) (swMet pr met k) [] gs++[⟨3,.slice (some ⟨g9,0,none⟩) n c9,ints pr⟩])→DbW w (W.setCell ⟨g0,k,none⟩ (.int .i64 (orN mv b))).drew (.int .i64 (n:Int)) (.slice A0 n c0) (dbRows (.slice (some ⟨g1,0,none⟩) n n) (.slice (some ⟨g0,0,none⟩) n n) (.slice none 0 0) u8 (swPts x.wins pr pts k) (swMet pr met (k+1)) [] gs++[⟨3,.slice (some ⟨g9,0,none⟩) n c9,ints pr⟩])):=fun W h=>by
      have h1:=(h.setAt (k:=1) rfl (j:=k) (by rw [swMet_len,HL.out.2.2.1];omega) (orN mv b)).drewN 1
      rw [HME.out] at h1
      exact h1
     have HS2:Hid (∀W,DbW w W (.int .i64 (n:Int)) (.slice A0 n c0) (dbRows (.slice (some ⟨g1,0,none⟩) n n) (.slice (some ⟨g0,0,none⟩) n n) (.slice none 0 0) u8 (swPts x.wins pr pts k) (swMet pr met (k+1)) [] gs++[⟨3,.slice (some ⟨g9,0,none⟩) n c9,ints pr⟩])→(W.cell? ⟨g1,k,none⟩=some (.int .i64 pv)∧W.frozen? ⟨g1,k,none⟩=false)∧DbW w (W.setCell ⟨g1,k,none⟩ (.int .i64 (pv+1))) (.int .i64 (n:Int)) (.slice A0 n c0) (dbRows (.slice (some ⟨g1,0,none⟩) n n) (.slice (some ⟨g0,0,none⟩) n n) (.slice none 0 0) u8 ((swPts x.wins pr pts k).set k (pv+1)) (swMet pr met (k+1)) [] gs++[⟨3,.slice (some ⟨g9,0,none⟩) n c9,ints pr⟩])):=fun W h=>by
      have h1:=(h.sep.at_ 0 _ rfl).cells (ints_at hpv)
      rw [Nat.zero_add] at h1
      exact ⟨h1,h.setAt (k:=0) rfl (j:=k) (by rw [swPts_len,HL.out.2.1];omega) (pv+1)⟩
     have HBT:Hid (∀W,Below w.heap.size w W→Calls Tryz.prog 150 #[.agg #[.int .i64 (n:Int),.slice A0 n c0],.int .i64 (k:Int),.int .i64 (b:Int)] W fun e w'=>e=.returned (.bool (bt x.wins k b))∧Below W.heap.size W w'):=fun W hW=>by
      obtain ⟨_,_,_,hwb,_⟩:=tourB_t HOK.out.1
      exact implBeats_any _ x k b W (HIT.out.below hW) (by rw [HOK.out.2];exact n8) hwb (by rw [HOK.out.2];omega) (by omega)
     have f1:(0:Int)≤(k:Int)∧(k:Int)<(n:Int):=by omega
     have f2:(0:Int)≤(b:Int)∧(b:Int)<64:=by omega
     have f3:IntKind.i64.wrap (pv+1)=pv+1:=by rw [IntKind.wrap_i64];omega
     have e2:wrap64 (2^b)=(2:Int)^b:=by
      have h:∀k:Fin 8,wrap64 (2^k.val)=(2:Int)^k.val:=by decide +kernel
      exact h ⟨b,by omega⟩
     clear hb hmv hpv
     go_wp2_with fail
     go_region
     have H6:=Lib.hid (HS1.out wr HI.out)
     generalize (wr.setCell ⟨g0,k,none⟩ (.int .i64 (orN mv b))).drew=w6 at *
     obtain ⟨q0,q1,-⟩:=H6.out.bx
     clear cb cm1 cm2 e2 o1 o2 o3 HS1
     cases hbt:bt x.wins k b
     case false=>
      rw [hbt] at HBT HPE
      clear hbt
      go_wp2_with (go_at_call 150;refine (HBT.out _ H6.out.be).mono ?_;rintro e w7 ⟨rfl,hb⟩;have H7:=Lib.hid (H6.out.below hb);clear hb)
      go_roundw
      case rel=>exact ⟨k+1,by omega,by go_num,by rw [HPE.out];exact H7.out⟩
      case measure=>simp [intOf];omega
     case true=>
      rw [hbt] at HBT HPE
      clear hbt
      go_wp2_with (go_at_call 150;refine (HBT.out _ H6.out.be).mono ?_;rintro e w7 ⟨rfl,hb⟩;obtain ⟨⟨cp,fp⟩,h8⟩:=HS2.out w7 (H6.out.below hb);have H8:=Lib.hid h8;clear hb h8)
      go_roundw
      case rel=>exact ⟨k+1,by omega,by go_num,by rw [HPE.out];exact H8.out⟩
      case measure=>simp [intOf];omega
def LP (w:World) (e:Ending) (w':World) (o:Option (List Int)):Prop:=
 Below w.heap.size w w'∧match o with
  | none=>e=.returned (.tuple #[.slice none 0 0,.slice none 0 0])
  | some l=>∃v1 v2,e=.returned (.tuple #[v1,v2])∧Fr w' w.heap.size w'.heap.size v1 l
theorem LP.none_of {w w':World}{e:Ending}{o:Option (List Int)} (ho:o=none) (he:e=.returned (.tuple #[.slice none 0 0,.slice none 0 0])) (hb:Below w.heap.size w w'):LP w e w' o:=by subst ho;exact ⟨hb,he⟩
theorem swissPlay_any (v:Value) (x:TourV) (r:Int) (w:World) (hs:InT w v x):
  Calls Tryz.prog 185 #[v,.int .i64 r] w fun e w'=>LP w e w' (spF x r):=by
 have HIT:=Lib.hid hs
 obtain ⟨u,rfl,A0,c0,rfl,hc,hm,hsl⟩:=hs
 have HB0:Hid (Below w.heap.size w (w.alloc (.cells #[.int .i64 x.size,.slice A0 x.wins.length c0] 27))∧Bx (w.alloc (.cells #[.int .i64 x.size,.slice A0 x.wins.length c0] 27)) w.heap.size (.int .i64 x.size) (.slice A0 x.wins.length c0)):=⟨(Below.refl _ w).alloc (Nat.le_refl _) _,⟨by simp,by simp,by simp⟩⟩
 have HTO:Hid (∀W,Below w.heap.size w W→Calls Tryz.prog 148 #[.agg #[.int .i64 x.size,.slice A0 x.wins.length c0]] W fun e w'=>e=.returned (.bool (tourB x))∧Below W.heap.size W w'):=fun W hW=>implTourOk_any _ x W (HIT.out.below hW)
 have HWI:Hid (∀W,Calls Tryz.prog 147 #[.int .i64 r,.int .i64 0,.int .i64 7] W fun e w'=>e=.returned (.bool (inB r 0 7))∧W=w'):=fun W=>within_any r 0 7 W
 clear hsl hc hm
 cases h1:tourB x
 case false=>
  have HE:Hid (spF x r=none):=by show _=_;unfold spF spOk;rw [h1];rfl
  rw [h1] at HTO
  clear h1
  go_enter Tryz.func185,Tryz.ntmps185
  go_wp2_with (go_at_call 148;refine (HTO.out _ HB0.out.1).mono ?_;rintro e w1 ⟨rfl,hb⟩;have B1:Hid (Below w.heap.size w w1):=HB0.out.1.trans (hb.mono HB0.out.1.size);clear hb)
  refine bodyPost_ret (v:=.tuple #[.slice none 0 0,.slice none 0 0]) (by simp [results,Tryz.results185,go_sem]) rfl ?_
  exact LP.none_of HE.out rfl B1.out
 obtain ⟨t1,t2,t3,t4⟩:=tourB_t h1
 have hsz:x.size=(x.wins.length:Int):=t3.symm
 have HOK:=Lib.hid h1
 by_cases h2:x.wins.length%2=0
 case neg=>
  have HE:Hid (spF x r=none):=by
   show _=_
   unfold spF spOk
   rw [h1,decide_eq_true (show x.size%2=1 by omega)];rfl
  have hmod:(x.size%2==1)=true:=by rw [beq_iff_eq];omega
  have hmod2:(Int.tmod x.size 2==1)=true:=by rw [beq_iff_eq,Int.tmod_eq_emod_of_nonneg (by omega)];omega
  rw [h1] at HTO
  clear h1 t1 t2 t3 t4 h2 hsz
  go_enter Tryz.func185,Tryz.ntmps185
  go_upto_region 1 with fail
  change Code.wp _ _ _ _ (w.alloc (.cells #[.int .i64 x.size,.slice A0 x.wins.length c0] 27))
  obtain ⟨q0,q1,-⟩:=HB0.out.2
  generalize w.alloc (.cells #[.int .i64 x.size,.slice A0 x.wins.length c0] 27)=w0 at *
  go_wp2_with (go_at_call 148;refine (HTO.out _ HB0.out.1).mono ?_;rintro e w1 ⟨rfl,hb⟩;have B1:Hid (Below w.heap.size w w1∧Bx w1 w.heap.size (.int .i64 x.size) (.slice A0 x.wins.length c0)):=⟨HB0.out.1.trans (hb.mono HB0.out.1.size),HB0.out.2.below hb⟩;clear hb q0 q1;obtain ⟨q0,q1,-⟩:=B1.out.2)
  refine bodyPost_ret (v:=.tuple #[.slice none 0 0,.slice none 0 0]) (by simp [results,Tryz.results185,go_sem]) rfl ?_
  exact LP.none_of HE.out rfl B1.out.1
 cases h3:inB r 0 7
 case false=>
  have HE:Hid (spF x r=none):=by
   show _=_
   unfold spF spOk
   rw [h3];simp
  have hmod:(x.size%2==1)=false:=by rw [beq_eq_false_iff_ne];omega
  have hmod2:(Int.tmod x.size 2==1)=false:=by rw [beq_eq_false_iff_ne,Int.tmod_eq_emod_of_nonneg (by omega)];omega
  rw [h1] at HTO
  rw [h3] at HWI
  clear h1 t1 t2 t3 t4 h2 hsz h3
  go_enter Tryz.func185,Tryz.ntmps185
  go_upto_region 1 with fail
  change Code.wp _ _ _ _ (w.alloc (.cells #[.int .i64 x.size,.slice A0 x.wins.length c0] 27))
  obtain ⟨q0,q1,-⟩:=HB0.out.2
  generalize w.alloc (.cells #[.int .i64 x.size,.slice A0 x.wins.length c0] 27)=w0 at *
  go_wp2_with (first
   | (go_at_call 148;refine (HTO.out _ HB0.out.1).mono ?_;rintro e w1 ⟨rfl,hb⟩;have B1:Hid (Below w.heap.size w w1∧Bx w1 w.heap.size (.int .i64 x.size) (.slice A0 x.wins.length c0)):=⟨HB0.out.1.trans (hb.mono HB0.out.1.size),HB0.out.2.below hb⟩;clear hb q0 q1;obtain ⟨q0,q1,-⟩:=B1.out.2)
   | (go_at_call 147;refine (HWI.out _).mono ?_;rintro e w2 ⟨rfl,rfl⟩))
  refine bodyPost_ret (v:=.tuple #[.slice none 0 0,.slice none 0 0]) (by simp [results,Tryz.results185,go_sem]) rfl ?_
  exact LP.none_of HE.out rfl B1.out.1
 have h4:=inB_t.1 h3
 obtain ⟨r,rfl⟩:=Int.eq_ofNat_of_zero_le h4.1
 have HE:spF x (r:Int)=some (swRun ordBy x.wins x.wins.length r (List.replicate x.wins.length 0) (List.replicate x.wins.length 0)):=by
  unfold spF spOk
  rw [h1,h3,decide_eq_false (show ¬x.size%2=1 by omega)];rfl
 rw [HE]
 have HITn:=HIT.out
 rw [hsz] at HITn ⊢
 refine (swissPlay_go x x.wins.length c0 r A0 w rfl HITn h1 h2 (by omega)).mono ?_
 rintro e w' ⟨v1,v2,he,hf,hb⟩
 exact ⟨hb,v1,v2,he,hf⟩
end Go.Proofs.YtkapoldjcpfdgaaGreatDoor
