/- Ladders: the contracts that the law FnLadders calls. -/
import Derived.Deep.LoopGhost
import Derived.Test.YtkapoldjcpfdgaaGreatDoorMam
set_option maxHeartbeats 4000000
set_option maxRecDepth 100000
namespace Go.Proofs.YtkapoldjcpfdgaaGreatDoor
open Go.ChangeShapes Go.WideShapes Go.ChangeAt Go.RowKit
def rowF (l:List Int) (v:Int) (r:Nat):List Int:=l++v :: List.replicate r 0
theorem rowF_lt {l:List Int}{v:Int}{r k:Nat} (h:k<l.length):(rowF l v r)[k]? = l[k]?:=List.getElem?_append_left h
theorem rowF_mid {l:List Int}{v:Int}{r s:Nat} (hl:l.length=s):(rowF l v r)[s]? = some v:=by rw [rowF,List.getElem?_append_right (by omega),hl,Nat.sub_self];rfl
theorem rowF_set {l:List Int}{v y:Int}{r s:Nat} (hl:l.length=s):(rowF l v r).set s y=rowF l y r:=by rw [rowF,List.set_append_right _ _ (by omega),hl,Nat.sub_self];rfl
theorem rowF_next {l:List Int}{v:Int}{r:Nat}:rowF l v r=(l++[v])++List.replicate r 0:=by simp [rowF]
theorem rowF_here {l:List Int}{r:Nat}:l++List.replicate (r+1) 0=rowF l 0 r:=by rw [rowF,List.replicate_succ]
structure Arr (w wr:World) (x:TourV) (A:Option Addr) (c T gf gm:Nat) (fs ms:List Int):Prop where
 ff:Fr wr (w.heap.size+1) wr.heap.size (.slice (some ⟨gf,0,none⟩) T T) fs
 fm:Fr wr (w.heap.size+1) wr.heap.size (.slice (some ⟨gm,0,none⟩) T T) ms
 ne:gf≠gm
 bx:Bx wr w.heap.size (.int .i64 (x.wins.length:Int)) (.slice A x.wins.length c)
 be:Below w.heap.size w wr
theorem Arr.below {w wr w2:World}{x:TourV}{A:Option Addr}{c T gf gm:Nat}{fs ms:List Int} (h:Arr w wr x A c T gf gm fs ms) (hb:Below wr.heap.size wr w2):Arr w w2 x A c T gf gm fs ms:=
 ⟨(h.ff.grow hb).wide (Nat.le_refl _) hb.size (Nat.le_refl _),(h.fm.grow hb).wide (Nat.le_refl _) hb.size (Nat.le_refl _),h.ne,h.bx.below hb,h.be.trans (hb.mono h.be.size)⟩
theorem Arr.atF {w wr:World}{x:TourV}{A:Option Addr}{c T gf gm:Nat}{fs ms:List Int} (h:Arr w wr x A c T gf gm fs ms) {k:Nat}{z:Int} (hz:fs[k]? = some z):
  k<T∧wr.cell? ⟨gf,k,none⟩=some (.int .i64 z)∧wr.frozen? ⟨gf,k,none⟩=false∧∀y,Arr w (wr.setCell ⟨gf,k,none⟩ (.int .i64 y)) x A c T gf gm (fs.set k y) ms:=by
 have hk:=(List.getElem?_eq_some_iff.1 hz).1
 obtain ⟨g,z',e,hg1,hg2,hz',c1,f1,s1⟩:=h.ff.at_ hk
 injection e with e
 injection e with e
 subst e
 obtain rfl:z=z':=by rw [hz] at hz';exact Option.some.inj hz'
 refine ⟨by rw [h.ff.len];exact hk,c1,f1,fun y=>?_⟩
 obtain ⟨s2,s3⟩:=s1 y
 have hk1:Keep gf (gf+1) wr (wr.setCell ⟨gf,k,none⟩ (.int .i64 y)):=Keep.setCell (p:=⟨gf,k,none⟩) (Keep.refl gf (gf+1) wr) (Nat.le_refl _) (Nat.lt_succ_self _) _
 have hm:=h.fm.apart hk1 (fun g hg=>by
  simp only [Value.ownBlock,Option.some.injEq] at hg
  have:=h.ne;omega)
 have hsz:=s2.2.2
 have hlt:=hg2
 refine ⟨s2.wide (Nat.le_refl _) s3.size (Nat.le_refl _),hm.wide (Nat.le_refl _) s3.size (Nat.le_refl _),h.ne,h.bx.keep s3 (.inl (Nat.lt_succ_self _)),h.be.setCell (by show w.heap.size≤gf;omega) _⟩
theorem Arr.swap {w wr:World}{x:TourV}{A:Option Addr}{c T gf gm:Nat}{fs ms:List Int} (h:Arr w wr x A c T gf gm fs ms):Arr w wr x A c T gm gf ms fs:=⟨h.fm,h.ff,h.ne.symm,h.bx,h.be⟩
theorem Arr.atM {w wr:World}{x:TourV}{A:Option Addr}{c T gf gm:Nat}{fs ms:List Int} (h:Arr w wr x A c T gf gm fs ms) {k:Nat}{z:Int} (hz:ms[k]? = some z):
  k<T∧wr.cell? ⟨gm,k,none⟩=some (.int .i64 z)∧wr.frozen? ⟨gm,k,none⟩=false∧∀y,Arr w (wr.setCell ⟨gm,k,none⟩ (.int .i64 y)) x A c T gf gm fs (ms.set k y):=by
 obtain ⟨h1,h2,h3,h4⟩:=h.swap.atF hz
 exact ⟨h1,h2,h3,fun y=>(h4 y).swap⟩
theorem Arr.drew {w wr:World}{x:TourV}{A:Option Addr}{c T gf gm:Nat}{fs ms:List Int} (h:Arr w wr x A c T gf gm fs ms):Arr w wr.drew x A c T gf gm fs ms:=⟨h.ff,h.fm,h.ne,h.bx,below_drewL h.be⟩
theorem arrMk {w W:World}{x:TourV}{A:Option Addr}{c T:Nat} (hT:T≤1048576) (h:Bx W w.heap.size (.int .i64 (x.wins.length:Int)) (.slice A x.wins.length c)∧Below w.heap.size w W∧W.heap.size=w.heap.size+1):
  Arr w ((W.alloc (mkO T)).alloc (mkO T)).drew x A c T (w.heap.size+1) (w.heap.size+1+1) (List.replicate T 0) (List.replicate T 0):=by
 obtain ⟨h1,h2,h3⟩:=h
 have f1:=fr_mkO hT W
 have b1:Below W.heap.size W (W.alloc (mkO T)):=(Below.refl _ W).alloc (Nat.le_refl _) _
 have z1:(W.alloc (mkO T)).heap.size=W.heap.size+1:=World.size_alloc _ _
 have f2:=fr_mkO hT (W.alloc (mkO T))
 have b2:Below (W.alloc (mkO T)).heap.size (W.alloc (mkO T)) ((W.alloc (mkO T)).alloc (mkO T)):=(Below.refl _ _).alloc (Nat.le_refl _) _
 refine Arr.drew ⟨?_,?_,by omega,(h1.below b1).below b2,h2.trans ((b1.trans (b2.mono b1.size)).mono h2.size)⟩
 ·have h:=(f1.grow b2).wide (lo':=w.heap.size+1) (by omega) b2.size (Nat.le_refl _)
  rwa [h3] at h
 ·have h:=f2.wide (lo':=w.heap.size+1) (by omega) (Nat.le_refl _) (Nat.le_refl _)
  rwa [z1,h3] at h
theorem Fr.cell1 {w:World}{lo g k:Nat}{v u:Value}{xs:List Int} (h:Fr w lo w.heap.size v xs) (hg:g<lo):Fr (w.setCell ⟨g,k,none⟩ u) lo (w.setCell ⟨g,k,none⟩ u).heap.size v xs:=by
 have hk:Keep g (g+1) w (w.setCell ⟨g,k,none⟩ u):=Keep.setCell (p:=⟨g,k,none⟩) (Keep.refl g (g+1) w) (Nat.le_refl _) (Nat.lt_succ_self _) _
 exact (h.keep hk (.inr hg)).wide (Nat.le_refl _) hk.size (Nat.le_refl _)
theorem andNot_bit:∀s:Fin 256,∀a:Fin 8,s.val.testBit a.val=true→s.val &&& (255 ^^^ 2^a.val)=s.val-2^a.val:=by decide +kernel
theorem andNot_one {s a Q L:Nat} (hs:s<256) (ha:a<8) (hb:s.testBit a=true) (hQ:(2:Int)^a=(Q:Int)) (hL:s-2^a=L):bits BinOp.andNot IntKind.i64 (s:Int) (Q:Int)=(L:Int):=by
 have e:2^a=Q:=by
  have:((2^a:Nat):Int)=(Q:Int):=by rw [Int.natCast_pow];exact hQ
  exact Int.ofNat.inj this
 have hQ256:Q<256:=by
  rw [←e]
  have h:∀a:Fin 8,2^a.val<256:=by decide
  exact h ⟨a,ha⟩
 rw [andNot_small hs hQ256,←hL,←e]
 exact congrArg _ (andNot_bit ⟨s,hs⟩ ⟨a,ha⟩ hb)
theorem arranged_any (v:Value) (x:TourV) (w:World) (hs:InT w v x) (hok:tourB x=true):
  Calls Tryz.prog 165 #[v] w fun e w'=>∃vb vw,e=.returned (.tuple #[vb,vw])∧InI w' vb (fsts x (2^x.wins.length))∧Below w.heap.size w w':=by
 have HIT:=Lib.hid hs
 have HOK:=Lib.hid hok
 obtain ⟨u,rfl,A,c,rfl,hc,hm,hsl⟩:=hs
 obtain ⟨t1,t2,t3,_,_⟩:=tourB_t hok
 have hn8:x.wins.length≤8:=by omega
 have h256:(2:Nat)^x.wins.length≤256:=Nat.pow_le_pow_right (by omega) hn8
 have hpos:2≤(2:Nat)^x.wins.length:=by
  have h:(2:Nat)^1≤2^x.wins.length:=Nat.pow_le_pow_right (by omega) (by omega)
  exact h
 have hT2:(2:Int)^x.wins.length=((2^x.wins.length:Nat):Int):=by rw [Int.natCast_pow];rfl
 obtain ⟨T,HT⟩:∃T:Nat,Hid (2^x.wins.length=T):=⟨_,rfl⟩
 rw [HT.out] at h256 hpos hT2 ⊢
 have HSZ:Hid (x.size=(x.wins.length:Int)):=t3.symm
 have HSL:=Lib.hid hsl
 have e1:IntKind.i64.wrap (T:Int)=T:=by rw [IntKind.wrap_i64];omega
 have HBX:Hid (Bx (w.alloc (.cells #[.int .i64 x.size,.slice A x.wins.length c] 27)) w.heap.size (.int .i64 x.size) (.slice A x.wins.length c)∧Below w.heap.size w (w.alloc (.cells #[.int .i64 x.size,.slice A x.wins.length c] 27))∧(w.alloc (.cells #[.int .i64 x.size,.slice A x.wins.length c] 27)).heap.size=w.heap.size+1):=⟨⟨by simp,by simp,by simp⟩,(Below.refl _ w).alloc (Nat.le_refl _) _,World.size_alloc _ _⟩
 rw [HSZ.out] at HBX
 rw [HSZ.out]
 clear hsl hok t1 t2 t3
 go_enter Tryz.func165,Tryz.ntmps165
 go_wp2_with fail
 go_cut [4,5] from 11 to 18 (fun s4 s5 wx=>∃gf gm,s4=.slice (some ⟨gf,0,none⟩) T T∧s5=.slice (some ⟨gm,0,none⟩) T T∧Hid (Arr w wx x A c T gf gm (List.replicate T 0) (List.replicate T 0)))
 case first=>
  have hs0:(w.alloc (.cells #[.int .i64 (x.wins.length:Int),.slice A x.wins.length c] 27)).cell? ⟨w.heap.size,0,none⟩=some (.int .i64 (x.wins.length:Int)):=HBX.out.1.1
  have hs1:=cell_mkO (n:=T) hs0 (by simp)
  have hs2:=cell_mkO (n:=T) hs1 (by simp;omega)
  have hmk:=run_mkI (n:=T) (by omega)
  go_region_held3 (fun W=>W.cell? ⟨w.heap.size,0,none⟩=some (.int .i64 (x.wins.length:Int))) (first|exact hs0|exact hs1|exact hs2) (fail)
  all_goals (go_wp2_with fail;go_meet)
  ·exact ⟨_,_,rfl,rfl,arrMk (by omega) HBX.out⟩
  ·exact ⟨_,_,rfl,rfl,(arrMk (by omega) HBX.out).swap⟩
 case rest=>
  obtain ⟨gf,gm,rfl,rfl,HA⟩:=hcut
  have hr0:(List.replicate T (0:Int))[0]? = some 0:=by rw [List.getElem?_replicate,if_pos (by omega)]
  obtain ⟨k0,p0,p1,p2⟩:=HA.out.atM hr0
  have HS0:Hid (Arr w (wc.setCell ⟨gm,0,none⟩ (.int .i64 1)) x A c T gf gm (fsts x 1++List.replicate (T-1) 0) (snds x 1++List.replicate (T-1) 0)):=by
   have h:=p2 1
   obtain ⟨T',rfl⟩:∃T',T=T'+1:=⟨T-1,by omega⟩
   exact h
  clear p2 hr0
  go_wp2
  go_loopw [6] (fun i wr=>∃s:Nat,1≤s∧s≤T∧i=.int .i64 s∧Hid (Arr w wr x A c T gf gm (fsts x s++List.replicate (T-s) 0) (snds x s++List.replicate (T-s) 0))) (fun i _=>T-(intOf i).toNat)
  case atStart=>exact ⟨1,Nat.le_refl _,by omega,rfl,HS0.out⟩
  case round=>
   obtain ⟨s,hs1,hsT,rfl,HR⟩:=hrel
   obtain ⟨wo,rfl⟩:∃W,W=wr:=⟨wr,rfl⟩
   clear HS0 HA k0 p0 p1
   by_cases hlt:s<T
   case neg=>
    obtain rfl:s=T:=by omega
    go_wp2
    go_ret2
    exact ⟨_,_,rfl,by have h:=HR.out.ff.in_;rwa [Nat.sub_self,List.replicate_zero,List.append_nil] at h,HR.out.be⟩
   have hs256:s<256:=by omega
   obtain ⟨r,HRT⟩:∃r,Hid (T=s+1+r):=⟨T-s-1,by show _=_;omega⟩
   have HR1:Hid (Arr w wo x A c T gf gm (rowF (fsts x s) 0 r) (rowF (snds x s) 0 r)):=by
    have h:=HR.out
    rw [show T-s=r+1 by have:=HRT.out;omega,rowF_here,rowF_here] at h
    exact h
   clear HR
   obtain ⟨k0,p0,p1,p2⟩:=HR1.out.atF (rowF_mid (fsts_len x s))
   have HR2:Hid (Arr w (wo.setCell ⟨gf,s,none⟩ (.int .i64 (-1))) x A c T gf gm (rowF (fsts x s) (-1) r) (rowF (snds x s) 0 r)):=by
    have h:=p2 (-1)
    rwa [rowF_set (fsts_len x s)] at h
   have HG:Hid (gf<wo.heap.size∧gm<wo.heap.size):=⟨HR1.out.ff.2.1 gf rfl,HR1.out.fm.2.1 gm rfl⟩
   clear p2
   have hk0:(s:Int)<T:=by omega
   go_wp2_with (go_at_call 153;refine (membersOf_any s _ hs256).mono ?_;rintro e w3 ⟨v3,rfl,hf,hb⟩;have H3:Hid (Arr w w3 x A c T gf gm (rowF (fsts x s) (-1) r) (rowF (snds x s) 0 r)∧Fr w3 wo.heap.size w3.heap.size v3 (memL s)):=⟨HR2.out.below hb,hf.wide (Nat.le_of_eq (by simp [World.setCell])) (Nat.le_refl _) (Nat.le_refl _)⟩;obtain ⟨A3,c3,rfl,-⟩:=hf.in_;clear hb hf HR2)
   clear p0 p1 HR1
   go_loopw [33] (fun i wr=>∃(j:Nat) (p:Int × Int),j≤(memL s).length∧i=.int .i64 j∧Hid (p=((memL s).take j).foldl (stepM x (tabF x s) s) (-1,0))∧Hid (Arr w wr x A c T gf gm (rowF (fsts x s) p.1 r) (rowF (snds x s) p.2 r)∧Fr wr wo.heap.size wr.heap.size (.slice A3 (memL s).length c3) (memL s))) (fun i _=>(memL s).length-(intOf i).toNat)
   case atStart=>exact ⟨0,(-1,0),Nat.zero_le _,rfl,rfl,H3.out⟩
   case round=>
    obtain ⟨j,p,hj,rfl,HP,HW⟩:=hrel
    clear H3
    by_cases hlt2:j<(memL s).length
    case neg=>
     obtain rfl:j=(memL s).length:=by omega
     have HE:Hid (p=entF x (tabF x s) s):=by
      show p=_
      rw [←entF_mem (by omega),HP.out,List.take_length]
     have HN:Hid (Arr w wr x A c T gf gm (fsts x (s+1)++List.replicate (T-(s+1)) 0) (snds x (s+1)++List.replicate (T-(s+1)) 0)):=by
      have h:=HW.out.1
      rw [rowF_next,rowF_next,HE.out,←fsts_succ,←snds_succ,show r=T-(s+1) by have:=HRT.out;omega] at h
      exact h
     clear HW HP HE
     go_wp2
     go_roundw
     case rel=>exact ⟨s+1,by omega,by omega,by go_num,HN.out⟩
     case measure=>simp [intOf];omega
    case pos=>
     obtain ⟨A4,c4,e4,_,_,hsl4⟩:=HW.out.2.in_
     injection e4 with e4 _ e5;subst e4;subst e5
     obtain ⟨b3,o3,y,rfl,ey,qy,_⟩:=hsl4.at_ (k:=j) hlt2
     have hbit:s.testBit y.toNat=true:=by obtain ⟨a,rfl,_,h⟩:=memT_mem.1 (List.mem_of_getElem? ey);exact h
     obtain ⟨a,Q,L,M,C,K,z,z',rfl,HF⟩:=inFacts HOK.out hs256 (by rw [HT.out];exact hlt) hlt2 ey HP.out HSL.out
     have HF:=Lib.hid HF
     rw [Int.toNat_natCast] at hbit
     have HAN:Hid (bits BinOp.andNot IntKind.i64 (s:Int) (Q:Int)=(L:Int)):=andNot_one hs256 HF.out.a8 hbit HF.out.hQ.out HF.out.hL.out
     have HFC:Hid (∀W,Below w.heap.size w W→Calls Tryz.prog 166 #[.agg #[.int .i64 (x.wins.length:Int),.slice A x.wins.length c],.int .i64 (a:Int),.int .i64 (s:Int)] W fun e w'=>e=.returned (.int .i64 (C:Int))∧Below W.heap.size W w'):=fun W hW=>by
      have h:=firstCost_any _ x a s W (HIT.out.below hW) HOK.out HF.out.an hs256
      rw [HF.out.hN.out,HSZ.out] at h
      exact h
     have hzr:(rowF (fsts x s) p.1 r)[L]? = some z:=by rw [rowF_lt (by rw [fsts_len];exact HF.out.ls)];exact HF.out.ez
     have hzr':(rowF (snds x s) p.2 r)[L]? = some z':=by rw [rowF_lt (by rw [snds_len];exact HF.out.ls)];exact HF.out.ez'
     have HZR:=Lib.hid (And.intro hzr hzr')
     obtain ⟨-,qz,-,-⟩:=HW.out.1.atF hzr
     clear hzr hzr' ey hsl4 hbit
     have ha64:(a:Int)<64:=by have:=HF.out.a8;omega
     have hls:(L:Int)<T:=by have:=HF.out.ls;omega
     have hz:=HF.out.z0
     have hz1:=HF.out.z1
     have hz':=HF.out.z2
     have hz1':=HF.out.z3
     have hK0:=HF.out.K0
     have hK1:=HF.out.K1
     have hp:=HF.out.hp
     obtain ⟨p1,p2⟩:=p
     simp only at hp
     have hjm:(memL s).length≤8:=by rw [memL_len];exact cntL_le _
     have hp1:-1≤p1∧p1≤72∧0≤p2∧p2≤134217728:=by omega
     clear hp
     have e1:=HF.out.e1.out
     have eAN:=HAN.out
     have eK:=HF.out.hK'.out
     go_wp2_with fail
     have qb0:wr.cell? ⟨w.heap.size,0,none⟩=some (.int .i64 (x.wins.length:Int)):=HW.out.1.bx.1
     have qb1:wr.cell? ⟨w.heap.size,1,none⟩=some (.slice A x.wins.length c):=HW.out.1.bx.2.1
     have HBE:Hid (Below w.heap.size w wr.drew):=below_drewL HW.out.1.be
     go_region_held3 (fun W=>W.cell? ⟨w.heap.size,0,none⟩=some (.int .i64 (x.wins.length:Int))∧W.cell? ⟨w.heap.size,1,none⟩=some (.slice A x.wins.length c)∧W.cell? ⟨gf,L,none⟩=some (.int .i64 z)) (first|exact ⟨qb0,qb1,qz⟩|exact ⟨H4.out.1.bx.1,H4.out.1.bx.2.1,(H4.out.1.atF HZR.out.1).2.1⟩) (first|(go_at_call 166;refine (HFC.out _ HBE.out).mono ?_;rintro e w4 ⟨rfl,hb⟩;have H4:Hid (Arr w w4 x A c T gf gm (rowF (fsts x s) p1 r) (rowF (snds x s) p2 r)∧Fr w4 wo.heap.size w4.heap.size (.slice (some ⟨b3,o3,none⟩) (memL s).length c3) (memL s)):=⟨HW.out.1.drew.below hb,((HW.out.2.drewN 1).grow hb).wide (Nat.le_refl _) hb.size (Nat.le_refl _)⟩;clear hb))
     clear qb0 qb1 qz qy HW HBE HFC
     obtain ⟨-,cs,fs_,stf⟩:=H4.out.1.atF (rowF_mid (fsts_len x s))
     obtain ⟨-,cms,fms,stm⟩:=H4.out.1.atM (rowF_mid (snds_len x s))
     obtain ⟨-,cL,-,-⟩:=H4.out.1.atF HZR.out.1
     obtain ⟨-,cmL,-,-⟩:=H4.out.1.atM HZR.out.2
     by_cases hA:p1<0
     ·have HR2:Hid (stepC (p1,p2) K z'=(K,z')):=by show _=_;rw [stepC,if_pos (.inl hA)]
      have HS1:Hid (Arr w (w4.setCell ⟨gf,s,none⟩ (.int .i64 K)) x A c T gf gm (rowF (fsts x s) K r) (rowF (snds x s) p2 r)):=by
       have h:=stf K
       rwa [rowF_set (fsts_len x s)] at h
      obtain ⟨-,cms2,fms2,stm2⟩:=HS1.out.atM (rowF_mid (snds_len x s))
      have HS2:Hid (Arr w ((w4.setCell ⟨gf,s,none⟩ (.int .i64 K)).setCell ⟨gm,s,none⟩ (.int .i64 z')) x A c T gf gm (rowF (fsts x s) K r) (rowF (snds x s) z' r)∧Fr ((w4.setCell ⟨gf,s,none⟩ (.int .i64 K)).setCell ⟨gm,s,none⟩ (.int .i64 z')) wo.heap.size ((w4.setCell ⟨gf,s,none⟩ (.int .i64 K)).setCell ⟨gm,s,none⟩ (.int .i64 z')).heap.size (.slice (some ⟨b3,o3,none⟩) (memL s).length c3) (memL s)):=by
       have h:=stm2 z'
       rw [rowF_set (snds_len x s)] at h
       exact ⟨h,(H4.out.2.cell1 HG.out.1).cell1 HG.out.2⟩
      clear stf stm stm2 HS1
      go_wp2
      exact ⟨⟨j+1,(K,z'),by omega,by go_num,by rw [HF.out.fo.out,HR2.out];exact rfl,HS2.out⟩,by simp [intOf];omega⟩
     ·by_cases hB:K<p1
      ·have HR2:Hid (stepC (p1,p2) K z'=(K,z')):=by show _=_;rw [stepC,if_pos (.inr hB)]
       have HS1:Hid (Arr w (w4.setCell ⟨gf,s,none⟩ (.int .i64 K)) x A c T gf gm (rowF (fsts x s) K r) (rowF (snds x s) p2 r)):=by
        have h:=stf K
        rwa [rowF_set (fsts_len x s)] at h
       obtain ⟨-,cms2,fms2,stm2⟩:=HS1.out.atM (rowF_mid (snds_len x s))
       have HS2:Hid (Arr w ((w4.setCell ⟨gf,s,none⟩ (.int .i64 K)).setCell ⟨gm,s,none⟩ (.int .i64 z')) x A c T gf gm (rowF (fsts x s) K r) (rowF (snds x s) z' r)∧Fr ((w4.setCell ⟨gf,s,none⟩ (.int .i64 K)).setCell ⟨gm,s,none⟩ (.int .i64 z')) wo.heap.size ((w4.setCell ⟨gf,s,none⟩ (.int .i64 K)).setCell ⟨gm,s,none⟩ (.int .i64 z')).heap.size (.slice (some ⟨b3,o3,none⟩) (memL s).length c3) (memL s)):=by
        have h:=stm2 z'
        rw [rowF_set (snds_len x s)] at h
        exact ⟨h,(H4.out.2.cell1 HG.out.1).cell1 HG.out.2⟩
       clear stf stm stm2 HS1
       go_wp2
       exact ⟨⟨j+1,(K,z'),by omega,by go_num,by rw [HF.out.fo.out,HR2.out];exact rfl,HS2.out⟩,by simp [intOf];omega⟩
      ·by_cases hE:K=p1
       ·have HR2:Hid (stepC (p1,p2) K z'=(p1,p2+z')):=by show _=_;rw [stepC,if_neg (by simp only;omega),if_pos hE]
        have HS2:Hid (Arr w (w4.setCell ⟨gm,s,none⟩ (.int .i64 (p2+z'))) x A c T gf gm (rowF (fsts x s) p1 r) (rowF (snds x s) (p2+z') r)∧Fr (w4.setCell ⟨gm,s,none⟩ (.int .i64 (p2+z'))) wo.heap.size (w4.setCell ⟨gm,s,none⟩ (.int .i64 (p2+z'))).heap.size (.slice (some ⟨b3,o3,none⟩) (memL s).length c3) (memL s)):=by
         have h:=stm (p2+z')
         rw [rowF_set (snds_len x s)] at h
         exact ⟨h,H4.out.2.cell1 HG.out.2⟩
        clear stf stm
        subst hE
        have eP:IntKind.i64.wrap (p2+z')=p2+z':=by rw [IntKind.wrap_i64];omega
        go_wp2
        go_region
        all_goals go_wp2
        exact ⟨⟨j+1,(K,p2+z'),by omega,by go_num,by rw [HF.out.fo.out,HR2.out];exact rfl,HS2.out.1.drew,HS2.out.2⟩,by simp [intOf];omega⟩
       ·have HR2:Hid (stepC (p1,p2) K z'=(p1,p2)):=by show _=_;rw [stepC,if_neg (by simp only;omega),if_neg hE]
        clear stf stm
        go_wp2
        exact ⟨⟨j+1,(p1,p2),by omega,by go_num,by rw [HF.out.fo.out,HR2.out];exact rfl,H4.out⟩,by simp [intOf];omega⟩
theorem OwS.wideLo {w:World}{lo lo' hi:Nat}{v:Value}{xss:List (List Int)} (h:OwS w lo hi v xss) (h1:lo'≤lo):OwS w lo' hi v xss:=by
 obtain ⟨vs,hl,ho,h2,h3,h4,h5,h6⟩:=h
 refine ⟨vs,hl,⟨ho.1,?_⟩,h2,Nat.le_trans h1 h3,h4,fun k u xs hu hx=>(h5 k u xs hu hx).wide h1 (Nat.le_refl _) h4,h6⟩
 rcases ho.2 with h|⟨g,cap,cur,rfl,hb,r⟩
 ·exact .inl h
 ·exact .inr ⟨g,cap,cur,rfl,Nat.le_trans h1 hb,r⟩
theorem inI_sl {w:World}{A:Option Addr}{n c:Nat}{xs:List Int} (h:InI w (.slice A n c) xs):SlI w A xs:=by
 obtain ⟨A',c',e,_,_,hs⟩:=h
 injection e with e1
 subst e1
 exact hs
def orderB (x:TourV) (l:List Int):Bool:=tourB x && (decide ((l.length:Int)=x.size) && permB l)
theorem implOrderOk_any (v:Value) (x:TourV) (A:Option Addr) (c:Nat) (l:List Int) (w:World) (hs:InT w v x) (hl:InI w (.slice A l.length c) l) (hn:l.length≤1048576):
  Calls Tryz.prog 163 #[v,.slice A l.length c] w fun e w'=>e=.returned (.bool (orderB x l))∧Below w.heap.size w w':=by
 have HIT:=Lib.hid hs
 have HIL:=Lib.hid hl
 obtain ⟨u,rfl,B,d,rfl,hd,hm,hsl⟩:=hs
 obtain ⟨A',c',he,hc,_,hsl2⟩:=hl
 injection he with e1 e2 e3
 subst e1;subst e3
 have HTO:Hid (∀W,Below w.heap.size w W→Calls Tryz.prog 148 #[.agg #[.int .i64 x.size,.slice B x.wins.length d]] W fun e w'=>e=.returned (.bool (tourB x))∧Below W.heap.size W w'):=fun W hW=>implTourOk_any _ x W (HIT.out.below hW)
 have HIO:Hid (∀W,Below w.heap.size w W→Calls Tryz.prog 168 #[.slice A l.length c] W fun e w'=>e=.returned (.bool (permB l))∧W=w'):=fun W hW=>isOrder_any A c l W ((inI_sl HIL.out).below hW) hn hc
 have HO:Hid (orderB x l=(tourB x && (decide ((l.length:Int)=x.size) && permB l))):=rfl
 have HB:Hid (Bx (w.alloc (.cells #[.int .i64 x.size,.slice B x.wins.length d] 27)) w.heap.size (.int .i64 x.size) (.slice B x.wins.length d)∧Below w.heap.size w (w.alloc (.cells #[.int .i64 x.size,.slice B x.wins.length d] 27))):=⟨⟨by simp,by simp,by simp⟩,(Below.refl _ w).alloc (Nat.le_refl _) _⟩
 clear hsl hsl2 hd hm
 cases h1:tourB x
 ·rw [h1] at HTO
  have HE:Hid (orderB x l=false):=by show _=_;rw [HO.out,h1];rfl
  clear h1
  go_enter Tryz.func163,Tryz.ntmps163
  go_wp2_with (go_at_call 148;refine (HTO.out _ HB.out.2).mono ?_;rintro e w1 ⟨rfl,hb⟩;have H1:Hid (Below w.heap.size w w1):=HB.out.2.trans (hb.mono HB.out.2.size);clear hb)
  go_ret
  exact ⟨by rw [HE.out];rfl,H1.out⟩
 rw [h1] at HTO
 by_cases h2:(l.length:Int)=x.size
 case neg=>
  have HE:Hid (orderB x l=false):=by show _=_;rw [HO.out,decide_eq_false h2,Bool.false_and,Bool.and_false]
  have h2':((l.length:Int)==x.size)=false:=beq_eq_false_iff_ne.2 h2
  clear h1 h2
  go_enter Tryz.func163,Tryz.ntmps163
  go_wp2_with (go_at_call 148;refine (HTO.out _ HB.out.2).mono ?_;rintro e w1 ⟨rfl,hb⟩;have H1:Hid (Below w.heap.size w w1):=HB.out.2.trans (hb.mono HB.out.2.size);obtain ⟨q0,q1,q2⟩:=HB.out.1.below hb;clear hb)
  go_ret
  exact ⟨by rw [HE.out];rfl,H1.out⟩
 have HE:Hid (orderB x l=permB l):=by show _=_;rw [HO.out,h1,decide_eq_true h2,Bool.true_and,Bool.true_and]
 have h2':((l.length:Int)==x.size)=true:=beq_iff_eq.2 h2
 clear h1 h2
 go_enter Tryz.func163,Tryz.ntmps163
 go_wp2_with (first
  | (go_at_call 148;refine (HTO.out _ HB.out.2).mono ?_;rintro e w1 ⟨rfl,hb⟩;have H1:Hid (Below w.heap.size w w1):=HB.out.2.trans (hb.mono HB.out.2.size);obtain ⟨q0,q1,q2⟩:=HB.out.1.below hb;clear hb)
  | (go_at_call 168;refine (HIO.out _ H1.out).mono ?_;rintro e w2 ⟨rfl,rfl⟩))
 go_ret
 exact ⟨by rw [HE.out];rfl,H1.out⟩
structure BkAt (w wr:World) (x:TourV) (B:Option Addr) (d:Nat) (v:Value) (L:List (List Int)):Prop where
 ow:OwS wr (w.heap.size+1) wr.heap.size v L
 bx:Bx wr w.heap.size (.int .i64 (x.wins.length:Int)) (.slice B x.wins.length d)
 be:Below w.heap.size w wr
theorem rowLit2 (w:World) (a b:Int):Fr (w.alloc (.cells #[.int .i64 a,.int .i64 b] 3)) w.heap.size (w.alloc (.cells #[.int .i64 a,.int .i64 b] 3)).heap.size (.slice (some ⟨w.heap.size,0,none⟩) 2 2) [a,b]:=
 Fr.of_own (xs:=[a,b]) (World.ownsRow_lit (base:=w.heap.size) (e:=3) (size:=1) w #[.int .i64 a,.int .i64 b] 2 (Nat.le_refl _) (by unfold maxLen;omega) rfl)
theorem BkAt.below {w wr w2:World}{x:TourV}{B:Option Addr}{d:Nat}{v:Value}{L:List (List Int)} (h:BkAt w wr x B d v L) (hb:Below wr.heap.size wr w2):BkAt w w2 x B d v L:=
 ⟨(h.ow.grow hb).top hb.size (Nat.le_refl _),h.bx.below hb,h.be.trans (hb.mono h.be.size)⟩
theorem BkAt.lo {w wr:World}{x:TourV}{B:Option Addr}{d:Nat}{v:Value}{L:List (List Int)} (h:BkAt w wr x B d v L):w.heap.size+1≤wr.heap.size:=by
 obtain ⟨_,_,_,_,h1,h2,_⟩:=h.ow
 omega
theorem BkAt.next {w W w2:World}{x:TourV}{B:Option Addr}{d:Nat}{v v2:Value}{L L2:List (List Int)}{o:Obj} (h:BkAt w W x B d v L) (how:OwS w2 (w.heap.size+1) w2.heap.size v2 L2)
  (hb:∀D,D≤w.heap.size+1→D≤(W.alloc o).heap.size→Below D (W.alloc o) w2):BkAt w w2 x B d v2 L2:=by
 have hz:=h.lo
 have b1:Below W.heap.size W (W.alloc o):=(Below.refl _ W).alloc (Nat.le_refl _) _
 have b2:=hb (w.heap.size+1) (Nat.le_refl _) (by rw [World.size_alloc];omega)
 have b3:Below (w.heap.size+1) W w2:=(b1.mono hz).trans b2
 exact ⟨how,h.bx.under b3 (Nat.lt_succ_self _),h.be.trans (b3.mono (Nat.le_succ _))⟩
theorem bkStart {w:World}{x:TourV}{B:Option Addr}{d:Nat}:BkAt w (w.alloc (.cells #[.int .i64 (x.wins.length:Int),.slice B x.wins.length d] 27)) x B d (.slice none 0 0) []:=
 ⟨OwS.nil _ (by rw [World.size_alloc];exact Nat.le_refl _) (by rw [World.size_alloc];exact Nat.le_refl _),⟨by simp,by simp,by simp⟩,(Below.refl _ w).alloc (Nat.le_refl _) _⟩
theorem backL_cap {xs l:List Int}{n:Nat} (h:n≤8):∀a,(backL xs l n a).length≤a*8
 | 0=>by simp [backL]
 | a+1=>by
  have ih:=backL_cap (xs:=xs) (l:=l) h a
  have h2:(backR xs l n a n).length≤n:=by
   unfold backR
   rw [List.length_map]
   exact Nat.le_trans (List.length_filter_le _ _) (by rw [List.length_range];exact Nat.le_refl _)
  rw [backL_succ,List.length_append];omega
theorem backR_cap {xs l:List Int}{n a:Nat} (m:Nat):(backR xs l n a m).length≤m:=by
 unfold backR
 rw [List.length_map]
 exact Nat.le_trans (List.length_filter_le _ _) (by rw [List.length_range];exact Nat.le_refl _)
theorem backGames_any (v:Value) (x:TourV) (A:Option Addr) (c:Nat) (l:List Int) (w:World) (hs:InT w v x) (hok:tourB x=true) (hl:SlI w A l) (hn:l.length≤1048576):
  Calls Tryz.prog 164 #[v,.slice A l.length c] w fun e w'=>∃v',e=.returned v'∧OwS w' w.heap.size w'.heap.size v' (backL x.wins l x.wins.length x.wins.length)∧Below w.heap.size w w':=by
 have HIT:=Lib.hid hs
 have HIL:=Lib.hid hl
 obtain ⟨u,rfl,B,d,rfl,hd,hm,hsl⟩:=hs
 obtain ⟨t1,t2,t3,t4,_⟩:=tourB_t hok
 have hn8:x.wins.length≤8:=by omega
 have HSZ:Hid (x.size=(x.wins.length:Int)):=t3.symm
 have HBT:Hid (∀V (p q:Nat),Below w.heap.size w V→p<x.wins.length→q<x.wins.length→Calls Tryz.prog 150 #[.agg #[.int .i64 x.size,.slice B x.wins.length d],.int .i64 (p:Int),.int .i64 (q:Int)] V fun e w'=>e=.returned (.bool (bt x.wins p q))∧Below V.heap.size V w'):=fun V p q hV hp hq=>implBeats_any _ x p q V (HIT.out.below hV) hn8 t4 hp (by omega)
 have HIX:Hid (∀V (q:Nat),Below w.heap.size w V→Calls Tryz.prog 248 #[.slice A l.length c,.int .i64 (q:Int)] V fun e w'=>e=.returned (.int .i64 (plc l (q:Int)))∧V=w'):=fun V q hV=>indexI_any A c l _ V (HIL.out.below hV) hn
 have H0:=Lib.hid (bkStart (w:=w) (x:=x) (B:=B) (d:=d))
 rw [HSZ.out] at HBT
 rw [HSZ.out]
 clear hsl hl hok t1 t2 t3 t4 hm hd
 obtain ⟨q0,q1,q2⟩:=id H0.out.bx
 go_enter Tryz.func164,Tryz.ntmps164
 go_wp2
 clear q0 q1 q2
 go_loopw [5,10] (fun o i wr=>∃(a:Nat) (vv:Value),a≤x.wins.length∧i=.int .i64 a∧vv=o∧Hid (BkAt w wr x B d vv (backL x.wins l x.wins.length a))) (fun _ i _=>x.wins.length-(intOf i).toNat)
 case atStart=>exact ⟨0,_,Nat.zero_le _,rfl,rfl,H0.out⟩
 case round=>
  obtain ⟨a,vv,ha,rfl,rfl,HR⟩:=hrel
  obtain ⟨wo,rfl⟩:∃W,W=wr:=⟨wr,rfl⟩
  clear H0
  by_cases hlt:a<x.wins.length
  case neg=>
   obtain rfl:a=x.wins.length:=by omega
   go_wp2
   go_ret
   exact ⟨_,rfl,HR.out.ow.wideLo (Nat.le_succ _),HR.out.be⟩
  obtain ⟨q0,q1,q2⟩:=id HR.out.bx
  have HCA:Hid ((backL x.wins l x.wins.length a).length≤64):=by
   have:=backL_cap (xs:=x.wins) (l:=l) hn8 a
   show _≤_;omega
  go_wp2
  clear q0 q1 q2
  go_loopw [5,15] (fun o i wr=>∃(b:Nat) (vv:Value),b≤x.wins.length∧i=.int .i64 b∧vv=o∧Hid (BkAt w wr x B d vv (backL x.wins l x.wins.length a++backR x.wins l x.wins.length a b))) (fun _ i _=>x.wins.length-(intOf i).toNat)
  case atStart=>exact ⟨0,_,Nat.zero_le _,rfl,rfl,by show BkAt _ _ _ _ _ _ _;rw [show backR x.wins l x.wins.length a 0 = [] from rfl,List.append_nil];exact HR.out⟩
  case round=>
   obtain ⟨b,v2,hb,rfl,rfl,HR2⟩:=hrel
   obtain ⟨w1,rfl⟩:∃W,W=wr:=⟨wr,rfl⟩
   clear HR
   by_cases hlt2:b<x.wins.length
   case neg=>
    obtain rfl:b=x.wins.length:=by omega
    have HN:Hid (BkAt w w1 x B d v2 (backL x.wins l x.wins.length (a+1))):=by show BkAt _ _ _ _ _ _ _;rw [backL_succ];exact HR2.out
    go_wp2
    go_roundw
    case rel=>exact ⟨a+1,_,by omega,by go_num,rfl,HN.out⟩
    case measure=>simp [intOf];omega
   obtain ⟨q0,q1,q2⟩:=id HR2.out.bx
   have HBK:Hid (backP x.wins l a b=(bt x.wins a b && decide (plc l (b:Int)<plc l (a:Int)))):=rfl
   have HNO:Hid (∀W,BkAt w W x B d v2 (backL x.wins l x.wins.length a++backR x.wins l x.wins.length a b)→backP x.wins l a b=false→BkAt w W x B d v2 (backL x.wins l x.wins.length a++backR x.wins l x.wins.length a (b+1))):=fun W h e=>by
    rw [backR_succ,e];simpa using h
   have hB1:=Lib.hid (fun V hV=>HBT.out V a b hV hlt hlt2)
   cases e1:bt x.wins a b
   ·have HN:Hid (backP x.wins l a b=false):=by show _=_;rw [HBK.out,e1];rfl
    rw [e1] at hB1
    clear e1
    go_wp2_with (go_at_call 150;refine (hB1.out _ HR2.out.be).mono ?_;rintro e w4 ⟨rfl,hb4⟩;have H4:=Lib.hid (HR2.out.below hb4);clear hb4 q0 q1 q2)
    go_roundw
    case rel=>exact ⟨b+1,_,by omega,by go_num,rfl,HNO.out _ H4.out HN.out⟩
    case measure=>simp [intOf];omega
   rw [e1] at hB1
   have pb1:=plc_bd l (a:Int)
   have pb2:=plc_bd l (b:Int)
   by_cases e2:plc l (b:Int)<plc l (a:Int)
   case neg=>
    have HN:Hid (backP x.wins l a b=false):=by show _=_;rw [HBK.out,decide_eq_false e2,Bool.and_false]
    clear e1
    go_wp2_with (first
     | (go_at_call 150;refine (hB1.out _ HR2.out.be).mono ?_;rintro e w4 ⟨rfl,hb4⟩;have H4:=Lib.hid (HR2.out.below hb4);clear hb4 q0 q1 q2)
     | (go_at_call 248;refine (HIX.out _ _ H4.out.be).mono ?_;rintro e w5 ⟨rfl,rfl⟩))
    go_roundw
    case rel=>exact ⟨b+1,_,by omega,by go_num,rfl,HNO.out _ H4.out HN.out⟩
    case measure=>simp [intOf];omega
   have HY:Hid (backL x.wins l x.wins.length a++backR x.wins l x.wins.length a (b+1)=(backL x.wins l x.wins.length a++backR x.wins l x.wins.length a b)++[[(a:Int),(b:Int)]]):=by
    show _=_;rw [backR_succ,HBK.out,e1,decide_eq_true e2,Bool.and_self,if_pos rfl,List.append_assoc]
   have hcap:(backL x.wins l x.wins.length a++backR x.wins l x.wins.length a b).length≤1048576:=by
    have h1:=HCA.out
    have h2:=backR_cap (xs:=x.wins) (l:=l) (n:=x.wins.length) (a:=a) b
    rw [List.length_append];omega
   clear e1
   go_wp2_with (first
    | (go_at_call 150;refine (hB1.out _ HR2.out.be).mono ?_;rintro e w4 ⟨rfl,hb4⟩;have H4:=Lib.hid (HR2.out.below hb4);obtain ⟨vs,hown6,hpush⟩:=H4.out.ow.pushed ((Below.refl _ w4).alloc (Nat.le_refl _) _) (rowLit2 w4 (a:Int) (b:Int));have HO:=Lib.hid hown6;have HP:=Lib.hid hpush;clear hb4 q0 q1 q2 hown6 hpush)
    | (go_at_call 248;refine (HIX.out _ _ H4.out.be).mono ?_;rintro e w5 ⟨rfl,rfl⟩)
    | (at_builtin;refine appS rfl _ _ rfl (w4.alloc (.cells #[.int .i64 (a:Int),.int .i64 (b:Int)] 3)) (w.heap.size+1) v2 _ vs rfl HO.out (some ⟨w4.heap.size,0,none⟩) 2 2 (by rw [World.size_alloc];rfl) hcap (by have:=H4.out.lo;rw [World.size_alloc];omega) ?_;intro v7 w7 hown7 hb7 _ hg7;have H7:Hid (BkAt w w7 x B d v7 (backL x.wins l x.wins.length a++backR x.wins l x.wins.length a (b+1))):=(by show BkAt _ _ _ _ _ _ _;rw [HY.out];exact H4.out.next (HP.out _ _ hown7 hg7) hb7);clear hown7 hb7 hg7))
   go_roundw
   case rel=>exact ⟨b+1,_,by omega,by go_num,rfl,H7.out⟩
   case measure=>simp [intOf];omega
end Go.Proofs.YtkapoldjcpfdgaaGreatDoor
