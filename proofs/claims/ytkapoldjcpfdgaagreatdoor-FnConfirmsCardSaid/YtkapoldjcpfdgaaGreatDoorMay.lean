/- Brackets: plain law. -/
import Derived.Test.YtkapoldjcpfdgaaGreatDoorMas
import Derived.Test.YtkapoldjcpfdgaaGreatDoorMax
set_option maxHeartbeats 4000000
set_option maxRecDepth 100000
namespace Go.Proofs.YtkapoldjcpfdgaaGreatDoor
open Go.ChangeShapes Go.WideShapes Go.ChangeAt Go.RowKit
def EvR (w:World) (e:Ending) (w':World) (o:Option (List Int)):Prop:=
 Below w.heap.size w w'∧match o with
  | none=>e=.returned (.slice none 0 0)
  | some q=>∃v',e=.returned v'∧Fr w' w.heap.size w'.heap.size v' q
noncomputable def evenTailC:Code:=((Tryz.f261.body.map (codeAtK 17)).getD []).getD 0 .skip
theorem evenTail (w wo:World) (n L c0 bl ol gw:Nat) (l:List Nat) (ps:List Int) (_hL7:L≤7) (hL0:0<L) (hn8:n≤8) (hc0:L≤c0) (hcm:c0≤2^63-1) (HL:Hid (l.length=L)) (HND:Hid l.Nodup) (HMEM:Hid (∀a∈l,a<n)) (HPL:Hid (ps.length=L)) (H15:Hid (∀z∈ps,z.natAbs≤15))
  (HF:Hid (Fr wo w.heap.size wo.heap.size (.slice (some ⟨gw,0,none⟩) n n) (sprL n l (sgnL ps)))) (HB:Hid (Below w.heap.size w wo)) (HSL:Hid (SlI wo (some ⟨bl,ol,none⟩) (nI l))) (l0 l2 l3 l4 l6 l7 l8 l9 l10 l11 l12 l13 l14 l15 l16 l17 l18 l19 l20 l21 l22 l23 l24 l25 l26 l27 l28 l29 l30 l31 l32 l33 l34 l35 l36 l37 l38 l39 l40 l41 l42 l43 l44 l45 l46 l47 l48 l49 l50 l51 l52 l53 l54 l55 l56 l57 l58 l59 l60 l61 l62 l63 l64 l65 l66 l67 l68 l69 l70 l71 l72 l73 l74 l75 l76 l77 l78 l79 l80 l81 l82:Value):
  Code.wp Tryz.prog evenTailC (bodyPost Tryz.prog Tryz.f261 fun e w'=>EvR w e w' ((kerF ps).map (sprL n l))) ⟨(List.toArray (l0 :: (.slice (some ⟨bl,ol,none⟩) L c0:Value) :: l2 :: l3 :: l4 :: (.slice (some ⟨gw,0,none⟩) n n:Value) :: l6 :: l7 :: l8 :: l9 :: l10 :: l11 :: l12 :: l13 :: l14 :: l15 :: l16 :: l17 :: l18 :: l19 :: l20 :: l21 :: l22 :: l23 :: l24 :: l25 :: l26 :: l27 :: l28 :: l29 :: l30 :: l31 :: l32 :: l33 :: l34 :: l35 :: l36 :: l37 :: l38 :: l39 :: l40 :: l41 :: l42 :: l43 :: l44 :: l45 :: l46 :: l47 :: l48 :: l49 :: l50 :: l51 :: l52 :: l53 :: l54 :: l55 :: l56 :: l57 :: l58 :: l59 :: l60 :: l61 :: l62 :: l63 :: l64 :: l65 :: l66 :: l67 :: l68 :: l69 :: l70 :: l71 :: l72 :: l73 :: l74 :: l75 :: l76 :: l77 :: l78 :: l79 :: l80 :: l81 :: l82 :: [])),[]⟩ wo:=by
 conv=>arg 2;whnf
 have HQL:Hid ((sgnL ps).length=L):=(sgnL_length ps).trans HPL.out
 have HQ15:=Lib.hid (sgn_15 H15.out)
 have HGM:Hid (∀i,i<L→l.getD i 0<n):=fun i hi=>HMEM.out _ (by rw [List.getD_eq_getElem?_getD,List.getElem?_eq_getElem (by rw [HL.out];exact hi)];exact List.getElem_mem _)
 go_wp2
 go_loopw [71] (fun i wr=>∃j:Nat,j≤L∧i=.int .i64 (j:Int)∧wr=wo∧Hid (∀k,k<j→0<fn (sgnL ps) k)) (fun i _=>L-(intOf i).toNat)
 case atStart=>exact ⟨0,Nat.zero_le _,rfl,rfl,fun k hk=>by omega⟩
 case round=>
  obtain ⟨j,hj,rfl,rfl,HP⟩:=hrel
  by_cases hlt:j<L
  case neg=>
   obtain rfl:L=j:=by omega
   have hall:(sgnL ps).all (fun x=>decide (0<x))=true:=(all_fn HQL.out).2 HP.out
   have HK:Hid (kerF ps=some (lowL (sgnL ps))):=by show _=_;unfold kerF;rw [if_pos hall]
   have hpos:∀z∈sgnL ps,0<z:=fun z hz=>of_decide_eq_true (List.all_eq_true.1 hall z hz)
   have HLOW:Hid (lowL (sprL n l (sgnL ps))=sprL n l (lowL (sgnL ps))):=sprL_low HND.out HMEM.out (by rw [HQL.out,HL.out])
   have hg:0<gcdL (sprL n l (sgnL ps)):=by
    rw [sprL_gcd HND.out HMEM.out (by rw [HQL.out,HL.out])]
    refine Nat.pos_of_ne_zero fun h0=>?_
    have h1:=gcdL_zero.1 h0 _ (fn_mem (l:=sgnL ps) (j:=0) (by rw [HQL.out];exact hL0))
    have h2:=hpos _ (fn_mem (l:=sgnL ps) (j:=0) (by rw [HQL.out];exact hL0))
    omega
   have hln:(sprL n l (sgnL ps)).length=n:=sprL_length ..
   have HLOC:Hid (Calls Tryz.prog 336 #[.slice (some ⟨gw,0,none⟩) n n] wr fun e w'=>∃v',e=.returned v'∧Fr w' wr.heap.size w'.heap.size v' (lowL (sprL n l (sgnL ps)))∧Below wr.heap.size wr w'):=by
    have h:=lowest_any (some ⟨gw,0,none⟩) n (sprL n l (sgnL ps)) wr HF.out.sl (fun z hz=>by
     rcases sprL_mem (by rw [HQL.out,HL.out]) z hz with rfl|h
     ·omega
     ·have h1:=hpos z h
      have h2:=HQ15.out z h
      omega) (by rw [hln];omega) hg
    rw [hln] at h
    exact h
   clear hall hpos hg hln
   go_wp2_with (go_at_call 336;refine HLOC.out.mono ?_;rintro e w5 ⟨v5,rfl,hf5,hb5⟩;have H5:Hid (Below w.heap.size w w5∧Fr w5 w.heap.size w5.heap.size v5 (lowL (sprL n l (sgnL ps)))):=⟨HB.out.trans (hb5.mono HB.out.size),hf5.wide HB.out.size (Nat.le_refl _) (Nat.le_refl _)⟩;clear hf5 hb5)
   go_ret
   rw [HK.out]
   refine ⟨H5.out.1,v5,rfl,?_⟩
   rw [←HLOW.out]
   exact H5.out.2
  obtain ⟨b2,o2,y,e,hy,cl,-⟩:=HSL.out.at_ (k:=j) (by rw [nI_length,HL.out];exact hlt)
  injection e with e;injection e with e1 e2;subst e1;subst e2
  rw [nI_at (by rw [HL.out];exact hlt)] at hy
  injection hy with hy
  subst hy
  have hgm:=HGM.out j hlt
  have HSP:Hid (fn (sprL n l (sgnL ps)) (l.getD j 0)=fn (sgnL ps) j):=sprL_at HND.out HMEM.out (by rw [HL.out];exact hlt)
  generalize l.getD j 0=a at *
  obtain ⟨g',z,e,-,-,hz,cz,-,-⟩:=HF.out.at_ (k:=a) (by rw [sprL_length];exact hgm)
  injection e with e;injection e with e;subst e
  have hzf:fn (sgnL ps) j=z:=by rw [←HSP.out];unfold fn;rw [List.getD_eq_getElem?_getD,hz];rfl
  by_cases hz0:z≤0
  ·have HK:Hid (kerF ps=none):=by
    show _=_
    unfold kerF
    rw [if_neg]
    intro h
    have:=(all_fn HQL.out).1 h j hlt
    omega
   clear hz hzf
   go_wp2
   go_ret
   rw [HK.out]
   exact ⟨HB.out,rfl⟩
  ·have HP2:Hid (∀k,k<j+1→0<fn (sgnL ps) k):=fun k hk=>by
    rcases Nat.lt_or_ge k j with h|h
    ·exact HP.out k h
    ·obtain rfl:k=j:=by omega
     omega
   clear hz hzf
   go_wp2
   go_roundw
   case rel=>exact ⟨j+1,by omega,by go_num,trivial,HP2.out⟩
   case measure=>simp [intOf];omega
def ngI (R:List Int) (i:Nat):List Int:=(R.take i).map (fun z=>-z)++R.drop i
theorem ngI_zero (R:List Int):ngI R 0=R:=by simp [ngI]
theorem ngI_all (R:List Int):ngI R R.length=R.map fun z=>-z:=by simp [ngI]
theorem ngI_length (R:List Int) (i:Nat):(ngI R i).length=R.length:=by
 unfold ngI;rw [List.length_append,List.length_map,List.length_take,List.length_drop];omega
theorem ngI_step {R:List Int}{i:Nat}{y:Int} (h:R[i]? = some y):(ngI R i)[i]? = some y∧ngI R (i+1)=(ngI R i).set i (-y):=by
 obtain ⟨hi,rfl⟩:=List.getElem?_eq_some_iff.1 h
 have hl:((R.take i).map (fun z=>-z)).length=i:=by rw [List.length_map,List.length_take];omega
 have e1:ngI R i=(R.take i).map (fun z=>-z)++R[i] :: R.drop (i+1):=by unfold ngI;rw [List.drop_eq_getElem_cons hi]
 have e2:ngI R (i+1)=(R.take i).map (fun z=>-z)++-R[i] :: R.drop (i+1):=by
  unfold ngI
  rw [take_snoc h,List.map_append,List.append_assoc];rfl
 rw [e1,e2]
 constructor
 ·rw [List.getElem?_append_right (by omega),hl,Nat.sub_self];rfl
 ·rw [List.set_append_right i _ (by omega),hl,Nat.sub_self];rfl
theorem spr_step {n i a:Nat}{l:List Nat}{q:List Int}{y:Int} (ha:l.getD i 0=a) (hy:fn q i=y):(sprI n l q i).set a y=sprI n l q (i+1):=by
 subst ha;subst hy;rfl
theorem evenOn_even (v:Value) (x:TourV) (A:Option Addr) (c L:Nat) (w:World) (hs:InT w v x) (hL:L%2=0) (h8:L≤8):
  Calls Tryz.prog 261 #[v,.slice A L c] w fun e w'=>e=.returned (.slice none 0 0)∧Below w.heap.size w w':=by
 obtain ⟨u,rfl,B,d,rfl,hd,hm,hts⟩:=hs
 have e1:((L:Int)%2==0)=true:=by simp;omega
 go_enter Tryz.func261,Tryz.ntmps261
 go_wp2
 go_ret
 exact ⟨rfl,(Below.refl _ w).alloc (Nat.le_refl _) _⟩
theorem evenOn_any (v:Value) (x:TourV) (A:Option Addr) (c0:Nat) (l:List Nat) (k:Nat) (w:World) (hok:tourB x=true) (hs:InT w v x) (hsl:SlI w A (nI l)) (hl:l.length=2*k+1) (hk:k≤3) (hmem:∀a∈l,a<x.wins.length) (hnd:l.Nodup) (hc:l.length≤c0) (hcm:c0≤maxLen):
  Calls Tryz.prog 261 #[v,.slice A l.length c0] w fun e w'=>EvR w e w' ((kerF (pfs (Mb (bt x.wins)) k l)).map (sprL x.wins.length l)):=by
 have HIT:=Lib.hid hs
 have HIL:=Lib.hid hsl
 have HPF:=Lib.hid (pfaffian_any x hok k hk)
 obtain ⟨u,rfl,B,d,rfl,hd,hm,hts⟩:=hs
 obtain ⟨t1,t2,t3,t4,_⟩:=tourB_t hok
 have hn8:x.wins.length≤8:=by omega
 obtain ⟨bl,ol,-,rfl,-,-,-⟩:=hsl.at_ (k:=0) (by rw [nI_length];omega)
 have HPS:Hid ((pfs (Mb (bt x.wins)) k l).length=l.length):=pfs_length
 have H15:=Lib.hid (pfs_15 (x:=x) hl hk)
 have HAT:Hid (∀i,i<l.length→fn (pfs (Mb (bt x.wins)) k l) i=sg i*pf (Mb (bt x.wins)) k (l.eraseIdx i)):=fun i hi=>altL_at hi
 have HND:=Lib.hid hnd
 have HMEM:=Lib.hid hmem
 have HPA:Hid (∀i,i<l.length→(pf (Mb (bt x.wins)) k (l.eraseIdx i)).natAbs≤15):=fun i hi=>by
  have h1:=pf_abs (Mb_abs (bt x.wins)) k (l.eraseIdx i) (by rw [List.length_eraseIdx_of_lt hi];omega)
  have h2:dfact k≤15:=by
   match k,hk with
   | 0,_=>decide
   | 1,_=>decide
   | 2,_=>decide
   | 3,_=>decide
  omega
 have HPC:Hid (∀i V g c,Below w.heap.size w V→i<l.length→SlI V (some ⟨g,0,none⟩) (nI (l.eraseIdx i))→2*k≤c→c≤maxLen→Calls Tryz.prog 334 #[.agg #[.int .i64 x.size,.slice B x.wins.length d],.slice (some ⟨g,0,none⟩) (l.length-1) c] V fun e w'=>e=.returned (.int .i64 (pf (Mb (bt x.wins)) k (l.eraseIdx i)))∧Below V.heap.size V w'):=fun i V g c hV hi h1 h2 h3=>by
  have hle:(l.eraseIdx i).length=l.length-1:=List.length_eraseIdx_of_lt hi
  have h:=HPF.out (l.eraseIdx i) (some ⟨g,0,none⟩) c _ V (by rw [hle];omega) (fun z hz=>hmem z (List.mem_of_mem_eraseIdx hz)) (hnd.eraseIdx i) (HIT.out.below hV) h1 (by rw [hle];omega) h3
  rw [hle] at h
  exact h
 have HLQ:Hid (∀V q,Below w.heap.size w V→q<l.length→V.cell? ⟨bl,ol+q,none⟩=some (.int .i64 ((l.getD q 0:Nat):Int))∧l.getD q 0<x.wins.length):=fun V q hV hq=>by
  obtain ⟨b2,off2,y,e,hy,hcy,hlt⟩:=HIL.out.at_ (k:=q) (by rw [nI_length];omega)
  injection e with e;injection e with e1 e2;subst e1;subst e2
  rw [nI_at hq] at hy
  injection hy with hy
  subst hy
  exact ⟨(hV.cell (block_lt_of_cell hcy)).trans hcy,hmem _ (by rw [List.getD_eq_getElem?_getD,List.getElem?_eq_getElem hq];exact List.getElem_mem hq)⟩
 clear HPF hts t1 t2 t4 hok hmem hnd hsl
 generalize x.size=sz at *
 subst t3
 generalize pfs (Mb (bt x.wins)) k l=ps at *
 obtain ⟨ρ,hρ⟩:∃ ρ:Nat→Int,∀i,pf (Mb (bt x.wins)) k (l.eraseIdx i)=ρ i:=⟨_,fun _=>rfl⟩
 simp only [hρ] at HAT HPA HPC
 generalize hn:x.wins.length=n at *
 generalize hLl:l.length=L at *
 have HLL:=Lib.hid hLl
 clear hρ hn hLl
 unfold maxLen at hcm
 have e1:((L:Int)%2==0)=false:=by simp;omega
 have hL7:L≤7:=by omega
 have hL0:0<L:=by omega
 have HKL:=Lib.hid hl
 clear hl
 have H0:Hid (Bx (w.alloc (.cells #[.int .i64 (n:Int),.slice B n d] 27)) w.heap.size (.int .i64 (n:Int)) (.slice B n d)∧Below w.heap.size w (w.alloc (.cells #[.int .i64 (n:Int),.slice B n d] 27))):=⟨⟨by simp,by simp,by simp⟩,(Below.refl _ w).alloc (Nat.le_refl _) _⟩
 go_enter Tryz.func261,Tryz.ntmps261
 go_wp2_with (at_make;refine makeI rfl _ _ rfl _ n rfl rfl (by omega) ?_;intro w2 hf2 hb2 hsz2;rw [World.size_alloc] at hf2 hb2 hsz2;have H2:Hid (Fr w2 (w.heap.size+1) w2.heap.size (.slice (some ⟨w.heap.size+1,0,none⟩) n n) (sprI n l ps 0)∧Bx w2 w.heap.size (.int .i64 (n:Int)) (.slice B n d)∧Below w.heap.size w w2):=⟨hf2,H0.out.1.far hb2 (by omega),H0.out.2.trans (hb2.mono (by omega))⟩;clear hf2 hb2 hsz2)
 rename_i hK1
 have HK1:=Lib.hid hK1
 clear hK1 H0
 go_loopw [20] (fun i wr=>∃q:Nat,q≤L∧i=.int .i64 (q:Int)∧Hid (Fr wr (w.heap.size+1) wr.heap.size (.slice (some ⟨w.heap.size+1,0,none⟩) n n) (sprI n l ps q)∧Bx wr w.heap.size (.int .i64 (n:Int)) (.slice B n d)∧Below w.heap.size w wr)) (fun i _=>L-(intOf i).toNat)
 case atStart=>exact ⟨0,Nat.zero_le _,rfl,H2.out⟩
 case round=>
  obtain ⟨q,hq,rfl,HR⟩:=hrel
  obtain ⟨wz,rfl⟩:∃W,W=wr:=⟨wr,rfl⟩
  clear H2
  by_cases hlt:q<L
  case neg=>
   obtain rfl:L=q:=by omega
   obtain ⟨cq,hpa⟩:=HLQ.out wz 0 HR.out.2.2 hL0
   rw [Nat.add_zero] at cq
   have HSPR:Hid (sprI n l ps L=sprL n l ps):=by show _=_;unfold sprL;rw [HLL.out]
   rw [HSPR.out] at HR
   have HP0:Hid (fn (sprL n l ps) (l.getD 0 0)=fn ps 0):=sprL_at HND.out HMEM.out (by rw [HLL.out];exact hL0)
   obtain ⟨g',z0,e,-,-,hz0,cz0,-,-⟩:=HR.out.1.at_ (k:=l.getD 0 0) (by rw [sprL_length];exact hpa)
   injection e with e;injection e with e;subst e
   have hz0':fn ps 0=z0:=by rw [←HP0.out];unfold fn;rw [List.getD_eq_getElem?_getD,hz0];rfl
   have HF0:Hid (Fr wz w.heap.size wz.heap.size (.slice (some ⟨w.heap.size+1,0,none⟩) n n) (sprL n l ps)∧Below w.heap.size w wz):=⟨HR.out.1.wide (by omega) (Nat.le_refl _) (Nat.le_refl _),HR.out.2.2⟩
   have HSLz:Hid (∀W,Below w.heap.size w W→SlI W (some ⟨bl,ol,none⟩) (nI l)):=fun W hW=>SlI.below HIL.out hW
   have H15z:Hid ((fn ps 0).natAbs≤15):=H15.out _ (fn_mem (by rw [HPS.out];exact hL0))
   rw [hz0'] at H15z
   have H015:=H15z.out
   have HND0:=HND
   clear hz0 H15z HP0
   generalize l.getD 0 0=a0 at *
   by_cases hneg:z0<0
   ·have HSG:Hid (sgnL ps=ps.map fun z=>-z):=by show _=_;unfold sgnL;rw [if_pos (by omega)]
    have HSM:Hid ((sprL n l ps).map (fun z=>-z)=sprL n l (sgnL ps)):=by show _=_;rw [HSG.out];exact sprL_map (by rw [HPS.out,HLL.out]) (by simp)
    have HAB:Hid (∀z∈sprL n l ps,z.natAbs≤15):=fun z hz=>by
     rcases sprL_mem (by rw [HPS.out,HLL.out]) z hz with rfl|h
     ·simp
     ·exact H15.out z h
    have HLN:Hid ((sprL n l ps).length=n):=sprL_length ..
    clear hz0'
    generalize sprL n l ps=R at *
    have H00:Hid (Fr wz (w.heap.size+1) wz.heap.size (.slice (some ⟨w.heap.size+1,0,none⟩) n n) (ngI R 0)∧Below w.heap.size w wz):=⟨by rw [ngI_zero];exact HR.out.1,HR.out.2.2⟩
    go_wp2
    refine HK1.out _ _ ?_
    go_upto_region 11 with (fail)
    rename_i hKr Kc hKc
    have HKR:=Lib.hid hKr
    clear hKr
    go_wp2
    go_loopw [57] (fun i W=>∃r:Nat,r≤n∧i=.int .i64 (r:Int)∧Hid (Fr W (w.heap.size+1) W.heap.size (.slice (some ⟨w.heap.size+1,0,none⟩) n n) (ngI R r)∧Below w.heap.size w W)) (fun i _=>n-(intOf i).toNat)
    case atStart=>exact ⟨0,Nat.zero_le _,rfl,H00.out⟩
    case round=>
     obtain ⟨r,hr,rfl,HQ⟩:=hrel
     obtain ⟨wo,rfl⟩:∃W,W=wr:=⟨wr,rfl⟩
     by_cases hlr:r<n
     case neg=>
      obtain rfl:n=r:=by omega
      have HAL:Hid (ngI R n=sprL n l (sgnL ps)):=by show _=_;rw [←HSM.out,←HLN.out];exact ngI_all R
      have HFF:Hid (Fr wo w.heap.size wo.heap.size (.slice (some ⟨w.heap.size+1,0,none⟩) n n) (sprL n l (sgnL ps))∧Below w.heap.size w wo):=⟨by rw [←HAL.out];exact HQ.out.1.wide (by omega) (Nat.le_refl _) (Nat.le_refl _),HQ.out.2⟩
      go_wp2
      refine HKR.out _ _ ?_
      exact evenTail w wo n L c0 bl ol (w.heap.size+1) l ps hL7 hL0 hn8 hc hcm HLL HND HMEM HPS H15 (Lib.hid HFF.out.1) (Lib.hid HFF.out.2) (HSLz.out _ HFF.out.2) _ _ _ _ _ _ _ _ _ _ _ _ _ _ _ _ _ _ _ _ _ _ _ _ _ _ _ _ _ _ _ _ _ _ _ _ _ _ _ _ _ _ _ _ _ _ _ _ _ _ _ _ _ _ _ _ _ _ _ _ _ _ _ _ _ _ _ _ _ _ _ _ _ _ _ _ _ _ _ _ _
     have hy:R[r]? = some R[r]!:=by rw [getElem!_pos R r (by rw [HLN.out];exact hlr)];exact List.getElem?_eq_getElem _
     generalize R[r]! = y at *
     have hyb:=HAB.out y (List.mem_of_getElem? hy)
     obtain ⟨e1,e2⟩:=ngI_step hy
     obtain ⟨g1,z,e,hlo,hhi,hz,cz,fz,hset⟩:=HQ.out.1.at_ (k:=r) (by rw [ngI_length,HLN.out];exact hlr)
     injection e with e;injection e with e;subst e
     obtain rfl:z=y:=by rw [e1] at hz;injection hz with hz;exact hz.symm
     have HST:=Lib.hid (hset (-z))
     have HE2:=Lib.hid e2
     clear hset hz hy e1 e2
     have w4:IntKind.i64.wrap (-z) = -z:=by rw [IntKind.wrap_i64];omega
     have H2:Hid (Fr (wo.setCell ⟨w.heap.size+1,r,none⟩ (.int .i64 (-z))) (w.heap.size+1) (wo.setCell ⟨w.heap.size+1,r,none⟩ (.int .i64 (-z))).heap.size (.slice (some ⟨w.heap.size+1,0,none⟩) n n) (ngI R (r+1))∧Below w.heap.size w (wo.setCell ⟨w.heap.size+1,r,none⟩ (.int .i64 (-z)))):=by
      have h1:=HST.out
      rw [←HE2.out] at h1
      exact ⟨h1.1.wide (Nat.le_refl _) h1.2.size (Nat.le_refl _),HQ.out.2.trans (h1.2.below (by omega) HQ.out.2.size)⟩
     go_wp2
     go_roundw
     case rel=>exact ⟨r+1,by omega,by go_num,H2.out⟩
     case measure=>simp [intOf];omega
   ·have HSG:Hid (sgnL ps=ps):=by show _=_;unfold sgnL;rw [if_neg (by omega)]
    go_wp2
    refine HK1.out _ _ ?_
    go_upto_region 11 with (fail)
    rename_i hKr Kc hKc
    have HKR:=Lib.hid hKr
    clear hKr hz0'
    rw [←HSG.out] at HF0
    go_wp2
    refine HKR.out _ _ ?_
    exact evenTail w wz n L c0 bl ol (w.heap.size+1) l ps hL7 hL0 hn8 hc hcm HLL HND HMEM HPS H15 (Lib.hid HF0.out.1) (Lib.hid HF0.out.2) (HSLz.out _ HF0.out.2) _ _ _ _ _ _ _ _ _ _ _ _ _ _ _ _ _ _ _ _ _ _ _ _ _ _ _ _ _ _ _ _ _ _ _ _ _ _ _ _ _ _ _ _ _ _ _ _ _ _ _ _ _ _ _ _ _ _ _ _ _ _ _ _ _ _ _ _ _ _ _ _ _ _ _ _ _ _ _ _ _
  obtain ⟨cq,hpa⟩:=HLQ.out wz q HR.out.2.2 hlt
  have hat:=HAT.out q hlt
  have hpa15:=HPA.out q hlt
  have HPCq:=Lib.hid (HPC.out q)
  have HSP:Hid (∀y,fn ps q=y→(sprI n l ps q).set (l.getD q 0) y=sprI n l ps (q+1)):=fun y hy=>spr_step rfl hy
  generalize l.getD q 0=pa at *
  generalize ρ q=P at *
  have HSL:Hid ((sprI n l ps q).length=n):=sprI_length ..
  generalize sprI n l ps q=S at *
  obtain ⟨S1,HS1⟩:∃S1,Hid (S1=sprI n l ps (q+1)):=⟨_,rfl⟩
  rw [←HS1.out] at HSP
  have HGR:Hid (∀W,Below wz.heap.size wz W→Fr W (w.heap.size+1) W.heap.size (.slice (some ⟨w.heap.size+1,0,none⟩) n n) S∧Bx W w.heap.size (.int .i64 (n:Int)) (.slice B n d)∧Below w.heap.size w W):=fun W hW=>
   ⟨(HR.out.1.grow hW).wide (Nat.le_refl _) hW.size (Nat.le_refl _),HR.out.2.1.below hW,HR.out.2.2.trans (hW.mono HR.out.2.2.size)⟩
  have HSTO:Hid (∀W y S',Fr W (w.heap.size+1) W.heap.size (.slice (some ⟨w.heap.size+1,0,none⟩) n n) S'→S'.length=n→Bx W w.heap.size (.int .i64 (n:Int)) (.slice B n d)→Below w.heap.size w W→∃z,S'[pa]? = some z∧W.cell? ⟨w.heap.size+1,pa,none⟩=some (.int .i64 z)∧W.frozen? ⟨w.heap.size+1,pa,none⟩=false ∧
    Fr (W.setCell ⟨w.heap.size+1,pa,none⟩ (.int .i64 y)) (w.heap.size+1) (W.setCell ⟨w.heap.size+1,pa,none⟩ (.int .i64 y)).heap.size (.slice (some ⟨w.heap.size+1,0,none⟩) n n) (S'.set pa y)∧Bx (W.setCell ⟨w.heap.size+1,pa,none⟩ (.int .i64 y)) w.heap.size (.int .i64 (n:Int)) (.slice B n d)∧Below w.heap.size w (W.setCell ⟨w.heap.size+1,pa,none⟩ (.int .i64 y))):=fun W y S' h1 h2 h3 h4=>by
   obtain ⟨g',z,e,-,-,hz,cz,fz,hset⟩:=h1.at_ (k:=pa) (by rw [h2];exact hpa)
   injection e with e;injection e with e;subst e
   obtain ⟨k1,k2⟩:=hset y
   exact ⟨z,hz,cz,fz,k1.wide (Nat.le_refl _) k2.size (Nat.le_refl _),h3.keep k2 (.inl (by omega)),h4.trans (k2.below (by omega) h4.size)⟩
  have HCLN:Hid (Calls Tryz.prog 59 #[.slice (some ⟨bl,ol,none⟩) L c0] wz.drew fun e w'=>∃g3 c3,e=.returned (.slice (some ⟨g3,0,none⟩) L c3)∧L≤c3∧c3≤maxLen∧Fr w' wz.heap.size w'.heap.size (.slice (some ⟨g3,0,none⟩) L c3) (nI l)∧Below wz.heap.size wz w'):=by
   have hll:(nI l).length=L:=by rw [nI_length];exact HLL.out
   have h:=cloneI_any (some ⟨bl,ol,none⟩) c0 (nI l) wz.drew (SlI.drew (SlI.below HIL.out HR.out.2.2)) (by omega)
   rw [hll] at h
   refine h.mono ?_
   rintro e w' ⟨A',c',rfl,hf,hb⟩
   obtain ⟨g3,_,rfl,-⟩:=hf.at_ (k:=0) (by omega)
   obtain ⟨A2,c2,e,h1,h2⟩:=hf.form
   injection e with e1 e2 e3
   subst e3
   exact ⟨g3,c',rfl,by omega,h2,hf,below_undraw (q:=1) hb⟩
  obtain ⟨q0,q1,q2⟩:=id HR.out.2.1
  have f1:(0:Int)≤(pa:Int):=by omega
  have f2:(pa:Int)<(n:Int):=by omega
  have f3:IntKind.i64.wrap ((q:Int)+1)=(q:Int)+1:=by rw [IntKind.wrap_i64];omega
  have f4:(0:Int)≤(q:Int):=by omega
  have HAT2:=Lib.hid hat
  clear hat
  go_upto_region 7 with (fail)
  refine wp_region_noPanic ?_
  refine wp_region_held_drew (S:=fun W=>W.cell? ⟨w.heap.size,0,none⟩=some (.int .i64 (n:Int))∧W.cell? ⟨w.heap.size,1,none⟩=some (.slice B n d)) (by kernel_rfl) ⟨q0,q1⟩ (fun hHeld=>?_)
  refine wT 0 (.slice (some ⟨w.heap.size+1,0,none⟩) n n) ?_
  try simp only [pu]
  refine wT 1 (.int .i64 (pa:Int)) ?_
  try simp only [pu]
  refine wT 2 (.agg #[.int .i64 (n:Int),.slice B n d]) ?_
  try simp only [pu]
  refine wT 3 (.slice (some ⟨bl,ol,none⟩) L c0) ?_
  try simp only [pu]
  refine wT 5 (.int .i64 (q:Int)) ?_
  try simp only [pu]
  refine wT 6 (.int .i64 (q:Int)) ?_
  try simp only [pu]
  refine wT 7 (.int .i64 ((q:Int)+1)) ?_
  try simp only [pu]
  refine wR 4 (fun K hK=>?_)
  go_simp
  go_at_call 59
  (with_reducible refine (HCLN.out).mono ?_)
  rintro e w3 ⟨g3,c3,rfl,hc3,hcm3,hf3,hb3⟩
  have H3:Hid (Fr w3 wz.heap.size w3.heap.size (.slice (some ⟨g3,0,none⟩) L c3) (nI l)∧Below wz.heap.size wz w3):=⟨hf3,hb3⟩
  try (go_wp2_with fail)
  refine hK.out _ _ ⟨(HGR.out _ H3.out.2).2.1.1,(HGR.out _ H3.out.2).2.1.2.1⟩ (fun hHeld=>?_)
  clear hK K
  try simp only [pu]
  clear hf3 hb3
  refine wR 8 (fun K hK=>?_)
  go_simp
  go_at_call 335
  (with_reducible refine ((deleteI_any g3 L c3 _ _ q (nI l) w3 (by rw [nI_length];exact HLL.out.symm) H3.out.1 hlt)).mono ?_)
  rintro e w4 ⟨rfl,hf4,hk4⟩
  have H4:Hid (SlI w4 (some ⟨g3,0,none⟩) (nI (l.eraseIdx q))∧Below wz.heap.size wz w4):=⟨by rw [nI_erase];exact hf4.sl,H3.out.2.trans (hk4.below (Nat.le_refl _) H3.out.2.size)⟩
  try (go_wp2_with fail)
  refine hK.out _ _ ⟨(HGR.out _ H4.out.2).2.1.1,(HGR.out _ H4.out.2).2.1.2.1⟩ (fun hHeld=>?_)
  clear hK K
  try simp only [pu]
  clear hf4 hk4
  refine wR 9 (fun K hK=>?_)
  go_simp
  go_at_call 334
  (with_reducible refine (HPCq.out w4 g3 c3 (HGR.out _ H4.out.2).2.2 hlt H4.out.1 (by have:=HKL.out;omega) hcm3).mono ?_)
  rintro e w5 ⟨rfl,hb5⟩
  obtain ⟨z5,-,cO,fO,h5⟩:=HSTO.out w5 P S (HGR.out _ (H4.out.2.trans (hb5.mono H4.out.2.size))).1 HSL.out (HGR.out _ (H4.out.2.trans (hb5.mono H4.out.2.size))).2.1 (HGR.out _ (H4.out.2.trans (hb5.mono H4.out.2.size))).2.2;have HQ5:=Lib.hid (HGR.out _ (H4.out.2.trans (hb5.mono H4.out.2.size)));have H5:=Lib.hid h5
  try (go_wp2_with fail)
  refine hK.out _ _ ⟨HQ5.out.2.1.1,HQ5.out.2.1.2.1⟩ (fun hHeld=>?_)
  clear hK K
  try simp only [pu]
  clear h5 hb5
  refine wT 10 (.pointer (some ⟨w.heap.size+1,pa,none⟩)) ?_
  try simp only [pu]
  refine wR 11 (fun K hK=>?_)
  go_simp
  refine hK.out _ _ ⟨H5.out.2.1.1,H5.out.2.1.2.1⟩ (fun hHeld=>?_)
  clear hK K
  try simp only [pu]
  refine wpAnyH_done (by kernel_rfl) ?_ _
  refine NoPanic.normal ?_
  clear cO fO hHeld cq q0 q1 f1 f3
  have HSL2:Hid ((S.set pa P).length=n):=by show _=_;rw [List.length_set];exact HSL.out
  have hP5:(S.set pa P)[pa]? = some P:=List.getElem?_set_self (by rw [HSL.out];exact hpa)
  have HP5:=Lib.hid hP5
  have HSS:Hid (∀y,(S.set pa P).set pa y=S.set pa y):=fun y=>List.set_set ..
  clear hP5
  generalize hw6:w5.setCell ⟨w.heap.size+1,pa,none⟩ (.int .i64 P)=w6 at *
  clear hw6
  have hng:IntKind.i64.wrap (-P) = -P:=by rw [IntKind.wrap_i64];omega
  rcases Nat.mod_two_eq_zero_or_one q with hpar|hpar
  ·have e2:((q:Int)%2==1)=false:=by simp;omega
   have HN:Hid (S.set pa P=S1):=HSP.out P (by rw [HAT2.out];unfold sg;rw [if_pos hpar,Int.one_mul])
   rw [HN.out] at H5
   clear hpar
   go_wp2
   go_roundw
   case rel=>exact ⟨q+1,by omega,by go_num,by rw [←HS1.out];exact H5.out⟩
   case measure=>simp [intOf];omega
  ·have e2:((q:Int)%2==1)=true:=by simp;omega
   have HN:Hid (S.set pa (-P)=S1):=HSP.out (-P) (by rw [HAT2.out];unfold sg;rw [if_neg (by omega)];omega)
   obtain ⟨z6,hz6,c6,f6,h6⟩:=HSTO.out w6 (-P) (S.set pa P) H5.out.1 HSL2.out H5.out.2.1 H5.out.2.2
   obtain rfl:P=z6:=by rw [HP5.out] at hz6;injection hz6
   rw [HSS.out,HN.out] at h6
   have H6:=Lib.hid h6
   clear h6 hz6 hpar
   go_wp2
   go_roundw
   case rel=>exact ⟨q+1,by omega,by go_num,by rw [←HS1.out];exact H6.out⟩
   case measure=>simp [intOf];omega
def brSize (n:Nat):Bool:=n==1 || n==2 || n==4 || n==8
def entB (sz:Int) (l:List Int) (k:Nat):Bool:=inB (l.getD k 0) (-1) (sz-1) && !(decide (0≤l.getD k 0) && (l.take k).contains (l.getD k 0))
def entsTo (sz:Int) (l:List Int) (k:Nat):Bool:=(List.range k).all (entB sz l)
def someB (l:List Int):Bool:=l.any fun a=>decide (0≤a)
def brB (x:TourV) (l:List Int):Bool:=tourB x && (brSize l.length && (entsTo x.size l l.length && someB l))
theorem entsTo_at {sz:Int}{l:List Int}{k:Nat} (h:entsTo sz l k=true) {j:Nat} (hj:j<k):entB sz l j=true:=
 List.all_eq_true.1 h j (List.mem_range.2 hj)
theorem brSize_le {n:Nat} (h:brSize n=true):n=1∨n=2∨n=4∨n=8:=by
 simp only [brSize,Bool.or_eq_true,beq_iff_eq] at h;omega
theorem brB_tour {x:TourV}{l:List Int} (h:tourB x=false):brB x l=false:=by simp [brB,h]
theorem brB_size {x:TourV}{l:List Int} (h:brSize l.length=false):brB x l=false:=by simp [brB,h]
theorem brB_ents {x:TourV}{l:List Int} (h:entsTo x.size l l.length=false):brB x l=false:=by simp [brB,h]
theorem brB_some {x:TourV}{l:List Int} (h:someB l=false):brB x l=false:=by simp [brB,h]
theorem brB_t {x:TourV}{l:List Int} (h:brB x l=true):tourB x=true∧brSize l.length=true∧entsTo x.size l l.length=true∧someB l=true:=by
 simp only [brB,Bool.and_eq_true] at h;exact ⟨h.1,h.2.1,h.2.2.1,h.2.2.2⟩
theorem brB_mk {x:TourV}{l:List Int} (h1:tourB x=true) (h2:brSize l.length=true) (h3:entsTo x.size l l.length=true) (h4:someB l=true):brB x l=true:=by simp [brB,h1,h2,h3,h4]
theorem ent_rng {sz:Int}{l:List Int}{k:Nat} (h:entB sz l k=true):-1≤l.getD k 0∧l.getD k 0≤sz-1:=by
 simp only [entB,Bool.and_eq_true] at h;exact inB_t.1 h.1
theorem getD_of {l:List Int}{k:Nat}{a:Int} (h:l[k]? = some a):l.getD k 0=a:=by rw [List.getD_eq_getElem?_getD,h];rfl
def goesOn (W:List Int) (a b:Int):Int:=if a<0∨(0≤b∧bt W b.toNat a.toNat=true) then b else a
def brNextTo (W:List Int) (l:List Int):Nat→List Int
 | 0=>[]
 | k+1=>brNextTo W l k++[goesOn W (l.getD (2*k) 0) (l.getD (2*k+1) 0)]
theorem brNextTo_length (W l:List Int) (k:Nat):(brNextTo W l k).length=k:=by
 induction k with
 | zero=>rfl
 | succ k ih=>simp [brNextTo,ih]
def rngB (n:Nat) (l:List Int):Prop:=∀a∈l,-1≤a∧a<n
theorem rngB_at {n:Nat}{l:List Int} (h:rngB n l) {k:Nat}{a:Int} (hk:l[k]? = some a):-1≤a∧a<n:=h a (List.mem_of_getElem? hk)
theorem goesOn_rng {n:Nat}{W:List Int}{a b:Int} (ha:-1≤a∧a<n) (hb:-1≤b∧b<n):-1≤goesOn W a b∧goesOn W a b<n:=by
 unfold goesOn;split<;>assumption
theorem brNextTo_rng {n:Nat}{W l:List Int} (h:rngB n l):∀k,2*k≤l.length→rngB n (brNextTo W l k):=by
 intro k
 induction k with
 | zero=>intro _ a ha;simp [brNextTo] at ha
 | succ k ih=>
  intro hk a ha
  rw [brNextTo,List.mem_append,List.mem_singleton] at ha
  rcases ha with ha|rfl
  ·exact ih (by omega) a ha
  ·have h1:l[2*k]? = some l[2*k]:=List.getElem?_eq_getElem (by omega)
   have h2:l[2*k+1]? = some l[2*k+1]:=List.getElem?_eq_getElem (by omega)
   rw [getD_of h1,getD_of h2]
   exact goesOn_rng (rngB_at h h1) (rngB_at h h2)
theorem brB_rng {x:TourV}{l:List Int}{n:Nat} (h:brB x l=true) (hn:x.size=n):rngB n l:=by
 obtain ⟨_,_,h3,_⟩:=brB_t h
 intro a ha
 obtain ⟨k,hk,he⟩:=List.getElem_of_mem ha
 have h1:l[k]? = some a:=by rw [List.getElem?_eq_getElem hk,he]
 have h2:=ent_rng (entsTo_at h3 hk)
 rw [getD_of h1,hn] at h2
 omega
def roundsF (W:List Int):Nat→List Int→List (List Int)
 | 0,l=>[l]
 | f+1,l=>if l.length≤1 then [l] else l :: roundsF W f (brNextTo W l (l.length/2))
def brText (x:TourV) (l:List Int):List UInt8:=
 if brB x l then Lib.join ((roundsF x.wins 3 l).map fmtF) [32] else [110,111,110,101]
theorem fmtF_len {xs:List Int} (h:wfI xs) (hl:xs.length≤8):(fmtF xs).length≤200:=by
 unfold fmtF
 split
 ·simp
 ·have:=fmt_bound h;omega
theorem rng_wf {n:Nat}{l:List Int} (h:rngB n l) (hn:n≤8):wfI l:=fun a ha=>by have:=h a ha;omega
def maxTo (l:List Int):Nat→Int
 | 0=>l.getD 0 0
 | k+1=>if maxTo l k<l.getD (k+1) 0 then l.getD (k+1) 0 else maxTo l k
theorem maxTo_some {l:List Int}:∀k,(0≤maxTo l k↔∃j,j≤k∧0≤l.getD j 0):=by
 intro k
 induction k with
 | zero=>
  constructor
  ·intro h;exact ⟨0,Nat.le_refl _,h⟩
  ·rintro ⟨j,hj,h⟩
   obtain rfl:j=0:=by omega
   exact h
 | succ k ih=>
  unfold maxTo
  split
  ·rename_i hlt
   constructor
   ·intro h;exact ⟨k+1,Nat.le_refl _,h⟩
   ·rintro ⟨j,hj,h⟩
    rcases Nat.eq_or_lt_of_le hj with rfl|hj
    ·exact h
    ·have:=ih.2 ⟨j,by omega,h⟩;omega
  ·rename_i hlt
   constructor
   ·intro h
    obtain ⟨j,hj,h⟩:=ih.1 h
    exact ⟨j,by omega,h⟩
   ·rintro ⟨j,hj,h⟩
    rcases Nat.eq_or_lt_of_le hj with rfl|hj
    ·omega
    ·exact ih.2 ⟨j,by omega,h⟩
theorem someB_max {l:List Int} (h:0<l.length):someB l=decide (0≤maxTo l (l.length-1)):=by
 rw [Bool.eq_iff_iff,decide_eq_true_eq,maxTo_some,someB,List.any_eq_true]
 constructor
 ·rintro ⟨a,ha,h⟩
  obtain ⟨j,hj,he⟩:=List.getElem_of_mem ha
  refine ⟨j,by omega,?_⟩
  rw [getD_of (List.getElem?_eq_getElem hj),he]
  simpa using h
 ·rintro ⟨j,hj,h⟩
  have hj':j<l.length:=by omega
  rw [getD_of (List.getElem?_eq_getElem hj')] at h
  exact ⟨l[j],List.getElem_mem hj',by simpa using h⟩
def dupTo (l:List Int) (k:Nat):Bool:=(List.range k).all fun j=>!(decide (0≤l.getD j 0) && (l.take j).contains (l.getD j 0))
theorem dupTo_snoc {l:List Int}{k:Nat}:dupTo l (k+1)=(dupTo l k && !(decide (0≤l.getD k 0) && (l.take k).contains (l.getD k 0))):=by
 simp [dupTo,List.range_succ,List.all_append]
theorem ents_split {sz:Int}{l:List Int}:entsTo sz l l.length=(l.all (fun a=>inB a (-1) (sz-1)) && dupTo l l.length):=by
 rw [Bool.eq_iff_iff,Bool.and_eq_true]
 constructor
 ·intro h
  refine ⟨List.all_eq_true.2 fun a ha=>?_,List.all_eq_true.2 fun j hj=>?_⟩
  ·obtain ⟨j,hj,he⟩:=List.getElem_of_mem ha
   have h1:=entsTo_at h hj
   unfold entB at h1
   rw [Bool.and_eq_true,getD_of (List.getElem?_eq_getElem hj),he] at h1
   exact h1.1
  ·have h1:=entsTo_at h (List.mem_range.1 hj)
   unfold entB at h1
   rw [Bool.and_eq_true] at h1
   exact h1.2
 ·rintro ⟨h1,h2⟩
  refine List.all_eq_true.2 fun j hj=>?_
  have hj':=List.mem_range.1 hj
  unfold entB
  rw [Bool.and_eq_true]
  refine ⟨?_,List.all_eq_true.1 h2 j hj⟩
  rw [getD_of (List.getElem?_eq_getElem hj')]
  exact List.all_eq_true.1 h1 _ (List.getElem_mem hj')
theorem dupTo_bad {l:List Int}{k j:Nat} (hj:j<k) (h0:0≤l.getD j 0) (h:(l.take j).contains (l.getD j 0)=true):dupTo l k=false:=by
 cases e:dupTo l k
 ·rfl
 ·have h1:=List.all_eq_true.1 e j (List.mem_range.2 hj)
  simp only [h,h0,decide_true,Bool.and_self,Bool.not_true] at h1
  cases h1
theorem roundsF_done {W:List Int}{f:Nat}{l:List Int} (h:l.length≤1):roundsF W f l = [l]:=by
 cases f with
 | zero=>rfl
 | succ f=>rw [roundsF,if_pos h]
theorem roundsF_more {W:List Int}{f:Nat}{l:List Int} (h:1<l.length):roundsF W (f+1) l=l :: roundsF W f (brNextTo W l (l.length/2)):=by
 rw [roundsF,if_neg (by omega)]
def lenV:Value→Nat
 | .slice _ n _=>n
 | _=>0
structure RdAt (W:List Int) (n:Nat) (l0:List Int) (pre:List (List Int)) (f:Nat) (l:List Int):Prop where
 eq:roundsF W 3 l0=pre++roundsF W f l
 sz:brSize l.length=true
 le:l.length≤2^f
 ct:pre.length+f≤3
 rg:rngB n l
 wd:∀p∈pre,(fmtF p).length≤200
theorem RdAt.start {W:List Int}{n:Nat}{l0:List Int} (h1:brSize l0.length=true) (h2:rngB n l0):RdAt W n l0 [] 3 l0:=
 ⟨rfl,h1,by have:=brSize_le h1;omega,by simp,h2,by simp⟩
theorem RdAt.next {W:List Int}{n:Nat}{l0 l:List Int}{pre:List (List Int)}{f:Nat} (h:RdAt W n l0 pre f l) (hl:1<l.length) (hn:n≤8):
  ∃g m,f=g+1∧l.length=2*m∧m=l.length/2∧1≤m∧m≤4∧RdAt W n l0 (pre++[l]) g (brNextTo W l m):=by
 have hs:=brSize_le h.sz
 obtain ⟨g,rfl⟩:∃g,f=g+1:=⟨f-1,by have:=h.le;cases f with
                          | zero=>simp at this;omega
                          | succ f=>rfl⟩
 have hp:2^(g+1)=2*2^g:=by rw [Nat.pow_succ];omega
 have hle:=h.le
 have hm:l.length=2*(l.length/2):=by omega
 refine ⟨g,l.length/2,rfl,hm,rfl,by omega,by omega,?_⟩
 refine ⟨by rw [h.eq,roundsF_more hl];simp,?_,by rw [brNextTo_length];omega,by have:=h.ct;simp;omega,brNextTo_rng h.rg _ (by omega),?_⟩
 ·rw [brNextTo_length]
  rcases hs with h|h|h|h<;>rw [h]<;>first|rfl|omega
 ·intro p hp
  rcases List.mem_append.1 hp with hp|hp
  ·exact h.wd p hp
  ·rw [List.mem_singleton.1 hp]
   exact fmtF_len (rng_wf h.rg hn) (by omega)
theorem RdAt.words {W:List Int}{n:Nat}{l0 l:List Int}{pre:List (List Int)}{f:Nat} (h:RdAt W n l0 pre f l) (hn:n≤8):∀p∈(pre++[l]).map fmtF,p.length≤200:=by
 have hs:=brSize_le h.sz
 intro p hp
 obtain ⟨q,hq,rfl⟩:=List.mem_map.1 hp
 rcases List.mem_append.1 hq with hq|hq
 ·exact h.wd q hq
 ·rw [List.mem_singleton.1 hq]
  exact fmtF_len (rng_wf h.rg hn) (by omega)
theorem RdAt.join_len {W:List Int}{n:Nat}{l0 l:List Int}{pre:List (List Int)}{f:Nat} (h:RdAt W n l0 pre f l) (hn:n≤8):(Lib.join ((pre++[l]).map fmtF) [32]).length≤1000:=by
 have h1:=join_bound (ls:=(pre++[l]).map fmtF) (b:=200) 32 (h.words hn)
 have h2:=h.ct
 simp only [List.length_map,List.length_append,List.length_singleton] at h1
 omega
theorem RdAt.fin {W:List Int}{n:Nat}{l0 l:List Int}{pre:List (List Int)}{f:Nat} (h:RdAt W n l0 pre f l) (hl:¬ 1<l.length):(roundsF W 3 l0).map fmtF=(pre++[l]).map fmtF:=by
 rw [h.eq,roundsF_done (by omega)]
end Go.Proofs.YtkapoldjcpfdgaaGreatDoor
