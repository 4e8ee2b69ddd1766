/- Cursors over a code: numbers drawn from it. -/
import Derived.Maps.AppendAt
import Derived.Deep.RegionWith
import Derived.Test.YtkapoldjcpfdgaaGreatDoorMaj
import Derived.Test.YtkapoldjcpfdgaaGreatDoorMak
set_option maxHeartbeats 4000000
set_option maxRecDepth 100000
namespace Go.Proofs.YtkapoldjcpfdgaaGreatDoor
open Go.ChangeShapes Go.WideShapes Go.ChangeAt Go.RowKit
def orN (v:Int) (b:Nat):Int:=((v.toNat ||| 2^b:Nat):Int)
theorem or_sm:∀v:Fin 256,∀b:Fin 8,bits BinOp.or IntKind.i64 (v.val:Int) (2^b.val)=((v.val ||| 2^b.val:Nat):Int)∧v.val ||| 2^b.val≤255:=by decide +kernel
theorem or_at {v:Int}{b:Nat} (h1:0≤v) (h2:v≤255) (hb:b<8):bits BinOp.or IntKind.i64 v (2^b)=orN v b∧0≤orN v b∧orN v b≤255:=by
 have h:=or_sm ⟨v.toNat,by omega⟩ ⟨b,hb⟩
 simp only [Int.toNat_of_nonneg h1] at h
 exact ⟨h.1,by unfold orN;omega,by unfold orN;omega⟩
def rnR (x:TourV) (nm:List Nat) (a:Nat) (xs:List Int):Nat→List Int
 | 0=>xs
 | b+1=>if bt x.wins a b then (rnR x nm a xs b).set (nm.getD a 0) (orN ((rnR x nm a xs b).getD (nm.getD a 0) 0) (nm.getD b 0)) else rnR x nm a xs b
def rnT (x:TourV) (nm:List Nat):Nat→List Int
 | 0=>List.replicate x.wins.length 0
 | a+1=>rnR x nm a (rnT x nm a) x.wins.length
def renL (x:TourV) (nm:List Nat):List Int:=rnT x nm x.wins.length
theorem rnR_len (x:TourV) (nm:List Nat) (a:Nat) (xs:List Int):∀b,(rnR x nm a xs b).length=xs.length
 | 0=>rfl
 | b+1=>by
  rw [rnR]
  split
  ·rw [List.length_set,rnR_len x nm a xs b]
  ·exact rnR_len x nm a xs b
theorem rnT_len (x:TourV) (nm:List Nat):∀a,(rnT x nm a).length=x.wins.length
 | 0=>by simp [rnT]
 | a+1=>by rw [rnT,rnR_len,rnT_len x nm a]
theorem set_bd {xs:List Int}{i:Nat}{z:Int} (h:∀y∈xs,0≤y∧y≤255) (hz:0≤z∧z≤255):∀y∈xs.set i z,0≤y∧y≤255:=fun y hy=>by
 rcases List.mem_or_eq_of_mem_set hy with h1|h1
 ·exact h y h1
 ·rw [h1];exact hz
theorem getD_bd {xs:List Int}{i:Nat} (h:∀y∈xs,0≤y∧y≤255):0≤xs.getD i 0∧xs.getD i 0≤255:=by
 rw [List.getD_eq_getElem?_getD]
 cases e:xs[i]? with
 | none=>simp
 | some y=>exact h y (List.mem_of_getElem? e)
theorem rnR_bd {x:TourV}{nm:List Nat}{n:Nat} (hn:n≤8) (hnm:∀i,nm.getD i 0<n) {a:Nat}{xs:List Int} (h:∀y∈xs,0≤y∧y≤255):∀b,∀y∈rnR x nm a xs b,0≤y∧y≤255
 | 0=>h
 | b+1=>by
  have ih:=rnR_bd hn hnm (x:=x) (a:=a) h b
  rw [rnR]
  split
  ·obtain ⟨g1,g2⟩:=getD_bd (i:=nm.getD a 0) ih
   exact set_bd ih (or_at g1 g2 (by have:=hnm b;omega)).2
  ·exact ih
theorem rnT_bd {x:TourV}{nm:List Nat}{n:Nat} (hn:n≤8) (hnm:∀i,nm.getD i 0<n):∀a,∀y∈rnT x nm a,0≤y∧y≤255
 | 0=>fun y hy=>by rw [rnT,List.mem_replicate] at hy;omega
 | a+1=>rnR_bd hn hnm (rnT_bd hn hnm a) _
theorem setCell_size1 (w:World) (a:Addr) (v:Value):(w.setCell a v).heap.size=w.heap.size:=by simp [World.setCell]
theorem setCell_drew_size (w:World) (a:Addr) (v:Value):(w.drew.setCell a v).heap.size=w.heap.size:=setCell_size1 w.drew a v
noncomputable def rnTailC:Code:=((Tryz.f169.body.map (codeAtK 2)).getD []).getD 0 .skip
theorem rnTail (w wo:World) (x:TourV) (g7 g c n bx ox d bn on cn:Nat) (nm:List Nat) (hok:tourB x=true) (hxn:x.wins.length=n) (HF:Hid (FpAt w wo g7 g c n (n:Int) (rnT x nm 0))) (hN:nm.length=n) (hnm:∀i,nm.getD i 0<n)
  (HQ:Hid (∀W,Below w.heap.size w W→SlI W (some ⟨bx,ox,none⟩) x.wins∧SlI W (some ⟨bn,on,none⟩) (nI nm))) (HBX:Hid (Bx wo w.heap.size (.int .i64 (n:Int)) (.slice (some ⟨bx,ox,none⟩) n d))) (_hcn:n≤cn∧cn≤9223372036854775807) (l0 l3 l6 l7 l8 l9 l10 l11 l12 l13 l14 l15 l16 l17 l18 l19 l20 l21 l22 l23 l24 l25 l26 l27 l28 l29 l30 l31 l32 l33 l34 l35 l36 l37 l38 l39 l40 l41 l42 l43 l44 l45 l46 l47 l48 l49 l50:Value):
  Code.wp Tryz.prog rnTailC (bodyPost Tryz.prog Tryz.f169 fun e w'=>∃v',e=.returned v'∧OwT w' w.heap.size w'.heap.size v' ⟨(n:Int),renL x nm⟩∧Below w.heap.size w w') ⟨(List.toArray (l0 :: (.slice (some ⟨bn,on,none⟩) n cn:Value) :: (.pointer (some ⟨w.heap.size,0,none⟩):Value) :: l3 :: (.pointer (some ⟨w.heap.size+1,0,none⟩):Value) :: (.pointer (some ⟨g7,0,none⟩):Value) :: l6 :: l7 :: l8 :: l9 :: l10 :: l11 :: l12 :: l13 :: l14 :: l15 :: l16 :: l17 :: l18 :: l19 :: l20 :: l21 :: l22 :: l23 :: l24 :: l25 :: l26 :: l27 :: l28 :: l29 :: l30 :: l31 :: l32 :: l33 :: l34 :: l35 :: l36 :: l37 :: l38 :: l39 :: l40 :: l41 :: l42 :: l43 :: l44 :: l45 :: l46 :: l47 :: l48 :: l49 :: l50 :: [])),[]⟩ wo:=by
 conv=>arg 2;whnf
 obtain ⟨t1,t2,t3,t4,_⟩:=tourB_t hok
 have hn8:n≤8:=by omega
 have HWB:=Lib.hid t4
 have HNM:=Lib.hid hnm
 have HNL:=Lib.hid hN
 have HXN:=Lib.hid hxn
 have HRE:Hid (rnT x nm n=renL x nm):=by show _=_;unfold renL;rw [hxn]
 have HT1:Hid (∀a,rnT x nm (a+1)=rnR x nm a (rnT x nm a) n):=fun a=>by rw [rnT,hxn]
 have HTL:Hid (∀a,(rnT x nm a).length=n):=fun a=>(rnT_len x nm a).trans hxn
 have HTB:Hid (∀a y,y∈rnT x nm a→0≤y∧y≤255):=fun a y hy=>rnT_bd hn8 hnm a y hy
 obtain ⟨q0,q1,q2⟩:=id HBX.out
 clear t1 t2 t3 t4 hok hnm hN
 go_wp2
 rename_i hK1
 have HK1:=Lib.hid hK1
 clear hK1 q0 q1
 go_loopw [18] (fun i wr=>∃a:Nat,a≤n∧i=.int .i64 (a:Int)∧Hid (FpAt w wr g7 g c n (n:Int) (rnT x nm a)∧Bx wr w.heap.size (.int .i64 (n:Int)) (.slice (some ⟨bx,ox,none⟩) n d))) (fun i _=>n-(intOf i).toNat)
 case atStart=>exact ⟨0,Nat.zero_le _,rfl,HF.out,HBX.out⟩
 case round=>
  obtain ⟨a,ha,rfl,HR⟩:=hrel
  clear HF HBX
  obtain ⟨wz,rfl⟩:∃W,W=wr:=⟨wr,rfl⟩
  by_cases hlt:a<n
  case neg=>
   obtain rfl:n=a:=by omega
   rw [HRE.out] at HR
   obtain ⟨q0,q1,-⟩:=id HR.out.1.bx
   obtain ⟨s0,z0⟩:=HR.out.1.z0
   obtain ⟨s1,z1⟩:=HR.out.1.z1
   have f0:=HR.out.1.f0
   have f1:=HR.out.1.f1
   have HD:=Lib.hid (HR.out.1.done (by rw [←HRE.out];exact HTL.out n))
   go_wp2
   refine HK1.out _ _ ?_
   go_wp2
   refine bodyPost_ret (v:=.agg #[.int .i64 (n:Int),.slice (some ⟨g,0,none⟩) n c]) (by simp [results,Tryz.results169,go_sem,z0,z1]) rfl ⟨_,rfl,HD.out⟩
  obtain ⟨hqx,hqn⟩:=HQ.out wz HR.out.1.be
  obtain ⟨bx',ox',y,e,hy,cy,-⟩:=hqx.at_ (k:=a) (by rw [hxn];exact hlt)
  injection e with e;injection e with e1 e2;subst e1;subst e2
  obtain ⟨y1,y2⟩:=winsB_at (by omega) HWB.out hy
  have HBY:Hid (∀b,bt x.wins a b=y.toNat.testBit b):=fun b=>by rw [bt,List.getD_eq_getElem?_getD,hy];rfl
  obtain ⟨q0,q1,-⟩:=id HR.out.2
  have HSN:Hid (rnR x nm a (rnT x nm a) n=rnT x nm (a+1)):=(HT1.out a).symm
  have HR0:Hid (FpAt w wz g7 g c n (n:Int) (rnR x nm a (rnT x nm a) 0)∧Bx wz w.heap.size (.int .i64 (n:Int)) (.slice (some ⟨bx,ox,none⟩) n d)):=HR.out
  have HRL:Hid (∀b,(rnR x nm a (rnT x nm a) b).length=n):=fun b=>(rnR_len ..).trans (HTL.out a)
  have HRB:Hid (∀b y,y∈rnR x nm a (rnT x nm a) b→0≤y∧y≤255):=fun b y hy=>rnR_bd hn8 HNM.out (HTB.out a) b y hy
  have HRS:Hid (∀b,rnR x nm a (rnT x nm a) (b+1)=if bt x.wins a b then (rnR x nm a (rnT x nm a) b).set (nm.getD a 0) (orN ((rnR x nm a (rnT x nm a) b).getD (nm.getD a 0) 0) (nm.getD b 0)) else rnR x nm a (rnT x nm a) b):=fun b=>rfl
  obtain ⟨ρ,hρ⟩:∃ ρ:Nat→List Int,∀b,rnR x nm a (rnT x nm a) b=ρ b:=⟨_,fun _=>rfl⟩
  simp only [hρ] at HSN HR0 HRL HRB HRS
  clear hy hqx hqn hρ HR
  go_wp2
  clear q0 q1 cy
  go_loopw [25] (fun i wr=>∃b:Nat,b≤n∧i=.int .i64 (b:Int)∧Hid (FpAt w wr g7 g c n (n:Int) (ρ b)∧Bx wr w.heap.size (.int .i64 (n:Int)) (.slice (some ⟨bx,ox,none⟩) n d))) (fun i _=>n-(intOf i).toNat)
  case atStart=>exact ⟨0,Nat.zero_le _,rfl,HR0.out⟩
  case round=>
   obtain ⟨b,hb,rfl,HI⟩:=hrel
   clear HR0
   obtain ⟨wy,rfl⟩:∃W,W=wr:=⟨wr,rfl⟩
   by_cases hbl:b<n
   case neg=>
    obtain rfl:n=b:=by omega
    rw [HSN.out] at HI
    go_wp2
    go_roundw
    case rel=>exact ⟨a+1,by omega,by go_num,HI.out⟩
    case measure=>simp [intOf];omega
   have bz:=bit_at y1 y2 (show b≤7 by omega)
   rw [←HBY.out b] at bz
   have hrs:=HRS.out b
   cases htb:bt x.wins a b
   ·rw [htb] at bz
    have HN2:Hid (ρ (b+1)=ρ b):=by show _=_;rw [hrs,htb];rfl
    simp only [Bool.false_eq_true,if_false] at bz
    clear htb hrs
    go_wp2
    go_roundw
    case rel=>exact ⟨b+1,by omega,by go_num,by rw [HN2.out];exact HI.out⟩
    case measure=>simp [intOf];omega
   ·rw [htb] at bz hrs
    simp only [if_true] at bz hrs
    clear htb
    have hpn:=HNM.out a
    have hqn:=HNM.out b
    obtain ⟨-,hsn⟩:=HQ.out wy HI.out.1.be
    obtain ⟨b1,o1,v1,e,hv1,c1,-⟩:=hsn.at_ (k:=a) (by rw [nI_length,HNL.out];exact hlt)
    injection e with e;injection e with e1 e2;subst e1;subst e2
    rw [nI_at (by rw [HNL.out];exact hlt)] at hv1
    injection hv1 with hv1;subst hv1
    obtain ⟨b1,o1,v1,e,hv1,c2,-⟩:=hsn.at_ (k:=b) (by rw [nI_length,HNL.out];exact hbl)
    injection e with e;injection e with e1 e2;subst e1;subst e2
    rw [nI_at (by rw [HNL.out];exact hbl)] at hv1
    injection hv1 with hv1;subst hv1
    generalize nm.getD a 0=p at *
    generalize nm.getD b 0=q at *
    obtain ⟨z,hz,cz,fz,hst⟩:=HI.out.1.drew.set (a:=p) (by rw [HRL.out];exact hpn)
    obtain ⟨z1,z2⟩:=HRB.out b z (List.mem_of_getElem? hz)
    obtain ⟨x1,-,-⟩:=or_at z1 z2 (show q<8 by omega)
    have p1:=(pow8i ⟨q,by omega⟩).1
    simp only at p1
    have hgz:(ρ b).getD p 0=z:=by rw [List.getD_eq_getElem?_getD,hz];rfl
    rw [hgz] at hrs
    have h2:=hst (orN z q)
    rw [←hrs] at h2
    have H2:Hid (FpAt w (wy.drew.setCell ⟨g,p,none⟩ (.int .i64 (orN z q))) g7 g c n (n:Int) (ρ (b+1))∧Bx (wy.drew.setCell ⟨g,p,none⟩ (.int .i64 (orN z q))) w.heap.size (.int .i64 (n:Int)) (.slice (some ⟨bx,ox,none⟩) n d)):=by
     refine ⟨h2,?_⟩
     have hne:(w.heap.size:Nat)≠g:=by have:=(HI.out.1.fr.1.lt g rfl).1;omega
     exact ⟨(World.cell?_setCell_other _ _ _ _ (by intro e;simp only [Addr.mk.injEq] at e;exact hne e.1.symm)).trans HI.out.2.1,(World.cell?_setCell_other _ _ _ _ (by intro e;simp only [Addr.mk.injEq] at e;exact hne e.1.symm)).trans HI.out.2.2.1,Nat.lt_of_lt_of_le HI.out.2.2.2 (Nat.le_of_eq (setCell_drew_size wy _ _).symm)⟩
    have f1:(0:Int)≤(p:Int)∧(p:Int)<(n:Int):=by omega
    have f2:(0:Int)≤(a:Int)∧(a:Int)<(n:Int):=by omega
    have f3:(0:Int)≤(b:Int)∧(b:Int)<(n:Int):=by omega
    obtain ⟨u0,u1,-⟩:=id HI.out.1.bx
    clear hst h2 hz hgz hrs hsn
    go_wp2
    refine wp_region_still_tail 15 (by kernel_rfl) (by kernel_rfl) ?_
    simp only [List.take_succ_cons,List.take_zero,List.drop_succ_cons,List.drop_zero]
    repeat still_step
    refine wpStill_nil ?_
    change wpList _ _ _ _ _ wy.drew
    have cz':wy.drew.cell? ⟨g,p,none⟩=some (.int .i64 z):=cz
    have fz':wy.drew.frozen? ⟨g,p,none⟩=false:=fz
    clear cz fz u0 u1 c1 c2
    generalize wy.drew=wd at *
    go_wp2
    go_roundw
    case rel=>exact ⟨b+1,by omega,by go_num,H2.out⟩
    case measure=>simp [intOf];omega
theorem own_ne {w:World}{lo lo2 m n s s2:Nat}{u v:Value}{xs vs:List Value} (h1:w.ownsRow lo 3 s u m xs) (h2:w.ownsRow lo2 25 s2 v n vs) {g:Nat} (hg:u.ownBlock=some g):v.ownBlock≠some g:=by
 intro hv
 rcases h1.2 with ⟨rfl,_⟩|⟨g1,_,cur1,rfl,_,e1,_⟩
 ·cases hg
 ·rcases h2.2 with ⟨rfl,_⟩|⟨g2,_,cur2,rfl,_,e2,_⟩
  ·cases hv
  ·simp only [Value.ownBlock,Option.some.injEq] at hg hv
   subst hg;subst hv
   rw [e1] at e2
   injection e2 with e2
   injection e2 with _ e2 _
   exact absurd e2 (by decide)
theorem Fr.grownBy {w w':World}{lo hi:Nat}{u:Value}{xs:List Int}{row:Option Nat} (h:Fr w lo hi u xs) (hg:w.grownBy w' row) (hd:∀g,u.ownBlock=some g→row≠some g):Fr w' lo hi u xs:=by
 refine ⟨h.1.kept hg ?_,h.2.1,Nat.le_trans h.2.2 hg.size⟩
 cases hu:u.ownBlock with
 | none=>exact .inl rfl
 | some g=>exact .inr fun e=>hd g hu e.symm
theorem OwS.push {w w1 w2:World}{lo:Nat}{v v' u:Value}{xss:List (List Int)}{xs:List Int}{vs:List Value} (hlo:lo≤w.heap.size)
  (hv:w1.ownsRow lo 25 1 v xss.length vs) (hl:vs.length=xss.length)
  (hrows:∀(k:Nat) (y:Value) (ys:List Int),vs[k]? = some y→xss[k]? = some ys→Fr w1 lo w.heap.size y ys)
  (hap:∀(i j:Nat) (y y':Value),i≠j→vs[i]? = some y→vs[j]? = some y'→∀g,y.ownBlock=some g→y'.ownBlock≠some g)
  (hu:Fr w1 w.heap.size w1.heap.size u xs) (hle:w.heap.size≤w1.heap.size)
  (hown:w2.ownsRow lo 25 1 v' (xss.length+1) (vs++[u])) (hg:w1.grownBy w2 v.ownBlock):OwS w2 lo w2.heap.size v' (xss++[xs]):=by
 refine ⟨vs++[u],by simp [hl],by rw [List.length_append,List.length_singleton];exact hown,fun g hg'=>(hown.lt g hg').2,Nat.le_trans hlo (Nat.le_trans hle hg.size),Nat.le_refl _,?_,?_⟩
 ·intro k y ys hy hys
  rcases Nat.lt_or_ge k vs.length with hk|hk
  ·rw [List.getElem?_append_left hk] at hy
   rw [List.getElem?_append_left (by omega)] at hys
   have h:=hrows k y ys hy hys
   exact (h.grownBy hg fun g he=>own_ne h.1 hv he).wide (Nat.le_refl _) (Nat.le_trans hle hg.size) (Nat.le_refl _)
  ·rw [List.getElem?_append_right hk] at hy
   rw [List.getElem?_append_right (by omega)] at hys
   have h0:k-vs.length=0:=by
    rcases Nat.eq_zero_or_pos (k-vs.length) with h|h
    ·exact h
    ·rw [List.getElem?_eq_none (by simp;omega)] at hy;cases hy
   rw [h0] at hy
   rw [show k-xss.length=0 from by omega] at hys
   simp only [List.getElem?_cons_zero,Option.some.injEq] at hy hys
   subst hy;subst hys
   exact (hu.grownBy hg fun g he=>own_ne hu.1 hv he).wide hlo hg.size (Nat.le_refl _)
 ·have new_ne:∀(k:Nat) (y:Value),vs[k]? = some y→∀g,y.ownBlock=some g→u.ownBlock≠some g:=by
   intro k y hy g he heu
   obtain ⟨ys,hys⟩:∃ys,xss[k]? = some ys:=⟨_,List.getElem?_eq_getElem (by have:=(List.getElem?_eq_some_iff.1 hy).1;omega)⟩
   have h1:=(hrows k y ys hy hys).2.1 g he
   have h2:=(hu.1.lt g heu).1
   omega
  intro i j y y' hij hy hy' g he
  rcases Nat.lt_or_ge i vs.length with hi|hi<;>rcases Nat.lt_or_ge j vs.length with hj|hj
  ·rw [List.getElem?_append_left hi] at hy
   rw [List.getElem?_append_left hj] at hy'
   exact hap i j y y' hij hy hy' g he
  ·rw [List.getElem?_append_left hi] at hy
   rw [List.getElem?_append_right hj] at hy'
   obtain ⟨h1,h2⟩:=List.getElem?_eq_some_iff.1 hy'
   simp only [List.length_singleton] at h1
   rw [show j-vs.length=0 from by omega] at hy'
   simp only [List.getElem?_cons_zero,Option.some.injEq] at hy'
   subst hy'
   exact new_ne i y hy g he
  ·rw [List.getElem?_append_right hi] at hy
   rw [List.getElem?_append_left hj] at hy'
   obtain ⟨h1,h2⟩:=List.getElem?_eq_some_iff.1 hy
   simp only [List.length_singleton] at h1
   rw [show i-vs.length=0 from by omega] at hy
   simp only [List.getElem?_cons_zero,Option.some.injEq] at hy
   subst hy
   intro he'
   exact new_ne j y' hy' g he' he
  ·obtain ⟨h1,_⟩:=List.getElem?_eq_some_iff.1 hy
   obtain ⟨h2,_⟩:=List.getElem?_eq_some_iff.1 hy'
   simp only [List.length_append,List.length_singleton] at h1 h2
   omega
structure Two (wr:World) (lo:Nat) (vb vw:Value) (bs ws:List Int):Prop where
 fb:Fr wr lo wr.heap.size vb bs
 fw:Fr wr lo wr.heap.size vw ws
 ne:∀g,vb.ownBlock=some g→vw.ownBlock≠some g
theorem Two.below {wr w2:World}{lo:Nat}{vb vw:Value}{bs ws:List Int} (h:Two wr lo vb vw bs ws) (hb:Below wr.heap.size wr w2):Two w2 lo vb vw bs ws:=
 ⟨(h.fb.grow hb).wide (Nat.le_refl _) hb.size (Nat.le_refl _),(h.fw.grow hb).wide (Nat.le_refl _) hb.size (Nat.le_refl _),h.ne⟩
theorem Two.left {wr w2:World}{lo:Nat}{vb vb' vw:Value}{bs ws:List Int}{x:Int} (h:Two wr lo vb vw bs ws) (hown:w2.ownsRow lo 3 1 vb' (bs.length+1) (ints (bs++[x])))
  (hg:wr.grownBy w2 vb.ownBlock) (hat:vb'.ownBlock=vb.ownBlock∨vb'.ownBlock=some (wr.heap.size+1)):Two w2 lo vb' vw (bs++[x]) ws:=by
 refine ⟨Fr.of_own (by rw [List.length_append];exact hown),(h.fw.grownBy hg fun g hw hb=>h.ne g hb hw).wide (Nat.le_refl _) hg.size (Nat.le_refl _),?_⟩
 intro g hb hw
 rcases hat with e|e
 ·exact h.ne g (e ▸ hb) hw
 ·rw [e] at hb
  injection hb with hb
  have:=h.fw.2.1 g hw
  omega
def mkO (n:Nat):Obj:=.cells (madeCells (Value.int .i64 0).cells (n*1)) 3
theorem run_mkI {n:Nat} (hn:n≤1048576) (W:World):(Instr.makeSlice 25 (.int .i64 (n:Int)) (.int .i64 (n:Int))).run Tryz.prog W=.ok (.slice (some ⟨W.heap.size,0,none⟩) n n) (W.alloc (mkO n)):=by
 obtain ⟨i0,hi,hz0,hz1,hz2⟩:=info_parts infoInt
 have hr:=run_make (P:=Tryz.prog) W 25 3 i0 (.int .i64 0) Tryz.underlying25 hi hz0 .i64 .i64 n n (by omega) (Int.le_refl _) (by rw [hz2];omega) (by omega)
 simp only [Int.toNat_natCast,hz1] at hr
 exact hr
theorem fr_mkO {n:Nat} (hn:n≤1048576) (W:World):Fr (W.alloc (mkO n)) W.heap.size (W.alloc (mkO n)).heap.size (.slice (some ⟨W.heap.size,0,none⟩) n n) (List.replicate n 0):=by
 have h1:=World.ownsRow_lit (base:=W.heap.size) (e:=3) (size:=1) W (madeCells (Value.int .i64 0).cells (n*1)) n (Nat.le_refl _) (by unfold maxLen;omega) (size_madeCells _ _)
 rw [ints_replicate] at h1
 exact Fr.of_own (by rw [List.length_replicate];exact h1)
theorem cell_mkO {W:World}{b n:Nat}{v:Value} (h:W.cell? ⟨b,0,none⟩=some v) (hb:b<W.heap.size):(W.alloc (mkO n)).drew.cell? ⟨b,0,none⟩=some v:=(((Below.refl _ W).alloc (Nat.le_refl _) _).cell (p:=⟨b,0,none⟩) hb).trans h
def visit (n:Nat):Nat→List Int→List (List Int)
 | 0,cur=>[cur]
 | f+1,cur=>(idxs n).flatMap fun x=>if cur.contains x then [] else visit n f (cur++[x])
def allO (n:Nat):List (List Int):=visit n n []
def backP (xs l:List Int) (a b:Nat):Bool:=bt xs a b && decide (plc l (b:Int)<plc l (a:Int))
def backR (xs l:List Int) (_n a m:Nat):List (List Int):=((List.range m).filter (backP xs l a)).map fun (b:Nat)=>[(a:Int),(b:Int)]
def backL (xs l:List Int) (n m:Nat):List (List Int):=(List.range m).flatMap fun a=>backR xs l n a n
theorem backL_succ (xs l:List Int) (n m:Nat):backL xs l n (m+1)=backL xs l n m++backR xs l n m n:=by
 unfold backL
 rw [List.range_succ,List.flatMap_append]
 simp
theorem backR_succ (xs l:List Int) (n a m:Nat):backR xs l n a (m+1)=backR xs l n a m++(if backP xs l a m=true then [[(a:Int),(m:Int)]] else []):=by
 unfold backR
 rw [List.range_succ,List.filter_append,List.map_append]
 congr 1
 rw [List.filter_cons]
 split<;>rfl
structure FillS (lo:Nat) (wr:World) (n j:Nat) (us:List Value) (xss:List (List Int)):Prop where
 ul:us.length=j
 xl:xss.length=n
 sz:lo<wr.heap.size
 own:wr.ownsRow lo 25 1 (.slice (some ⟨lo,0,none⟩) n n) n (us++List.replicate (n-j) (.slice none 0 0))
 rows:∀(k:Nat) (u:Value) (xs:List Int),us[k]? = some u→xss[k]? = some xs→Fr wr (lo+1) wr.heap.size u xs
 ap:∀(i j:Nat) (u u':Value),i≠j→us[i]? = some u→us[j]? = some u'→∀g,u.ownBlock=some g→u'.ownBlock≠some g
theorem FillS.next {lo:Nat}{wr w2:World}{n j c':Nat}{A':Option Addr}{us:List Value}{xss:List (List Int)}{xs:List Int} (h:FillS lo wr n j us xss) (hj:j<n) (hx:xss[j]? = some xs)
  (hfr:Fr w2 wr.heap.size w2.heap.size (.slice A' xs.length c') xs) (hb:Below wr.heap.size wr w2):
  (∃x,w2.cell? ⟨lo,j,none⟩=some x)∧w2.frozen? ⟨lo,j,none⟩=false∧FillS lo (w2.setCell ⟨lo,j,none⟩ (.slice A' xs.length c')) n (j+1) (us++[.slice A' xs.length c']) xss∧Keep lo (lo+1) w2 (w2.setCell ⟨lo,j,none⟩ (.slice A' xs.length c')):=by
 obtain ⟨hul,hxl,hsz,hown,hrows,hap⟩:=h
 have hown2:=ownsRow_keep hown (hi:=lo+1) (fun g hg=>by simp only [Value.ownBlock,Option.some.injEq] at hg;omega) (by omega) (Keep.of_below (lo:=wr.heap.size) (hi:=wr.heap.size) hb (Nat.le_refl _)) (.inl hsz)
 obtain ⟨hcell,hf,hst,hkp⟩:=own_at hown2 hj (.slice A' xs.length c')
 have hz2:=hb.size
 have hz3:=hkp.size
 refine ⟨hcell,hf,⟨by simp [hul],hxl,by omega,?_,?_,?_⟩,hkp⟩
 ·have e:(us++List.replicate (n-j) (Value.slice none 0 0)).set j (Value.slice A' xs.length c')=us++[Value.slice A' xs.length c']++List.replicate (n-(j+1)) (Value.slice none 0 0):=by
   rw [show n-j=(n-(j+1))+1 from by omega,List.replicate_succ,List.set_append_right _ _ (by rw [hul];exact Nat.le_refl _),hul,Nat.sub_self,List.set_cons_zero]
   simp
  rw [e] at hst
  exact hst
 ·intro k u1 xs1 h1 h2
  rcases Nat.lt_or_ge k us.length with hk|hk
  ·rw [List.getElem?_append_left hk] at h1
   have h3:=hrows k u1 xs1 h1 h2
   refine ((h3.grow hb).apart hkp (fun g hg=>?_)).wide (Nat.le_refl _) (by omega) (Nat.le_refl _)
   have h4:=(h3.1.lt g hg).1
   omega
  ·have hk':k=us.length:=by
    rcases Nat.lt_or_ge k (us++[Value.slice A' xs.length c']).length with h|h
    ·simp at h;omega
    ·rw [List.getElem?_eq_none h] at h1;cases h1
   subst hk'
   rw [List.getElem?_append_right (Nat.le_refl _),Nat.sub_self] at h1
   injection h1 with h1
   subst h1
   rw [hul,hx] at h2
   injection h2 with h2
   subst h2
   exact (hfr.keep hkp (.inr (by omega))).wide (by omega) (by omega) (Nat.le_refl _)
 ·intro i1 j1 u1 u2 hne h1 h2 g hg1 hg2
  have hold:∀(k:Nat) (u1:Value),us[k]? = some u1→∀g,u1.ownBlock=some g→g<wr.heap.size:=by
   intro k u1 h1 g hg
   obtain ⟨hk,_⟩:=List.getElem?_eq_some_iff.1 h1
   have h2:xss[k]? = some xss[k]!:=by
    rw [getElem!_pos xss k (by omega)]
    exact List.getElem?_eq_getElem _
   exact (hrows k u1 _ h1 h2).2.1 g hg
  have hnew:∀g,(Value.slice A' xs.length c').ownBlock=some g→wr.heap.size≤g:=fun g hg=>(hfr.1.lt g hg).1
  have hcase:∀(k:Nat) (u1:Value),(us++[Value.slice A' xs.length c'])[k]? = some u1→(us[k]? = some u1∧k<us.length)∨(u1=.slice A' xs.length c'∧k=us.length):=by
   intro k u1 h1
   rcases Nat.lt_or_ge k us.length with hk|hk
   ·rw [List.getElem?_append_left hk] at h1;exact .inl ⟨h1,hk⟩
   ·have hk':k=us.length:=by
     rcases Nat.lt_or_ge k (us++[Value.slice A' xs.length c']).length with h|h
     ·simp at h;omega
     ·rw [List.getElem?_eq_none h] at h1;cases h1
    subst hk'
    rw [List.getElem?_append_right (Nat.le_refl _),Nat.sub_self] at h1
    injection h1 with h1
    exact .inr ⟨h1.symm,rfl⟩
  rcases hcase i1 u1 h1 with ⟨a1,b1⟩|⟨a1,b1⟩<;>rcases hcase j1 u2 h2 with ⟨a2,b2⟩|⟨a2,b2⟩
  ·exact hap i1 j1 u1 u2 hne a1 a2 g hg1 hg2
  ·subst a2;have:=hold i1 u1 a1 g hg1;have:=hnew g hg2;omega
  ·subst a1;have:=hold j1 u2 a2 g hg2;have:=hnew g hg1;omega
  ·omega
theorem FillS.done {lo:Nat}{wr:World}{n:Nat}{us:List Value}{xss:List (List Int)} (h:FillS lo wr n n us xss):OwS wr lo wr.heap.size (.slice (some ⟨lo,0,none⟩) n n) xss:=by
 obtain ⟨hul,hxl,hsz,hown,hrows,hap⟩:=h
 refine ⟨us,by omega,by rw [hxl];simpa using hown,fun g hg=>?_,by omega,Nat.le_refl _,fun k u xs h1 h2=>(hrows k u xs h1 h2).wide (by omega) (Nat.le_refl _) (Nat.le_refl _),hap⟩
 simp only [Value.ownBlock,Option.some.injEq] at hg;omega
theorem FillS.zero {w:World}{n:Nat}{xss:List (List Int)}{w':World} (hxl:xss.length=n) (hown:w'.ownsRow w.heap.size 25 1 (.slice (some ⟨w.heap.size,0,none⟩) n n) n (List.replicate n (.slice none 0 0))) (hsz:w'.heap.size=w.heap.size+1):FillS w.heap.size w' n 0 [] xss:=
 ⟨rfl,hxl,by omega,by simpa using hown,by simp,by simp⟩
theorem OwS.drewN {w:World}{lo hi:Nat}{v:Value}{xss:List (List Int)} (h:OwS w lo hi v xss) (q:Nat):OwS (w.drewN q) lo hi v xss:=h
theorem OwS.top {w:World}{lo hi h':Nat}{v:Value}{xss:List (List Int)} (h:OwS w lo hi v xss) (h1:hi≤h') (h2:h'≤w.heap.size):OwS w lo h' v xss:=by
 obtain ⟨vs,a,b,c,d,e,f,g⟩:=h
 exact ⟨vs,a,b,fun x hx=>Nat.lt_of_lt_of_le (c x hx) h1,by omega,h2,fun k u xs p q=>(f k u xs p q).wide (Nat.le_refl _) h1 h2,g⟩
theorem OwS.cellAt {w:World}{lo hi n c:Nat}{A:Option Addr}{xss:List (List Int)} (h:OwS w lo hi (.slice A n c) xss) {a b:Nat}{xs:List Int} (hx:xss[a]? = some xs) (hb:b<xs.length):
  ∃g g1 c1 x,A=some ⟨g,0,none⟩∧a<n∧n≤c∧w.cell? ⟨g,a,none⟩=some (.slice (some ⟨g1,0,none⟩) xs.length c1)∧xs.length≤c1∧xs[b]? = some x∧w.cell? ⟨g1,b,none⟩=some (.int .i64 x)∧w.frozen? ⟨g1,b,none⟩=false ∧
   ∀y,OwS (w.setCell ⟨g1,b,none⟩ (.int .i64 y)) lo hi (.slice A n c) (xss.set a (xs.set b y))∧Keep lo hi w (w.setCell ⟨g1,b,none⟩ (.int .i64 y)):=by
 have ha:a<xss.length:=(List.getElem?_eq_some_iff.1 hx).1
 obtain ⟨A',c',he,hcl,_⟩:=h.form
 injection he with e1 e2 e3
 subst e1;subst e2;subst e3
 obtain ⟨g,u,xs',l,h',rfl,hx',hcell,a1,a2,a3,hfr,hset⟩:=h.rowAt ha
 rw [hx] at hx'
 injection hx' with hx'
 subst hx'
 obtain ⟨A1,c1,rfl,hc1,_⟩:=hfr.form
 obtain ⟨g1,x,rfl,hg1,hg2,hxb,hc,hf,hst⟩:=hfr.at_ hb
 refine ⟨g,g1,c1,x,rfl,ha,hcl,hcell,hc1,hxb,hc,hf,fun y=>?_⟩
 have hs:=hst y
 exact ⟨hset _ _ (by rw [List.length_set]) hs.1 hs.2,hs.2.wide a1 a3⟩
theorem appS {ops:Array Oper}{rest:List Oper}{o:Oper}{a:Act}{Q:Exit→Act→World→Prop} (hgd:o.guard=none) (s y:Operand)
  (ho:o.op=.call { callee:=.builtin .append,args:=#[s,y],argTypes:=#[67,67] })
  (w:World) (base:Nat) (v:Value) (n:Nat) (vs:List Value) (hs:a.eval s=v) (hown:w.ownsRow base 25 1 v n vs) (A:Option Addr) (m c:Nat)
  (hx:a.eval y=.slice (some ⟨w.heap.size,0,none⟩) 1 1) (hl:n≤1048576) (hbase:base≤w.heap.size)
  (h:∀v' w',w'.ownsRow base 25 1 v' (n+1) (vs++[.slice A m c])→(∀B,B≤base→B≤w.heap.size→Below B w w')→w.heap.size<w'.heap.size→w.grownBy w' v.ownBlock→wpList Tryz.prog ops Q rest (a.put o.dst v') w'):
  wpList Tryz.prog ops Q (o :: rest) a (w.alloc (.cells #[.slice A m c] 25)):=by
 obtain ⟨i0,hi,hz0,hz1,hz2⟩:=info_parts infoIS
 refine wpList_append_own _ hgd s y _ ho base 25 i0 (.slice none 0 0) 1 24 Tryz.underlying67 hi hz0 hz1 hz2 rfl (by decide) v n vs hs (hown.alloc _) ⟨w.heap.size,0,none⟩ 1 1 [.slice A m c] hx rfl ?_ ?_ (by unfold maxLen;omega) (by omega) (by simp;omega) ?_
 ·intro j u hj
  match j,hj with
  | 0,hj=>simp at hj;subst hj;simp [Addr.add]
 ·intro u hu;simp at hu;subst hu;rfl
 ·intro v' w' h2 h3 _
  have hsz:=h3.size
  simp only [World.size_alloc] at hsz
  refine h v' w' h2 (fun B h4 h5=>?_) (by omega) ?_
  ·refine ((Below.refl B w).alloc h5 _).grown h3 (by simp;omega) (fun k hk=>?_)
   have:=(hown.lt k hk).1;omega
  ·exact ⟨h3.os,h3.tape,h3.output,by omega,fun k hk hne=>by rw [h3.block k (by simp;omega) hne];exact Below.heap_alloc _ _ _ hk⟩
theorem OwS.pushed {wr w1:World}{lo:Nat}{v u:Value}{xss:List (List Int)}{xs:List Int} (h:OwS wr lo wr.heap.size v xss) (hb:Below wr.heap.size wr w1) (hu:Fr w1 wr.heap.size w1.heap.size u xs):
  ∃vs,w1.ownsRow lo 25 1 v xss.length vs∧∀v' w2,w2.ownsRow lo 25 1 v' (xss.length+1) (vs++[u])→w1.grownBy w2 v.ownBlock→OwS w2 lo w2.heap.size v' (xss++[xs]):=by
 have h1:=h.grow hb
 obtain ⟨vs,a,b,c,d,e,f,g⟩:=h1
 exact ⟨vs,b,fun v' w2 ho hg=>OwS.push (w:=wr) d b a (fun k y ys p q=>(f k y ys p q)) g hu hb.size ho hg⟩
def ByI (w:World) (A:Option Addr) (n:Nat):Prop:=n=0∨∃b off,A=some ⟨b,off,none⟩∧∀k,k<n→∃x:Int,0≤x∧x≤255∧w.cell? ⟨b,off+k,none⟩=some (.int .u8 x)
theorem ByI.at_ {w:World}{A:Option Addr}{n k:Nat} (h:ByI w A n) (hk:k<n):∃b off x,A=some ⟨b,off,none⟩∧0≤x∧x≤255∧w.cell? ⟨b,off+k,none⟩=some (.int .u8 x)∧b<w.heap.size:=by
 rcases h with rfl|⟨b,off,rfl,h⟩
 ·omega
 ·obtain ⟨x,h0,h1,h2⟩:=h k hk
  exact ⟨b,off,x,rfl,h0,h1,h2,block_lt_of_cell h2⟩
theorem ByI.keep {w w':World}{A:Option Addr}{n:Nat} (h:ByI w A n) (hk:∀p:Addr,p.block<w.heap.size→∀x:Int,w.cell? p=some (.int .u8 x)→w'.cell? p=some (.int .u8 x)):ByI w' A n:=by
 rcases h with rfl|⟨b,off,rfl,h⟩
 ·exact .inl rfl
 ·refine .inr ⟨b,off,rfl,fun k hk'=>?_⟩
  obtain ⟨x,h0,h1,h2⟩:=h k hk'
  exact ⟨x,h0,h1,hk _ (block_lt_of_cell h2) x h2⟩
theorem ByI.below {w w':World}{A:Option Addr}{n:Nat} (h:ByI w A n) (hb:Below w.heap.size w w'):ByI w' A n:=h.keep fun _ hp _ hx=>(hb.cell hp).trans hx
def InB (w:World) (v:Value) (n:Nat):Prop:=∃A c,v=.slice A n c∧n≤c∧c≤maxLen∧ByI w A n
theorem InB.below {w w':World}{v:Value}{n:Nat} (h:InB w v n) (hb:Below w.heap.size w w'):InB w' v n:=by
 obtain ⟨A,c,rfl,h1,h2,h3⟩:=h;exact ⟨A,c,rfl,h1,h2,h3.below hb⟩
theorem and_rng (x:Int) (m:Nat) (hm:m<9223372036854775808):0≤bits BinOp.and IntKind.i64 x (m:Int)∧bits BinOp.and IntKind.i64 x (m:Int)≤m:=by
 have h1:(BitVec.ofInt 64 (m:Int)).toNat=m:=by rw [BitVec.ofInt_natCast,BitVec.toNat_ofNat];exact Nat.mod_eq_of_lt (by omega)
 have h2:(BitVec.ofInt 64 x &&& BitVec.ofInt 64 (m:Int)).toNat≤m:=by rw [BitVec.toNat_and,h1];exact Nat.and_le_right
 show 0≤IntKind.i64.wrap _∧IntKind.i64.wrap _≤_
 have h3:bits BinOp.and IntKind.i64 x (m:Int)=IntKind.i64.wrap (((BitVec.ofInt 64 x &&& BitVec.ofInt 64 (m:Int)).toNat:Nat):Int):=rfl
 rw [IntKind.wrap_i64] at h3
 show 0≤bits BinOp.and IntKind.i64 x (m:Int)∧bits BinOp.and IntKind.i64 x (m:Int)≤m
 rw [h3]
 omega
theorem and_255 (x:Int):0≤bits BinOp.and IntKind.i64 x 255∧bits BinOp.and IntKind.i64 x 255≤255:=and_rng x 255 (by decide)
theorem and_big (x:Int):0≤bits BinOp.and IntKind.i64 x 1073741823∧bits BinOp.and IntKind.i64 x 1073741823≤1073741823:=and_rng x 1073741823 (by decide)
structure Cur (w:World) (p:Nat) (v:Value) (n:Nat):Prop where
 b:w.cell? ⟨p,0,none⟩=some v
 i:∃i:Nat,i≤n∧w.cell? ⟨p,1,none⟩=some (.int .i64 (i:Int))
 h:∃h:Int,w.cell? ⟨p,2,none⟩=some (.int .i64 h)
 f1:w.frozen? ⟨p,1,none⟩=false
 f2:w.frozen? ⟨p,2,none⟩=false
 lt:p<w.heap.size
 inb:InB w v n
theorem byI_setCell {w:World}{A:Option Addr}{n p k:Nat}{y u:Value} (h:ByI w A n) (hp:w.cell? ⟨p,k,none⟩=some y) (hy:∀x:Int,y≠.int .u8 x):ByI (w.setCell ⟨p,k,none⟩ u) A n:=by
 refine h.keep fun q hq x hx=>?_
 rw [World.cell?_setCell_other _ _ _ _ (fun e=>by rw [←e,hp] at hx;injection hx with hx;exact hy x hx)]
 exact hx
theorem Cur.set1 {w:World}{p n:Nat}{v:Value} (h:Cur w p v n) {j:Nat} (hj:j≤n):Cur (w.setCell ⟨p,1,none⟩ (.int .i64 (j:Int))) p v n:=by
 obtain ⟨i,_,hi⟩:=h.i
 obtain ⟨hh,h2⟩:=h.h
 obtain ⟨A,c,rfl,h1,h3,h4⟩:=h.inb
 exact ⟨(World.cell?_setCell_other _ _ _ _ (by simp)).trans h.b,⟨j,hj,World.cell?_setCell_same _ _ _ hi⟩,⟨hh,(World.cell?_setCell_other _ _ _ _ (by simp)).trans h2⟩,by rw [World.frozen?_setCell];exact h.f1,by rw [World.frozen?_setCell];exact h.f2,by have:=h.lt;simpa [World.setCell] using this,
  A,c,rfl,h1,h3,byI_setCell h4 hi (fun x=>by simp)⟩
theorem Cur.set2 {w:World}{p n:Nat}{v:Value} (h:Cur w p v n) (y:Int):Cur (w.setCell ⟨p,2,none⟩ (.int .i64 y)) p v n:=by
 obtain ⟨i,hi0,hi⟩:=h.i
 obtain ⟨hh,h2⟩:=h.h
 obtain ⟨A,c,rfl,h1,h3,h4⟩:=h.inb
 exact ⟨(World.cell?_setCell_other _ _ _ _ (by simp)).trans h.b,⟨i,hi0,(World.cell?_setCell_other _ _ _ _ (by simp)).trans hi⟩,⟨y,World.cell?_setCell_same _ _ _ h2⟩,by rw [World.frozen?_setCell];exact h.f1,by rw [World.frozen?_setCell];exact h.f2,by have:=h.lt;simpa [World.setCell] using this,
  A,c,rfl,h1,h3,byI_setCell h4 h2 (fun x=>by simp)⟩
theorem Cur.drewN {w:World}{p n:Nat}{v:Value} (h:Cur w p v n) (q:Nat):Cur (w.drewN q) p v n:=⟨h.b,h.i,h.h,h.f1,h.f2,h.lt,h.inb⟩
theorem l01New_any (v:Value) (n:Nat) (w:World) (hv:InB w v n) (hn:n≤1048576):
  Calls Tryz.prog 24 #[v] w fun e w'=>e=.returned (.pointer (some ⟨w.heap.size,0,none⟩))∧Cur w' w.heap.size v n∧Below w.heap.size w w':=by
 have HV:=Lib.hid hv
 obtain ⟨A,c,rfl,hc,hm,hb⟩:=hv
 have HB:=Lib.hid hb
 clear hb
 unfold maxLen at hm
 go_enter Tryz.func24,Tryz.ntmps24
 go_wp2
 go_loop [3,4] (fun hv i=>∃(hh:Int) (q:Nat),q≤n∧0≤hh∧hh≤1073741823∧hv=.int .i64 hh∧i=.int .i64 q) (fun _ i=>n-(intOf i).toNat)
 case atStart=>exact ⟨2142+n,0,Nat.zero_le _,by omega,by omega,rfl,rfl⟩
 case round=>
  obtain ⟨hh,q,hq,h0,h1,rfl,rfl⟩:=hrel
  by_cases hlt:q<n
  case neg=>
   obtain rfl:n=q:=by omega
   go_wp2
   go_ret
   refine ⟨rfl,⟨by simp,⟨0,Nat.zero_le _,by simp⟩,⟨hh,by simp⟩,by simp,by simp,by simp,HV.out.below ((Below.refl _ w).alloc (Nat.le_refl _) _)⟩,(Below.refl _ w).alloc (Nat.le_refl _) _⟩
  by_cases h4:q<4000
  case neg=>
   go_wp2
   go_ret
   refine ⟨rfl,⟨by simp,⟨0,Nat.zero_le _,by simp⟩,⟨hh,by simp⟩,by simp,by simp,by simp,HV.out.below ((Below.refl _ w).alloc (Nat.le_refl _) _)⟩,(Below.refl _ w).alloc (Nat.le_refl _) _⟩
  obtain ⟨b,off,x,rfl,hx0,hx1,hcx,_⟩:=HB.out.at_ hlt
  have hr:=and_big (hh*163+x+7)
  go_wp2
  go_round
  case rel=>exact ⟨_,q+1,by omega,hr.1,hr.2,rfl,by go_num⟩
  case measure=>simp [intOf];omega
theorem Cur.keep1 {w:World}{p n:Nat}{v:Value} (h:Cur w p v n) {j:Nat} (hj:j≤n):Cur (w.setCell ⟨p,1,none⟩ (.int .i64 (j:Int))) p v n∧Keep p (p+1) w (w.setCell ⟨p,1,none⟩ (.int .i64 (j:Int))):=
 ⟨h.set1 hj,Keep.setCell (p:=⟨p,1,none⟩) (Keep.refl p (p+1) w) (Nat.le_refl p) (Nat.lt_succ_self p) _⟩
theorem Cur.keep2 {w:World}{p n:Nat}{v:Value} (h:Cur w p v n) (y:Int):Cur (w.setCell ⟨p,2,none⟩ (.int .i64 y)) p v n∧Keep p (p+1) w (w.setCell ⟨p,2,none⟩ (.int .i64 y)):=
 ⟨h.set2 y,Keep.setCell (p:=⟨p,2,none⟩) (Keep.refl p (p+1) w) (Nat.le_refl p) (Nat.lt_succ_self p) _⟩
theorem l01Byte_any (p:Nat) (v:Value) (n:Nat) (w:World) (hc:Cur w p v n) (_hn:n≤1048576):
  Calls Tryz.prog 34 #[.pointer (some ⟨p,0,none⟩)] w fun e w'=>∃x:Int,(0≤x∧x≤255)∧e=.returned (.int .i64 x)∧Cur w' p v n∧Keep p (p+1) w w':=by
 have HN:Hid (∀y:Int,Cur (w.setCell ⟨p,2,none⟩ (.int .i64 y)) p v n∧Keep p (p+1) w (w.setCell ⟨p,2,none⟩ (.int .i64 y))):=fun y=>hc.keep2 y
 obtain ⟨h,hh⟩:=hc.h
 have hf2:=hc.f2
 clear hc
 go_enter Tryz.func34,Tryz.ntmps34
 go_wp2
 obtain ⟨hc1,hk1⟩:=HN.out (wrap64 (wrap64 (h*6364136223846793005)+1442695040888963407))
 generalize w.setCell ⟨p,2,none⟩ (Value.int IntKind.i64 (wrap64 (wrap64 (h*6364136223846793005)+1442695040888963407)))=w1 at hc1 hk1 ⊢
 have HC:=Lib.hid hc1
 have HK:=Lib.hid hk1
 obtain ⟨i,hi,hci⟩:=hc1.i
 obtain ⟨h',hh'⟩:=hc1.h
 have hcb:=hc1.b
 obtain ⟨A,c,rfl,hle,hmx,HB⟩:=hc1.inb
 have HB:=Lib.hid HB
 have hf1:=hc1.f1
 unfold maxLen at hmx
 clear hc1 hk1 hh hf2 HN
 go_quiet (fail)
 go_wp2
 go_quiet (fail)
 by_cases hlt:i<n
 case neg=>
  go_wp2
  go_ret
  exact ⟨_,and_255 _,rfl,(HC.out.drewN _).drewN _,(HK.out.drewN _).drewN _⟩
 obtain ⟨b,off,x,rfl,hx0,hx1,hcx,_⟩:=HB.out.at_ hlt
 have hx:=and_255 (bits BinOp.xor IntKind.i64 (h'/8589934592) (h'/35184372088832))
 go_wp2
 generalize bits BinOp.and IntKind.i64 (bits BinOp.xor IntKind.i64 (h'/8589934592) (h'/35184372088832)) 255=y at hx ⊢
 go_quiet (fail)
 have hy:=and_255 (y+x)
 go_wp2
 go_ret
 exact ⟨_,hy,rfl,(Cur.keep1 (HC.out.drewN _) (j:=i+1) hlt).1,(HK.out.drewN _).trans (Cur.keep1 (HC.out.drewN _) (j:=i+1) hlt).2⟩
end Go.Proofs.YtkapoldjcpfdgaaGreatDoor
