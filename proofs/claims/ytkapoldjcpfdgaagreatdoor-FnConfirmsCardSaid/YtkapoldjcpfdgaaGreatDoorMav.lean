/- ParseTour: the program's. -/
import Derived.Test.YtkapoldjcpfdgaaGreatDoorMau
set_option maxHeartbeats 4000000
set_option maxRecDepth 100000
namespace Go.Proofs.YtkapoldjcpfdgaaGreatDoor
open Go.ChangeShapes Go.WideShapes Go.ChangeAt Go.RowKit
structure PgAt (w W:World) (g7 g c n:Nat) (sz:Int) (xs:List Int):Prop where
 rs:RsAt w W w.heap.size
 bx:Bx W g7 (.int .i64 sz) (.slice (some ⟨g,0,none⟩) n c)
 fr:Fr W (w.heap.size+1) W.heap.size (.slice (some ⟨g,0,none⟩) n c) xs
 lo:w.heap.size+1≤g7
 ne:g7≠g
theorem RsAt.drew {w W:World}{r:Nat} (h:RsAt w W r):RsAt w W.drew r:=⟨h.z0,h.z1,h.f0,h.f1,h.lt,h.lo,below_drewL h.be⟩
theorem PgAt.drew {w W:World}{g7 g c n:Nat}{sz:Int}{xs:List Int} (h:PgAt w W g7 g c n sz xs):PgAt w W.drew g7 g c n sz xs:=
 ⟨h.rs.drew,h.bx,h.fr,h.lo,h.ne⟩
theorem PgAt.below {w W W2:World}{g7 g c n:Nat}{sz:Int}{xs:List Int} (h:PgAt w W g7 g c n sz xs) (hb:Below W.heap.size W W2):PgAt w W2 g7 g c n sz xs:=
 ⟨h.rs.below hb,h.bx.below hb,(h.fr.below hb (Nat.le_refl _)).wide (Nat.le_refl _) hb.size (Nat.le_refl _),h.lo,h.ne⟩
theorem PgAt.set {w W:World}{g7 g c n:Nat}{sz:Int}{xs:List Int} (h:PgAt w W g7 g c n sz xs) {a:Nat} (ha:a<xs.length):
  ∃z,xs[a]? = some z∧W.cell? ⟨g,a,none⟩=some (.int .i64 z)∧W.frozen? ⟨g,a,none⟩=false∧∀y,PgAt w (W.setCell ⟨g,a,none⟩ (.int .i64 y)) g7 g c n sz (xs.set a y):=by
 obtain ⟨g',z,e,h1,h2,hz,cz,fz,hset⟩:=h.fr.at_ (k:=a) ha
 injection e with e;injection e with e;subst e
 refine ⟨z,hz,cz,fz,fun y=>?_⟩
 obtain ⟨k1,k2⟩:=hset y
 have hs:=k2.size
 have hr:=h.rs
 refine ⟨⟨(k2.cell (p:=⟨w.heap.size,0,none⟩) hr.lt (.inl (by show w.heap.size<_;omega))).trans hr.z0,(k2.cell (p:=⟨w.heap.size,1,none⟩) hr.lt (.inl (by show w.heap.size<_;omega))).trans hr.z1,(k2.frozen (p:=⟨w.heap.size,0,none⟩) hr.lt (.inl (by show w.heap.size<_;omega))).trans hr.f0,(k2.frozen (p:=⟨w.heap.size,1,none⟩) hr.lt (.inl (by show w.heap.size<_;omega))).trans hr.f1,Nat.lt_of_lt_of_le hr.lt hs,hr.lo,hr.be.trans (k2.below (by omega) hr.be.size)⟩,?_,k1.wide (Nat.le_refl _) hs (Nat.le_refl _),h.lo,h.ne⟩
 exact ⟨(World.cell?_setCell_other _ _ _ _ (by intro e;simp only [Addr.mk.injEq] at e;exact h.ne e.1.symm)).trans h.bx.1,(World.cell?_setCell_other _ _ _ _ (by intro e;simp only [Addr.mk.injEq] at e;exact h.ne e.1.symm)).trans h.bx.2.1,Nat.lt_of_lt_of_le h.bx.2.2 hs⟩
theorem PgAt.done {w W:World}{g7 g c n:Nat}{sz:Int}{xs:List Int} (h:PgAt w W g7 g c n sz xs):
  OwT ((W.setCell ⟨w.heap.size,0,none⟩ (.int .i64 sz)).setCell ⟨w.heap.size,1,none⟩ (.slice (some ⟨g,0,none⟩) n c)) w.heap.size ((W.setCell ⟨w.heap.size,0,none⟩ (.int .i64 sz)).setCell ⟨w.heap.size,1,none⟩ (.slice (some ⟨g,0,none⟩) n c)).heap.size (.agg #[.int .i64 sz,.slice (some ⟨g,0,none⟩) n c]) ⟨sz,xs⟩ ∧
  Below w.heap.size w ((W.setCell ⟨w.heap.size,0,none⟩ (.int .i64 sz)).setCell ⟨w.heap.size,1,none⟩ (.slice (some ⟨g,0,none⟩) n c)):=by
 have KP:Keep w.heap.size (w.heap.size+1) W ((W.setCell ⟨w.heap.size,0,none⟩ (.int .i64 sz)).setCell ⟨w.heap.size,1,none⟩ (.slice (some ⟨g,0,none⟩) n c)):=
  ((Keep.refl _ _ _).setCell (p:=⟨w.heap.size,0,none⟩) (Nat.le_refl _) (Nat.lt_succ_self _) _).setCell (p:=⟨w.heap.size,1,none⟩) (Nat.le_refl _) (Nat.lt_succ_self _) _
 exact ⟨⟨_,rfl,((h.fr.keep KP (.inr (Nat.le_refl _))).wide (by omega) KP.size (Nat.le_refl _))⟩,h.rs.be.trans (KP.below (Nat.le_refl _) h.rs.be.size)⟩
theorem one_at {s:ByteArray}{m:Nat} (h:m<s.size):oneG s.data.toList m=(s[m]==49):=by
 unfold oneG
 rw [List.getD_eq_getElem?_getD,byte_get h];rfl
theorem one_yes {s:ByteArray}{m:Nat} (h:m<s.size) (h1:oneG s.data.toList m=true):((s[m].toNat:Int)==49)=true:=by
 rw [one_at h,beq_iff_eq] at h1
 rw [h1];rfl
theorem one_no {s:ByteArray}{m:Nat} (h:m<s.size) (h1:oneG s.data.toList m=false):((s[m].toNat:Int)==49)=false:=by
 rw [one_at h] at h1
 rw [beq_eq_false_iff_ne] at h1 ⊢
 intro e
 exact h1 (UInt8.toNat_inj.1 (by
                 have:s[m].toNat=49:=by omega
                 rw [this];rfl))
noncomputable def pgTailC:Code:=((Tryz.f63.body.map (codeAtK 7)).getD []).getD 0 .skip
theorem pgTail (w wo:World) (s gm:ByteArray) (g7 g c n:Nat) (hn1:1≤n) (hn:n≤8) (hg:gm.size=n*(n-1)/2) (HF:Hid (PgAt w wo g7 g c n (n:Int) (allP gm.data.toList n 0))) (HT:Hid (tabP w)) (l1 l3 l4 l6 l8 l11 l12 l13 l14 l15 l16 l17 l18 l19 l20 l21 l22 l23 l24 l25 l26 l27 l28 l29 l30 l31 l32 l33 l34 l35 l36 l37 l38 l39 l40 l41 l42 l43 l44 l45 l46 l47 l48 l49 l50 l51 l52 l53 l54 l55 l56 l57 l58 l59 l60 l61 l62 l63 l64 l65 l66 l67 l68 l69 l70 l71 l72 l73 l74 l75 l76 l77 l78 l79 l80 l81 l82 l83:Value):
  Code.wp Tryz.prog pgTailC (bodyPost Tryz.prog Tryz.f63 fun e w'=>TR w e w' (if tourText ⟨(n:Int),allP gm.data.toList n n⟩=s.data.toList then some ⟨(n:Int),allP gm.data.toList n n⟩ else none)) ⟨(List.toArray (.string s :: l1 :: (.pointer (some ⟨w.heap.size,0,none⟩):Value) :: l3 :: l4 :: .string gm :: l6 :: .int .i64 (n:Int) :: l8 :: .int .i64 0 :: (.pointer (some ⟨g7,0,none⟩):Value) :: l11 :: l12 :: l13 :: l14 :: l15 :: l16 :: l17 :: l18 :: l19 :: l20 :: l21 :: l22 :: l23 :: l24 :: l25 :: l26 :: l27 :: l28 :: l29 :: l30 :: l31 :: l32 :: l33 :: l34 :: l35 :: l36 :: l37 :: l38 :: l39 :: l40 :: l41 :: l42 :: l43 :: l44 :: l45 :: l46 :: l47 :: l48 :: l49 :: l50 :: l51 :: l52 :: l53 :: l54 :: l55 :: l56 :: l57 :: l58 :: l59 :: l60 :: l61 :: l62 :: l63 :: l64 :: l65 :: l66 :: l67 :: l68 :: l69 :: l70 :: l71 :: l72 :: l73 :: l74 :: l75 :: l76 :: l77 :: l78 :: l79 :: l80 :: l81 :: l82 :: l83 :: [])),[]⟩ wo:=by
 conv=>arg 2;whnf
 obtain ⟨G,hG⟩:∃G,gm.data.toList=G:=⟨_,rfl⟩
 have HON:Hid (∀m,(h:m<gm.size)→(oneG G m=true→((gm[m].toNat:Int)==49)=true)∧(oneG G m=false→((gm[m].toNat:Int)==49)=false)):=fun m h=>by rw [←hG];exact ⟨one_yes h,one_no h⟩
 rw [hG] at HF ⊢
 have HOF:Hid (∀a,a<n→offA n a+(n-1-a)≤gm.size):=fun a ha=>by rw [hg];exact offA_all ⟨n,by omega⟩ ⟨a,by omega⟩ ha
 have HS1:Hid (∀a,allP G n (a+1)=rowP G (offA n a) a (allP G n a) (n-1-a)∧offA n (a+1)=offA n a+(n-1-a)):=fun a=>⟨rfl,rfl⟩
 have HAL:Hid (∀a,(allP G n a).length=n):=allP_len G n
 have HAB:Hid (∀a,a≤n→∀y∈allP G n a,0≤y∧y<2^n):=allP_lt G n
 have HG:=Lib.hid hg
 clear hG hg
 go_wp2
 rename_i hK1
 have HK1:=Lib.hid hK1
 clear hK1
 go_loopw [9,43] (fun o i wr=>∃a m:Nat,a≤n∧o=.int .i64 (m:Int)∧i=.int .i64 (a:Int)∧Hid (m=offA n a∧PgAt w wr g7 g c n (n:Int) (allP G n a))) (fun _ i _=>n-(intOf i).toNat)
 case atStart=>exact ⟨0,0,Nat.zero_le _,rfl,rfl,rfl,HF.out⟩
 case round=>
  obtain ⟨a,m,ha,rfl,rfl,HR⟩:=hrel
  clear HF
  obtain ⟨wz,rfl⟩:∃W,W=wr:=⟨wr,rfl⟩
  by_cases hlt:a<n
  case neg=>
   obtain rfl:n=a:=by omega
   have HIN:Hid (InT wz (.agg #[.int .i64 (n:Int),.slice (some ⟨g,0,none⟩) n c]) ⟨(n:Int),allP G n n⟩):=⟨_,rfl,HR.out.2.fr.in_⟩
   have HFT:=Lib.hid (implFormatTour_any _ _ wz HIN.out (HT.out.below HR.out.2.rs.be (Nat.le_refl _)))
   obtain ⟨u0,u1,-⟩:=id HR.out.2.bx
   go_wp2
   refine HK1.out _ _ ?_
   go_wp2_with fail
   refine HFT.out.mono ?_
   rintro e w4 ⟨rfl,hb4⟩
   have H4:=Lib.hid (HR.out.2.below hb4)
   clear hb4 u0 u1 HK1
   by_cases ht:tourText ⟨(n:Int),allP G n n⟩=s.data.toList
   ·have HV:Hid ((if tourText ⟨(n:Int),allP G n n⟩=s.data.toList then some ⟨(n:Int),allP G n n⟩ else none)=some (⟨(n:Int),allP G n n⟩:TourV)):=if_pos ht
    have hs2:(⟨(tourText ⟨(n:Int),allP G n n⟩).toArray⟩:ByteArray)=s:=by rw [ht]
    rw [hs2]
    obtain ⟨u0,u1,-⟩:=id H4.out.bx
    obtain ⟨z0,z1,f0,f1,-⟩:=id H4.out.rs
    have HD:=Lib.hid H4.out.done
    go_wp2
    refine bodyPost_ret (v:=.tuple #[.agg #[.int .i64 (n:Int),.slice (some ⟨g,0,none⟩) n c],.bool true]) (by simp [results,Tryz.results63,go_sem,z0,z1]) rfl ?_
    exact ⟨HD.out.2,_,rfl,HD.out.1⟩
   ·have HV:Hid ((if tourText ⟨(n:Int),allP G n n⟩=s.data.toList then some (⟨(n:Int),allP G n n⟩:TourV) else none)=(none:Option TourV)):=if_neg ht
    have hs2:((⟨(tourText ⟨(n:Int),allP G n n⟩).toArray⟩:ByteArray).toList==s.toList)=false:=by
     have h1:=beq_eq_false_iff_ne.1 (str_ne2 (s:=s) (l:=tourText ⟨(n:Int),allP G n n⟩) (fun e=>ht e.symm))
     exact str_ne2 (fun e=>h1 e.symm)
    generalize (⟨(tourText ⟨(n:Int),allP G n n⟩).toArray⟩:ByteArray)=s2 at *
    obtain ⟨z0,z1,f0,f1,-⟩:=id H4.out.rs
    go_wp2
    refine bodyPost_ret (v:=.tuple #[.agg #[.int .i64 0,.slice none 0 0],.bool false]) (by simp [results,Tryz.results63,go_sem,z0,z1]) rfl ?_
    exact ⟨H4.out.rs.zero,rfl⟩
  have HOA:=Lib.hid (HOF.out a hlt)
  obtain ⟨d,hd⟩:∃d,n=a+1+d:=⟨n-1-a,by omega⟩
  have HD:Hid (n-1-a=d):=by show _=_;omega
  have HDN:=Lib.hid hd
  have hg28:gm.size≤28:=by
   have:∀n:Fin 9,n.val*(n.val-1)/2≤28:=by decide
   rw [HG.out];exact this ⟨n,by omega⟩
  have HR0:Hid (PgAt w wz g7 g c n (n:Int) (rowP G (offA n a) a (allP G n a) 0)):=HR.out.2
  have hmo:m=offA n a:=HR.out.1
  have HS2:Hid (allP G n (a+1)=rowP G (offA n a) a (allP G n a) d∧offA n (a+1)=offA n a+d):=by rw [←HD.out];exact HS1.out a
  have HRL:Hid (∀k,(rowP G (offA n a) a (allP G n a) k).length=n):=fun k=>(rowP_len ..).trans (HAL.out a)
  have HRB:Hid (∀k,k≤d→∀y∈rowP G (offA n a) a (allP G n a) k,0≤y∧y<2^n):=fun k hk=>rowP_lt (HAB.out a (by omega)) hlt k (by rw [HD.out];exact hk)
  have HRS:Hid (∀k,rowP G (offA n a) a (allP G n a) (k+1)=if oneG G (offA n a+k) then (rowP G (offA n a) a (allP G n a) k).set a (orN ((rowP G (offA n a) a (allP G n a) k).getD a 0) (a+1+k)) else (rowP G (offA n a) a (allP G n a) k).set (a+1+k) (orN ((rowP G (offA n a) a (allP G n a) k).getD (a+1+k) 0) a)):=fun k=>rfl
  have HMO:Hid (offA n a=m∧m+d≤gm.size):=by refine ⟨hmo.symm,?_⟩;have:=HOA.out;rw [HD.out] at this;omega
  rw [HMO.out.1] at HR0 HS2 HRL HRB HRS
  obtain ⟨ρ,hρ⟩:∃ ρ:Nat→List Int,∀k,rowP G m a (allP G n a) k=ρ k:=⟨_,fun _=>rfl⟩
  simp only [hρ] at HS2 HR0 HRL HRB HRS
  clear hρ HR hmo HOA hd
  go_wp2
  go_loopw [12,9] (fun i o wr=>∃k p b:Nat,k≤d∧i=.int .i64 (b:Int)∧o=.int .i64 (p:Int)∧p=m+k∧b=a+1+k∧Hid (PgAt w wr g7 g c n (n:Int) (ρ k))) (fun i _ _=>n-(intOf i).toNat)
  case atStart=>exact ⟨0,m,a+1,Nat.zero_le _,by go_num,rfl,rfl,rfl,HR0.out⟩
  case round=>
   obtain ⟨k,p,b,hk,rfl,rfl,hp,hb,HI⟩:=hrel
   clear HR0
   obtain ⟨wy,rfl⟩:∃W,W=wr:=⟨wr,rfl⟩
   by_cases hbl:b<n
   case neg=>
    obtain rfl:k=d:=by have:=HDN.out;omega
    go_wp2
    go_roundw
    case rel=>exact ⟨a+1,p,by omega,rfl,by go_num,by rw [HS2.out.2,hp],by rw [HS2.out.1];exact HI.out⟩
    case measure=>simp [intOf];omega
   have hps:p<gm.size:=by have:=HMO.out.2;have:=HDN.out;omega
   have hp28:p+1≤29:=by omega
   have hrs:=HRS.out k
   rw [←hp,←hb] at hrs
   have HHB:=Lib.hid (And.intro hp hb)
   have f2:(0:Int)≤(a:Int)∧(a:Int)<(n:Int):=by omega
   have f3:(0:Int)≤(b:Int)∧(b:Int)<(n:Int):=by omega
   obtain ⟨u0,u1,-⟩:=id HI.out.bx
   cases hone:oneG G p
   ·have hch:=(HON.out p hps).2 hone
    rw [hone] at hrs
    simp only [Bool.false_eq_true,if_false] at hrs
    obtain ⟨z,hz,cz,fz,hst⟩:=HI.out.drew.set (a:=b) (by rw [HRL.out];omega)
    obtain ⟨z1,z2⟩:=HRB.out k hk z (List.mem_of_getElem? hz)
    have z3:z≤255:=by
                have:∀n:Fin 9,(2:Int)^n.val≤256:=by decide
                have:=this ⟨n,by omega⟩;simp only at this;omega
    obtain ⟨x1,-,-⟩:=or_at z1 z3 (show a<8 by omega)
    have p1:=(pow8i ⟨a,by omega⟩).1
    simp only at p1
    have hgz:(ρ k).getD b 0=z:=by rw [List.getD_eq_getElem?_getD,hz];rfl
    rw [hgz] at hrs
    have h2:=hst (orN z a)
    rw [←hrs] at h2
    have H2:=Lib.hid h2
    have HOK:Hid (k<d):=by show _<_;have:=HHB.out.2;have:=HDN.out;omega
    clear hst h2 hz hgz hrs hone hp hb z2 z3
    go_wp2
    refine wp_region_still_tail 9 (by kernel_rfl) (by kernel_rfl) ?_
    simp only [List.take_succ_cons,List.take_zero,List.drop_succ_cons,List.drop_zero]
    repeat still_step
    refine wpStill_nil ?_
    change wpList _ _ _ _ _ wy.drew
    have cz':wy.drew.cell? ⟨g,b,none⟩=some (.int .i64 z):=cz
    have fz':wy.drew.frozen? ⟨g,b,none⟩=false:=fz
    clear cz fz u0 u1
    generalize wy.drew=wd at *
    go_wp2
    go_roundw
    case rel=>exact ⟨k+1,p+1,b+1,HOK.out,by go_num,by go_num,by have:=HHB.out.1;omega,by have:=HHB.out.2;omega,H2.out⟩
    case measure=>simp [intOf];omega
   ·have hch:=(HON.out p hps).1 hone
    rw [hone] at hrs
    simp only [if_true] at hrs
    obtain ⟨z,hz,cz,fz,hst⟩:=HI.out.drew.set (a:=a) (by rw [HRL.out];omega)
    obtain ⟨z1,z2⟩:=HRB.out k hk z (List.mem_of_getElem? hz)
    have z3:z≤255:=by
                have:∀n:Fin 9,(2:Int)^n.val≤256:=by decide
                have:=this ⟨n,by omega⟩;simp only at this;omega
    obtain ⟨x1,-,-⟩:=or_at z1 z3 (show b<8 by omega)
    have p1:=(pow8i ⟨b,by omega⟩).1
    simp only at p1
    have hgz:(ρ k).getD a 0=z:=by rw [List.getD_eq_getElem?_getD,hz];rfl
    rw [hgz] at hrs
    have h2:=hst (orN z b)
    rw [←hrs] at h2
    have H2:=Lib.hid h2
    have HOK:Hid (k<d):=by show _<_;have:=HHB.out.2;have:=HDN.out;omega
    clear hst h2 hz hgz hrs hone hp hb z2 z3
    go_wp2
    refine wp_region_still_tail 9 (by kernel_rfl) (by kernel_rfl) ?_
    simp only [List.take_succ_cons,List.take_zero,List.drop_succ_cons,List.drop_zero]
    repeat still_step
    refine wpStill_nil ?_
    change wpList _ _ _ _ _ wy.drew
    have cz':wy.drew.cell? ⟨g,a,none⟩=some (.int .i64 z):=cz
    have fz':wy.drew.frozen? ⟨g,a,none⟩=false:=fz
    clear cz fz u0 u1
    generalize wy.drew=wd at *
    go_wp2
    go_roundw
    case rel=>exact ⟨k+1,p+1,b+1,HOK.out,by go_num,by go_num,by have:=HHB.out.1;omega,by have:=HHB.out.2;omega,H2.out⟩
    case measure=>simp [intOf];omega
theorem pgR0 {w W:World}{n:Nat} (hn:n≤1048576) (h:RsAt w W w.heap.size):
  PgAt w ((W.alloc (mkO n)).alloc (.cells #[.int .i64 (n:Int),.slice (some ⟨W.heap.size,0,none⟩) n n] 27)) (W.heap.size+1) W.heap.size n n (n:Int) (List.replicate n 0):=by
 have f:=fr_mkO hn W
 have b1:Below W.heap.size W (W.alloc (mkO n)):=(Below.refl _ W).alloc (Nat.le_refl _) _
 have z1:(W.alloc (mkO n)).heap.size=W.heap.size+1:=World.size_alloc _ _
 have hz2:=h.lt
 have h1:=h.below b1
 generalize W.alloc (mkO n)=W1 at *
 have b2:Below W1.heap.size W1 (W1.alloc (.cells #[.int .i64 (n:Int),.slice (some ⟨W.heap.size,0,none⟩) n n] 27)):=(Below.refl _ W1).alloc (Nat.le_refl _) _
 rw [←z1]
 exact ⟨h1.below b2,⟨by simp,by simp,by simp⟩,(f.below b2 (Nat.le_refl _)).wide (by omega) b2.size (Nat.le_refl _),by omega,by omega⟩
def mlP (w:World):Prop:=∃m:Int,w.cell? ⟨0,0,none⟩=some (.int .i64 m)
theorem implParseTour_any (s:ByteArray) (w:World) (hs:s.size≤1048576) (he:errP w) (ht:tabP w) (hm:mlP w):
  Calls Tryz.prog 63 #[.string s] w fun e w'=>TR w e w' (parF s.data.toList):=by
 obtain ⟨ml,hm⟩:=hm
 have H0:=Lib.hid (RsAt.start (w:=w) (W:=w) (Below.refl _ _))
 have HCU:Hid (∀W,Below w.heap.size w W→Calls Tryz.prog 145 #[.string s,.string ⟨#[58]⟩] W fun e w'=>e=.returned (.tuple #[.string ⟨(Lib.cut s.data.toList [58]).1.toArray⟩,.string ⟨(gamesP s.data.toList).toArray⟩,.bool (Lib.cut s.data.toList [58]).2.2])∧Below W.heap.size W w'):=fun W hW=>by
  have hm2:W.cell? ⟨0,0,none⟩=some (.int .i64 ml):=(hW.cell (p:=⟨0,0,none⟩) (block_lt_of_cell hm)).trans hm
  refine (Tryz.strings_Cut s ⟨#[58]⟩ ml W (by omega) hm2).mono ?_
  rintro e w' ⟨rfl,n,rfl⟩
  exact ⟨rfl,below_of_drewN _ _ _⟩
 have HPI:Hid (∀W,Below w.heap.size w W→Calls Tryz.prog 146 #[.string ⟨(Lib.cut s.data.toList [58]).1.toArray⟩] W fun e w'=>e=.returned (.tuple #[.int .i64 (sizeP s.data.toList),.bool (numOf (Lib.cut s.data.toList [58]).1).isSome])∧Below W.heap.size W w'):=fun W hW=>
  implParseInt_any ⟨(Lib.cut s.data.toList [58]).1.toArray⟩ W (by
   show (Lib.cut s.data.toList [58]).1.toArray.size≤1048576
   rw [List.size_toArray]
   unfold Lib.cut
   split
   ·refine Nat.le_trans (List.length_take_le' _ _) (by simpa using hs)
   ·simpa using hs) (he.below hW (Nat.le_refl _)) (ht.below hW (Nat.le_refl _))
 have HGL:Hid ((⟨(gamesP s.data.toList).toArray⟩:ByteArray).size=(gamesP s.data.toList).length∧(gamesP s.data.toList).length≤1048576):=by
  show _∧_
  refine ⟨by show (gamesP s.data.toList).toArray.size=_;simp,?_⟩
  unfold gamesP Lib.cut
  split
  ·show (List.drop _ _).length≤_
   rw [List.length_drop]
   have:s.data.toList.length=s.size:=by simp
   omega
  ·simp
 have HG1:Hid ((gamesP s.data.toList).length=(⟨(gamesP s.data.toList).toArray⟩:ByteArray).size):=HGL.out.1.symm
 have HG2:Hid ((⟨(gamesP s.data.toList).toArray⟩:ByteArray).size≤1048576):=by show _≤_;rw [HGL.out.1];exact HGL.out.2
 have HPF:Hid (parF s.data.toList=if inB (sizeP s.data.toList) 1 8 && decide (((gamesP s.data.toList).length:Int)=sizeP s.data.toList*(sizeP s.data.toList-1)/2) then if tourText (tourP s.data.toList)=s.data.toList then some (tourP s.data.toList) else none else none):=rfl
 have HTP:Hid (tourP s.data.toList=⟨sizeP s.data.toList,allP (gamesP s.data.toList) (sizeP s.data.toList).toNat (sizeP s.data.toList).toNat⟩):=rfl
 have HGD:Hid ((⟨(gamesP s.data.toList).toArray⟩:ByteArray).data.toList=gamesP s.data.toList):=by show _=_;simp
 have HT:=Lib.hid ht
 clear he hm ht hs HGL
 obtain ⟨b2,hb2⟩:∃b,(Lib.cut s.data.toList [58]).2.2=b:=⟨_,rfl⟩
 obtain ⟨b3,hb3⟩:∃b,(numOf (Lib.cut s.data.toList [58]).1).isSome=b:=⟨_,rfl⟩
 rw [hb2] at HCU
 rw [hb3] at HPI
 clear hb2 hb3
 generalize (⟨(Lib.cut s.data.toList [58]).1.toArray⟩:ByteArray)=nm at *
 generalize (⟨(gamesP s.data.toList).toArray⟩:ByteArray)=gm at *
 rw [HG1.out] at HPF
 rw [←HGD.out] at HTP
 generalize hsz:sizeP s.data.toList=sz at *
 clear hsz HGD HG1
 cases h1:inB sz 1 8
 case false=>
  have HN:Hid (parF s.data.toList=none):=by show _=_;rw [HPF.out,h1];rfl
  have HWI:Hid (∀W,Calls Tryz.prog 147 #[.int .i64 sz,.int .i64 1,.int .i64 8] W fun e w'=>e=.returned (.bool false)∧W=w'):=fun W=>by
   have h:=within_any sz 1 8 W
   rwa [h1] at h
  clear h1 HPF HTP
  go_enter Tryz.func63,Tryz.ntmps63
  go_wp2_with fail
  refine (HCU.out _ H0.out.be).mono ?_
  rintro e w1 ⟨rfl,hb1⟩
  have H1:=Lib.hid (H0.out.below hb1)
  clear hb1
  go_wp2_with fail
  refine (HPI.out _ H1.out.be).mono ?_
  rintro e w2 ⟨rfl,hb1⟩
  have H2:=Lib.hid (H1.out.below hb1)
  clear hb1
  obtain ⟨z0,z1,f0,f1,-⟩:=id H2.out
  go_wp2_with (go_at_call 147;refine (HWI.out _).mono ?_;rintro e w' ⟨rfl,rfl⟩)
  refine bodyPost_ret (v:=.tuple #[.agg #[.int .i64 0,.slice none 0 0],.bool false]) (by simp [results,Tryz.results63,go_sem,z0,z1]) rfl ?_
  rw [HN.out]
  exact ⟨H2.out.zero,rfl⟩
 obtain ⟨c1,c2⟩:=inB_t.1 h1
 obtain ⟨n,rfl⟩:∃n:Nat,sz=(n:Int):=⟨sz.toNat,by omega⟩
 have hn1:1≤n:=by omega
 have hn8:n≤8:=by omega
 have HWI:Hid (∀W,Calls Tryz.prog 147 #[.int .i64 (n:Int),.int .i64 1,.int .i64 8] W fun e w'=>e=.returned (.bool true)∧W=w'):=fun W=>by
  have h:=within_any (n:Int) 1 8 W
  rwa [h1] at h
 have HPF2:Hid (parF s.data.toList=if decide ((gm.size:Int)=(n:Int)*((n:Int)-1)/2)=true then if tourText ⟨(n:Int),allP gm.data.toList n n⟩=s.data.toList then some ⟨(n:Int),allP gm.data.toList n n⟩ else none else none):=by
  show _=_
  rw [HPF.out,HTP.out,h1,Bool.true_and,Int.toNat_natCast]
 have hq:∀n:Fin 9,((n.val*(n.val-1)/2:Nat):Int)=(n.val:Int)*((n.val:Int)-1)/2∧((n.val:Int)*((n.val:Int)-1)).tdiv 2=((n.val*(n.val-1)/2:Nat):Int)∧(1≤n.val→wrap64 ((n.val:Int)-1)=(n.val:Int)-1∧wrap64 ((n.val:Int)*((n.val:Int)-1))=(n.val:Int)*((n.val:Int)-1)∧wrap64 (((n.val*(n.val-1)/2:Nat):Int))=((n.val*(n.val-1)/2:Nat):Int)):=by decide +kernel
 obtain ⟨k1,k2,k3⟩:=hq ⟨n,by omega⟩
 simp only at k1 k2 k3
 obtain ⟨k3,k4,k5⟩:=k3 hn1
 rw [←k1] at HPF2
 clear hq h1 c1 c2 HPF HTP k1
 obtain ⟨q,hq⟩:∃q:Nat,n*(n-1)/2=q:=⟨_,rfl⟩
 rw [hq] at HPF2 k2 k5
 have HQQ:=Lib.hid hq
 clear hq
 by_cases h2:gm.size=q
 case neg=>
  have HN:Hid (parF s.data.toList=none):=by show _=_;rw [HPF2.out,decide_eq_false (by omega)];rfl
  have h2':((gm.size:Int) != (q:Int))=true:=bne_iff_ne.2 (by omega)
  clear HPF2
  go_enter Tryz.func63,Tryz.ntmps63
  go_wp2_with fail
  refine (HCU.out _ H0.out.be).mono ?_
  rintro e w1 ⟨rfl,hb1⟩
  have H1:=Lib.hid (H0.out.below hb1)
  clear hb1
  go_wp2_with fail
  refine (HPI.out _ H1.out.be).mono ?_
  rintro e w2 ⟨rfl,hb1⟩
  have H2:=Lib.hid (H1.out.below hb1)
  clear hb1
  obtain ⟨z0,z1,f0,f1,-⟩:=id H2.out
  go_wp2_with (go_at_call 147;refine (HWI.out _).mono ?_;rintro e w' ⟨rfl,rfl⟩)
  refine bodyPost_ret (v:=.tuple #[.agg #[.int .i64 0,.slice none 0 0],.bool false]) (by simp [results,Tryz.results63,go_sem,z0,z1]) rfl ?_
  rw [HN.out]
  exact ⟨H2.out.zero,rfl⟩
 subst h2
 have h2':((gm.size:Int) != (gm.size:Int))=false:=by simp
 have HPF3:Hid (parF s.data.toList=if tourText ⟨(n:Int),allP gm.data.toList n n⟩=s.data.toList then some ⟨(n:Int),allP gm.data.toList n n⟩ else none):=by show _=_;rw [HPF2.out,decide_eq_true rfl,if_pos rfl]
 clear HPF2
 have hmk:=run_mkI (n:=n) (by omega)
 have hn9:n≤1048576:=by omega
 rw [HPF3.out]
 clear HPF3
 go_enter Tryz.func63,Tryz.ntmps63
 go_wp2_with fail
 refine (HCU.out _ H0.out.be).mono ?_
 rintro e w1 ⟨rfl,hb1⟩
 have H1:=Lib.hid (H0.out.below hb1)
 clear hb1
 go_wp2_with fail
 refine (HPI.out _ H1.out.be).mono ?_
 rintro e w2 ⟨rfl,hb1⟩
 have H2:=Lib.hid (H1.out.below hb1)
 clear hb1
 go_wp2_with fail
 refine (HWI.out _).mono ?_
 rintro e w' ⟨rfl,rfl⟩
 go_upto_region 6 with fail
 rename_i hK1
 have HK1:=Lib.hid hK1
 clear hK1
 have F1:=Lib.hid (pgR0 (n:=n) hn9 H2.out)
 go_wp2
 refine HK1.out _ _ ?_
 exact pgTail w _ s gm _ _ n n hn1 hn8 HQQ.out.symm F1 HT _ _ _ _ _ _ _ _ _ _ _ _ _ _ _ _ _ _ _ _ _ _ _ _ _ _ _ _ _ _ _ _ _ _ _ _ _ _ _ _ _ _ _ _ _ _ _ _ _ _ _ _ _ _ _ _ _ _ _ _ _ _ _ _ _ _ _ _ _ _ _ _ _ _ _ _ _ _
end Go.Proofs.YtkapoldjcpfdgaaGreatDoor
