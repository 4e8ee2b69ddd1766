/- TurnTour: both packages (printed by print/ctu.py). -/
import Derived.StillTailTactics
import Derived.Deep.RegionLaw
import Derived.Test.YtkapoldjcpfdgaaGreatDoorMai
set_option maxHeartbeats 4000000
set_option maxRecDepth 100000
namespace Go.Proofs.YtkapoldjcpfdgaaGreatDoor
open Go.ChangeShapes Go.WideShapes Go.ChangeAt Go.RowKit
def TR (w:World) (e:Ending) (w':World) (o:Option TourV):Prop:=
 Below w.heap.size w w'∧match o with
  | none=>e=.returned (.tuple #[.agg #[.int .i64 0,.slice none 0 0],.bool false])
  | some y=>∃v',e=.returned (.tuple #[v',.bool true])∧OwT w' w.heap.size w'.heap.size v' y
def xorN (v:Int) (b:Nat):Int:=((v.toNat ^^^ 2^b:Nat):Int)
def flipW (xs:List Int) (a b:Nat):List Int:=(xs.set a (xorN (xs.getD a 0) b)).set b (xorN (xs.getD b 0) a)
theorem flipW_length (xs:List Int) (a b:Nat):(flipW xs a b).length=xs.length:=by simp [flipW]
theorem xor_small:∀v:Fin 256,∀b:Fin 8,bits BinOp.xor IntKind.i64 (v.val:Int) (2^b.val)=((v.val ^^^ 2^b.val:Nat):Int):=by decide +kernel
theorem xor_at {v:Int}{b:Nat} (h1:0≤v) (h2:v≤255) (hb:b<8):bits BinOp.xor IntKind.i64 v (2^b)=xorN v b:=by
 have h:=xor_small ⟨v.toNat,by omega⟩ ⟨b,hb⟩
 simp only [Int.toNat_of_nonneg h1] at h
 exact h
theorem pow8i:∀b:Fin 8,IntKind.i64.wrap ((2:Int)^b.val)=2^b.val∧wrap64 ((2:Int)^b.val)=2^b.val:=by decide +kernel
theorem xorN_bd {v:Int}{b:Nat} (h1:0≤v) (h2:v≤255) (hb:b<8):0≤xorN v b∧xorN v b≤255:=by
 have h:∀v:Fin 256,∀b:Fin 8,v.val ^^^ 2^b.val≤255:=by decide +kernel
 have:=h ⟨v.toNat,by omega⟩ ⟨b,hb⟩
 unfold xorN
 simp only at this
 omega
def flipF (x:TourV) (a b:Int):Option TourV:=if tourB x && (inB a 0 (x.size-1) && (inB b 0 (x.size-1) && !(a==b))) then some ⟨x.size,flipW x.wins a.toNat b.toNat⟩ else none
structure FpAt (w W:World) (g7 g c n:Nat) (sz:Int) (xs:List Int):Prop where
 bx:Bx W g7 (.int .i64 sz) (.slice (some ⟨g,0,none⟩) n c)
 fr:Fr W (w.heap.size+2) W.heap.size (.slice (some ⟨g,0,none⟩) n c) xs
 lo:w.heap.size+2≤g7
 ne:g7≠g
 z0:∃z,W.cell? ⟨w.heap.size+1,0,none⟩=some z
 z1:∃z,W.cell? ⟨w.heap.size+1,1,none⟩=some z
 f0:W.frozen? ⟨w.heap.size+1,0,none⟩=false
 f1:W.frozen? ⟨w.heap.size+1,1,none⟩=false
 z2:w.heap.size+1<W.heap.size
 be:Below w.heap.size w W
theorem FpAt.drew {w W:World}{g7 g c n:Nat}{sz:Int}{xs:List Int} (h:FpAt w W g7 g c n sz xs):FpAt w W.drew g7 g c n sz xs:=
 ⟨h.bx,h.fr,h.lo,h.ne,h.z0,h.z1,h.f0,h.f1,h.z2,below_drewL h.be⟩
theorem FpAt.set {w W:World}{g7 g c n:Nat}{sz:Int}{xs:List Int} (h:FpAt w W g7 g c n sz xs) {a:Nat} (ha:a<xs.length):
  ∃z,xs[a]? = some z∧W.cell? ⟨g,a,none⟩=some (.int .i64 z)∧W.frozen? ⟨g,a,none⟩=false∧∀y,FpAt w (W.setCell ⟨g,a,none⟩ (.int .i64 y)) g7 g c n sz (xs.set a y):=by
 obtain ⟨g',z,e,h1,h2,hz,cz,fz,hset⟩:=h.fr.at_ (k:=a) ha
 injection e with e;injection e with e;subst e
 refine ⟨z,hz,cz,fz,fun y=>?_⟩
 obtain ⟨k1,k2⟩:=hset y
 have hs:=k2.size
 refine ⟨?_,k1.wide (Nat.le_refl _) hs (Nat.le_refl _),h.lo,h.ne,?_,?_,?_,?_,Nat.lt_of_lt_of_le h.z2 hs,h.be.trans (k2.below (by omega) h.be.size)⟩
 ·exact ⟨(World.cell?_setCell_other _ _ _ _ (by intro e;simp only [Addr.mk.injEq] at e;exact h.ne e.1.symm)).trans h.bx.1,(World.cell?_setCell_other _ _ _ _ (by intro e;simp only [Addr.mk.injEq] at e;exact h.ne e.1.symm)).trans h.bx.2.1,Nat.lt_of_lt_of_le h.bx.2.2 hs⟩
 ·obtain ⟨z,hz⟩:=h.z0;exact ⟨z,(k2.cell (p:=⟨w.heap.size+1,0,none⟩) h.z2 (.inl (by show w.heap.size+1<_;omega))).trans hz⟩
 ·obtain ⟨z,hz⟩:=h.z1;exact ⟨z,(k2.cell (p:=⟨w.heap.size+1,1,none⟩) h.z2 (.inl (by show w.heap.size+1<_;omega))).trans hz⟩
 ·exact (k2.frozen (p:=⟨w.heap.size+1,0,none⟩) h.z2 (.inl (by show w.heap.size+1<_;omega))).trans h.f0
 ·exact (k2.frozen (p:=⟨w.heap.size+1,1,none⟩) h.z2 (.inl (by show w.heap.size+1<_;omega))).trans h.f1
theorem FpAt.done {w W:World}{g7 g c n:Nat}{sz:Int}{xs:List Int} (h:FpAt w W g7 g c n sz xs) (_hl:xs.length=n):
  OwT ((W.setCell ⟨w.heap.size+1,0,none⟩ (.int .i64 sz)).setCell ⟨w.heap.size+1,1,none⟩ (.slice (some ⟨g,0,none⟩) n c)) w.heap.size ((W.setCell ⟨w.heap.size+1,0,none⟩ (.int .i64 sz)).setCell ⟨w.heap.size+1,1,none⟩ (.slice (some ⟨g,0,none⟩) n c)).heap.size (.agg #[.int .i64 sz,.slice (some ⟨g,0,none⟩) n c]) ⟨sz,xs⟩ ∧
  Below w.heap.size w ((W.setCell ⟨w.heap.size+1,0,none⟩ (.int .i64 sz)).setCell ⟨w.heap.size+1,1,none⟩ (.slice (some ⟨g,0,none⟩) n c)):=by
 have KP:Keep (w.heap.size+1) (w.heap.size+2) W ((W.setCell ⟨w.heap.size+1,0,none⟩ (.int .i64 sz)).setCell ⟨w.heap.size+1,1,none⟩ (.slice (some ⟨g,0,none⟩) n c)):=
  ((Keep.refl _ _ _).setCell (p:=⟨w.heap.size+1,0,none⟩) (Nat.le_refl _) (Nat.lt_succ_self _) _).setCell (p:=⟨w.heap.size+1,1,none⟩) (Nat.le_refl _) (Nat.lt_succ_self _) _
 exact ⟨⟨_,rfl,((h.fr.keep KP (.inr (Nat.le_refl _))).wide (by omega) KP.size (Nat.le_refl _))⟩,h.be.trans (KP.below (by omega) h.be.size)⟩
noncomputable def flTailC:Code:=((Tryz.f152.body.map (codeAtK 2)).getD []).getD 0 .skip
theorem flTail (w wo:World) (a b g7 g c n:Nat) (sz:Int) (xs:List Int) (hn:n≤8) (HL:Hid (xs.length=n)) (HR:Hid (∀y∈xs,0≤y∧y≤255)) (ha:a<n) (hb:b<n) (hne:a≠b) (HF:Hid (FpAt w wo g7 g c n sz xs)) (l0 l3 l4 l5 l8 l9 l10 l11 l12 l13 l14 l15 l16 l17 l18 l19 l20 l21 l22 l23 l24 l25 l26 l27 l28 l29 l30 l31 l32:Value):
  Code.wp Tryz.prog flTailC (bodyPost Tryz.prog Tryz.f152 fun e w'=>∃v',e=.returned v'∧OwT w' w.heap.size w'.heap.size v' ⟨sz,flipW xs a b⟩∧Below w.heap.size w w') ⟨(List.toArray (l0 :: (.int .i64 (a:Int):Value) :: (.int .i64 (b:Int):Value) :: l3 :: l4 :: l5 :: (.pointer (some ⟨w.heap.size+1,0,none⟩):Value) :: (.pointer (some ⟨g7,0,none⟩):Value) :: l8 :: l9 :: l10 :: l11 :: l12 :: l13 :: l14 :: l15 :: l16 :: l17 :: l18 :: l19 :: l20 :: l21 :: l22 :: l23 :: l24 :: l25 :: l26 :: l27 :: l28 :: l29 :: l30 :: l31 :: l32 :: [])),[]⟩ wo:=by
 conv=>arg 2;whnf
 obtain ⟨z,hz,cz,fz,hst⟩:=HF.out.drew.set (a:=a) (by rw [HL.out];exact ha)
 obtain ⟨z1,z2⟩:=HR.out z (List.mem_of_getElem? hz)
 have x1:=xor_at (b:=b) z1 z2 (by omega)
 have p1:=(pow8i ⟨b,by omega⟩).1
 have p2:=(pow8i ⟨a,by omega⟩).1
 simp only at p1 p2
 have f1:(0:Int)≤(a:Int)∧(a:Int)<(n:Int):=by omega
 have f2:(0:Int)≤(b:Int)∧(b:Int)<(n:Int):=by omega
 have hx1:xs.getD a 0=z:=by rw [List.getD_eq_getElem?_getD,hz];rfl
 have H1:=Lib.hid (hst (xorN z b))
 obtain ⟨w1,hw1⟩:∃w1,w1=wo.drew.setCell ⟨g,a,none⟩ (.int .i64 (xorN z b)):=⟨_,rfl⟩
 rw [←hw1] at H1
 obtain ⟨y,hy,cy,fy,hst2⟩:=H1.out.drew.set (a:=b) (by rw [List.length_set,HL.out];exact hb)
 have hy2:xs[b]? = some y:=by rw [List.getElem?_set_ne hne] at hy;exact hy
 obtain ⟨y1,y2⟩:=HR.out y (List.mem_of_getElem? hy2)
 have x2:=xor_at (b:=a) y1 y2 (by omega)
 have hx2:xs.getD b 0=y:=by rw [List.getD_eq_getElem?_getD,hy2];rfl
 have H2:=Lib.hid (hst2 (xorN y a))
 have HFL:Hid ((xs.set a (xorN z b)).set b (xorN y a)=flipW xs a b):=by show _=_;unfold flipW;rw [hx1,hx2]
 rw [HFL.out] at H2
 obtain ⟨w2,hw2⟩:∃w2,w2=w1.drew.setCell ⟨g,b,none⟩ (.int .i64 (xorN y a)):=⟨_,rfl⟩
 rw [←hw2] at H2
 have HB0:=HF.out.bx
 obtain ⟨q0,q1,-⟩:=id HB0
 have HW1:=Lib.hid hw1
 have HW2:=Lib.hid hw2
 have HCY:=Lib.hid (And.intro cy fy)
 have HX2:=Lib.hid x2
 clear hst hst2 hz hy hy2 hx1 hx2 hw1 hw2 cy fy x2 HB0
 go_wp2
 refine wp_region_still_tail 9 (by kernel_rfl) (by kernel_rfl) ?_
 simp only [List.take_succ_cons,List.take_zero,List.drop_succ_cons,List.drop_zero]
 repeat still_step
 refine wpStill_nil ?_
 change wpList _ _ _ _ _ wo.drew
 have cz':wo.drew.cell? ⟨g,a,none⟩=some (.int .i64 z):=cz
 have fz':wo.drew.frozen? ⟨g,a,none⟩=false:=fz
 clear cz fz q0 q1
 generalize wo.drew=wd at *
 go_wp2
 rw [←HW1.out]
 obtain ⟨q0,q1,-⟩:=id H1.out.bx
 obtain ⟨cy,fy⟩:=id HCY.out
 have x2:=HX2.out
 clear cz' fz' x1 p1
 refine wp_region_still_tail 9 (by kernel_rfl) (by kernel_rfl) ?_
 simp only [List.take_succ_cons,List.take_zero,List.drop_succ_cons,List.drop_zero]
 repeat still_step
 refine wpStill_nil ?_
 change wpList _ _ _ _ _ w1.drew
 have cy':w1.drew.cell? ⟨g,b,none⟩=some (.int .i64 y):=cy
 have fy':w1.drew.frozen? ⟨g,b,none⟩=false:=fy
 clear cy fy q0 q1
 generalize w1.drew=wd2 at *
 rw [HW2.out] at H2
 obtain ⟨q0,q1,-⟩:=id H2.out.bx
 obtain ⟨s0,z0⟩:=H2.out.z0
 obtain ⟨s1,z1⟩:=H2.out.z1
 have f0:=H2.out.f0
 have f1:=H2.out.f1
 have HD:=Lib.hid (H2.out.done (by rw [flipW_length];exact HL.out))
 go_wp2
 refine bodyPost_ret (v:=.agg #[.int .i64 sz,.slice (some ⟨g,0,none⟩) n c]) (by simp [results,Tryz.results152,go_sem,z0,z1]) rfl ⟨_,rfl,HD.out⟩
theorem FpAt.mk2 {w W:World}{g7 g c n:Nat}{sz:Int}{xs:List Int} (b0:W.cell? ⟨g7,0,none⟩=some (.int .i64 sz)) (b1:W.cell? ⟨g7,1,none⟩=some (.slice (some ⟨g,0,none⟩) n c)) (hlt:g7<W.heap.size) (hf:Fr W (w.heap.size+2) W.heap.size (.slice (some ⟨g,0,none⟩) n c) xs) (lo:w.heap.size+2≤g7) (ne:g7≠g)
  {y0 y1:Value} (hz:RzAt w W y0 y1):FpAt w W g7 g c n sz xs:=⟨⟨b0,b1,hlt⟩,hf,lo,ne,⟨_,hz.z0⟩,⟨_,hz.z1⟩,hz.f0,hz.f1,hz.z2,hz.be⟩
theorem boxFacts {w1 w2:World}{y0 y1:Value} (hb:Below (w1.alloc (.cells #[y0,y1] 27)).drew.heap.size (w1.alloc (.cells #[y0,y1] 27)).drew w2):
  w2.cell? ⟨w1.heap.size,0,none⟩=some y0∧w2.cell? ⟨w1.heap.size,1,none⟩=some y1∧w2.frozen? ⟨w1.heap.size,0,none⟩=false∧w2.frozen? ⟨w1.heap.size,1,none⟩=false∧w1.heap.size<w2.heap.size:=by
 have hz:(w1.alloc (.cells #[y0,y1] 27)).drew.heap.size=w1.heap.size+1:=by simp [World.drew]
 have c0:(w1.alloc (.cells #[y0,y1] 27)).drew.cell? ⟨w1.heap.size,0,none⟩=some y0:=by simp
 have c1:(w1.alloc (.cells #[y0,y1] 27)).drew.cell? ⟨w1.heap.size,1,none⟩=some y1:=by simp
 have g0:(w1.alloc (.cells #[y0,y1] 27)).drew.frozen? ⟨w1.heap.size,0,none⟩=false:=by rw [World.frozen?_drew,frozen?_alloc_cells];simp [World.frozen?]
 have g1:(w1.alloc (.cells #[y0,y1] 27)).drew.frozen? ⟨w1.heap.size,1,none⟩=false:=by rw [World.frozen?_drew,frozen?_alloc_cells];simp [World.frozen?]
 have hs:=hb.size
 exact ⟨(hb.cell (p:=⟨w1.heap.size,0,none⟩) (by rw [hz];exact Nat.lt_succ_self _)).trans c0,(hb.cell (p:=⟨w1.heap.size,1,none⟩) (by rw [hz];exact Nat.lt_succ_self _)).trans c1,(hb.frozen (p:=⟨w1.heap.size,0,none⟩) (by rw [hz];exact Nat.lt_succ_self _)).trans g0,(hb.frozen (p:=⟨w1.heap.size,1,none⟩) (by rw [hz];exact Nat.lt_succ_self _)).trans g1,by omega⟩
theorem boxFill {w w2:World}{b7:Nat}{y0 y1:Value}{x0 x1:Value} (h:RzAt w w2 y0 y1) (hlo:w.heap.size+2≤b7) (_hlt:b7<w2.heap.size):
  RzAt w ((w2.setCell ⟨b7,0,none⟩ x0).setCell ⟨b7,1,none⟩ x1) y0 y1∧Keep b7 (b7+1) w2 ((w2.setCell ⟨b7,0,none⟩ x0).setCell ⟨b7,1,none⟩ x1):=by
 have KP:Keep b7 (b7+1) w2 ((w2.setCell ⟨b7,0,none⟩ x0).setCell ⟨b7,1,none⟩ x1):=((Keep.refl _ _ _).setCell (p:=⟨b7,0,none⟩) (Nat.le_refl _) (Nat.lt_succ_self _) _).setCell (p:=⟨b7,1,none⟩) (Nat.le_refl _) (Nat.lt_succ_self _) _
 refine ⟨⟨(KP.cell (p:=⟨w.heap.size,0,none⟩) h.q2 (.inl (by show w.heap.size<_;omega))).trans h.q0,(KP.cell (p:=⟨w.heap.size,1,none⟩) h.q2 (.inl (by show w.heap.size<_;omega))).trans h.q1,(KP.cell (p:=⟨w.heap.size+1,0,none⟩) h.z2 (.inl (by show w.heap.size+1<_;omega))).trans h.z0,(KP.cell (p:=⟨w.heap.size+1,1,none⟩) h.z2 (.inl (by show w.heap.size+1<_;omega))).trans h.z1,
  (KP.frozen (p:=⟨w.heap.size+1,0,none⟩) h.z2 (.inl (by show w.heap.size+1<_;omega))).trans h.f0,(KP.frozen (p:=⟨w.heap.size+1,1,none⟩) h.z2 (.inl (by show w.heap.size+1<_;omega))).trans h.f1,Nat.lt_of_lt_of_le h.q2 KP.size,Nat.lt_of_lt_of_le h.z2 KP.size,h.be.trans (KP.below (by omega) h.be.size)⟩,KP⟩
theorem flipped_any (v:Value) (x:TourV) (a b:Nat) (w:World) (hs:InT w v x) (hn:x.wins.length≤8) (hr:∀y∈x.wins,0≤y∧y≤255) (ha:a<x.wins.length) (hb:b<x.wins.length) (hne:a≠b):
  Calls Tryz.prog 152 #[v,.int .i64 (a:Int),.int .i64 (b:Int)] w fun e w'=>∃v',e=.returned v'∧OwT w' w.heap.size w'.heap.size v' ⟨x.size,flipW x.wins a b⟩∧Below w.heap.size w w':=by
 obtain ⟨u,rfl,B,d,rfl,hd,hm,hts⟩:=hs
 have HS:=Lib.hid hts
 have HR:=Lib.hid hr
 generalize x.size=sz at *
 generalize hxs:x.wins=xs at *
 generalize hl:xs.length=n at *
 have HL:=Lib.hid hl
 have H0:Hid (RzAt w ((w.alloc (.cells #[.int .i64 sz,.slice B n d] 27)).alloc (.cells #[.int .i64 0,.slice none 0 0] 27)) (.int .i64 sz) (.slice B n d)):=rzStart
 clear hts hr hl hxs
 go_enter Tryz.func152,Tryz.ntmps152
 go_wp2
 rename_i hK1
 have HK1:=Lib.hid hK1
 clear hK1
 generalize ((w.alloc (.cells #[.int .i64 sz,.slice B n d] 27)).alloc (.cells #[.int .i64 0,.slice none 0 0] 27))=w1 at *
 have q0:=H0.out.q0
 have q1:=H0.out.q1
 have HCL:Hid (∀W,Below w1.heap.size w1 W→Calls Tryz.prog 59 #[.slice B n d] W fun e w'=>∃g3 c3,e=.returned (.slice (some ⟨g3,0,none⟩) n c3)∧n≤c3∧c3≤9223372036854775807∧Fr w' W.heap.size w'.heap.size (.slice (some ⟨g3,0,none⟩) n c3) xs∧Below W.heap.size W w'):=fun W hW=>by
  have h:=cloneI_any B d xs W ((SlI.below HS.out H0.out.be).below hW) (by rw [HL.out];omega)
  rw [HL.out] at h
  refine h.mono ?_
  rintro e w' ⟨A',c',rfl,hf,hb⟩
  obtain ⟨g3,_,rfl,-⟩:=hf.at_ (k:=0) (by rw [HL.out];omega)
  obtain ⟨A2,c2,e,h1,h2⟩:=hf.form
  injection e with e1 e2 e3
  subst e3
  exact ⟨g3,c',rfl,by omega,h2,hf,hb⟩
 have HRZ:Hid (∀W,Below w1.heap.size w1 W→RzAt w W (.int .i64 sz) (.slice B n d)):=fun W hW=>H0.out.below hW
 have B1:Hid (Below w1.heap.size w1 w1.drew):=below_drewL (Below.refl _ _)
 have B2:Hid (Below w1.heap.size w1 (w1.alloc (.cells #[.int .i64 0,.slice none 0 0] 27)).drew):=below_drewL ((Below.refl _ _).alloc (Nat.le_refl _) _)
 go_region_held3 (fun W=>W.cell? ⟨w.heap.size,0,none⟩=some (.int .i64 sz)∧W.cell? ⟨w.heap.size,1,none⟩=some (.slice B n d)) (first|exact ⟨q0,q1⟩|exact ⟨H3.out.1.q0,H3.out.1.q1⟩|exact ⟨(World.cell?_alloc_lt w2 _ ⟨w.heap.size,0,none⟩ H3.out.1.q2).trans H3.out.1.q0,(World.cell?_alloc_lt w2 _ ⟨w.heap.size,1,none⟩ H3.out.1.q2).trans H3.out.1.q1⟩|exact ⟨(World.cell?_alloc_lt w1 _ ⟨w.heap.size,0,none⟩ H0.out.q2).trans q0,(World.cell?_alloc_lt w1 _ ⟨w.heap.size,1,none⟩ H0.out.q2).trans q1⟩|exact HST2.out|go_keep) (first
  | (go_at_call 59;(with_reducible refine (HCL.out w1.drew B1.out).mono ?_);rintro e w2 ⟨g3,c3,rfl,hc3,hcm3,hf3,hb3⟩;have H3:Hid (RzAt w w2 (.int .i64 sz) (.slice B n d)∧Fr w2 w1.heap.size w2.heap.size (.slice (some ⟨g3,0,none⟩) n c3) xs∧Below w1.heap.size w1 w2):=(show _∧_ from ⟨HRZ.out _ (B1.out.trans hb3),hf3,B1.out.trans hb3⟩);clear hf3 hb3;have tokA:True:=trivial)
  | (go_at_call 59;(with_reducible refine (HCL.out (w1.alloc (.cells #[.int .i64 0,.slice none 0 0] 27)).drew B2.out).mono ?_);rintro e w2 ⟨g3,c3,rfl,hc3,hcm3,hf3,hb3⟩;have H3:Hid (RzAt w w2 (.int .i64 sz) (.slice B n d)∧Fr w2 (w1.heap.size+1) w2.heap.size (.slice (some ⟨g3,0,none⟩) n c3) xs∧Below w1.heap.size w1 w2):=(show _∧_ from ⟨HRZ.out _ (B2.out.trans (hb3.mono B2.out.size)),hf3.wide (by simp [World.drew]) (Nat.le_refl _) (Nat.le_refl _),B2.out.trans (hb3.mono B2.out.size)⟩);obtain ⟨y0,y1,g0,g1,hlt7⟩:=boxFacts hb3;have H4:=Lib.hid (boxFill (x0:=.int .i64 sz) (x1:=.slice (some ⟨g3,0,none⟩) n c3) H3.out.1 H0.out.z2 hlt7);have HST2:Hid (_∧_):=⟨H4.out.1.q0,H4.out.1.q1⟩;clear hf3 hb3;have tokB:True:=trivial))
 case _=>
  have hba:=(Below.refl w2.heap.size w2).alloc (Nat.le_refl _) (.cells #[.int .i64 sz,.slice (some ⟨g3,0,none⟩) n c3] 27)
  have hz2:=H0.out.z2
  have hg3:=H3.out.2.1.2.1 g3 rfl
  have HFP:Hid (FpAt w (w2.alloc (.cells #[.int .i64 sz,.slice (some ⟨g3,0,none⟩) n c3] 27)) w2.heap.size g3 c3 n sz xs):=
   FpAt.mk2 (by simp) (by simp) (by simp) ((H3.out.2.1.below hba (Nat.le_refl _)).wide (by omega) hba.size (Nat.le_refl _)) (by have:=H3.out.2.2.size;omega) (by omega) (H3.out.1.below hba)
  go_wp2
  refine HK1.out _ _ ?_
  exact flTail w _ a b _ g3 c3 n sz xs hn HL HR ha hb hne HFP _ _ _ _ _ _ _ _ _ _ _ _ _ _ _ _ _ _ _ _ _ _ _ _ _ _ _ _ _
 case _=>
  have hz2:=H0.out.z2
  obtain ⟨h4,kp⟩:=id H4.out
  have hg3:=(H3.out.2.1.1.lt g3 rfl).1
  have HFP:Hid (FpAt w ((w2.setCell ⟨w1.heap.size,0,none⟩ (.int .i64 sz)).setCell ⟨w1.heap.size,1,none⟩ (.slice (some ⟨g3,0,none⟩) n c3)) w1.heap.size g3 c3 n sz xs):=
   FpAt.mk2 ((World.cell?_setCell_other _ _ _ _ (by intro e;simp at e)).trans (World.cell?_setCell_same _ _ _ y0)) (World.cell?_setCell_same _ _ _ ((World.cell?_setCell_other _ _ _ _ (by intro e;simp at e)).trans y1)) (Nat.lt_of_lt_of_le hlt7 kp.size) ((H3.out.2.1.keep kp (.inr (Nat.le_refl _))).wide (by omega) kp.size (Nat.le_refl _)) (by omega) (by omega) h4
  go_wp2
  refine HK1.out _ _ ?_
  exact flTail w _ a b _ g3 c3 n sz xs hn HL HR ha hb hne HFP _ _ _ _ _ _ _ _ _ _ _ _ _ _ _ _ _ _ _ _ _ _ _ _ _ _ _ _ _
theorem flipF_no {x:TourV}{a b:Int} (h:tourB x=false∨inB a 0 (x.size-1)=false∨inB b 0 (x.size-1)=false∨(a==b)=true):flipF x a b=none:=by
 unfold flipF
 rw [if_neg]
 rcases h with h|h|h|h<;>simp [h]
theorem flipF_yes {x:TourV}{a b:Int} (h1:tourB x=true) (h2:inB a 0 (x.size-1)=true) (h3:inB b 0 (x.size-1)=true) (h4:(a==b)=false):flipF x a b=some ⟨x.size,flipW x.wins a.toNat b.toNat⟩:=by
 unfold flipF
 rw [if_pos (by simp [h1,h2,h3,h4])]
theorem RzAt.store {w W:World}{y0 y1 v:Value}{z:TourV} (h:RzAt w W y0 y1) {W0:World} (hz:w.heap.size+2≤W0.heap.size) (ho:OwT W W0.heap.size W.heap.size v z):
  ∃A c,v=.agg #[.int .i64 z.size,.slice A z.wins.length c]∧OwT ((W.setCell ⟨w.heap.size+1,0,none⟩ (.int .i64 z.size)).setCell ⟨w.heap.size+1,1,none⟩ (.slice A z.wins.length c)) w.heap.size ((W.setCell ⟨w.heap.size+1,0,none⟩ (.int .i64 z.size)).setCell ⟨w.heap.size+1,1,none⟩ (.slice A z.wins.length c)).heap.size v z ∧
   Below w.heap.size w ((W.setCell ⟨w.heap.size+1,0,none⟩ (.int .i64 z.size)).setCell ⟨w.heap.size+1,1,none⟩ (.slice A z.wins.length c)):=by
 obtain ⟨A,c,rfl⟩:=ho.form
 have KP:Keep (w.heap.size+1) (w.heap.size+2) W ((W.setCell ⟨w.heap.size+1,0,none⟩ (.int .i64 z.size)).setCell ⟨w.heap.size+1,1,none⟩ (.slice A z.wins.length c)):=
  ((Keep.refl _ _ _).setCell (p:=⟨w.heap.size+1,0,none⟩) (Nat.le_refl _) (Nat.lt_succ_self _) _).setCell (p:=⟨w.heap.size+1,1,none⟩) (Nat.le_refl _) (Nat.lt_succ_self _) _
 obtain ⟨u,e,hf⟩:=ho
 refine ⟨A,c,rfl,⟨u,e,(hf.keep KP (.inr hz)).wide (by omega) KP.size (Nat.le_refl _)⟩,h.be.trans (KP.below (by omega) h.be.size)⟩
theorem RzAt.zero {w W:World}{y0 y1:Value} (h:RzAt w W y0 y1):Below w.heap.size w ((W.setCell ⟨w.heap.size+1,0,none⟩ (.int .i64 0)).setCell ⟨w.heap.size+1,1,none⟩ (.slice none 0 0)):=by
 have KP:Keep (w.heap.size+1) (w.heap.size+2) W ((W.setCell ⟨w.heap.size+1,0,none⟩ (.int .i64 0)).setCell ⟨w.heap.size+1,1,none⟩ (.slice none 0 0)):=
  ((Keep.refl _ _ _).setCell (p:=⟨w.heap.size+1,0,none⟩) (Nat.le_refl _) (Nat.lt_succ_self _) _).setCell (p:=⟨w.heap.size+1,1,none⟩) (Nat.le_refl _) (Nat.lt_succ_self _) _
 exact h.be.trans (KP.below (by omega) h.be.size)
theorem hasT_any (v:Value) (x:TourV) (a:Int) (w:World) (hs:InT w v x) (hz:0≤x.size∧x.size≤8):
  Calls Tryz.prog 151 #[v,.int .i64 a] w fun e w'=>e=.returned (.bool (inB a 0 (x.size-1)))∧Below w.heap.size w w':=by
 obtain ⟨u,rfl,B,d,rfl,hd,hm,hts⟩:=hs
 generalize x.size=sz at *
 obtain ⟨z1,z2⟩:=hz
 go_enter Tryz.func151,Tryz.ntmps151
 go_wp2_with (go_at_call 147;refine (within_any _ _ _ _).mono ?_;rintro e w' ⟨rfl,rfl⟩)
 go_ret
 exact ⟨rfl,(Below.refl _ w).alloc (Nat.le_refl _) _⟩
theorem implFlipGame_any (v:Value) (x:TourV) (a b:Int) (w:World) (hs:InT w v x):
  Calls Tryz.prog 67 #[v,.int .i64 a,.int .i64 b] w fun e w'=>TR w e w' (flipF x a b):=by
 have HIT:=Lib.hid hs
 obtain ⟨u,rfl,B,d,rfl,hd,hm,hts⟩:=hs
 have H0:Hid (RzAt w ((w.alloc (.cells #[.int .i64 x.size,.slice B x.wins.length d] 27)).alloc (.cells #[.int .i64 0,.slice none 0 0] 27)) (.int .i64 x.size) (.slice B x.wins.length d)):=rzStart
 have HTO:Hid (∀W,Below w.heap.size w W→Calls Tryz.prog 148 #[.agg #[.int .i64 x.size,.slice B x.wins.length d]] W fun e w'=>e=.returned (.bool (tourB x))∧Below W.heap.size W w'):=fun W hW=>implTourOk_any _ x W (HIT.out.below hW)
 have HHA:Hid (∀W (q:Int),Below w.heap.size w W→tourB x=true→Calls Tryz.prog 151 #[.agg #[.int .i64 x.size,.slice B x.wins.length d],.int .i64 q] W fun e w'=>e=.returned (.bool (inB q 0 (x.size-1)))∧Below W.heap.size W w'):=fun W q hW ht=>by
  obtain ⟨t1,t2,_⟩:=tourB_t ht
  exact hasT_any _ x q W (HIT.out.below hW) (by omega)
 have HFL:Hid (∀W (p q:Nat),Below w.heap.size w W→tourB x=true→p<x.wins.length→q<x.wins.length→p≠q→Calls Tryz.prog 152 #[.agg #[.int .i64 x.size,.slice B x.wins.length d],.int .i64 (p:Int),.int .i64 (q:Int)] W fun e w'=>∃v',e=.returned v'∧OwT w' W.heap.size w'.heap.size v' ⟨x.size,flipW x.wins p q⟩∧Below W.heap.size W w'):=fun W p q hW ht h1 h2 h3=>by
  obtain ⟨t1,t2,t3,t4,_⟩:=tourB_t ht
  exact flipped_any _ x p q W (HIT.out.below hW) (by omega) (fun y hy=>by
   obtain ⟨j,hj⟩:=List.getElem?_of_mem hy
   exact winsB_at (by omega) t4 hj) h1 h2 h3
 have HNO:Hid (tourB x=false∨inB a 0 (x.size-1)=false∨inB b 0 (x.size-1)=false∨(a==b)=true→flipF x a b=none):=flipF_no
 clear hts
 cases h1:tourB x
 case false=>
  have HN:=Lib.hid (HNO.out (.inl h1))
  rw [h1] at HTO
  clear h1 HHA HFL
  go_enter Tryz.func67,Tryz.ntmps67
  go_wp2_with fail
  refine (HTO.out _ H0.out.be).mono ?_
  rintro e w1 ⟨rfl,hb1⟩
  have H1:=Lib.hid (H0.out.below hb1)
  clear hb1
  obtain ⟨q0,q1,z0,z1,f0,f1,q2,z2,-⟩:=id H1.out
  go_wp2
  refine bodyPost_ret (v:=.tuple #[.agg #[.int .i64 0,.slice none 0 0],.bool false]) (by simp [results,Tryz.results67,go_sem,z0,z1]) rfl ?_
  rw [HN.out]
  exact ⟨H1.out.zero,rfl⟩
 have HT1:=Lib.hid h1
 have HHB:Hid (∀W (q:Int),Below w.heap.size w W→Calls Tryz.prog 151 #[.agg #[.int .i64 x.size,.slice B x.wins.length d],.int .i64 q] W fun e w'=>e=.returned (.bool (inB q 0 (x.size-1)))∧Below W.heap.size W w'):=fun W q hW=>HHA.out W q hW HT1.out
 rw [h1] at HTO
 clear h1
 cases h2:inB a 0 (x.size-1)
 case false=>
  have HN:=Lib.hid (HNO.out (.inr (.inl h2)))
  have HA:=Lib.hid (fun W hW=>HHB.out W a hW)
  rw [h2] at HA
  clear h2 HHA HHB HFL
  go_enter Tryz.func67,Tryz.ntmps67
  go_wp2_with fail
  refine (HTO.out _ H0.out.be).mono ?_
  rintro e w1 ⟨rfl,hb1⟩
  have H1:=Lib.hid (H0.out.below hb1)
  clear hb1
  obtain ⟨q0,q1,z0,z1,f0,f1,q2,z2,-⟩:=id H1.out
  go_wp2_with fail
  refine (HA.out _ H1.out.be).mono ?_
  rintro e w2 ⟨rfl,hb1⟩
  have H2:=Lib.hid (H1.out.below hb1)
  clear hb1 q0 q1 z0 z1 f0 f1 q2 z2
  obtain ⟨q0,q1,z0,z1,f0,f1,q2,z2,-⟩:=id H2.out
  go_wp2
  refine bodyPost_ret (v:=.tuple #[.agg #[.int .i64 0,.slice none 0 0],.bool false]) (by simp [results,Tryz.results67,go_sem,z0,z1]) rfl ?_
  rw [HN.out]
  exact ⟨H2.out.zero,rfl⟩
 have HA:=Lib.hid (fun W hW=>HHB.out W a hW)
 rw [h2] at HA
 cases h3:inB b 0 (x.size-1)
 case false=>
  have HN:=Lib.hid (HNO.out (.inr (.inr (.inl h3))))
  have HB:=Lib.hid (fun W hW=>HHB.out W b hW)
  rw [h3] at HB
  clear h2 h3 HHA HHB HFL
  go_enter Tryz.func67,Tryz.ntmps67
  go_wp2_with fail
  refine (HTO.out _ H0.out.be).mono ?_
  rintro e w1 ⟨rfl,hb1⟩
  have H1:=Lib.hid (H0.out.below hb1)
  clear hb1
  obtain ⟨q0,q1,z0,z1,f0,f1,q2,z2,-⟩:=id H1.out
  go_wp2_with fail
  refine (HA.out _ H1.out.be).mono ?_
  rintro e w2 ⟨rfl,hb1⟩
  have H2:=Lib.hid (H1.out.below hb1)
  clear hb1 q0 q1 z0 z1 f0 f1 q2 z2
  obtain ⟨q0,q1,z0,z1,f0,f1,q2,z2,-⟩:=id H2.out
  go_wp2_with fail
  refine (HB.out _ H2.out.be).mono ?_
  rintro e w3 ⟨rfl,hb1⟩
  have H3:=Lib.hid (H2.out.below hb1)
  clear hb1 q0 q1 z0 z1 f0 f1 q2 z2
  obtain ⟨q0,q1,z0,z1,f0,f1,q2,z2,-⟩:=id H3.out
  go_wp2
  refine bodyPost_ret (v:=.tuple #[.agg #[.int .i64 0,.slice none 0 0],.bool false]) (by simp [results,Tryz.results67,go_sem,z0,z1]) rfl ?_
  rw [HN.out]
  exact ⟨H3.out.zero,rfl⟩
 have HB:=Lib.hid (fun W hW=>HHB.out W b hW)
 rw [h3] at HB
 cases h4:(a==b)
 case true=>
  have HN:=Lib.hid (HNO.out (.inr (.inr (.inr h4))))
  clear h2 h3 HHA HHB HFL
  go_enter Tryz.func67,Tryz.ntmps67
  go_wp2_with fail
  refine (HTO.out _ H0.out.be).mono ?_
  rintro e w1 ⟨rfl,hb1⟩
  have H1:=Lib.hid (H0.out.below hb1)
  clear hb1
  obtain ⟨q0,q1,z0,z1,f0,f1,q2,z2,-⟩:=id H1.out
  go_wp2_with fail
  refine (HA.out _ H1.out.be).mono ?_
  rintro e w2 ⟨rfl,hb1⟩
  have H2:=Lib.hid (H1.out.below hb1)
  clear hb1 q0 q1 z0 z1 f0 f1 q2 z2
  obtain ⟨q0,q1,z0,z1,f0,f1,q2,z2,-⟩:=id H2.out
  go_wp2_with fail
  refine (HB.out _ H2.out.be).mono ?_
  rintro e w3 ⟨rfl,hb1⟩
  have H3:=Lib.hid (H2.out.below hb1)
  clear hb1 q0 q1 z0 z1 f0 f1 q2 z2
  obtain ⟨q0,q1,z0,z1,f0,f1,q2,z2,-⟩:=id H3.out
  go_wp2
  refine bodyPost_ret (v:=.tuple #[.agg #[.int .i64 0,.slice none 0 0],.bool false]) (by simp [results,Tryz.results67,go_sem,z0,z1]) rfl ?_
  rw [HN.out]
  exact ⟨H3.out.zero,rfl⟩
 have HY:=Lib.hid (flipF_yes HT1.out h2 h3 h4)
 obtain ⟨t1,t2,t3,_⟩:=tourB_t HT1.out
 obtain ⟨a1,a2⟩:=inB_t.1 h2
 obtain ⟨b1,b2⟩:=inB_t.1 h3
 have hne:a≠b:=by simpa using h4
 obtain ⟨p,rfl⟩:=Int.eq_ofNat_of_zero_le a1
 obtain ⟨q,rfl⟩:=Int.eq_ofNat_of_zero_le b1
 rw [Int.toNat_natCast,Int.toNat_natCast] at HY
 have HFQ:=Lib.hid (fun W hW=>HFL.out W p q hW HT1.out (by omega) (by omega) (by omega))
 clear h2 h3 HHA HHB HFL a1 a2 b1 b2 hne t1 t2 t3
 go_enter Tryz.func67,Tryz.ntmps67
 go_wp2_with fail
 refine (HTO.out _ H0.out.be).mono ?_
 rintro e w1 ⟨rfl,hb1⟩
 have H1:=Lib.hid (H0.out.below hb1)
 clear hb1
 obtain ⟨q0,q1,z0,z1,f0,f1,q2,z2,-⟩:=id H1.out
 go_wp2_with fail
 refine (HA.out _ H1.out.be).mono ?_
 rintro e w2 ⟨rfl,hb1⟩
 have H2:=Lib.hid (H1.out.below hb1)
 clear hb1 q0 q1 z0 z1 f0 f1 q2 z2
 obtain ⟨q0,q1,z0,z1,f0,f1,q2,z2,-⟩:=id H2.out
 go_wp2_with fail
 refine (HB.out _ H2.out.be).mono ?_
 rintro e w3 ⟨rfl,hb1⟩
 have H3:=Lib.hid (H2.out.below hb1)
 clear hb1 q0 q1 z0 z1 f0 f1 q2 z2
 obtain ⟨q0,q1,z0,z1,f0,f1,q2,z2,-⟩:=id H3.out
 go_wp2_with fail
 refine (HFQ.out _ H3.out.be).mono ?_
 rintro e w4 ⟨v4,rfl,ho4,hb4⟩
 have H4:=Lib.hid (H3.out.below hb4)
 obtain ⟨A4,c4,rfl,hst,hbe⟩:=H4.out.store z2 ho4
 have HST:=Lib.hid (And.intro hst hbe)
 clear hb4 ho4 hst hbe q0 q1 z0 z1 f0 f1 q2 z2
 obtain ⟨q0,q1,z0,z1,f0,f1,q2,z2,-⟩:=id H4.out
 go_wp2
 refine bodyPost_ret (v:=.tuple #[.agg #[.int .i64 x.size,.slice A4 (flipW x.wins p q).length c4],.bool true]) (by simp [results,Tryz.results67,go_sem,z0,z1]) rfl ?_
 rw [HY.out]
 exact ⟨HST.out.2,_,rfl,HST.out.1⟩
def turnL (x:TourV):List Int:=rwL (fun a b=>bt x.wins b a) x.wins.length
def turnF (x:TourV):Option TourV:=if tourB x then some ⟨x.size,turnL x⟩ else none
theorem turnL_len (x:TourV):(turnL x).length=x.wins.length:=rwL_len _ _
theorem turnF_no {x:TourV} (h:tourB x=false):turnF x=none:=by unfold turnF;rw [h];rfl
theorem turnF_yes {x:TourV} (h:tourB x=true):turnF x=some ⟨x.size,turnL x⟩:=by unfold turnF;rw [h];rfl
theorem turn1_any (x:TourV) (hok:tourB x=true) (A:Option Addr) (c bq:Nat) (a b:Nat) (W:World) (ha:a<x.wins.length) (hb:b<x.wins.length)
  (hi:InT W (.agg #[.int .i64 x.size,.slice A x.wins.length c]) x) (hQ:Bx W bq (.int .i64 x.size) (.slice A x.wins.length c)):
  Calls Tryz.prog 149 #[.int .i64 (a:Int),.int .i64 (b:Int),.pointer (some ⟨bq,0,none⟩)] W fun e W'=>e=.returned (.bool (bt x.wins b a))∧Below W.heap.size W W':=by
 obtain ⟨t1,t2,t3,t4,_⟩:=tourB_t hok
 have hn8:x.wins.length≤8:=by omega
 have HBT:=Lib.hid (implBeats_any _ x b a W hi hn8 t4 hb (by omega))
 obtain ⟨q0,q1,q2⟩:=id hQ
 clear hi t4 t3
 go_enter Tryz.func149,Tryz.ntmps149
 go_wp2_with fail
 refine HBT.out.mono ?_
 rintro e w1 ⟨rfl,hb1⟩
 have H1:=Lib.hid hb1
 clear hb1
 go_wp2
 go_ret
 exact ⟨rfl,H1.out⟩
theorem implTurnTour_any (v:Value) (x:TourV) (w:World) (hs:InT w v x):
  Calls Tryz.prog 65 #[v] w fun e w'=>TR w e w' (turnF x):=by
 have HIT:=Lib.hid hs
 obtain ⟨u,rfl,B,d,rfl,hd,hm,hts⟩:=hs
 have H0:Hid (RzAt w ((w.alloc (.cells #[.int .i64 x.size,.slice B x.wins.length d] 27)).alloc (.cells #[.int .i64 0,.slice none 0 0] 27)) (.int .i64 x.size) (.slice B x.wins.length d)):=rzStart
 have HTO:Hid (∀W,Below w.heap.size w W→Calls Tryz.prog 148 #[.agg #[.int .i64 x.size,.slice B x.wins.length d]] W fun e w'=>e=.returned (.bool (tourB x))∧Below W.heap.size W w'):=fun W hW=>implTourOk_any _ x W (HIT.out.below hW)
 clear hts
 cases h1:tourB x
 case false=>
  have HN:=Lib.hid (turnF_no h1)
  rw [h1] at HTO
  clear h1
  go_enter Tryz.func65,Tryz.ntmps65
  go_wp2_with fail
  refine (HTO.out _ H0.out.be).mono ?_
  rintro e w1 ⟨rfl,hb1⟩
  have H1:=Lib.hid (H0.out.below hb1)
  clear hb1
  obtain ⟨q0,q1,z0,z1,f0,f1,q2,z2,-⟩:=id H1.out
  go_wp2
  refine bodyPost_ret (v:=.tuple #[.agg #[.int .i64 0,.slice none 0 0],.bool false]) (by simp [results,Tryz.results65,go_sem,z0,z1]) rfl ?_
  rw [HN.out]
  exact ⟨H1.out.zero,rfl⟩
 have HY:=Lib.hid (turnF_yes h1)
 have HOK:=Lib.hid h1
 obtain ⟨t1,t2,t3,_⟩:=tourB_t h1
 rw [h1] at HTO
 have hn8:x.wins.length≤8:=by omega
 have hn0:0<x.wins.length:=by omega
 have HSZ:=Lib.hid t3
 have HTF:Hid (∀W,RzAt w W (.int .i64 x.size) (.slice B x.wins.length d)→Calls Tryz.prog 25 #[.int .i64 x.size,.func (.func 149) #[] #[.pointer (some ⟨w.heap.size,0,none⟩)]] W fun e w'=>∃v',e=.returned v'∧OwT w' W.heap.size w'.heap.size v' ⟨x.size,turnL x⟩∧Below W.heap.size W w'):=fun W hW=>by
  have h:=tourOf_any x.wins.length 149 #[.pointer (some ⟨w.heap.size,0,none⟩)] (fun a b=>bt x.wins b a) W hn0 hn8 (fun _ _=>by kernel_rfl) (fun V a b hV ha hb=>by
   have h5:=hW.below hV
   exact turn1_any x HOK.out B d w.heap.size a b V ha hb (HIT.out.below h5.be) h5.bx)
  rw [HSZ.out] at h
  refine h.mono ?_
  rintro e w' ⟨v',rfl,hf,hb⟩
  exact ⟨_,rfl,⟨v',rfl,hf⟩,hb⟩
 clear h1 t1 t2 t3
 go_enter Tryz.func65,Tryz.ntmps65
 go_wp2_with fail
 refine (HTO.out _ H0.out.be).mono ?_
 rintro e w1 ⟨rfl,hb1⟩
 have H1:=Lib.hid (H0.out.below hb1)
 clear hb1
 obtain ⟨q0,q1,z0,z1,f0,f1,q2,z2,-⟩:=id H1.out
 go_wp2_with fail
 refine (HTF.out _ H1.out).mono ?_
 rintro e w9 ⟨v9,rfl,ho9,hb9⟩
 have H9:=Lib.hid (H1.out.below hb9)
 obtain ⟨A9,c9,rfl,hst9,hbe9⟩:=H9.out.store z2 ho9
 have HST9:=Lib.hid (And.intro hst9 hbe9)
 clear hb9 ho9 hst9 hbe9 q0 q1 z0 z1 f0 f1 q2 z2
 obtain ⟨q0,q1,z0,z1,f0,f1,q2,z2,-⟩:=id H9.out
 go_wp2
 refine bodyPost_ret (v:=.tuple #[.agg #[.int .i64 x.size,.slice A9 (turnL x).length c9],.bool true]) (by simp [results,Tryz.results65,go_sem,z0,z1]) rfl ?_
 rw [HY.out]
 exact ⟨HST9.out.2,_,rfl,HST9.out.1⟩
end Go.Proofs.YtkapoldjcpfdgaaGreatDoor
