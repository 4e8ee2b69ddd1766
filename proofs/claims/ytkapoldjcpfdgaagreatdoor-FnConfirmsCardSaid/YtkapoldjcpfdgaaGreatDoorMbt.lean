/- The console's closures that show a circle's round or plan: the program's. -/
import Derived.Test.YtkapoldjcpfdgaaGreatDoorMbs
set_option maxHeartbeats 4000000
set_option maxRecDepth 100000
namespace Go.Proofs.YtkapoldjcpfdgaaGreatDoor
open Go.ChangeShapes Go.WideShapes Go.ChangeAt Go.RowKit
def metF (home:Bool) (xs:List Int) (a b:Nat):List Int:=if home then (xs.set a ((b:Int)+1)).set b (-((a:Int)+1)) else (xs.set b ((a:Int)+1)).set a (-((b:Int)+1))
theorem meet_any (wr w1:World) (g n:Nat) (xs:List Int) (h:CiR wr w1 g n xs) (a b:Nat) (ha:a<n) (hb:b<n) (hn:n≤10) (home:Bool):
  Calls Tryz.prog 272 #[.slice (some ⟨g,0,none⟩) n n,.int .i64 (a:Int),.int .i64 (b:Int),.bool home] w1 fun e w'=>e=.returned (.tuple #[])∧CiR wr w' g n (metF home xs a b):=by
 have hai:(a:Int)<n:=by omega
 have hbi:(b:Int)<n:=by omega
 cases home
 case true=>
  have HM:Hid (metF true xs a b=(xs.set a ((b:Int)+1)).set b (-((a:Int)+1))):=rfl
  obtain ⟨⟨z1,d1⟩,f1,s1⟩:=h.set (k:=a) ha
  obtain ⟨⟨z2,d2⟩,f2,s2⟩:=(s1 ((b:Int)+1)).set (k:=b) hb
  have HS2:=Lib.hid (s2 (-((a:Int)+1)))
  clear s1 s2 h
  go_enter Tryz.func272,Tryz.ntmps272
  go_wp2
  refine bodyPost_end (results_none rfl _ _ _) rfl ?_
  exact ⟨rfl,by rw [HM.out];exact HS2.out⟩
 case false=>
  have HM:Hid (metF false xs a b=(xs.set b ((a:Int)+1)).set a (-((b:Int)+1))):=rfl
  obtain ⟨⟨z1,d1⟩,f1,s1⟩:=h.set (k:=b) hb
  obtain ⟨⟨z2,d2⟩,f2,s2⟩:=(s1 ((a:Int)+1)).set (k:=a) ha
  have HS2:=Lib.hid (s2 (-((b:Int)+1)))
  clear s1 s2 h
  go_enter Tryz.func272,Tryz.ntmps272
  go_wp2
  refine bodyPost_end (results_none rfl _ _ _) rfl ?_
  exact ⟨rfl,by rw [HM.out];exact HS2.out⟩
theorem met_cir0 (n r M:Nat) (hM:n=M+1):metF (decide (r%2=1)) (List.replicate n 0) M r=cir0 n r:=by
 have e:n-1=M:=by omega
 unfold metF cir0
 rw [e]
 by_cases h:r%2=1
 ·rw [if_pos (by simpa using h),if_pos h]
  rw [show (-((M:Int)+1)) = -(n:Int) by omega]
 ·rw [if_neg (by simpa using h),if_neg h]
  rw [show ((M:Int)+1)=(n:Int) by omega,show (-((r:Int)+1)) = -(r:Int)-1 by omega]
theorem met_cirS (n r j:Nat) (R:List Int):metF (decide (j%2=1)) R (cirI n r j) (cirK n r j)=cirS n r j R:=by
 unfold metF cirS
 by_cases h:j%2=1
 ·rw [if_pos (by simpa using h),if_pos h]
  rw [show (-((cirI n r j:Int)+1)) = -(cirI n r j:Int)-1 by omega]
 ·rw [if_neg (by simpa using h),if_neg h]
  rw [show (-((cirK n r j:Int)+1)) = -(cirK n r j:Int)-1 by omega]
theorem TuP.nil (w:World):TuP w w.heap.size w (.slice none 0 0) []:=
 ⟨⟨[],rfl,⟨by simp,.inl ⟨rfl,rfl⟩⟩,(fun g hg=>by simp [Value.ownBlock] at hg),Nat.le_refl _,Nat.le_refl _,(fun k u xs h=>by simp at h),(fun i j u u' _ h=>by simp at h)⟩,Below.refl _ _,Nat.le_refl _,Nat.le_refl _⟩
theorem implCircle_any (n M H:Nat) (w:World) (h2:2≤n) (h8:n≤10) (hMn:n=M+1) (hHn:2*H=n) (hcb:clubsB (n:Int)=true):
  Calls Tryz.prog 186 #[.int .i64 (n:Int)] w fun e w'=>∃v',e=.returned (.tuple #[v',.bool true])∧OwS w' w.heap.size w'.heap.size v' (circP n M)∧Below w.heap.size w w':=by
 have HT:=Lib.hid (TuP.nil w)
 have HMn:=Lib.hid hMn
 have HHn:=Lib.hid hHn
 have hM:(n:Int)-1=(M:Int):=by omega
 have hH1:Int.tdiv (n:Int) 2=(H:Int):=by rw [Int.tdiv_eq_ediv_of_nonneg (by omega)];omega
 have hH2:(n:Int)/2=(H:Int):=by omega
 have hM1:1≤M:=by omega
 have hMl:(M:Int)<n:=by omega
 have HME:=Lib.hid (fun wr w1 g xs (h:CiR wr w1 g n xs) (a b:Nat) (ha:a<n) (hb:b<n) (home:Bool)=>meet_any wr w1 g n xs h a b ha hb h8 home)
 clear hMn hHn
 go_enter Tryz.func186,Tryz.ntmps186
 go_wp2_with fail
 refine (isClubs_any (n:Int) w).mono ?_
 rintro e w1 ⟨rfl,rfl⟩
 rw [hcb]
 clear hcb
 go_wp2_with fail
 go_loopw [5,15] (fun g i wr=>∃(r:Nat) (gv:Value),r≤M∧i=.int .i64 r∧gv=g∧Hid (TuP w w.heap.size wr gv (circP n r))) (fun _ i _=>M-(intOf i).toNat)
 case atStart=>exact ⟨0,_,Nat.zero_le _,rfl,rfl,HT.out⟩
 case round=>
  obtain ⟨r,gv,hr,rfl,rfl,HR⟩:=hrel
  clear HT
  by_cases hlt:r<M
  case neg=>
   obtain rfl:r=M:=by omega
   go_wp2
   go_ret2
   exact ⟨_,rfl,HR.out.ow,HR.out.be⟩
  have hri:(r:Int)<M:=by omega
  have hrn:(r:Int)<n:=by omega
  obtain ⟨wz,rfl⟩:∃W,W=wr:=⟨wr,rfl⟩
  have hin:r<n:=by omega
  have hMn2:M<n:=by omega
  have hc0:Hid (metF (decide (r%2=1)) (List.replicate n 0) M r=cir0 n r):=met_cir0 n r M HMn.out
  have ht:((r:Int)%2==1)=decide (r%2=1):=by
   rcases Nat.mod_two_eq_zero_or_one r with hr2|hr2
   ·rw [show (r:Int)%2=0 from by omega,hr2];rfl
   ·rw [show (r:Int)%2=1 from by omega,hr2];rfl
  go_wp2_with (first
   | (at_make;refine makeI rfl _ _ rfl _ n rfl rfl (by omega) ?_;intro w1 hfr hb hsz;have H1:Hid (CiR wz w1 wz.heap.size n (List.replicate n 0)):=⟨hfr,hb⟩;clear hfr hb hsz)
   | (go_at_call 272;refine (HME.out _ _ _ _ H1.out M r hMn2 hin (decide (r%2=1))).mono ?_;rintro e w2 ⟨rfl,hc⟩;have H2:Hid (CiR wz w2 wz.heap.size n (cir0 n r)):=(by rw [←hc0.out];exact hc);clear hc))
  go_loopw [8] (fun s wr=>∃j:Nat,j+1≤H∧s=.int .i64 ((j+1:Nat):Int)∧Hid (CiR wz wr wz.heap.size n (cirR n r j))) (fun s _=>H-(intOf s).toNat)
  case atStart=>exact ⟨0,by have:=HHn.out;omega,rfl,H2.out⟩
  case round=>
   clear H1 H2
   obtain ⟨j,hj,rfl,HI⟩:=hrel
   by_cases hlt2:j+1<H
   case neg=>
    have hjH:j=n/2-1:=by have:=HHn.out;omega
    have HI2:Hid (CiR wz wr wz.heap.size n (cirR n r (n/2-1))):=by rw [←hjH];exact HI.out
    have hgl:(circP n r).length≤1048576:=by rw [circP,List.length_map,List.length_range];omega
    have HGL:=Lib.hid hgl
    have hjI:¬((j:Int)+1<H):=by omega
    obtain ⟨vs,hown6,hpush⟩:=HR.out.ow.pushed HI2.out.be HI2.out.fr
    have HO:=Lib.hid hown6
    have HP:=Lib.hid hpush
    clear hown6 hpush hgl hjH HI ht
    go_wp2_with (at_builtin;refine appS rfl _ _ rfl wr w.heap.size gv (circP n r).length vs rfl HO.out _ _ _ rfl HGL.out (Nat.le_trans HR.out.lo1 HI2.out.be.size) ?_;intro v7 w7 hown7 hb7 _ hg7;have H7:Hid (TuP w w.heap.size w7 v7 (circP n (r+1))):=(by rw [circP_snoc];exact HR.out.next HI2.out.be hb7 (HP.out _ _ hown7 hg7));clear hown7 hb7 hg7)
    go_roundw
    case rel=>exact ⟨r+1,_,by omega,by go_num,rfl,H7.out⟩
    case measure=>simp [intOf];omega
   have hjI:(j:Int)+1<H:=by omega
   have hHn:=HHn.out
   have hMn:=HMn.out
   obtain ⟨I,hI⟩:∃I,cirI n r (j+1)=I:=⟨_,rfl⟩
   obtain ⟨K,hK⟩:∃K,cirK n r (j+1)=K:=⟨_,rfl⟩
   have hIe:(r+(j+1))%M=I:=by rw [←hI,cirI,hMn,Nat.add_sub_cancel]
   have hKe:(r+M-(j+1))%M=K:=by rw [←hK,cirK,hMn,Nat.add_sub_cancel]
   have hIM:I<M:=by rw [←hIe];exact Nat.mod_lt _ (by omega)
   have hKM:K<M:=by rw [←hKe];exact Nat.mod_lt _ (by omega)
   obtain ⟨p3,p4⟩:=tm_cast (a:=(r:Int)+((j:Int)+1)) (m:=M) (q:=I) (by omega) (by rw [show ((r:Int)+((j:Int)+1)).toNat=r+(j+1) from by omega];exact hIe)
   obtain ⟨p5,p6⟩:=tm_cast (a:=(r:Int)-((j:Int)+1)+(M:Int)) (m:=M) (q:=K) (by omega) (by rw [show ((r:Int)-((j:Int)+1)+(M:Int)).toNat=r+M-(j+1) from by omega];exact hKe)
   have HCS:Hid (metF (decide ((j+1)%2=1)) (cirR n r j) I K=cirR n r (j+1)):=by
    have h:=met_cirS n r (j+1) (cirR n r j)
    rw [hI,hK] at h
    exact h
   have hIn:I<n:=by omega
   have hKn:K<n:=by omega
   have ht1:((j:Int)+1)%2=1∨((j:Int)+1)%2=0:=by omega
   have ht2:(((j:Int)+1)%2==1)=decide ((j+1)%2=1):=by
    rcases Nat.mod_two_eq_zero_or_one (j+1) with hr2|hr2
    ·rw [show ((j:Int)+1)%2=0 from by omega,hr2];rfl
    ·rw [show ((j:Int)+1)%2=1 from by omega,hr2];rfl
   have ht3:(Int.tmod ((j:Int)+1) 2==1)=decide ((j+1)%2=1):=by rw [Int.tmod_eq_emod_of_nonneg (by omega)];exact ht2
   obtain ⟨hm,hHM⟩:∃hm,decide ((j+1)%2=1)=hm:=⟨_,rfl⟩
   rw [hHM] at ht2 ht3 HCS
   have HMI:Hid (∀w1,CiR wz w1 wz.heap.size n (cirR n r j)→Calls Tryz.prog 272 #[.slice (some ⟨wz.heap.size,0,none⟩) n n,.int .i64 (I:Int),.int .i64 (K:Int),.bool hm] w1 fun e w'=>e=.returned (.tuple #[])∧CiR wz w' wz.heap.size n (cirR n r (j+1))):=fun w1 hw=>by
    refine (HME.out _ _ _ _ hw I K hIn hKn hm).mono ?_
    rintro e w' ⟨he,hc⟩
    rw [HCS.out] at hc
    exact ⟨he,hc⟩
   clear hI hK hIe hKe hHn hMn ht1 hHM HCS
   go_wp2_with fail
   have p7:Int.tmod (IntKind.i64.wrap ((r:Int)+((j:Int)+1))) (M:Int)=(I:Int):=by
    rw [show IntKind.i64.wrap ((r:Int)+((j:Int)+1))=(r:Int)+((j:Int)+1) from by rw [IntKind.wrap_i64];omega];exact p3
   have p8:Int.tmod (IntKind.i64.wrap (IntKind.i64.wrap ((r:Int)-((j:Int)+1))+(M:Int))) (M:Int)=(K:Int):=by
    rw [show IntKind.i64.wrap ((r:Int)-((j:Int)+1))=(r:Int)-((j:Int)+1) from by rw [IntKind.wrap_i64];omega,show IntKind.i64.wrap ((r:Int)-((j:Int)+1)+(M:Int))=(r:Int)-((j:Int)+1)+(M:Int) from by rw [IntKind.wrap_i64];omega];exact p5
   have hM0:¬M=0:=by omega
   have HID:Hid (CiR wz wr.drew wz.heap.size n (cirR n r j)):=⟨HI.out.fr.drew,below_drewL HI.out.be⟩
   go_region_held3 (fun _=>True) (first|exact trivial) (first|(go_at_call 272;(with_reducible refine (HMI.out _ HID.out).mono ?_);rintro e w3 ⟨rfl,hc⟩;have H3:=Lib.hid hc;clear hc))
   all_goals
    go_wp2
    go_roundw
    case rel=>exact ⟨j+1,by omega,by go_num,H3.out⟩
    case measure=>simp [intOf];omega
theorem clubsB_n {n:Int} (h:clubsB n=true):∃m M H:Nat,n=(m:Int)∧2≤m∧m≤10∧m=M+1∧2*H=m:=by
 unfold clubsB at h
 rw [Bool.and_eq_true] at h
 have h1:=inB_t.1 h.1
 have h2:n%2=0:=by simpa using h.2
 exact ⟨n.toNat,n.toNat-1,n.toNat/2,by omega,by omega,by omega,by omega,by omega⟩
def circF (n:Int):List (List Int):=if clubsB n then circP n.toNat (n.toNat-1) else []
theorem implCirclePlan_any (n:Int) (w:World):
  Calls Tryz.prog 186 #[.int .i64 n] w fun e w'=>∃v',e=.returned (.tuple #[v',.bool (clubsB n)])∧OwS w' w.heap.size w'.heap.size v' (circF n)∧Below w.heap.size w w':=by
 cases h:clubsB n
 case true=>
  obtain ⟨m,M,H,rfl,h1,h2,h3,h4⟩:=clubsB_n h
  have e:circF (m:Int)=circP m M:=by unfold circF;rw [if_pos h,Int.toNat_natCast,h3];rfl
  rw [e]
  exact implCircle_any m M H w h1 h2 h3 h4 h
 case false=>
  have HE:Hid (circF n = []):=by show _=_;unfold circF;rw [h];rfl
  have HT:=Lib.hid (TuP.nil w)
  go_enter Tryz.func186,Tryz.ntmps186
  go_wp2_with (go_at_call 271;refine (isClubs_any _ _).mono ?_;rintro e w' ⟨rfl,rfl⟩;rw [h])
  go_ret2
  exact ⟨_,rfl,by rw [HE.out];exact HT.out.ow,HT.out.be⟩
theorem specCirclePlan_any (n:Int) (w:World):
  Calls Tryz.prog 37 #[.int .i64 n] w fun e w'=>∃v',e=.returned (.tuple #[v',.bool (clubsB n)])∧OwS w' w.heap.size w'.heap.size v' (circF n)∧Below w.heap.size w w':=by
 cases h:clubsB n
 case true=>
  obtain ⟨m,M,H,rfl,h1,h2,h3,h4⟩:=clubsB_n h
  have e:circF (m:Int)=circP m M:=by unfold circF;rw [if_pos h,Int.toNat_natCast,h3];rfl
  rw [e]
  exact circle_any m M H w h1 h2 h3 h4 h
 case false=>
  have HE:Hid (circF n = []):=by show _=_;unfold circF;rw [h];rfl
  have HT:=Lib.hid (TuP.nil w)
  go_enter Tryz.func37,Tryz.ntmps37
  go_wp2_with (go_at_call 112;refine (l16Size_any _ _).mono ?_;rintro e w' ⟨rfl,rfl⟩;rw [h])
  go_ret2
  exact ⟨_,rfl,by rw [HE.out];exact HT.out.ow,HT.out.be⟩
theorem circF_bulk (n:Int):bulk (circF n)≤1048576:=by
 unfold circF
 split
 ·rename_i h
  obtain ⟨m,M,H,rfl,h1,h2,h3,h4⟩:=clubsB_n h
  have hl:∀l∈(circP m M).map List.length,l≤10:=fun l hl=>by
   obtain ⟨R,hR,rfl⟩:=List.mem_map.1 hl
   obtain ⟨r,_,rfl⟩:=List.mem_map.1 hR
   rw [cirR_len];exact h2
  have hs:∀l:List Nat,(∀x∈l,x≤10)→l.sum≤10*l.length:=by
   intro l
   induction l with
   | nil=>intro _;simp
   | cons a l ih=>
    intro hl
    have:=ih fun x hx=>hl x (List.mem_cons_of_mem _ hx)
    have:=hl a (List.mem_cons_self ..)
    rw [List.sum_cons,List.length_cons];omega
  have h5:=hs _ hl
  have h6:(circP m M).length=M:=by rw [circP,List.length_map,List.length_range]
  rw [Int.toNat_natCast,show m-1=M by omega]
  rw [List.length_map] at h5
  unfold bulk;omega
 ·simp [bulk]
def planA (x:TourV) (ok:Bool) (n:Int):Option (List UInt8 × TourV):=outA x ok (if clubsB n then planText n (circF n) else [110,111,110,101])
theorem circle_co (w0 W:World) (b:Nat) (x:TourV) (ws:List (List UInt8)) (h:CoW w0 W b x ws false) (hc:ComP w0) (hl:∀l∈ws,l.length≤1048576) (hm:ws.length=2):
  Calls Tryz.prog 104 #[.pointer (some ⟨b,0,none⟩)] W fun e w'=>CoR w0 W b ws (outA x (numB (wd ws 0) && numB (wd ws 1)) (roundText (numV (wd ws 0)) (circF (numV (wd ws 0))) (numV (wd ws 1)))) e w':=by
 obtain ⟨A,c,B,d,lo,hi,hA⟩:=h.names
 have HN0:Hid (∀V bad,CoA w0 V b x ws bad A c B d lo hi→Calls Tryz.prog 68 #[.pointer (some ⟨b,0,none⟩),.int .i64 0] V fun e w'=>e=.returned (.int .i64 (numV (wd ws 0)))∧CoA w0 w' b x ws (bad || !numB (wd ws 0)) A c B d lo hi∧Keep b (b+1) V w'):=fun V bad hV=>number_co w0 V b 0 x ws bad A B c d lo hi hV hc hl (by omega)
 have HN1:Hid (∀V bad,CoA w0 V b x ws bad A c B d lo hi→Calls Tryz.prog 68 #[.pointer (some ⟨b,0,none⟩),.int .i64 1] V fun e w'=>e=.returned (.int .i64 (numV (wd ws 1)))∧CoA w0 w' b x ws (bad || !numB (wd ws 1)) A c B d lo hi∧Keep b (b+1) V w'):=fun V bad hV=>number_co w0 V b 1 x ws bad A B c d lo hi hV hc hl (by omega)
 have HP:Hid (∀V bad,CoA w0 V b x ws bad A c B d lo hi→Calls Tryz.prog 186 #[.int .i64 (numV (wd ws 0))] V fun e w'=>∃v',e=.returned (.tuple #[v',.bool (clubsB (numV (wd ws 0)))])∧OwS w' V.heap.size w'.heap.size v' (circF (numV (wd ws 0)))∧b<V.heap.size∧Below V.heap.size V w'):=fun V bad hV=>(implCirclePlan_any _ V).mono fun e w' ⟨v',h1,h2,h3⟩=>⟨v',h1,h2,(Array.getElem?_eq_some_iff.1 hV.cl).1,h3⟩
 have HR:Hid (∀V v bad,CoA w0 V b x ws bad A c B d lo hi→InS V v (circF (numV (wd ws 0)))→Calls Tryz.prog 187 #[.int .i64 (numV (wd ws 0)),v,.int .i64 (numV (wd ws 1))] V fun e w'=>e=.returned (.string ⟨(roundText (numV (wd ws 0)) (circF (numV (wd ws 0))) (numV (wd ws 1))).toArray⟩)∧Below V.heap.size V w'):=fun V v bad hV hi2=>implRoundLine_any _ v _ _ V hi2 (circF_bulk _) (hV.com hc).1
 have A0:=Lib.hid hA
 clear hA h hc hl
 have t0:Hid True:=trivial
 go_enter Tryz.func104,Tryz.ntmps104
 go_wp2_with (first
  | (go_at_call 68;have h_:=t0.out;clear h_ t0;refine (HN0.out _ _ A0.out).mono ?_;rintro e w1 ⟨rfl,hA1,hK1⟩;have A1:=Lib.hid hA1;have K1:=Lib.hid hK1;have t1:Hid True:=trivial;clear hA1 hK1)
  | (go_at_call 186;refine (HP.out _ _ A1.out).mono ?_;rintro e w2 ⟨v2,rfl,ho,hlt,hb⟩;have A2:=Lib.hid (A1.out.grow hb);have K2:Hid (Keep b (b+1) W w2):=K1.out.trans (Keep.ofBe hb);have O2:=Lib.hid (And.intro ho hlt);clear hb ho hlt)
  | (go_at_call 68;have h_:=t1.out;clear h_ t1;refine (HN1.out _ _ A2.out).mono ?_;rintro e w3 ⟨rfl,hA1,hK1⟩;have A3:=Lib.hid hA1;have K3:Hid (Keep b (b+1) W w3):=K2.out.trans hK1;have I3:=Lib.hid (O2.out.1.keep hK1 (.inr O2.out.2)).in_;clear hA1 hK1)
  | (go_at_call 187;refine (HR.out _ _ _ A3.out I3.out).mono ?_;rintro e w4 ⟨rfl,hb⟩;have A4:=Lib.hid (A3.out.grow hb);have K4:Hid (Keep b (b+1) W w4):=K3.out.trans (Keep.ofBe hb);clear hb))
 go_ret
 exact CoR.text (by simp) K4.out A4.out
theorem plan_co (w0 W:World) (b:Nat) (x:TourV) (ws:List (List UInt8)) (h:CoW w0 W b x ws false) (hc:ComP w0) (hl:∀l∈ws,l.length≤1048576) (hm:ws.length=1):
  Calls Tryz.prog 105 #[.pointer (some ⟨b,0,none⟩)] W fun e w'=>CoR w0 W b ws (planA x (numB (wd ws 0)) (numV (wd ws 0))) e w':=by
 obtain ⟨A,c,B,d,lo,hi,hA⟩:=h.names
 have HN0:Hid (∀V bad,CoA w0 V b x ws bad A c B d lo hi→Calls Tryz.prog 68 #[.pointer (some ⟨b,0,none⟩),.int .i64 0] V fun e w'=>e=.returned (.int .i64 (numV (wd ws 0)))∧CoA w0 w' b x ws (bad || !numB (wd ws 0)) A c B d lo hi∧Keep b (b+1) V w'):=fun V bad hV=>number_co w0 V b 0 x ws bad A B c d lo hi hV hc hl (by omega)
 have HP:Hid (∀V bad,CoA w0 V b x ws bad A c B d lo hi→Calls Tryz.prog 186 #[.int .i64 (numV (wd ws 0))] V fun e w'=>∃v',e=.returned (.tuple #[v',.bool (clubsB (numV (wd ws 0)))])∧InS w' v' (circF (numV (wd ws 0)))∧Below V.heap.size V w'):=fun V bad hV=>(implCirclePlan_any _ V).mono fun e w' ⟨v',h1,h2,h3⟩=>⟨v',h1,h2.in_,h3⟩
 have HR:Hid (∀V v bad,CoA w0 V b x ws bad A c B d lo hi→InS V v (circF (numV (wd ws 0)))→Calls Tryz.prog 188 #[.int .i64 (numV (wd ws 0)),v] V fun e w'=>e=.returned (.string ⟨(planText (numV (wd ws 0)) (circF (numV (wd ws 0)))).toArray⟩)∧Below V.heap.size V w'):=fun V v bad hV hi2=>implPlanLine_any _ v _ V hi2 (circF_bulk _) (hV.com hc).1
 have A0:=Lib.hid hA
 have HE:Hid (planA x (numB (wd ws 0)) (numV (wd ws 0))=outA x (numB (wd ws 0)) (if clubsB (numV (wd ws 0)) then planText (numV (wd ws 0)) (circF (numV (wd ws 0))) else [110,111,110,101])):=rfl
 clear hA h hc hl
 cases hcl:clubsB (numV (wd ws 0))
 all_goals
  rw [hcl] at HP HE
  clear hcl
  go_enter Tryz.func105,Tryz.ntmps105
  go_wp2_with (first
   | (go_at_call 68;refine (HN0.out _ _ A0.out).mono ?_;rintro e w1 ⟨rfl,hA1,hK1⟩;have A1:=Lib.hid hA1;have K1:=Lib.hid hK1;clear hA1 hK1)
   | (go_at_call 186;refine (HP.out _ _ A1.out).mono ?_;rintro e w2 ⟨v2,rfl,ho,hb⟩;have A2:=Lib.hid (A1.out.grow hb);have K2:Hid (Keep b (b+1) W w2):=K1.out.trans (Keep.ofBe hb);have O2:=Lib.hid ho;clear hb ho)
   | (go_at_call 188;refine (HR.out _ _ _ A2.out O2.out).mono ?_;rintro e w4 ⟨rfl,hb⟩;have A4:=Lib.hid (A2.out.grow hb);have K4:Hid (Keep b (b+1) W w4):=K2.out.trans (Keep.ofBe hb);clear hb))
  go_ret
  rw [HE.out]
  first
   | exact CoR.text (by simp) K4.out A4.out
   | exact CoR.text (by simp) K2.out A2.out
end Go.Proofs.YtkapoldjcpfdgaaGreatDoor
