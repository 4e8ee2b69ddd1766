/- Brackets as lines: the walks. -/
import Derived.Test.YtkapoldjcpfdgaaGreatDoorMau
import Derived.Test.YtkapoldjcpfdgaaGreatDoorMaz
set_option maxHeartbeats 4000000
set_option maxRecDepth 100000
namespace Go.Proofs.YtkapoldjcpfdgaaGreatDoor
open Go.ChangeShapes Go.WideShapes Go.ChangeAt Go.RowKit
theorem implBracketLine_any (v:Value) (x:TourV) (u:Value) (l:List Int) (w:World) (hs:InT w v x) (hu:InI w u l) (hn:l.length≤1048576) (ht:tabP w):
  Calls Tryz.prog 99 #[v,u] w fun e w'=>e=.returned (.string ⟨(brText x l).toArray⟩)∧Below w.heap.size w w':=by
 have HIT:=Lib.hid hs
 have HTT:=Lib.hid ht
 have HIU:=Lib.hid hu
 obtain ⟨u0,rfl,A0,c0,rfl,hc0,hm0,hs0⟩:=hs
 clear hs0 hc0 hm0 ht
 have W1:Hid (InT (w.alloc (.cells #[.int .i64 x.size,.slice A0 x.wins.length c0] 27)) (.agg #[.int .i64 x.size,.slice A0 x.wins.length c0]) x∧Below w.heap.size w (w.alloc (.cells #[.int .i64 x.size,.slice A0 x.wins.length c0] 27))∧Bx (w.alloc (.cells #[.int .i64 x.size,.slice A0 x.wins.length c0] 27)) w.heap.size (.int .i64 x.size) (.slice A0 x.wins.length c0)∧InI (w.alloc (.cells #[.int .i64 x.size,.slice A0 x.wins.length c0] 27)) u l):=
  ⟨HIT.out.below ((Below.refl _ w).alloc (Nat.le_refl _) _),(Below.refl _ w).alloc (Nat.le_refl _) _,by simp [Bx],hu.below ((Below.refl _ w).alloc (Nat.le_refl _) _)⟩
 clear hu
 go_enter Tryz.func99,Tryz.ntmps99
 go_wp2_with fail
 generalize w.alloc (.cells #[.int .i64 x.size,.slice A0 x.wins.length c0] 27)=w1 at *
 refine (implBracketOk_any _ x u l w1 W1.out.1 W1.out.2.2.2 hn).mono ?_
 rintro e w2 ⟨rfl,hb⟩
 have W2:Hid (Below w.heap.size w w2∧Bx w2 w.heap.size (.int .i64 x.size) (.slice A0 x.wins.length c0)∧InI w2 u l∧InT w2 (.agg #[.int .i64 x.size,.slice A0 x.wins.length c0]) x):=⟨W1.out.2.1.trans (hb.mono W1.out.2.1.size),W1.out.2.2.1.below hb,W1.out.2.2.2.below hb,W1.out.1.below hb⟩
 clear hb
 cases h1:brB x l
 case false=>
  have HE:Hid (brText x l = [110,111,110,101]):=by show _=_;simp [brText,h1]
  go_wp2
  go_ret
  exact ⟨by rw [HE.out];rfl,W2.out.1⟩
 obtain ⟨b1,b2,_,_⟩:=brB_t h1
 obtain ⟨t1,t2,t3,_⟩:=tourB_t b1
 have HE:Hid (brText x l=Lib.join ((roundsF x.wins 3 l).map fmtF) [32]):=by show _=_;simp [brText,h1]
 have hn8:x.wins.length≤8:=by omega
 have HTB:=Lib.hid b1
 have R0:Hid (RdAt x.wins x.wins.length l [] 3 l):=RdAt.start b2 (brB_rng h1 t3.symm)
 have hl8:=brSize_le b2
 have hz2:w.heap.size<w2.heap.size:=W2.out.2.1.2.2
 have HFN:Hid (wfI l):=rng_wf R0.out.rg hn8
 clear h1 b1 b2
 go_wp2_with fail
 refine (implFormatNumbers_any u l w2 W2.out.2.2.1 hn HFN.out (HTT.out.below W2.out.1 (Nat.le_refl _))).mono ?_
 rintro e w3 ⟨rfl,hb⟩
 have W3:Hid (Below w2.heap.size w2 w3):=hb
 have F3:Hid (Below w2.heap.size w2 (w3.alloc (.cells #[.string ⟨(fmtF l).toArray⟩] 9))∧(w3.alloc (.cells #[.string ⟨(fmtF l).toArray⟩] 9)).ownsRow w2.heap.size 9 1 (.slice (some ⟨w3.heap.size,0,none⟩) 1 1) 1 (strs [fmtF l])):=
  ⟨W3.out.alloc W3.out.size _,World.ownsRow_lit (base:=w2.heap.size) (e:=9) (size:=1) w3 #[.string ⟨(fmtF l).toArray⟩] 1 W3.out.size (by unfold maxLen;omega) rfl⟩
 clear hb
 go_wp2_with fail
 generalize w3.alloc (.cells #[.string ⟨(fmtF l).toArray⟩] 9)=w4 at *
 go_loopw [1,5] (fun uv fv wr=>∃(pre:List (List Int)) (f m:Nat) (l':List Int) (A':Option Addr) (c':Nat) (fv':Value),uv=.slice A' m c'∧fv'=fv∧Hid (RdAt x.wins x.wins.length l pre f l'∧l'.length=m∧InI wr (.slice A' m c') l'∧Below w2.heap.size w2 wr∧wr.ownsRow w2.heap.size 9 1 fv' (pre.length+1) (strs ((pre++[l']).map fmtF)))) (fun uv _ _=>lenV uv)
 case atStart=>
  obtain ⟨A,c,hu,_⟩:=W2.out.2.2.1
  exact ⟨[],3,l.length,l,A,c,_,hu,rfl,R0.out,rfl,by rw [←hu];exact W2.out.2.2.1.below F3.out.1,F3.out.1,F3.out.2⟩
 case round=>
  obtain ⟨pre,f,m,l',A',c',fv,rfl,rfl,HR⟩:=hrel
  clear F3
  by_cases hlt:1<m
  case neg=>
   have HF:Hid ((roundsF x.wins 3 l).map fmtF=(pre++[l']).map fmtF):=HR.out.1.fin (by rw [HR.out.2.1];exact hlt)
   go_wp2_with fail
   refine (implJoin_any fv _ _ ((pre++[l']).map fmtF) [32] wr HR.out.2.2.2.2 (by have:=HR.out.1.ct;omega) (by omega) (by have:=HR.out.1.join_len hn8;omega)).mono ?_
   rintro e w5 ⟨rfl,hb⟩
   have H5:Hid (Below w.heap.size w w5):=(W2.out.1.trans (HR.out.2.2.2.1.mono (Nat.le_of_lt hz2))).trans (hb.mono (Nat.le_trans (Nat.le_of_lt hz2) HR.out.2.2.2.1.size))
   clear hb
   go_wp2
   go_ret
   exact ⟨by rw [HE.out,HF.out,List.map_append];rfl,H5.out⟩
  obtain ⟨g,m2,hf,hm,hm2,hm1,hm4,hnx⟩:=HR.out.1.next (by rw [HR.out.2.1];exact hlt) hn8
  have HNX:=Lib.hid hnx
  have HMM:Hid (l'.length=2*m2∧m=2*m2∧pre.length≤3):=⟨hm,by rw [←HR.out.2.1];exact hm,by have:=HR.out.1.ct;omega⟩
  have hml:m2<m:=by have:=HMM.out.2.1;omega
  clear hnx hf hm hm2
  obtain ⟨q0,q1,_⟩:=W2.out.2.1.below HR.out.2.2.2.1
  go_wp2_with fail
  refine (implNextRound_any _ x _ l' m2 wr (W2.out.2.2.2.below HR.out.2.2.2.1) HR.out.2.2.1 HTB.out HR.out.1.rg HMM.out.1 hm4).mono ?_
  rintro e w5 ⟨v5,rfl,hf5,hb⟩
  obtain ⟨A5,c5,rfl,hc5,hm5⟩:=hf5.form
  rw [brNextTo_length] at hf5 hc5 ⊢
  have H5:Hid (Below w2.heap.size w2 w5∧w5.ownsRow w2.heap.size 9 1 fv (pre.length+1) (strs ((pre++[l']).map fmtF))∧Fr w5 wr.heap.size w5.heap.size (.slice A5 m2 c5) (brNextTo x.wins l' m2)):=⟨HR.out.2.2.2.1.trans (hb.mono HR.out.2.2.2.1.size),ownZ_below HR.out.2.2.2.2 hb,hf5⟩
  clear hb hf5 q0 q1 hc5
  have HW5:Hid (wfI (brNextTo x.wins l' m2)):=rng_wf HNX.out.rg hn8
  go_wp2_with fail
  refine (implFormatNumbers_any _ (brNextTo x.wins l' m2) w5 H5.out.2.2.in_ (by rw [brNextTo_length];omega) HW5.out (HTT.out.below (W2.out.1.trans (H5.out.1.mono (Nat.le_of_lt hz2))) (Nat.le_refl _))).mono ?_
  rintro e w6 ⟨rfl,hb⟩
  have H6:Hid (Below w2.heap.size w2 w6∧w6.ownsRow w2.heap.size 9 1 fv (pre.length+1) (strs ((pre++[l']).map fmtF))∧Fr w6 wr.heap.size w5.heap.size (.slice A5 m2 c5) (brNextTo x.wins l' m2)∧pre.length+1≤1048576):=⟨H5.out.1.trans (hb.mono H5.out.1.size),ownZ_below H5.out.2.1 hb,H5.out.2.2.below hb (Nat.le_refl _),by have:=HMM.out.2.2;omega⟩
  clear hb
  go_wp2_with (at_builtin;refine appZ rfl _ _ rfl w6 w2.heap.size fv (pre.length+1) _ rfl H6.out.2.1 (fmtF (brNextTo x.wins l' m2)) rfl H6.out.2.2.2 H6.out.1.size ?_;intro v' w7 hown7 hb7 hsz7 hg7;have H7:Hid (InI w7 (.slice A5 m2 c5) (brNextTo x.wins l' m2)∧w7.ownsRow w2.heap.size 9 1 v' (pre.length+1+1) (strs ((pre++[l']).map fmtF++[fmtF (brNextTo x.wins l' m2)]))∧Below w2.heap.size w2 w7):=⟨(H6.out.2.2.1.grownByZ hg7 (fun _ he=>own_neZ H6.out.2.2.1.1 H6.out.2.1 he)).in_,hown7,H6.out.1.trans (hb7 w2.heap.size (Nat.le_refl _) H6.out.1.size)⟩;clear hown7 hb7 hsz7 hg7)
  go_roundw
  case rel=>exact ⟨pre++[l'],g,m2,brNextTo x.wins l' m2,A5,c5,_,rfl,rfl,HNX.out,brNextTo_length _ _ _,H7.out.1,H7.out.2.2,by rw [List.length_append,List.length_singleton,List.map_append];exact H7.out.2.1⟩
  case measure=>simp [lenV];omega
end Go.Proofs.YtkapoldjcpfdgaaGreatDoor
