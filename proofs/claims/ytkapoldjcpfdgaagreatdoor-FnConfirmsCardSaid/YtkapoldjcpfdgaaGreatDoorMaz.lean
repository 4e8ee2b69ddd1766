/- Safe strategies: StrategyOk, IsSafe, l10Safe. -/
import Derived.Test.YtkapoldjcpfdgaaGreatDoorMay
set_option maxHeartbeats 4000000
set_option maxRecDepth 100000
namespace Go.Proofs.YtkapoldjcpfdgaaGreatDoor
open Go.ChangeShapes Go.WideShapes Go.ChangeAt Go.RowKit
theorem isBracketSize_any (n:Nat) (w:World):
    Calls Tryz.prog 266 #[.int .i64 n] w fun e w'=>e=.returned (.bool (brSize n))∧w=w':=by
  by_cases h1:n=1
  · subst h1;go_enter Tryz.func266,Tryz.ntmps266;go_wp2;go_ret;exact ⟨rfl,rfl⟩
  by_cases h2:n=2
  · subst h2;go_enter Tryz.func266,Tryz.ntmps266;go_wp2;go_ret;exact ⟨rfl,rfl⟩
  by_cases h4:n=4
  · subst h4;go_enter Tryz.func266,Tryz.ntmps266;go_wp2;go_ret;exact ⟨rfl,rfl⟩
  by_cases h8:n=8
  · subst h8;go_enter Tryz.func266,Tryz.ntmps266;go_wp2;go_ret;exact ⟨rfl,rfl⟩
  have e1 : ((n : Int) == 1) = false := by
                                           have:¬(n:Int)=1:=by omega
                                           simpa using this
  have e2 : ((n : Int) == 2) = false := by
                                           have:¬(n:Int)=2:=by omega
                                           simpa using this
  have e4 : ((n : Int) == 4) = false := by
                                           have:¬(n:Int)=4:=by omega
                                           simpa using this
  have e8 : ((n : Int) == 8) = false := by
                                           have:¬(n:Int)=8:=by omega
                                           simpa using this
  have HE:Hid (brSize n=false):=by show _=_;simp [brSize,h1,h2,h4,h8]
  clear h1 h2 h4 h8
  go_enter Tryz.func266,Tryz.ntmps266
  go_wp2
  go_ret
  exact ⟨ret_bool HE.out.symm,rfl⟩
theorem slicesMax_any (A:Option Addr) (c:Nat) (xs:List Int) (w:World) (hs:SlI w A xs) (h0:0<xs.length) (hn:xs.length≤1048576):
    Calls Tryz.prog 267 #[.slice A xs.length c] w fun e w'=>e=.returned (.int .i64 (maxTo xs (xs.length-1)))∧w=w':=by
  obtain ⟨b,off,x0,rfl,hx0,hc0,-⟩:=hs.at_ h0
  rw [Nat.add_zero] at hc0
  have HS:=Lib.hid hs
  have H0:Hid (maxTo xs 0=x0):=getD_of hx0
  generalize hl:xs.length=n at *
  have HL:=Lib.hid hl
  clear hl hs hx0
  go_enter Tryz.func267,Tryz.ntmps267
  go_wp2
  go_loop [3,4] (fun m i=>∃q:Nat,1≤q∧q≤n∧i=.int .i64 q∧m=.int .i64 (maxTo xs (q-1))) (fun _ i=>n-(intOf i).toNat)
  case atStart=>exact ⟨1,Nat.le_refl _,h0,rfl,by rw [show 1-1=0 from rfl,H0.out]⟩
  case round=>
    obtain ⟨q,hq1,hq,rfl,rfl⟩:=hrel
    by_cases hlt:q<n
    · obtain ⟨b',off',y,e,hy,hcy,-⟩:=HS.out.at_ (k:=q) (by rw [HL.out];exact hlt)
      injection e with e;injection e with r1 r2 _;subst r1;subst r2
      have HN:Hid (maxTo xs (q+1-1)=if maxTo xs (q-1)<y then y else maxTo xs (q-1)):=by
        show _=_
        obtain ⟨j,rfl⟩:∃j,q=j+1:=⟨q-1,by omega⟩
        rw [show j+1+1-1=j+1 from rfl,show j+1-1=j from rfl,maxTo,getD_of hy]
      clear hy
      generalize maxTo xs (q-1)=M at *
      by_cases hm:M<y
      · have HN2:Hid (maxTo xs (q+1-1)=y):=by show _=_;rw [HN.out,if_pos hm]
        go_wp2
        go_round
        case rel=>exact ⟨q+1,by omega,by omega,by go_num,by rw [HN2.out];exact congrArg (Value.int .i64) (by omega)⟩
        case measure=>simp [intOf];omega
      · have HN2:Hid (maxTo xs (q+1-1)=M):=by show _=_;rw [HN.out,if_neg hm]
        go_wp2
        go_round
        case rel=>exact ⟨q+1,by omega,by omega,by go_num,by rw [HN2.out];exact congrArg (Value.int .i64) (by omega)⟩
        case measure=>simp [intOf];omega
    · obtain rfl:q=n:=by omega
      go_wp2
      go_ret
      exact ⟨rfl,rfl⟩
theorem implBracketOk_any (v:Value) (x:TourV) (u:Value) (l:List Int) (w:World) (hs:InT w v x) (hu:InI w u l) (hn:l.length≤1048576):
    Calls Tryz.prog 180 #[v,u] w fun e w'=>e=.returned (.bool (brB x l))∧Below w.heap.size w w':=by
  have HIT:=Lib.hid hs
  obtain ⟨u0,rfl,hs0⟩:=hs
  obtain ⟨A,c,rfl,hc,hm,hsl⟩:=hu
  have HS:=Lib.hid hsl
  clear hs0 hsl
  unfold maxLen at hm
  have W1:Hid (InT (w.alloc (.cells #[.int .i64 x.size,u0] 27)) (.agg #[.int .i64 x.size,u0]) x∧Below w.heap.size w (w.alloc (.cells #[.int .i64 x.size,u0] 27))∧Bx (w.alloc (.cells #[.int .i64 x.size,u0] 27)) w.heap.size (.int .i64 x.size) u0):=
    ⟨HIT.out.below ((Below.refl _ w).alloc (Nat.le_refl _) _),(Below.refl _ w).alloc (Nat.le_refl _) _,by simp [Bx]⟩
  obtain ⟨A0,c0,rfl,hc0,hm0,hsl0⟩:=show ∃A c,u0=.slice A x.wins.length c∧True∧True∧True by obtain ⟨u,h,A,c,h2,_⟩:=HIT.out;injection h with h;simp at h;subst h;exact ⟨A,c,h2,trivial,trivial,trivial⟩
  clear hc0 hm0 hsl0
  generalize hl:l.length=n at *
  have HL:=Lib.hid hl
  clear hl
  go_enter Tryz.func180,Tryz.ntmps180
  go_wp2_with fail
  generalize w.alloc (.cells #[.int .i64 x.size,.slice A0 x.wins.length c0] 27)=w1 at *
  refine (implTourOk_any _ x w1 W1.out.1).mono ?_
  rintro e w2 ⟨rfl,hb⟩
  have W2:Hid (Below w.heap.size w w2∧Bx w2 w.heap.size (.int .i64 x.size) (.slice A0 x.wins.length c0)):=⟨W1.out.2.1.trans (hb.mono W1.out.2.1.size),W1.out.2.2.below hb⟩
  clear hb
  cases h1:tourB x
  case false=>
    go_wp2
    go_ret
    exact ⟨ret_bool (brB_tour h1).symm,W2.out.1⟩
  obtain ⟨t1,t2,_⟩:=tourB_t h1
  cases h2:brSize n
  case false=>
    have HE:Hid (brB x l=false):=brB_size (by rw [HL.out];exact h2)
    go_wp2_with (go_at_call 266;refine (isBracketSize_any n _).mono ?_;rintro e w' ⟨rfl,rfl⟩;rw [h2])
    go_ret
    exact ⟨ret_bool HE.out.symm,W2.out.1⟩
  have hn8:=brSize_le h2
  have H12:=Lib.hid (And.intro h1 h2)
  obtain ⟨q0,q1,hz⟩:=id W2.out.2
  go_wp2_with (go_at_call 266;refine (isBracketSize_any n _).mono ?_;rintro e w' ⟨rfl,rfl⟩;rw [h2])
  clear h1 h2
  have haw:=allWithin_any A c l (-1) (x.size-1) w2 (SlI.below HS.out W2.out.1) (by rw [HL.out];omega)
  rw [HL.out] at haw
  refine haw.mono ?_
  rintro e w3 ⟨rfl,hb⟩
  have W3:Hid (Below w.heap.size w w3):=W2.out.1.trans (hb.mono W2.out.1.size)
  clear hb haw q0 q1 hz
  cases h3:l.all (fun a=>inB a (-1) (x.size-1))
  case false=>
    have HE:Hid (brB x l=false):=brB_ents (by rw [ents_split,h3];rfl)
    go_wp2
    go_ret
    exact ⟨ret_bool HE.out.symm,W3.out⟩
  have HMX:Hid (someB l=decide (0≤maxTo l (n-1))):=by have:=someB_max (l:=l) (by rw [HL.out];omega);rw [HL.out] at this;exact this
  have hmx:=slicesMax_any A c l w3 (SlI.below HS.out W3.out) (by rw [HL.out];omega) (by rw [HL.out];omega)
  rw [HL.out] at hmx
  have H3:=Lib.hid h3
  go_wp2_with fail
  refine hmx.mono ?_
  rintro e w' ⟨rfl,rfl⟩
  clear hmx h3
  generalize maxTo l (n-1)=M at *
  by_cases h4:M<0
  · have HE:Hid (brB x l=false):=brB_some (by rw [HMX.out];simp;omega)
    go_wp2
    go_ret
    exact ⟨ret_bool HE.out.symm,W3.out⟩
  have H4:Hid (someB l=true):=by show _=_;rw [HMX.out];simp;omega
  go_wp2
  go_loop [31] (fun i=>∃j:Nat,j≤n∧i=.int .i64 j∧Hid (dupTo l j=true)) (fun i=>n-(intOf i).toNat)
  case atStart=>exact ⟨0,Nat.zero_le _,rfl,rfl⟩
  case round=>
    obtain ⟨j,hj,rfl,HD⟩:=hrel
    by_cases hlt:j<n
    case neg=>
      obtain rfl:n=j:=by omega
      have HE:Hid (brB x l=true):=brB_mk H12.out.1 (by rw [HL.out];exact H12.out.2) (by rw [ents_split,H3.out,HL.out,HD.out];rfl) H4.out
      go_wp2
      go_ret
      exact ⟨ret_bool HE.out.symm,W3.out⟩
    obtain ⟨b,off,a,rfl,ha,hca,-⟩:=(SlI.below HS.out W3.out).at_ (k:=j) (by rw [HL.out];exact hlt)
    have HTK:Hid (SlI w3 (some ⟨b,off,none⟩) (l.take j)∧(l.take j).length=j):=⟨(SlI.below HS.out W3.out).take_ j,by rw [List.length_take,HL.out];omega⟩
    have HGD:=Lib.hid (getD_of ha)
    clear ha
    by_cases h0:0≤a
    case neg=>
      have HN:Hid (dupTo l (j+1)=true):=by show _=_;rw [dupTo_snoc,HD.out,HGD.out];simp [h0]
      go_wp2
      go_round
      case rel=>exact ⟨j+1,by omega,by go_num,HN⟩
      case measure=>simp [intOf];omega
    have hcc:=containsI_any (some ⟨b,off,none⟩) c (l.take j) a w3 HTK.out.1 (by rw [HTK.out.2];omega)
    rw [HTK.out.2] at hcc
    have HCC:=Lib.hid hcc
    clear hcc
    cases h5:(l.take j).contains a
    case true=>
      have HE:Hid (brB x l=false):=brB_ents (by rw [ents_split,HL.out,dupTo_bad hlt (by rw [HGD.out];exact h0) (by rw [HGD.out];exact h5)];simp)
      go_wp2_with (go_at_call 253;refine HCC.out.mono ?_;rintro e w' ⟨rfl,rfl⟩;rw [h5])
      go_ret
      exact ⟨ret_bool HE.out.symm,W3.out⟩
    · have HN:Hid (dupTo l (j+1)=true):=by show _=_;rw [dupTo_snoc,HD.out,HGD.out,h5];simp
      go_wp2_with (go_at_call 253;refine HCC.out.mono ?_;rintro e w' ⟨rfl,rfl⟩;rw [h5])
      go_round
      case rel=>exact ⟨j+1,by omega,by go_num,HN⟩
      case measure=>simp [intOf];omega
theorem implNextRound_any (v:Value) (x:TourV) (u:Value) (l:List Int) (m:Nat) (w:World) (hs:InT w v x) (hu:InI w u l) (hok:tourB x=true) (hr:rngB x.wins.length l) (hl:l.length=2*m) (hm4:m≤4):
    Calls Tryz.prog 181 #[v,u] w fun e w'=>∃v',e=.returned v'∧Fr w' w.heap.size w'.heap.size v' (brNextTo x.wins l m)∧Below w.heap.size w w':=by
  obtain ⟨t1,t2,t3,t4,_⟩:=tourB_t hok
  have HIT:=Lib.hid hs
  have HWB:=Lib.hid t4
  obtain ⟨u0,rfl,A0,c0,rfl,hc0,hm0,hs0⟩:=hs
  obtain ⟨A,c,rfl,hc,hm,hsl⟩:=hu
  have HS:=Lib.hid hsl
  have HR:=Lib.hid hr
  have hn8:x.wins.length≤8:=by omega
  clear hs0 hsl hok t4 hr hc0 hm0
  unfold maxLen at hm
  have W1:Hid (InT (w.alloc (.cells #[.int .i64 x.size,.slice A0 x.wins.length c0] 27)) (.agg #[.int .i64 x.size,.slice A0 x.wins.length c0]) x∧Below w.heap.size w (w.alloc (.cells #[.int .i64 x.size,.slice A0 x.wins.length c0] 27))∧Bx (w.alloc (.cells #[.int .i64 x.size,.slice A0 x.wins.length c0] 27)) w.heap.size (.int .i64 x.size) (.slice A0 x.wins.length c0)∧SlI (w.alloc (.cells #[.int .i64 x.size,.slice A0 x.wins.length c0] 27)) A l):=
    ⟨HIT.out.below ((Below.refl _ w).alloc (Nat.le_refl _) _),(Below.refl _ w).alloc (Nat.le_refl _) _,by simp [Bx],SlI.alloc HS.out _⟩
  rw [hl] at hc ⊢
  have HL:=Lib.hid hl
  clear hl
  go_enter Tryz.func181,Tryz.ntmps181
  go_wp2_with fail
  generalize w.alloc (.cells #[.int .i64 x.size,.slice A0 x.wins.length c0] 27)=w1 at *
  have hz1:w.heap.size<w1.heap.size:=W1.out.2.2.1.2.2
  go_loopw [5,6] (fun v i wr=>∃(k:Nat) (fv:Value),k≤m∧i=.int .i64 ((2*k:Nat):Int)∧fv=v∧Hid (Fr wr w1.heap.size wr.heap.size fv (brNextTo x.wins l k)∧Below w1.heap.size w1 wr)) (fun _ i _=>2*m-(intOf i).toNat)
  case atStart=>exact ⟨0,_,Nat.zero_le _,rfl,rfl,Fr.nil _ (Nat.le_refl _),Below.refl _ _⟩
  case round=>
    obtain ⟨k,fv,hk,rfl,rfl,HT⟩:=hrel
    by_cases hlt:k<m
    case neg=>
      obtain rfl:m=k:=by omega
      go_wp2
      go_ret
      exact ⟨_,rfl,HT.out.1.wide (Nat.le_of_lt hz1) (Nat.le_refl _) (Nat.le_refl _),W1.out.2.1.trans (HT.out.2.mono (Nat.le_of_lt hz1))⟩
    obtain ⟨q,hq⟩:∃q,q=2*k:=⟨_,rfl⟩
    obtain ⟨p,hp⟩:∃p,p=q+1:=⟨_,rfl⟩
    have hql:q<2*m:=by omega
    have hpl:p<2*m:=by omega
    have J1:IntKind.i64.wrap ((q:Int)+1)=(p:Int):=by rw [IntKind.wrap_i64];omega
    have hqn:(q:Int)+2≤100:=by omega
    rw [←hq]
    obtain ⟨b,off,a,rfl,ha,hca,-⟩:=(SlI.below W1.out.2.2.2 HT.out.2).at_ (k:=q) (by rw [HL.out];exact hql)
    obtain ⟨b',off',d,e,hd,hcd,-⟩:=(SlI.below W1.out.2.2.2 HT.out.2).at_ (k:=p) (by rw [HL.out];exact hpl)
    injection e with e;injection e with r1 r2 _;subst r1;subst r2
    have hra:=rngB_at HR.out ha
    have hrd:=rngB_at HR.out hd
    have HNX:Hid (brNextTo x.wins l (k+1)=brNextTo x.wins l k++[goesOn x.wins a d]):=by
      show _=_
      rw [brNextTo,←hq,←hp,getD_of ha,getD_of hd]
    have HQ:=Lib.hid (And.intro hq hp)
    have HXL:Hid ((brNextTo x.wins l k).length=k):=brNextTo_length _ _ _
    clear ha hd hq hp
    generalize brNextTo x.wins l k=xs at *
    go_wp2
    go_quiet (fail)
    have W2:Hid (Fr (wr.drewN nq) w1.heap.size (wr.drewN nq).heap.size fv xs∧Below w1.heap.size w1 (wr.drewN nq)):=⟨HT.out.1.drewN _,below_drewN HT.out.2 _⟩
    clear hca hcd
    generalize wr.drewN nq=w2 at *
    obtain ⟨q0,q1,_⟩:=W1.out.2.2.1.below W2.out.2
    have hxl16:xs.length≤1048576:=by rw [HXL.out];omega
    by_cases h1:a<0
    · have HG:Hid (goesOn x.wins a d=d):=by show _=_;unfold goesOn;rw [if_pos (.inl h1)]
      go_wp2_with (at_builtin;refine app1 rfl _ _ rfl w2 w1.heap.size fv xs.length xs rfl W2.out.1.own d rfl hxl16 W2.out.2.size ?_;intro v' w9 hown9 hb9 hsz9 _;have H9:Hid (Fr w9 w1.heap.size w9.heap.size v' (xs++[d])∧Below w1.heap.size w1 w9):=⟨Fr.of_own (by rw [List.length_append,List.length_singleton];exact hown9),W2.out.2.trans (hb9 w1.heap.size (Nat.le_refl _) W2.out.2.size)⟩;clear hown9 hb9 hsz9)
      go_roundw
      case rel=>exact ⟨k+1,_,by omega,by have:=HQ.out.1;exact congrArg (Value.int .i64) (by omega),rfl,by rw [HNX.out,HG.out];exact H9.out⟩
      case measure=>simp [intOf];omega
    by_cases h2:0≤d
    case neg=>
      have HG:Hid (goesOn x.wins a d=a):=by show _=_;unfold goesOn;rw [if_neg (by omega)]
      go_wp2_with (at_builtin;refine app1 rfl _ _ rfl w2 w1.heap.size fv xs.length xs rfl W2.out.1.own a rfl hxl16 W2.out.2.size ?_;intro v' w9 hown9 hb9 hsz9 _;have H9:Hid (Fr w9 w1.heap.size w9.heap.size v' (xs++[a])∧Below w1.heap.size w1 w9):=⟨Fr.of_own (by rw [List.length_append,List.length_singleton];exact hown9),W2.out.2.trans (hb9 w1.heap.size (Nat.le_refl _) W2.out.2.size)⟩;clear hown9 hb9 hsz9)
      go_roundw
      case rel=>exact ⟨k+1,_,by omega,by have:=HQ.out.1;exact congrArg (Value.int .i64) (by omega),rfl,by rw [HNX.out,HG.out];exact H9.out⟩
      case measure=>simp [intOf];omega
    obtain ⟨an,rfl⟩:=Int.eq_ofNat_of_zero_le (show 0≤a by omega)
    obtain ⟨dn,rfl⟩:=Int.eq_ofNat_of_zero_le h2
    cases h3:bt x.wins dn an
    · have HG:Hid (goesOn x.wins (an:Int) (dn:Int)=(an:Int)):=by show _=_;unfold goesOn;rw [if_neg (by simp [h3])]
      have HBT:=Lib.hid h3
      clear h3
      go_wp2_with (first|(go_at_call 150;refine (implBeats_any _ x dn an w2 (W1.out.1.below W2.out.2) hn8 HWB.out (by omega) (by omega)).mono ?_;rintro e w4 ⟨rfl,hb⟩;rw [HBT.out];have W4:Hid (Fr w4 w1.heap.size w4.heap.size fv xs∧Below w1.heap.size w1 w4):=⟨(W2.out.1.grow hb).wide (Nat.le_refl _) hb.size (Nat.le_refl _),W2.out.2.trans (hb.mono W2.out.2.size)⟩;clear hb)|(at_builtin;refine app1 rfl _ _ rfl w4 w1.heap.size fv xs.length xs rfl W4.out.1.own (an:Int) rfl hxl16 W4.out.2.size ?_;intro v' w9 hown9 hb9 hsz9 _;have H9:Hid (Fr w9 w1.heap.size w9.heap.size v' (xs++[(an:Int)])∧Below w1.heap.size w1 w9):=⟨Fr.of_own (by rw [List.length_append,List.length_singleton];exact hown9),W4.out.2.trans (hb9 w1.heap.size (Nat.le_refl _) W4.out.2.size)⟩;clear hown9 hb9 hsz9))
      go_roundw
      case rel=>exact ⟨k+1,_,by omega,by have:=HQ.out.1;exact congrArg (Value.int .i64) (by omega),rfl,by rw [HNX.out,HG.out];exact H9.out⟩
      case measure=>simp [intOf];omega
    · have HG:Hid (goesOn x.wins (an:Int) (dn:Int)=(dn:Int)):=by show _=_;unfold goesOn;rw [if_pos (by simp [h3])]
      have HBT:=Lib.hid h3
      clear h3
      go_wp2_with (first|(go_at_call 150;refine (implBeats_any _ x dn an w2 (W1.out.1.below W2.out.2) hn8 HWB.out (by omega) (by omega)).mono ?_;rintro e w4 ⟨rfl,hb⟩;rw [HBT.out];have W4:Hid (Fr w4 w1.heap.size w4.heap.size fv xs∧Below w1.heap.size w1 w4):=⟨(W2.out.1.grow hb).wide (Nat.le_refl _) hb.size (Nat.le_refl _),W2.out.2.trans (hb.mono W2.out.2.size)⟩;clear hb)|(at_builtin;refine app1 rfl _ _ rfl w4 w1.heap.size fv xs.length xs rfl W4.out.1.own (dn:Int) rfl hxl16 W4.out.2.size ?_;intro v' w9 hown9 hb9 hsz9 _;have H9:Hid (Fr w9 w1.heap.size w9.heap.size v' (xs++[(dn:Int)])∧Below w1.heap.size w1 w9):=⟨Fr.of_own (by rw [List.length_append,List.length_singleton];exact hown9),W4.out.2.trans (hb9 w1.heap.size (Nat.le_refl _) W4.out.2.size)⟩;clear hown9 hb9 hsz9))
      go_roundw
      case rel=>exact ⟨k+1,_,by omega,by have:=HQ.out.1;exact congrArg (Value.int .i64) (by omega),rfl,by rw [HNX.out,HG.out];exact H9.out⟩
      case measure=>simp [intOf];omega
theorem maxTo_pos {l:List Int}:∀k,(∃j,j≤k∧0<l.getD j 0)→0<maxTo l k
 | 0,⟨j,hj,h⟩=>by
            obtain rfl:j=0:=by omega
            exact h
 | k+1,⟨j,hj,h⟩=>by
  unfold maxTo
  by_cases e:j=k+1
  ·subst e;split<;>omega
  ·have:=maxTo_pos k ⟨j,by omega,h⟩
   split<;>omega
theorem strategyOk_any (v:Value) (x:TourV) (A:Option Addr) (c n:Nat) (ws:List Int) (w:World) (hok:tourB x=true) (hs:InT w v x) (hw:SlI w A ws) (hn:ws.length=n) (hxn:x.wins.length=n) (hr:∀y∈ws,0≤y∧y≤100000) (hp:∃j,j<n∧0<ws.getD j 0):
  Calls Tryz.prog 337 #[v,.slice A n c] w fun e w'=>e=.returned (.bool true)∧Below w.heap.size w w':=by
 have HIT:=Lib.hid hs
 have HW:=Lib.hid hw
 obtain ⟨u,rfl,B,d,rfl,hd,hm,hts⟩:=hs
 obtain ⟨t1,t2,t3,t4,_⟩:=tourB_t hok
 have HTO:Hid (∀W,Below w.heap.size w W→Calls Tryz.prog 148 #[.agg #[.int .i64 x.size,.slice B x.wins.length d]] W fun e w'=>e=.returned (.bool true)∧Below W.heap.size W w'):=fun W hW=>by
  have h:=implTourOk_any _ x W (HIT.out.below hW)
  rwa [hok] at h
 have HAW:Hid (∀W,Below w.heap.size w W→Calls Tryz.prog 239 #[.slice A n c,.int .i64 0,.int .i64 100000] W fun e w'=>e=.returned (.bool true)∧Below W.heap.size W w'):=fun W hW=>by
  have h:=allWithin_any A c ws 0 100000 W (HW.out.below hW) (by omega)
  rw [hn,show ws.all (fun x=>inB x 0 100000)=true from List.all_eq_true.2 fun y hy=>inB_t.2 (hr y hy)] at h
  exact h
 obtain ⟨M,HMX⟩:∃M:Int,Hid (0<M∧∀W,Below w.heap.size w W→Calls Tryz.prog 267 #[.slice A n c] W fun e w'=>e=.returned (.int .i64 M)∧W=w'):=⟨maxTo ws (ws.length-1),by
  obtain ⟨j,hj,h⟩:=hp
  refine ⟨maxTo_pos _ ⟨j,by omega,h⟩,fun W hW=>?_⟩
  have h2:=slicesMax_any A c ws W (HW.out.below hW) (by omega) (by omega)
  rw [hn] at h2 ⊢
  exact h2⟩
 have H0:Hid (Bx (w.alloc (.cells #[.int .i64 x.size,.slice B x.wins.length d] 27)) w.heap.size (.int .i64 x.size) (.slice B x.wins.length d)∧Below w.heap.size w (w.alloc (.cells #[.int .i64 x.size,.slice B x.wins.length d] 27))):=⟨⟨by simp,by simp,by simp⟩,(Below.refl _ w).alloc (Nat.le_refl _) _⟩
 have hsz:x.size=(n:Int):=by omega
 rw [hsz] at H0 HTO ⊢
 have hMp:=HMX.out.1
 have hMb:decide (M>0)=true:=by simpa using hMp
 clear hok hts hw hr hp t1 t2 t3 t4 hn hxn hsz
 go_enter Tryz.func337,Tryz.ntmps337
 go_wp2_with fail
 refine (HTO.out _ H0.out.2).mono ?_
 rintro e w1 ⟨rfl,hb1⟩
 have H1:Hid (Bx w1 w.heap.size (.int .i64 (n:Int)) (.slice B x.wins.length d)∧Below w.heap.size w w1):=⟨H0.out.1.below hb1,H0.out.2.trans (hb1.mono H0.out.2.size)⟩
 obtain ⟨q0,q1,-⟩:=id H1.out.1
 clear hb1 H0
 go_wp2_with fail
 refine (HAW.out _ H1.out.2).mono ?_
 rintro e w2 ⟨rfl,hb2⟩
 have H2:Hid (Below w.heap.size w w2):=H1.out.2.trans (hb2.mono H1.out.2.size)
 clear hb2
 go_wp2_with fail
 refine (HMX.out.2 _ H2.out).mono ?_
 rintro e w3 ⟨rfl,rfl⟩
 go_wp2
 go_ret
 exact ⟨rfl,H2.out⟩
theorem isSafe_any (v:Value) (x:TourV) (A:Option Addr) (c n:Nat) (ws:List Int) (w:World) (hok:tourB x=true) (hs:InT w v x) (hw:SlI w A ws) (hn:ws.length=n) (hxn:x.wins.length=n) (hr:∀y∈ws,0≤y∧y≤100000) (hp:∃j,j<n∧0<ws.getD j 0):
  Calls Tryz.prog 262 #[v,.slice A n c] w fun e w'=>e=.returned (.bool (safeB x ws))∧Below w.heap.size w w':=by
 have HIT:=Lib.hid hs
 have HW:=Lib.hid hw
 have HSO:=Lib.hid (fun V (hV:Below w.heap.size w V)=>strategyOk_any v x A c n ws V hok (hs.below hV) (hw.below hV) hn hxn hr hp)
 have HBA:Hid (∀V (b:Nat),Below w.heap.size w V→b<n→Calls Tryz.prog 338 #[v,.slice A n c,.int .i64 (b:Int)] V fun e w'=>e=.returned (.int .i64 (balF (bt x.wins) ws b x.wins.length))∧Below V.heap.size V w'):=fun V b hV hb=>by
  have h:=balance_any v x A c ws b V hok (hs.below hV) (hw.below hV) (by omega) (by omega) hr
  rw [hn] at h
  exact h
 obtain ⟨u,rfl,B,d,rfl,hd,hm,hts⟩:=hs
 obtain ⟨t1,t2,t3,t4,_⟩:=tourB_t hok
 have H0:Hid (Bx (w.alloc (.cells #[.int .i64 x.size,.slice B x.wins.length d] 27)) w.heap.size (.int .i64 x.size) (.slice B x.wins.length d)∧Below w.heap.size w (w.alloc (.cells #[.int .i64 x.size,.slice B x.wins.length d] 27))):=⟨⟨by simp,by simp,by simp⟩,(Below.refl _ w).alloc (Nat.le_refl _) _⟩
 have HSH:Hid (∀b,b<n→balF (bt x.wins) ws b x.wins.length<0→safeB x ws=false):=fun b hb h=>safeB_hit (by omega) h
 have HSA:Hid ((∀b,b<n→0≤balF (bt x.wins) ws b x.wins.length)→safeB x ws=true):=fun h=>safeB_all fun b hb=>h b (by omega)
 have HBB:Hid (∀b,b<n→(balF (bt x.wins) ws b x.wins.length).natAbs≤800000):=fun b hb=>by
  have h:=balF_abs (B:=bt x.wins) (b:=b) hr x.wins.length (by omega)
  omega
 obtain ⟨β,hβ⟩:∃ β:Nat→Int,∀b,balF (bt x.wins) ws b x.wins.length=β b:=⟨_,fun _=>rfl⟩
 simp only [hβ] at HBA HSH HSA HBB
 have hn8:n≤8:=by omega
 have hsz:x.size=(n:Int):=by omega
 rw [hsz] at H0 HSO HBA ⊢
 generalize safeB x ws=SB at *
 clear hok hts hw hr hp t1 t2 t3 t4 hn hxn hsz hβ
 go_enter Tryz.func262,Tryz.ntmps262
 go_wp2_with fail
 refine (HSO.out _ H0.out.2).mono ?_
 rintro e w1 ⟨rfl,hb1⟩
 have H1:Hid (Bx w1 w.heap.size (.int .i64 (n:Int)) (.slice B x.wins.length d)∧Below w.heap.size w w1):=⟨H0.out.1.below hb1,H0.out.2.trans (hb1.mono H0.out.2.size)⟩
 obtain ⟨q0,q1,-⟩:=id H1.out.1
 clear hb1 H0
 go_wp2
 clear q0 q1
 go_loopw [12] (fun i wr=>∃b:Nat,b≤n∧i=.int .i64 (b:Int)∧Hid (Bx wr w.heap.size (.int .i64 (n:Int)) (.slice B x.wins.length d)∧Below w.heap.size w wr)∧Hid (∀j,j<b→0≤β j)) (fun i _=>n-(intOf i).toNat)
 case atStart=>exact ⟨0,Nat.zero_le _,rfl,H1.out,fun j hj=>by omega⟩
 case round=>
  obtain ⟨b,hb,rfl,HR,HP⟩:=hrel
  clear H1
  obtain ⟨q0,q1,-⟩:=id HR.out.1
  by_cases hlt:b<n
  case neg=>
   obtain rfl:n=b:=by omega
   have HT:Hid (SB=true):=HSA.out HP.out
   go_wp2
   go_ret
   exact ⟨ret_bool HT.out.symm,HR.out.2⟩
  have hbb:=HBB.out b hlt
  by_cases hneg:β b<0
  ·have HF:Hid (SB=false):=HSH.out b hlt hneg
   go_wp2_with fail
   refine (HBA.out _ b HR.out.2 hlt).mono ?_
   rintro e w5 ⟨rfl,hb5⟩
   have H5:Hid (Below w.heap.size w w5):=HR.out.2.trans (hb5.mono HR.out.2.size)
   clear hb5
   go_wp2
   go_ret
   exact ⟨ret_bool HF.out.symm,H5.out⟩
  ·have HP2:Hid (∀j,j<b+1→0≤β j):=fun j hj=>by
    rcases Nat.lt_or_ge j b with h|h
    ·exact HP.out j h
    ·obtain rfl:j=b:=by omega
     omega
   go_wp2_with fail
   refine (HBA.out _ b HR.out.2 hlt).mono ?_
   rintro e w5 ⟨rfl,hb5⟩
   have H5:Hid (Bx w5 w.heap.size (.int .i64 (n:Int)) (.slice B x.wins.length d)∧Below w.heap.size w w5):=⟨HR.out.1.below hb5,HR.out.2.trans (hb5.mono HR.out.2.size)⟩
   clear hb5
   go_wp2
   go_roundw
   case rel=>exact ⟨b+1,by omega,by go_num,H5.out,HP2.out⟩
   case measure=>simp [intOf];omega
end Go.Proofs.YtkapoldjcpfdgaaGreatDoor
