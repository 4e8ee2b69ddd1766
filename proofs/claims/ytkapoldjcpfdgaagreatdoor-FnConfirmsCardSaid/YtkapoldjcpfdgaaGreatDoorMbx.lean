/- FnConfirms: the walk of the law (printed by print/cfw.py). -/
import Derived.Test.YtkapoldjcpfdgaaGreatDoorMbw
set_option maxHeartbeats 8000000
set_option maxRecDepth 100000
namespace Go.Proofs.YtkapoldjcpfdgaaGreatDoor
open Go.ChangeShapes Go.WideShapes Go.ChangeAt Go.RowKit
def xs0:TourV:=⟨4,[6,12,8,1]⟩
def xs1:TourV:=⟨4,[14,12,8,0]⟩
def xs2:TourV:=⟨4,[0,1,3,7]⟩
def xs3:TourV:=⟨3,[0,1,3]⟩
def xs4:TourV:=⟨3,[2,4,1]⟩
def xs5:TourV:=⟨7,[22,44,88,49,98,69,11]⟩
theorem ln0:lineA xs0 [115,104,111,119]=(xs0,[52,58,49,49,48,49,49,49]):=by kernel_rfl
theorem ln1:lineA xs0 [115,99,111,114,101,115]=(xs0,[115,99,111,114,101,115,32,50,44,50,44,49,44,49,32,116,114,105,97,110,103,108,101,115,32,50,32,112,97,114,116,115,32,49]):=by kernel_rfl
theorem ln2:lineA xs0 [107,105,110,103,115]=(xs0,[107,105,110,103,115,32,48,44,49,44,51,32,98,97,110,107,115,32,48,44,49,44,51]):=by kernel_rfl
theorem ln3:lineA xs0 [111,114,100,101,114]=(xs0,[48,44,49,44,50,44,51,32,49]):=by kernel_rfl
theorem ln4:lineA xs0 [115,97,102,101]=(xs0,[49,44,49,44,48,44,49]):=by kernel_rfl
theorem ln5:lineA xs0 [119,97,121,115]=(xs0,[53]):=by kernel_rfl
theorem ln6:lineA xs0 [99,121,99,108,101,115]=(xs0,[49]):=by kernel_rfl
theorem ln7:lineA xs0 [100,111,117,98,108,101]=(xs0,[48,44,49,44,50,44,51]):=by kernel_rfl
theorem ln8:lineA xs0 [98,114,97,99,107,101,116,32,48,44,49,44,50,44,51]=(xs0,[48,44,49,44,50,44,51,32,48,44,50,32,48]):=by kernel_rfl
theorem ln9:lineA xs0 [119,105,110,32,48]=(xs0,[48,44,49,44,50,44,51]):=by kernel_rfl
theorem ln10:lineA xs0 [119,105,110,32,51]=(xs0,[110,111,110,101]):=by kernel_rfl
theorem ln11:lineA xs0 [115,119,105,115,115,32,50]=(xs0,[50,44,49,44,49,44,48]):=by kernel_rfl
theorem ln12:lineA xs0 [102,108,105,112,32,51,32,48]=(xs1,[52,58,49,49,49,49,49,49]):=by kernel_rfl
theorem ln13:lineA xs1 [111,114,100,101,114]=(xs1,[48,44,49,44,50,44,51,32,48]):=by kernel_rfl
theorem ln14:lineA xs1 [115,97,102,101]=(xs1,[49,44,48,44,48,44,48]):=by kernel_rfl
theorem ln15:lineA xs1 [116,117,114,110]=(xs2,[52,58,48,48,48,48,48,48]):=by kernel_rfl
theorem ln16:lineA xs2 [112,97,114,116,32,55]=(xs3,[51,58,48,48,48]):=by kernel_rfl
theorem lnR:lineA xs3 [114,101,97,108,105,122,101,32,49,44,49,44,49]=(xs4,[51,58,49,48,49]):=by
 have e1:cutB 32 [114,101,97,108,105,122,101,32,49,44,49,44,49] = [[114,101,97,108,105,122,101],[49,44,49,44,49]]:=by decide +kernel
 have e2:pnB [49,44,49,44,49]=true∧pnF [49,44,49,44,49] = [1,1,1]:=by decide +kernel
 have e3:rzF [1,1,1]=some xs4:=by
  unfold rzF
  rw [sortI_id (by decide)]
  rw [if_pos (by decide +kernel)]
  kernel_rfl
 unfold lineA
 rw [if_neg (by decide),e1]
 show ansL xs3 (runF xs3 [114,101,97,108,105,122,101] [[49,44,49,44,49]])=_
 rw [runF_realize,e2.1,e2.2,e3]
 kernel_rfl
theorem ln18:lineA xs4 [115,113,117,97,114,101,115,32,55]=(xs5,[55,58,49,49,48,49,48,48,49,49,48,49,48,49,49,48,49,49,49,48,49,49,49]):=by kernel_rfl
theorem ln19:lineA xs5 [115,99,111,114,101,115]=(xs5,[115,99,111,114,101,115,32,51,44,51,44,51,44,51,44,51,44,51,44,51,32,116,114,105,97,110,103,108,101,115,32,49,52,32,112,97,114,116,115,32,49]):=by kernel_rfl
theorem ln20:lineA xs5 [99,105,114,99,108,101,32,52,32,48]=(xs5,[48,45,51,32,49,45,50]):=by kernel_rfl
theorem ln21:lineA xs5 [112,108,97,110,32,54]=(xs5,[98,114,101,97,107,115,32,52,32,99,97,114,114,121,32,54,48]):=by kernel_rfl
theorem ln23:lineA xs5 [108,97,110,100,97,117,32,48,44,48,44,51]=(xs5,[110,111]):=by kernel_rfl
theorem ln24:lineA xs5 [119,104,97,116]=(xs5,[117,110,107,110,111,119,110,32,99,111,109,109,97,110,100]):=by kernel_rfl
def cfM (c:UInt8) (x:List UInt8):Prop:=(c=49∧x = [49])∨(c=50∧x = [53])∨(c=51∧x = [49,54])∨(c=52∧x = [52,50])∨(c=53∧x = [57,57])
theorem lnM {c:UInt8}{x:List UInt8} (h:cfM c x):lineA xs5 [109,97,116,99,104,32,51,32,c]=(xs5,x):=by
 rcases h with ⟨rfl,rfl⟩|⟨rfl,rfl⟩|⟨rfl,rfl⟩|⟨rfl,rfl⟩|⟨rfl,rfl⟩<;>kernel_rfl
theorem cfM_ne {c:UInt8}{x:List UInt8} (h:cfM c x):x≠[]:=by
 rcases h with ⟨_,rfl⟩|⟨_,rfl⟩|⟨_,rfl⟩|⟨_,rfl⟩|⟨_,rfl⟩<;>decide
theorem step_of {x y:TourV}{l o acc:List UInt8}{ls:List (List UInt8)} (h:lineA x l=(y,o)) (ho:o≠[]:=by decide):(l :: ls).foldl sessStep (x,acc)=ls.foldl sessStep (y,acc++(o++[10])):=by
 rw [List.foldl_cons]
 unfold sessStep
 simp only [h]
 rw [if_neg ho]
def cfA:List UInt8:=[115,104,111,119,10,115,99,111,114,101,115,10,107,105,110,103,115,10,111,114,100,101,114,10,115,97,102,101,10,119,97,121,115,10,99,121,99,108,101,115,10,100,111,117,98,108,101,10,98,114,97,99,107,101,116,32,48,44,49,44,50,44,51,10,119,105,110,32,48,10,119,105,110,32,51,10,115,119,105,115,115,32,50,10,102,108,105,112,32,51,32,48,10,111,114,100,101,114,10,115,97,102,101,10,116,117,114,110,10,112,97,114,116,32,55,10,114,101,97,108,105,122,101,32,49,44,49,44,49,10,115,113,117,97,114,101,115,32,55,10,115,99,111,114,101,115,10,99,105,114,99,108,101,32,52,32,48,10,112,108,97,110,32,54,10,109,97,116,99,104,32,51,32]
def cfB:List UInt8:=[10,108,97,110,100,97,117,32,48,44,48,44,51,10,119,104,97,116]
def cfT (c:UInt8):List UInt8:=(cfA++[c])++cfB
def cfO (x:List UInt8):List UInt8:=[52,58,49,49,48,49,49,49,10,115,99,111,114,101,115,32,50,44,50,44,49,44,49,32,116,114,105,97,110,103,108,101,115,32,50,32,112,97,114,116,115,32,49,10,107,105,110,103,115,32,48,44,49,44,51,32,98,97,110,107,115,32,48,44,49,44,51,10,48,44,49,44,50,44,51,32,49,10,49,44,49,44,48,44,49,10,53,10,49,10,48,44,49,44,50,44,51,10,48,44,49,44,50,44,51,32,48,44,50,32,48,10,48,44,49,44,50,44,51,10,110,111,110,101,10,50,44,49,44,49,44,48,10,52,58,49,49,49,49,49,49,10,48,44,49,44,50,44,51,32,48,10,49,44,48,44,48,44,48,10,52,58,48,48,48,48,48,48,10,51,58,48,48,48,10,51,58,49,48,49,10,55,58,49,49,48,49,48,48,49,49,48,49,48,49,49,48,49,49,49,48,49,49,49,10,115,99,111,114,101,115,32,51,44,51,44,51,44,51,44,51,44,51,44,51,32,116,114,105,97,110,103,108,101,115,32,49,52,32,112,97,114,116,115,32,49,10,48,45,51,32,49,45,50,10,98,114,101,97,107,115,32,52,32,99,97,114,114,121,32,54,48,10]++(x++[10,110,111,10,117,110,107,110,111,119,110,32,99,111,109,109,97,110,100,10])
def cfL (x:List UInt8):List (List UInt8):=[[52,58,49,49,48,49,49,49],[115,99,111,114,101,115,32,50,44,50,44,49,44,49,32,116,114,105,97,110,103,108,101,115,32,50,32,112,97,114,116,115,32,49],[107,105,110,103,115,32,48,44,49,44,51,32,98,97,110,107,115,32,48,44,49,44,51],[48,44,49,44,50,44,51,32,49],[49,44,49,44,48,44,49],[53],[49],[48,44,49,44,50,44,51],[48,44,49,44,50,44,51,32,48,44,50,32,48],[48,44,49,44,50,44,51],[110,111,110,101],[50,44,49,44,49,44,48],[52,58,49,49,49,49,49,49],[48,44,49,44,50,44,51,32,48],[49,44,48,44,48,44,48],[52,58,48,48,48,48,48,48],[51,58,48,48,48],[51,58,49,48,49],[55,58,49,49,48,49,48,48,49,49,48,49,48,49,49,48,49,49,49,48,49,49,49],[115,99,111,114,101,115,32,51,44,51,44,51,44,51,44,51,44,51,44,51,32,116,114,105,97,110,103,108,101,115,32,49,52,32,112,97,114,116,115,32,49],[48,45,51,32,49,45,50],[98,114,101,97,107,115,32,52,32,99,97,114,114,121,32,54,48],x,[110,111],[117,110,107,110,111,119,110,32,99,111,109,109,97,110,100]]
theorem cf_lines {c:UInt8}{x:List UInt8} (h:cfM c x):linesF (cfT c) = [[115,104,111,119],[115,99,111,114,101,115],[107,105,110,103,115],[111,114,100,101,114],[115,97,102,101],[119,97,121,115],[99,121,99,108,101,115],[100,111,117,98,108,101],[98,114,97,99,107,101,116,32,48,44,49,44,50,44,51],[119,105,110,32,48],[119,105,110,32,51],[115,119,105,115,115,32,50],[102,108,105,112,32,51,32,48],[111,114,100,101,114],[115,97,102,101],[116,117,114,110],[112,97,114,116,32,55],[114,101,97,108,105,122,101,32,49,44,49,44,49],[115,113,117,97,114,101,115,32,55],[115,99,111,114,101,115],[99,105,114,99,108,101,32,52,32,48],[112,108,97,110,32,54],[109,97,116,99,104,32,51,32,c],[108,97,110,100,97,117,32,48,44,48,44,51],[119,104,97,116]]:=by
 rcases h with ⟨rfl,rfl⟩|⟨rfl,rfl⟩|⟨rfl,rfl⟩|⟨rfl,rfl⟩|⟨rfl,rfl⟩<;>kernel_rfl
theorem cf_outs {c:UInt8}{x:List UInt8} (h:cfM c x):linesF (cfO x)=cfL x:=by
 rcases h with ⟨rfl,rfl⟩|⟨rfl,rfl⟩|⟨rfl,rfl⟩|⟨rfl,rfl⟩|⟨rfl,rfl⟩<;>kernel_rfl
theorem cf_sess {c:UInt8}{x:List UInt8} (h:cfM c x):outS (cfT c)=cfO x:=by
 unfold outS
 rw [cf_lines h,if_neg (by simp)]
 unfold sessF
 rw [show console4=xs0 from rfl,step_of ln0,step_of ln1,step_of ln2,step_of ln3,step_of ln4,step_of ln5,step_of ln6,step_of ln7,step_of ln8,step_of ln9,step_of ln10,step_of ln11,step_of ln12,step_of ln13,step_of ln14,step_of ln15,step_of ln16,step_of lnR,step_of ln18,step_of ln19,step_of ln20,step_of ln21,step_of (lnM h) (cfM_ne h),step_of ln23,step_of ln24]
 rcases h with ⟨rfl,rfl⟩|⟨rfl,rfl⟩|⟨rfl,rfl⟩|⟨rfl,rfl⟩|⟨rfl,rfl⟩<;>kernel_rfl
theorem carry60:sqS (carR 6 (circF 6) (circF 6).length)=60:=by kernel_rfl
theorem circ6:planB 6 (circF 6)=true∧clubsB 6=true:=by constructor<;>kernel_rfl
theorem makeCarry_any (w:World):Calls Tryz.prog 15 #[] w fun e w'=>e=.returned (.int .i64 60)∧Below w.heap.size w w':=by
 have HV:Hid (∀W v,InS W v (circF 6)→Calls Tryz.prog 38 #[.int .i64 6,v] W fun e w'=>e=.returned (.int .i64 60)∧Below W.heap.size W w'):=fun W v hv=>by
  have h:=specValue_any v (circF 6) 6 W hv circ6.1 (by decide +kernel)
  rw [carry60] at h
  exact h
 have HP:Hid (Calls Tryz.prog 37 #[.int .i64 6] w fun e w'=>∃v',e=.returned (.tuple #[v',.bool true])∧InS w' v' (circF 6)∧Below w.heap.size w w'):=(specCirclePlan_any 6 w).mono fun e w' ⟨v',h1,h2,h3⟩=>⟨v',by rw [h1,circ6.2],h2.in_,h3⟩
 go_enter Tryz.func15,Tryz.ntmps15
 go_wp2_with (first
  | (go_at_call 37;refine HP.out.mono ?_;rintro e w1 ⟨v1,rfl,hi,hb⟩;have B1:=Lib.hid (And.intro hi hb);clear hi hb)
  | (go_at_call 38;refine (HV.out _ _ B1.out.1).mono ?_;rintro e w2 ⟨rfl,hb⟩;have B2:Hid (Below w.heap.size w w2):=B1.out.2.trans (hb.mono B1.out.2.size);clear hb))
 go_ret
 exact ⟨rfl,B2.out⟩
theorem lawFnConfirms (v:Value) (n:Nat) (w:World) (hv:InB w v n) (hc:ComP w):
  Calls Tryz.prog 4 #[v] w fun e w'=>e=.returned (.bool true)∧Below w.heap.size w w':=by
 have HV:=Lib.hid hv
 have HC:=Lib.hid hc
 obtain ⟨A0,c0,rfl,hcn,hcm,hby⟩:=hv
 by_cases hn:(1048576:Int)<(n:Int)
 ·go_enter Tryz.func4,Tryz.ntmps4
  go_wp2
  go_ret
  exact ⟨rfl,Below.refl _ _⟩
 have HMK:Hid (Calls Tryz.prog 12 #[.slice A0 n c0,.int .i64 1] w fun e w'=>∃q:Nat,q≤65535∧e=.returned (.int .i64 (q:Int))∧Below w.heap.size w w'):=makeNum_any _ n 1 w HV.out (by omega) (by decide)
 clear hby hcn hcm hc
 go_enter Tryz.func4,Tryz.ntmps4
 go_wp2_with fail
 refine HMK.out.mono ?_
 rintro e w1 ⟨q,-,rfl,hb⟩
 have B1:=Lib.hid hb
 obtain ⟨m,k,c,x,hqm,hx,hm⟩:∃(m:Nat) (k:Int) (c:UInt8) (x:List UInt8),q%5=m∧cfM c x∧((m=0∧k=1∧c=49∧x = [49])∨(m=1∧k=2∧c=50∧x = [53])∨(m=2∧k=3∧c=51∧x = [49,54])∨(m=3∧k=4∧c=52∧x = [52,50])∨(m=4∧k=5∧c=53∧x = [57,57])):=by
  have:q%5=0∨q%5=1∨q%5=2∨q%5=3∨q%5=4:=by omega
  rcases this with h|h|h|h|h
  ·exact ⟨0,1,49,[49],h,by simp [cfM],by simp⟩
  ·exact ⟨1,2,50,[53],h,by simp [cfM],by simp⟩
  ·exact ⟨2,3,51,[49,54],h,by simp [cfM],by simp⟩
  ·exact ⟨3,4,52,[52,50],h,by simp [cfM],by simp⟩
  ·exact ⟨4,5,53,[57,57],h,by simp [cfM],by simp⟩
 have HFI:Hid (∀W (x:Int),Below w.heap.size w W→0≤x→x≤100→Calls Tryz.prog 13 #[.int .i64 x] W fun e w'=>e=.returned (.string ⟨(Lib.itoa x).toArray⟩)∧Below W.heap.size W w'):=fun W x hW h0 h1=>implFormatInt_any x W (by omega) (by omega) (HC.out.below hW).1
 have HRS:Hid (∀W,Below w.heap.size w W→Calls Tryz.prog 10 #[.string ⟨(cfT c).toArray⟩] W fun e w'=>e=.returned (.tuple #[.string ⟨(cfO x).toArray⟩,.int .i64 (numS (cfT c))])∧Below W.heap.size W w'):=fun W hW=>by
  have h:=runSession_any (cfT c) W (HC.out.below hW) (by simp [cfT,cfA,cfB])
  rw [cf_sess hx] at h
  exact h
 have HSP:Hid (∀W,Below w.heap.size w W→Calls Tryz.prog 14 #[.string ⟨(cfO x).toArray⟩] W fun e w'=>∃g,e=.returned (.slice (some ⟨g,0,none⟩) 25 25)∧g<w'.heap.size∧(∀k z,(cfL x)[k]? = some z→w'.cell? ⟨g,k,none⟩=some (.string ⟨z.toArray⟩))∧Below W.heap.size W w'):=fun W hW=>by
  refine (splitLines_any (cfO x) W (by rcases hm with ⟨_,_,_,rfl⟩|⟨_,_,_,rfl⟩|⟨_,_,_,rfl⟩|⟨_,_,_,rfl⟩|⟨_,_,_,rfl⟩<;>decide) (HC.out.below hW).2.2).mono ?_
  rintro e w' ⟨g,hg,rfl,hsl,hb⟩
  rw [cf_outs hx] at hsl ⊢
  have hcl:∀k z,(cfL x)[k]? = some z→w'.cell? ⟨g,k,none⟩=some (.string ⟨z.toArray⟩):=by
   rcases hsl with h|⟨b,off,e,h⟩
   ·exact absurd (congrArg List.length h) (by simp [cfL,strs])
   ·injection e with e
    injection e with e1 e2
    subst e1;subst e2
    intro k z hk
    have:=h k (.string ⟨z.toArray⟩) (by simp [strs,hk])
    rwa [Nat.zero_add] at this
  exact ⟨g,rfl,block_lt_of_cell (a:=⟨g,0,none⟩) (hcl 0 _ rfl),hcl,hb⟩
 have hi:Lib.itoa k = [c]∧0≤k∧k≤100:=by rcases hm with ⟨_,rfl,rfl,_⟩|⟨_,rfl,rfl,_⟩|⟨_,rfl,rfl,_⟩|⟨_,rfl,rfl,_⟩|⟨_,rfl,rfl,_⟩<;>decide +kernel
 have HFK:Hid (∀W,Below w.heap.size w W→Calls Tryz.prog 13 #[.int .i64 k] W fun e w'=>e=.returned (.string ⟨[c].toArray⟩)∧Below W.heap.size W w'):=fun W hW=>by
  have h:=HFI.out W k hW hi.2.1 hi.2.2
  rw [hi.1] at h
  exact h
 generalize numS (cfT c)=qn at *
 have hcat:(⟨#[115,104,111,119,10,115,99,111,114,101,115,10,107,105,110,103,115,10,111,114,100,101,114,10,115,97,102,101,10,119,97,121,115,10,99,121,99,108,101,115,10,100,111,117,98,108,101,10,98,114,97,99,107,101,116,32,48,44,49,44,50,44,51,10,119,105,110,32,48,10,119,105,110,32,51,10,115,119,105,115,115,32,50,10,102,108,105,112,32,51,32,48,10,111,114,100,101,114,10,115,97,102,101,10,116,117,114,110,10,112,97,114,116,32,55,10,114,101,97,108,105,122,101,32,49,44,49,44,49,10,115,113,117,97,114,101,115,32,55,10,115,99,111,114,101,115,10,99,105,114,99,108,101,32,52,32,48,10,112,108,97,110,32,54,10,109,97,116,99,104,32,51,32]⟩:ByteArray)++⟨[c].toArray⟩=⟨(cfA++[c]).toArray⟩:=bcat cfA [c]
 have hcat2:(⟨(cfA++[c]).toArray⟩:ByteArray)++⟨#[10,108,97,110,100,97,117,32,48,44,48,44,51,10,119,104,97,116]⟩=⟨(cfT c).toArray⟩:=bcat (cfA++[c]) cfB
 have hl1:¬ 9223372036854775807<173 + [c].length:=by simp
 have hl2:¬ 9223372036854775807<(cfA++[c]).length+18:=by simp [cfA]
 generalize cfA++[c]=TA at hcat hcat2 hl2
 generalize [c]=C1 at HFK hcat hl1
 generalize cfT c=TT at *
 generalize cfO x=TO at *
 have hi6:Lib.itoa 60 = [54,48]:=by decide +kernel
 have HMC:Hid (∀W,Calls Tryz.prog 15 #[] W fun e w'=>e=.returned (.int .i64 60)∧Below W.heap.size W w'):=Lib.hid fun W=>makeCarry_any W
 have HF6:Hid (∀W,Below w.heap.size w W→Calls Tryz.prog 13 #[.int .i64 60] W fun e w'=>e=.returned (.string ⟨#[54,48]⟩)∧Below W.heap.size W w'):=Lib.hid fun W hW=>by
  have h:=HFI.out W 60 hW (by decide) (by decide)
  rw [hi6] at h
  exact h
 clear hi hi6 hx hb HMK HV
 have hA:([.int .i64 1,.int .i64 2,.int .i64 3,.int .i64 4,.int .i64 5]:List Value)[q%5]'(Nat.mod_lt _ (by decide))=.int .i64 k:=by simp only [hqm];rcases hm with ⟨rfl,rfl,_⟩|⟨rfl,rfl,_⟩|⟨rfl,rfl,_⟩|⟨rfl,rfl,_⟩|⟨rfl,rfl,_⟩<;>rfl
 have hB:([.string ⟨#[49]⟩,.string ⟨#[53]⟩,.string ⟨#[49,54]⟩,.string ⟨#[52,50]⟩,.string ⟨#[57,57]⟩]:List Value)[q%5]'(Nat.mod_lt _ (by decide))=.string ⟨x.toArray⟩:=by simp only [hqm];rcases hm with ⟨rfl,_,_,rfl⟩|⟨rfl,_,_,rfl⟩|⟨rfl,_,_,rfl⟩|⟨rfl,_,_,rfl⟩|⟨rfl,_,_,rfl⟩<;>rfl
 have h5:q%5<5:=by omega
 have HA:=Lib.hid hA
 have HB:=Lib.hid hB
 clear hm hqm hA hB
 ·skip
  have t0:Hid True:=trivial
  go_wp2_with (first
   | (go_at_call 13;have h_:=t0.out;clear h_ t0;rw [HA.out];refine (HFK.out _ (B1.out.trans (((Below.refl _ w1).alloc (Nat.le_refl _) _).mono B1.out.size))).mono ?_;rintro e w2 ⟨rfl,hb⟩;have B2:Hid (Below w.heap.size w w2):=(B1.out.trans (((Below.refl _ w1).alloc (Nat.le_refl _) _).mono B1.out.size)).trans (hb.mono (Nat.le_trans B1.out.size ((Below.refl w1.heap.size w1).alloc (Nat.le_refl _) _).size));clear hb)
   | (go_at_call 10;refine (HRS.out _ B2.out).mono ?_;rintro e w3 ⟨rfl,hb⟩;have B3:Hid (Below w.heap.size w w3):=B2.out.trans (hb.mono B2.out.size);clear hb))
  refine (HSP.out _ B3.out).mono ?_
  rintro e w4 ⟨g,rfl,hg,hcl,hb⟩
  have B4:Hid (Below w.heap.size w w4):=B3.out.trans (hb.mono B3.out.size)
  have HG:=Lib.hid hg
  have HCL:=Lib.hid hcl
  clear hb hg hcl
  go_upto_region 6 with fail
  have HD4:Hid (Below w4.heap.size w4 w4.drew):=below_of_drewN _ w4 1
  have HX:∀W,Below w4.heap.size w4 W→Hid (∀k z,(cfL x)[k]? = some z→W.cell? ⟨g,k,none⟩=some (.string ⟨z.toArray⟩)):=fun W hW=>Lib.hid (fun k z hk=>by
   exact (hW.cell (p:=⟨g,k,none⟩) HG.out).trans (HCL.out k z hk))
  have hc6:(⟨#[98,114,101,97,107,115,32,52,32,99,97,114,114,121,32]⟩:ByteArray)++⟨#[54,48]⟩=⟨#[98,114,101,97,107,115,32,52,32,99,97,114,114,121,32,54,48]⟩:=by decide
  clear hcat hcat2
  refine wp_region_noPanic ?_
  refine wp_region_held_drew (S:=fun W=>Hid (∀k z,(cfL x)[k]? = some z→W.cell? ⟨g,k,none⟩=some (.string ⟨z.toArray⟩))) (by kernel_rfl) HCL (fun hHeld=>?_)
  refine wS0 137 ?_
  iterate 4 (refine wS _ _ ?_;try simp only [pu])
  iterate 2 (refine wS _ _ ?_;try simp only [pu])
  refine wS 6 (.string ⟨#[52,58,49,49,48,49,49,49]⟩) ?_ (hy:=fun w hSw=>?hy)
  case hy=>((try dsimp only at hSw);have hk:=hSw.out 0 _ rfl;go_simp)
  try simp only [pu]
  iterate 3 (refine wS _ _ ?_;try simp only [pu])
  iterate 2 (refine wS _ _ ?_;try simp only [pu])
  refine wS 12 (.string ⟨#[115,99,111,114,101,115,32,50,44,50,44,49,44,49,32,116,114,105,97,110,103,108,101,115,32,50,32,112,97,114,116,115,32,49]⟩) ?_ (hy:=fun w hSw=>?hy)
  case hy=>((try dsimp only at hSw);have hk:=hSw.out 1 _ rfl;go_simp)
  try simp only [pu]
  iterate 3 (refine wS _ _ ?_;try simp only [pu])
  iterate 2 (refine wS _ _ ?_;try simp only [pu])
  refine wS 18 (.string ⟨#[107,105,110,103,115,32,48,44,49,44,51,32,98,97,110,107,115,32,48,44,49,44,51]⟩) ?_ (hy:=fun w hSw=>?hy)
  case hy=>((try dsimp only at hSw);have hk:=hSw.out 2 _ rfl;go_simp)
  try simp only [pu]
  iterate 3 (refine wS _ _ ?_;try simp only [pu])
  iterate 2 (refine wS _ _ ?_;try simp only [pu])
  refine wS 24 (.string ⟨#[48,44,49,44,50,44,51,32,49]⟩) ?_ (hy:=fun w hSw=>?hy)
  case hy=>((try dsimp only at hSw);have hk:=hSw.out 3 _ rfl;go_simp)
  try simp only [pu]
  iterate 3 (refine wS _ _ ?_;try simp only [pu])
  iterate 2 (refine wS _ _ ?_;try simp only [pu])
  refine wS 30 (.string ⟨#[49,44,49,44,48,44,49]⟩) ?_ (hy:=fun w hSw=>?hy)
  case hy=>((try dsimp only at hSw);have hk:=hSw.out 4 _ rfl;go_simp)
  try simp only [pu]
  iterate 3 (refine wS _ _ ?_;try simp only [pu])
  iterate 2 (refine wS _ _ ?_;try simp only [pu])
  refine wS 36 (.string ⟨#[53]⟩) ?_ (hy:=fun w hSw=>?hy)
  case hy=>((try dsimp only at hSw);have hk:=hSw.out 5 _ rfl;go_simp)
  try simp only [pu]
  iterate 3 (refine wS _ _ ?_;try simp only [pu])
  iterate 2 (refine wS _ _ ?_;try simp only [pu])
  refine wS 42 (.string ⟨#[49]⟩) ?_ (hy:=fun w hSw=>?hy)
  case hy=>((try dsimp only at hSw);have hk:=hSw.out 6 _ rfl;go_simp)
  try simp only [pu]
  iterate 3 (refine wS _ _ ?_;try simp only [pu])
  iterate 2 (refine wS _ _ ?_;try simp only [pu])
  refine wS 48 (.string ⟨#[48,44,49,44,50,44,51,32,48,44,50,32,48]⟩) ?_ (hy:=fun w hSw=>?hy)
  case hy=>((try dsimp only at hSw);have hk:=hSw.out 8 _ rfl;go_simp)
  try simp only [pu]
  iterate 3 (refine wS _ _ ?_;try simp only [pu])
  iterate 2 (refine wS _ _ ?_;try simp only [pu])
  refine wS 54 (.string ⟨#[48,44,49,44,50,44,51]⟩) ?_ (hy:=fun w hSw=>?hy)
  case hy=>((try dsimp only at hSw);have hk:=hSw.out 9 _ rfl;go_simp)
  try simp only [pu]
  iterate 3 (refine wS _ _ ?_;try simp only [pu])
  iterate 2 (refine wS _ _ ?_;try simp only [pu])
  refine wS 60 (.string ⟨#[52,58,49,49,49,49,49,49]⟩) ?_ (hy:=fun w hSw=>?hy)
  case hy=>((try dsimp only at hSw);have hk:=hSw.out 12 _ rfl;go_simp)
  try simp only [pu]
  iterate 3 (refine wS _ _ ?_;try simp only [pu])
  iterate 2 (refine wS _ _ ?_;try simp only [pu])
  refine wS 66 (.string ⟨#[48,44,49,44,50,44,51,32,48]⟩) ?_ (hy:=fun w hSw=>?hy)
  case hy=>((try dsimp only at hSw);have hk:=hSw.out 13 _ rfl;go_simp)
  try simp only [pu]
  iterate 3 (refine wS _ _ ?_;try simp only [pu])
  iterate 2 (refine wS _ _ ?_;try simp only [pu])
  refine wS 72 (.string ⟨#[49,44,48,44,48,44,48]⟩) ?_ (hy:=fun w hSw=>?hy)
  case hy=>((try dsimp only at hSw);have hk:=hSw.out 14 _ rfl;go_simp)
  try simp only [pu]
  iterate 3 (refine wS _ _ ?_;try simp only [pu])
  iterate 2 (refine wS _ _ ?_;try simp only [pu])
  refine wS 78 (.string ⟨#[52,58,48,48,48,48,48,48]⟩) ?_ (hy:=fun w hSw=>?hy)
  case hy=>((try dsimp only at hSw);have hk:=hSw.out 15 _ rfl;go_simp)
  try simp only [pu]
  iterate 3 (refine wS _ _ ?_;try simp only [pu])
  iterate 2 (refine wS _ _ ?_;try simp only [pu])
  refine wS 84 (.string ⟨#[51,58,48,48,48]⟩) ?_ (hy:=fun w hSw=>?hy)
  case hy=>((try dsimp only at hSw);have hk:=hSw.out 16 _ rfl;go_simp)
  try simp only [pu]
  iterate 3 (refine wS _ _ ?_;try simp only [pu])
  iterate 2 (refine wS _ _ ?_;try simp only [pu])
  refine wS 90 (.string ⟨#[51,58,49,48,49]⟩) ?_ (hy:=fun w hSw=>?hy)
  case hy=>((try dsimp only at hSw);have hk:=hSw.out 17 _ rfl;go_simp)
  try simp only [pu]
  iterate 3 (refine wS _ _ ?_;try simp only [pu])
  iterate 2 (refine wS _ _ ?_;try simp only [pu])
  refine wS 96 (.string ⟨#[115,99,111,114,101,115,32,51,44,51,44,51,44,51,44,51,44,51,44,51,32,116,114,105,97,110,103,108,101,115,32,49,52,32,112,97,114,116,115,32,49]⟩) ?_ (hy:=fun w hSw=>?hy)
  case hy=>((try dsimp only at hSw);have hk:=hSw.out 19 _ rfl;go_simp)
  try simp only [pu]
  iterate 3 (refine wS _ _ ?_;try simp only [pu])
  iterate 2 (refine wS _ _ ?_;try simp only [pu])
  refine wS 102 (.string ⟨#[48,45,51,32,49,45,50]⟩) ?_ (hy:=fun w hSw=>?hy)
  case hy=>((try dsimp only at hSw);have hk:=hSw.out 20 _ rfl;go_simp)
  try simp only [pu]
  iterate 3 (refine wS _ _ ?_;try simp only [pu])
  iterate 2 (refine wS _ _ ?_;try simp only [pu])
  refine wS 108 (.string ⟨#[98,114,101,97,107,115,32,52,32,99,97,114,114,121,32,54,48]⟩) ?_ (hy:=fun w hSw=>?hy)
  case hy=>((try dsimp only at hSw);have hk:=hSw.out 21 _ rfl;go_simp)
  try simp only [pu]
  refine wRs 109 (fun K hK=>?_)
  go_simp
  go_at_call 15
  (with_reducible refine (HMC.out _).mono ?_)
  rintro e w5 ⟨rfl,hb⟩
  have B5:Hid (Below w4.heap.size w4 w5):=HD4.out.trans (hb.mono HD4.out.size)
  try (go_wp2_with fail)
  refine hK.out _ _ (HX _ B5.out) (fun hHeld=>?_)
  clear hK K
  try simp only [pu]
  clear hb
  refine wRs 110 (fun K hK=>?_)
  go_simp
  go_at_call 13
  (with_reducible refine (HF6.out _ (B4.out.trans (B5.out.mono B4.out.size))).mono ?_)
  rintro e w6 ⟨rfl,hb⟩
  have B6:Hid (Below w4.heap.size w4 w6):=B5.out.trans (hb.mono B5.out.size)
  try (go_wp2_with fail)
  refine hK.out _ _ (HX _ B6.out) (fun hHeld=>?_)
  clear hK K
  try simp only [pu]
  clear hb
  iterate 4 (refine wS _ _ ?_;try simp only [pu])
  iterate 2 (refine wS _ _ ?_;try simp only [pu])
  refine wS 117 (.string ⟨x.toArray⟩) ?_ (hy:=fun w hSw=>?hy)
  case hy=>((try dsimp only at hSw);have hk:=hSw.out 22 _ rfl;go_simp)
  try simp only [pu]
  refine wT 119 _ ?_
  try simp only [pu]
  refine wR 118 (fun K hK=>?_)
  go_simp
  refine hK.out _ _ (HX _ (B6.out.trans (((Below.refl _ w6).alloc (Nat.le_refl _) _).mono B6.out.size))) (fun hHeld=>?_)
  clear hK K
  try simp only [pu]
  rw [show ((upTo 137 118).setIfInBounds 119 true).setIfInBounds 118 true=upTo 137 120 from by kernel_rfl]
  refine wS 120 (.pointer (some ⟨w6.heap.size,q%5,none⟩)) ?_ (hy:=fun w hSw=>?hy)
  case hy=>((try dsimp only at hSw);(have hk:((q:Int)%5).toNat=q%5:=by omega);(have hk2:0≤(q:Int)%5∧(q:Int)%5<5:=by omega);go_simp)
  try simp only [pu]
  refine wRs 121 (fun K hK=>?_)
  (go_simp;rw [HB.out])
  refine hK.out _ _ (HX _ (B6.out.trans (((Below.refl _ w6).alloc (Nat.le_refl _) _).mono B6.out.size))) (fun hHeld=>?_)
  clear hK K
  try simp only [pu]
  iterate 3 (refine wS _ _ ?_;try simp only [pu])
  iterate 2 (refine wS _ _ ?_;try simp only [pu])
  refine wS 127 (.string ⟨#[110,111]⟩) ?_ (hy:=fun w hSw=>?hy)
  case hy=>((try dsimp only at hSw);have hk:=hSw.out 23 _ rfl;go_simp)
  try simp only [pu]
  iterate 3 (refine wS _ _ ?_;try simp only [pu])
  iterate 2 (refine wS _ _ ?_;try simp only [pu])
  refine wS 133 (.string ⟨#[117,110,107,110,111,119,110,32,99,111,109,109,97,110,100]⟩) ?_ (hy:=fun w hSw=>?hy)
  case hy=>((try dsimp only at hSw);have hk:=hSw.out 24 _ rfl;go_simp)
  try simp only [pu]
  iterate 2 (refine wS _ _ ?_;try simp only [pu])
  iterate 1 (refine wS _ _ ?_;try simp only [pu])
  refine wpAnyH_done (by kernel_rfl) ?_ _
  refine NoPanic.normal ?_
  go_wp2
  go_ret
  exact ⟨rfl,B4.out.trans ((B6.out.trans (((Below.refl _ w6).alloc (Nat.le_refl _) _).mono B6.out.size)).mono B4.out.size)⟩
end Go.Proofs.YtkapoldjcpfdgaaGreatDoor
