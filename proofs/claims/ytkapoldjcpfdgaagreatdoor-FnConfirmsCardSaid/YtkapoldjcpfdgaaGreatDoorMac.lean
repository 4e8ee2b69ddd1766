/- Orders: ladders, places, inverse orders. -/
import Derived.Laws.BitsLemmas
import Derived.ChangeOld
import Derived.Deep.Matrix
import Derived.ShutString
import Derived.Lib.SmallJoins
import Derived.Test.YtkapoldjcpfdgaaGreatDoorMab
set_option maxHeartbeats 4000000
set_option maxRecDepth 100000
namespace Go.Proofs.YtkapoldjcpfdgaaGreatDoor
open Go.ChangeShapes Go.WideShapes Go.ChangeAt Go.RowKit
theorem two_subN:∀k:Fin 9,IntKind.i64.wrap (IntKind.i64.wrap (2^k.val)-1)=(2:Int)^k.val-1:=by decide +kernel
theorem tk_below {w w2:World}{o:Obj} (h:Below ((w.alloc o).drew).heap.size (w.alloc o).drew w2):Below w.heap.size w w2∧w.heap.size<w2.heap.size:=
 ⟨((Below.refl w.heap.size w).alloc (Nat.le_refl _) o).trans ((below_undraw (q:=1) h).mono (by simp [World.drew])),Nat.lt_of_lt_of_le (by simp [World.drew]) h.size⟩
theorem implTourOk_any (v:Value) (x:TourV) (w:World) (hs:InT w v x):
  Calls Tryz.prog 148 #[v] w fun e w'=>e=.returned (.bool (tourB x))∧Below w.heap.size w w':=by
 have hs0:=hs
 obtain ⟨u,rfl,A,c,rfl,hc,hm,hsl⟩:=hs
 have HS:=Lib.hid (And.intro hs0 hsl)
 unfold maxLen at hm
 clear hs0 hsl
 cases h1:inB x.size 1 8
 ·have HO:Hid (tourB x=false):=tourB_size h1
  go_enter Tryz.func148,Tryz.ntmps148
  go_wp2_with fail
  go_quiet ((go_at_call 147;exact quiet_left (within_any _ _ _ _)))
  go_wp2
  go_ret
  exact ⟨ret_bool (by rw [HO.out]),below_drewN ((Below.refl _ w).alloc (Nat.le_refl _) _) _⟩
 ·by_cases h2:(x.wins.length:Int)=x.size
  ·obtain ⟨hs1,hs2⟩:=inB_t.1 h1
   obtain ⟨sz,xs⟩:=x
   simp only at h1 h2 hs1 hs2 HS hc
   subst h2
   have hn8:xs.length≤8:=by omega
   have htw:IntKind.i64.wrap (IntKind.i64.wrap (2^xs.length)-1)=(2:Int)^xs.length-1:=two_subN ⟨xs.length,by omega⟩
   have HTW:=Lib.hid htw
   clear htw
   cases h3:winsB xs.length xs
   ·have HO:Hid (tourB ⟨(xs.length:Int),xs⟩=false):=tourB_wins h3
    go_enter Tryz.func148,Tryz.ntmps148
    go_wp2_with fail
    go_region_held3 (fun W=>W.cell? ⟨w.heap.size,0,none⟩=some (.int .i64 xs.length)∧W.cell? ⟨w.heap.size,1,none⟩=some (.slice A xs.length c)) (first|go_keep|exact ⟨q0,q1⟩) (first
     | (go_at_call 147;refine (within_any _ _ _ _).mono ?_;rintro e w' ⟨rfl,rfl⟩;rw [h1])
     | (go_at_call 239;rw [HTW.out];refine (allWithin_any A c xs 0 _ _ (SlI.drew (SlI.alloc HS.out.2 _)) (by omega)).mono ?_;rintro e w2 ⟨rfl,hb2⟩;rw [show (xs.all fun y=>inB y 0 (2^xs.length-1))=false from h3];have q0:w2.cell? ⟨w.heap.size,0,none⟩=some (.int .i64 xs.length):=(hb2.cell (p:=⟨w.heap.size,0,none⟩) (by simp [World.drew])).trans (by simp [go_sem]);have q1:w2.cell? ⟨w.heap.size,1,none⟩=some (.slice A xs.length c):=(hb2.cell (p:=⟨w.heap.size,1,none⟩) (by simp [World.drew])).trans (by simp [go_sem]);have HB:=Lib.hid (tk_below hb2);clear hb2))
    go_wp2
    go_ret
    exact ⟨ret_bool (by rw [HO.out]),HB.out.1⟩
   ·have HO:Hid (tourB ⟨(xs.length:Int),xs⟩=(List.range xs.length).all (rowB xs)):=tourB_go h1 rfl h3
    have HV:=Lib.hid h3
    go_enter Tryz.func148,Tryz.ntmps148
    go_wp2_with fail
    go_region_held3 (fun W=>W.cell? ⟨w.heap.size,0,none⟩=some (.int .i64 xs.length)∧W.cell? ⟨w.heap.size,1,none⟩=some (.slice A xs.length c)) (first|go_keep|exact ⟨q0,q1⟩) (first
     | (go_at_call 147;refine (within_any _ _ _ _).mono ?_;rintro e w' ⟨rfl,rfl⟩;rw [h1])
     | (go_at_call 239;rw [HTW.out];refine (allWithin_any A c xs 0 _ _ (SlI.drew (SlI.alloc HS.out.2 _)) (by omega)).mono ?_;rintro e w2 ⟨rfl,hb2⟩;rw [show (xs.all fun y=>inB y 0 (2^xs.length-1))=true from h3];have q0:w2.cell? ⟨w.heap.size,0,none⟩=some (.int .i64 xs.length):=(hb2.cell (p:=⟨w.heap.size,0,none⟩) (by simp [World.drew])).trans (by simp [go_sem]);have q1:w2.cell? ⟨w.heap.size,1,none⟩=some (.slice A xs.length c):=(hb2.cell (p:=⟨w.heap.size,1,none⟩) (by simp [World.drew])).trans (by simp [go_sem]);have HB:=Lib.hid (tk_below hb2);clear hb2))
    clear h3 h1
    have HB2:Hid (Bx w2 w.heap.size (.int .i64 xs.length) (.slice A xs.length c)∧Below w.heap.size w w2):=⟨⟨q0,q1,HB.out.2⟩,HB.out.1⟩
    go_wp2_with fail
    clear q0 q1 HB
    go_loopw [29] (fun i wr=>∃a:Nat,a≤xs.length∧i=.int .i64 a∧Hid (∀a',a'<a→rowB xs a'=true)∧Hid (Bx wr w.heap.size (.int .i64 xs.length) (.slice A xs.length c)∧Below w.heap.size w wr)) (fun i _=>xs.length-(intOf i).toNat)
    case atStart=>exact ⟨0,Nat.zero_le _,rfl,fun a' h=>absurd h (Nat.not_lt_zero _),HB2⟩
    case round=>
     obtain ⟨a,ha,rfl,HA,HR⟩:=hrel
     obtain ⟨wo,rfl⟩:∃W,W=wr:=⟨wr,rfl⟩
     clear HB2
     by_cases hlt:a<xs.length
     ·go_wp2_with fail
      go_loopw [33] (fun i wr=>∃b:Nat,b≤a∧i=.int .i64 b∧Hid (∀b',b'<b→bt xs a b'≠bt xs b' a)∧Hid (Bx wr w.heap.size (.int .i64 xs.length) (.slice A xs.length c)∧Below w.heap.size w wr)) (fun i _=>a-(intOf i).toNat)
      case atStart=>exact ⟨0,Nat.zero_le _,rfl,fun b' h=>absurd h (Nat.not_lt_zero _),HR⟩
      case round=>
       obtain ⟨b,hb,rfl,HBB,HR2⟩:=hrel
       clear HR
       obtain ⟨⟨q0,q1,q2⟩,-⟩:=id HR2.out
       have HI:Hid (InT wr (.agg #[.int .i64 xs.length,.slice A xs.length c]) ⟨(xs.length:Int),xs⟩):=HS.out.1.below HR2.out.2
       by_cases hlt2:b<a
       ·have tok1:True:=trivial
        have tok2:True:=trivial
        cases hab:bt xs a b<;>cases hba:bt xs b a
        all_goals
         have HAB:=Lib.hid (And.intro hab hba)
         clear hab hba
         go_upto_region 9 with (fail)
         go_region_held3 (fun W=>W.cell? ⟨w.heap.size,0,none⟩=some (.int .i64 xs.length)∧W.cell? ⟨w.heap.size,1,none⟩=some (.slice A xs.length c)) (first|exact ⟨q0,q1⟩) (first
          | (go_at_call 150;clear tok1;refine (implBeats_any _ ⟨(xs.length:Int),xs⟩ a b wr.drew HI.out hn8 HV.out hlt (by omega)).mono ?_;rintro e w3 ⟨rfl,hb3⟩;dsimp only;rw [HAB.out.1];have HR3:Hid (Bx w3 w.heap.size (.int .i64 xs.length) (.slice A xs.length c)∧Below w.heap.size w w3∧InT w3 (.agg #[.int .i64 xs.length,.slice A xs.length c]) ⟨(xs.length:Int),xs⟩):=⟨HR2.out.1.drew.below hb3,(below_drewL HR2.out.2).trans (hb3.mono HR2.out.2.size),HS.out.1.below ((below_drewL HR2.out.2).trans (hb3.mono HR2.out.2.size))⟩;clear hb3 q0 q1;obtain ⟨⟨q0,q1,-⟩,-⟩:=id HR3.out)
          | (go_at_call 150;clear tok2;refine (implBeats_any _ ⟨(xs.length:Int),xs⟩ b a w3 HR3.out.2.2 hn8 HV.out (by show b<xs.length;omega) (by omega)).mono ?_;rintro e w4 ⟨rfl,hb4⟩;dsimp only;rw [HAB.out.2];have HR4:Hid (Bx w4 w.heap.size (.int .i64 xs.length) (.slice A xs.length c)∧Below w.heap.size w w4):=⟨HR3.out.1.below hb4,HR3.out.2.1.trans (hb4.mono HR3.out.2.1.size)⟩;clear hb4 q0 q1;obtain ⟨⟨q0,q1,-⟩,-⟩:=id HR4.out))
        ·go_wp2
         go_ret
         exact ⟨ret_bool (by rw [HO.out];exact (rows_hit hlt (rowB_hit hlt2 (by rw [HAB.out.1,HAB.out.2]))).symm),HR4.out.2⟩
        ·have HN:Hid (∀b',b'<b+1→bt xs a b'≠bt xs b' a):=by
          intro b' h
          rcases Nat.eq_or_lt_of_le (Nat.le_of_lt_succ h) with rfl|h
          ·rw [HAB.out.1,HAB.out.2];decide
          ·exact HBB.out b' h
         go_wp2
         go_roundw
         all_goals first|exact ⟨b+1,by omega,by go_num,HN,HR4⟩|(simp [intOf];try omega)
        ·have HN:Hid (∀b',b'<b+1→bt xs a b'≠bt xs b' a):=by
          intro b' h
          rcases Nat.eq_or_lt_of_le (Nat.le_of_lt_succ h) with rfl|h
          ·rw [HAB.out.1,HAB.out.2];decide
          ·exact HBB.out b' h
         go_wp2
         go_roundw
         all_goals first|exact ⟨b+1,by omega,by go_num,HN,HR4⟩|(simp [intOf];try omega)
        ·go_wp2
         go_ret
         exact ⟨ret_bool (by rw [HO.out];exact (rows_hit hlt (rowB_hit hlt2 (by rw [HAB.out.1,HAB.out.2]))).symm),HR4.out.2⟩
       ·obtain rfl:b=a:=by omega
        cases haa:bt xs b b
        all_goals
         have HAA:=Lib.hid haa
         clear haa
         go_wp2_with (go_at_call 150;refine (implBeats_any _ ⟨(xs.length:Int),xs⟩ b b wr HI.out hn8 HV.out hlt (by omega)).mono ?_;rintro e w3 ⟨rfl,hb3⟩;dsimp only;rw [HAA.out];have HR3:Hid (Bx w3 w.heap.size (.int .i64 xs.length) (.slice A xs.length c)∧Below w.heap.size w w3):=⟨HR2.out.1.below hb3,HR2.out.2.trans (hb3.mono HR2.out.2.size)⟩;clear hb3 q0 q1)
        ·have HN:Hid (∀a',a'<b+1→rowB xs a'=true):=by
          intro a' h
          rcases Nat.eq_or_lt_of_le (Nat.le_of_lt_succ h) with rfl|h
          ·exact rowB_all HBB.out HAA.out
          ·exact HA.out a' h
         go_roundw
         all_goals first|exact ⟨b+1,by omega,by go_num,HN,HR3⟩|(simp [intOf];try omega)
        ·go_ret
         exact ⟨ret_bool (by rw [HO.out];exact (rows_hit hlt (rowB_self HAA.out)).symm),HR3.out.2⟩
     ·obtain rfl:a=xs.length:=by omega
      go_wp2
      go_ret
      exact ⟨ret_bool (by rw [HO.out];exact (rows_all HA.out).symm),HR.out.2⟩
  ·have HO:Hid (tourB x=false):=tourB_len h2
   have h2':((x.wins.length:Int)==x.size)=false:=by simpa using h2
   have h2'':((x.wins.length:Int) != x.size)=true:=by simpa using h2
   go_enter Tryz.func148,Tryz.ntmps148
   go_wp2_with fail
   go_quiet ((go_at_call 147;exact quiet_left (within_any _ _ _ _)))
   go_wp2
   go_ret
   exact ⟨ret_bool (by rw [HO.out]),below_drewN ((Below.refl _ w).alloc (Nat.le_refl _) _) _⟩
theorem SlI.drop_ {w:World}{b off:Nat}{xs:List Int} (h:SlI w (some ⟨b,off,none⟩) xs) (k:Nat):SlI w (some ⟨b,off+k,none⟩) (xs.drop k):=by
 rcases h with rfl|⟨b',off',he,h⟩
 ·exact .inl (by simp)
 ·injection he with he;injection he with h1 h2;subst h1;subst h2
  refine .inr ⟨b,off+k,rfl,fun i x hx=>?_⟩
  rw [List.getElem?_drop] at hx
  have:=h _ _ hx
  rw [show off+k+i=off+(k+i) from by omega];exact this
theorem SlI.take_ {w:World}{A:Option Addr}{xs:List Int} (h:SlI w A xs) (k:Nat):SlI w A (xs.take k):=by
 rcases h with rfl|⟨b',off',rfl,h⟩
 ·exact .inl (by simp)
 ·refine .inr ⟨b',off',rfl,fun i x hx=>?_⟩
  rw [List.getElem?_take] at hx
  split at hx
  ·exact h _ _ hx
  ·cases hx
def memT (s k:Nat):List Int:=((List.range k).filter (fun a=>s.testBit a)).map (fun (a:Nat)=>(a:Int))
def memL (s:Nat):List Int:=memT s 8
def cntT (s k:Nat):Nat:=((List.range k).filter (fun a=>s.testBit a)).length
def cntL (s:Nat):Nat:=cntT s 8
theorem memT_zero (s:Nat):memT s 0 = []:=rfl
theorem memT_in {s k:Nat} (h:s.testBit k=true):memT s (k+1)=memT s k++[(k:Int)]:=by simp [memT,List.range_succ,h]
theorem memT_out {s k:Nat} (h:s.testBit k=false):memT s (k+1)=memT s k:=by simp [memT,List.range_succ,h]
theorem memT_len (s k:Nat):(memT s k).length=cntT s k:=by simp [memT,cntT]
theorem memL_len (s:Nat):(memL s).length=cntL s:=memT_len s 8
theorem cntT_le (s k:Nat):cntT s k≤k:=by
 unfold cntT
 have:=List.length_filter_le (fun a=>s.testBit a) (List.range k)
 rw [List.length_range] at this;exact this
theorem cntL_le (s:Nat):cntL s≤8:=cntT_le s 8
theorem memT_mem {s k:Nat}{x:Int}:x∈memT s k↔∃a:Nat,x=(a:Int)∧a<k∧s.testBit a=true:=by
 simp only [memT,List.mem_map,List.mem_filter,List.mem_range]
 constructor
 ·rintro ⟨a,⟨h1,h2⟩,rfl⟩;exact ⟨a,rfl,h1,h2⟩
 ·rintro ⟨a,rfl,h1,h2⟩;exact ⟨a,⟨h1,h2⟩,rfl⟩
theorem bit_hi {s a:Nat} (hs:s<256) (ha:8≤a):s.testBit a=false:=by
 apply Nat.testBit_lt_two_pow
 have:2^8≤2^a:=Nat.pow_le_pow_right (by omega) ha
 omega
theorem memT_stop {s k:Nat} (hs:s/2^k=0):∀m,memT s (k+m)=memT s k:=by
 intro m
 induction m with
 | zero=>rfl
 | succ m ih=>
  rw [←Nat.add_assoc,memT_out,ih]
  have hp:0<2^k:=Nat.pow_pos (by omega)
  have h1:s<2^k:=by
   rcases Nat.lt_or_ge s (2^k) with h|h
   ·exact h
   ·have:=Nat.div_pos h hp;omega
  apply Nat.testBit_lt_two_pow
  have:2^k≤2^(k+m):=Nat.pow_le_pow_right (by omega) (by omega)
  omega
theorem memT_done {s k:Nat} (h8:k≤8) (hs:s/2^k=0):memT s k=memL s:=by
 have:=memT_stop hs (8-k)
 rw [show k+(8-k)=8 by omega] at this
 exact this.symm
theorem div_stop {s:Nat} (hs:s<256):s/2^8=0:=Nat.div_eq_of_lt (by omega)
theorem bit_one (s a:Nat):s/2^a%2=if s.testBit a then 1 else 0:=by
 rw [Nat.testBit_eq_decide_div_mod_eq]
 by_cases h:s/2^a%2=1
 ·simp [h]
 ·simp only [h,decide_false];simp;omega
theorem and_one:∀s:Fin 256,bits BinOp.and IntKind.i64 (s.val:Int) 1=((s.val%2:Nat):Int):=by decide +kernel
theorem and_low {s:Nat} (hs:s<256):bits BinOp.and IntKind.i64 (s:Int) 1=((s%2:Nat):Int):=and_one ⟨s,hs⟩
theorem and_at {s:Nat} (hs:s<256) (a:Nat):bits BinOp.and IntKind.i64 ((s/2^a:Nat):Int) 1=if s.testBit a then 1 else 0:=by
 rw [and_low (Nat.lt_of_le_of_lt (Nat.div_le_self _ _) hs),bit_one]
 split<;>rfl
theorem bits_low {s k:Nat} (hs:s<256):bits BinOp.and IntKind.i64 ((s:Int)/2^k) 1=if s.testBit k then 1 else 0:=by
 have h:=and_at hs k
 rwa [Int.natCast_ediv,Int.natCast_pow] at h
theorem membersOf_any (s:Nat) (w:World) (hs:s<256):
  Calls Tryz.prog 153 #[.int .i64 (s:Int)] w fun e w'=>∃v',e=.returned v'∧Fr w' w.heap.size w'.heap.size v' (memL s)∧Below w.heap.size w w':=by
 have HS:=Lib.hid hs
 clear hs
 go_enter Tryz.func153,Tryz.ntmps153
 go_wp2
 go_loopw [3,4] (fun v i wr=>∃(k:Nat) (vv:Value),k≤8∧i=.int .i64 k∧vv=v∧Hid (Fr wr w.heap.size wr.heap.size vv (memT s k)∧Below w.heap.size w wr)) (fun _ i _=>8-(intOf i).toNat)
 case atStart=>exact ⟨0,_,by omega,rfl,rfl,Fr.nil _ (Nat.le_refl _),Below.refl _ _⟩
 case round=>
  obtain ⟨k,vv,hk,rfl,rfl,HR⟩:=hrel
  have hb:=bits_low (k:=k) HS.out
  have hD:(s:Int)/2^k=((s/2^k:Nat):Int):=by rw [Int.natCast_ediv,Int.natCast_pow];rfl
  rw [hD] at hb
  have HD:=Lib.hid hD
  obtain ⟨D,HDe⟩:∃D:Nat,Hid (s/2^k=D):=⟨_,rfl⟩
  rw [HDe.out] at hD hb
  by_cases hz:D=0
  ·have HE:Hid (memT s k=memL s):=memT_done hk (by rw [HDe.out];exact hz)
   have hz':¬(0:Int)<(D:Int):=by omega
   clear hb hz
   go_wp2
   go_ret
   exact ⟨_,rfl,by rw [←HE.out];exact HR.out.1,HR.out.2⟩
  ·have hz':(0:Int)<(D:Int):=by omega
   have hk8:k<8:=by
    rcases Nat.lt_or_ge k 8 with h|h
    ·exact h
    ·obtain rfl:k=8:=by omega
     exact absurd (HDe.out.symm.trans (div_stop HS.out)) hz
   have HL:Hid ((memT s k).length≤1048576):=by show _≤_;rw [memT_len];have:=cntT_le s k;omega
   clear hz
   cases ht:s.testBit k
   ·rw [ht] at hb
    simp only [Bool.false_eq_true,if_false] at hb
    have HN:Hid (memT s (k+1)=memT s k):=memT_out ht
    clear ht
    go_wp2
    go_roundw
    case rel=>exact ⟨k+1,_,by omega,by go_num,rfl,by rw [HN.out];exact HR.out⟩
    case measure=>simp [intOf];omega
   ·rw [ht] at hb
    simp only [if_true] at hb
    have HN:Hid (memT s (k+1)=memT s k++[(k:Int)]):=memT_in ht
    clear ht
    go_wp2_with (at_builtin;refine app1 rfl _ _ rfl wr w.heap.size vv (memT s k).length (memT s k) rfl HR.out.1.1 (k:Int) rfl HL.out HR.out.2.size ?_;intro v2 w2 hown hb2 _ _;have H2:Hid (Fr w2 w.heap.size w2.heap.size v2 (memT s (k+1))∧Below w.heap.size w w2):=⟨by rw [HN.out];exact Fr.of_own (by simpa using hown),HR.out.2.trans (hb2 _ (Nat.le_refl _) HR.out.2.size)⟩;clear hown hb2)
    go_roundw
    case rel=>exact ⟨k+1,_,by omega,by go_num,rfl,H2.out⟩
    case measure=>simp [intOf];omega
def pop1 (s:Nat):Nat:=(s/2) &&& 85
def pop2 (s:Nat):Nat:=s &&& 85
def pop3 (s:Nat):Nat:=((pop1 s+pop2 s)/4) &&& 51
def pop4 (s:Nat):Nat:=(pop1 s+pop2 s) &&& 51
def pop5 (s:Nat):Nat:=((pop3 s+pop4 s)/16+(pop3 s+pop4 s)) &&& 15
structure PopOk (s:Nat):Prop where
 h1:bits BinOp.and IntKind.u64 ((s:Int)/2) 6148914691236517205=(pop1 s:Nat)
 h2:bits BinOp.and IntKind.u64 (s:Int) 6148914691236517205=(pop2 s:Nat)
 b1:pop1 s≤85
 b2:pop2 s≤85
 h3:bits BinOp.and IntKind.u64 (((pop1 s:Nat)+(pop2 s:Nat):Int)/4) 3689348814741910323=(pop3 s:Nat)
 h4:bits BinOp.and IntKind.u64 ((pop1 s:Nat)+(pop2 s:Nat):Int) 3689348814741910323=(pop4 s:Nat)
 b3:pop3 s≤51
 b4:pop4 s≤51
 h5:bits BinOp.and IntKind.u64 (((pop3 s:Nat)+(pop4 s:Nat):Int)/16+((pop3 s:Nat)+(pop4 s:Nat))) 1085102592571150095=(pop5 s:Nat)
 b5:pop5 s≤15
 h6:bits BinOp.and IntKind.i64 ((pop5 s:Nat):Int) 127=(cntL s:Nat)
theorem pop_all:∀s:Fin 256,
  (bits BinOp.and IntKind.u64 ((s.val:Int)/2) 6148914691236517205=(pop1 s.val:Nat)∧bits BinOp.and IntKind.u64 (s.val:Int) 6148914691236517205=(pop2 s.val:Nat)∧pop1 s.val≤85∧pop2 s.val≤85) ∧
  (bits BinOp.and IntKind.u64 (((pop1 s.val:Nat)+(pop2 s.val:Nat):Int)/4) 3689348814741910323=(pop3 s.val:Nat)∧bits BinOp.and IntKind.u64 ((pop1 s.val:Nat)+(pop2 s.val:Nat):Int) 3689348814741910323=(pop4 s.val:Nat)∧pop3 s.val≤51∧pop4 s.val≤51) ∧
  (bits BinOp.and IntKind.u64 (((pop3 s.val:Nat)+(pop4 s.val:Nat):Int)/16+((pop3 s.val:Nat)+(pop4 s.val:Nat))) 1085102592571150095=(pop5 s.val:Nat)∧pop5 s.val≤15∧bits BinOp.and IntKind.i64 ((pop5 s.val:Nat):Int) 127=(cntL s.val:Nat)):=by decide +kernel
theorem pop_ok {s:Nat} (hs:s<256):PopOk s:=by
 obtain ⟨⟨a1,a2,a3,a4⟩,⟨a5,a6,a7,a8⟩,a9,a10,a11⟩:=pop_all ⟨s,hs⟩
 exact ⟨a1,a2,a3,a4,a5,a6,a7,a8,a9,a10,a11⟩
theorem onesCount64_any (s:Nat) (w:World) (hs:s<256):
  Calls Tryz.prog 329 #[.int .u64 (s:Int)] w fun e w'=>e=.returned (.int .i64 (cntL s:Nat))∧w=w':=by
 obtain ⟨h1,h2,b1,b2,h3,h4,b3,b4,h5,b5,h6⟩:=pop_ok hs
 generalize pop1 s=p1 at *
 generalize pop2 s=p2 at *
 generalize pop3 s=p3 at *
 generalize pop4 s=p4 at *
 generalize pop5 s=p5 at *
 generalize cntL s=C at *
 have e1:IntKind.u64.wrap ((p1:Int)+p2)=(p1:Int)+p2:=by rw [IntKind.wrap_u64];omega
 go_enter Tryz.func329,Tryz.ntmps329
 go_wp2
 go_ret
 have e2:(p5:Int)+p5/256+((p5:Int)+p5/256)/65536+((p5:Int)+p5/256+((p5:Int)+p5/256)/65536)/4294967296=p5:=by omega
 exact ⟨ret_int (by rw [e2];exact h6),rfl⟩
theorem onesCount_any (s:Nat) (w:World) (hs:s<256):
  Calls Tryz.prog 249 #[.int .u64 (s:Int)] w fun e w'=>e=.returned (.int .i64 (cntL s:Nat))∧w=w':=by
 have HC:=Lib.hid (fun W=>onesCount64_any s W hs)
 go_enter Tryz.func249,Tryz.ntmps249
 go_wp2_with (go_at_call 329;refine (HC.out _).mono ?_;rintro e w' ⟨rfl,rfl⟩)
 go_ret
 exact ⟨rfl,rfl⟩
end Go.Proofs.YtkapoldjcpfdgaaGreatDoor
namespace Go.Proofs.YtkapoldjcpfdgaaGreatDoor
open Go.ChangeShapes Go.WideShapes Go.ChangeAt Go.RowKit Go.Deep
theorem OwT.wide {w:World}{lo hi lo' hi':Nat}{v:Value}{x:TourV} (h:OwT w lo hi v x) (h1:lo'≤lo) (h2:hi≤hi') (h3:hi'≤w.heap.size):OwT w lo' hi' v x:=by
 obtain ⟨u,rfl,hf⟩:=h
 exact ⟨u,rfl,hf.wide h1 h2 h3⟩
end Go.Proofs.YtkapoldjcpfdgaaGreatDoor
namespace Go.Proofs.YtkapoldjcpfdgaaGreatDoor
open Go.ChangeShapes Go.WideShapes Go.ChangeAt Go.RowKit
def lossN (n w a:Nat):Nat:=2^n-1-w-2^a
theorem loss_all:∀n:Fin 9,∀a:Fin 8,∀w:Fin 256,a.val<n.val→w.val<2^n.val→w.val.testBit a.val=false →
  w.val+2^a.val+1≤2^n.val∧∀b:Fin 8,(lossN n.val w.val a.val).testBit b.val=(decide (b.val<n.val) && (!w.val.testBit b.val && b.val != a.val)):=by decide +kernel
theorem loss_ok {n a w:Nat} (hn:n≤8) (ha:a<n) (hw:w<2^n) (hb:w.testBit a=false):
  w+2^a+1≤2^n∧∀b,b<8→(lossN n w a).testBit b=(decide (b<n) && (!w.testBit b && b != a)):=by
 have h8:(2:Nat)^n≤256:=Nat.pow_le_pow_right (by omega) hn
 have h:=loss_all ⟨n,by omega⟩ ⟨a,by omega⟩ ⟨w,by omega⟩ ha hw hb
 exact ⟨h.1,fun b hb8=>h.2 ⟨b,hb8⟩⟩
theorem i64_small (n:Int) (h₀:0≤n) (h₁:n<2^8):IntKind.i64.wrap n=n:=by rw [IntKind.wrap_i64];omega
theorem and_small {a b:Nat} (ha:a<256) (hb:b<256):bits BinOp.and IntKind.i64 (a:Int) (b:Int)=((a &&& b:Nat):Int):=(bits_nat .i64 8 (by decide) i64_small a b ha hb).1
theorem andNot_small {s w:Nat} (hs:s<256) (_hw:w<256):bits BinOp.andNot IntKind.i64 (s:Int) (w:Int)=((s &&& (255 ^^^ w):Nat):Int):=by
 have h1:(BitVec.ofInt 64 (s:Int) &&& ~~~BitVec.ofInt 64 (w:Int)).toNat=s &&& (255 ^^^ w):=by
  apply Nat.eq_of_testBit_eq
  intro i
  have e:(BitVec.ofInt 64 (s:Int) &&& ~~~BitVec.ofInt 64 (w:Int)).toNat.testBit i=(BitVec.ofInt 64 (s:Int) &&& ~~~BitVec.ofInt 64 (w:Int)).getLsbD i:=rfl
  rw [e,BitVec.getLsbD_and,BitVec.getLsbD_not,BitVec.ofInt_natCast,BitVec.ofInt_natCast,BitVec.getLsbD_ofNat,BitVec.getLsbD_ofNat,Nat.testBit_and,Nat.testBit_xor]
  by_cases hi:i<8
  ·have h255:∀i:Fin 8,(255:Nat).testBit i.val=true:=by decide
   rw [h255 ⟨i,hi⟩]
   have:i<64:=by omega
   simp [this]
  ·rw [bit_hi hs (by omega)];simp
 show IntKind.i64.wrap ((BitVec.ofInt 64 (s:Int) &&& ~~~BitVec.ofInt 64 (w:Int)).toNat:Int)=_
 rw [h1]
 have h2:s &&& (255 ^^^ w)≤s:=Nat.and_le_left
 rw [IntKind.wrap_i64];omega
def winN (x:TourV) (a:Nat):Nat:=(x.wins.getD a 0).toNat
theorem win_at {w:World}{A:Option Addr}{x:TourV} (hok:tourB x=true) {a:Nat} (hs:SlI w A x.wins) (ha:a<x.wins.length):
  ∃b off,A=some ⟨b,off,none⟩∧w.cell? ⟨b,off+a,none⟩=some (.int .i64 (winN x a:Nat))∧b<w.heap.size∧winN x a<2^x.wins.length∧(winN x a).testBit a=false:=by
 obtain ⟨h1,h2,h3,h4,h5⟩:=tourB_t hok
 obtain ⟨b,off,y,rfl,hy,c1,hlt⟩:=hs.at_ ha
 have hin:=inB_t.1 (List.all_eq_true.1 h4 y (List.mem_of_getElem? hy))
 have e:winN x a=y.toNat:=by rw [winN,List.getD_eq_getElem?_getD,hy];rfl
 have hirr:=tourB_irr hok ha
 rw [bt,List.getD_eq_getElem?_getD,hy] at hirr
 refine ⟨b,off,rfl,by rw [e,Int.toNat_of_nonneg hin.1];exact c1,hlt,?_,by rw [e];exact hirr⟩
 have h6:(2:Int)^x.wins.length=((2^x.wins.length:Nat):Int):=by rw [Int.natCast_pow];rfl
 rw [h6] at hin
 rw [e]
 omega
theorem losses_any (v:Value) (x:TourV) (a:Nat) (w:World) (hs:InT w v x) (hok:tourB x=true) (ha:a<x.wins.length):
  Calls Tryz.prog 250 #[v,.int .i64 (a:Int)] w fun e w'=>e=.returned (.int .i64 (lossN x.wins.length (winN x a) a:Nat))∧Below w.heap.size w w':=by
 obtain ⟨u,rfl,A,c,rfl,hc,hm,hsl⟩:=hs
 obtain ⟨t1,t2,t3,_,_⟩:=tourB_t hok
 obtain ⟨b,off,rfl,qc,hlt,hw2,hwb⟩:=win_at hok hsl ha
 have hn8:x.wins.length≤8:=by omega
 have hl:=(loss_ok hn8 ha hw2 hwb).1
 have h256:(2:Nat)^x.wins.length≤256:=Nat.pow_le_pow_right (by omega) hn8
 obtain ⟨sz,xs⟩:=x
 simp only at *
 subst t3
 generalize winN ⟨(xs.length:Int),xs⟩ a=W at *
 have hT2:(2:Int)^xs.length=((2^xs.length:Nat):Int):=by rw [Int.natCast_pow];rfl
 have hQ2:(2:Int)^a=((2^a:Nat):Int):=by rw [Int.natCast_pow];rfl
 obtain ⟨T,HT⟩:∃T:Nat,Hid (2^xs.length=T):=⟨_,rfl⟩
 obtain ⟨Q,HQ⟩:∃Q:Nat,Hid (2^a=Q):=⟨_,rfl⟩
 rw [HT.out] at hl h256 hT2
 rw [HQ.out] at hl hQ2
 have HL:Hid (((lossN xs.length W a:Nat):Int)=(T:Int)-1-W-Q):=by
  show _=_
  rw [lossN,HT.out,HQ.out];omega
 have hal:(a:Int)<xs.length:=by omega
 have e1:IntKind.i64.wrap (T:Int)=T:=by rw [IntKind.wrap_i64];omega
 have e2:IntKind.i64.wrap ((T:Int)-1)=T-1:=by rw [IntKind.wrap_i64];omega
 have e3:IntKind.i64.wrap ((T:Int)-1-W)=T-1-W:=by rw [IntKind.wrap_i64];omega
 have e4:IntKind.i64.wrap (Q:Int)=Q:=by rw [IntKind.wrap_i64];omega
 have e5:IntKind.i64.wrap ((T:Int)-1-W-Q)=T-1-W-Q:=by rw [IntKind.wrap_i64];omega
 have hne:¬b=w.heap.size:=by omega
 clear hsl hwb
 go_enter Tryz.func250,Tryz.ntmps250
 go_wp2_with fail
 go_quiet (fail)
 go_wp2
 go_ret
 exact ⟨ret_int HL.out.symm,below_drewN ((Below.refl _ w).alloc (Nat.le_refl _) _) _⟩
def costN (x:TourV) (a s:Nat):Nat:=cntL (s &&& lossN x.wins.length (winN x a) a)
theorem firstCost_any (v:Value) (x:TourV) (a s:Nat) (w:World) (hs:InT w v x) (hok:tourB x=true) (ha:a<x.wins.length) (hs8:s<256):
  Calls Tryz.prog 166 #[v,.int .i64 (a:Int),.int .i64 (s:Int)] w fun e w'=>e=.returned (.int .i64 (costN x a s:Nat))∧Below w.heap.size w w':=by
 have HS:=Lib.hid hs
 obtain ⟨u,rfl,A,c,rfl,hc,hm,hsl⟩:=hs
 obtain ⟨t1,t2,t3,_,_⟩:=tourB_t hok
 have HB0:Hid (Below w.heap.size w (w.alloc (.cells #[.int .i64 x.size,.slice A x.wins.length c] 27))):=(Below.refl _ w).alloc (Nat.le_refl _) _
 have HLO:=Lib.hid (losses_any _ x a _ (HS.out.below HB0.out) hok ha)
 have hl256:lossN x.wins.length (winN x a) a<256:=by
  have hn8:x.wins.length≤8:=by omega
  have h8:(2:Nat)^x.wins.length≤256:=Nat.pow_le_pow_right (by omega) hn8
  unfold lossN
  generalize 2^x.wins.length=T at *
  generalize 2^a=Q at *
  omega
 have hand:=and_small hs8 hl256
 have hc256:s &&& lossN x.wins.length (winN x a) a<256:=Nat.lt_of_le_of_lt Nat.and_le_left hs8
 have HCO:=Lib.hid (fun W=>onesCount_any _ W hc256)
 have HE:Hid (costN x a s=cntL (s &&& lossN x.wins.length (winN x a) a)):=rfl
 generalize lossN x.wins.length (winN x a) a=L at *
 obtain ⟨M,hM⟩:∃M,s &&& L=M:=⟨_,rfl⟩
 rw [hM] at hand hc256 HCO HE
 obtain ⟨C,hC⟩:∃C,cntL M=C:=⟨_,rfl⟩
 rw [hC] at HCO HE
 clear hM hC hsl hok
 go_enter Tryz.func166,Tryz.ntmps166
 go_wp2_with (first
  | (go_at_call 250;refine HLO.out.mono ?_;rintro e w1 ⟨rfl,hb⟩;have HB:=Lib.hid (HB0.out.trans (hb.mono (by simp)));clear hb)
  | (go_at_call 249;refine (HCO.out _).mono ?_;rintro e w' ⟨rfl,rfl⟩))
 go_ret
 exact ⟨by rw [HE.out];rfl,HB.out⟩
def plc (xs:List Int) (x:Int):Int:=idxF (fun y=>x==y) xs
theorem plc_bd (xs:List Int) (x:Int):-1≤plc xs x∧plc xs x<xs.length:=by
 unfold plc idxF
 cases h:xs.findIdx? (fun y=>x==y) with
 | none=>exact ⟨by decide,by show (-1:Int)<_;omega⟩
 | some k=>
  rw [List.findIdx?_eq_some_iff_getElem] at h
  obtain ⟨hk,_⟩:=h
  exact ⟨by show (-1:Int)≤(k:Int);omega,by show (k:Int)<_;omega⟩
theorem plc_ge (xs:List Int) (x:Int):decide (0≤plc xs x)=xs.contains x:=by
 unfold plc;rw [idxF_ge,Bool.eq_iff_iff];simp
theorem all_ne_of {xs:List Int}{k:Nat}{x y:Int} (h:(xs.take k).all (fun y=>!(x==y))=true) (hy:xs[k]? = some y) (he:(x==y)=false):(xs.take (k+1)).all (fun y=>!(x==y))=true:=
 all_take_snoc h hy (by rw [he];rfl)
theorem indexI_any (A:Option Addr) (c:Nat) (xs:List Int) (x:Int) (w:World) (hs:SlI w A xs) (hn:xs.length≤1048576):
  Calls Tryz.prog 248 #[.slice A xs.length c,.int .i64 x] w fun e w'=>e=.returned (.int .i64 (plc xs x))∧w=w':=by
 generalize hl:xs.length=n at *
 have HL:=Lib.hid hl
 clear hl
 go_enter Tryz.func248,Tryz.ntmps248
 go_wp2
 go_loop [8] (fun i=>∃j:Nat,j≤n∧i=.int .i64 j∧Hid ((xs.take j).all (fun y=>!(x==y))=true)) (fun i=>n-(intOf i).toNat)
 case atStart=>exact ⟨0,Nat.zero_le _,rfl,rfl⟩
 case round=>
  obtain ⟨j,hj,rfl,HT⟩:=hrel
  by_cases hlt:j<n
  ·obtain ⟨b,off,y,rfl,hx1,hx2,_⟩:=hs.at_ (k:=j) (by rw [HL.out];exact hlt)
   have HX:=Lib.hid hx1
   clear hx1 hs
   cases he:(x==y)
   ·have HE:=Lib.hid he
    go_wp2
    go_round
    case rel=>exact ⟨j+1,by omega,by go_num,all_ne_of HT.out HX.out HE.out⟩
    case measure=>simp [intOf];omega
   ·have HE:=Lib.hid he
    go_wp2
    go_ret
    exact ⟨ret_int (idxF_hit HT.out HX.out HE.out).symm,rfl⟩
  ·obtain rfl:j=n:=by omega
   go_wp2
   go_ret
   have h:=HT.out
   rw [List.take_of_length_le (by rw [HL.out];exact Nat.le_refl _)] at h
   exact ⟨ret_int (idxF_none h).symm,rfl⟩
theorem containsI_any (A:Option Addr) (c:Nat) (xs:List Int) (x:Int) (w:World) (hs:SlI w A xs) (hn:xs.length≤1048576):
  Calls Tryz.prog 253 #[.slice A xs.length c,.int .i64 x] w fun e w'=>e=.returned (.bool (xs.contains x))∧w=w':=by
 have HC:=Lib.hid (indexI_any A c xs x w hs hn)
 clear hs
 go_enter Tryz.func253,Tryz.ntmps253
 go_wp2_with fail
 refine HC.out.mono ?_
 rintro e w1 ⟨rfl,rfl⟩
 go_wp2
 go_ret
 exact ⟨ret_bool (plc_ge xs x),rfl⟩
def newAt (n:Nat) (xs:List Int) (k:Nat):Bool:=inB (xs.getD k 0) 0 ((n:Int)-1) && !(xs.take k).contains (xs.getD k 0)
def permB (xs:List Int):Bool:=(List.range xs.length).all (newAt xs.length xs)
theorem newAt_get {n:Nat}{xs:List Int}{k:Nat}{x:Int} (h:xs[k]? = some x):newAt n xs k=(inB x 0 ((n:Int)-1) && !(xs.take k).contains x):=by
 simp [newAt,List.getD_eq_getElem?_getD,h]
theorem permB_false {xs:List Int}{k:Nat}{x:Int} (h:xs[k]? = some x) (hb:(inB x 0 ((xs.length:Int)-1) && !(xs.take k).contains x)=false):permB xs=false:=by
 unfold permB
 rw [List.all_eq_false]
 have hk:k<xs.length:=by
  rcases Nat.lt_or_ge k xs.length with h' | h'
  ·exact h'
  ·rw [List.getElem?_eq_none h'] at h;cases h
 exact ⟨k,List.mem_range.2 hk,by rw [newAt_get h,hb];simp⟩
theorem permB_upto {xs:List Int} (h:∀k,k<xs.length→newAt xs.length xs k=true):permB xs=true:=by
 unfold permB;rw [List.all_eq_true];intro k hk;exact h k (List.mem_range.1 hk)
theorem permB_t {xs:List Int} (h:permB xs=true):(∀x∈xs,0≤x∧x<xs.length)∧xs.Nodup:=by
 unfold permB at h
 rw [List.all_eq_true] at h
 have hk:∀k (hk:k<xs.length),inB xs[k] 0 ((xs.length:Int)-1)=true∧xs[k] ∉ xs.take k:=by
  intro k hk
  have:=h k (List.mem_range.2 hk)
  rw [newAt_get (List.getElem?_eq_getElem hk)] at this
  simpa using this
 refine ⟨fun x hx=>?_,?_⟩
 ·obtain ⟨k,hk',rfl⟩:=List.getElem_of_mem hx
  have:=inB_t.1 (hk k hk').1
  omega
 ·rw [List.nodup_iff_pairwise_ne,List.pairwise_iff_getElem]
  intro i j hi hj hij he
  refine (hk j hj).2 ?_
  rw [←he,List.mem_take_iff_getElem]
  exact ⟨i,by omega,rfl⟩
theorem isOrder_any (A:Option Addr) (c:Nat) (xs:List Int) (w:World) (hs:SlI w A xs) (hn:xs.length≤1048576) (hc:xs.length≤c):
  Calls Tryz.prog 168 #[.slice A xs.length c] w fun e w'=>e=.returned (.bool (permB xs))∧w=w':=by
 generalize hl:xs.length=n at *
 have HL:=Lib.hid hl
 have HS:=Lib.hid hs
 clear hl
 go_enter Tryz.func168,Tryz.ntmps168
 go_wp2
 go_loop [7] (fun i=>∃j:Nat,j≤n∧i=.int .i64 j∧Hid (∀k,k<j→newAt n xs k=true)) (fun i=>n-(intOf i).toNat)
 case atStart=>exact ⟨0,Nat.zero_le _,rfl,fun k hk=>absurd hk (Nat.not_lt_zero _)⟩
 case round=>
  obtain ⟨j,hj,rfl,HT⟩:=hrel
  by_cases hlt:j<n
  ·obtain ⟨b,off,x,rfl,hx1,hx2,_⟩:=hs.at_ (k:=j) (by rw [HL.out];exact hlt)
   have HX:=Lib.hid hx1
   have HTK:Hid (SlI w (some ⟨b,off,none⟩) (xs.take j)∧(xs.take j).length=j):=by
    refine ⟨?_,by rw [List.length_take,HL.out];omega⟩
    rcases HS.out with rfl|⟨b',off',hA,h⟩
    ·exact .inl (by simp)
    ·refine .inr ⟨b',off',hA,fun k y hy=>?_⟩
     rw [List.getElem?_take] at hy
     split at hy
     ·exact h k y hy
     ·cases hy
   clear hx1 hs
   cases h1:inB x 0 ((n:Int)-1)
   ·go_wp2_with (go_at_call 147;refine (within_any _ _ _ _).mono ?_;rintro e w' ⟨rfl,rfl⟩)
    go_ret
    exact ⟨ret_bool (permB_false HX.out (by rw [HL.out,h1];rfl)).symm,rfl⟩
   ·go_wp2_with (go_at_call 147;refine (within_any _ _ _ _).mono ?_;rintro e w' ⟨rfl,rfl⟩)
    have hcc:=containsI_any (some ⟨b,off,none⟩) c (xs.take j) x w HTK.out.1 (by rw [HTK.out.2];omega)
    rw [HTK.out.2] at hcc
    refine hcc.mono ?_
    rintro e w1 ⟨rfl,rfl⟩
    cases h2:(xs.take j).contains x
    ·go_wp2
     go_round
     case rel=>
      refine ⟨j+1,by omega,by go_num,fun k hk=>?_⟩
      rcases Nat.lt_or_ge k j with hlt' | hge
      ·exact HT.out k hlt'
      ·obtain rfl:k=j:=by omega
       rw [newAt_get HX.out,h1,h2];rfl
     case measure=>simp [intOf];omega
    ·go_wp2
     go_ret
     exact ⟨ret_bool (permB_false HX.out (by rw [h2];simp)).symm,rfl⟩
  ·obtain rfl:j=n:=by omega
   go_wp2
   go_ret
   exact ⟨ret_bool (permB_upto (by rw [HL.out];exact HT.out)).symm,rfl⟩
theorem own_get {w:World}{lo g n c:Nat}{e:TypeId}{vs:List Value} (h:w.ownsRow lo e 1 (.slice (some ⟨g,0,none⟩) n c) n vs) {k:Nat} (hk:k<n) (u:Value):
  ∃x,vs[k]? = some x∧w.cell? ⟨g,k,none⟩=some x∧w.frozen? ⟨g,k,none⟩=false∧(w.setCell ⟨g,k,none⟩ u).ownsRow lo e 1 (.slice (some ⟨g,0,none⟩) n c) n (vs.set k u)∧Keep g (g+1) w (w.setCell ⟨g,k,none⟩ u):=by
 have hl:vs.length=n:=by simpa using h.1
 refine ⟨vs[k],List.getElem?_eq_getElem (by omega),?_,h.frozenAt k,(h.stored k u).1,(Keep.refl _ _ _).setCell (p:=⟨g,k,none⟩) (Nat.le_refl _) (Nat.lt_succ_self _) _⟩
 rw [h.cellAt k (by omega)];exact List.getElem?_eq_getElem (by omega)
end Go.Proofs.YtkapoldjcpfdgaaGreatDoor
